/- The statement WalkParts: a walk is its two descriptors, and the access by them. No conditions. -/
import Derived.Test.YtogoclcjkekplaaAwake08
import Derived.Test.YtogoclcjkekplaaRows
namespace Go.Proofs.Ytogoclcjkekplaa
open Go.RowKit Go.ChangeShapes Go.WideShapes Go.ChangeAt

theorem before_zero (va : Int) (wr : Bool) (h : (beforeF va wr).kind = 0) : beforeF va wr = Fa.zero := by
  unfold beforeF at *
  split at h
  · rename_i h1
    rw [if_pos h1]
    split at h
    · rename_i h2
      rw [if_pos h2]
    · simp at h
  · simp at h

/-- What a walk is made of. -/
theorem walk_parts (rd : Int → Int) (t va : Int) (wr : Bool) (hrd : ∀ k, U64 (rd k)) (r : Wk) (h : r = walkF rd t va wr) :
    throughF r.first r.last va wr = r.fault ∧ throughZ r.first r.last va wr = r.addr ∧ U64 r.first ∧ U64 r.last ∧
      ((r.reads = 0 ∧ r.first = 0 ∧ r.last = 0 ∧ (beforeF va wr).kind ≠ 0) ∨ (r.reads = 1 ∧ tableB r.first = false ∧ r.last = 0) ∨ (r.reads = 2 ∧ tableB r.first = true ∧ rd (secondZ r.first va) = r.last)) := by
  have h0 : U64 0 := ⟨by decide, by decide⟩
  subst h
  unfold walkF
  by_cases hk : (beforeF va wr).kind = 0
  · simp only [if_pos hk]
    cases ht : tableB (rd (entryZ t va 1))
    · simp only [Bool.false_eq_true, if_false]
      exact ⟨(by first | rfl | trivial), (by first | rfl | trivial), hrd _, h0, .inr (.inl ⟨(by first | rfl | trivial), (by first | exact ht | trivial), (by first | rfl | trivial)⟩)⟩
    · simp only [if_true]
      exact ⟨(by first | rfl | trivial), (by first | rfl | trivial), hrd _, hrd _, .inr (.inr ⟨(by first | rfl | trivial), (by first | exact ht | trivial), (by first | rfl | trivial)⟩)⟩
  · simp only [if_neg hk]
    refine ⟨?_, ?_, h0, h0, .inl ⟨(by first | rfl | trivial), (by first | rfl | trivial), (by first | rfl | trivial), hk⟩⟩
    · unfold throughF; rw [if_neg hk]
    · unfold throughZ; rw [if_neg hk]

theorem ffield0 (c0 c1 c2 : Value) (w : World) : (Instr.field 36 (.agg #[c0, c1, c2]) 0).run Try.prog w = .ok c0 w := by kernel_rfl

set_option maxRecDepth 100000 in
set_option maxHeartbeats 4000000 in
theorem walkParts_walk {w : World} (ao : Option Addr) (cap : Nat) (l : List (Int × Int)) (t va : Int) (wr : Bool) (hl : Atc w ao l) (_hc : ao = none → cap = 0) (hu : ∀ p ∈ l, U64 p.1 ∧ U64 p.2) (_ht : U64 t) (hva : U64 va) :
    Calls Try.prog 6 #[.slice ao l.length cap, .agg #[.int .u64 t, .int .u64 va, .bool wr]] w (RetB (.bool true) w) := by
  have HL := Lib.hid hl
  have HU := Lib.hid hu
  have HR : Hid (∀ k, U64 (readL l k)) := Lib.hid (read_u64 hu)
  have HV := Lib.hid hva
  obtain ⟨n, hn⟩ : ∃ n, n = l.length := ⟨_, rfl⟩
  have HN := Lib.hid hn
  rw [← hn]
  clear hl hu hva hn
  go_enter Try.func6, Try.ntmps6
  go_wp2_with fail
  refine (awake_any _).mono ?_
  rintro e w1 ⟨rfl, hb⟩
  have B1 : Below w.heap.size w w1 := Below.trans (by repeat' (first | with_reducible exact Below.refl _ _ | with_reducible assumption | with_reducible apply below_drewN | with_reducible apply Below.drew | with_reducible refine Below.setCell ?_ ?_ _ | with_reducible refine Below.alloc ?_ ?_ _ | omega | (simp; done) | (simp; omega))) (hb.mono (by first | omega | (simp; done) | (simp; omega)))
  have Bz1 := B1.size
  obtain ⟨k1, k2, k3, k4⟩ := keepB hb w.heap.size (by first | omega | (simp; done) | (simp; omega))
  clear hb
  go_wp2_with fail
  cases htr : tryB l
  · refine (memory_no ao n cap l _ htr (HL.out.below (by repeat' (first | with_reducible exact Below.refl _ _ | with_reducible assumption | with_reducible apply below_drewN | with_reducible apply Below.drew | with_reducible refine Below.setCell ?_ ?_ _ | with_reducible refine Below.alloc ?_ ?_ _ | omega | (simp; done) | (simp; omega)))) HN.out HU.out).mono ?_
    rintro e w2 ⟨ks, vs, rfl, hm, hb⟩
    have B2 : Below w1.heap.size w1 w2 := hb
    have Bz2 := hb.size
    obtain ⟨ao1, cap1, rfl⟩ := ownsRow_form hm.keys
    obtain ⟨ao2, cap2, rfl⟩ := ownsRow_form hm.vals
    clear hm hb htr
    go_wp2_with fail
    go_ret
    exact ⟨rfl, B1.trans (Below.mono (B := w1.heap.size) (by repeat' (first | with_reducible exact Below.refl _ _ | with_reducible assumption | with_reducible apply below_drewN | with_reducible apply Below.drew | with_reducible refine Below.setCell ?_ ?_ _ | with_reducible refine Below.alloc ?_ ?_ _ | omega | (simp; done) | (simp; omega))) Bz1)⟩
  · refine (memory_yes ao n cap l _ htr (HL.out.below (by repeat' (first | with_reducible exact Below.refl _ _ | with_reducible assumption | with_reducible apply below_drewN | with_reducible apply Below.drew | with_reducible refine Below.setCell ?_ ?_ _ | with_reducible refine Below.alloc ?_ ?_ _ | omega | (simp; done) | (simp; omega)))) HN.out HU.out).mono ?_
    have hlen := try_len htr
    have hcl := cellsL_len l
    have HS := Lib.hid (cellsL_sorted l)
    have HG : Hid (∀ k, U64 (getL (cellsL l) k)) := Lib.hid (by rw [cells_getL l]; exact HR.out)
    have hlL : (cellsL l).length ≤ 900 := by omega
    generalize cellsL l = L at HS HG hlL
    clear hlen hcl htr
    rintro e w2 ⟨ks, vs, rfl, hm, hb⟩
    have B2 : Below w1.heap.size w1 w2 := hb
    have Bz2 := hb.size
    obtain ⟨m1, m2, m3, m4⟩ := keepB hb w.heap.size k3
    have M1 := Lib.hid hm
    obtain ⟨ao1, cap1, rfl⟩ := ownsRow_form hm.keys
    obtain ⟨ao2, cap2, rfl⟩ := ownsRow_form hm.vals
    clear hm hb
    go_wp2_with fail
    obtain ⟨wz, hwz⟩ : ∃ wz, wz = w2.alloc (.cells #[.slice ao1 L.length cap1, .slice ao2 L.length cap2] 31) := ⟨_, rfl⟩
    have B3 : Below w2.heap.size w2 wz := by rw [hwz]; repeat' (first | with_reducible exact Below.refl _ _ | with_reducible assumption | with_reducible apply below_drewN | with_reducible apply Below.drew | with_reducible refine Below.setCell ?_ ?_ _ | with_reducible refine Below.alloc ?_ ?_ _ | omega | (simp; done) | (simp; omega))
    have hsz : wz.heap.size = w2.heap.size + 1 := by rw [hwz]; simp
    have h5 : wz.heap[w2.heap.size]? = some (.cells #[.slice ao1 L.length cap1, .slice ao2 L.length cap2] 31) := by rw [hwz]; (repeat (first | assumption | (refine heap_new _ _ _ ?_; simp; done) | refine heap_old _ _ _ _ ?_))
    rw [← hwz]
    clear hwz
    refine (walk_any _ _ L t va wr _ (M1.out.below B3) HS.out hlL HG.out HV.out).mono ?_
    obtain ⟨r, hr⟩ : ∃ r, r = walkF (getL L) t va wr := ⟨_, rfl⟩
    obtain ⟨p1, p2, p3, p4, p5⟩ := walk_parts _ t va wr HG.out r hr
    rw [← hr]
    clear hr
    obtain ⟨⟨fk, fl, fw⟩, ad, fi, la, re⟩ := r
    simp only at p1 p2 p3 p4 p5
    have P1 := Lib.hid p1
    have P2 := Lib.hid p2
    have P5 := Lib.hid p5
    clear p1 p2 p5
    rintro e w3 ⟨rfl, hb⟩
    simp only [walkV]
    have B4 : Below w2.heap.size w2 w3 := B3.trans (hb.mono (by omega))
    have Bz4 := B4.size
    have hs3 := hb.size
    have g5 := (hb.block w2.heap.size (by omega)).trans h5
    obtain ⟨i1, i2, i3, i4⟩ := keepB B4 w.heap.size m3
    clear hb h5
    go_wp2_with fail
    obtain ⟨x3, hx3⟩ : ∃ x3, x3 = w3.alloc (.cells #[.int .i64 fk, .int .i64 fl, .bool fw, .int .u64 ad, .int .u64 fi, .int .u64 la, .int .i64 re] 38) := ⟨_, rfl⟩
    have hsx : x3.heap.size = w3.heap.size + 1 := by rw [hx3]; simp
    have BX : Below w3.heap.size w3 x3 := by rw [hx3]; repeat' (first | with_reducible exact Below.refl _ _ | with_reducible assumption | with_reducible apply below_drewN | with_reducible apply Below.drew | with_reducible refine Below.setCell ?_ ?_ _ | with_reducible refine Below.alloc ?_ ?_ _ | omega | (simp; done) | (simp; omega))
    have h7 : x3.heap[w3.heap.size]? = some (.cells #[.int .i64 fk, .int .i64 fl, .bool fw, .int .u64 ad, .int .u64 fi, .int .u64 la, .int .i64 re] 38) := by rw [hx3]; (repeat (first | assumption | (refine heap_new _ _ _ ?_; simp; done) | refine heap_old _ _ _ _ ?_))
    have h5 := (BX.block w2.heap.size (by omega)).trans g5
    rw [← hx3]
    clear hx3 g5
    refine (through_any fi la va wr _ p3 p4 HV.out).mono ?_
    rw [P1.out, P2.out]
    rintro e w4 ⟨rfl, hb⟩
    simp only [faultV]
    have B5 : Below w3.heap.size w3 w4 := BX.trans (hb.mono (by omega))
    have Bz5 := B5.size
    have hs4 := hb.size
    have G7 := Lib.hid ((hb.block w3.heap.size (by omega)).trans h7)
    have G5 := Lib.hid ((hb.block w2.heap.size (by omega)).trans h5)
    obtain ⟨j1, j2, j3, j4⟩ := keepB B5 w.heap.size i3
    clear hb h5 h7 BX
    obtain ⟨c7, f7, l7, n7⟩ := block_cells G7.out
    have e0 := c7 0 _ rfl
    have e1 := c7 1 _ rfl
    have e2 := c7 2 _ rfl
    have e3 := c7 3 _ rfl
    have e4 := c7 4 _ rfl
    have e5 := c7 5 _ rfl
    have e6 := c7 6 _ rfl
    have Bw : Below w.heap.size w w4 := B1.trans (Below.mono (B2.trans (Below.mono (B4.trans (B5.mono Bz4)) Bz2)) Bz1)
    have Bwz := Bw.size
    have Bw2 : Below w2.heap.size w2 w4 := B4.trans (B5.mono Bz4)
    clear c7
    rcases P5.out with ⟨hre, hfi, hla, hk⟩ | ⟨hre, htb, hla⟩ | ⟨hre, htb, hrd⟩
    · subst hre hfi hla
      obtain ⟨g, hg⟩ : ∃ g, g = beforeF va wr := ⟨_, rfl⟩
      rw [← hg] at hk
      have cB : Hid (∀ W, Calls Try.prog 19 #[.int .u64 va, .bool wr] W (RetB (faultV g) W)) := Lib.hid fun W => by rw [hg]; exact before_any va wr W HV.out
      clear hg
      obtain ⟨gk, gl, gw⟩ := g
      simp only [faultV] at cB hk
      have hkd : (gk != 0) = true := by simpa using hk
      have F0 := ffield0
      clear hk
      go_wp2_with (go_at_call 19; refine (cB.out _).mono ?_; rintro e w5 ⟨rfl, hb⟩; have B6 : Below w.heap.size w w5 := Bw.trans (Below.trans (by repeat' (first | with_reducible exact Below.refl _ _ | with_reducible assumption | with_reducible apply below_drewN | with_reducible apply Below.drew | with_reducible refine Below.setCell ?_ ?_ _ | with_reducible refine Below.alloc ?_ ?_ _ | omega | (simp; done) | (simp; omega))) (hb.mono (by first | omega | (simp; done) | (simp; omega)))); clear hb)
      go_ret
      exact ⟨rfl, B6⟩
    · subst hre hla
      have HTB := Lib.hid htb
      clear htb
      go_wp2_with fail
      refine (first_any fi va _ p3 HV.out).mono ?_
      rw [HTB.out]
      obtain ⟨⟨gk, gl, gw⟩, hg⟩ : ∃ g, g = firstF fi := ⟨_, rfl⟩
      rw [← hg]
      clear hg
      obtain ⟨z, hz⟩ : ∃ z, z = secondZ fi va := ⟨_, rfl⟩
      have HZ := Lib.hid hz
      rw [← hz]
      clear hz
      rintro e w5 ⟨rfl, hb⟩
      simp only [faultV]
      have B6 : Below w4.heap.size w4 w5 := Below.trans (by repeat' (first | with_reducible exact Below.refl _ _ | with_reducible assumption | with_reducible apply below_drewN | with_reducible apply Below.drew | with_reducible refine Below.setCell ?_ ?_ _ | with_reducible refine Below.alloc ?_ ?_ _ | omega | (simp; done) | (simp; omega))) (hb.mono (by first | omega | (simp; done) | (simp; omega)))
      have Bz6 := B6.size
      clear hb e0 e1 e2 e3 e4 e5 e6 f7 l7 n7
      have g7 := (B6.block w3.heap.size (by omega)).trans G7.out
      have g5 := (B6.block w2.heap.size (by omega)).trans G5.out
      obtain ⟨c7, f7, l7, n7⟩ := block_cells g7
      obtain ⟨c5, f5, l5, n5⟩ := block_cells g5
      have e4 := c7 4 _ rfl
      have e5 := c7 5 _ rfl
      have e6 := c7 6 _ rfl
      have i50 := c5 0 _ rfl
      have i51 := c5 1 _ rfl
      clear c7 c5 g7 g5
      go_wp2_with fail
      refine wp_region_qbn (by kernel_rfl) (by kernel_rfl) (fun kq => ?_); have kq0 := kq w3.heap.size (by first | omega | (simp; done) | (simp; omega)); have kq1 := kq w2.heap.size (by first | omega | (simp; done) | (simp; omega)); clear kq; (repeat (go_big_quiet_step (fail))); refine wpQuiet_nil ?_; clear kq0 kq1; intro wq hb
      have Bq := Bw.trans (Below.mono (B6.trans (Below.mono (Below.trans (B := w5.heap.size) (by repeat' (first | with_reducible exact Below.refl _ _ | with_reducible assumption | with_reducible apply below_drewN | with_reducible apply Below.drew | with_reducible refine Below.setCell ?_ ?_ _ | with_reducible refine Below.alloc ?_ ?_ _ | omega | (simp; done) | (simp; omega))) (hb.mono (by first | omega | (simp; done) | (simp; omega)))) Bz6)) Bwz)
      clear hb
      go_wp2_with fail
      go_ret
      exact ⟨rfl, Bq⟩
    · subst hre
      have HTB := Lib.hid htb
      have HRD := Lib.hid hrd
      clear htb hrd
      go_wp2_with fail
      refine (first_any fi va _ p3 HV.out).mono ?_
      rw [HTB.out]
      obtain ⟨⟨gk, gl, gw⟩, hg⟩ : ∃ g, g = firstF fi := ⟨_, rfl⟩
      rw [← hg]
      clear hg
      obtain ⟨z, hz⟩ : ∃ z, z = secondZ fi va := ⟨_, rfl⟩
      have HZ := Lib.hid hz
      rw [← hz]
      clear hz
      rintro e w5 ⟨rfl, hb⟩
      simp only [faultV]
      have B6 : Below w4.heap.size w4 w5 := Below.trans (by repeat' (first | with_reducible exact Below.refl _ _ | with_reducible assumption | with_reducible apply below_drewN | with_reducible apply Below.drew | with_reducible refine Below.setCell ?_ ?_ _ | with_reducible refine Below.alloc ?_ ?_ _ | omega | (simp; done) | (simp; omega))) (hb.mono (by first | omega | (simp; done) | (simp; omega)))
      have Bz6 := B6.size
      clear hb e0 e1 e2 e3 e4 e5 e6 f7 l7 n7
      have g7 := (B6.block w3.heap.size (by omega)).trans G7.out
      have g5 := (B6.block w2.heap.size (by omega)).trans G5.out
      obtain ⟨c7, f7, l7, n7⟩ := block_cells g7
      obtain ⟨c5, f5, l5, n5⟩ := block_cells g5
      have e4 := c7 4 _ rfl
      have e5 := c7 5 _ rfl
      have e6 := c7 6 _ rfl
      have i50 := c5 0 _ rfl
      have i51 := c5 1 _ rfl
      clear c7 c5 g7 g5
      go_wp2_with fail
      have cR : Hid (∀ W, Below w4.heap.size w4 W → Calls Try.prog 24 #[.agg #[.slice ao1 L.length cap1, .slice ao2 L.length cap2], .int .u64 z] W (RetB (.int .u64 la) W)) := Lib.hid fun W h => by
        rw [← HRD.out, ← HZ.out]
        exact read_any _ _ L z W (M1.out.below (Bw2.trans (h.mono Bw2.size))) HS.out hlL
      refine wp_region_qbn (by kernel_rfl) (by kernel_rfl) (fun kq => ?_); have kq0 := kq w3.heap.size (by first | omega | (simp; done) | (simp; omega)); have kq1 := kq w2.heap.size (by first | omega | (simp; done) | (simp; omega)); clear kq; (repeat (go_big_quiet_step ((go_at_call 24; exact quietB (cR.out _ (B6.trans (Below.mono (Below.trans (B := w5.heap.size) (by repeat' (first | with_reducible exact Below.refl _ _ | with_reducible assumption | with_reducible apply below_drewN | with_reducible apply Below.drew | with_reducible refine Below.setCell ?_ ?_ _ | with_reducible refine Below.alloc ?_ ?_ _ | omega | (simp; done) | (simp; omega))) (Below.mono (below_regrown _ _ _) (by first | omega | (simp; done) | (simp; omega)))) Bz6))))))); refine wpQuiet_nil ?_; clear kq0 kq1; intro wq hb
      have Bq := Bw.trans (Below.mono (B6.trans (Below.mono (Below.trans (B := w5.heap.size) (by repeat' (first | with_reducible exact Below.refl _ _ | with_reducible assumption | with_reducible apply below_drewN | with_reducible apply Below.drew | with_reducible refine Below.setCell ?_ ?_ _ | with_reducible refine Below.alloc ?_ ?_ _ | omega | (simp; done) | (simp; omega))) (hb.mono (by first | omega | (simp; done) | (simp; omega)))) Bz6)) Bwz)
      clear hb
      go_wp2_with fail
      go_ret
      exact ⟨rfl, Bq⟩

set_option maxRecDepth 100000 in
theorem walkParts_lifted (os : Os) (started : os.Started) (H : Type) (enc : TypeId × Value → H) :
    ReturnsInHanded {} Try.checked os 6 .any (Rows.walkPartsSpec.pre6 enc Try.prog Try.f6 Rows.walkPartsRow.domain false) (Rows.walkPartsSpec.post enc Try.prog Try.f6 false true false false) := by
  refine returnsInHanded_of_change (C := Try.checked) own started (by kernel_rfl) Try.func6
    (ChangeSpec.witness6 (enc := enc) (C := Try.checked) false ⟨#[], #[.slice none 0 0, .agg #[.int .u64 0, .int .u64 0, .bool false]], []⟩ 8 (by kernel_rfl) (by kernel_rfl) (by kernel_rfl) (by kernel_rfl)) ?_
  intro W base args ds gs before hval0 hW _ _
  have hval : ∀ (j : Nat) t v, Try.f6.params[j]? = some t → args[j]? = some v → Value.okWide Try.prog W .any base t v := hval0
  have hW' := hW
  obtain ⟨p, q, hA0, hV, rfl, hfz, hnd⟩ := hW
  have hA : DataW.TrodAll enc Try.prog W 0 (fun _ => true) true Try.f6.params.toList args.toList ds p := hA0
  rw [Try.params6] at hA hval
  obtain ⟨v0, vs0, d0, ds0, p0, q0, hargs, rfl, rfl, h0, r0⟩ := trodAll_cons hA
  obtain ⟨v1, vs1, d1, ds1, p1, q1, rfl, rfl, rfl, h1, r1⟩ := trodAll_cons r0
  obtain ⟨rfl, rfl, rfl⟩ := trodAll_nil r1
  obtain rfl : args = #[v0, v1] := by cases args; simp_all
  obtain ⟨rfl, rfl⟩ := trodVars_none hV
  obtain ⟨o0, k0, l0, rfl, A0, c0, w0⟩ := arg_cells h0 (hval 0 22 v0 rfl rfl)
  obtain ⟨t1, v1, b1, rfl, w1, x1⟩ := arg_ask (hval 1 25 v1 rfl rfl)
  refine (walkParts_walk (w := W) o0 k0 l0 t1 v1 b1 A0 c0 w0 w1 x1).mono fun e W' ⟨he, hb⟩ => ?_
  subst he
  exact ⟨_, rfl, post_law laid hW' rfl (by kernel_rfl) rfl Try.underlying4 rfl hb⟩

/-- The statement. -/
theorem walkParts_holds : Rows.WalkPartsSaid :=
  OpenClaim.holds_of_wide 6 Try.f6 rfl rfl rfl rfl rfl rfl rfl ⟨rfl, rfl, rfl, rfl, rfl⟩ rfl rfl rfl rfl rfl (by kernel_rfl) Try.func6 (by kernel_rfl)
    (of_decide_eq_true (by kernel_rfl)) (by unfold Func.isWrapper; first | (rw [if_pos (by decide +kernel)]; kernel_rfl) | (rw [if_neg (by decide +kernel)]; exact ⟨rfl, rfl⟩))
    (fun os started H enc _ => walkParts_lifted os started H enc)
#print axioms walkParts_holds
