/- The statement WalkFaults: any word is the fault that has it, or none. No conditions. -/
import Derived.Test.YtogoclcjkekplaaAwake08
import Derived.Test.YtogoclcjkekplaaFaultsc
import Derived.Test.YtogoclcjkekplaaRows
namespace Go.Proofs.Ytogoclcjkekplaa
open Go.RowKit Go.ChangeShapes Go.WideShapes Go.ChangeAt

theorem flP_right : ∀ j (h : j < (flP 15).length), ∃ p, p < 30 ∧ rightF (cnd p) = true ∧ (flP 15)[j] = cnd p := by decide +kernel
theorem flP_all : ∀ p, p < 30 → rightF (cnd p) = true → ∃ j, ∃ h : j < (flP 15).length, (flP 15)[j] = cnd p := by decide +kernel

/-- What has a word in the list is the fault that has it. -/
theorem fl_fo {x : Int} (j : Nat) (h : j < (flP 15).length) (hx : synZ (flP 15)[j] = x) : foF x = ((flP 15)[j], true) := by
  obtain ⟨p, h1, h2, h3⟩ := flP_right j h
  rw [h3] at hx ⊢
  rw [← hx]
  exact fo_right h1 h2
theorem fl_no {x : Int} (h : ∀ j (hj : j < (flP 15).length), synZ (flP 15)[j] ≠ x) : foF x = (Fa.zero, false) := by
  refine fo_none fun q hq => ?_
  rw [Bool.eq_false_iff]
  intro hm
  simp only [matchB, Bool.and_eq_true, beq_iff_eq] at hm
  obtain ⟨j, hj, he⟩ := flP_all q hq hm.1
  exact h j hj (by rw [he]; exact hm.2)

/-- What a walk's fault's word is read as. -/
theorem fault_back (f : Fa) (h : f = Fa.zero ∨ ∃ p, p < 30 ∧ rightF (cnd p) = true ∧ f = cnd p) : (f.kind = 0 ∧ foF (synZ f) = (Fa.zero, false)) ∨ (f.kind ≠ 0 ∧ foF (synZ f) = (f, true)) := by
  rcases h with rfl | ⟨p, h1, h2, rfl⟩
  · exact .inl ⟨rfl, fo_zero⟩
  · refine .inr ⟨?_, fo_right h1 h2⟩
    unfold cnd
    simp only
    omega

theorem walk_right (rd : Int → Int) (t va : Int) (wr : Bool) : (walkF rd t va wr).fault = Fa.zero ∨ ∃ p, p < 30 ∧ rightF (cnd p) = true ∧ (walkF rd t va wr).fault = cnd p := by
  unfold walkF
  by_cases hk : (beforeF va wr).kind = 0
  · simp only [if_pos hk]
    exact through_right _ _ _ _
  · simp only [if_neg hk]
    have := through_right 0 0 va wr
    unfold throughF at this
    rw [if_neg hk] at this
    exact this

/-- Faults that lie somewhere. -/
def Atf (w : World) (ao : Option Addr) (F : List Fa) : Prop := (ao = none → F = []) ∧ ∀ ad, ao = some ad → ∀ (j : Nat) (u : Value), (flatf F)[j]? = some u → w.cell? (ad.add j) = some u
theorem Atf.of_row {w : World} {base : Nat} {ao : Option Addr} {n cap : Nat} {F : List Fa} (h : w.ownsRow base 36 3 (.slice ao n cap) n (flatf F)) : Atf w ao F := by
  have hl : F.length * 3 = n * 3 := by rw [← flatf_len]; exact h.1
  refine ⟨fun e => ?_, fun ad e j u hj => ?_⟩
  · subst e
    obtain ⟨rfl, -⟩ := ownsRow_none' h
    exact List.eq_nil_of_length_eq_zero (by omega)
  · subst e
    exact ownsRow_atN h j u hj
theorem Atf.triple {w : World} {ad : Addr} {F : List Fa} (h : Atf w (some ad) F) (j : Nat) (hj : j < F.length) :
    w.cell? (ad.add (j * 3)) = some (.int .i64 F[j].kind) ∧ w.cell? ⟨(ad.add (j * 3)).block, (ad.add (j * 3)).off + 1, none⟩ = some (.int .i64 F[j].level) ∧ w.cell? ⟨(ad.add (j * 3)).block, (ad.add (j * 3)).off + 2, none⟩ = some (.bool F[j].write) := by
  obtain ⟨h0, h1, h2⟩ := flatf_at F j hj
  have g0 := h.2 ad rfl _ _ h0
  have g1 := h.2 ad rfl _ _ h1
  have g2 := h.2 ad rfl _ _ h2
  rw [← Go.Deep.add_add] at g1 g2
  exact ⟨g0, g1, g2⟩
theorem Atf.below {w w' : World} {ao : Option Addr} {F : List Fa} (h : Atf w ao F) (hb : Below w.heap.size w w') : Atf w' ao F := by
  refine ⟨h.1, fun ad e j u hj => ?_⟩
  have := h.2 ad e j u hj
  rw [hb.cell (cell_lt this)]
  exact this

set_option maxRecDepth 100000 in
set_option maxHeartbeats 8000000 in
theorem walkFaults_walk {w : World} (x : Int) (ao : Option Addr) (cap : Nat) (l : List (Int × Int)) (t va : Int) (wb : Bool) (_hx : U64 x) (hl : Atc w ao l) (_hc : ao = none → cap = 0) (hu : ∀ p ∈ l, U64 p.1 ∧ U64 p.2) (_ht : U64 t) (hva : U64 va) :
    Calls Try.prog 9 #[.int .u64 x, .slice ao l.length cap, .agg #[.int .u64 t, .int .u64 va, .bool wb]] w (RetB (.bool true) w) := by
  have HL := Lib.hid hl
  have HU := Lib.hid hu
  have HR : Hid (∀ k, U64 (readL l k)) := Lib.hid (read_u64 hu)
  have HV := Lib.hid hva
  obtain ⟨n, hn⟩ : ∃ n, n = l.length := ⟨_, rfl⟩
  have HN := Lib.hid hn
  rw [← hn]
  clear hl hu hva hn
  have HFO : Hid (∀ j (h : j < (flP 15).length), synZ (flP 15)[j] = x → foF x = ((flP 15)[j], true)) := Lib.hid fun j h e => fl_fo j h e
  have HNO : Hid ((∀ j (hj : j < (flP 15).length), synZ (flP 15)[j] ≠ x) → foF x = (Fa.zero, false)) := Lib.hid fl_no
  have hfl := flP_len 15
  have cF : Hid (∀ W, Calls Try.prog 30 #[] W (fun e w' => ∃ ao cap, e = .returned (.slice ao (flP 15).length cap) ∧ w'.ownsRow W.heap.size 36 3 (.slice ao (flP 15).length cap) (flP 15).length (flatf (flP 15)) ∧ Below W.heap.size W w')) := Lib.hid faults_any
  generalize flP 15 = F at HFO HNO hfl cF
  have HG : Hid (∃ g, g = foF x) := Lib.hid ⟨_, rfl⟩
  obtain ⟨⟨⟨fk, fl, fw⟩, fb⟩, hg⟩ := HG.out
  have HGE := Lib.hid hg
  rw [← hg] at HFO HNO
  clear hg HG
  go_enter Try.func9, Try.ntmps9
  go_wp2_with fail
  refine (awake_any _).mono ?_
  rintro e w1 ⟨rfl, hb⟩
  have B1 : Below w.heap.size w w1 := Below.trans (by repeat' (first | with_reducible exact Below.refl _ _ | with_reducible assumption | with_reducible apply below_drewN | with_reducible apply Below.drew | with_reducible refine Below.setCell ?_ ?_ _ | with_reducible refine Below.alloc ?_ ?_ _ | omega | (simp; done) | (simp; omega))) (hb.mono (by first | omega | (simp; done) | (simp; omega)))
  have Bz1 := B1.size
  have hs1 := hb.size
  have g5 := (hb.block w.heap.size (by simp)).trans (by (repeat (first | assumption | (refine heap_new _ _ _ ?_; simp; done) | refine heap_old _ _ _ _ ?_)) : _ = some (.cells #[.int .u64 t, .int .u64 va, .bool wb] 25))
  have l5 := (Array.getElem?_eq_some_iff.1 g5).1
  clear hb hs1
  go_wp2_with fail
  refine (faultOf_any x _).mono ?_
  rw [← HGE.out]
  rintro e w2 ⟨rfl, hb⟩
  simp only [faultV]
  have B2 : Below w1.heap.size w1 w2 := hb
  have Bz2 := hb.size
  clear hb
  go_wp2_with fail
  obtain ⟨x2, hx2⟩ : ∃ x2, x2 = w2.alloc (.cells #[.int .i64 fk, .int .i64 fl, .bool fw] 36) := ⟨_, rfl⟩
  have hs2 : x2.heap.size = w2.heap.size + 1 := by rw [hx2]; simp
  have BX2 : Below w2.heap.size w2 x2 := by rw [hx2]; repeat' (first | with_reducible exact Below.refl _ _ | with_reducible assumption | with_reducible apply below_drewN | with_reducible apply Below.drew | with_reducible refine Below.setCell ?_ ?_ _ | with_reducible refine Below.alloc ?_ ?_ _ | omega | (simp; done) | (simp; omega))
  have h7 : x2.heap[w2.heap.size]? = some (.cells #[.int .i64 fk, .int .i64 fl, .bool fw] 36) := by rw [hx2]; (repeat (first | assumption | (refine heap_new _ _ _ ?_; simp; done) | refine heap_old _ _ _ _ ?_))
  rw [← hx2]
  clear hx2
  refine (cF.out _).mono ?_
  rintro e w3 ⟨fo, fc, rfl, hr, hb⟩
  have B3 : Below w2.heap.size w2 w3 := BX2.trans (hb.mono (by omega))
  have Bz3 := B3.size
  have hs3 := hb.size
  have g7 := (hb.block w2.heap.size (by omega)).trans h7
  have HA := Lib.hid (Atf.of_row hr)
  clear hb hr h7 cF BX2
  go_wp2_with fail
  obtain ⟨x3, hx3⟩ : ∃ x3, x3 = w3.alloc (.cells #[.int .i64 0, .int .i64 0, .bool false] 36) := ⟨_, rfl⟩
  have hs4 : x3.heap.size = w3.heap.size + 1 := by rw [hx3]; simp
  have BX3 : Below w3.heap.size w3 x3 := by rw [hx3]; repeat' (first | with_reducible exact Below.refl _ _ | with_reducible assumption | with_reducible apply below_drewN | with_reducible apply Below.drew | with_reducible refine Below.setCell ?_ ?_ _ | with_reducible refine Below.alloc ?_ ?_ _ | omega | (simp; done) | (simp; omega))
  have h10 : x3.heap[w3.heap.size]? = some (.cells #[.int .i64 0, .int .i64 0, .bool false] 36) := by rw [hx3]; (repeat (first | assumption | (refine heap_new _ _ _ ?_; simp; done) | refine heap_old _ _ _ _ ?_))
  rw [← hx3]
  clear hx3
  have BB3 : Below w1.heap.size w1 w3 := B2.trans (B3.mono Bz2)
  have HB3 := Lib.hid BB3
  have hBB3 := BB3.size
  go_loopw [11, 12] (fun th i V => ∃ (j : Nat) (g : Fa) (b : Bool), i = .int .i64 (j : Nat) ∧ j ≤ F.length ∧ th = .bool b ∧ ((b = false ∧ g = Fa.zero ∧ ∀ q (h : q < F.length), q < j → synZ F[q] ≠ x) ∨ (b = true ∧ (((⟨fk, fl, fw⟩ : Fa), fb) = (g, true)))) ∧ Below w3.heap.size w3 V ∧
    V.heap[w3.heap.size]? = some (.cells #[.int .i64 g.kind, .int .i64 g.level, .bool g.write] 36)) (fun _ i _ => F.length - (intOf i).toNat)
  case atStart => exact ⟨0, Fa.zero, false, rfl, by omega, rfl, .inl ⟨rfl, rfl, fun q _ h => by omega⟩, BX3, h10⟩
  case round =>
    obtain ⟨j, ⟨gk, gl, gw⟩, b, rfl, hj, rfl, hinv, hBV, h10'⟩ := hrel
    have HI := Lib.hid hinv
    have H10 := Lib.hid h10'
    have hbv := hBV.size
    obtain ⟨c10, f10, l10, n10⟩ := block_cells h10'
    have d0 := c10 0 _ rfl
    have d1 := c10 1 _ rfl
    have d2 := c10 2 _ rfl
    clear hinv h10' c10 h10
    by_cases hlt : j < F.length
    · obtain ⟨ad, rfl⟩ : ∃ ad, fo = some ad := by
        cases fo with
        | some ad => exact ⟨ad, rfl⟩
        | none => have := HA.out.1 rfl; rw [this] at hlt; simp at hlt
      obtain ⟨y0, y1, y2⟩ := (HA.out.below hBV).triple j hlt
      have H1 := Lib.hid (HFO.out j hlt)
      have HQ : Hid ((∀ q (h : q < F.length), q < j → synZ F[q] ≠ x) → synZ (F[j]'hlt) ≠ x → ∀ q (h : q < F.length), q < j + 1 → synZ F[q] ≠ x) := Lib.hid fun h1 h2 q hq hqj => by
        rcases Nat.lt_or_ge q j with h3 | h3
        · exact h1 q hq h3
        · obtain rfl : q = j := by omega
          exact h2
      generalize F[j]'hlt = y at y0 y1 y2 H1 HQ
      obtain ⟨yk, yl, yw⟩ := y
      simp only at y0 y1 y2
      have hyb := cell_lt y0
      by_cases hs : synZ ⟨yk, yl, yw⟩ = x
      · have HSY := Lib.hid hs
        clear hs
        go_wp2_with (go_at_call 28; refine (rsyn_any _ _ _ _).mono ?_; rw [HSY.out]; rintro e w4 ⟨rfl, hb⟩; have BW : Below wr.heap.size wr w4 := Below.trans (by repeat' (first | with_reducible exact Below.refl _ _ | with_reducible assumption | with_reducible apply below_drewN | with_reducible apply Below.drew | with_reducible refine Below.setCell ?_ ?_ _ | with_reducible refine Below.alloc ?_ ?_ _ | omega | (simp; done) | (simp; omega))) (hb.mono (by first | omega | (simp; done) | (simp; omega))); have BWs := BW.size; have K10 := Lib.hid ((BW.block w3.heap.size l10).trans H10.out); obtain ⟨k1, k2, k3, k4⟩ := keepB BW w3.heap.size l10; have z0 := (BW.cell (p := ad.add (j * 3)) hyb).trans y0; have z1 := (BW.cell (p := ⟨(ad.add (j * 3)).block, (ad.add (j * 3)).off + 1, none⟩) hyb).trans y1; have z2 := (BW.cell (p := ⟨(ad.add (j * 3)).block, (ad.add (j * 3)).off + 2, none⟩) hyb).trans y2; clear hb)
        go_roundw
        case rel => exact ⟨j + 1, ⟨yk, yl, yw⟩, true, by go_num, by omega, rfl, .inr ⟨rfl, H1.out HSY.out⟩, (((hBV.trans (BW.mono hbv)).setCell (Nat.le_refl _) _).setCell (Nat.le_refl _) _).setCell (Nat.le_refl _) _, block_set (block_set (block_set K10.out rfl) rfl) rfl⟩
        case measure => first | (simp [intOf]; done) | (simp [intOf]; omega)
      · obtain ⟨sy, hsy⟩ : ∃ sy, sy = synZ ⟨yk, yl, yw⟩ := ⟨_, rfl⟩
        have HSY := Lib.hid hsy
        have hsd : (sy == x) = false := by rw [hsy]; simpa using hs
        have HNS := Lib.hid hs
        clear hsy hs
        go_wp2_with (go_at_call 28; refine (rsyn_any _ _ _ _).mono ?_; rw [← HSY.out]; rintro e w4 ⟨rfl, hb⟩; have BW : Below wr.heap.size wr w4 := Below.trans (by repeat' (first | with_reducible exact Below.refl _ _ | with_reducible assumption | with_reducible apply below_drewN | with_reducible apply Below.drew | with_reducible refine Below.setCell ?_ ?_ _ | with_reducible refine Below.alloc ?_ ?_ _ | omega | (simp; done) | (simp; omega))) (hb.mono (by first | omega | (simp; done) | (simp; omega))); have BWs := BW.size; have K10 := Lib.hid ((BW.block w3.heap.size l10).trans H10.out); clear hb)
        go_roundw
        case rel => exact ⟨j + 1, ⟨gk, gl, gw⟩, b, by go_num, by omega, rfl, HI.out.imp (fun h => ⟨h.1, h.2.1, HQ.out h.2.2 HNS.out⟩) (fun h => h), hBV.trans (BW.mono hbv), K10.out⟩
        case measure => first | (simp [intOf]; done) | (simp [intOf]; omega)
    · have HE : Hid ((⟨fk, fl, fw⟩ : Fa) = ⟨gk, gl, gw⟩ ∧ fb = b) := Lib.hid (by
        rcases HI.out with ⟨h1, h2, h3⟩ | ⟨h1, h2⟩
        · have := HNO.out fun q hq => h3 q hq (by omega)
          have e1 := congrArg Prod.fst this
          have e2 := congrArg Prod.snd this
          simp only at e1 e2
          rw [h2, h1]
          exact ⟨e1, e2⟩
        · have e1 := congrArg Prod.fst h2
          have e2 := congrArg Prod.snd h2
          simp only at e1 e2
          rw [h1]
          exact ⟨e1, e2⟩)
      obtain ⟨e1, e2⟩ := HE.out
      injection e1 with e3 e4 e5
      subst e3 e4 e5 e2
      clear HE HI
      have BV1 : Below w1.heap.size w1 wr := BB3.trans (hBV.mono hBB3)
      have g7' := (hBV.block w2.heap.size (by omega)).trans g7
      have hb1s := BV1.size
      have k5 := (BV1.block w.heap.size l5).trans g5
      obtain ⟨c7, f7, l7, n7⟩ := block_cells g7'
      have i0 := c7 0 _ rfl
      have i1 := c7 1 _ rfl
      have i2 := c7 2 _ rfl
      have K5 := Lib.hid k5
      have Bw : Below w.heap.size w wr := B1.trans (BV1.mono Bz1)
      have Bwz := Bw.size
      clear c7 g7' k5 g5 g7
      go_wp2_with fail
      cases htr : tryB l
      · refine (memory_no ao n cap l _ htr (HL.out.below Bw) HN.out HU.out).mono ?_
        rintro e w5 ⟨ks, vs, rfl, hm, hb⟩
        have B5 := Bw.trans (hb.mono Bw.size)
        have B5s := B5.size
        obtain ⟨ao1, cap1, rfl⟩ := ownsRow_form hm.keys
        obtain ⟨ao2, cap2, rfl⟩ := ownsRow_form hm.vals
        clear hm hb htr
        go_wp2_with fail
        go_ret
        exact ⟨rfl, by repeat' (first | with_reducible exact Below.refl _ _ | with_reducible assumption | with_reducible apply below_drewN | with_reducible apply Below.drew | with_reducible refine Below.setCell ?_ ?_ _ | with_reducible refine Below.alloc ?_ ?_ _ | omega | (simp; done) | (simp; omega))⟩
      · refine (memory_yes ao n cap l _ htr (HL.out.below Bw) HN.out HU.out).mono ?_
        have hlen := try_len htr
        have hcl := cellsL_len l
        have HS := Lib.hid (cellsL_sorted l)
        have HG : Hid (∀ k, U64 (getL (cellsL l) k)) := Lib.hid (by rw [cells_getL l]; exact HR.out)
        have hlL : (cellsL l).length ≤ 900 := by omega
        generalize cellsL l = L at HS HG hlL
        clear hlen hcl htr
        rintro e w5 ⟨ks, vs, rfl, hm, hb⟩
        have B5 : Below wr.heap.size wr w5 := hb
        have B5s := hb.size
        have M1 := Lib.hid hm
        obtain ⟨ao1, cap1, rfl⟩ := ownsRow_form hm.keys
        obtain ⟨ao2, cap2, rfl⟩ := ownsRow_form hm.vals
        have hl5 := (Array.getElem?_eq_some_iff.1 K5.out).1
        have k5 := (hb.block w.heap.size hl5).trans K5.out
        obtain ⟨c5, f5, l5', n5⟩ := block_cells k5
        have a0 := c5 0 _ rfl
        have a1 := c5 1 _ rfl
        have a2 := c5 2 _ rfl
        clear hm hb c5 k5 d0 d1 d2 i0 i1 i2 f10 f7 l10 l7 n10 n7
        go_wp2_with fail
        obtain ⟨x5, hx5⟩ : ∃ x5, x5 = w5.alloc (.cells #[.slice ao1 L.length cap1, .slice ao2 L.length cap2] 31) := ⟨_, rfl⟩
        have BX5 : Below w5.heap.size w5 x5 := by rw [hx5]; repeat' (first | with_reducible exact Below.refl _ _ | with_reducible assumption | with_reducible apply below_drewN | with_reducible apply Below.drew | with_reducible refine Below.setCell ?_ ?_ _ | with_reducible refine Below.alloc ?_ ?_ _ | omega | (simp; done) | (simp; omega))
        have hsx5 : x5.heap.size = w5.heap.size + 1 := by rw [hx5]; simp
        rw [← hx5]
        clear hx5
        refine (walk_any _ _ L t va wb _ (M1.out.below BX5) HS.out hlL HG.out HV.out).mono ?_
        have HFB := Lib.hid (fault_back (walkF (getL L) t va wb).fault (walk_right (getL L) t va wb))
        generalize walkF (getL L) t va wb = r at HFB
        obtain ⟨⟨rk, rl, rw'⟩, rad, rfi, rla, rre⟩ := r
        simp only at HFB
        rintro e w6 ⟨rfl, hb⟩
        simp only [walkV]
        have B6 : Below w5.heap.size w5 w6 := BX5.trans (hb.mono (by omega))
        have B6s := B6.size
        clear hb a0 a1 a2 f5 l5' n5
        obtain ⟨s, hs⟩ : ∃ s, s = synZ ⟨rk, rl, rw'⟩ := ⟨_, rfl⟩
        have HSY := Lib.hid hs
        rw [← hs] at HFB
        clear hs
        go_wp2_with (go_at_call 27; refine (syn_any _ _ _ _).mono ?_; rw [← HSY.out]; rintro e w7 ⟨rfl, hb⟩; have B7 : Below w6.heap.size w6 w7 := Below.trans (by repeat' (first | with_reducible exact Below.refl _ _ | with_reducible assumption | with_reducible apply below_drewN | with_reducible apply Below.drew | with_reducible refine Below.setCell ?_ ?_ _ | with_reducible refine Below.alloc ?_ ?_ _ | omega | (simp; done) | (simp; omega))) (hb.mono (by first | omega | (simp; done) | (simp; omega))); have B7s := B7.size; obtain ⟨k1, k2, k3, k4⟩ := keepB hb w6.heap.size (by first | omega | (simp; done) | (simp; omega)); clear hb)
        refine (faultOf_any s _).mono ?_
        rcases HFB.out with ⟨h1, h2⟩ | ⟨h1, h2⟩
        · rw [h2]
          subst h1
          clear h2 HFB
          rintro e w8 ⟨rfl, hb⟩
          simp only [faultV, Fa.zero]
          have B8 : Below w7.heap.size w7 w8 := Below.trans (by repeat' (first | with_reducible exact Below.refl _ _ | with_reducible assumption | with_reducible apply below_drewN | with_reducible apply Below.drew | with_reducible refine Below.setCell ?_ ?_ _ | with_reducible refine Below.alloc ?_ ?_ _ | omega | (simp; done) | (simp; omega))) (hb.mono (by first | omega | (simp; done) | (simp; omega)))
          have B8s := B8.size
          obtain ⟨m1, m2, m3, m4⟩ := keepB hb w6.heap.size k3
          clear hb
          go_wp2_with fail
          go_ret
          refine ⟨rfl, Bw.trans (Below.mono (B5.trans (Below.mono (B6.trans (Below.mono (B7.trans (Below.mono (B := w7.heap.size) (by repeat' (first | with_reducible exact Below.refl _ _ | with_reducible assumption | with_reducible apply below_drewN | with_reducible apply Below.drew | with_reducible refine Below.setCell ?_ ?_ _ | with_reducible refine Below.alloc ?_ ?_ _ | omega | (simp; done) | (simp; omega))) B7s)) B6s)) B5s)) Bwz)⟩
        · rw [h2]
          have hkd : (rk != 0) = true := by simpa using h1
          clear h1 h2 HFB
          rintro e w8 ⟨rfl, hb⟩
          simp only [faultV]
          have B8 : Below w7.heap.size w7 w8 := Below.trans (by repeat' (first | with_reducible exact Below.refl _ _ | with_reducible assumption | with_reducible apply below_drewN | with_reducible apply Below.drew | with_reducible refine Below.setCell ?_ ?_ _ | with_reducible refine Below.alloc ?_ ?_ _ | omega | (simp; done) | (simp; omega))) (hb.mono (by first | omega | (simp; done) | (simp; omega)))
          have B8s := B8.size
          obtain ⟨m1, m2, m3, m4⟩ := keepB hb w6.heap.size k3
          clear hb
          go_wp2_with fail
          go_ret
          refine ⟨rfl, Bw.trans (Below.mono (B5.trans (Below.mono (B6.trans (Below.mono (B7.trans (Below.mono (B := w7.heap.size) (by repeat' (first | with_reducible exact Below.refl _ _ | with_reducible assumption | with_reducible apply below_drewN | with_reducible apply Below.drew | with_reducible refine Below.setCell ?_ ?_ _ | with_reducible refine Below.alloc ?_ ?_ _ | omega | (simp; done) | (simp; omega))) B7s)) B6s)) B5s)) Bwz)⟩

set_option maxRecDepth 100000
set_option maxRecDepth 100000 in
theorem walkFaults_lifted (os : Os) (started : os.Started) (H : Type) (enc : TypeId × Value → H) :
    ReturnsInHanded {} Try.checked os 9 .any (Rows.walkFaultsSpec.pre6 enc Try.prog Try.f9 Rows.walkFaultsRow.domain false) (Rows.walkFaultsSpec.post enc Try.prog Try.f9 false true false false) := by
  refine returnsInHanded_of_change (C := Try.checked) own started (by kernel_rfl) Try.func9
    (ChangeSpec.witness6 (enc := enc) (C := Try.checked) false ⟨#[], #[.int .u64 0, .slice none 0 0, .agg #[.int .u64 0, .int .u64 0, .bool false]], []⟩ 8 (by kernel_rfl) (by kernel_rfl) (by kernel_rfl) (by kernel_rfl)) ?_
  intro W base args ds gs before hval0 hW _ _
  have hval : ∀ (j : Nat) t v, Try.f9.params[j]? = some t → args[j]? = some v → Value.okWide Try.prog W .any base t v := hval0
  have hW' := hW
  obtain ⟨p, q, hA0, hV, rfl, hfz, hnd⟩ := hW
  have hA : DataW.TrodAll enc Try.prog W 0 (fun _ => true) true Try.f9.params.toList args.toList ds p := hA0
  rw [Try.params9] at hA hval
  obtain ⟨v0, vs0, d0, ds0, p0, q0, hargs, rfl, rfl, h0, r0⟩ := trodAll_cons hA
  obtain ⟨v1, vs1, d1, ds1, p1, q1, rfl, rfl, rfl, h1, r1⟩ := trodAll_cons r0
  obtain ⟨v2, vs2, d2, ds2, p2, q2, rfl, rfl, rfl, h2, r2⟩ := trodAll_cons r1
  obtain ⟨rfl, rfl, rfl⟩ := trodAll_nil r2
  obtain rfl : args = #[v0, v1, v2] := by cases args; simp_all
  obtain ⟨rfl, rfl⟩ := trodVars_none hV
  obtain ⟨a0, rfl, w0⟩ := arg_u64 Try.underlying23 (hval 0 23 v0 rfl rfl)
  obtain ⟨o1, k1, l1, rfl, A1, c1, w1⟩ := arg_cells h1 (hval 1 22 v1 rfl rfl)
  obtain ⟨t2, v2, b2, rfl, w2, x2⟩ := arg_ask (hval 2 25 v2 rfl rfl)
  refine (walkFaults_walk (w := W) a0 o1 k1 l1 t2 v2 b2 w0 A1 c1 w1 w2 x2).mono fun e W' ⟨he, hb⟩ => ?_
  subst he
  exact ⟨_, rfl, post_law laid hW' rfl (by kernel_rfl) rfl Try.underlying4 rfl hb⟩

/-- The statement. -/
theorem walkFaults_holds : Rows.WalkFaultsSaid :=
  OpenClaim.holds_of_wide 9 Try.f9 rfl rfl rfl rfl rfl rfl rfl ⟨rfl, rfl, rfl, rfl, rfl⟩ rfl rfl rfl rfl rfl (by kernel_rfl) Try.func9 (by kernel_rfl)
    (of_decide_eq_true (by kernel_rfl)) (by unfold Func.isWrapper; first | (rw [if_pos (by decide +kernel)]; kernel_rfl) | (rw [if_neg (by decide +kernel)]; exact ⟨rfl, rfl⟩))
    (fun os started H enc _ => walkFaults_lifted os started H enc)
#print axioms walkFaults_holds

end Go.Proofs.Ytogoclcjkekplaa
