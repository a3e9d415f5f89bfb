/- The statement WalkGoes: any access through any tables comes where the page says, or has its fault. No conditions. -/
import Derived.Test.YtogoclcjkekplaaAwake08
import Derived.Test.YtogoclcjkekplaaRows
namespace Go.Proofs.Ytogoclcjkekplaa
open Go.RowKit Go.ChangeShapes Go.WideShapes Go.ChangeAt

set_option maxHeartbeats 2000000 in
theorem walkGoes_walk {w : World} (ao : Option Addr) (cap : Nat) (l : List (Int × Int)) (t va : Int) (wr : Bool) (hl : Atc w ao l) (_hc : ao = none → cap = 0) (hu : ∀ p ∈ l, U64 p.1 ∧ U64 p.2) (ht : U64 t) (hva : U64 va) :
    Calls Try.prog 3 #[.slice ao l.length cap, .agg #[.int .u64 t, .int .u64 va, .bool wr]] w (RetB (.bool true) w) := by
  have HL := Lib.hid hl
  have HU := Lib.hid hu
  have HR : Hid (∀ k, U64 (readL l k)) := Lib.hid (read_u64 hu)
  have HT := Lib.hid ht
  have HV := Lib.hid hva
  obtain ⟨n, hn⟩ : ∃ n, n = l.length := ⟨_, rfl⟩
  have HN := Lib.hid hn
  rw [← hn]
  clear hl hu ht hva hn
  go_enter Try.func3, Try.ntmps3
  go_wp2_with fail
  refine (awake_any _).mono ?_
  rintro e w1 ⟨rfl, hb⟩
  have B1 : Below w.heap.size w w1 := Below.trans (by repeat' (first | with_reducible exact Below.refl _ _ | with_reducible assumption | with_reducible apply below_drewN | with_reducible apply Below.drew | with_reducible refine Below.setCell ?_ ?_ _ | with_reducible refine Below.alloc ?_ ?_ _ | omega | (simp; done) | (simp; omega))) (hb.mono (by first | omega | (simp; done) | (simp; omega)))
  have Bz1 := B1.size
  obtain ⟨k1, k2, k3, k4⟩ := keepB hb w.heap.size (by first | omega | (simp; done) | (simp; omega))
  clear hb
  go_wp2_with fail
  cases htr : tryB l
  · refine (memory_no ao n cap l _ htr (HL.out.below (by repeat' (first | with_reducible exact Below.refl _ _ | with_reducible assumption | with_reducible apply below_drewN | with_reducible apply Below.drew | with_reducible refine Below.setCell ?_ ?_ _ | with_reducible refine Below.alloc ?_ ?_ _ | omega | (simp; done) | (simp; omega)))) HN.out HU.out).mono ?_
    rintro e w2 ⟨ks, vs, rfl, hm, hb⟩
    have B2 : Below w1.heap.size w1 w2 := hb
    have Bz2 := hb.size
    obtain ⟨m1, m2, m3, m4⟩ := keepB hb w.heap.size k3
    obtain ⟨ao1, cap1, rfl⟩ := ownsRow_form hm.keys
    obtain ⟨ao2, cap2, rfl⟩ := ownsRow_form hm.vals
    clear hm hb htr
    go_wp2_with fail
    go_quiet (fail)
    go_wp2_with fail
    go_ret
    exact ⟨rfl, B1.trans (Below.mono (B := w1.heap.size) (by repeat' (first | with_reducible exact Below.refl _ _ | with_reducible assumption | with_reducible apply below_drewN | with_reducible apply Below.drew | with_reducible refine Below.setCell ?_ ?_ _ | with_reducible refine Below.alloc ?_ ?_ _ | omega | (simp; done) | (simp; omega))) Bz1)⟩
  · refine (memory_yes ao n cap l _ htr (HL.out.below (by repeat' (first | with_reducible exact Below.refl _ _ | with_reducible assumption | with_reducible apply below_drewN | with_reducible apply Below.drew | with_reducible refine Below.setCell ?_ ?_ _ | with_reducible refine Below.alloc ?_ ?_ _ | omega | (simp; done) | (simp; omega)))) HN.out HU.out).mono ?_
    have hlen := try_len htr
    have hcl := cellsL_len l
    have HS := Lib.hid (cellsL_sorted l)
    have HG := Lib.hid (cells_getL l)
    have HLL : Hid ((cellsL l).length ≤ 900 ∧ l.length ≤ 1000000) := Lib.hid ⟨by omega, by omega⟩
    generalize cellsL l = L at HS HG HLL
    clear hlen hcl htr
    rintro e w2 ⟨ks, vs, rfl, hm, hb⟩
    have B2 : Below w1.heap.size w1 w2 := hb
    have Bz2 := hb.size
    obtain ⟨m1, m2, m3, m4⟩ := keepB hb w.heap.size k3
    have M1 := Lib.hid hm
    obtain ⟨ao1, cap1, rfl⟩ := ownsRow_form hm.keys
    obtain ⟨ao2, cap2, rfl⟩ := ownsRow_form hm.vals
    clear hm hb
    go_wp2_with fail
    obtain ⟨wz, hwz⟩ : ∃ wz, wz = w2.alloc (.cells #[.slice ao1 L.length cap1, .slice ao2 L.length cap2] 31) := ⟨_, rfl⟩
    have B3 : Below w2.heap.size w2 wz := by rw [hwz]; repeat' (first | with_reducible exact Below.refl _ _ | with_reducible assumption | with_reducible apply below_drewN | with_reducible apply Below.drew | with_reducible refine Below.setCell ?_ ?_ _ | with_reducible refine Below.alloc ?_ ?_ _ | omega | (simp; done) | (simp; omega))
    have hsz : wz.heap.size = w2.heap.size + 1 := by rw [hwz]; simp
    have h2 : wz.heap[w2.heap.size]? = some (.cells #[.slice ao1 L.length cap1, .slice ao2 L.length cap2] 31) := by rw [hwz]; (repeat (first | assumption | (refine heap_new _ _ _ ?_; simp; done) | refine heap_old _ _ _ _ ?_))
    rw [← hwz]
    clear hwz
    obtain ⟨c2, -, l2, n2⟩ := block_cells h2
    have d0 := c2 0 _ rfl
    have d1 := c2 1 _ rfl
    obtain ⟨i1, i2, i3, i4⟩ := keepB B3 w.heap.size m3
    clear c2 h2
    obtain ⟨r, hr⟩ : ∃ r, r = walkF (getL L) t va wr := ⟨_, rfl⟩
    have cW : Hid (∀ W, Below wz.heap.size wz W → Calls Try.prog 13 #[.agg #[.slice ao1 L.length cap1, .slice ao2 L.length cap2], .int .u64 t, .int .u64 va, .bool wr] W (RetB (walkV r) W)) := Lib.hid fun W h => by
      rw [hr]
      exact walk_any _ _ L t va wr W ((M1.out.below B3).below h) HS.out HLL.out.1 (by rw [HG.out]; exact HR.out) HV.out
    have cR : Hid (∀ W, Below wz.heap.size wz W → Calls Try.prog 14 #[.slice ao n cap, .int .u64 t, .int .u64 va, .bool wr] W (RetB (walkV r) W)) := Lib.hid fun W h => by
      rw [hr, HG.out]
      exact refWalk_any ao n cap l t va wr W (HL.out.below (B1.trans (Below.mono (B2.trans (Below.mono (B3.trans (h.mono B3.size)) Bz2)) Bz1))) HN.out HLL.out.2 HR.out HV.out HT.out
    clear hr
    refine wp_region_qb2 w.heap.size w2.heap.size (by kernel_rfl) (by kernel_rfl) (by first | omega | (simp; done) | (simp; omega)) (by first | omega | (simp; done) | (simp; omega)) (fun kq kq2 => ?_); (repeat (go_big_quiet_step (first | (go_at_call 13; exact quietB (cW.out _ (below_regrown _ _ _))) | (go_at_call 14; exact quietB (cR.out _ (below_regrown _ _ _))) | (go_at_call 12; exact quietB (is_any r _))))); refine wpQuiet_nil ?_; clear kq kq2; intro wq hb
    have Bq := B1.trans (Below.mono (B2.trans (Below.mono (B3.trans (hb.mono B3.size)) Bz2)) Bz1)
    clear hb
    go_wp2_with fail
    go_ret
    exact ⟨rfl, Bq⟩

set_option maxRecDepth 100000
set_option maxRecDepth 100000 in
theorem walkGoes_lifted (os : Os) (started : os.Started) (H : Type) (enc : TypeId × Value → H) :
    ReturnsInHanded {} Try.checked os 3 .any (Rows.walkGoesSpec.pre6 enc Try.prog Try.f3 Rows.walkGoesRow.domain false) (Rows.walkGoesSpec.post enc Try.prog Try.f3 false true false false) := by
  refine returnsInHanded_of_change (C := Try.checked) own started (by kernel_rfl) Try.func3
    (ChangeSpec.witness6 (enc := enc) (C := Try.checked) false ⟨#[], #[.slice none 0 0, .agg #[.int .u64 0, .int .u64 0, .bool false]], []⟩ 8 (by kernel_rfl) (by kernel_rfl) (by kernel_rfl) (by kernel_rfl)) ?_
  intro W base args ds gs before hval0 hW _ _
  have hval : ∀ (j : Nat) t v, Try.f3.params[j]? = some t → args[j]? = some v → Value.okWide Try.prog W .any base t v := hval0
  have hW' := hW
  obtain ⟨p, q, hA0, hV, rfl, hfz, hnd⟩ := hW
  have hA : DataW.TrodAll enc Try.prog W 0 (fun _ => true) true Try.f3.params.toList args.toList ds p := hA0
  rw [Try.params3] at hA hval
  obtain ⟨v0, vs0, d0, ds0, p0, q0, hargs, rfl, rfl, h0, r0⟩ := trodAll_cons hA
  obtain ⟨v1, vs1, d1, ds1, p1, q1, rfl, rfl, rfl, h1, r1⟩ := trodAll_cons r0
  obtain ⟨rfl, rfl, rfl⟩ := trodAll_nil r1
  obtain rfl : args = #[v0, v1] := by cases args; simp_all
  obtain ⟨rfl, rfl⟩ := trodVars_none hV
  obtain ⟨o0, k0, l0, rfl, A0, c0, w0⟩ := arg_cells h0 (hval 0 22 v0 rfl rfl)
  obtain ⟨t1, v1, b1, rfl, w1, x1⟩ := arg_ask (hval 1 25 v1 rfl rfl)
  refine (walkGoes_walk (w := W) o0 k0 l0 t1 v1 b1 A0 c0 w0 w1 x1).mono fun e W' ⟨he, hb⟩ => ?_
  subst he
  exact ⟨_, rfl, post_law laid hW' rfl (by kernel_rfl) rfl Try.underlying4 rfl hb⟩

/-- The statement. -/
theorem walkGoes_holds : Rows.WalkGoesSaid :=
  OpenClaim.holds_of_wide 3 Try.f3 rfl rfl rfl rfl rfl rfl rfl ⟨rfl, rfl, rfl, rfl, rfl⟩ rfl rfl rfl rfl rfl (by kernel_rfl) Try.func3 (by kernel_rfl)
    (of_decide_eq_true (by kernel_rfl)) (by unfold Func.isWrapper; first | (rw [if_pos (by decide +kernel)]; kernel_rfl) | (rw [if_neg (by decide +kernel)]; exact ⟨rfl, rfl⟩))
    (fun os started H enc _ => walkGoes_lifted os started H enc)
#print axioms walkGoes_holds
