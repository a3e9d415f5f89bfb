/- The statement WalkFirst: what a first descriptor says. No conditions. -/
import Derived.Test.YtogoclcjkekplaaAwake08
import Derived.Test.YtogoclcjkekplaaRows
namespace Go.Proofs.Ytogoclcjkekplaa
open Go.RowKit Go.ChangeShapes Go.WideShapes Go.ChangeAt

set_option maxRecDepth 100000 in
set_option maxHeartbeats 4000000 in
theorem walkFirst_walk (a va : Int) (ha : U64 a) (hva : U64 va) (w : World) :
    Calls Try.prog 5 #[.int .u64 a, .int .u64 va] w (RetB (.bool true) w) := by
  have F0 := dfield0
  have HF : Hid (firstF a = if (decD a 1).valid = true then Fa.zero else ⟨3, 1, false⟩) := Lib.hid rfl
  go_enter Try.func5, Try.ntmps5
  go_wp2_with fail
  refine (awake_any _).mono ?_
  rintro e w1 ⟨rfl, hb⟩
  have B1 : Below w.heap.size w w1 := Below.trans (by repeat' (first | with_reducible exact Below.refl _ _ | with_reducible assumption | with_reducible apply below_drewN | with_reducible apply Below.drew | with_reducible refine Below.setCell ?_ ?_ _ | with_reducible refine Below.alloc ?_ ?_ _ | omega | (simp; done) | (simp; omega))) (hb.mono (by first | omega | (simp; done) | (simp; omega)))
  have Bz1 := B1.size
  clear hb
  cases hv : (decD a 1).valid
  all_goals
    have HV := Lib.hid hv
    simp only [hv, if_true, Bool.false_eq_true, if_false] at HF
    clear hv
    go_wp2_with fail
    refine (first_any a va _ ha hva).mono ?_
    rw [HF.out]
    obtain ⟨z, hz⟩ : ∃ z, z = secondZ a va := ⟨_, rfl⟩
    obtain ⟨b, hbb⟩ : ∃ b, b = tableB a := ⟨_, rfl⟩
    have HZ := Lib.hid hz
    have HB := Lib.hid hbb
    rw [← hz, ← hbb]
    clear hz hbb
    rintro e w2 ⟨rfl, hb⟩
    simp only [faultV, Fa.zero]
    have B2 : Below w1.heap.size w1 w2 := hb
    have Bz2 := hb.size
    clear hb
    go_wp2_with fail
    refine (second_any a va _ ha hva).mono ?_
    rw [← HZ.out, ← HB.out]
    rintro e w3 ⟨rfl, hb⟩
    have B3 : Below w2.heap.size w2 w3 := Below.trans (by repeat' (first | with_reducible exact Below.refl _ _ | with_reducible assumption | with_reducible apply below_drewN | with_reducible apply Below.drew | with_reducible refine Below.setCell ?_ ?_ _ | with_reducible refine Below.alloc ?_ ?_ _ | omega | (simp; done) | (simp; omega))) (hb.mono (by first | omega | (simp; done) | (simp; omega)))
    have Bz3 := B3.size
    obtain ⟨k1, k2, k3, k4⟩ := keepB hb w2.heap.size (by first | omega | (simp; done) | (simp; omega))
    clear hb
    go_wp2_with fail
    refine (refDecode_any a 1 _ ha).mono ?_
    rintro e w4 ⟨rfl, hb⟩
    simp only [descV]
    rw [HV.out]
    have B4 : Below w3.heap.size w3 w4 := hb
    obtain ⟨m1, m2, m3, m4⟩ := keepB hb w2.heap.size k3
    clear hb
    go_wp2_with fail
    go_ret
    exact ⟨rfl, B1.trans (Below.mono (B2.trans (Below.mono (B3.trans (B4.mono Bz3)) Bz2)) Bz1)⟩

set_option maxRecDepth 100000
set_option maxRecDepth 100000 in
theorem walkFirst_lifted (os : Os) (started : os.Started) (H : Type) (enc : TypeId × Value → H) :
    ReturnsInHanded {} Try.checked os 5 .any (Rows.walkFirstSpec.pre6 enc Try.prog Try.f5 Rows.walkFirstRow.domain false) (Rows.walkFirstSpec.post enc Try.prog Try.f5 false true false false) := by
  refine returnsInHanded_of_change (C := Try.checked) own started (by kernel_rfl) Try.func5
    (ChangeSpec.witness6 (enc := enc) (C := Try.checked) false ⟨#[], #[.int .u64 0, .int .u64 0], []⟩ 8 (by kernel_rfl) (by kernel_rfl) (by kernel_rfl) (by kernel_rfl)) ?_
  intro W base args ds gs before hval0 hW _ _
  have hval : ∀ (j : Nat) t v, Try.f5.params[j]? = some t → args[j]? = some v → Value.okWide Try.prog W .any base t v := hval0
  have hW' := hW
  obtain ⟨p, q, hA0, hV, rfl, hfz, hnd⟩ := hW
  have hA : DataW.TrodAll enc Try.prog W 0 (fun _ => true) true Try.f5.params.toList args.toList ds p := hA0
  rw [Try.params5] at hA hval
  obtain ⟨v0, vs0, d0, ds0, p0, q0, hargs, rfl, rfl, h0, r0⟩ := trodAll_cons hA
  obtain ⟨v1, vs1, d1, ds1, p1, q1, rfl, rfl, rfl, h1, r1⟩ := trodAll_cons r0
  obtain ⟨rfl, rfl, rfl⟩ := trodAll_nil r1
  obtain rfl : args = #[v0, v1] := by cases args; simp_all
  obtain ⟨rfl, rfl⟩ := trodVars_none hV
  obtain ⟨a0, rfl, w0⟩ := arg_u64 Try.underlying23 (hval 0 23 v0 rfl rfl)
  obtain ⟨a1, rfl, w1⟩ := arg_u64 Try.underlying23 (hval 1 23 v1 rfl rfl)
  refine (walkFirst_walk a0 a1 w0 w1 W).mono fun e W' ⟨he, hb⟩ => ?_
  subst he
  exact ⟨_, rfl, post_law laid hW' rfl (by kernel_rfl) rfl Try.underlying4 rfl hb⟩

/-- The statement. -/
theorem walkFirst_holds : Rows.WalkFirstSaid :=
  OpenClaim.holds_of_wide 5 Try.f5 rfl rfl rfl rfl rfl rfl rfl ⟨rfl, rfl, rfl, rfl, rfl⟩ rfl rfl rfl rfl rfl (by kernel_rfl) Try.func5 (by kernel_rfl)
    (of_decide_eq_true (by kernel_rfl)) (by unfold Func.isWrapper; first | (rw [if_pos (by decide +kernel)]; kernel_rfl) | (rw [if_neg (by decide +kernel)]; exact ⟨rfl, rfl⟩))
    (fun os started H enc _ => walkFirst_lifted os started H enc)
#print axioms walkFirst_holds
