/- The statement IsaUnlike: proved of every input, without condition. -/
import Derived.Test.YtfhnbheknggklaaRows
import Derived.Test.YtfhnbheknggklaaAwake03
namespace Go.Proofs.Ytfhnbheknggklaa
open Go.ChangeShapes Go.WideShapes Go.ChangeAt Go.RowKit
set_option linter.unusedSimpArgs false
set_option linter.unusedVariables false


theorem encW_or (x : X) : ∃ e v : Int, errX x = e ∧ encW x = v ∧ ((e = 30 ∧ ¬ rightP x) ∨ (e = 0 ∧ rightP x ∧ v = wordX x)) := by
  by_cases hr : rightP x
  · exact ⟨0, wordX x, errX_yes hr, if_pos hr, .inr ⟨rfl, hr, rfl⟩⟩
  · exact ⟨30, 0, errX_no hr, if_neg hr, .inl ⟨rfl, hr⟩⟩

set_option maxHeartbeats 4000000 in
theorem isaUnlike_walk (x y : X) (hx : X64 x) (hy : X64 y) (w : World) : Calls Try.prog 7 #[instrV x, instrV y] w (RetB (.bool true) w) := by
  clear hx hy
  obtain ⟨e1, v1, h1, h2, hc1⟩ := encW_or x
  obtain ⟨e2, v2, h3, h4, hc2⟩ := encW_or y
  have HE1 := Lib.hid h1
  have HW1 := Lib.hid h2
  have HE2 := Lib.hid h3
  have HW2 := Lib.hid h4
  clear h1 h2 h3 h4
  have key : (e1 = 30) ∨ (e1 = 0 ∧ e2 = 30) ∨ (e1 = 0 ∧ e2 = 0 ∧ v1 = v2 ∧ x = y) ∨ (e1 = 0 ∧ e2 = 0 ∧ ¬ v1 = v2 ∧ ¬ x = y) := by
    rcases hc1 with ⟨a, _⟩ | ⟨a, ra, wa⟩
    · exact .inl a
    · rcases hc2 with ⟨b, _⟩ | ⟨b, rb, wb⟩
      · exact .inr (.inl ⟨a, b⟩)
      · by_cases hxy : x = y
        · exact .inr (.inr (.inl ⟨a, b, by rw [wa, wb, hxy], hxy⟩))
        · exact .inr (.inr (.inr ⟨a, b, fun h => hxy (word_inj ra rb (by rw [← wa, ← wb, h])), hxy⟩))
  clear hc1 hc2
  obtain ⟨op, d, n, m, imm, kind⟩ := x
  obtain ⟨op2, d2, n2, m2, imm2, kind2⟩ := y
  have c1 : Hid (∀ W, Calls Try.prog 10 #[.agg #[.int .i64 op, .int .i64 d, .int .i64 n, .int .i64 m, .int .i64 imm, .int .i64 kind]] W (RetB (.tuple #[.int .u32 v1, .int .i64 e1]) W)) := Lib.hid fun W => by
    have := encode_any ⟨op, d, n, m, imm, kind⟩ W
    rw [HE1.out, HW1.out] at this
    exact this
  have c2 : Hid (∀ W, Calls Try.prog 10 #[.agg #[.int .i64 op2, .int .i64 d2, .int .i64 n2, .int .i64 m2, .int .i64 imm2, .int .i64 kind2]] W (RetB (.tuple #[.int .u32 v2, .int .i64 e2]) W)) := Lib.hid fun W => by
    have := encode_any ⟨op2, d2, n2, m2, imm2, kind2⟩ W
    rw [HE2.out, HW2.out] at this
    exact this
  clear HE1 HE2 HW1 HW2
  simp only [instrV]
  rcases key with rfl | ⟨rfl, rfl⟩ | ⟨rfl, rfl, hv, hxy⟩ | ⟨rfl, rfl, hv, hxy⟩
  · go_enter Try.func7, Try.ntmps7
    go_wp2_with (first | (go_at_call 9; refine (awake_any _).mono ?_; rintro e w1 ⟨rfl, hb⟩; have B1 : Below w.heap.size w w1 := Below.trans (by repeat' (first | with_reducible exact Below.refl _ _ | with_reducible assumption | with_reducible apply below_drewN | with_reducible apply Below.drew | with_reducible refine Below.setCell ?_ ?_ _ | with_reducible refine Below.alloc ?_ ?_ _ | omega | (simp; done) | (simp; omega))) (hb.mono (by first | omega | (simp; done) | (simp; omega))); have Bz1 := B1.size; obtain ⟨k1, k2, k3, k4⟩ := keepB hb w.heap.size (by first | omega | (simp; done) | (simp; omega)); obtain ⟨s1, s2, s3, s4⟩ := keepB hb (w.heap.size + 1) (by first | omega | (simp; done) | (simp; omega)); clear hb) | (go_at_call 10; (with_reducible refine (c1.out _).mono ?_); rintro e w2 ⟨rfl, hb⟩; have B : Below w.heap.size w w2 := Below.trans (by repeat' (first | with_reducible exact Below.refl _ _ | with_reducible assumption | with_reducible apply below_drewN | with_reducible apply Below.drew | with_reducible refine Below.setCell ?_ ?_ _ | with_reducible refine Below.alloc ?_ ?_ _ | omega | (simp; done) | (simp; omega))) (hb.mono (by first | omega | (simp; done) | (simp; omega))); have Bz := B.size; obtain ⟨k1, k2, k3, k4⟩ := keepB hb w.heap.size (by first | omega | (simp; done) | (simp; omega)); obtain ⟨s1, s2, s3, s4⟩ := keepB hb (w.heap.size + 1) (by first | omega | (simp; done) | (simp; omega)); clear hb) | (go_at_call 10; (with_reducible refine (c2.out _).mono ?_); rintro e w3 ⟨rfl, hb⟩; have B : Below w.heap.size w w3 := Below.trans (by repeat' (first | with_reducible exact Below.refl _ _ | with_reducible assumption | with_reducible apply below_drewN | with_reducible apply Below.drew | with_reducible refine Below.setCell ?_ ?_ _ | with_reducible refine Below.alloc ?_ ?_ _ | omega | (simp; done) | (simp; omega))) (hb.mono (by first | omega | (simp; done) | (simp; omega))); have Bz := B.size; obtain ⟨k1, k2, k3, k4⟩ := keepB hb w.heap.size (by first | omega | (simp; done) | (simp; omega)); obtain ⟨s1, s2, s3, s4⟩ := keepB hb (w.heap.size + 1) (by first | omega | (simp; done) | (simp; omega)); clear hb))
    go_ret
    exact ⟨rfl, by repeat' (first | with_reducible exact Below.refl _ _ | with_reducible assumption | with_reducible apply below_drewN | with_reducible apply Below.drew | with_reducible refine Below.setCell ?_ ?_ _ | with_reducible refine Below.alloc ?_ ?_ _ | omega | (simp; done) | (simp; omega))⟩
  · go_enter Try.func7, Try.ntmps7
    go_wp2_with (first | (go_at_call 9; refine (awake_any _).mono ?_; rintro e w1 ⟨rfl, hb⟩; have B1 : Below w.heap.size w w1 := Below.trans (by repeat' (first | with_reducible exact Below.refl _ _ | with_reducible assumption | with_reducible apply below_drewN | with_reducible apply Below.drew | with_reducible refine Below.setCell ?_ ?_ _ | with_reducible refine Below.alloc ?_ ?_ _ | omega | (simp; done) | (simp; omega))) (hb.mono (by first | omega | (simp; done) | (simp; omega))); have Bz1 := B1.size; obtain ⟨k1, k2, k3, k4⟩ := keepB hb w.heap.size (by first | omega | (simp; done) | (simp; omega)); obtain ⟨s1, s2, s3, s4⟩ := keepB hb (w.heap.size + 1) (by first | omega | (simp; done) | (simp; omega)); clear hb) | (go_at_call 10; (with_reducible refine (c1.out _).mono ?_); rintro e w2 ⟨rfl, hb⟩; have B : Below w.heap.size w w2 := Below.trans (by repeat' (first | with_reducible exact Below.refl _ _ | with_reducible assumption | with_reducible apply below_drewN | with_reducible apply Below.drew | with_reducible refine Below.setCell ?_ ?_ _ | with_reducible refine Below.alloc ?_ ?_ _ | omega | (simp; done) | (simp; omega))) (hb.mono (by first | omega | (simp; done) | (simp; omega))); have Bz := B.size; obtain ⟨k1, k2, k3, k4⟩ := keepB hb w.heap.size (by first | omega | (simp; done) | (simp; omega)); obtain ⟨s1, s2, s3, s4⟩ := keepB hb (w.heap.size + 1) (by first | omega | (simp; done) | (simp; omega)); clear hb) | (go_at_call 10; (with_reducible refine (c2.out _).mono ?_); rintro e w3 ⟨rfl, hb⟩; have B : Below w.heap.size w w3 := Below.trans (by repeat' (first | with_reducible exact Below.refl _ _ | with_reducible assumption | with_reducible apply below_drewN | with_reducible apply Below.drew | with_reducible refine Below.setCell ?_ ?_ _ | with_reducible refine Below.alloc ?_ ?_ _ | omega | (simp; done) | (simp; omega))) (hb.mono (by first | omega | (simp; done) | (simp; omega))); have Bz := B.size; obtain ⟨k1, k2, k3, k4⟩ := keepB hb w.heap.size (by first | omega | (simp; done) | (simp; omega)); obtain ⟨s1, s2, s3, s4⟩ := keepB hb (w.heap.size + 1) (by first | omega | (simp; done) | (simp; omega)); clear hb))
    go_ret
    exact ⟨rfl, by repeat' (first | with_reducible exact Below.refl _ _ | with_reducible assumption | with_reducible apply below_drewN | with_reducible apply Below.drew | with_reducible refine Below.setCell ?_ ?_ _ | with_reducible refine Below.alloc ?_ ?_ _ | omega | (simp; done) | (simp; omega))⟩
  · obtain ⟨rfl, rfl, rfl, rfl, rfl, rfl⟩ := X.mk.inj hxy
    subst hv
    clear hxy c2
    have c2 := c1
    go_enter Try.func7, Try.ntmps7
    go_wp2_with (first | (go_at_call 9; refine (awake_any _).mono ?_; rintro e w1 ⟨rfl, hb⟩; have B1 : Below w.heap.size w w1 := Below.trans (by repeat' (first | with_reducible exact Below.refl _ _ | with_reducible assumption | with_reducible apply below_drewN | with_reducible apply Below.drew | with_reducible refine Below.setCell ?_ ?_ _ | with_reducible refine Below.alloc ?_ ?_ _ | omega | (simp; done) | (simp; omega))) (hb.mono (by first | omega | (simp; done) | (simp; omega))); have Bz1 := B1.size; obtain ⟨k1, k2, k3, k4⟩ := keepB hb w.heap.size (by first | omega | (simp; done) | (simp; omega)); obtain ⟨s1, s2, s3, s4⟩ := keepB hb (w.heap.size + 1) (by first | omega | (simp; done) | (simp; omega)); clear hb) | (go_at_call 10; (with_reducible refine (c1.out _).mono ?_); rintro e w2 ⟨rfl, hb⟩; have B : Below w.heap.size w w2 := Below.trans (by repeat' (first | with_reducible exact Below.refl _ _ | with_reducible assumption | with_reducible apply below_drewN | with_reducible apply Below.drew | with_reducible refine Below.setCell ?_ ?_ _ | with_reducible refine Below.alloc ?_ ?_ _ | omega | (simp; done) | (simp; omega))) (hb.mono (by first | omega | (simp; done) | (simp; omega))); have Bz := B.size; obtain ⟨k1, k2, k3, k4⟩ := keepB hb w.heap.size (by first | omega | (simp; done) | (simp; omega)); obtain ⟨s1, s2, s3, s4⟩ := keepB hb (w.heap.size + 1) (by first | omega | (simp; done) | (simp; omega)); clear hb) | (go_at_call 10; (with_reducible refine (c2.out _).mono ?_); rintro e w3 ⟨rfl, hb⟩; have B : Below w.heap.size w w3 := Below.trans (by repeat' (first | with_reducible exact Below.refl _ _ | with_reducible assumption | with_reducible apply below_drewN | with_reducible apply Below.drew | with_reducible refine Below.setCell ?_ ?_ _ | with_reducible refine Below.alloc ?_ ?_ _ | omega | (simp; done) | (simp; omega))) (hb.mono (by first | omega | (simp; done) | (simp; omega))); have Bz := B.size; obtain ⟨k1, k2, k3, k4⟩ := keepB hb w.heap.size (by first | omega | (simp; done) | (simp; omega)); obtain ⟨s1, s2, s3, s4⟩ := keepB hb (w.heap.size + 1) (by first | omega | (simp; done) | (simp; omega)); clear hb))
    go_ret
    exact ⟨by simp, by repeat' (first | with_reducible exact Below.refl _ _ | with_reducible assumption | with_reducible apply below_drewN | with_reducible apply Below.drew | with_reducible refine Below.setCell ?_ ?_ _ | with_reducible refine Below.alloc ?_ ?_ _ | omega | (simp; done) | (simp; omega))⟩
  · have hvv : (v1 == v2) = false := by simpa using hv
    have HX := Lib.hid hxy
    clear hxy hv
    go_enter Try.func7, Try.ntmps7
    go_wp2_with (first | (go_at_call 9; refine (awake_any _).mono ?_; rintro e w1 ⟨rfl, hb⟩; have B1 : Below w.heap.size w w1 := Below.trans (by repeat' (first | with_reducible exact Below.refl _ _ | with_reducible assumption | with_reducible apply below_drewN | with_reducible apply Below.drew | with_reducible refine Below.setCell ?_ ?_ _ | with_reducible refine Below.alloc ?_ ?_ _ | omega | (simp; done) | (simp; omega))) (hb.mono (by first | omega | (simp; done) | (simp; omega))); have Bz1 := B1.size; obtain ⟨k1, k2, k3, k4⟩ := keepB hb w.heap.size (by first | omega | (simp; done) | (simp; omega)); obtain ⟨s1, s2, s3, s4⟩ := keepB hb (w.heap.size + 1) (by first | omega | (simp; done) | (simp; omega)); clear hb) | (go_at_call 10; (with_reducible refine (c1.out _).mono ?_); rintro e w2 ⟨rfl, hb⟩; have B : Below w.heap.size w w2 := Below.trans (by repeat' (first | with_reducible exact Below.refl _ _ | with_reducible assumption | with_reducible apply below_drewN | with_reducible apply Below.drew | with_reducible refine Below.setCell ?_ ?_ _ | with_reducible refine Below.alloc ?_ ?_ _ | omega | (simp; done) | (simp; omega))) (hb.mono (by first | omega | (simp; done) | (simp; omega))); have Bz := B.size; obtain ⟨k1, k2, k3, k4⟩ := keepB hb w.heap.size (by first | omega | (simp; done) | (simp; omega)); obtain ⟨s1, s2, s3, s4⟩ := keepB hb (w.heap.size + 1) (by first | omega | (simp; done) | (simp; omega)); clear hb) | (go_at_call 10; (with_reducible refine (c2.out _).mono ?_); rintro e w3 ⟨rfl, hb⟩; have B : Below w.heap.size w w3 := Below.trans (by repeat' (first | with_reducible exact Below.refl _ _ | with_reducible assumption | with_reducible apply below_drewN | with_reducible apply Below.drew | with_reducible refine Below.setCell ?_ ?_ _ | with_reducible refine Below.alloc ?_ ?_ _ | omega | (simp; done) | (simp; omega))) (hb.mono (by first | omega | (simp; done) | (simp; omega))); have Bz := B.size; obtain ⟨k1, k2, k3, k4⟩ := keepB hb w.heap.size (by first | omega | (simp; done) | (simp; omega)); obtain ⟨s1, s2, s3, s4⟩ := keepB hb (w.heap.size + 1) (by first | omega | (simp; done) | (simp; omega)); clear hb))
    all_goals
      go_ret
      refine ⟨?_, by repeat' (first | with_reducible exact Below.refl _ _ | with_reducible assumption | with_reducible apply below_drewN | with_reducible apply Below.drew | with_reducible refine Below.setCell ?_ ?_ _ | with_reducible refine Below.alloc ?_ ?_ _ | omega | (simp; done) | (simp; omega))⟩
      first | rfl | (have hq := HX.out; simp only [X.mk.injEq] at hq; simp_all)

set_option maxRecDepth 100000 in
theorem isaUnlike_lifted (os : Os) (started : os.Started) (H : Type) (enc : TypeId × Value → H) :
    ReturnsInHanded {} Try.checked os 7 .any (Rows.isaUnlikeSpec.pre6 enc Try.prog Try.f7 Rows.isaUnlikeRow.domain false) (Rows.isaUnlikeSpec.post enc Try.prog Try.f7 false true false false) := by
  refine returnsInHanded_of_change (C := Try.checked) own started (by kernel_rfl) Try.func7
    (ChangeSpec.witness6 (enc := enc) (C := Try.checked) false ⟨#[], #[instrV X.zero, instrV X.zero], []⟩ 8 (by kernel_rfl) (by kernel_rfl) (by kernel_rfl) (by kernel_rfl)) ?_
  intro W base args ds gs before hval0 hW _ _
  have hval : ∀ (j : Nat) t v, Try.f7.params[j]? = some t → args[j]? = some v → Value.okWide Try.prog W .any base t v := hval0
  have hW' := hW
  obtain ⟨p, q, hA0, hV, rfl, hfz, hnd⟩ := hW
  have hA : DataW.TrodAll enc Try.prog W 0 (fun _ => true) true Try.f7.params.toList args.toList ds p := hA0
  rw [Try.params7] at hA hval
  obtain ⟨v0, vs0, d0, ds0, p0, q0, hargs, rfl, rfl, h0, r0⟩ := trodAll_cons hA
  obtain ⟨v1, vs1, d1, ds1, p1, q1, rfl, rfl, rfl, h1, r1⟩ := trodAll_cons r0
  obtain ⟨rfl, rfl, rfl⟩ := trodAll_nil r1
  obtain rfl : args = #[v0, v1] := by cases args; simp_all
  obtain ⟨rfl, rfl⟩ := trodVars_none hV
  obtain ⟨a0, rfl, w0⟩ := arg_instr (hval 0 23 v0 rfl rfl)
  obtain ⟨a1, rfl, w1⟩ := arg_instr (hval 1 23 v1 rfl rfl)
  refine (isaUnlike_walk a0 a1 w0 w1 W).mono fun e W' ⟨he, hb⟩ => ?_
  subst he
  exact ⟨_, rfl, post_law laid hW' rfl (by kernel_rfl) rfl Try.underlying4 rfl hb⟩

/-- The statement. -/
theorem isaUnlike_holds : Rows.IsaUnlikeSaid :=
  OpenClaim.holds_of_wide 7 Try.f7 rfl rfl rfl rfl rfl rfl rfl ⟨rfl, rfl, rfl, rfl, rfl⟩ rfl rfl rfl rfl rfl (by kernel_rfl) Try.func7 (by kernel_rfl)
    (of_decide_eq_true (by kernel_rfl)) (by unfold Func.isWrapper; first | (rw [if_pos (by decide +kernel)]; kernel_rfl) | (rw [if_neg (by decide +kernel)]; exact ⟨rfl, rfl⟩))
    (fun os started H enc _ => isaUnlike_lifted os started H enc)
#print axioms isaUnlike_holds

end Go.Proofs.Ytfhnbheknggklaa