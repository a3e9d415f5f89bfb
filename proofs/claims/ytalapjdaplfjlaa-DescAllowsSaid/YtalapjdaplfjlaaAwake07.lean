/- The statements of layer 7: the page's examples. -/
import Derived.Test.YtalapjdaplfjlaaRows
import Derived.Test.YtalapjdaplfjlaaRow
import Derived.Test.YtalapjdaplfjlaaDescRef
import Derived.Test.YtalapjdaplfjlaaDescRefb
import Derived.Test.YtalapjdaplfjlaaBack
namespace Go.Proofs.Ytalapjdaplfjlaa
open Go.ChangeShapes Go.WideShapes Go.ChangeAt Go.RowKit
set_option linter.unusedVariables false

theorem own : ownKnob Try.prog.godebug = none := by kernel_rfl
theorem laid : laidOutB Try.prog = true := by kernel_rfl

theorem arg_desc {w : World} {base : Nat} {v : Value} (h : Value.okWide Try.prog w .any base 25 v) : ∃ d : D, v = descV d ∧ U64 d.out := by
  obtain ⟨l, rfl, hlen, hall⟩ := agg_cells (ts := [4, 4, 22, 4, 4, 4, 4]) Try.underlying25 (n := 7) (by kernel_rfl) (by kernel_rfl) rfl h
  match l, hlen with
  | [c0, c1, c2, c3, c4, c5, c6], _ =>
    obtain ⟨_, e0, k0⟩ := hall 0 _ rfl
    obtain ⟨_, e1, k1⟩ := hall 1 _ rfl
    obtain ⟨_, e2, k2⟩ := hall 2 _ rfl
    obtain ⟨_, e3, k3⟩ := hall 3 _ rfl
    obtain ⟨_, e4, k4⟩ := hall 4 _ rfl
    obtain ⟨_, e5, k5⟩ := hall 5 _ rfl
    obtain ⟨_, e6, k6⟩ := hall 6 _ rfl
    simp only [List.getElem?_cons_zero, List.getElem?_cons_succ, Option.some.injEq] at e0 e1 e2 e3 e4 e5 e6
    subst e0 e1 e2 e3 e4 e5 e6
    obtain ⟨b0, rfl⟩ := cell_bool Try.underlying4 k0
    obtain ⟨b1, rfl⟩ := cell_bool Try.underlying4 k1
    obtain ⟨n2, rfl, h2⟩ := cell_u64 Try.underlying22 k2
    obtain ⟨b3, rfl⟩ := cell_bool Try.underlying4 k3
    obtain ⟨b4, rfl⟩ := cell_bool Try.underlying4 k4
    obtain ⟨b5, rfl⟩ := cell_bool Try.underlying4 k5
    obtain ⟨b6, rfl⟩ := cell_bool Try.underlying4 k6
    exact ⟨⟨b0, b1, n2, b3, b4, b5, b6⟩, rfl, h2⟩

theorem u64_lit (n : Int) (h : (decide (0 ≤ n) && decide (n < 18446744073709551616)) = true) : U64 n := by
  simp only [Bool.and_eq_true, decide_eq_true_eq] at h
  exact h

theorem awake1 : decD 1073742851 2 = ⟨true, false, 1073741824, true, false, false, false⟩ := by decide +kernel
theorem awake2 : (decD 12288 1).valid = false := by decide +kernel
theorem awake3 : decD 12291 1 = ⟨true, true, 12288, false, false, false, false⟩ := by decide +kernel

theorem awake_any (w : World) : Calls Try.prog 9 #[] w (RetB (.bool true) w) := by
  have A1 := Lib.hid awake1
  have A2 := Lib.hid awake2
  have A3 := Lib.hid awake3
  have F0 := dfield0
  go_enter Try.func9, Try.ntmps9
  go_wp2_with fail
  refine (decode_any 1073742851 2 _ (u64_lit _ rfl)).mono ?_
  rintro e w1 ⟨rfl, hb1⟩
  rw [A1.out]
  go_wp2_with fail
  refine (decode_any 12288 1 _ (u64_lit _ rfl)).mono ?_
  rintro e w2 ⟨rfl, hb2⟩
  simp only [descV]
  rw [A2.out]
  go_wp2_with fail
  refine (decode_any 12291 1 _ (u64_lit _ rfl)).mono ?_
  rintro e w3 ⟨rfl, hb3⟩
  rw [A3.out]
  go_wp2_with fail
  refine (table_any _ _).mono ?_
  rintro e w4 ⟨rfl, hb4⟩
  go_wp2_with fail
  go_ret
  exact ⟨rfl, hb1.trans ((hb2.mono hb1.size).trans ((hb3.mono (Nat.le_trans hb1.size hb2.size)).trans (hb4.mono (Nat.le_trans hb1.size (Nat.le_trans hb2.size hb3.size)))))⟩


end Go.Proofs.Ytalapjdaplfjlaa
