/- Contracts of package field's and its reference's functions on parts of words. -/
import Derived.Test.YtcaggboeacgknaaProg
import Derived.Test.YtcaggboeacgknaaBase
import Derived.BigQuiet
import Derived.Deep.QuietTactic
namespace Go.Proofs.Ytcaggboeacgknaa
set_option linter.unusedSimpArgs false
set_option linter.unusedVariables false
open Go.RowKit

theorem right_any (hi lo : Int) (w : World) : Calls Try.prog 63 #[.int .i64 hi, .int .i64 lo] w (Ret (.bool (rightB hi lo)) w) := by
  have e : rightB hi lo = (decide (0 ≤ lo) && (decide (lo ≤ hi) && decide (hi < 64))) := by unfold rightB; rw [Bool.and_assoc]
  rw [e]
  clear e
  go_enter Try.func63, Try.ntmps63
  go_wp2
  all_goals (go_ret; refine ⟨?_, rfl⟩; simp [*]; try (intros; omega))


theorem mask_any (n : Int) (w : World) (h0 : 0 ≤ n) : Calls Try.prog 58 #[.int .i64 n] w (Ret (.int .u64 (maskZ n)) w) := by
  by_cases h : n < 64
  · have H := Lib.hid (mask_small h0 h)
    go_enter Try.func58, Try.ntmps58
    go_wp2
    go_ret
    exact ⟨by rw [← H.out]; rfl, rfl⟩
  · go_enter Try.func58, Try.ntmps58
    go_wp2
    go_ret
    refine ⟨?_, rfl⟩
    simp [maskZ]; omega

theorem get_any (a hi lo : Int) (w : World) (ha : U64 a) : Calls Try.prog 46 #[.int .u64 a, .int .i64 hi, .int .i64 lo] w (RetQ (.int .u64 (getZ a hi lo)) w) := by
  cases hr : rightB hi lo
  · have H := Lib.hid (getZ_no (a := a) hr)
    have Hr := Lib.hid hr
    clear hr
    go_enter Try.func46, Try.ntmps46
    go_wp2_with (go_at_call 63; refine (right_any _ _ _).mono ?_; rintro e w' ⟨rfl, rfl⟩; rw [Hr.out])
    go_ret
    exact ⟨by rw [H.out]; rfl, 0, rfl⟩
  · obtain ⟨h1, h2, h3⟩ := rightB_iff.1 hr
    have H := Lib.hid (get_eq ha h1 h2 h3)
    have Hr := Lib.hid hr
    clear hr
    go_enter Try.func46, Try.ntmps46
    go_wp2_with (go_at_call 63; refine (right_any _ _ _).mono ?_; rintro e w' ⟨rfl, rfl⟩; rw [Hr.out])
    go_quiet ((go_at_call 58; exact Calls.quiet_of_same ((mask_any _ _ (by omega)).mono fun _ _ h => ⟨h.1, h.2.symm⟩)))
    go_wp2
    go_ret
    exact ⟨by rw [← H.out]; rfl, nq, rfl⟩


theorem bit_any (a n : Int) (w : World) (ha : U64 a) : Calls Try.prog 68 #[.int .u64 a, .int .i64 n] w (RetQ (.bool (bitB a n)) w) := by
  go_enter Try.func68, Try.ntmps68
  go_wp2_with (go_at_call 46; refine (get_any _ _ _ _ ha).mono ?_; rintro e w' ⟨rfl, n, rfl⟩)
  go_ret
  exact ⟨rfl, _, rfl⟩


theorem down_any (a n : Int) (w : World) (ha : U64 a) : Calls Try.prog 39 #[.int .u64 a, .int .i64 n] w (Ret (.int .u64 (downZ a n)) w) := by
  by_cases h : n ≤ 0
  · go_enter Try.func39, Try.ntmps39
    go_wp2
    go_ret
    exact ⟨by unfold downZ; rw [if_pos h]; rfl, rfl⟩
  · have H := Lib.hid (downZ_eq (n := n) ha (by omega))
    go_enter Try.func39, Try.ntmps39
    go_wp2_with (go_at_call 58; refine (mask_any _ _ (by omega)).mono ?_; rintro e w' ⟨rfl, rfl⟩)
    go_ret
    exact ⟨by rw [← H.out]; rfl, rfl⟩







end Go.Proofs.Ytcaggboeacgknaa
