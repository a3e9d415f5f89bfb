/- Contracts of package field's and its reference's functions on parts of words. -/
import Derived.Test.YtdlodacogldinaaProg
import Derived.Test.YtdlodacogldinaaBase
import Derived.BigQuiet
import Derived.Deep.QuietTactic
namespace Go.Proofs.Ytdlodacogldinaa
set_option linter.unusedSimpArgs false
set_option linter.unusedVariables false
open Go.RowKit

theorem right_any (hi lo : Int) (w : World) : Calls Try.prog 63 #[.int .i64 hi, .int .i64 lo] w (Ret (.bool (rightB hi lo)) w) := by
  have e : rightB hi lo = (decide (0 ≤ lo) && (decide (lo ≤ hi) && decide (hi < 64))) := by unfold rightB; rw [Bool.and_assoc]
  rw [e]
  clear e
  go_enter Try.func63, Try.ntmps63
  go_wp2
  all_goals (go_ret; refine ⟨?_, rfl⟩; simp [*]; try (intros; omega))


theorem mask_any (n : Int) (w : World) (h0 : 0 ≤ n) : Calls Try.prog 64 #[.int .i64 n] w (Ret (.int .u64 (maskZ n)) w) := by
  by_cases h : n < 64
  · have H := Lib.hid (mask_small h0 h)
    go_enter Try.func64, Try.ntmps64
    go_wp2
    go_ret
    exact ⟨by rw [← H.out]; rfl, rfl⟩
  · go_enter Try.func64, Try.ntmps64
    go_wp2
    go_ret
    refine ⟨?_, rfl⟩
    simp [maskZ]; omega

theorem get_any (a hi lo : Int) (w : World) (ha : U64 a) : Calls Try.prog 50 #[.int .u64 a, .int .i64 hi, .int .i64 lo] w (RetQ (.int .u64 (getZ a hi lo)) w) := by
  cases hr : rightB hi lo
  · have H := Lib.hid (getZ_no (a := a) hr)
    have Hr := Lib.hid hr
    clear hr
    go_enter Try.func50, Try.ntmps50
    go_wp2_with (go_at_call 63; refine (right_any _ _ _).mono ?_; rintro e w' ⟨rfl, rfl⟩; rw [Hr.out])
    go_ret
    exact ⟨by rw [H.out]; rfl, 0, rfl⟩
  · obtain ⟨h1, h2, h3⟩ := rightB_iff.1 hr
    have H := Lib.hid (get_eq ha h1 h2 h3)
    have Hr := Lib.hid hr
    clear hr
    go_enter Try.func50, Try.ntmps50
    go_wp2_with (go_at_call 63; refine (right_any _ _ _).mono ?_; rintro e w' ⟨rfl, rfl⟩; rw [Hr.out])
    go_quiet ((go_at_call 64; exact Calls.quiet_of_same ((mask_any _ _ (by omega)).mono fun _ _ h => ⟨h.1, h.2.symm⟩)))
    go_wp2
    go_ret
    exact ⟨by rw [← H.out]; rfl, nq, rfl⟩







theorem put_any (a hi lo v : Int) (w : World) (ha : U64 a) (hv : U64 v) : Calls Try.prog 49 #[.int .u64 a, .int .i64 hi, .int .i64 lo, .int .u64 v] w (RetQ (.int .u64 (putZ a hi lo v)) w) := by
  cases hr : rightB hi lo
  · have H := Lib.hid (putZ_no (a := a) (v := v) hr)
    have Hr := Lib.hid hr
    clear hr
    go_enter Try.func49, Try.ntmps49
    go_wp2_with (go_at_call 63; refine (right_any _ _ _).mono ?_; rintro e w' ⟨rfl, rfl⟩; rw [Hr.out])
    go_ret
    exact ⟨by rw [H.out]; rfl, 0, rfl⟩
  · obtain ⟨h1, h2, h3⟩ := rightB_iff.1 hr
    have H := Lib.hid (put_eq ha hv h1 h2 h3)
    have Hr := Lib.hid hr
    clear hr
    go_enter Try.func49, Try.ntmps49
    go_wp2_with (first | (go_at_call 63; refine (right_any _ _ _).mono ?_; rintro e w' ⟨rfl, rfl⟩; rw [Hr.out]) | (go_at_call 64; refine (mask_any _ _ (by omega)).mono ?_; rintro e w' ⟨rfl, rfl⟩))
    go_quiet (fail)
    go_wp2
    go_ret
    exact ⟨by rw [← H.out]; rfl, nq, rfl⟩




end Go.Proofs.Ytdlodacogldinaa
