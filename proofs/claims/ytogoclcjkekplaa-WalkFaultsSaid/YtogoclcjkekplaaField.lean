/- Contracts of package field's and its reference's functions on parts of words. -/
import Derived.Test.YtogoclcjkekplaaProg
import Derived.Test.YtogoclcjkekplaaBase
import Derived.BigQuiet
import Derived.Deep.QuietTactic
namespace Go.Proofs.Ytogoclcjkekplaa
open Go.RowKit

theorem right_any (hi lo : Int) (w : World) : Calls Try.prog 62 #[.int .i64 hi, .int .i64 lo] w (Ret (.bool (rightB hi lo)) w) := by
  have e : rightB hi lo = (decide (0 ≤ lo) && (decide (lo ≤ hi) && decide (hi < 64))) := by unfold rightB; rw [Bool.and_assoc]
  rw [e]
  clear e
  go_enter Try.func62, Try.ntmps62
  go_wp2
  all_goals (go_ret; refine ⟨?_, rfl⟩; simp [*]; try (intros; omega))


theorem mask_any (n : Int) (w : World) (h0 : 0 ≤ n) : Calls Try.prog 57 #[.int .i64 n] w (Ret (.int .u64 (maskZ n)) w) := by
  by_cases h : n < 64
  · have H := Lib.hid (mask_small h0 h)
    go_enter Try.func57, Try.ntmps57
    go_wp2
    go_ret
    exact ⟨by rw [← H.out]; rfl, rfl⟩
  · go_enter Try.func57, Try.ntmps57
    go_wp2
    go_ret
    refine ⟨?_, rfl⟩
    simp [maskZ]; omega

theorem get_any (a hi lo : Int) (w : World) (ha : U64 a) : Calls Try.prog 54 #[.int .u64 a, .int .i64 hi, .int .i64 lo] w (RetQ (.int .u64 (getZ a hi lo)) w) := by
  cases hr : rightB hi lo
  · have H := Lib.hid (getZ_no (a := a) hr)
    have Hr := Lib.hid hr
    clear hr
    go_enter Try.func54, Try.ntmps54
    go_wp2_with (go_at_call 62; refine (right_any _ _ _).mono ?_; rintro e w' ⟨rfl, rfl⟩; rw [Hr.out])
    go_ret
    exact ⟨by rw [H.out]; rfl, 0, rfl⟩
  · obtain ⟨h1, h2, h3⟩ := rightB_iff.1 hr
    have H := Lib.hid (get_eq ha h1 h2 h3)
    have Hr := Lib.hid hr
    clear hr
    go_enter Try.func54, Try.ntmps54
    go_wp2_with (go_at_call 62; refine (right_any _ _ _).mono ?_; rintro e w' ⟨rfl, rfl⟩; rw [Hr.out])
    go_quiet ((go_at_call 57; exact Calls.quiet_of_same ((mask_any _ _ (by omega)).mono fun _ _ h => ⟨h.1, h.2.symm⟩)))
    go_wp2
    go_ret
    exact ⟨by rw [← H.out]; rfl, nq, rfl⟩


theorem bit_any (a n : Int) (w : World) (ha : U64 a) : Calls Try.prog 55 #[.int .u64 a, .int .i64 n] w (RetQ (.bool (bitB a n)) w) := by
  go_enter Try.func55, Try.ntmps55
  go_wp2_with (go_at_call 54; refine (get_any _ _ _ _ ha).mono ?_; rintro e w' ⟨rfl, n, rfl⟩)
  go_ret
  exact ⟨rfl, _, rfl⟩


theorem down_any (a n : Int) (w : World) (ha : U64 a) : Calls Try.prog 56 #[.int .u64 a, .int .i64 n] w (Ret (.int .u64 (downZ a n)) w) := by
  by_cases h : n ≤ 0
  · go_enter Try.func56, Try.ntmps56
    go_wp2
    go_ret
    exact ⟨by unfold downZ; rw [if_pos h]; rfl, rfl⟩
  · have H := Lib.hid (downZ_eq (n := n) ha (by omega))
    go_enter Try.func56, Try.ntmps56
    go_wp2_with (go_at_call 57; refine (mask_any _ _ (by omega)).mono ?_; rintro e w' ⟨rfl, rfl⟩)
    go_ret
    exact ⟨by rw [← H.out]; rfl, rfl⟩


theorem aligned_any (a n : Int) (w : World) (ha : U64 a) : Calls Try.prog 40 #[.int .u64 a, .int .i64 n] w (Ret (.bool (alignedB a n)) w) := by
  by_cases h : n ≤ 0
  · go_enter Try.func40, Try.ntmps40
    go_wp2
    go_ret
    exact ⟨by simp [alignedB, h], rfl⟩
  · have H := Lib.hid (alignedB_eq (n := n) ha (by omega))
    go_enter Try.func40, Try.ntmps40
    go_wp2_with (go_at_call 57; refine (mask_any _ _ (by omega)).mono ?_; rintro e w' ⟨rfl, rfl⟩)
    go_ret
    exact ⟨by rw [← H.out]; rfl, rfl⟩

theorem put_any (a hi lo v : Int) (w : World) (ha : U64 a) (hv : U64 v) : Calls Try.prog 49 #[.int .u64 a, .int .i64 hi, .int .i64 lo, .int .u64 v] w (RetQ (.int .u64 (putZ a hi lo v)) w) := by
  cases hr : rightB hi lo
  · have H := Lib.hid (putZ_no (a := a) (v := v) hr)
    have Hr := Lib.hid hr
    clear hr
    go_enter Try.func49, Try.ntmps49
    go_wp2_with (go_at_call 62; refine (right_any _ _ _).mono ?_; rintro e w' ⟨rfl, rfl⟩; rw [Hr.out])
    go_ret
    exact ⟨by rw [H.out]; rfl, 0, rfl⟩
  · obtain ⟨h1, h2, h3⟩ := rightB_iff.1 hr
    have H := Lib.hid (put_eq ha hv h1 h2 h3)
    have Hr := Lib.hid hr
    clear hr
    go_enter Try.func49, Try.ntmps49
    go_wp2_with (first | (go_at_call 62; refine (right_any _ _ _).mono ?_; rintro e w' ⟨rfl, rfl⟩; rw [Hr.out]) | (go_at_call 57; refine (mask_any _ _ (by omega)).mono ?_; rintro e w' ⟨rfl, rfl⟩))
    go_quiet (fail)
    go_wp2
    go_ret
    exact ⟨by rw [← H.out]; rfl, nq, rfl⟩

/-- Which entry of a table an address takes. -/
def slotZ (a level : Int) : Int := if level = 1 then getZ a 29 21 else if level = 2 then getZ a 20 12 else 0

theorem getZ_small {a hi lo : Int} (hl : hi - lo + 1 ≤ 62) : 0 ≤ getZ a hi lo ∧ getZ a hi lo < 9223372036854775808 := by
  unfold getZ
  split
  · have h1 := two_pow_pos (hi - lo + 1).toNat
    have h2 : (2 : Nat) ^ (hi - lo + 1).toNat ≤ 2 ^ 62 := Nat.pow_le_pow_right (by decide) (by omega)
    have h3 := Int.emod_nonneg (a / 2 ^ lo.toNat) (Int.ne_of_gt h1)
    have h4 := Int.emod_lt_of_pos (a / 2 ^ lo.toNat) h1
    rw [← cast_pow (hi - lo + 1).toNat] at h3 h4 ⊢
    generalize a / 2 ^ lo.toNat % ((2 ^ (hi - lo + 1).toNat : Nat) : Int) = x at *
    generalize (2 : Nat) ^ (hi - lo + 1).toNat = y at *
    exact ⟨h3, by omega⟩
  · exact ⟨by decide, by decide⟩

theorem slot_any (a level : Int) (w : World) (ha : U64 a) : Calls Try.prog 52 #[.int .u64 a, .int .i64 level] w (RetQ (.int .i64 (slotZ a level)) w) := by
  by_cases h1 : level = 1
  · subst h1
    obtain ⟨g0, g1⟩ := getZ_small (a := a) (hi := 29) (lo := 21) (by decide)
    go_enter Try.func52, Try.ntmps52
    go_wp2_with (go_at_call 54; refine (get_any _ _ _ _ ha).mono ?_; rintro e w' ⟨rfl, n, rfl⟩)
    go_ret
    exact ⟨by unfold slotZ; rw [if_pos rfl]; rfl, _, rfl⟩
  · by_cases h2 : level = 2
    · subst h2
      obtain ⟨g0, g1⟩ := getZ_small (a := a) (hi := 20) (lo := 12) (by decide)
      go_enter Try.func52, Try.ntmps52
      go_wp2_with (go_at_call 54; refine (get_any _ _ _ _ ha).mono ?_; rintro e w' ⟨rfl, n, rfl⟩)
      go_ret
      exact ⟨by unfold slotZ; rw [if_neg (by decide), if_pos rfl]; rfl, _, rfl⟩
    · go_enter Try.func52, Try.ntmps52
      go_wp2
      go_ret
      exact ⟨by unfold slotZ; rw [if_neg h1, if_neg h2]; rfl, 0, rfl⟩

end Go.Proofs.Ytogoclcjkekplaa
