/- Contracts of package isa: get, signed, and the first parts of Decode. -/
import Derived.Test.YtdlodacogldinaaIsad
namespace Go.Proofs.Ytdlodacogldinaa
open Go.RowKit
set_option linter.unusedSimpArgs false
set_option linter.unusedVariables false

theorem U32.u64 {a : Int} (h : U32 a) : U64 a := ⟨h.1, by have := h.2; omega⟩
theorem wrap64_small {a : Int} (h0 : 0 ≤ a) (h1 : a < 9223372036854775808) : wrap64 a = a := by unfold wrap64; omega

theorem getZ_lt {a hi lo : Int} (hl : hi - lo + 1 ≤ 62) : 0 ≤ getZ a hi lo ∧ getZ a hi lo < 9223372036854775808 := by
  unfold getZ
  split
  · have h1 := two_pow_pos (hi - lo + 1).toNat
    have h2 : (2 : Nat) ^ (hi - lo + 1).toNat ≤ 2 ^ 62 := Nat.pow_le_pow_right (by decide) (by omega)
    have h3 := Int.emod_nonneg (a / 2 ^ lo.toNat) (Int.ne_of_gt h1)
    have h4 := Int.emod_lt_of_pos (a / 2 ^ lo.toNat) h1
    rw [← cast_pow (hi - lo + 1).toNat] at h3 h4 ⊢
    generalize a / 2 ^ lo.toNat % ((2 ^ (hi - lo + 1).toNat : Nat) : Int) = x at *
    generalize (2 : Nat) ^ (hi - lo + 1).toNat = y at *
    exact ⟨h3, by omega⟩
  · exact ⟨by decide, by decide⟩

theorem iget_any (a hi lo : Int) (w : World) (ha : U32 a) (hl : hi - lo + 1 ≤ 62) : Calls Try.prog 28 #[.int .u32 a, .int .i64 hi, .int .i64 lo] w (RetQ (.int .i64 (getZ a hi lo)) w) := by
  obtain ⟨g0, g1⟩ := getZ_lt (a := a) (hi := hi) (lo := lo) hl
  have E := Lib.hid (wrap64_small g0 g1)
  have HU := Lib.hid ha.u64
  have E1 : IntKind.u64.wrap a = a := by rw [IntKind.wrap_u64]; have := ha.1; have := ha.2; omega
  clear g0 g1 ha hl
  go_enter Try.func28, Try.ntmps28
  go_wp2_with (go_at_call 50; first | rw [E1] | skip; refine (get_any _ _ _ _ HU.out).mono ?_; rintro e w' ⟨rfl, n, rfl⟩)
  go_ret
  refine ⟨?_, _, rfl⟩
  go_tidy
  simp [E.out]

theorem fsigned_any (a k : Int) (w : World) (ha : U64 a) (hk : k = 26 ∨ k = 19) : Calls Try.prog 51 #[.int .u64 a, .int .i64 k] w (Ret (.int .i64 (signZ (a % 2 ^ k.toNat) (2 ^ k.toNat))) w) := by
  have HA := and_mask ha (show 0 ≤ k by omega) (by omega)
  clear ha
  rcases hk with rfl | rfl
  · obtain ⟨v, hv⟩ : ∃ v, v = a % 2 ^ (26 : Int).toNat := ⟨_, rfl⟩
    have hv0 : 0 ≤ v ∧ v < 67108864 := by rw [hv]; have : (2 : Int) ^ (26 : Int).toNat = 67108864 := rfl; rw [this]; omega
    rw [← hv] at HA ⊢
    clear hv
    by_cases hc : v / 33554432 = 1
    · have E := Lib.hid (show signZ v (2 ^ (26 : Int).toNat) = v - 67108864 by unfold signZ; have : (2 : Int) ^ (26 : Int).toNat = 67108864 := rfl; rw [this, if_pos (by omega)])
      go_enter Try.func51, Try.ntmps51
      go_wp2_with (go_at_call 64; refine (mask_any _ _ (by decide)).mono ?_; rintro e w' ⟨rfl, rfl⟩)
      go_ret
      exact ⟨by rw [E.out]; rfl, rfl⟩
    · have E := Lib.hid (show signZ v (2 ^ (26 : Int).toNat) = v by unfold signZ; have : (2 : Int) ^ (26 : Int).toNat = 67108864 := rfl; rw [this, if_neg (by omega)])
      go_enter Try.func51, Try.ntmps51
      go_wp2_with (go_at_call 64; refine (mask_any _ _ (by decide)).mono ?_; rintro e w' ⟨rfl, rfl⟩)
      go_ret
      exact ⟨by rw [E.out]; rfl, rfl⟩
  · obtain ⟨v, hv⟩ : ∃ v, v = a % 2 ^ (19 : Int).toNat := ⟨_, rfl⟩
    have hv0 : 0 ≤ v ∧ v < 524288 := by rw [hv]; have : (2 : Int) ^ (19 : Int).toNat = 524288 := rfl; rw [this]; omega
    rw [← hv] at HA ⊢
    clear hv
    by_cases hc : v / 262144 = 1
    · have E := Lib.hid (show signZ v (2 ^ (19 : Int).toNat) = v - 524288 by unfold signZ; have : (2 : Int) ^ (19 : Int).toNat = 524288 := rfl; rw [this, if_pos (by omega)])
      go_enter Try.func51, Try.ntmps51
      go_wp2_with (go_at_call 64; refine (mask_any _ _ (by decide)).mono ?_; rintro e w' ⟨rfl, rfl⟩)
      go_ret
      exact ⟨by rw [E.out]; rfl, rfl⟩
    · have E := Lib.hid (show signZ v (2 ^ (19 : Int).toNat) = v by unfold signZ; have : (2 : Int) ^ (19 : Int).toNat = 524288 := rfl; rw [this, if_neg (by omega)])
      go_enter Try.func51, Try.ntmps51
      go_wp2_with (go_at_call 64; refine (mask_any _ _ (by decide)).mono ?_; rintro e w' ⟨rfl, rfl⟩)
      go_ret
      exact ⟨by rw [E.out]; rfl, rfl⟩

theorem isigned_any (a hi lo : Int) (w : World) (ha : U32 a) (hk : (hi = 25 ∧ lo = 0) ∨ (hi = 23 ∧ lo = 5)) : Calls Try.prog 29 #[.int .u32 a, .int .i64 hi, .int .i64 lo] w (RetQ (.int .i64 (signZ (getZ a hi lo) (2 ^ (hi - lo + 1).toNat))) w) := by
  have HU := Lib.hid ha.u64
  have E1 : IntKind.u64.wrap a = a := by rw [IntKind.wrap_u64]; have := ha.1; have := ha.2; omega
  have HG := Lib.hid (u64_getZ ha.u64 hi lo)
  have H2 : getZ a hi lo % 2 ^ (hi - lo + 1).toNat = getZ a hi lo := by
    rcases hk with ⟨rfl, rfl⟩ | ⟨rfl, rfl⟩ <;> (simp [getZ, rightB])
  have H2 := Lib.hid H2
  clear ha
  rcases hk with ⟨rfl, rfl⟩ | ⟨rfl, rfl⟩
  all_goals
    go_enter Try.func29, Try.ntmps29
    go_wp2_with (first | (go_at_call 50; first | rw [E1] | skip; refine (get_any _ _ _ _ HU.out).mono ?_; rintro e w' ⟨rfl, n, rfl⟩) | (go_at_call 51; refine (fsigned_any _ _ _ HG.out (by decide)).mono ?_; rintro e w' ⟨rfl, rfl⟩))
    go_ret
    have h2 := H2.out
    exact ⟨by simp only [Int.reduceSub, Int.reduceAdd, Int.reduceToNat, Int.reducePow] at h2 ⊢; first | (rw [h2]; rfl) | rfl, _, rfl⟩

end Go.Proofs.Ytdlodacogldinaa
