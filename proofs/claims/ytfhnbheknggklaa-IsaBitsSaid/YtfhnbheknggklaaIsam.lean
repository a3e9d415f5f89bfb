/- Contracts of granuleref03: at, rest, Word. -/
import Derived.Test.YtfhnbheknggklaaIsab
namespace Go.Proofs.Ytfhnbheknggklaa
open Go.RowKit
set_option linter.unusedSimpArgs false
set_option linter.unusedVariables false

/-- A number's bits at a place. -/
def atZ (n k s : Int) : Int := n % 2 ^ k.toNat * 2 ^ s.toNat

theorem at_12_10 (n : Int) (w : World) (h0 : -4096 ≤ n) (h1 : n < 4096) : Calls Try.prog 27 #[.int .i64 n, .int .i64 12, .int .i64 10] w (RetB (.int .i64 (atZ n 12 10)) w) := by
  have E : atZ n 12 10 = n % 4096 * 1024 := by simp [atZ]
  have HE := Lib.hid E
  clear E
  go_enter Try.func27, Try.ntmps27
  go_wp2
  go_loop [7] (fun v => ∃ m : Int, v = .int .i64 m ∧ (m = n ∨ (n < 0 ∧ m = n + 4096))) (fun v => (-(intOf v)).toNat)
  case atStart => exact ⟨n, rfl, .inl rfl⟩
  case round =>
    obtain ⟨m, rfl, hm⟩ := hrel
    by_cases hneg : m < 0
    · obtain rfl : m = n := by omega
      clear hm
      go_wp2
      go_round
      case rel => exact ⟨m + 4096, rfl, .inr ⟨hneg, rfl⟩⟩
      case measure => simp [intOf]; omega
    · have hmod : n % 4096 = m := by omega
      have hmb : 0 ≤ m ∧ m < 4096 := by omega
      have HE2 := Lib.hid (HE.out.trans (by rw [hmod]))
      clear hmod hm HE h0 h1
      go_wp2
      go_ret
      exact ⟨by rw [HE2.out]; rfl, Below.refl _ _⟩

theorem at_2_21 (n : Int) (w : World) (h0 : -4 ≤ n) (h1 : n < 4) : Calls Try.prog 27 #[.int .i64 n, .int .i64 2, .int .i64 21] w (RetB (.int .i64 (atZ n 2 21)) w) := by
  have E : atZ n 2 21 = n % 4 * 2097152 := by simp [atZ]
  have HE := Lib.hid E
  clear E
  go_enter Try.func27, Try.ntmps27
  go_wp2
  go_loop [7] (fun v => ∃ m : Int, v = .int .i64 m ∧ (m = n ∨ (n < 0 ∧ m = n + 4))) (fun v => (-(intOf v)).toNat)
  case atStart => exact ⟨n, rfl, .inl rfl⟩
  case round =>
    obtain ⟨m, rfl, hm⟩ := hrel
    by_cases hneg : m < 0
    · obtain rfl : m = n := by omega
      clear hm
      go_wp2
      go_round
      case rel => exact ⟨m + 4, rfl, .inr ⟨hneg, rfl⟩⟩
      case measure => simp [intOf]; omega
    · have hmod : n % 4 = m := by omega
      have hmb : 0 ≤ m ∧ m < 4 := by omega
      have HE2 := Lib.hid (HE.out.trans (by rw [hmod]))
      clear hmod hm HE h0 h1
      go_wp2
      go_ret
      exact ⟨by rw [HE2.out]; rfl, Below.refl _ _⟩

theorem at_16_5 (n : Int) (w : World) (h0 : -65536 ≤ n) (h1 : n < 65536) : Calls Try.prog 27 #[.int .i64 n, .int .i64 16, .int .i64 5] w (RetB (.int .i64 (atZ n 16 5)) w) := by
  have E : atZ n 16 5 = n % 65536 * 32 := by simp [atZ]
  have HE := Lib.hid E
  clear E
  go_enter Try.func27, Try.ntmps27
  go_wp2
  go_loop [7] (fun v => ∃ m : Int, v = .int .i64 m ∧ (m = n ∨ (n < 0 ∧ m = n + 65536))) (fun v => (-(intOf v)).toNat)
  case atStart => exact ⟨n, rfl, .inl rfl⟩
  case round =>
    obtain ⟨m, rfl, hm⟩ := hrel
    by_cases hneg : m < 0
    · obtain rfl : m = n := by omega
      clear hm
      go_wp2
      go_round
      case rel => exact ⟨m + 65536, rfl, .inr ⟨hneg, rfl⟩⟩
      case measure => simp [intOf]; omega
    · have hmod : n % 65536 = m := by omega
      have hmb : 0 ≤ m ∧ m < 65536 := by omega
      have HE2 := Lib.hid (HE.out.trans (by rw [hmod]))
      clear hmod hm HE h0 h1
      go_wp2
      go_ret
      exact ⟨by rw [HE2.out]; rfl, Below.refl _ _⟩

theorem at_26_0 (n : Int) (w : World) (h0 : -67108864 ≤ n) (h1 : n < 67108864) : Calls Try.prog 27 #[.int .i64 n, .int .i64 26, .int .i64 0] w (RetB (.int .i64 (atZ n 26 0)) w) := by
  have E : atZ n 26 0 = n % 67108864 * 1 := by simp [atZ]
  have HE := Lib.hid E
  clear E
  go_enter Try.func27, Try.ntmps27
  go_wp2
  go_loop [7] (fun v => ∃ m : Int, v = .int .i64 m ∧ (m = n ∨ (n < 0 ∧ m = n + 67108864))) (fun v => (-(intOf v)).toNat)
  case atStart => exact ⟨n, rfl, .inl rfl⟩
  case round =>
    obtain ⟨m, rfl, hm⟩ := hrel
    by_cases hneg : m < 0
    · obtain rfl : m = n := by omega
      clear hm
      go_wp2
      go_round
      case rel => exact ⟨m + 67108864, rfl, .inr ⟨hneg, rfl⟩⟩
      case measure => simp [intOf]; omega
    · have hmod : n % 67108864 = m := by omega
      have hmb : 0 ≤ m ∧ m < 67108864 := by omega
      have HE2 := Lib.hid (HE.out.trans (by rw [hmod]))
      clear hmod hm HE h0 h1
      go_wp2
      go_ret
      exact ⟨by rw [HE2.out]; simp, Below.refl _ _⟩

theorem at_19_5 (n : Int) (w : World) (h0 : -524288 ≤ n) (h1 : n < 524288) : Calls Try.prog 27 #[.int .i64 n, .int .i64 19, .int .i64 5] w (RetB (.int .i64 (atZ n 19 5)) w) := by
  have E : atZ n 19 5 = n % 524288 * 32 := by simp [atZ]
  have HE := Lib.hid E
  clear E
  go_enter Try.func27, Try.ntmps27
  go_wp2
  go_loop [7] (fun v => ∃ m : Int, v = .int .i64 m ∧ (m = n ∨ (n < 0 ∧ m = n + 524288))) (fun v => (-(intOf v)).toNat)
  case atStart => exact ⟨n, rfl, .inl rfl⟩
  case round =>
    obtain ⟨m, rfl, hm⟩ := hrel
    by_cases hneg : m < 0
    · obtain rfl : m = n := by omega
      clear hm
      go_wp2
      go_round
      case rel => exact ⟨m + 524288, rfl, .inr ⟨hneg, rfl⟩⟩
      case measure => simp [intOf]; omega
    · have hmod : n % 524288 = m := by omega
      have hmb : 0 ≤ m ∧ m < 524288 := by omega
      have HE2 := Lib.hid (HE.out.trans (by rw [hmod]))
      clear hmod hm HE h0 h1
      go_wp2
      go_ret
      exact ⟨by rw [HE2.out]; rfl, Below.refl _ _⟩

theorem at_any (n k s : Int) (w : World) (hk : (k = 12 ∧ s = 10) ∨ (k = 2 ∧ s = 21) ∨ (k = 16 ∧ s = 5) ∨ (k = 26 ∧ s = 0) ∨ (k = 19 ∧ s = 5)) (h : -(2 ^ k.toNat) ≤ n ∧ n < 2 ^ k.toNat) :
    Calls Try.prog 27 #[.int .i64 n, .int .i64 k, .int .i64 s] w (RetB (.int .i64 (atZ n k s)) w) := by
  rcases hk with ⟨rfl, rfl⟩ | ⟨rfl, rfl⟩ | ⟨rfl, rfl⟩ | ⟨rfl, rfl⟩ | ⟨rfl, rfl⟩

  · exact at_12_10 n w h.1 h.2
  · exact at_2_21 n w h.1 h.2
  · exact at_16_5 n w h.1 h.2
  · exact at_26_0 n w h.1 h.2
  · exact at_19_5 n w h.1 h.2

end Go.Proofs.Ytfhnbheknggklaa