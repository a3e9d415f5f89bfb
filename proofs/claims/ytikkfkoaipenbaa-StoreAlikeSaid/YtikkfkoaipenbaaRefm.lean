/- The reference's Check, Read, Get. -/
import Derived.Test.YtikkfkoaipenbaaMem
import Derived.Test.YtikkfkoaipenbaaPairsc
import Derived.Test.YtikkfkoaipenbaaRecc
import Derived.Test.YtikkfkoaipenbaaRecp
namespace Go.Proofs.Ytikkfkoaipenbaa
open Go.RowKit

theorem chk_mod (a : Int) : chkZ a = if a % 8 = 0 then (if a < 4294967296 then 0 else 1) else 60 := by
  unfold chkZ alignedB
  simp

theorem rcheck_any (a : Int) (w : World) (ha : U64 a) : Calls Try.prog 24 #[.int .u64 a] w (Ret (.int .i64 (chkZ a)) w) := by
  have HA := Lib.hid (chk_mod a)
  have ht : a.tmod 8 = a % 8 := Int.tmod_eq_emod_of_nonneg ha.1
  rw [HA.out]
  have h1 : 0 ≤ a % 8 ∧ a % 8 < 8 := by omega
  by_cases h : a % 8 = 0
  · rw [if_pos h]
    by_cases h2 : a < 4294967296
    · rw [if_pos h2]
      go_enter Try.func24, Try.ntmps24
      go_wp2
      go_ret
      exact ⟨rfl, rfl⟩
    · rw [if_neg h2]
      go_enter Try.func24, Try.ntmps24
      go_wp2
      go_ret
      exact ⟨rfl, rfl⟩
  · rw [if_neg h]
    go_enter Try.func24, Try.ntmps24
    go_wp2
    go_ret
    exact ⟨rfl, rfl⟩

theorem rread_any (ao : Option Addr) (n cap : Nat) (l : List (Int × Int)) (k : Int) (w : World) (hl : Atc w ao l) (hn : n = l.length) (hlen : l.length ≤ 1000000) :
    Calls Try.prog 29 #[.slice ao n cap, .int .u64 k] w (Ret (.int .u64 (readL l k)) w) := by
  have HL := Lib.hid hl
  have HN := Lib.hid hn
  rw [← hn] at hlen
  clear hl hn
  go_enter Try.func29, Try.ntmps29
  go_wp2_with fail
  go_loop [5] (fun i => ∃ j : Nat, i = .int .i64 ((j : Int) - 1) ∧ j ≤ n ∧ lastL (l.drop j) k = none) (fun i => (intOf i + 1).toNat)
  case atStart => exact ⟨n, rfl, by omega, by rw [HN.out, List.drop_length]; rfl⟩
  case round =>
    obtain ⟨j, rfl, hj, hd⟩ := hrel
    cases j with
    | zero =>
      have HD := Lib.hid hd
      clear hd
      go_wp2_with fail
      go_ret
      exact ⟨by rw [readL, show lastL l k = none from HD.out]; rfl, rfl⟩
    | succ j =>
      have hj' : j < l.length := by rw [← HN.out]; omega
      obtain ⟨ad, rfl⟩ : ∃ ad, ao = some ad := by
        cases ao with
        | some ad => exact ⟨ad, rfl⟩
        | none => have := HL.out.1 rfl; rw [this] at hj'; simp at hj'
      obtain ⟨hc1, hc2⟩ := HL.out.pair j hj'
      have HS := Lib.hid (lastL_drop l k j hj' hd)
      have HJ := Lib.hid hj'
      generalize l[j]'hj' = c at hc1 hc2 HS
      obtain ⟨ca, cv⟩ := c
      simp only at hc1 hc2 HS
      clear hd hj'
      rw [show ((j + 1 : Nat) : Int) - 1 = (j : Nat) by omega]
      by_cases hk : ca = k
      · subst hk
        go_wp2_with fail
        go_ret
        have : lastL (l.drop j) ca = some cv := by simpa using HS.out
        exact ⟨by rw [readL, lastL_some l _ _ _ this]; rfl, rfl⟩
      · go_wp2_with fail
        go_round
        case rel => exact ⟨j, by go_num, by omega, by simpa [hk] using HS.out⟩
        case measure => first | (simp [intOf]; done) | (simp [intOf]; omega)

theorem rget_any (ao : Option Addr) (n cap : Nat) (l : List (Int × Int)) (k : Int) (w : World) (hl : Atp w ao l) (hn : n = l.length) (hlen : l.length ≤ 1000000) :
    Calls Try.prog 13 #[.slice ao n cap, .int .u64 k] w (Ret (.tuple #[.int .i64 (readL l k), .bool (lastL l k).isSome]) w) := by
  have HL := Lib.hid hl
  have HN := Lib.hid hn
  rw [← hn] at hlen
  clear hl hn
  go_enter Try.func13, Try.ntmps13
  go_wp2_with fail
  go_loop [6] (fun i => ∃ j : Nat, i = .int .i64 ((j : Int) - 1) ∧ j ≤ n ∧ lastL (l.drop j) k = none) (fun i => (intOf i + 1).toNat)
  case atStart => exact ⟨n, rfl, by omega, by rw [HN.out, List.drop_length]; rfl⟩
  case round =>
    obtain ⟨j, rfl, hj, hd⟩ := hrel
    cases j with
    | zero =>
      have HD := Lib.hid hd
      clear hd
      go_wp2_with fail
      go_ret2
      exact ⟨by rw [readL, show lastL l k = none from HD.out]; rfl, rfl⟩
    | succ j =>
      have hj' : j < l.length := by rw [← HN.out]; omega
      obtain ⟨ad, rfl⟩ : ∃ ad, ao = some ad := by
        cases ao with
        | some ad => exact ⟨ad, rfl⟩
        | none => have := HL.out.1 rfl; rw [this] at hj'; simp at hj'
      obtain ⟨hc1, hc2⟩ := HL.out.pair j hj'
      have HS := Lib.hid (lastL_drop l k j hj' hd)
      have HJ := Lib.hid hj'
      generalize l[j]'hj' = c at hc1 hc2 HS
      obtain ⟨ca, cv⟩ := c
      simp only at hc1 hc2 HS
      clear hd hj'
      rw [show ((j + 1 : Nat) : Int) - 1 = (j : Nat) by omega]
      by_cases hk : ca = k
      · subst hk
        go_wp2_with fail
        go_ret2
        have : lastL (l.drop j) ca = some cv := by simpa using HS.out
        exact ⟨by rw [readL, lastL_some l _ _ _ this]; rfl, rfl⟩
      · go_wp2_with fail
        go_round
        case rel => exact ⟨j, by go_num, by omega, by simpa [hk] using HS.out⟩
        case measure => first | (simp [intOf]; done) | (simp [intOf]; omega)

end Go.Proofs.Ytikkfkoaipenbaa
