/- Contracts of granuleref03: sign, Guess. -/
import Derived.Test.YtfhnbheknggklaaIsaj
namespace Go.Proofs.Ytfhnbheknggklaa
open Go.RowKit
set_option linter.unusedSimpArgs false
set_option linter.unusedVariables false

theorem rsign_any (n k : Int) (w : World) (hk : k = 67108864 ∨ k = 524288) (hn : 0 ≤ n ∧ n < k) : Calls Try.prog 40 #[.int .i64 n, .int .i64 k] w (Ret (.int .i64 (signZ n k)) w) := by
  rcases hk with rfl | rfl
  · by_cases h : 33554432 ≤ n
    · have E := Lib.hid (show signZ n 67108864 = n - 67108864 by unfold signZ; rw [if_pos (by omega)])
      go_enter Try.func40, Try.ntmps40
      go_wp2
      go_ret
      exact ⟨by rw [E.out]; rfl, rfl⟩
    · have E := Lib.hid (show signZ n 67108864 = n by unfold signZ; rw [if_neg (by omega)])
      go_enter Try.func40, Try.ntmps40
      go_wp2
      go_ret
      exact ⟨by rw [E.out]; rfl, rfl⟩
  · by_cases h : 262144 ≤ n
    · have E := Lib.hid (show signZ n 524288 = n - 524288 by unfold signZ; rw [if_pos (by omega)])
      go_enter Try.func40, Try.ntmps40
      go_wp2
      go_ret
      exact ⟨by rw [E.out]; rfl, rfl⟩
    · have E := Lib.hid (show signZ n 524288 = n by unfold signZ; rw [if_neg (by omega)])
      go_enter Try.func40, Try.ntmps40
      go_wp2
      go_ret
      exact ⟨by rw [E.out]; rfl, rfl⟩

/-- What instruction a word would be. -/
def guessX (op w : Int) : X :=
  if op = 2 ∨ op = 3 then ⟨op, w % 32, w / 32 % 32, 0, w / 1024 % 4096 * 8, 0⟩ else
  if op = 4 ∨ op = 5 then ⟨op, w % 32, w / 32 % 32, 0, 0, 0⟩ else
  if op = 6 then ⟨op, w % 32, 0, 0, w / 32 % 65536, w / 2097152 % 4⟩ else
  if op = 7 then ⟨op, w % 32, w / 32 % 32, 0, w / 1024 % 4096, 0⟩ else
  if 8 ≤ op ∧ op ≤ 13 then ⟨op, w % 32, w / 32 % 32, w / 65536 % 32, 0, 0⟩ else
  if op = 14 then ⟨op, 0, 0, 0, signZ (w % 67108864) 67108864, 0⟩ else
  if op = 15 ∨ op = 16 then ⟨op, w % 32, 0, 0, signZ (w / 32 % 524288) 524288, 0⟩ else
  if op = 17 then ⟨op, 0, 0, 0, signZ (w / 32 % 524288) 524288, w % 32⟩ else
  if op = 18 ∨ op = 19 then ⟨op, 0, 0, 0, 0, w / 256 % 16⟩ else
  if op = 21 ∨ op = 23 then ⟨op, w % 32, 0, 0, 0, 0⟩ else ⟨op, 0, 0, 0, 0, 0⟩


set_option maxRecDepth 100000 in
set_option maxHeartbeats 8000000 in
theorem rguess_any (op a : Int) (w : World) (ha : 0 ≤ a ∧ a < 4294967296) (ho : 1 ≤ op ∧ op ≤ 23) : Calls Try.prog 33 #[.int .i64 op, .int .i64 a] w (RetB (instrV (guessX op a)) w) := by
  have h : op = 1 ∨ op = 2 ∨ op = 3 ∨ op = 4 ∨ op = 5 ∨ op = 6 ∨ op = 7 ∨ op = 8 ∨ op = 9 ∨ op = 10 ∨ op = 11 ∨ op = 12 ∨ op = 13 ∨ op = 14 ∨ op = 15 ∨ op = 16 ∨ op = 17 ∨ op = 18 ∨ op = 19 ∨ op = 20 ∨ op = 21 ∨ op = 22 ∨ op = 23 := by omega
  clear ho
  have m1 : a.tmod 32 = a % 32 := Int.tmod_eq_emod_of_nonneg ha.1
  have m2 : a.tdiv 32 = a / 32 := Int.tdiv_eq_ediv_of_nonneg ha.1
  have m3 : a.tdiv 65536 = a / 65536 := Int.tdiv_eq_ediv_of_nonneg ha.1
  have m4 : a.tdiv 1024 = a / 1024 := Int.tdiv_eq_ediv_of_nonneg ha.1
  have m5 : a.tdiv 2097152 = a / 2097152 := Int.tdiv_eq_ediv_of_nonneg ha.1
  have m6 : a.tdiv 256 = a / 256 := Int.tdiv_eq_ediv_of_nonneg ha.1
  have m7 : a.tmod 67108864 = a % 67108864 := Int.tmod_eq_emod_of_nonneg ha.1
  have p2 : 0 ≤ a / 32 := by omega
  have p3 : 0 ≤ a / 65536 := by omega
  have p4 : 0 ≤ a / 1024 := by omega
  have p5 : 0 ≤ a / 2097152 := by omega
  have p6 : 0 ≤ a / 256 := by omega
  have t1 : (a / 32).tmod 32 = a / 32 % 32 := Int.tmod_eq_emod_of_nonneg p2
  have t2 : (a / 65536).tmod 32 = a / 65536 % 32 := Int.tmod_eq_emod_of_nonneg p3
  have t3 : (a / 1024).tmod 4096 = a / 1024 % 4096 := Int.tmod_eq_emod_of_nonneg p4
  have t4 : (a / 32).tmod 65536 = a / 32 % 65536 := Int.tmod_eq_emod_of_nonneg p2
  have t5 : (a / 2097152).tmod 4 = a / 2097152 % 4 := Int.tmod_eq_emod_of_nonneg p5
  have t6 : (a / 32).tmod 524288 = a / 32 % 524288 := Int.tmod_eq_emod_of_nonneg p2
  have t7 : (a / 256).tmod 16 = a / 256 % 16 := Int.tmod_eq_emod_of_nonneg p6
  rcases h with rfl | rfl | rfl | rfl | rfl | rfl | rfl | rfl | rfl | rfl | rfl | rfl | rfl | rfl | rfl | rfl | rfl | rfl | rfl | rfl | rfl | rfl | rfl
  all_goals
    go_enter Try.func33, Try.ntmps33
    go_wp2_with (first | (go_at_call 21; refine (rparts_any _ _).mono ?_; rintro e w' ⟨rfl, rfl⟩; simp only [sumX, Int.reduceEq, reduceIte, Int.reduceLE, or_self, or_true, true_or, and_self, and_true, true_and, false_or, or_false, false_and, and_false]) | (go_at_call 23; refine (rhas_any _ _ _ (by decide) (by decide)).mono ?_; rintro e w' ⟨rfl, rfl⟩; simp only [hasB, Int.reduceDiv, Int.reduceMod, Int.reduceBEq]) | (go_at_call 40; refine (rsign_any _ _ _ (by decide) (by omega)).mono ?_; rintro e w' ⟨rfl, rfl⟩))
    refine bodyPost_ret (v := instrV (guessX _ a)) ?_ rfl ⟨rfl, ?_⟩
    · simp [results, Try.results33, go_sem, guessX]
    · go_tidy
      repeat' (first | with_reducible exact Below.refl _ _ | with_reducible assumption | with_reducible apply below_drewN | with_reducible apply Below.drew | with_reducible refine Below.setCell ?_ ?_ _ | with_reducible refine Below.alloc ?_ ?_ _ | omega | (simp; done) | (simp; omega))


end Go.Proofs.Ytfhnbheknggklaa