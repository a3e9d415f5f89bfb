/- Contracts of granuleref03: Right. -/
import Derived.Test.YtfhnbheknggklaaIsac
namespace Go.Proofs.Ytfhnbheknggklaa
open Go.RowKit
set_option linter.unusedSimpArgs false
set_option linter.unusedVariables false

/-- The sum of an operation's parts. -/
def sumX (op : Int) : Int :=
  if op = 1 ∨ op = 20 ∨ op = 22 then 0 else
  if op = 2 ∨ op = 3 ∨ op = 7 then 11 else
  if op = 4 ∨ op = 5 then 3 else
  if op = 6 then 25 else
  if 8 ≤ op ∧ op ≤ 13 then 7 else
  if op = 14 then 8 else
  if op = 15 ∨ op = 16 then 9 else
  if op = 17 then 24 else
  if op = 18 ∨ op = 19 then 16 else
  if op = 21 ∨ op = 23 then 17 else -1

set_option maxHeartbeats 4000000 in
theorem rparts_any (op : Int) (w : World) : Calls Try.prog 21 #[.int .i64 op] w (Ret (.int .i64 (sumX op)) w) := by
  rcases op_cases op with h | h
  · rcases h with rfl | rfl | rfl | rfl | rfl | rfl | rfl | rfl | rfl | rfl | rfl | rfl | rfl | rfl | rfl | rfl | rfl | rfl | rfl | rfl | rfl | rfl | rfl
    all_goals
      go_enter Try.func21, Try.ntmps21
      go_wp2
      go_ret
      exact ⟨rfl, rfl⟩
  · have E : sumX op = -1 := by
      unfold sumX
      repeat rw [if_neg (by omega)]
    rw [E]
    have n1 : (op == 1) = false := by simp; omega
    have n2 : (op == 2) = false := by simp; omega
    have n3 : (op == 3) = false := by simp; omega
    have n4 : (op == 4) = false := by simp; omega
    have n5 : (op == 5) = false := by simp; omega
    have n6 : (op == 6) = false := by simp; omega
    have n7 : (op == 7) = false := by simp; omega
    have n8 : (op == 8) = false := by simp; omega
    have n9 : (op == 9) = false := by simp; omega
    have n10 : (op == 10) = false := by simp; omega
    have n11 : (op == 11) = false := by simp; omega
    have n12 : (op == 12) = false := by simp; omega
    have n13 : (op == 13) = false := by simp; omega
    have n14 : (op == 14) = false := by simp; omega
    have n15 : (op == 15) = false := by simp; omega
    have n16 : (op == 16) = false := by simp; omega
    have n17 : (op == 17) = false := by simp; omega
    have n18 : (op == 18) = false := by simp; omega
    have n19 : (op == 19) = false := by simp; omega
    have n20 : (op == 20) = false := by simp; omega
    have n21 : (op == 21) = false := by simp; omega
    have n22 : (op == 22) = false := by simp; omega
    have n23 : (op == 23) = false := by simp; omega
    clear h E
    go_enter Try.func21, Try.ntmps21
    go_wp2
    go_ret
    exact ⟨rfl, rfl⟩

def hasB (s k : Int) : Bool := s / k % 2 == 1
theorem rhas_any (s k : Int) (w : World) (hs : 0 ≤ s ∧ s ≤ 31) (hk : k = 1 ∨ k = 2 ∨ k = 4 ∨ k = 8 ∨ k = 16) : Calls Try.prog 23 #[.int .i64 s, .int .i64 k] w (Ret (.bool (hasB s k)) w) := by
  rcases hk with rfl | rfl | rfl | rfl | rfl
  all_goals
    go_enter Try.func23, Try.ntmps23
    go_wp2
    go_ret
    refine ⟨?_, rfl⟩
    simp [hasB]

def inB (n a b : Int) : Bool := decide (a ≤ n) && decide (n ≤ b)
theorem rin_any (n a b : Int) (w : World) : Calls Try.prog 22 #[.int .i64 n, .int .i64 a, .int .i64 b] w (Ret (.bool (inB n a b)) w) := by
  go_enter Try.func22, Try.ntmps22
  go_wp2
  all_goals (go_ret; refine ⟨?_, rfl⟩; simp [inB, *]; try omega)


end Go.Proofs.Ytfhnbheknggklaa