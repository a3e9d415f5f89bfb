/- Contracts of asm.name, barrier, flush, system. (Written by gen_print.py.) -/
import Derived.Test.YtdlodacogldinaaDec
import Derived.Test.YtdlodacogldinaaIsac
namespace Go.Proofs.Ytdlodacogldinaa
open Go.RowKit
set_option linter.unusedSimpArgs false
set_option linter.unusedVariables false

def nameL (k : Int) : List UInt8 :=
  if k = 1 then [78, 79, 80] else if k = 2 then [76, 68, 82] else if k = 3 then [83, 84, 82] else if k = 4 then [76, 68, 65, 82] else if k = 5 then [83, 84, 76, 82] else if k = 8 then [65, 68, 68] else if k = 9 then [83, 85, 66] else if k = 10 then [65, 78, 68] else if k = 11 then [79, 82, 82] else if k = 12 then [69, 79, 82] else if k = 13 then [83, 85, 66, 83] else if k = 15 then [67, 66, 90] else if k = 16 then [67, 66, 78, 90] else if k = 20 then [73, 83, 66] else if k = 22 then [69, 82, 69, 84] else []
def barrierL (k : Int) : List UInt8 :=
  if k = 15 then [83, 89] else if k = 13 then [76, 68] else if k = 14 then [83, 84] else if k = 11 then [73, 83, 72] else if k = 9 then [73, 83, 72, 76, 68] else if k = 10 then [73, 83, 72, 83, 84] else []
def flushL (k : Int) : List UInt8 :=
  if k = 0 then [86, 77, 65, 76, 76, 69, 49, 73, 83] else if k = 1 then [86, 65, 69, 49, 73, 83] else if k = 2 then [86, 65, 65, 69, 49, 73, 83] else if k = 3 then [65, 83, 73, 68, 69, 49, 73, 83] else if k = 4 then [86, 77, 65, 76, 76, 69, 49] else if k = 5 then [86, 65, 69, 49] else if k = 6 then [86, 65, 65, 69, 49] else if k = 7 then [65, 83, 73, 68, 69, 49] else []
def systemL (k : Int) : List UInt8 :=
  if k = 0 then [69, 83, 82, 95, 69, 76, 49] else if k = 1 then [70, 65, 82, 95, 69, 76, 49] else [69, 76, 82, 95, 69, 76, 49]
set_option maxHeartbeats 2000000 in
theorem namet_any (k : Int) (hk : k = 1 ∨ k = 2 ∨ k = 3 ∨ k = 4 ∨ k = 5 ∨ k = 8 ∨ k = 9 ∨ k = 10 ∨ k = 11 ∨ k = 12 ∨ k = 13 ∨ k = 15 ∨ k = 16 ∨ k = 20 ∨ k = 22) (w : World) : Calls Try.prog 15 #[.int .i64 k] w (RetB (.string ⟨(nameL k).toArray⟩) w) := by
  rcases hk with rfl | rfl | rfl | rfl | rfl | rfl | rfl | rfl | rfl | rfl | rfl | rfl | rfl | rfl | rfl
  all_goals
    go_enter Try.func15, Try.ntmps15
    go_wp2_with fail
    go_ret
    exact ⟨rfl, by repeat' (first | with_reducible exact Below.refl _ _ | with_reducible assumption | with_reducible apply below_drewN | with_reducible apply Below.drew | with_reducible refine Below.setCell ?_ ?_ _ | with_reducible refine Below.alloc ?_ ?_ _ | omega | (simp; done) | (simp; omega))⟩
set_option maxHeartbeats 2000000 in
theorem barriert_any (k : Int) (hk : k = 0 ∨ k = 1 ∨ k = 2 ∨ k = 3 ∨ k = 4 ∨ k = 5 ∨ k = 6 ∨ k = 7 ∨ k = 8 ∨ k = 9 ∨ k = 10 ∨ k = 11 ∨ k = 12 ∨ k = 13 ∨ k = 14 ∨ k = 15) (w : World) : Calls Try.prog 32 #[.int .i64 k] w (RetB (.string ⟨(barrierL k).toArray⟩) w) := by
  rcases hk with rfl | rfl | rfl | rfl | rfl | rfl | rfl | rfl | rfl | rfl | rfl | rfl | rfl | rfl | rfl | rfl
  all_goals
    go_enter Try.func32, Try.ntmps32
    go_wp2_with fail
    go_ret
    exact ⟨rfl, by repeat' (first | with_reducible exact Below.refl _ _ | with_reducible assumption | with_reducible apply below_drewN | with_reducible apply Below.drew | with_reducible refine Below.setCell ?_ ?_ _ | with_reducible refine Below.alloc ?_ ?_ _ | omega | (simp; done) | (simp; omega))⟩
set_option maxHeartbeats 2000000 in
theorem flusht_any (k : Int) (hk : k = 0 ∨ k = 1 ∨ k = 2 ∨ k = 3 ∨ k = 4 ∨ k = 5 ∨ k = 6 ∨ k = 7) (w : World) : Calls Try.prog 33 #[.int .i64 k] w (RetB (.string ⟨(flushL k).toArray⟩) w) := by
  rcases hk with rfl | rfl | rfl | rfl | rfl | rfl | rfl | rfl
  all_goals
    go_enter Try.func33, Try.ntmps33
    go_wp2_with fail
    go_ret
    exact ⟨rfl, by repeat' (first | with_reducible exact Below.refl _ _ | with_reducible assumption | with_reducible apply below_drewN | with_reducible apply Below.drew | with_reducible refine Below.setCell ?_ ?_ _ | with_reducible refine Below.alloc ?_ ?_ _ | omega | (simp; done) | (simp; omega))⟩
set_option maxHeartbeats 2000000 in
theorem systemt_any (k : Int) (hk : k = 0 ∨ k = 1 ∨ k = 2) (w : World) : Calls Try.prog 34 #[.int .i64 k] w (RetB (.string ⟨(systemL k).toArray⟩) w) := by
  rcases hk with rfl | rfl | rfl
  all_goals
    go_enter Try.func34, Try.ntmps34
    go_wp2_with fail
    go_ret
    exact ⟨rfl, by repeat' (first | with_reducible exact Below.refl _ _ | with_reducible assumption | with_reducible apply below_drewN | with_reducible apply Below.drew | with_reducible refine Below.setCell ?_ ?_ _ | with_reducible refine Below.alloc ?_ ?_ _ | omega | (simp; done) | (simp; omega))⟩

end Go.Proofs.Ytdlodacogldinaa
