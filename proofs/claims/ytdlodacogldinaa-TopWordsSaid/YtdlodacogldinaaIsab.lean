/- Contracts of package isa: which instructions may be. -/
import Derived.Test.YtdlodacogldinaaField
import Derived.Test.YtdlodacogldinaaIsa
namespace Go.Proofs.Ytdlodacogldinaa
open Go.RowKit
set_option linter.unusedSimpArgs false
set_option linter.unusedVariables false

@[go_sem] def instrV (x : X) : Value := .agg #[.int .i64 x.op, .int .i64 x.d, .int .i64 x.n, .int .i64 x.m, .int .i64 x.imm, .int .i64 x.kind]

/-- May a register's number be? -/
def regB (a : Int) : Bool := decide (0 ≤ a) && decide (a ≤ 31)
theorem reg_any (a : Int) (w : World) : Calls Try.prog 19 #[.int .i64 a] w (Ret (.bool (regB a)) w) := by
  go_enter Try.func19, Try.ntmps19
  go_wp2
  all_goals (go_ret; refine ⟨?_, rfl⟩; simp [regB, *]; try omega)

/-- A number from 0 on, of so many bits. -/
def lowB (a k : Int) : Bool := decide (0 ≤ a) && decide (a < 2 ^ k.toNat)
theorem low_any (a k : Int) (w : World) (hk : k = 15 ∨ k = 12 ∨ k = 16 ∨ k = 2 ∨ k = 1 ∨ k = 3) : Calls Try.prog 35 #[.int .i64 a, .int .i64 k] w (Ret (.bool (lowB a k)) w) := by
  rcases hk with rfl | rfl | rfl | rfl | rfl | rfl
  all_goals
    go_enter Try.func35, Try.ntmps35
    go_wp2
    all_goals (go_ret; refine ⟨?_, rfl⟩; simp [lowB, *]; try omega)

theorem barrier_any (a : Int) (w : World) : Calls Try.prog 30 #[.int .i64 a] w (Ret (.bool (barrB a)) w) := by
  go_enter Try.func30, Try.ntmps30
  go_wp2
  all_goals (go_ret; refine ⟨?_, rfl⟩; simp [barrB, *])

/-- Can so many bits write it with its sign? -/
def fitB (a k : Int) : Bool := decide (-(2 ^ (k - 1).toNat) ≤ a) && decide (a < 2 ^ (k - 1).toNat)
theorem fits_any (a k : Int) (w : World) (hk : k = 26 ∨ k = 19) : Calls Try.prog 36 #[.int .i64 a, .int .i64 k] w (Ret (.bool (fitB a k)) w) := by
  rcases hk with rfl | rfl
  all_goals
    go_enter Try.func36, Try.ntmps36
    go_wp2
    all_goals (go_ret; refine ⟨?_, rfl⟩; simp [fitB, *]; try omega)

/-- Which parts an operation has. -/
structure Sh where
  d : Bool
  n : Bool
  m : Bool
  imm : Bool
  kind : Bool
@[go_sem] def shapeV (s : Sh) : Value := .agg #[.bool s.d, .bool s.n, .bool s.m, .bool s.imm, .bool s.kind]
def opB (op : Int) : Bool := decide (1 ≤ op) && decide (op ≤ 23)
def shX (op : Int) : Sh :=
  if op = 1 ∨ op = 20 ∨ op = 22 then ⟨false, false, false, false, false⟩ else
  if op = 2 ∨ op = 3 ∨ op = 7 then ⟨true, true, false, true, false⟩ else
  if op = 4 ∨ op = 5 then ⟨true, true, false, false, false⟩ else
  if op = 6 then ⟨true, false, false, true, true⟩ else
  if 8 ≤ op ∧ op ≤ 13 then ⟨true, true, true, false, false⟩ else
  if op = 14 then ⟨false, false, false, true, false⟩ else
  if op = 15 ∨ op = 16 then ⟨true, false, false, true, false⟩ else
  if op = 17 then ⟨false, false, false, true, true⟩ else
  if op = 18 ∨ op = 19 then ⟨false, false, false, false, true⟩ else
  if op = 21 ∨ op = 23 then ⟨true, false, false, false, true⟩ else ⟨false, false, false, false, false⟩

theorem op_cases (op : Int) : (op = 1 ∨ op = 2 ∨ op = 3 ∨ op = 4 ∨ op = 5 ∨ op = 6 ∨ op = 7 ∨ op = 8 ∨ op = 9 ∨ op = 10 ∨ op = 11 ∨ op = 12 ∨ op = 13 ∨ op = 14 ∨ op = 15 ∨ op = 16 ∨ op = 17 ∨ op = 18 ∨ op = 19 ∨ op = 20 ∨ op = 21 ∨ op = 22 ∨ op = 23) ∨ ¬ (1 ≤ op ∧ op ≤ 23) := by omega

set_option maxHeartbeats 4000000 in
theorem shape_any (op : Int) (w : World) : Calls Try.prog 18 #[.int .i64 op] w (RetB (.tuple #[shapeV (shX op), .bool (opB op)]) w) := by
  rcases op_cases op with h | h
  · rcases h with rfl | rfl | rfl | rfl | rfl | rfl | rfl | rfl | rfl | rfl | rfl | rfl | rfl | rfl | rfl | rfl | rfl | rfl | rfl | rfl | rfl | rfl | rfl
    all_goals
      go_enter Try.func18, Try.ntmps18
      go_wp2
      refine bodyPost_ret (v := _) ?_ rfl ⟨rfl, ?_⟩
      · simp [results, Try.results18, go_sem, shX, opB]
      · go_tidy
        repeat' (first | with_reducible exact Below.refl _ _ | with_reducible assumption | with_reducible apply below_drewN | with_reducible apply Below.drew | with_reducible refine Below.setCell ?_ ?_ _ | with_reducible refine Below.alloc ?_ ?_ _ | omega | (simp; done) | (simp; omega))
  · have E1 : opB op = false := by simp [opB]; omega
    have E2 : shX op = ⟨false, false, false, false, false⟩ := by
      unfold shX
      repeat rw [if_neg (by omega)]
    rw [E1, E2]
    have n1 : (op == 1) = false := by simp; omega
    have n2 : (op == 2) = false := by simp; omega
    have n3 : (op == 3) = false := by simp; omega
    have n4 : (op == 4) = false := by simp; omega
    have n5 : (op == 5) = false := by simp; omega
    have n6 : (op == 6) = false := by simp; omega
    have n7 : (op == 7) = false := by simp; omega
    have n8 : (op == 8) = false := by simp; omega
    have n9 : (op == 9) = false := by simp; omega
    have n10 : (op == 10) = false := by simp; omega
    have n11 : (op == 11) = false := by simp; omega
    have n12 : (op == 12) = false := by simp; omega
    have n13 : (op == 13) = false := by simp; omega
    have n14 : (op == 14) = false := by simp; omega
    have n15 : (op == 15) = false := by simp; omega
    have n16 : (op == 16) = false := by simp; omega
    have n17 : (op == 17) = false := by simp; omega
    have n18 : (op == 18) = false := by simp; omega
    have n19 : (op == 19) = false := by simp; omega
    have n20 : (op == 20) = false := by simp; omega
    have n21 : (op == 21) = false := by simp; omega
    have n22 : (op == 22) = false := by simp; omega
    have n23 : (op == 23) = false := by simp; omega
    clear h E1 E2
    go_enter Try.func18, Try.ntmps18
    go_wp2
    refine bodyPost_ret (v := _) ?_ rfl ⟨rfl, ?_⟩
    · simp [results, Try.results18, go_sem]
    · go_tidy
      repeat' (first | with_reducible exact Below.refl _ _ | with_reducible assumption | with_reducible apply below_drewN | with_reducible apply Below.drew | with_reducible refine Below.setCell ?_ ?_ _ | with_reducible refine Below.alloc ?_ ?_ _ | omega | (simp; done) | (simp; omega))

/-- Are an instruction's number and kind such as may be? -/
def numB (x : X) : Bool :=
  if x.op = 2 ∨ x.op = 3 then x.imm.tmod 8 == 0 && lowB x.imm 15 else
  if x.op = 7 then lowB x.imm 12 else
  if x.op = 6 then lowB x.imm 16 && lowB x.kind 2 else
  if x.op = 14 then fitB x.imm 26 else
  if x.op = 15 ∨ x.op = 16 then fitB x.imm 19 else
  if x.op = 17 then fitB x.imm 19 && lowB x.kind 1 else
  if x.op = 18 ∨ x.op = 19 then barrB x.kind else
  if x.op = 21 then lowB x.kind 3 && (x.kind.tmod 4 != 0 || x.d == 31) else
  if x.op = 23 then decide (0 ≤ x.kind) && decide (x.kind ≤ 2) else true

set_option maxHeartbeats 2000000 in
theorem number_any (x : X) (w : World) : Calls Try.prog 20 #[instrV x] w (RetB (.bool (numB x)) w) := by
  obtain ⟨op, d, n, m, imm, kind⟩ := x
  simp only [instrV]
  by_cases h : (op = 2 ∨ op = 3 ∨ op = 7 ∨ op = 6 ∨ op = 14 ∨ op = 15 ∨ op = 16 ∨ op = 17 ∨ op = 18 ∨ op = 19 ∨ op = 21 ∨ op = 23)
  · rcases h with rfl | rfl | rfl | rfl | rfl | rfl | rfl | rfl | rfl | rfl | rfl | rfl
    all_goals
      go_enter Try.func20, Try.ntmps20
      go_wp2_with (first | (go_at_call 35; refine (low_any _ _ _ (by decide)).mono ?_; rintro e w' ⟨rfl, rfl⟩) | (go_at_call 36; refine (fits_any _ _ _ (by decide)).mono ?_; rintro e w' ⟨rfl, rfl⟩) | (go_at_call 30; refine (barrier_any _ _).mono ?_; rintro e w' ⟨rfl, rfl⟩))
      all_goals
        go_ret
        refine ⟨?_, by repeat' (first | with_reducible exact Below.refl _ _ | with_reducible assumption | with_reducible apply below_drewN | with_reducible apply Below.drew | with_reducible refine Below.setCell ?_ ?_ _ | with_reducible refine Below.alloc ?_ ?_ _ | omega | (simp; done) | (simp; omega))⟩
        simp [numB, *]; try omega
  · have E : numB ⟨op, d, n, m, imm, kind⟩ = true := by
      simp only [numB]
      repeat rw [if_neg (by omega)]
    rw [E]
    have n2 : (op == 2) = false := by simp; omega
    have n3 : (op == 3) = false := by simp; omega
    have n7 : (op == 7) = false := by simp; omega
    have n6 : (op == 6) = false := by simp; omega
    have n14 : (op == 14) = false := by simp; omega
    have n15 : (op == 15) = false := by simp; omega
    have n16 : (op == 16) = false := by simp; omega
    have n17 : (op == 17) = false := by simp; omega
    have n18 : (op == 18) = false := by simp; omega
    have n19 : (op == 19) = false := by simp; omega
    have n21 : (op == 21) = false := by simp; omega
    have n23 : (op == 23) = false := by simp; omega
    clear h E
    go_enter Try.func20, Try.ntmps20
    go_wp2
    go_ret
    exact ⟨rfl, by repeat' (first | with_reducible exact Below.refl _ _ | with_reducible assumption | with_reducible apply below_drewN | with_reducible apply Below.drew | with_reducible refine Below.setCell ?_ ?_ _ | with_reducible refine Below.alloc ?_ ?_ _ | omega | (simp; done) | (simp; omega))⟩


end Go.Proofs.Ytdlodacogldinaa