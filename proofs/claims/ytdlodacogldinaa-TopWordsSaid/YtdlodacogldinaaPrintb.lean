/- Contracts of asm.rest and asm.Print, one for each kind of instruction. (Written by gen_printb.py.) -/
import Derived.Test.YtdlodacogldinaaPrinta
namespace Go.Proofs.Ytdlodacogldinaa
open Go.RowKit
set_option linter.unusedSimpArgs false
set_option linter.unusedVariables false

theorem retB_p {v : Value} {w w' : World} {e : Ending} (h : RetB v w e w') : e = .returned v ∧ Below w.heap.size w w' := h
theorem barrierL_len (k : Int) : (barrierL k).length ≤ 10 := by unfold barrierL; repeat' split
                                                                all_goals simp
theorem flushL_len (k : Int) : (flushL k).length ≤ 10 := by unfold flushL; repeat' split
                                                            all_goals simp
theorem systemL_len (k : Int) : (systemL k).length ≤ 10 := by unfold systemL; repeat' split
                                                              all_goals simp

set_option maxHeartbeats 4000000 in
theorem rest_17_0 ( D N M : List UInt8) (imm : Int) (h0 : -10000000000 < imm) (h1 : imm < 10000000000) (hD : D.length ≤ 100) (hN : N.length ≤ 100) (hM : M.length ≤ 100) (w : World) :
    Calls Try.prog 17 #[.agg #[.int .i64 17, .int .i64 0, .int .i64 0, .int .i64 0, .int .i64 imm, .int .i64 0], (.string ⟨(D).toArray⟩), (.string ⟨(N).toArray⟩), (.string ⟨(M).toArray⟩)] w (RetB (.string ⟨(66 :: 46 :: 69 :: 81 :: 32 :: targetL imm).toArray⟩) w) := by
  have hl := targetL_len (i := imm) (by omega) (by omega)
  have cT : Hid (∀ V, Calls Try.prog 16 #[.int .i64 imm] V (RetB (.string ⟨(targetL imm).toArray⟩) V)) := Lib.hid fun V => target_any imm V (by omega) (by omega)
  have a0 := add_run ([66, 46, 69, 81, 32]) (targetL imm) (by first | (simp; done) | (simp; omega))
  simp only [List.cons_append, List.nil_append, List.append_assoc] at a0
  clear hD hN hM
  try clear hl
  go_enter Try.func17, Try.ntmps17
  go_wp2_with fail
  refine (cT.out _).mono ?_
  rintro e w1 ⟨rfl, hb⟩
  have B1 : Below w.heap.size w w1 := Below.trans (by repeat' (first | with_reducible exact Below.refl _ _ | with_reducible assumption | with_reducible apply below_drewN | with_reducible apply Below.drew | with_reducible refine Below.setCell ?_ ?_ _ | with_reducible refine Below.alloc ?_ ?_ _ | omega | (simp; done) | (simp; omega))) (hb.mono (by first | omega | (simp; done) | (simp; omega)))
  clear hb
  go_wp2_with fail
  go_ret
  exact ⟨rfl, B1⟩

set_option maxHeartbeats 4000000 in
theorem rest_17_1 ( D N M : List UInt8) (imm : Int) (h0 : -10000000000 < imm) (h1 : imm < 10000000000) (hD : D.length ≤ 100) (hN : N.length ≤ 100) (hM : M.length ≤ 100) (w : World) :
    Calls Try.prog 17 #[.agg #[.int .i64 17, .int .i64 0, .int .i64 0, .int .i64 0, .int .i64 imm, .int .i64 1], (.string ⟨(D).toArray⟩), (.string ⟨(N).toArray⟩), (.string ⟨(M).toArray⟩)] w (RetB (.string ⟨(66 :: 46 :: 78 :: 69 :: 32 :: targetL imm).toArray⟩) w) := by
  have hl := targetL_len (i := imm) (by omega) (by omega)
  have cT : Hid (∀ V, Calls Try.prog 16 #[.int .i64 imm] V (RetB (.string ⟨(targetL imm).toArray⟩) V)) := Lib.hid fun V => target_any imm V (by omega) (by omega)
  have a0 := add_run ([66, 46, 78, 69, 32]) (targetL imm) (by first | (simp; done) | (simp; omega))
  simp only [List.cons_append, List.nil_append, List.append_assoc] at a0
  clear hD hN hM
  try clear hl
  go_enter Try.func17, Try.ntmps17
  go_wp2_with fail
  refine (cT.out _).mono ?_
  rintro e w1 ⟨rfl, hb⟩
  have B1 : Below w.heap.size w w1 := Below.trans (by repeat' (first | with_reducible exact Below.refl _ _ | with_reducible assumption | with_reducible apply below_drewN | with_reducible apply Below.drew | with_reducible refine Below.setCell ?_ ?_ _ | with_reducible refine Below.alloc ?_ ?_ _ | omega | (simp; done) | (simp; omega))) (hb.mono (by first | omega | (simp; done) | (simp; omega)))
  clear hb
  go_wp2_with fail
  go_ret
  exact ⟨rfl, B1⟩

set_option maxHeartbeats 4000000 in
theorem rest_18 ( D N M : List UInt8) (kind : Int) (hk : 0 ≤ kind ∧ kind ≤ 15) (hD : D.length ≤ 100) (hN : N.length ≤ 100) (hM : M.length ≤ 100) (w : World) :
    Calls Try.prog 17 #[.agg #[.int .i64 18, .int .i64 0, .int .i64 0, .int .i64 0, .int .i64 0, .int .i64 kind], (.string ⟨(D).toArray⟩), (.string ⟨(N).toArray⟩), (.string ⟨(M).toArray⟩)] w (RetB (.string ⟨(68 :: 77 :: 66 :: 32 :: barrierL kind).toArray⟩) w) := by
  have hl := barrierL_len kind
  have cT : Hid (∀ V, Calls Try.prog 32 #[.int .i64 kind] V (RetB (.string ⟨(barrierL kind).toArray⟩) V)) := Lib.hid fun V => barriert_any kind (by omega) V
  clear hk
  have a0 := add_run ([68, 77, 66, 32]) (barrierL kind) (by first | (simp; done) | (simp; omega))
  simp only [List.cons_append, List.nil_append, List.append_assoc] at a0
  clear hD hN hM
  try clear hl
  go_enter Try.func17, Try.ntmps17
  go_wp2_with fail
  refine (cT.out _).mono ?_
  rintro e w1 ⟨rfl, hb⟩
  have B1 : Below w.heap.size w w1 := Below.trans (by repeat' (first | with_reducible exact Below.refl _ _ | with_reducible assumption | with_reducible apply below_drewN | with_reducible apply Below.drew | with_reducible refine Below.setCell ?_ ?_ _ | with_reducible refine Below.alloc ?_ ?_ _ | omega | (simp; done) | (simp; omega))) (hb.mono (by first | omega | (simp; done) | (simp; omega)))
  clear hb
  go_wp2_with fail
  go_ret
  exact ⟨rfl, B1⟩

set_option maxHeartbeats 4000000 in
theorem rest_19 ( D N M : List UInt8) (kind : Int) (hk : 0 ≤ kind ∧ kind ≤ 15) (hD : D.length ≤ 100) (hN : N.length ≤ 100) (hM : M.length ≤ 100) (w : World) :
    Calls Try.prog 17 #[.agg #[.int .i64 19, .int .i64 0, .int .i64 0, .int .i64 0, .int .i64 0, .int .i64 kind], (.string ⟨(D).toArray⟩), (.string ⟨(N).toArray⟩), (.string ⟨(M).toArray⟩)] w (RetB (.string ⟨(68 :: 83 :: 66 :: 32 :: barrierL kind).toArray⟩) w) := by
  have hl := barrierL_len kind
  have cT : Hid (∀ V, Calls Try.prog 32 #[.int .i64 kind] V (RetB (.string ⟨(barrierL kind).toArray⟩) V)) := Lib.hid fun V => barriert_any kind (by omega) V
  clear hk
  have a0 := add_run ([68, 83, 66, 32]) (barrierL kind) (by first | (simp; done) | (simp; omega))
  simp only [List.cons_append, List.nil_append, List.append_assoc] at a0
  clear hD hN hM
  try clear hl
  go_enter Try.func17, Try.ntmps17
  go_wp2_with fail
  refine (cT.out _).mono ?_
  rintro e w1 ⟨rfl, hb⟩
  have B1 : Below w.heap.size w w1 := Below.trans (by repeat' (first | with_reducible exact Below.refl _ _ | with_reducible assumption | with_reducible apply below_drewN | with_reducible apply Below.drew | with_reducible refine Below.setCell ?_ ?_ _ | with_reducible refine Below.alloc ?_ ?_ _ | omega | (simp; done) | (simp; omega))) (hb.mono (by first | omega | (simp; done) | (simp; omega)))
  clear hb
  go_wp2_with fail
  go_ret
  exact ⟨rfl, B1⟩

set_option maxHeartbeats 4000000 in
theorem rest_21_0 ( D N M : List UInt8) (d kind : Int) (hk : 0 ≤ kind ∧ kind ≤ 7) (h4 : kind % 4 = 0) (hD : D.length ≤ 100) (hN : N.length ≤ 100) (hM : M.length ≤ 100) (w : World) :
    Calls Try.prog 17 #[.agg #[.int .i64 21, .int .i64 d, .int .i64 0, .int .i64 0, .int .i64 0, .int .i64 kind], (.string ⟨(D).toArray⟩), (.string ⟨(N).toArray⟩), (.string ⟨(M).toArray⟩)] w (RetB (.string ⟨(84 :: 76 :: 66 :: 73 :: 32 :: flushL kind).toArray⟩) w) := by
  have hl := flushL_len kind
  have cT : Hid (∀ V, Calls Try.prog 33 #[.int .i64 kind] V (RetB (.string ⟨(flushL kind).toArray⟩) V)) := Lib.hid fun V => flusht_any kind (by omega) V
  have ht : Int.tmod kind 4 = 0 := by rw [Int.tmod_eq_emod_of_nonneg hk.1]; exact h4
  clear hk h4
  have a0 := add_run ([84, 76, 66, 73, 32]) (flushL kind) (by first | (simp; done) | (simp; omega))
  simp only [List.cons_append, List.nil_append, List.append_assoc] at a0
  clear hD hN hM
  try clear hl
  go_enter Try.func17, Try.ntmps17
  go_wp2_with fail
  refine (cT.out _).mono ?_
  rintro e w1 ⟨rfl, hb⟩
  have B1 : Below w.heap.size w w1 := Below.trans (by repeat' (first | with_reducible exact Below.refl _ _ | with_reducible assumption | with_reducible apply below_drewN | with_reducible apply Below.drew | with_reducible refine Below.setCell ?_ ?_ _ | with_reducible refine Below.alloc ?_ ?_ _ | omega | (simp; done) | (simp; omega))) (hb.mono (by first | omega | (simp; done) | (simp; omega)))
  clear hb
  go_wp2_with fail
  go_ret
  exact ⟨rfl, B1⟩

set_option maxHeartbeats 4000000 in
theorem rest_21_1 ( D N M : List UInt8) (d kind : Int) (hk : 0 ≤ kind ∧ kind ≤ 7) (h4 : ¬ kind % 4 = 0) (hD : D.length ≤ 100) (hN : N.length ≤ 100) (hM : M.length ≤ 100) (w : World) :
    Calls Try.prog 17 #[.agg #[.int .i64 21, .int .i64 d, .int .i64 0, .int .i64 0, .int .i64 0, .int .i64 kind], (.string ⟨(D).toArray⟩), (.string ⟨(N).toArray⟩), (.string ⟨(M).toArray⟩)] w (RetB (.string ⟨(84 :: 76 :: 66 :: 73 :: 32 :: (flushL kind ++ 44 :: D)).toArray⟩) w) := by
  have hl := flushL_len kind
  have cT : Hid (∀ V, Calls Try.prog 33 #[.int .i64 kind] V (RetB (.string ⟨(flushL kind).toArray⟩) V)) := Lib.hid fun V => flusht_any kind (by omega) V
  have ht : ¬ Int.tmod kind 4 = 0 := by rw [Int.tmod_eq_emod_of_nonneg hk.1]; exact h4
  clear hk
  have a0 := add_run ([84, 76, 66, 73, 32]) (flushL kind) (by first | (simp; done) | (simp; omega))
  simp only [List.cons_append, List.nil_append, List.append_assoc] at a0
  have a1 := add_run ([84, 76, 66, 73, 32] ++ flushL kind) ([44]) (by first | (simp; done) | (simp; omega))
  simp only [List.cons_append, List.nil_append, List.append_assoc] at a1
  have a2 := add_run ([84, 76, 66, 73, 32] ++ flushL kind ++ [44]) (D) (by first | (simp; done) | (simp; omega))
  simp only [List.cons_append, List.nil_append, List.append_assoc] at a2
  clear hD hN hM
  try clear hl
  go_enter Try.func17, Try.ntmps17
  go_wp2_with fail
  refine (cT.out _).mono ?_
  rintro e w1 ⟨rfl, hb⟩
  have B1 : Below w.heap.size w w1 := Below.trans (by repeat' (first | with_reducible exact Below.refl _ _ | with_reducible assumption | with_reducible apply below_drewN | with_reducible apply Below.drew | with_reducible refine Below.setCell ?_ ?_ _ | with_reducible refine Below.alloc ?_ ?_ _ | omega | (simp; done) | (simp; omega))) (hb.mono (by first | omega | (simp; done) | (simp; omega)))
  clear hb
  go_wp2_with fail
  go_ret
  exact ⟨rfl, B1⟩

set_option maxHeartbeats 4000000 in
theorem rest_23 ( D N M : List UInt8) (d kind : Int) (hk : 0 ≤ kind ∧ kind ≤ 2) (hD : D.length ≤ 100) (hN : N.length ≤ 100) (hM : M.length ≤ 100) (w : World) :
    Calls Try.prog 17 #[.agg #[.int .i64 23, .int .i64 d, .int .i64 0, .int .i64 0, .int .i64 0, .int .i64 kind], (.string ⟨(D).toArray⟩), (.string ⟨(N).toArray⟩), (.string ⟨(M).toArray⟩)] w (RetB (.string ⟨(77 :: 82 :: 83 :: 32 :: (D ++ 44 :: systemL kind)).toArray⟩) w) := by
  have hl := systemL_len kind
  have cT : Hid (∀ V, Calls Try.prog 34 #[.int .i64 kind] V (RetB (.string ⟨(systemL kind).toArray⟩) V)) := Lib.hid fun V => systemt_any kind (by omega) V
  clear hk
  have a0 := add_run ([77, 82, 83, 32]) (D) (by first | (simp; done) | (simp; omega))
  simp only [List.cons_append, List.nil_append, List.append_assoc] at a0
  have a1 := add_run ([77, 82, 83, 32] ++ D) ([44]) (by first | (simp; done) | (simp; omega))
  simp only [List.cons_append, List.nil_append, List.append_assoc] at a1
  have a2 := add_run ([77, 82, 83, 32] ++ D ++ [44]) (systemL kind) (by first | (simp; done) | (simp; omega))
  simp only [List.cons_append, List.nil_append, List.append_assoc] at a2
  clear hD hN hM
  try clear hl
  go_enter Try.func17, Try.ntmps17
  go_wp2_with fail
  refine (cT.out _).mono ?_
  rintro e w1 ⟨rfl, hb⟩
  have B1 : Below w.heap.size w w1 := Below.trans (by repeat' (first | with_reducible exact Below.refl _ _ | with_reducible assumption | with_reducible apply below_drewN | with_reducible apply Below.drew | with_reducible refine Below.setCell ?_ ?_ _ | with_reducible refine Below.alloc ?_ ?_ _ | omega | (simp; done) | (simp; omega))) (hb.mono (by first | omega | (simp; done) | (simp; omega)))
  clear hb
  go_wp2_with fail
  go_ret
  exact ⟨rfl, B1⟩

set_option maxHeartbeats 4000000 in
theorem rest_13_c ( D N M : List UInt8) (n m : Int) (hD : D.length ≤ 100) (hN : N.length ≤ 100) (hM : M.length ≤ 100) (w : World) :
    Calls Try.prog 17 #[.agg #[.int .i64 13, .int .i64 31, .int .i64 n, .int .i64 m, .int .i64 0, .int .i64 0], (.string ⟨(D).toArray⟩), (.string ⟨(N).toArray⟩), (.string ⟨(M).toArray⟩)] w (RetB (.string ⟨(67 :: 77 :: 80 :: 32 :: (N ++ 44 :: M)).toArray⟩) w) := by
  have a0 := add_run ([67, 77, 80, 32]) (N) (by first | (simp; done) | (simp; omega))
  simp only [List.cons_append, List.nil_append, List.append_assoc] at a0
  have a1 := add_run ([67, 77, 80, 32] ++ N) ([44]) (by first | (simp; done) | (simp; omega))
  simp only [List.cons_append, List.nil_append, List.append_assoc] at a1
  have a2 := add_run ([67, 77, 80, 32] ++ N ++ [44]) (M) (by first | (simp; done) | (simp; omega))
  simp only [List.cons_append, List.nil_append, List.append_assoc] at a2
  clear hD hN hM
  try clear hl
  go_enter Try.func17, Try.ntmps17
  go_wp2_with fail
  go_ret
  exact ⟨rfl, by repeat' (first | with_reducible exact Below.refl _ _ | with_reducible assumption | with_reducible apply below_drewN | with_reducible apply Below.drew | with_reducible refine Below.setCell ?_ ?_ _ | with_reducible refine Below.alloc ?_ ?_ _ | omega | (simp; done) | (simp; omega))⟩

set_option maxHeartbeats 4000000 in
theorem rest_8 ( D N M : List UInt8) (d n m : Int) (hD : D.length ≤ 100) (hN : N.length ≤ 100) (hM : M.length ≤ 100) (w : World) :
    Calls Try.prog 17 #[.agg #[.int .i64 8, .int .i64 d, .int .i64 n, .int .i64 m, .int .i64 0, .int .i64 0], (.string ⟨(D).toArray⟩), (.string ⟨(N).toArray⟩), (.string ⟨(M).toArray⟩)] w (RetB (.string ⟨(65 :: 68 :: 68 :: 32 :: (D ++ 44 :: (N ++ 44 :: M))).toArray⟩) w) := by
  have cT : Hid (∀ V, Calls Try.prog 15 #[.int .i64 8] V (RetB (.string ⟨#[65, 68, 68]⟩) V)) := Lib.hid fun V => namet_any 8 (by decide) V
  have a0 := add_run ([65, 68, 68]) ([32]) (by first | (simp; done) | (simp; omega))
  simp only [List.cons_append, List.nil_append, List.append_assoc] at a0
  have a1 := add_run ([65, 68, 68] ++ [32]) (D) (by first | (simp; done) | (simp; omega))
  simp only [List.cons_append, List.nil_append, List.append_assoc] at a1
  have a2 := add_run ([65, 68, 68] ++ [32] ++ D) ([44]) (by first | (simp; done) | (simp; omega))
  simp only [List.cons_append, List.nil_append, List.append_assoc] at a2
  have a3 := add_run ([65, 68, 68] ++ [32] ++ D ++ [44]) (N) (by first | (simp; done) | (simp; omega))
  simp only [List.cons_append, List.nil_append, List.append_assoc] at a3
  have a4 := add_run ([65, 68, 68] ++ [32] ++ D ++ [44] ++ N) ([44]) (by first | (simp; done) | (simp; omega))
  simp only [List.cons_append, List.nil_append, List.append_assoc] at a4
  have a5 := add_run ([65, 68, 68] ++ [32] ++ D ++ [44] ++ N ++ [44]) (M) (by first | (simp; done) | (simp; omega))
  simp only [List.cons_append, List.nil_append, List.append_assoc] at a5
  clear hD hN hM
  try clear hl
  go_enter Try.func17, Try.ntmps17
  go_wp2_with fail
  refine (cT.out _).mono ?_
  rintro e w1 ⟨rfl, hb⟩
  have B1 : Below w.heap.size w w1 := Below.trans (by repeat' (first | with_reducible exact Below.refl _ _ | with_reducible assumption | with_reducible apply below_drewN | with_reducible apply Below.drew | with_reducible refine Below.setCell ?_ ?_ _ | with_reducible refine Below.alloc ?_ ?_ _ | omega | (simp; done) | (simp; omega))) (hb.mono (by first | omega | (simp; done) | (simp; omega)))
  clear hb
  go_wp2_with fail
  go_ret
  exact ⟨rfl, B1⟩

set_option maxHeartbeats 4000000 in
theorem rest_9 ( D N M : List UInt8) (d n m : Int) (hD : D.length ≤ 100) (hN : N.length ≤ 100) (hM : M.length ≤ 100) (w : World) :
    Calls Try.prog 17 #[.agg #[.int .i64 9, .int .i64 d, .int .i64 n, .int .i64 m, .int .i64 0, .int .i64 0], (.string ⟨(D).toArray⟩), (.string ⟨(N).toArray⟩), (.string ⟨(M).toArray⟩)] w (RetB (.string ⟨(83 :: 85 :: 66 :: 32 :: (D ++ 44 :: (N ++ 44 :: M))).toArray⟩) w) := by
  have cT : Hid (∀ V, Calls Try.prog 15 #[.int .i64 9] V (RetB (.string ⟨#[83, 85, 66]⟩) V)) := Lib.hid fun V => namet_any 9 (by decide) V
  have a0 := add_run ([83, 85, 66]) ([32]) (by first | (simp; done) | (simp; omega))
  simp only [List.cons_append, List.nil_append, List.append_assoc] at a0
  have a1 := add_run ([83, 85, 66] ++ [32]) (D) (by first | (simp; done) | (simp; omega))
  simp only [List.cons_append, List.nil_append, List.append_assoc] at a1
  have a2 := add_run ([83, 85, 66] ++ [32] ++ D) ([44]) (by first | (simp; done) | (simp; omega))
  simp only [List.cons_append, List.nil_append, List.append_assoc] at a2
  have a3 := add_run ([83, 85, 66] ++ [32] ++ D ++ [44]) (N) (by first | (simp; done) | (simp; omega))
  simp only [List.cons_append, List.nil_append, List.append_assoc] at a3
  have a4 := add_run ([83, 85, 66] ++ [32] ++ D ++ [44] ++ N) ([44]) (by first | (simp; done) | (simp; omega))
  simp only [List.cons_append, List.nil_append, List.append_assoc] at a4
  have a5 := add_run ([83, 85, 66] ++ [32] ++ D ++ [44] ++ N ++ [44]) (M) (by first | (simp; done) | (simp; omega))
  simp only [List.cons_append, List.nil_append, List.append_assoc] at a5
  clear hD hN hM
  try clear hl
  go_enter Try.func17, Try.ntmps17
  go_wp2_with fail
  refine (cT.out _).mono ?_
  rintro e w1 ⟨rfl, hb⟩
  have B1 : Below w.heap.size w w1 := Below.trans (by repeat' (first | with_reducible exact Below.refl _ _ | with_reducible assumption | with_reducible apply below_drewN | with_reducible apply Below.drew | with_reducible refine Below.setCell ?_ ?_ _ | with_reducible refine Below.alloc ?_ ?_ _ | omega | (simp; done) | (simp; omega))) (hb.mono (by first | omega | (simp; done) | (simp; omega)))
  clear hb
  go_wp2_with fail
  go_ret
  exact ⟨rfl, B1⟩

set_option maxHeartbeats 4000000 in
theorem rest_10 ( D N M : List UInt8) (d n m : Int) (hD : D.length ≤ 100) (hN : N.length ≤ 100) (hM : M.length ≤ 100) (w : World) :
    Calls Try.prog 17 #[.agg #[.int .i64 10, .int .i64 d, .int .i64 n, .int .i64 m, .int .i64 0, .int .i64 0], (.string ⟨(D).toArray⟩), (.string ⟨(N).toArray⟩), (.string ⟨(M).toArray⟩)] w (RetB (.string ⟨(65 :: 78 :: 68 :: 32 :: (D ++ 44 :: (N ++ 44 :: M))).toArray⟩) w) := by
  have cT : Hid (∀ V, Calls Try.prog 15 #[.int .i64 10] V (RetB (.string ⟨#[65, 78, 68]⟩) V)) := Lib.hid fun V => namet_any 10 (by decide) V
  have a0 := add_run ([65, 78, 68]) ([32]) (by first | (simp; done) | (simp; omega))
  simp only [List.cons_append, List.nil_append, List.append_assoc] at a0
  have a1 := add_run ([65, 78, 68] ++ [32]) (D) (by first | (simp; done) | (simp; omega))
  simp only [List.cons_append, List.nil_append, List.append_assoc] at a1
  have a2 := add_run ([65, 78, 68] ++ [32] ++ D) ([44]) (by first | (simp; done) | (simp; omega))
  simp only [List.cons_append, List.nil_append, List.append_assoc] at a2
  have a3 := add_run ([65, 78, 68] ++ [32] ++ D ++ [44]) (N) (by first | (simp; done) | (simp; omega))
  simp only [List.cons_append, List.nil_append, List.append_assoc] at a3
  have a4 := add_run ([65, 78, 68] ++ [32] ++ D ++ [44] ++ N) ([44]) (by first | (simp; done) | (simp; omega))
  simp only [List.cons_append, List.nil_append, List.append_assoc] at a4
  have a5 := add_run ([65, 78, 68] ++ [32] ++ D ++ [44] ++ N ++ [44]) (M) (by first | (simp; done) | (simp; omega))
  simp only [List.cons_append, List.nil_append, List.append_assoc] at a5
  clear hD hN hM
  try clear hl
  go_enter Try.func17, Try.ntmps17
  go_wp2_with fail
  refine (cT.out _).mono ?_
  rintro e w1 ⟨rfl, hb⟩
  have B1 : Below w.heap.size w w1 := Below.trans (by repeat' (first | with_reducible exact Below.refl _ _ | with_reducible assumption | with_reducible apply below_drewN | with_reducible apply Below.drew | with_reducible refine Below.setCell ?_ ?_ _ | with_reducible refine Below.alloc ?_ ?_ _ | omega | (simp; done) | (simp; omega))) (hb.mono (by first | omega | (simp; done) | (simp; omega)))
  clear hb
  go_wp2_with fail
  go_ret
  exact ⟨rfl, B1⟩

set_option maxHeartbeats 4000000 in
theorem rest_11 ( D N M : List UInt8) (d n m : Int) (hD : D.length ≤ 100) (hN : N.length ≤ 100) (hM : M.length ≤ 100) (w : World) :
    Calls Try.prog 17 #[.agg #[.int .i64 11, .int .i64 d, .int .i64 n, .int .i64 m, .int .i64 0, .int .i64 0], (.string ⟨(D).toArray⟩), (.string ⟨(N).toArray⟩), (.string ⟨(M).toArray⟩)] w (RetB (.string ⟨(79 :: 82 :: 82 :: 32 :: (D ++ 44 :: (N ++ 44 :: M))).toArray⟩) w) := by
  have cT : Hid (∀ V, Calls Try.prog 15 #[.int .i64 11] V (RetB (.string ⟨#[79, 82, 82]⟩) V)) := Lib.hid fun V => namet_any 11 (by decide) V
  have a0 := add_run ([79, 82, 82]) ([32]) (by first | (simp; done) | (simp; omega))
  simp only [List.cons_append, List.nil_append, List.append_assoc] at a0
  have a1 := add_run ([79, 82, 82] ++ [32]) (D) (by first | (simp; done) | (simp; omega))
  simp only [List.cons_append, List.nil_append, List.append_assoc] at a1
  have a2 := add_run ([79, 82, 82] ++ [32] ++ D) ([44]) (by first | (simp; done) | (simp; omega))
  simp only [List.cons_append, List.nil_append, List.append_assoc] at a2
  have a3 := add_run ([79, 82, 82] ++ [32] ++ D ++ [44]) (N) (by first | (simp; done) | (simp; omega))
  simp only [List.cons_append, List.nil_append, List.append_assoc] at a3
  have a4 := add_run ([79, 82, 82] ++ [32] ++ D ++ [44] ++ N) ([44]) (by first | (simp; done) | (simp; omega))
  simp only [List.cons_append, List.nil_append, List.append_assoc] at a4
  have a5 := add_run ([79, 82, 82] ++ [32] ++ D ++ [44] ++ N ++ [44]) (M) (by first | (simp; done) | (simp; omega))
  simp only [List.cons_append, List.nil_append, List.append_assoc] at a5
  clear hD hN hM
  try clear hl
  go_enter Try.func17, Try.ntmps17
  go_wp2_with fail
  refine (cT.out _).mono ?_
  rintro e w1 ⟨rfl, hb⟩
  have B1 : Below w.heap.size w w1 := Below.trans (by repeat' (first | with_reducible exact Below.refl _ _ | with_reducible assumption | with_reducible apply below_drewN | with_reducible apply Below.drew | with_reducible refine Below.setCell ?_ ?_ _ | with_reducible refine Below.alloc ?_ ?_ _ | omega | (simp; done) | (simp; omega))) (hb.mono (by first | omega | (simp; done) | (simp; omega)))
  clear hb
  go_wp2_with fail
  go_ret
  exact ⟨rfl, B1⟩

set_option maxHeartbeats 4000000 in
theorem rest_12 ( D N M : List UInt8) (d n m : Int) (hD : D.length ≤ 100) (hN : N.length ≤ 100) (hM : M.length ≤ 100) (w : World) :
    Calls Try.prog 17 #[.agg #[.int .i64 12, .int .i64 d, .int .i64 n, .int .i64 m, .int .i64 0, .int .i64 0], (.string ⟨(D).toArray⟩), (.string ⟨(N).toArray⟩), (.string ⟨(M).toArray⟩)] w (RetB (.string ⟨(69 :: 79 :: 82 :: 32 :: (D ++ 44 :: (N ++ 44 :: M))).toArray⟩) w) := by
  have cT : Hid (∀ V, Calls Try.prog 15 #[.int .i64 12] V (RetB (.string ⟨#[69, 79, 82]⟩) V)) := Lib.hid fun V => namet_any 12 (by decide) V
  have a0 := add_run ([69, 79, 82]) ([32]) (by first | (simp; done) | (simp; omega))
  simp only [List.cons_append, List.nil_append, List.append_assoc] at a0
  have a1 := add_run ([69, 79, 82] ++ [32]) (D) (by first | (simp; done) | (simp; omega))
  simp only [List.cons_append, List.nil_append, List.append_assoc] at a1
  have a2 := add_run ([69, 79, 82] ++ [32] ++ D) ([44]) (by first | (simp; done) | (simp; omega))
  simp only [List.cons_append, List.nil_append, List.append_assoc] at a2
  have a3 := add_run ([69, 79, 82] ++ [32] ++ D ++ [44]) (N) (by first | (simp; done) | (simp; omega))
  simp only [List.cons_append, List.nil_append, List.append_assoc] at a3
  have a4 := add_run ([69, 79, 82] ++ [32] ++ D ++ [44] ++ N) ([44]) (by first | (simp; done) | (simp; omega))
  simp only [List.cons_append, List.nil_append, List.append_assoc] at a4
  have a5 := add_run ([69, 79, 82] ++ [32] ++ D ++ [44] ++ N ++ [44]) (M) (by first | (simp; done) | (simp; omega))
  simp only [List.cons_append, List.nil_append, List.append_assoc] at a5
  clear hD hN hM
  try clear hl
  go_enter Try.func17, Try.ntmps17
  go_wp2_with fail
  refine (cT.out _).mono ?_
  rintro e w1 ⟨rfl, hb⟩
  have B1 : Below w.heap.size w w1 := Below.trans (by repeat' (first | with_reducible exact Below.refl _ _ | with_reducible assumption | with_reducible apply below_drewN | with_reducible apply Below.drew | with_reducible refine Below.setCell ?_ ?_ _ | with_reducible refine Below.alloc ?_ ?_ _ | omega | (simp; done) | (simp; omega))) (hb.mono (by first | omega | (simp; done) | (simp; omega)))
  clear hb
  go_wp2_with fail
  go_ret
  exact ⟨rfl, B1⟩

set_option maxHeartbeats 4000000 in
theorem rest_13 ( D N M : List UInt8) (d n m : Int) (hd : ¬ d = 31) (hD : D.length ≤ 100) (hN : N.length ≤ 100) (hM : M.length ≤ 100) (w : World) :
    Calls Try.prog 17 #[.agg #[.int .i64 13, .int .i64 d, .int .i64 n, .int .i64 m, .int .i64 0, .int .i64 0], (.string ⟨(D).toArray⟩), (.string ⟨(N).toArray⟩), (.string ⟨(M).toArray⟩)] w (RetB (.string ⟨(83 :: 85 :: 66 :: 83 :: 32 :: (D ++ 44 :: (N ++ 44 :: M))).toArray⟩) w) := by
  have cT : Hid (∀ V, Calls Try.prog 15 #[.int .i64 13] V (RetB (.string ⟨#[83, 85, 66, 83]⟩) V)) := Lib.hid fun V => namet_any 13 (by decide) V
  have a0 := add_run ([83, 85, 66, 83]) ([32]) (by first | (simp; done) | (simp; omega))
  simp only [List.cons_append, List.nil_append, List.append_assoc] at a0
  have a1 := add_run ([83, 85, 66, 83] ++ [32]) (D) (by first | (simp; done) | (simp; omega))
  simp only [List.cons_append, List.nil_append, List.append_assoc] at a1
  have a2 := add_run ([83, 85, 66, 83] ++ [32] ++ D) ([44]) (by first | (simp; done) | (simp; omega))
  simp only [List.cons_append, List.nil_append, List.append_assoc] at a2
  have a3 := add_run ([83, 85, 66, 83] ++ [32] ++ D ++ [44]) (N) (by first | (simp; done) | (simp; omega))
  simp only [List.cons_append, List.nil_append, List.append_assoc] at a3
  have a4 := add_run ([83, 85, 66, 83] ++ [32] ++ D ++ [44] ++ N) ([44]) (by first | (simp; done) | (simp; omega))
  simp only [List.cons_append, List.nil_append, List.append_assoc] at a4
  have a5 := add_run ([83, 85, 66, 83] ++ [32] ++ D ++ [44] ++ N ++ [44]) (M) (by first | (simp; done) | (simp; omega))
  simp only [List.cons_append, List.nil_append, List.append_assoc] at a5
  clear hD hN hM
  try clear hl
  go_enter Try.func17, Try.ntmps17
  go_wp2_with fail
  refine (cT.out _).mono ?_
  rintro e w1 ⟨rfl, hb⟩
  have B1 : Below w.heap.size w w1 := Below.trans (by repeat' (first | with_reducible exact Below.refl _ _ | with_reducible assumption | with_reducible apply below_drewN | with_reducible apply Below.drew | with_reducible refine Below.setCell ?_ ?_ _ | with_reducible refine Below.alloc ?_ ?_ _ | omega | (simp; done) | (simp; omega))) (hb.mono (by first | omega | (simp; done) | (simp; omega)))
  clear hb
  go_wp2_with fail
  go_ret
  exact ⟨rfl, B1⟩

set_option maxHeartbeats 8000000 in
theorem print_1 (hr : rightP ⟨1, 0, 0, 0, 0, 0⟩) (w : World) :
    Calls Try.prog 5 #[instrV ⟨1, 0, 0, 0, 0, 0⟩] w (RetB (.string ⟨([78, 79, 80]).toArray⟩) w) := by
  have cR : Hid (∀ k, 0 ≤ k → k ≤ 31 → ∀ V, Calls Try.prog 13 #[.int .i64 k] V (RetB (.string ⟨(regL k).toArray⟩) V)) := Lib.hid fun k h0 h1 V => regt_any k V h0 h1
  have hli0 := intL_len (i := 0) (by omega) (by omega)
  have cI : Hid (∀ V, Calls Try.prog 14 #[.int .i64 0] V (RetB (.string ⟨(intL (0)).toArray⟩) V)) := Lib.hid fun V => int_any (0) V (by omega) (by omega)
  have cX : Hid (∀ V, Calls Try.prog 6 #[.agg #[.int .i64 1, .int .i64 0, .int .i64 0, .int .i64 0, .int .i64 0, .int .i64 0]] V (RetB (.int .i64 0) V)) := Lib.hid fun V => by
    have := iright_any ⟨1, 0, 0, 0, 0, 0⟩ V
    rw [errX_yes hr] at this
    exact this
  have i0 := add_run [35] (intL (0)) (by first | (simp; done) | (simp; omega))
  simp only [List.cons_append, List.nil_append, List.append_assoc] at i0
  have cN : Hid (∀ V, Calls Try.prog 15 #[.int .i64 1] V (RetB (.string ⟨#[78, 79, 80]⟩) V)) := Lib.hid fun V => namet_any 1 (by decide) V
  clear hr hli0
  try clear hli
  simp only [instrV]
  go_enter Try.func5, Try.ntmps5
  go_wp2_with fail
  refine (cX.out _).mono ?_
  rintro e w1 ⟨rfl, hb⟩
  have B1 : Below w.heap.size w w1 := Below.trans (by repeat' (first | with_reducible exact Below.refl _ _ | with_reducible assumption | with_reducible apply below_drewN | with_reducible apply Below.drew | with_reducible refine Below.setCell ?_ ?_ _ | with_reducible refine Below.alloc ?_ ?_ _ | omega | (simp; done) | (simp; omega))) (hb.mono (by first | omega | (simp; done) | (simp; omega)))
  have B1s := B1.size
  obtain ⟨q1, q2, q3, q4⟩ := keepB hb w.heap.size (by first | omega | (simp; done) | (simp; omega))
  clear hb
  go_wp2_with fail
  refine wp_region_qb1 w.heap.size (by kernel_rfl) (by kernel_rfl) (by first | omega | (simp; done) | (simp; omega)) (fun kq => ?_); (repeat (go_big_quiet_step (first | (go_at_call 13; exact quietB (cR.out _ (by first | decide) (by first | decide) _)) | (go_at_call 14; exact quietB (cI.out _))))); refine wpQuiet_nil ?_; clear kq; intro wq hb
  have B2 : Below w.heap.size w wq := B1.trans (hb.mono B1s)
  have B2s := B2.size
  obtain ⟨r1, r2, r3, r4⟩ := keepB hb w.heap.size (by first | omega | (simp; done) | (simp; omega))
  clear hb
  go_wp2_with fail
  refine (cN.out _).mono ?_
  rintro e w3 ⟨rfl, hb⟩
  have B3 : Below w.heap.size w w3 := B2.trans (hb.mono B2s)
  clear hb
  go_wp2_with fail
  go_ret
  exact ⟨rfl, B3⟩

set_option maxHeartbeats 8000000 in
theorem print_20 (hr : rightP ⟨20, 0, 0, 0, 0, 0⟩) (w : World) :
    Calls Try.prog 5 #[instrV ⟨20, 0, 0, 0, 0, 0⟩] w (RetB (.string ⟨([73, 83, 66]).toArray⟩) w) := by
  have cR : Hid (∀ k, 0 ≤ k → k ≤ 31 → ∀ V, Calls Try.prog 13 #[.int .i64 k] V (RetB (.string ⟨(regL k).toArray⟩) V)) := Lib.hid fun k h0 h1 V => regt_any k V h0 h1
  have hli0 := intL_len (i := 0) (by omega) (by omega)
  have cI : Hid (∀ V, Calls Try.prog 14 #[.int .i64 0] V (RetB (.string ⟨(intL (0)).toArray⟩) V)) := Lib.hid fun V => int_any (0) V (by omega) (by omega)
  have cX : Hid (∀ V, Calls Try.prog 6 #[.agg #[.int .i64 20, .int .i64 0, .int .i64 0, .int .i64 0, .int .i64 0, .int .i64 0]] V (RetB (.int .i64 0) V)) := Lib.hid fun V => by
    have := iright_any ⟨20, 0, 0, 0, 0, 0⟩ V
    rw [errX_yes hr] at this
    exact this
  have i0 := add_run [35] (intL (0)) (by first | (simp; done) | (simp; omega))
  simp only [List.cons_append, List.nil_append, List.append_assoc] at i0
  have cN : Hid (∀ V, Calls Try.prog 15 #[.int .i64 20] V (RetB (.string ⟨#[73, 83, 66]⟩) V)) := Lib.hid fun V => namet_any 20 (by decide) V
  clear hr hli0
  try clear hli
  simp only [instrV]
  go_enter Try.func5, Try.ntmps5
  go_wp2_with fail
  refine (cX.out _).mono ?_
  rintro e w1 ⟨rfl, hb⟩
  have B1 : Below w.heap.size w w1 := Below.trans (by repeat' (first | with_reducible exact Below.refl _ _ | with_reducible assumption | with_reducible apply below_drewN | with_reducible apply Below.drew | with_reducible refine Below.setCell ?_ ?_ _ | with_reducible refine Below.alloc ?_ ?_ _ | omega | (simp; done) | (simp; omega))) (hb.mono (by first | omega | (simp; done) | (simp; omega)))
  have B1s := B1.size
  obtain ⟨q1, q2, q3, q4⟩ := keepB hb w.heap.size (by first | omega | (simp; done) | (simp; omega))
  clear hb
  go_wp2_with fail
  refine wp_region_qb1 w.heap.size (by kernel_rfl) (by kernel_rfl) (by first | omega | (simp; done) | (simp; omega)) (fun kq => ?_); (repeat (go_big_quiet_step (first | (go_at_call 13; exact quietB (cR.out _ (by first | decide) (by first | decide) _)) | (go_at_call 14; exact quietB (cI.out _))))); refine wpQuiet_nil ?_; clear kq; intro wq hb
  have B2 : Below w.heap.size w wq := B1.trans (hb.mono B1s)
  have B2s := B2.size
  obtain ⟨r1, r2, r3, r4⟩ := keepB hb w.heap.size (by first | omega | (simp; done) | (simp; omega))
  clear hb
  go_wp2_with fail
  refine (cN.out _).mono ?_
  rintro e w3 ⟨rfl, hb⟩
  have B3 : Below w.heap.size w w3 := B2.trans (hb.mono B2s)
  clear hb
  go_wp2_with fail
  go_ret
  exact ⟨rfl, B3⟩

set_option maxHeartbeats 8000000 in
theorem print_22 (hr : rightP ⟨22, 0, 0, 0, 0, 0⟩) (w : World) :
    Calls Try.prog 5 #[instrV ⟨22, 0, 0, 0, 0, 0⟩] w (RetB (.string ⟨([69, 82, 69, 84]).toArray⟩) w) := by
  have cR : Hid (∀ k, 0 ≤ k → k ≤ 31 → ∀ V, Calls Try.prog 13 #[.int .i64 k] V (RetB (.string ⟨(regL k).toArray⟩) V)) := Lib.hid fun k h0 h1 V => regt_any k V h0 h1
  have hli0 := intL_len (i := 0) (by omega) (by omega)
  have cI : Hid (∀ V, Calls Try.prog 14 #[.int .i64 0] V (RetB (.string ⟨(intL (0)).toArray⟩) V)) := Lib.hid fun V => int_any (0) V (by omega) (by omega)
  have cX : Hid (∀ V, Calls Try.prog 6 #[.agg #[.int .i64 22, .int .i64 0, .int .i64 0, .int .i64 0, .int .i64 0, .int .i64 0]] V (RetB (.int .i64 0) V)) := Lib.hid fun V => by
    have := iright_any ⟨22, 0, 0, 0, 0, 0⟩ V
    rw [errX_yes hr] at this
    exact this
  have i0 := add_run [35] (intL (0)) (by first | (simp; done) | (simp; omega))
  simp only [List.cons_append, List.nil_append, List.append_assoc] at i0
  have cN : Hid (∀ V, Calls Try.prog 15 #[.int .i64 22] V (RetB (.string ⟨#[69, 82, 69, 84]⟩) V)) := Lib.hid fun V => namet_any 22 (by decide) V
  clear hr hli0
  try clear hli
  simp only [instrV]
  go_enter Try.func5, Try.ntmps5
  go_wp2_with fail
  refine (cX.out _).mono ?_
  rintro e w1 ⟨rfl, hb⟩
  have B1 : Below w.heap.size w w1 := Below.trans (by repeat' (first | with_reducible exact Below.refl _ _ | with_reducible assumption | with_reducible apply below_drewN | with_reducible apply Below.drew | with_reducible refine Below.setCell ?_ ?_ _ | with_reducible refine Below.alloc ?_ ?_ _ | omega | (simp; done) | (simp; omega))) (hb.mono (by first | omega | (simp; done) | (simp; omega)))
  have B1s := B1.size
  obtain ⟨q1, q2, q3, q4⟩ := keepB hb w.heap.size (by first | omega | (simp; done) | (simp; omega))
  clear hb
  go_wp2_with fail
  refine wp_region_qb1 w.heap.size (by kernel_rfl) (by kernel_rfl) (by first | omega | (simp; done) | (simp; omega)) (fun kq => ?_); (repeat (go_big_quiet_step (first | (go_at_call 13; exact quietB (cR.out _ (by first | decide) (by first | decide) _)) | (go_at_call 14; exact quietB (cI.out _))))); refine wpQuiet_nil ?_; clear kq; intro wq hb
  have B2 : Below w.heap.size w wq := B1.trans (hb.mono B1s)
  have B2s := B2.size
  obtain ⟨r1, r2, r3, r4⟩ := keepB hb w.heap.size (by first | omega | (simp; done) | (simp; omega))
  clear hb
  go_wp2_with fail
  refine (cN.out _).mono ?_
  rintro e w3 ⟨rfl, hb⟩
  have B3 : Below w.heap.size w w3 := B2.trans (hb.mono B2s)
  clear hb
  go_wp2_with fail
  go_ret
  exact ⟨rfl, B3⟩

set_option maxHeartbeats 8000000 in
theorem print_2_0 (d n : Int) (hd : 0 ≤ d ∧ d ≤ 31) (hn : 0 ≤ n ∧ n ≤ 31) (hr : rightP ⟨2, d, n, 0, 0, 0⟩) (w : World) :
    Calls Try.prog 5 #[instrV ⟨2, d, n, 0, 0, 0⟩] w (RetB (.string ⟨(76 :: 68 :: 82 :: 32 :: (regL d ++ 44 :: 91 :: (regL n ++ [93]))).toArray⟩) w) := by
  have hld := regL_len hd.1 hd.2
  have hln := regL_len hn.1 hn.2
  have cR : Hid (∀ k, 0 ≤ k → k ≤ 31 → ∀ V, Calls Try.prog 13 #[.int .i64 k] V (RetB (.string ⟨(regL k).toArray⟩) V)) := Lib.hid fun k h0 h1 V => regt_any k V h0 h1
  have hli0 := intL_len (i := 0) (by omega) (by omega)
  have cI : Hid (∀ V, Calls Try.prog 14 #[.int .i64 0] V (RetB (.string ⟨(intL (0)).toArray⟩) V)) := Lib.hid fun V => int_any (0) V (by omega) (by omega)
  have cX : Hid (∀ V, Calls Try.prog 6 #[.agg #[.int .i64 2, .int .i64 d, .int .i64 n, .int .i64 0, .int .i64 0, .int .i64 0]] V (RetB (.int .i64 0) V)) := Lib.hid fun V => by
    have := iright_any ⟨2, d, n, 0, 0, 0⟩ V
    rw [errX_yes hr] at this
    exact this
  have i0 := add_run [35] (intL (0)) (by first | (simp; done) | (simp; omega))
  simp only [List.cons_append, List.nil_append, List.append_assoc] at i0
  have cN : Hid (∀ V, Calls Try.prog 15 #[.int .i64 2] V (RetB (.string ⟨#[76, 68, 82]⟩) V)) := Lib.hid fun V => namet_any 2 (by decide) V
  have a0 := add_run ([76, 68, 82]) ([32]) (by first | (simp; done) | (simp; omega))
  simp only [List.cons_append, List.nil_append, List.append_assoc] at a0
  have a1 := add_run ([76, 68, 82] ++ [32]) (regL d) (by first | (simp; done) | (simp; omega))
  simp only [List.cons_append, List.nil_append, List.append_assoc] at a1
  have a2 := add_run ([76, 68, 82] ++ [32] ++ regL d) ([44, 91]) (by first | (simp; done) | (simp; omega))
  simp only [List.cons_append, List.nil_append, List.append_assoc] at a2
  have a3 := add_run ([76, 68, 82] ++ [32] ++ regL d ++ [44, 91]) (regL n) (by first | (simp; done) | (simp; omega))
  simp only [List.cons_append, List.nil_append, List.append_assoc] at a3
  have a4 := add_run ([76, 68, 82] ++ [32] ++ regL d ++ [44, 91] ++ regL n) ([93]) (by first | (simp; done) | (simp; omega))
  simp only [List.cons_append, List.nil_append, List.append_assoc] at a4
  have HD := Lib.hid hd
  have HN := Lib.hid hn
  clear hr hli0
  try clear hld
  try clear hln
  try clear hli
  simp only [instrV]
  go_enter Try.func5, Try.ntmps5
  go_wp2_with fail
  refine (cX.out _).mono ?_
  rintro e w1 ⟨rfl, hb⟩
  have B1 : Below w.heap.size w w1 := Below.trans (by repeat' (first | with_reducible exact Below.refl _ _ | with_reducible assumption | with_reducible apply below_drewN | with_reducible apply Below.drew | with_reducible refine Below.setCell ?_ ?_ _ | with_reducible refine Below.alloc ?_ ?_ _ | omega | (simp; done) | (simp; omega))) (hb.mono (by first | omega | (simp; done) | (simp; omega)))
  have B1s := B1.size
  obtain ⟨q1, q2, q3, q4⟩ := keepB hb w.heap.size (by first | omega | (simp; done) | (simp; omega))
  clear hb
  go_wp2_with fail
  refine wp_region_qb1 w.heap.size (by kernel_rfl) (by kernel_rfl) (by first | omega | (simp; done) | (simp; omega)) (fun kq => ?_); (repeat (go_big_quiet_step (first | (go_at_call 13; exact quietB (cR.out _ (by first | decide | exact HD.out.1 | exact HN.out.1) (by first | decide | exact HD.out.2 | exact HN.out.2) _)) | (go_at_call 14; exact quietB (cI.out _))))); refine wpQuiet_nil ?_; clear kq; intro wq hb
  have B2 : Below w.heap.size w wq := B1.trans (hb.mono B1s)
  have B2s := B2.size
  obtain ⟨r1, r2, r3, r4⟩ := keepB hb w.heap.size (by first | omega | (simp; done) | (simp; omega))
  clear hb
  go_wp2_with fail
  refine (cN.out _).mono ?_
  rintro e w3 ⟨rfl, hb⟩
  have B3 : Below w.heap.size w w3 := B2.trans (hb.mono B2s)
  clear hb
  go_wp2_with fail
  go_ret
  exact ⟨rfl, B3⟩

set_option maxHeartbeats 8000000 in
theorem print_2_1 (d n imm : Int) (hd : 0 ≤ d ∧ d ≤ 31) (hn : 0 ≤ n ∧ n ≤ 31) (hi : 0 ≤ imm ∧ imm ≤ 32767) (hne : ¬ imm = 0) (hr : rightP ⟨2, d, n, 0, imm, 0⟩) (w : World) :
    Calls Try.prog 5 #[instrV ⟨2, d, n, 0, imm, 0⟩] w (RetB (.string ⟨(76 :: 68 :: 82 :: 32 :: (regL d ++ 44 :: 91 :: (regL n ++ 44 :: ((35 :: intL imm) ++ [93])))).toArray⟩) w) := by
  have hld := regL_len hd.1 hd.2
  have hln := regL_len hn.1 hn.2
  have hli := intL_len (i := imm) (by omega) (by omega)
  have cR : Hid (∀ k, 0 ≤ k → k ≤ 31 → ∀ V, Calls Try.prog 13 #[.int .i64 k] V (RetB (.string ⟨(regL k).toArray⟩) V)) := Lib.hid fun k h0 h1 V => regt_any k V h0 h1
  have hli0 := intL_len (i := imm) (by omega) (by omega)
  have cI : Hid (∀ V, Calls Try.prog 14 #[.int .i64 imm] V (RetB (.string ⟨(intL (imm)).toArray⟩) V)) := Lib.hid fun V => int_any imm V (by omega) (by omega)
  have cX : Hid (∀ V, Calls Try.prog 6 #[.agg #[.int .i64 2, .int .i64 d, .int .i64 n, .int .i64 0, .int .i64 imm, .int .i64 0]] V (RetB (.int .i64 0) V)) := Lib.hid fun V => by
    have := iright_any ⟨2, d, n, 0, imm, 0⟩ V
    rw [errX_yes hr] at this
    exact this
  have i0 := add_run [35] (intL imm) (by first | (simp; done) | (simp; omega))
  simp only [List.cons_append, List.nil_append, List.append_assoc] at i0
  have cN : Hid (∀ V, Calls Try.prog 15 #[.int .i64 2] V (RetB (.string ⟨#[76, 68, 82]⟩) V)) := Lib.hid fun V => namet_any 2 (by decide) V
  have a0 := add_run ([76, 68, 82]) ([32]) (by first | (simp; done) | (simp; omega))
  simp only [List.cons_append, List.nil_append, List.append_assoc] at a0
  have a1 := add_run ([76, 68, 82] ++ [32]) (regL d) (by first | (simp; done) | (simp; omega))
  simp only [List.cons_append, List.nil_append, List.append_assoc] at a1
  have a2 := add_run ([76, 68, 82] ++ [32] ++ regL d) ([44, 91]) (by first | (simp; done) | (simp; omega))
  simp only [List.cons_append, List.nil_append, List.append_assoc] at a2
  have a3 := add_run ([76, 68, 82] ++ [32] ++ regL d ++ [44, 91]) (regL n) (by first | (simp; done) | (simp; omega))
  simp only [List.cons_append, List.nil_append, List.append_assoc] at a3
  have a4 := add_run ([76, 68, 82] ++ [32] ++ regL d ++ [44, 91] ++ regL n) ([44]) (by first | (simp; done) | (simp; omega))
  simp only [List.cons_append, List.nil_append, List.append_assoc] at a4
  have a5 := add_run ([76, 68, 82] ++ [32] ++ regL d ++ [44, 91] ++ regL n ++ [44]) ((35 :: intL imm)) (by first | (simp; done) | (simp; omega))
  simp only [List.cons_append, List.nil_append, List.append_assoc] at a5
  have a6 := add_run ([76, 68, 82] ++ [32] ++ regL d ++ [44, 91] ++ regL n ++ [44] ++ (35 :: intL imm)) ([93]) (by first | (simp; done) | (simp; omega))
  simp only [List.cons_append, List.nil_append, List.append_assoc] at a6
  have HD := Lib.hid hd
  have HN := Lib.hid hn
  clear hr hli0
  try clear hld
  try clear hln
  try clear hli
  simp only [instrV]
  go_enter Try.func5, Try.ntmps5
  go_wp2_with fail
  refine (cX.out _).mono ?_
  rintro e w1 ⟨rfl, hb⟩
  have B1 : Below w.heap.size w w1 := Below.trans (by repeat' (first | with_reducible exact Below.refl _ _ | with_reducible assumption | with_reducible apply below_drewN | with_reducible apply Below.drew | with_reducible refine Below.setCell ?_ ?_ _ | with_reducible refine Below.alloc ?_ ?_ _ | omega | (simp; done) | (simp; omega))) (hb.mono (by first | omega | (simp; done) | (simp; omega)))
  have B1s := B1.size
  obtain ⟨q1, q2, q3, q4⟩ := keepB hb w.heap.size (by first | omega | (simp; done) | (simp; omega))
  clear hb
  go_wp2_with fail
  refine wp_region_qb1 w.heap.size (by kernel_rfl) (by kernel_rfl) (by first | omega | (simp; done) | (simp; omega)) (fun kq => ?_); (repeat (go_big_quiet_step (first | (go_at_call 13; exact quietB (cR.out _ (by first | decide | exact HD.out.1 | exact HN.out.1) (by first | decide | exact HD.out.2 | exact HN.out.2) _)) | (go_at_call 14; exact quietB (cI.out _))))); refine wpQuiet_nil ?_; clear kq; intro wq hb
  have B2 : Below w.heap.size w wq := B1.trans (hb.mono B1s)
  have B2s := B2.size
  obtain ⟨r1, r2, r3, r4⟩ := keepB hb w.heap.size (by first | omega | (simp; done) | (simp; omega))
  clear hb
  go_wp2_with fail
  refine (cN.out _).mono ?_
  rintro e w3 ⟨rfl, hb⟩
  have B3 : Below w.heap.size w w3 := B2.trans (hb.mono B2s)
  clear hb
  go_wp2_with fail
  go_ret
  exact ⟨rfl, B3⟩

set_option maxHeartbeats 8000000 in
theorem print_3_0 (d n : Int) (hd : 0 ≤ d ∧ d ≤ 31) (hn : 0 ≤ n ∧ n ≤ 31) (hr : rightP ⟨3, d, n, 0, 0, 0⟩) (w : World) :
    Calls Try.prog 5 #[instrV ⟨3, d, n, 0, 0, 0⟩] w (RetB (.string ⟨(83 :: 84 :: 82 :: 32 :: (regL d ++ 44 :: 91 :: (regL n ++ [93]))).toArray⟩) w) := by
  have hld := regL_len hd.1 hd.2
  have hln := regL_len hn.1 hn.2
  have cR : Hid (∀ k, 0 ≤ k → k ≤ 31 → ∀ V, Calls Try.prog 13 #[.int .i64 k] V (RetB (.string ⟨(regL k).toArray⟩) V)) := Lib.hid fun k h0 h1 V => regt_any k V h0 h1
  have hli0 := intL_len (i := 0) (by omega) (by omega)
  have cI : Hid (∀ V, Calls Try.prog 14 #[.int .i64 0] V (RetB (.string ⟨(intL (0)).toArray⟩) V)) := Lib.hid fun V => int_any (0) V (by omega) (by omega)
  have cX : Hid (∀ V, Calls Try.prog 6 #[.agg #[.int .i64 3, .int .i64 d, .int .i64 n, .int .i64 0, .int .i64 0, .int .i64 0]] V (RetB (.int .i64 0) V)) := Lib.hid fun V => by
    have := iright_any ⟨3, d, n, 0, 0, 0⟩ V
    rw [errX_yes hr] at this
    exact this
  have i0 := add_run [35] (intL (0)) (by first | (simp; done) | (simp; omega))
  simp only [List.cons_append, List.nil_append, List.append_assoc] at i0
  have cN : Hid (∀ V, Calls Try.prog 15 #[.int .i64 3] V (RetB (.string ⟨#[83, 84, 82]⟩) V)) := Lib.hid fun V => namet_any 3 (by decide) V
  have a0 := add_run ([83, 84, 82]) ([32]) (by first | (simp; done) | (simp; omega))
  simp only [List.cons_append, List.nil_append, List.append_assoc] at a0
  have a1 := add_run ([83, 84, 82] ++ [32]) (regL d) (by first | (simp; done) | (simp; omega))
  simp only [List.cons_append, List.nil_append, List.append_assoc] at a1
  have a2 := add_run ([83, 84, 82] ++ [32] ++ regL d) ([44, 91]) (by first | (simp; done) | (simp; omega))
  simp only [List.cons_append, List.nil_append, List.append_assoc] at a2
  have a3 := add_run ([83, 84, 82] ++ [32] ++ regL d ++ [44, 91]) (regL n) (by first | (simp; done) | (simp; omega))
  simp only [List.cons_append, List.nil_append, List.append_assoc] at a3
  have a4 := add_run ([83, 84, 82] ++ [32] ++ regL d ++ [44, 91] ++ regL n) ([93]) (by first | (simp; done) | (simp; omega))
  simp only [List.cons_append, List.nil_append, List.append_assoc] at a4
  have HD := Lib.hid hd
  have HN := Lib.hid hn
  clear hr hli0
  try clear hld
  try clear hln
  try clear hli
  simp only [instrV]
  go_enter Try.func5, Try.ntmps5
  go_wp2_with fail
  refine (cX.out _).mono ?_
  rintro e w1 ⟨rfl, hb⟩
  have B1 : Below w.heap.size w w1 := Below.trans (by repeat' (first | with_reducible exact Below.refl _ _ | with_reducible assumption | with_reducible apply below_drewN | with_reducible apply Below.drew | with_reducible refine Below.setCell ?_ ?_ _ | with_reducible refine Below.alloc ?_ ?_ _ | omega | (simp; done) | (simp; omega))) (hb.mono (by first | omega | (simp; done) | (simp; omega)))
  have B1s := B1.size
  obtain ⟨q1, q2, q3, q4⟩ := keepB hb w.heap.size (by first | omega | (simp; done) | (simp; omega))
  clear hb
  go_wp2_with fail
  refine wp_region_qb1 w.heap.size (by kernel_rfl) (by kernel_rfl) (by first | omega | (simp; done) | (simp; omega)) (fun kq => ?_); (repeat (go_big_quiet_step (first | (go_at_call 13; exact quietB (cR.out _ (by first | decide | exact HD.out.1 | exact HN.out.1) (by first | decide | exact HD.out.2 | exact HN.out.2) _)) | (go_at_call 14; exact quietB (cI.out _))))); refine wpQuiet_nil ?_; clear kq; intro wq hb
  have B2 : Below w.heap.size w wq := B1.trans (hb.mono B1s)
  have B2s := B2.size
  obtain ⟨r1, r2, r3, r4⟩ := keepB hb w.heap.size (by first | omega | (simp; done) | (simp; omega))
  clear hb
  go_wp2_with fail
  refine (cN.out _).mono ?_
  rintro e w3 ⟨rfl, hb⟩
  have B3 : Below w.heap.size w w3 := B2.trans (hb.mono B2s)
  clear hb
  go_wp2_with fail
  go_ret
  exact ⟨rfl, B3⟩

set_option maxHeartbeats 8000000 in
theorem print_3_1 (d n imm : Int) (hd : 0 ≤ d ∧ d ≤ 31) (hn : 0 ≤ n ∧ n ≤ 31) (hi : 0 ≤ imm ∧ imm ≤ 32767) (hne : ¬ imm = 0) (hr : rightP ⟨3, d, n, 0, imm, 0⟩) (w : World) :
    Calls Try.prog 5 #[instrV ⟨3, d, n, 0, imm, 0⟩] w (RetB (.string ⟨(83 :: 84 :: 82 :: 32 :: (regL d ++ 44 :: 91 :: (regL n ++ 44 :: ((35 :: intL imm) ++ [93])))).toArray⟩) w) := by
  have hld := regL_len hd.1 hd.2
  have hln := regL_len hn.1 hn.2
  have hli := intL_len (i := imm) (by omega) (by omega)
  have cR : Hid (∀ k, 0 ≤ k → k ≤ 31 → ∀ V, Calls Try.prog 13 #[.int .i64 k] V (RetB (.string ⟨(regL k).toArray⟩) V)) := Lib.hid fun k h0 h1 V => regt_any k V h0 h1
  have hli0 := intL_len (i := imm) (by omega) (by omega)
  have cI : Hid (∀ V, Calls Try.prog 14 #[.int .i64 imm] V (RetB (.string ⟨(intL (imm)).toArray⟩) V)) := Lib.hid fun V => int_any imm V (by omega) (by omega)
  have cX : Hid (∀ V, Calls Try.prog 6 #[.agg #[.int .i64 3, .int .i64 d, .int .i64 n, .int .i64 0, .int .i64 imm, .int .i64 0]] V (RetB (.int .i64 0) V)) := Lib.hid fun V => by
    have := iright_any ⟨3, d, n, 0, imm, 0⟩ V
    rw [errX_yes hr] at this
    exact this
  have i0 := add_run [35] (intL imm) (by first | (simp; done) | (simp; omega))
  simp only [List.cons_append, List.nil_append, List.append_assoc] at i0
  have cN : Hid (∀ V, Calls Try.prog 15 #[.int .i64 3] V (RetB (.string ⟨#[83, 84, 82]⟩) V)) := Lib.hid fun V => namet_any 3 (by decide) V
  have a0 := add_run ([83, 84, 82]) ([32]) (by first | (simp; done) | (simp; omega))
  simp only [List.cons_append, List.nil_append, List.append_assoc] at a0
  have a1 := add_run ([83, 84, 82] ++ [32]) (regL d) (by first | (simp; done) | (simp; omega))
  simp only [List.cons_append, List.nil_append, List.append_assoc] at a1
  have a2 := add_run ([83, 84, 82] ++ [32] ++ regL d) ([44, 91]) (by first | (simp; done) | (simp; omega))
  simp only [List.cons_append, List.nil_append, List.append_assoc] at a2
  have a3 := add_run ([83, 84, 82] ++ [32] ++ regL d ++ [44, 91]) (regL n) (by first | (simp; done) | (simp; omega))
  simp only [List.cons_append, List.nil_append, List.append_assoc] at a3
  have a4 := add_run ([83, 84, 82] ++ [32] ++ regL d ++ [44, 91] ++ regL n) ([44]) (by first | (simp; done) | (simp; omega))
  simp only [List.cons_append, List.nil_append, List.append_assoc] at a4
  have a5 := add_run ([83, 84, 82] ++ [32] ++ regL d ++ [44, 91] ++ regL n ++ [44]) ((35 :: intL imm)) (by first | (simp; done) | (simp; omega))
  simp only [List.cons_append, List.nil_append, List.append_assoc] at a5
  have a6 := add_run ([83, 84, 82] ++ [32] ++ regL d ++ [44, 91] ++ regL n ++ [44] ++ (35 :: intL imm)) ([93]) (by first | (simp; done) | (simp; omega))
  simp only [List.cons_append, List.nil_append, List.append_assoc] at a6
  have HD := Lib.hid hd
  have HN := Lib.hid hn
  clear hr hli0
  try clear hld
  try clear hln
  try clear hli
  simp only [instrV]
  go_enter Try.func5, Try.ntmps5
  go_wp2_with fail
  refine (cX.out _).mono ?_
  rintro e w1 ⟨rfl, hb⟩
  have B1 : Below w.heap.size w w1 := Below.trans (by repeat' (first | with_reducible exact Below.refl _ _ | with_reducible assumption | with_reducible apply below_drewN | with_reducible apply Below.drew | with_reducible refine Below.setCell ?_ ?_ _ | with_reducible refine Below.alloc ?_ ?_ _ | omega | (simp; done) | (simp; omega))) (hb.mono (by first | omega | (simp; done) | (simp; omega)))
  have B1s := B1.size
  obtain ⟨q1, q2, q3, q4⟩ := keepB hb w.heap.size (by first | omega | (simp; done) | (simp; omega))
  clear hb
  go_wp2_with fail
  refine wp_region_qb1 w.heap.size (by kernel_rfl) (by kernel_rfl) (by first | omega | (simp; done) | (simp; omega)) (fun kq => ?_); (repeat (go_big_quiet_step (first | (go_at_call 13; exact quietB (cR.out _ (by first | decide | exact HD.out.1 | exact HN.out.1) (by first | decide | exact HD.out.2 | exact HN.out.2) _)) | (go_at_call 14; exact quietB (cI.out _))))); refine wpQuiet_nil ?_; clear kq; intro wq hb
  have B2 : Below w.heap.size w wq := B1.trans (hb.mono B1s)
  have B2s := B2.size
  obtain ⟨r1, r2, r3, r4⟩ := keepB hb w.heap.size (by first | omega | (simp; done) | (simp; omega))
  clear hb
  go_wp2_with fail
  refine (cN.out _).mono ?_
  rintro e w3 ⟨rfl, hb⟩
  have B3 : Below w.heap.size w w3 := B2.trans (hb.mono B2s)
  clear hb
  go_wp2_with fail
  go_ret
  exact ⟨rfl, B3⟩

set_option maxHeartbeats 8000000 in
theorem print_4 (d n : Int) (hd : 0 ≤ d ∧ d ≤ 31) (hn : 0 ≤ n ∧ n ≤ 31) (hr : rightP ⟨4, d, n, 0, 0, 0⟩) (w : World) :
    Calls Try.prog 5 #[instrV ⟨4, d, n, 0, 0, 0⟩] w (RetB (.string ⟨(76 :: 68 :: 65 :: 82 :: 32 :: (regL d ++ 44 :: 91 :: (regL n ++ [93]))).toArray⟩) w) := by
  have hld := regL_len hd.1 hd.2
  have hln := regL_len hn.1 hn.2
  have cR : Hid (∀ k, 0 ≤ k → k ≤ 31 → ∀ V, Calls Try.prog 13 #[.int .i64 k] V (RetB (.string ⟨(regL k).toArray⟩) V)) := Lib.hid fun k h0 h1 V => regt_any k V h0 h1
  have hli0 := intL_len (i := 0) (by omega) (by omega)
  have cI : Hid (∀ V, Calls Try.prog 14 #[.int .i64 0] V (RetB (.string ⟨(intL (0)).toArray⟩) V)) := Lib.hid fun V => int_any (0) V (by omega) (by omega)
  have cX : Hid (∀ V, Calls Try.prog 6 #[.agg #[.int .i64 4, .int .i64 d, .int .i64 n, .int .i64 0, .int .i64 0, .int .i64 0]] V (RetB (.int .i64 0) V)) := Lib.hid fun V => by
    have := iright_any ⟨4, d, n, 0, 0, 0⟩ V
    rw [errX_yes hr] at this
    exact this
  have i0 := add_run [35] (intL (0)) (by first | (simp; done) | (simp; omega))
  simp only [List.cons_append, List.nil_append, List.append_assoc] at i0
  have cN : Hid (∀ V, Calls Try.prog 15 #[.int .i64 4] V (RetB (.string ⟨#[76, 68, 65, 82]⟩) V)) := Lib.hid fun V => namet_any 4 (by decide) V
  have a0 := add_run ([76, 68, 65, 82]) ([32]) (by first | (simp; done) | (simp; omega))
  simp only [List.cons_append, List.nil_append, List.append_assoc] at a0
  have a1 := add_run ([76, 68, 65, 82] ++ [32]) (regL d) (by first | (simp; done) | (simp; omega))
  simp only [List.cons_append, List.nil_append, List.append_assoc] at a1
  have a2 := add_run ([76, 68, 65, 82] ++ [32] ++ regL d) ([44, 91]) (by first | (simp; done) | (simp; omega))
  simp only [List.cons_append, List.nil_append, List.append_assoc] at a2
  have a3 := add_run ([76, 68, 65, 82] ++ [32] ++ regL d ++ [44, 91]) (regL n) (by first | (simp; done) | (simp; omega))
  simp only [List.cons_append, List.nil_append, List.append_assoc] at a3
  have a4 := add_run ([76, 68, 65, 82] ++ [32] ++ regL d ++ [44, 91] ++ regL n) ([93]) (by first | (simp; done) | (simp; omega))
  simp only [List.cons_append, List.nil_append, List.append_assoc] at a4
  have HD := Lib.hid hd
  have HN := Lib.hid hn
  clear hr hli0
  try clear hld
  try clear hln
  try clear hli
  simp only [instrV]
  go_enter Try.func5, Try.ntmps5
  go_wp2_with fail
  refine (cX.out _).mono ?_
  rintro e w1 ⟨rfl, hb⟩
  have B1 : Below w.heap.size w w1 := Below.trans (by repeat' (first | with_reducible exact Below.refl _ _ | with_reducible assumption | with_reducible apply below_drewN | with_reducible apply Below.drew | with_reducible refine Below.setCell ?_ ?_ _ | with_reducible refine Below.alloc ?_ ?_ _ | omega | (simp; done) | (simp; omega))) (hb.mono (by first | omega | (simp; done) | (simp; omega)))
  have B1s := B1.size
  obtain ⟨q1, q2, q3, q4⟩ := keepB hb w.heap.size (by first | omega | (simp; done) | (simp; omega))
  clear hb
  go_wp2_with fail
  refine wp_region_qb1 w.heap.size (by kernel_rfl) (by kernel_rfl) (by first | omega | (simp; done) | (simp; omega)) (fun kq => ?_); (repeat (go_big_quiet_step (first | (go_at_call 13; exact quietB (cR.out _ (by first | decide | exact HD.out.1 | exact HN.out.1) (by first | decide | exact HD.out.2 | exact HN.out.2) _)) | (go_at_call 14; exact quietB (cI.out _))))); refine wpQuiet_nil ?_; clear kq; intro wq hb
  have B2 : Below w.heap.size w wq := B1.trans (hb.mono B1s)
  have B2s := B2.size
  obtain ⟨r1, r2, r3, r4⟩ := keepB hb w.heap.size (by first | omega | (simp; done) | (simp; omega))
  clear hb
  go_wp2_with fail
  refine (cN.out _).mono ?_
  rintro e w3 ⟨rfl, hb⟩
  have B3 : Below w.heap.size w w3 := B2.trans (hb.mono B2s)
  clear hb
  go_wp2_with fail
  go_ret
  exact ⟨rfl, B3⟩

set_option maxHeartbeats 8000000 in
theorem print_5 (d n : Int) (hd : 0 ≤ d ∧ d ≤ 31) (hn : 0 ≤ n ∧ n ≤ 31) (hr : rightP ⟨5, d, n, 0, 0, 0⟩) (w : World) :
    Calls Try.prog 5 #[instrV ⟨5, d, n, 0, 0, 0⟩] w (RetB (.string ⟨(83 :: 84 :: 76 :: 82 :: 32 :: (regL d ++ 44 :: 91 :: (regL n ++ [93]))).toArray⟩) w) := by
  have hld := regL_len hd.1 hd.2
  have hln := regL_len hn.1 hn.2
  have cR : Hid (∀ k, 0 ≤ k → k ≤ 31 → ∀ V, Calls Try.prog 13 #[.int .i64 k] V (RetB (.string ⟨(regL k).toArray⟩) V)) := Lib.hid fun k h0 h1 V => regt_any k V h0 h1
  have hli0 := intL_len (i := 0) (by omega) (by omega)
  have cI : Hid (∀ V, Calls Try.prog 14 #[.int .i64 0] V (RetB (.string ⟨(intL (0)).toArray⟩) V)) := Lib.hid fun V => int_any (0) V (by omega) (by omega)
  have cX : Hid (∀ V, Calls Try.prog 6 #[.agg #[.int .i64 5, .int .i64 d, .int .i64 n, .int .i64 0, .int .i64 0, .int .i64 0]] V (RetB (.int .i64 0) V)) := Lib.hid fun V => by
    have := iright_any ⟨5, d, n, 0, 0, 0⟩ V
    rw [errX_yes hr] at this
    exact this
  have i0 := add_run [35] (intL (0)) (by first | (simp; done) | (simp; omega))
  simp only [List.cons_append, List.nil_append, List.append_assoc] at i0
  have cN : Hid (∀ V, Calls Try.prog 15 #[.int .i64 5] V (RetB (.string ⟨#[83, 84, 76, 82]⟩) V)) := Lib.hid fun V => namet_any 5 (by decide) V
  have a0 := add_run ([83, 84, 76, 82]) ([32]) (by first | (simp; done) | (simp; omega))
  simp only [List.cons_append, List.nil_append, List.append_assoc] at a0
  have a1 := add_run ([83, 84, 76, 82] ++ [32]) (regL d) (by first | (simp; done) | (simp; omega))
  simp only [List.cons_append, List.nil_append, List.append_assoc] at a1
  have a2 := add_run ([83, 84, 76, 82] ++ [32] ++ regL d) ([44, 91]) (by first | (simp; done) | (simp; omega))
  simp only [List.cons_append, List.nil_append, List.append_assoc] at a2
  have a3 := add_run ([83, 84, 76, 82] ++ [32] ++ regL d ++ [44, 91]) (regL n) (by first | (simp; done) | (simp; omega))
  simp only [List.cons_append, List.nil_append, List.append_assoc] at a3
  have a4 := add_run ([83, 84, 76, 82] ++ [32] ++ regL d ++ [44, 91] ++ regL n) ([93]) (by first | (simp; done) | (simp; omega))
  simp only [List.cons_append, List.nil_append, List.append_assoc] at a4
  have HD := Lib.hid hd
  have HN := Lib.hid hn
  clear hr hli0
  try clear hld
  try clear hln
  try clear hli
  simp only [instrV]
  go_enter Try.func5, Try.ntmps5
  go_wp2_with fail
  refine (cX.out _).mono ?_
  rintro e w1 ⟨rfl, hb⟩
  have B1 : Below w.heap.size w w1 := Below.trans (by repeat' (first | with_reducible exact Below.refl _ _ | with_reducible assumption | with_reducible apply below_drewN | with_reducible apply Below.drew | with_reducible refine Below.setCell ?_ ?_ _ | with_reducible refine Below.alloc ?_ ?_ _ | omega | (simp; done) | (simp; omega))) (hb.mono (by first | omega | (simp; done) | (simp; omega)))
  have B1s := B1.size
  obtain ⟨q1, q2, q3, q4⟩ := keepB hb w.heap.size (by first | omega | (simp; done) | (simp; omega))
  clear hb
  go_wp2_with fail
  refine wp_region_qb1 w.heap.size (by kernel_rfl) (by kernel_rfl) (by first | omega | (simp; done) | (simp; omega)) (fun kq => ?_); (repeat (go_big_quiet_step (first | (go_at_call 13; exact quietB (cR.out _ (by first | decide | exact HD.out.1 | exact HN.out.1) (by first | decide | exact HD.out.2 | exact HN.out.2) _)) | (go_at_call 14; exact quietB (cI.out _))))); refine wpQuiet_nil ?_; clear kq; intro wq hb
  have B2 : Below w.heap.size w wq := B1.trans (hb.mono B1s)
  have B2s := B2.size
  obtain ⟨r1, r2, r3, r4⟩ := keepB hb w.heap.size (by first | omega | (simp; done) | (simp; omega))
  clear hb
  go_wp2_with fail
  refine (cN.out _).mono ?_
  rintro e w3 ⟨rfl, hb⟩
  have B3 : Below w.heap.size w w3 := B2.trans (hb.mono B2s)
  clear hb
  go_wp2_with fail
  go_ret
  exact ⟨rfl, B3⟩

set_option maxHeartbeats 8000000 in
theorem print_6_0 (d imm : Int) (hd : 0 ≤ d ∧ d ≤ 31) (hi : 0 ≤ imm ∧ imm ≤ 65535) (hr : rightP ⟨6, d, 0, 0, imm, 0⟩) (w : World) :
    Calls Try.prog 5 #[instrV ⟨6, d, 0, 0, imm, 0⟩] w (RetB (.string ⟨(77 :: 79 :: 86 :: 32 :: (regL d ++ 44 :: (35 :: intL imm))).toArray⟩) w) := by
  have hld := regL_len hd.1 hd.2
  have hli := intL_len (i := imm) (by omega) (by omega)
  have cR : Hid (∀ k, 0 ≤ k → k ≤ 31 → ∀ V, Calls Try.prog 13 #[.int .i64 k] V (RetB (.string ⟨(regL k).toArray⟩) V)) := Lib.hid fun k h0 h1 V => regt_any k V h0 h1
  have hli0 := intL_len (i := imm) (by omega) (by omega)
  have cI : Hid (∀ V, Calls Try.prog 14 #[.int .i64 imm] V (RetB (.string ⟨(intL (imm)).toArray⟩) V)) := Lib.hid fun V => int_any imm V (by omega) (by omega)
  have cX : Hid (∀ V, Calls Try.prog 6 #[.agg #[.int .i64 6, .int .i64 d, .int .i64 0, .int .i64 0, .int .i64 imm, .int .i64 0]] V (RetB (.int .i64 0) V)) := Lib.hid fun V => by
    have := iright_any ⟨6, d, 0, 0, imm, 0⟩ V
    rw [errX_yes hr] at this
    exact this
  have i0 := add_run [35] (intL imm) (by first | (simp; done) | (simp; omega))
  simp only [List.cons_append, List.nil_append, List.append_assoc] at i0
  have a0 := add_run ([77, 79, 86, 32]) (regL d) (by first | (simp; done) | (simp; omega))
  simp only [List.cons_append, List.nil_append, List.append_assoc] at a0
  have a1 := add_run ([77, 79, 86, 32] ++ regL d) ([44]) (by first | (simp; done) | (simp; omega))
  simp only [List.cons_append, List.nil_append, List.append_assoc] at a1
  have a2 := add_run ([77, 79, 86, 32] ++ regL d ++ [44]) ((35 :: intL imm)) (by first | (simp; done) | (simp; omega))
  simp only [List.cons_append, List.nil_append, List.append_assoc] at a2
  have HD := Lib.hid hd
  clear hr hli0
  try clear hld
  try clear hli
  simp only [instrV]
  go_enter Try.func5, Try.ntmps5
  go_wp2_with fail
  refine (cX.out _).mono ?_
  rintro e w1 ⟨rfl, hb⟩
  have B1 : Below w.heap.size w w1 := Below.trans (by repeat' (first | with_reducible exact Below.refl _ _ | with_reducible assumption | with_reducible apply below_drewN | with_reducible apply Below.drew | with_reducible refine Below.setCell ?_ ?_ _ | with_reducible refine Below.alloc ?_ ?_ _ | omega | (simp; done) | (simp; omega))) (hb.mono (by first | omega | (simp; done) | (simp; omega)))
  have B1s := B1.size
  obtain ⟨q1, q2, q3, q4⟩ := keepB hb w.heap.size (by first | omega | (simp; done) | (simp; omega))
  clear hb
  go_wp2_with fail
  refine wp_region_qb1 w.heap.size (by kernel_rfl) (by kernel_rfl) (by first | omega | (simp; done) | (simp; omega)) (fun kq => ?_); (repeat (go_big_quiet_step (first | (go_at_call 13; exact quietB (cR.out _ (by first | decide | exact HD.out.1) (by first | decide | exact HD.out.2) _)) | (go_at_call 14; exact quietB (cI.out _))))); refine wpQuiet_nil ?_; clear kq; intro wq hb
  have B2 : Below w.heap.size w wq := B1.trans (hb.mono B1s)
  have B2s := B2.size
  obtain ⟨r1, r2, r3, r4⟩ := keepB hb w.heap.size (by first | omega | (simp; done) | (simp; omega))
  clear hb
  go_wp2_with fail
  go_ret
  exact ⟨rfl, B2⟩

set_option maxHeartbeats 8000000 in
theorem print_6_1 (d imm : Int) (hd : 0 ≤ d ∧ d ≤ 31) (hi : 0 ≤ imm ∧ imm ≤ 65535) (hr : rightP ⟨6, d, 0, 0, imm, 1⟩) (w : World) :
    Calls Try.prog 5 #[instrV ⟨6, d, 0, 0, imm, 1⟩] w (RetB (.string ⟨(77 :: 79 :: 86 :: 90 :: 32 :: (regL d ++ 44 :: ((35 :: intL imm) ++ 44 :: 76 :: 83 :: 76 :: 32 :: 35 :: intL 16))).toArray⟩) w) := by
  have hld := regL_len hd.1 hd.2
  have hli := intL_len (i := imm) (by omega) (by omega)
  have cR : Hid (∀ k, 0 ≤ k → k ≤ 31 → ∀ V, Calls Try.prog 13 #[.int .i64 k] V (RetB (.string ⟨(regL k).toArray⟩) V)) := Lib.hid fun k h0 h1 V => regt_any k V h0 h1
  have hli0 := intL_len (i := imm) (by omega) (by omega)
  have cI : Hid (∀ V, Calls Try.prog 14 #[.int .i64 imm] V (RetB (.string ⟨(intL (imm)).toArray⟩) V)) := Lib.hid fun V => int_any imm V (by omega) (by omega)
  have cX : Hid (∀ V, Calls Try.prog 6 #[.agg #[.int .i64 6, .int .i64 d, .int .i64 0, .int .i64 0, .int .i64 imm, .int .i64 1]] V (RetB (.int .i64 0) V)) := Lib.hid fun V => by
    have := iright_any ⟨6, d, 0, 0, imm, 1⟩ V
    rw [errX_yes hr] at this
    exact this
  have i0 := add_run [35] (intL imm) (by first | (simp; done) | (simp; omega))
  simp only [List.cons_append, List.nil_append, List.append_assoc] at i0
  have cK : Hid (∀ V, Calls Try.prog 14 #[.int .i64 16] V (RetB (.string ⟨(intL 16).toArray⟩) V)) := Lib.hid fun V => int_any 16 V (by omega) (by omega)
  have hlk := intL_len (i := 16) (by omega) (by omega)
  have a0 := add_run ([77, 79, 86, 90, 32]) (regL d) (by first | (simp; done) | (simp; omega))
  simp only [List.cons_append, List.nil_append, List.append_assoc] at a0
  have a1 := add_run ([77, 79, 86, 90, 32] ++ regL d) ([44]) (by first | (simp; done) | (simp; omega))
  simp only [List.cons_append, List.nil_append, List.append_assoc] at a1
  have a2 := add_run ([77, 79, 86, 90, 32] ++ regL d ++ [44]) ((35 :: intL imm)) (by first | (simp; done) | (simp; omega))
  simp only [List.cons_append, List.nil_append, List.append_assoc] at a2
  have a3 := add_run ([77, 79, 86, 90, 32] ++ regL d ++ [44] ++ (35 :: intL imm)) ([44, 76, 83, 76, 32, 35]) (by first | (simp; done) | (simp; omega))
  simp only [List.cons_append, List.nil_append, List.append_assoc] at a3
  have a4 := add_run ([77, 79, 86, 90, 32] ++ regL d ++ [44] ++ (35 :: intL imm) ++ [44, 76, 83, 76, 32, 35]) (intL 16) (by first | (simp; done) | (simp; omega))
  simp only [List.cons_append, List.nil_append, List.append_assoc] at a4
  have HD := Lib.hid hd
  clear hr hli0
  try clear hld
  try clear hli
  simp only [instrV]
  go_enter Try.func5, Try.ntmps5
  go_wp2_with fail
  refine (cX.out _).mono ?_
  rintro e w1 ⟨rfl, hb⟩
  have B1 : Below w.heap.size w w1 := Below.trans (by repeat' (first | with_reducible exact Below.refl _ _ | with_reducible assumption | with_reducible apply below_drewN | with_reducible apply Below.drew | with_reducible refine Below.setCell ?_ ?_ _ | with_reducible refine Below.alloc ?_ ?_ _ | omega | (simp; done) | (simp; omega))) (hb.mono (by first | omega | (simp; done) | (simp; omega)))
  have B1s := B1.size
  obtain ⟨q1, q2, q3, q4⟩ := keepB hb w.heap.size (by first | omega | (simp; done) | (simp; omega))
  clear hb
  go_wp2_with fail
  refine wp_region_qb1 w.heap.size (by kernel_rfl) (by kernel_rfl) (by first | omega | (simp; done) | (simp; omega)) (fun kq => ?_); (repeat (go_big_quiet_step (first | (go_at_call 13; exact quietB (cR.out _ (by first | decide | exact HD.out.1) (by first | decide | exact HD.out.2) _)) | (go_at_call 14; exact quietB (cI.out _))))); refine wpQuiet_nil ?_; clear kq; intro wq hb
  have B2 : Below w.heap.size w wq := B1.trans (hb.mono B1s)
  have B2s := B2.size
  obtain ⟨r1, r2, r3, r4⟩ := keepB hb w.heap.size (by first | omega | (simp; done) | (simp; omega))
  clear hb
  go_wp2_with fail
  refine (cK.out _).mono ?_
  rintro e w3 ⟨rfl, hb⟩
  have B3 : Below w.heap.size w w3 := B2.trans (hb.mono B2s)
  clear hb
  go_wp2_with fail
  go_ret
  exact ⟨rfl, B3⟩

set_option maxHeartbeats 8000000 in
theorem print_6_2 (d imm : Int) (hd : 0 ≤ d ∧ d ≤ 31) (hi : 0 ≤ imm ∧ imm ≤ 65535) (hr : rightP ⟨6, d, 0, 0, imm, 2⟩) (w : World) :
    Calls Try.prog 5 #[instrV ⟨6, d, 0, 0, imm, 2⟩] w (RetB (.string ⟨(77 :: 79 :: 86 :: 90 :: 32 :: (regL d ++ 44 :: ((35 :: intL imm) ++ 44 :: 76 :: 83 :: 76 :: 32 :: 35 :: intL 32))).toArray⟩) w) := by
  have hld := regL_len hd.1 hd.2
  have hli := intL_len (i := imm) (by omega) (by omega)
  have cR : Hid (∀ k, 0 ≤ k → k ≤ 31 → ∀ V, Calls Try.prog 13 #[.int .i64 k] V (RetB (.string ⟨(regL k).toArray⟩) V)) := Lib.hid fun k h0 h1 V => regt_any k V h0 h1
  have hli0 := intL_len (i := imm) (by omega) (by omega)
  have cI : Hid (∀ V, Calls Try.prog 14 #[.int .i64 imm] V (RetB (.string ⟨(intL (imm)).toArray⟩) V)) := Lib.hid fun V => int_any imm V (by omega) (by omega)
  have cX : Hid (∀ V, Calls Try.prog 6 #[.agg #[.int .i64 6, .int .i64 d, .int .i64 0, .int .i64 0, .int .i64 imm, .int .i64 2]] V (RetB (.int .i64 0) V)) := Lib.hid fun V => by
    have := iright_any ⟨6, d, 0, 0, imm, 2⟩ V
    rw [errX_yes hr] at this
    exact this
  have i0 := add_run [35] (intL imm) (by first | (simp; done) | (simp; omega))
  simp only [List.cons_append, List.nil_append, List.append_assoc] at i0
  have cK : Hid (∀ V, Calls Try.prog 14 #[.int .i64 32] V (RetB (.string ⟨(intL 32).toArray⟩) V)) := Lib.hid fun V => int_any 32 V (by omega) (by omega)
  have hlk := intL_len (i := 32) (by omega) (by omega)
  have a0 := add_run ([77, 79, 86, 90, 32]) (regL d) (by first | (simp; done) | (simp; omega))
  simp only [List.cons_append, List.nil_append, List.append_assoc] at a0
  have a1 := add_run ([77, 79, 86, 90, 32] ++ regL d) ([44]) (by first | (simp; done) | (simp; omega))
  simp only [List.cons_append, List.nil_append, List.append_assoc] at a1
  have a2 := add_run ([77, 79, 86, 90, 32] ++ regL d ++ [44]) ((35 :: intL imm)) (by first | (simp; done) | (simp; omega))
  simp only [List.cons_append, List.nil_append, List.append_assoc] at a2
  have a3 := add_run ([77, 79, 86, 90, 32] ++ regL d ++ [44] ++ (35 :: intL imm)) ([44, 76, 83, 76, 32, 35]) (by first | (simp; done) | (simp; omega))
  simp only [List.cons_append, List.nil_append, List.append_assoc] at a3
  have a4 := add_run ([77, 79, 86, 90, 32] ++ regL d ++ [44] ++ (35 :: intL imm) ++ [44, 76, 83, 76, 32, 35]) (intL 32) (by first | (simp; done) | (simp; omega))
  simp only [List.cons_append, List.nil_append, List.append_assoc] at a4
  have HD := Lib.hid hd
  clear hr hli0
  try clear hld
  try clear hli
  simp only [instrV]
  go_enter Try.func5, Try.ntmps5
  go_wp2_with fail
  refine (cX.out _).mono ?_
  rintro e w1 ⟨rfl, hb⟩
  have B1 : Below w.heap.size w w1 := Below.trans (by repeat' (first | with_reducible exact Below.refl _ _ | with_reducible assumption | with_reducible apply below_drewN | with_reducible apply Below.drew | with_reducible refine Below.setCell ?_ ?_ _ | with_reducible refine Below.alloc ?_ ?_ _ | omega | (simp; done) | (simp; omega))) (hb.mono (by first | omega | (simp; done) | (simp; omega)))
  have B1s := B1.size
  obtain ⟨q1, q2, q3, q4⟩ := keepB hb w.heap.size (by first | omega | (simp; done) | (simp; omega))
  clear hb
  go_wp2_with fail
  refine wp_region_qb1 w.heap.size (by kernel_rfl) (by kernel_rfl) (by first | omega | (simp; done) | (simp; omega)) (fun kq => ?_); (repeat (go_big_quiet_step (first | (go_at_call 13; exact quietB (cR.out _ (by first | decide | exact HD.out.1) (by first | decide | exact HD.out.2) _)) | (go_at_call 14; exact quietB (cI.out _))))); refine wpQuiet_nil ?_; clear kq; intro wq hb
  have B2 : Below w.heap.size w wq := B1.trans (hb.mono B1s)
  have B2s := B2.size
  obtain ⟨r1, r2, r3, r4⟩ := keepB hb w.heap.size (by first | omega | (simp; done) | (simp; omega))
  clear hb
  go_wp2_with fail
  refine (cK.out _).mono ?_
  rintro e w3 ⟨rfl, hb⟩
  have B3 : Below w.heap.size w w3 := B2.trans (hb.mono B2s)
  clear hb
  go_wp2_with fail
  go_ret
  exact ⟨rfl, B3⟩

set_option maxHeartbeats 8000000 in
theorem print_6_3 (d imm : Int) (hd : 0 ≤ d ∧ d ≤ 31) (hi : 0 ≤ imm ∧ imm ≤ 65535) (hr : rightP ⟨6, d, 0, 0, imm, 3⟩) (w : World) :
    Calls Try.prog 5 #[instrV ⟨6, d, 0, 0, imm, 3⟩] w (RetB (.string ⟨(77 :: 79 :: 86 :: 90 :: 32 :: (regL d ++ 44 :: ((35 :: intL imm) ++ 44 :: 76 :: 83 :: 76 :: 32 :: 35 :: intL 48))).toArray⟩) w) := by
  have hld := regL_len hd.1 hd.2
  have hli := intL_len (i := imm) (by omega) (by omega)
  have cR : Hid (∀ k, 0 ≤ k → k ≤ 31 → ∀ V, Calls Try.prog 13 #[.int .i64 k] V (RetB (.string ⟨(regL k).toArray⟩) V)) := Lib.hid fun k h0 h1 V => regt_any k V h0 h1
  have hli0 := intL_len (i := imm) (by omega) (by omega)
  have cI : Hid (∀ V, Calls Try.prog 14 #[.int .i64 imm] V (RetB (.string ⟨(intL (imm)).toArray⟩) V)) := Lib.hid fun V => int_any imm V (by omega) (by omega)
  have cX : Hid (∀ V, Calls Try.prog 6 #[.agg #[.int .i64 6, .int .i64 d, .int .i64 0, .int .i64 0, .int .i64 imm, .int .i64 3]] V (RetB (.int .i64 0) V)) := Lib.hid fun V => by
    have := iright_any ⟨6, d, 0, 0, imm, 3⟩ V
    rw [errX_yes hr] at this
    exact this
  have i0 := add_run [35] (intL imm) (by first | (simp; done) | (simp; omega))
  simp only [List.cons_append, List.nil_append, List.append_assoc] at i0
  have cK : Hid (∀ V, Calls Try.prog 14 #[.int .i64 48] V (RetB (.string ⟨(intL 48).toArray⟩) V)) := Lib.hid fun V => int_any 48 V (by omega) (by omega)
  have hlk := intL_len (i := 48) (by omega) (by omega)
  have a0 := add_run ([77, 79, 86, 90, 32]) (regL d) (by first | (simp; done) | (simp; omega))
  simp only [List.cons_append, List.nil_append, List.append_assoc] at a0
  have a1 := add_run ([77, 79, 86, 90, 32] ++ regL d) ([44]) (by first | (simp; done) | (simp; omega))
  simp only [List.cons_append, List.nil_append, List.append_assoc] at a1
  have a2 := add_run ([77, 79, 86, 90, 32] ++ regL d ++ [44]) ((35 :: intL imm)) (by first | (simp; done) | (simp; omega))
  simp only [List.cons_append, List.nil_append, List.append_assoc] at a2
  have a3 := add_run ([77, 79, 86, 90, 32] ++ regL d ++ [44] ++ (35 :: intL imm)) ([44, 76, 83, 76, 32, 35]) (by first | (simp; done) | (simp; omega))
  simp only [List.cons_append, List.nil_append, List.append_assoc] at a3
  have a4 := add_run ([77, 79, 86, 90, 32] ++ regL d ++ [44] ++ (35 :: intL imm) ++ [44, 76, 83, 76, 32, 35]) (intL 48) (by first | (simp; done) | (simp; omega))
  simp only [List.cons_append, List.nil_append, List.append_assoc] at a4
  have HD := Lib.hid hd
  clear hr hli0
  try clear hld
  try clear hli
  simp only [instrV]
  go_enter Try.func5, Try.ntmps5
  go_wp2_with fail
  refine (cX.out _).mono ?_
  rintro e w1 ⟨rfl, hb⟩
  have B1 : Below w.heap.size w w1 := Below.trans (by repeat' (first | with_reducible exact Below.refl _ _ | with_reducible assumption | with_reducible apply below_drewN | with_reducible apply Below.drew | with_reducible refine Below.setCell ?_ ?_ _ | with_reducible refine Below.alloc ?_ ?_ _ | omega | (simp; done) | (simp; omega))) (hb.mono (by first | omega | (simp; done) | (simp; omega)))
  have B1s := B1.size
  obtain ⟨q1, q2, q3, q4⟩ := keepB hb w.heap.size (by first | omega | (simp; done) | (simp; omega))
  clear hb
  go_wp2_with fail
  refine wp_region_qb1 w.heap.size (by kernel_rfl) (by kernel_rfl) (by first | omega | (simp; done) | (simp; omega)) (fun kq => ?_); (repeat (go_big_quiet_step (first | (go_at_call 13; exact quietB (cR.out _ (by first | decide | exact HD.out.1) (by first | decide | exact HD.out.2) _)) | (go_at_call 14; exact quietB (cI.out _))))); refine wpQuiet_nil ?_; clear kq; intro wq hb
  have B2 : Below w.heap.size w wq := B1.trans (hb.mono B1s)
  have B2s := B2.size
  obtain ⟨r1, r2, r3, r4⟩ := keepB hb w.heap.size (by first | omega | (simp; done) | (simp; omega))
  clear hb
  go_wp2_with fail
  refine (cK.out _).mono ?_
  rintro e w3 ⟨rfl, hb⟩
  have B3 : Below w.heap.size w w3 := B2.trans (hb.mono B2s)
  clear hb
  go_wp2_with fail
  go_ret
  exact ⟨rfl, B3⟩

set_option maxHeartbeats 8000000 in
theorem print_7 (d n imm : Int) (hd : 0 ≤ d ∧ d ≤ 31) (hn : 0 ≤ n ∧ n ≤ 31) (hi : 0 ≤ imm ∧ imm ≤ 4095) (hr : rightP ⟨7, d, n, 0, imm, 0⟩) (w : World) :
    Calls Try.prog 5 #[instrV ⟨7, d, n, 0, imm, 0⟩] w (RetB (.string ⟨(65 :: 68 :: 68 :: 32 :: (regL d ++ 44 :: (regL n ++ 44 :: (35 :: intL imm)))).toArray⟩) w) := by
  have hld := regL_len hd.1 hd.2
  have hln := regL_len hn.1 hn.2
  have hli := intL_len (i := imm) (by omega) (by omega)
  have cR : Hid (∀ k, 0 ≤ k → k ≤ 31 → ∀ V, Calls Try.prog 13 #[.int .i64 k] V (RetB (.string ⟨(regL k).toArray⟩) V)) := Lib.hid fun k h0 h1 V => regt_any k V h0 h1
  have hli0 := intL_len (i := imm) (by omega) (by omega)
  have cI : Hid (∀ V, Calls Try.prog 14 #[.int .i64 imm] V (RetB (.string ⟨(intL (imm)).toArray⟩) V)) := Lib.hid fun V => int_any imm V (by omega) (by omega)
  have cX : Hid (∀ V, Calls Try.prog 6 #[.agg #[.int .i64 7, .int .i64 d, .int .i64 n, .int .i64 0, .int .i64 imm, .int .i64 0]] V (RetB (.int .i64 0) V)) := Lib.hid fun V => by
    have := iright_any ⟨7, d, n, 0, imm, 0⟩ V
    rw [errX_yes hr] at this
    exact this
  have i0 := add_run [35] (intL imm) (by first | (simp; done) | (simp; omega))
  simp only [List.cons_append, List.nil_append, List.append_assoc] at i0
  have a0 := add_run ([65, 68, 68, 32]) (regL d) (by first | (simp; done) | (simp; omega))
  simp only [List.cons_append, List.nil_append, List.append_assoc] at a0
  have a1 := add_run ([65, 68, 68, 32] ++ regL d) ([44]) (by first | (simp; done) | (simp; omega))
  simp only [List.cons_append, List.nil_append, List.append_assoc] at a1
  have a2 := add_run ([65, 68, 68, 32] ++ regL d ++ [44]) (regL n) (by first | (simp; done) | (simp; omega))
  simp only [List.cons_append, List.nil_append, List.append_assoc] at a2
  have a3 := add_run ([65, 68, 68, 32] ++ regL d ++ [44] ++ regL n) ([44]) (by first | (simp; done) | (simp; omega))
  simp only [List.cons_append, List.nil_append, List.append_assoc] at a3
  have a4 := add_run ([65, 68, 68, 32] ++ regL d ++ [44] ++ regL n ++ [44]) ((35 :: intL imm)) (by first | (simp; done) | (simp; omega))
  simp only [List.cons_append, List.nil_append, List.append_assoc] at a4
  have HD := Lib.hid hd
  have HN := Lib.hid hn
  clear hr hli0
  try clear hld
  try clear hln
  try clear hli
  simp only [instrV]
  go_enter Try.func5, Try.ntmps5
  go_wp2_with fail
  refine (cX.out _).mono ?_
  rintro e w1 ⟨rfl, hb⟩
  have B1 : Below w.heap.size w w1 := Below.trans (by repeat' (first | with_reducible exact Below.refl _ _ | with_reducible assumption | with_reducible apply below_drewN | with_reducible apply Below.drew | with_reducible refine Below.setCell ?_ ?_ _ | with_reducible refine Below.alloc ?_ ?_ _ | omega | (simp; done) | (simp; omega))) (hb.mono (by first | omega | (simp; done) | (simp; omega)))
  have B1s := B1.size
  obtain ⟨q1, q2, q3, q4⟩ := keepB hb w.heap.size (by first | omega | (simp; done) | (simp; omega))
  clear hb
  go_wp2_with fail
  refine wp_region_qb1 w.heap.size (by kernel_rfl) (by kernel_rfl) (by first | omega | (simp; done) | (simp; omega)) (fun kq => ?_); (repeat (go_big_quiet_step (first | (go_at_call 13; exact quietB (cR.out _ (by first | decide | exact HD.out.1 | exact HN.out.1) (by first | decide | exact HD.out.2 | exact HN.out.2) _)) | (go_at_call 14; exact quietB (cI.out _))))); refine wpQuiet_nil ?_; clear kq; intro wq hb
  have B2 : Below w.heap.size w wq := B1.trans (hb.mono B1s)
  have B2s := B2.size
  obtain ⟨r1, r2, r3, r4⟩ := keepB hb w.heap.size (by first | omega | (simp; done) | (simp; omega))
  clear hb
  go_wp2_with fail
  go_ret
  exact ⟨rfl, B2⟩

set_option maxHeartbeats 8000000 in
theorem print_14 (imm : Int) (hi : -33554432 ≤ imm ∧ imm ≤ 33554431) (hr : rightP ⟨14, 0, 0, 0, imm, 0⟩) (w : World) :
    Calls Try.prog 5 #[instrV ⟨14, 0, 0, 0, imm, 0⟩] w (RetB (.string ⟨(66 :: 32 :: targetL imm).toArray⟩) w) := by
  have hli := targetL_len (i := imm) (by omega) (by omega)
  have cR : Hid (∀ k, 0 ≤ k → k ≤ 31 → ∀ V, Calls Try.prog 13 #[.int .i64 k] V (RetB (.string ⟨(regL k).toArray⟩) V)) := Lib.hid fun k h0 h1 V => regt_any k V h0 h1
  have hli0 := intL_len (i := imm) (by omega) (by omega)
  have cI : Hid (∀ V, Calls Try.prog 14 #[.int .i64 imm] V (RetB (.string ⟨(intL (imm)).toArray⟩) V)) := Lib.hid fun V => int_any imm V (by omega) (by omega)
  have cX : Hid (∀ V, Calls Try.prog 6 #[.agg #[.int .i64 14, .int .i64 0, .int .i64 0, .int .i64 0, .int .i64 imm, .int .i64 0]] V (RetB (.int .i64 0) V)) := Lib.hid fun V => by
    have := iright_any ⟨14, 0, 0, 0, imm, 0⟩ V
    rw [errX_yes hr] at this
    exact this
  have i0 := add_run [35] (intL imm) (by first | (simp; done) | (simp; omega))
  simp only [List.cons_append, List.nil_append, List.append_assoc] at i0
  have cT : Hid (∀ V, Calls Try.prog 16 #[.int .i64 imm] V (RetB (.string ⟨(targetL imm).toArray⟩) V)) := Lib.hid fun V => target_any imm V (by omega) (by omega)
  have a0 := add_run ([66, 32]) (targetL imm) (by first | (simp; done) | (simp; omega))
  simp only [List.cons_append, List.nil_append, List.append_assoc] at a0
  clear hr hli0
  try clear hli
  simp only [instrV]
  go_enter Try.func5, Try.ntmps5
  go_wp2_with fail
  refine (cX.out _).mono ?_
  rintro e w1 ⟨rfl, hb⟩
  have B1 : Below w.heap.size w w1 := Below.trans (by repeat' (first | with_reducible exact Below.refl _ _ | with_reducible assumption | with_reducible apply below_drewN | with_reducible apply Below.drew | with_reducible refine Below.setCell ?_ ?_ _ | with_reducible refine Below.alloc ?_ ?_ _ | omega | (simp; done) | (simp; omega))) (hb.mono (by first | omega | (simp; done) | (simp; omega)))
  have B1s := B1.size
  obtain ⟨q1, q2, q3, q4⟩ := keepB hb w.heap.size (by first | omega | (simp; done) | (simp; omega))
  clear hb
  go_wp2_with fail
  refine wp_region_qb1 w.heap.size (by kernel_rfl) (by kernel_rfl) (by first | omega | (simp; done) | (simp; omega)) (fun kq => ?_); (repeat (go_big_quiet_step (first | (go_at_call 13; exact quietB (cR.out _ (by first | decide) (by first | decide) _)) | (go_at_call 14; exact quietB (cI.out _))))); refine wpQuiet_nil ?_; clear kq; intro wq hb
  have B2 : Below w.heap.size w wq := B1.trans (hb.mono B1s)
  have B2s := B2.size
  obtain ⟨r1, r2, r3, r4⟩ := keepB hb w.heap.size (by first | omega | (simp; done) | (simp; omega))
  clear hb
  go_wp2_with fail
  refine (cT.out _).mono ?_
  rintro e w3 ⟨rfl, hb⟩
  have B3 : Below w.heap.size w w3 := B2.trans (hb.mono B2s)
  clear hb
  go_wp2_with fail
  go_ret
  exact ⟨rfl, B3⟩

set_option maxHeartbeats 8000000 in
theorem print_15 (d imm : Int) (hd : 0 ≤ d ∧ d ≤ 31) (hi : -33554432 ≤ imm ∧ imm ≤ 33554431) (hr : rightP ⟨15, d, 0, 0, imm, 0⟩) (w : World) :
    Calls Try.prog 5 #[instrV ⟨15, d, 0, 0, imm, 0⟩] w (RetB (.string ⟨(67 :: 66 :: 90 :: 32 :: (regL d ++ 44 :: targetL imm)).toArray⟩) w) := by
  have hld := regL_len hd.1 hd.2
  have hli := targetL_len (i := imm) (by omega) (by omega)
  have cR : Hid (∀ k, 0 ≤ k → k ≤ 31 → ∀ V, Calls Try.prog 13 #[.int .i64 k] V (RetB (.string ⟨(regL k).toArray⟩) V)) := Lib.hid fun k h0 h1 V => regt_any k V h0 h1
  have hli0 := intL_len (i := imm) (by omega) (by omega)
  have cI : Hid (∀ V, Calls Try.prog 14 #[.int .i64 imm] V (RetB (.string ⟨(intL (imm)).toArray⟩) V)) := Lib.hid fun V => int_any imm V (by omega) (by omega)
  have cX : Hid (∀ V, Calls Try.prog 6 #[.agg #[.int .i64 15, .int .i64 d, .int .i64 0, .int .i64 0, .int .i64 imm, .int .i64 0]] V (RetB (.int .i64 0) V)) := Lib.hid fun V => by
    have := iright_any ⟨15, d, 0, 0, imm, 0⟩ V
    rw [errX_yes hr] at this
    exact this
  have i0 := add_run [35] (intL imm) (by first | (simp; done) | (simp; omega))
  simp only [List.cons_append, List.nil_append, List.append_assoc] at i0
  have cN : Hid (∀ V, Calls Try.prog 15 #[.int .i64 15] V (RetB (.string ⟨#[67, 66, 90]⟩) V)) := Lib.hid fun V => namet_any 15 (by decide) V
  have cT : Hid (∀ V, Calls Try.prog 16 #[.int .i64 imm] V (RetB (.string ⟨(targetL imm).toArray⟩) V)) := Lib.hid fun V => target_any imm V (by omega) (by omega)
  have a0 := add_run ([67, 66, 90]) ([32]) (by first | (simp; done) | (simp; omega))
  simp only [List.cons_append, List.nil_append, List.append_assoc] at a0
  have a1 := add_run ([67, 66, 90] ++ [32]) (regL d) (by first | (simp; done) | (simp; omega))
  simp only [List.cons_append, List.nil_append, List.append_assoc] at a1
  have a2 := add_run ([67, 66, 90] ++ [32] ++ regL d) ([44]) (by first | (simp; done) | (simp; omega))
  simp only [List.cons_append, List.nil_append, List.append_assoc] at a2
  have a3 := add_run ([67, 66, 90] ++ [32] ++ regL d ++ [44]) (targetL imm) (by first | (simp; done) | (simp; omega))
  simp only [List.cons_append, List.nil_append, List.append_assoc] at a3
  have HD := Lib.hid hd
  clear hr hli0
  try clear hld
  try clear hli
  simp only [instrV]
  go_enter Try.func5, Try.ntmps5
  go_wp2_with fail
  refine (cX.out _).mono ?_
  rintro e w1 ⟨rfl, hb⟩
  have B1 : Below w.heap.size w w1 := Below.trans (by repeat' (first | with_reducible exact Below.refl _ _ | with_reducible assumption | with_reducible apply below_drewN | with_reducible apply Below.drew | with_reducible refine Below.setCell ?_ ?_ _ | with_reducible refine Below.alloc ?_ ?_ _ | omega | (simp; done) | (simp; omega))) (hb.mono (by first | omega | (simp; done) | (simp; omega)))
  have B1s := B1.size
  obtain ⟨q1, q2, q3, q4⟩ := keepB hb w.heap.size (by first | omega | (simp; done) | (simp; omega))
  clear hb
  go_wp2_with fail
  refine wp_region_qb1 w.heap.size (by kernel_rfl) (by kernel_rfl) (by first | omega | (simp; done) | (simp; omega)) (fun kq => ?_); (repeat (go_big_quiet_step (first | (go_at_call 13; exact quietB (cR.out _ (by first | decide | exact HD.out.1) (by first | decide | exact HD.out.2) _)) | (go_at_call 14; exact quietB (cI.out _))))); refine wpQuiet_nil ?_; clear kq; intro wq hb
  have B2 : Below w.heap.size w wq := B1.trans (hb.mono B1s)
  have B2s := B2.size
  obtain ⟨r1, r2, r3, r4⟩ := keepB hb w.heap.size (by first | omega | (simp; done) | (simp; omega))
  clear hb
  go_wp2_with fail
  refine wp_region_qb1 w.heap.size (by kernel_rfl) (by kernel_rfl) (by first | omega | (simp; done) | (simp; omega)) (fun kq => ?_); (repeat (go_big_quiet_step (first | (go_at_call 15; exact quietB (cN.out _)) | (go_at_call 16; exact quietB (cT.out _))))); refine wpQuiet_nil ?_; clear kq; intro wq hb
  have B3 : Below w.heap.size w wq := B2.trans (hb.mono B2s)
  go_wp2_with fail
  go_ret
  exact ⟨rfl, B3⟩

set_option maxHeartbeats 8000000 in
theorem print_16 (d imm : Int) (hd : 0 ≤ d ∧ d ≤ 31) (hi : -33554432 ≤ imm ∧ imm ≤ 33554431) (hr : rightP ⟨16, d, 0, 0, imm, 0⟩) (w : World) :
    Calls Try.prog 5 #[instrV ⟨16, d, 0, 0, imm, 0⟩] w (RetB (.string ⟨(67 :: 66 :: 78 :: 90 :: 32 :: (regL d ++ 44 :: targetL imm)).toArray⟩) w) := by
  have hld := regL_len hd.1 hd.2
  have hli := targetL_len (i := imm) (by omega) (by omega)
  have cR : Hid (∀ k, 0 ≤ k → k ≤ 31 → ∀ V, Calls Try.prog 13 #[.int .i64 k] V (RetB (.string ⟨(regL k).toArray⟩) V)) := Lib.hid fun k h0 h1 V => regt_any k V h0 h1
  have hli0 := intL_len (i := imm) (by omega) (by omega)
  have cI : Hid (∀ V, Calls Try.prog 14 #[.int .i64 imm] V (RetB (.string ⟨(intL (imm)).toArray⟩) V)) := Lib.hid fun V => int_any imm V (by omega) (by omega)
  have cX : Hid (∀ V, Calls Try.prog 6 #[.agg #[.int .i64 16, .int .i64 d, .int .i64 0, .int .i64 0, .int .i64 imm, .int .i64 0]] V (RetB (.int .i64 0) V)) := Lib.hid fun V => by
    have := iright_any ⟨16, d, 0, 0, imm, 0⟩ V
    rw [errX_yes hr] at this
    exact this
  have i0 := add_run [35] (intL imm) (by first | (simp; done) | (simp; omega))
  simp only [List.cons_append, List.nil_append, List.append_assoc] at i0
  have cN : Hid (∀ V, Calls Try.prog 15 #[.int .i64 16] V (RetB (.string ⟨#[67, 66, 78, 90]⟩) V)) := Lib.hid fun V => namet_any 16 (by decide) V
  have cT : Hid (∀ V, Calls Try.prog 16 #[.int .i64 imm] V (RetB (.string ⟨(targetL imm).toArray⟩) V)) := Lib.hid fun V => target_any imm V (by omega) (by omega)
  have a0 := add_run ([67, 66, 78, 90]) ([32]) (by first | (simp; done) | (simp; omega))
  simp only [List.cons_append, List.nil_append, List.append_assoc] at a0
  have a1 := add_run ([67, 66, 78, 90] ++ [32]) (regL d) (by first | (simp; done) | (simp; omega))
  simp only [List.cons_append, List.nil_append, List.append_assoc] at a1
  have a2 := add_run ([67, 66, 78, 90] ++ [32] ++ regL d) ([44]) (by first | (simp; done) | (simp; omega))
  simp only [List.cons_append, List.nil_append, List.append_assoc] at a2
  have a3 := add_run ([67, 66, 78, 90] ++ [32] ++ regL d ++ [44]) (targetL imm) (by first | (simp; done) | (simp; omega))
  simp only [List.cons_append, List.nil_append, List.append_assoc] at a3
  have HD := Lib.hid hd
  clear hr hli0
  try clear hld
  try clear hli
  simp only [instrV]
  go_enter Try.func5, Try.ntmps5
  go_wp2_with fail
  refine (cX.out _).mono ?_
  rintro e w1 ⟨rfl, hb⟩
  have B1 : Below w.heap.size w w1 := Below.trans (by repeat' (first | with_reducible exact Below.refl _ _ | with_reducible assumption | with_reducible apply below_drewN | with_reducible apply Below.drew | with_reducible refine Below.setCell ?_ ?_ _ | with_reducible refine Below.alloc ?_ ?_ _ | omega | (simp; done) | (simp; omega))) (hb.mono (by first | omega | (simp; done) | (simp; omega)))
  have B1s := B1.size
  obtain ⟨q1, q2, q3, q4⟩ := keepB hb w.heap.size (by first | omega | (simp; done) | (simp; omega))
  clear hb
  go_wp2_with fail
  refine wp_region_qb1 w.heap.size (by kernel_rfl) (by kernel_rfl) (by first | omega | (simp; done) | (simp; omega)) (fun kq => ?_); (repeat (go_big_quiet_step (first | (go_at_call 13; exact quietB (cR.out _ (by first | decide | exact HD.out.1) (by first | decide | exact HD.out.2) _)) | (go_at_call 14; exact quietB (cI.out _))))); refine wpQuiet_nil ?_; clear kq; intro wq hb
  have B2 : Below w.heap.size w wq := B1.trans (hb.mono B1s)
  have B2s := B2.size
  obtain ⟨r1, r2, r3, r4⟩ := keepB hb w.heap.size (by first | omega | (simp; done) | (simp; omega))
  clear hb
  go_wp2_with fail
  refine wp_region_qb1 w.heap.size (by kernel_rfl) (by kernel_rfl) (by first | omega | (simp; done) | (simp; omega)) (fun kq => ?_); (repeat (go_big_quiet_step (first | (go_at_call 15; exact quietB (cN.out _)) | (go_at_call 16; exact quietB (cT.out _))))); refine wpQuiet_nil ?_; clear kq; intro wq hb
  have B3 : Below w.heap.size w wq := B2.trans (hb.mono B2s)
  go_wp2_with fail
  go_ret
  exact ⟨rfl, B3⟩

set_option maxHeartbeats 8000000 in
theorem print_17_0 (imm : Int) (hi : -33554432 ≤ imm ∧ imm ≤ 33554431) (hr : rightP ⟨17, 0, 0, 0, imm, 0⟩) (w : World) :
    Calls Try.prog 5 #[instrV ⟨17, 0, 0, 0, imm, 0⟩] w (RetB (.string ⟨(66 :: 46 :: 69 :: 81 :: 32 :: targetL imm).toArray⟩) w) := by
  have cR : Hid (∀ k, 0 ≤ k → k ≤ 31 → ∀ V, Calls Try.prog 13 #[.int .i64 k] V (RetB (.string ⟨(regL k).toArray⟩) V)) := Lib.hid fun k h0 h1 V => regt_any k V h0 h1
  have hli0 := intL_len (i := imm) (by omega) (by omega)
  have cI : Hid (∀ V, Calls Try.prog 14 #[.int .i64 imm] V (RetB (.string ⟨(intL (imm)).toArray⟩) V)) := Lib.hid fun V => int_any imm V (by omega) (by omega)
  have cX : Hid (∀ V, Calls Try.prog 6 #[.agg #[.int .i64 17, .int .i64 0, .int .i64 0, .int .i64 0, .int .i64 imm, .int .i64 0]] V (RetB (.int .i64 0) V)) := Lib.hid fun V => by
    have := iright_any ⟨17, 0, 0, 0, imm, 0⟩ V
    rw [errX_yes hr] at this
    exact this
  have i0 := add_run [35] (intL imm) (by first | (simp; done) | (simp; omega))
  simp only [List.cons_append, List.nil_append, List.append_assoc] at i0
  have hz := regL_len (n := 0) (by decide) (by decide)
  have hz31 := regL_len (n := 31) (by decide) (by decide)
  have cS : Hid (∀ V, Calls Try.prog 17 #[.agg #[.int .i64 17, .int .i64 0, .int .i64 0, .int .i64 0, .int .i64 imm, .int .i64 0], (.string ⟨(regL 0).toArray⟩), (.string ⟨(regL 0).toArray⟩), (.string ⟨(regL 0).toArray⟩)] V (RetB (.string ⟨(66 :: 46 :: 69 :: 81 :: 32 :: targetL imm).toArray⟩) V)) := Lib.hid fun V => rest_17_0 (regL 0) (regL 0) (regL 0) imm (by omega) (by omega) (by omega) (by omega) (by omega) V
  clear hz
  clear hr hli0
  try clear hli
  simp only [instrV]
  go_enter Try.func5, Try.ntmps5
  go_wp2_with fail
  refine (cX.out _).mono ?_
  rintro e w1 ⟨rfl, hb⟩
  have B1 : Below w.heap.size w w1 := Below.trans (by repeat' (first | with_reducible exact Below.refl _ _ | with_reducible assumption | with_reducible apply below_drewN | with_reducible apply Below.drew | with_reducible refine Below.setCell ?_ ?_ _ | with_reducible refine Below.alloc ?_ ?_ _ | omega | (simp; done) | (simp; omega))) (hb.mono (by first | omega | (simp; done) | (simp; omega)))
  have B1s := B1.size
  obtain ⟨q1, q2, q3, q4⟩ := keepB hb w.heap.size (by first | omega | (simp; done) | (simp; omega))
  clear hb
  go_wp2_with fail
  refine wp_region_qb1 w.heap.size (by kernel_rfl) (by kernel_rfl) (by first | omega | (simp; done) | (simp; omega)) (fun kq => ?_); (repeat (go_big_quiet_step (first | (go_at_call 13; exact quietB (cR.out _ (by first | decide) (by first | decide) _)) | (go_at_call 14; exact quietB (cI.out _))))); refine wpQuiet_nil ?_; clear kq; intro wq hb
  have B2 : Below w.heap.size w wq := B1.trans (hb.mono B1s)
  have B2s := B2.size
  obtain ⟨r1, r2, r3, r4⟩ := keepB hb w.heap.size (by first | omega | (simp; done) | (simp; omega))
  clear hb
  go_wp2_with fail
  refine (cS.out _).mono ?_
  rintro e w3 ⟨rfl, hb⟩
  have B3 : Below w.heap.size w w3 := B2.trans (hb.mono B2s)
  clear hb
  go_wp2_with fail
  go_ret
  exact ⟨rfl, B3⟩

set_option maxHeartbeats 8000000 in
theorem print_17_1 (imm : Int) (hi : -33554432 ≤ imm ∧ imm ≤ 33554431) (hr : rightP ⟨17, 0, 0, 0, imm, 1⟩) (w : World) :
    Calls Try.prog 5 #[instrV ⟨17, 0, 0, 0, imm, 1⟩] w (RetB (.string ⟨(66 :: 46 :: 78 :: 69 :: 32 :: targetL imm).toArray⟩) w) := by
  have cR : Hid (∀ k, 0 ≤ k → k ≤ 31 → ∀ V, Calls Try.prog 13 #[.int .i64 k] V (RetB (.string ⟨(regL k).toArray⟩) V)) := Lib.hid fun k h0 h1 V => regt_any k V h0 h1
  have hli0 := intL_len (i := imm) (by omega) (by omega)
  have cI : Hid (∀ V, Calls Try.prog 14 #[.int .i64 imm] V (RetB (.string ⟨(intL (imm)).toArray⟩) V)) := Lib.hid fun V => int_any imm V (by omega) (by omega)
  have cX : Hid (∀ V, Calls Try.prog 6 #[.agg #[.int .i64 17, .int .i64 0, .int .i64 0, .int .i64 0, .int .i64 imm, .int .i64 1]] V (RetB (.int .i64 0) V)) := Lib.hid fun V => by
    have := iright_any ⟨17, 0, 0, 0, imm, 1⟩ V
    rw [errX_yes hr] at this
    exact this
  have i0 := add_run [35] (intL imm) (by first | (simp; done) | (simp; omega))
  simp only [List.cons_append, List.nil_append, List.append_assoc] at i0
  have hz := regL_len (n := 0) (by decide) (by decide)
  have hz31 := regL_len (n := 31) (by decide) (by decide)
  have cS : Hid (∀ V, Calls Try.prog 17 #[.agg #[.int .i64 17, .int .i64 0, .int .i64 0, .int .i64 0, .int .i64 imm, .int .i64 1], (.string ⟨(regL 0).toArray⟩), (.string ⟨(regL 0).toArray⟩), (.string ⟨(regL 0).toArray⟩)] V (RetB (.string ⟨(66 :: 46 :: 78 :: 69 :: 32 :: targetL imm).toArray⟩) V)) := Lib.hid fun V => rest_17_1 (regL 0) (regL 0) (regL 0) imm (by omega) (by omega) (by omega) (by omega) (by omega) V
  clear hz
  clear hr hli0
  try clear hli
  simp only [instrV]
  go_enter Try.func5, Try.ntmps5
  go_wp2_with fail
  refine (cX.out _).mono ?_
  rintro e w1 ⟨rfl, hb⟩
  have B1 : Below w.heap.size w w1 := Below.trans (by repeat' (first | with_reducible exact Below.refl _ _ | with_reducible assumption | with_reducible apply below_drewN | with_reducible apply Below.drew | with_reducible refine Below.setCell ?_ ?_ _ | with_reducible refine Below.alloc ?_ ?_ _ | omega | (simp; done) | (simp; omega))) (hb.mono (by first | omega | (simp; done) | (simp; omega)))
  have B1s := B1.size
  obtain ⟨q1, q2, q3, q4⟩ := keepB hb w.heap.size (by first | omega | (simp; done) | (simp; omega))
  clear hb
  go_wp2_with fail
  refine wp_region_qb1 w.heap.size (by kernel_rfl) (by kernel_rfl) (by first | omega | (simp; done) | (simp; omega)) (fun kq => ?_); (repeat (go_big_quiet_step (first | (go_at_call 13; exact quietB (cR.out _ (by first | decide) (by first | decide) _)) | (go_at_call 14; exact quietB (cI.out _))))); refine wpQuiet_nil ?_; clear kq; intro wq hb
  have B2 : Below w.heap.size w wq := B1.trans (hb.mono B1s)
  have B2s := B2.size
  obtain ⟨r1, r2, r3, r4⟩ := keepB hb w.heap.size (by first | omega | (simp; done) | (simp; omega))
  clear hb
  go_wp2_with fail
  refine (cS.out _).mono ?_
  rintro e w3 ⟨rfl, hb⟩
  have B3 : Below w.heap.size w w3 := B2.trans (hb.mono B2s)
  clear hb
  go_wp2_with fail
  go_ret
  exact ⟨rfl, B3⟩

set_option maxHeartbeats 8000000 in
theorem print_18 (kind : Int) (hk : 0 ≤ kind ∧ kind ≤ 15) (hr : rightP ⟨18, 0, 0, 0, 0, kind⟩) (w : World) :
    Calls Try.prog 5 #[instrV ⟨18, 0, 0, 0, 0, kind⟩] w (RetB (.string ⟨(68 :: 77 :: 66 :: 32 :: barrierL kind).toArray⟩) w) := by
  have cR : Hid (∀ k, 0 ≤ k → k ≤ 31 → ∀ V, Calls Try.prog 13 #[.int .i64 k] V (RetB (.string ⟨(regL k).toArray⟩) V)) := Lib.hid fun k h0 h1 V => regt_any k V h0 h1
  have hli0 := intL_len (i := 0) (by omega) (by omega)
  have cI : Hid (∀ V, Calls Try.prog 14 #[.int .i64 0] V (RetB (.string ⟨(intL (0)).toArray⟩) V)) := Lib.hid fun V => int_any (0) V (by omega) (by omega)
  have cX : Hid (∀ V, Calls Try.prog 6 #[.agg #[.int .i64 18, .int .i64 0, .int .i64 0, .int .i64 0, .int .i64 0, .int .i64 kind]] V (RetB (.int .i64 0) V)) := Lib.hid fun V => by
    have := iright_any ⟨18, 0, 0, 0, 0, kind⟩ V
    rw [errX_yes hr] at this
    exact this
  have i0 := add_run [35] (intL (0)) (by first | (simp; done) | (simp; omega))
  simp only [List.cons_append, List.nil_append, List.append_assoc] at i0
  have hz := regL_len (n := 0) (by decide) (by decide)
  have hz31 := regL_len (n := 31) (by decide) (by decide)
  have cS : Hid (∀ V, Calls Try.prog 17 #[.agg #[.int .i64 18, .int .i64 0, .int .i64 0, .int .i64 0, .int .i64 0, .int .i64 kind], (.string ⟨(regL 0).toArray⟩), (.string ⟨(regL 0).toArray⟩), (.string ⟨(regL 0).toArray⟩)] V (RetB (.string ⟨(68 :: 77 :: 66 :: 32 :: barrierL kind).toArray⟩) V)) := Lib.hid fun V => rest_18 (regL 0) (regL 0) (regL 0) kind hk (by omega) (by omega) (by omega) V
  clear hz
  clear hr hli0
  try clear hli
  simp only [instrV]
  go_enter Try.func5, Try.ntmps5
  go_wp2_with fail
  refine (cX.out _).mono ?_
  rintro e w1 ⟨rfl, hb⟩
  have B1 : Below w.heap.size w w1 := Below.trans (by repeat' (first | with_reducible exact Below.refl _ _ | with_reducible assumption | with_reducible apply below_drewN | with_reducible apply Below.drew | with_reducible refine Below.setCell ?_ ?_ _ | with_reducible refine Below.alloc ?_ ?_ _ | omega | (simp; done) | (simp; omega))) (hb.mono (by first | omega | (simp; done) | (simp; omega)))
  have B1s := B1.size
  obtain ⟨q1, q2, q3, q4⟩ := keepB hb w.heap.size (by first | omega | (simp; done) | (simp; omega))
  clear hb
  go_wp2_with fail
  refine wp_region_qb1 w.heap.size (by kernel_rfl) (by kernel_rfl) (by first | omega | (simp; done) | (simp; omega)) (fun kq => ?_); (repeat (go_big_quiet_step (first | (go_at_call 13; exact quietB (cR.out _ (by first | decide) (by first | decide) _)) | (go_at_call 14; exact quietB (cI.out _))))); refine wpQuiet_nil ?_; clear kq; intro wq hb
  have B2 : Below w.heap.size w wq := B1.trans (hb.mono B1s)
  have B2s := B2.size
  obtain ⟨r1, r2, r3, r4⟩ := keepB hb w.heap.size (by first | omega | (simp; done) | (simp; omega))
  clear hb
  go_wp2_with fail
  refine (cS.out _).mono ?_
  rintro e w3 ⟨rfl, hb⟩
  have B3 : Below w.heap.size w w3 := B2.trans (hb.mono B2s)
  clear hb
  go_wp2_with fail
  go_ret
  exact ⟨rfl, B3⟩

set_option maxHeartbeats 8000000 in
theorem print_19 (kind : Int) (hk : 0 ≤ kind ∧ kind ≤ 15) (hr : rightP ⟨19, 0, 0, 0, 0, kind⟩) (w : World) :
    Calls Try.prog 5 #[instrV ⟨19, 0, 0, 0, 0, kind⟩] w (RetB (.string ⟨(68 :: 83 :: 66 :: 32 :: barrierL kind).toArray⟩) w) := by
  have cR : Hid (∀ k, 0 ≤ k → k ≤ 31 → ∀ V, Calls Try.prog 13 #[.int .i64 k] V (RetB (.string ⟨(regL k).toArray⟩) V)) := Lib.hid fun k h0 h1 V => regt_any k V h0 h1
  have hli0 := intL_len (i := 0) (by omega) (by omega)
  have cI : Hid (∀ V, Calls Try.prog 14 #[.int .i64 0] V (RetB (.string ⟨(intL (0)).toArray⟩) V)) := Lib.hid fun V => int_any (0) V (by omega) (by omega)
  have cX : Hid (∀ V, Calls Try.prog 6 #[.agg #[.int .i64 19, .int .i64 0, .int .i64 0, .int .i64 0, .int .i64 0, .int .i64 kind]] V (RetB (.int .i64 0) V)) := Lib.hid fun V => by
    have := iright_any ⟨19, 0, 0, 0, 0, kind⟩ V
    rw [errX_yes hr] at this
    exact this
  have i0 := add_run [35] (intL (0)) (by first | (simp; done) | (simp; omega))
  simp only [List.cons_append, List.nil_append, List.append_assoc] at i0
  have hz := regL_len (n := 0) (by decide) (by decide)
  have hz31 := regL_len (n := 31) (by decide) (by decide)
  have cS : Hid (∀ V, Calls Try.prog 17 #[.agg #[.int .i64 19, .int .i64 0, .int .i64 0, .int .i64 0, .int .i64 0, .int .i64 kind], (.string ⟨(regL 0).toArray⟩), (.string ⟨(regL 0).toArray⟩), (.string ⟨(regL 0).toArray⟩)] V (RetB (.string ⟨(68 :: 83 :: 66 :: 32 :: barrierL kind).toArray⟩) V)) := Lib.hid fun V => rest_19 (regL 0) (regL 0) (regL 0) kind hk (by omega) (by omega) (by omega) V
  clear hz
  clear hr hli0
  try clear hli
  simp only [instrV]
  go_enter Try.func5, Try.ntmps5
  go_wp2_with fail
  refine (cX.out _).mono ?_
  rintro e w1 ⟨rfl, hb⟩
  have B1 : Below w.heap.size w w1 := Below.trans (by repeat' (first | with_reducible exact Below.refl _ _ | with_reducible assumption | with_reducible apply below_drewN | with_reducible apply Below.drew | with_reducible refine Below.setCell ?_ ?_ _ | with_reducible refine Below.alloc ?_ ?_ _ | omega | (simp; done) | (simp; omega))) (hb.mono (by first | omega | (simp; done) | (simp; omega)))
  have B1s := B1.size
  obtain ⟨q1, q2, q3, q4⟩ := keepB hb w.heap.size (by first | omega | (simp; done) | (simp; omega))
  clear hb
  go_wp2_with fail
  refine wp_region_qb1 w.heap.size (by kernel_rfl) (by kernel_rfl) (by first | omega | (simp; done) | (simp; omega)) (fun kq => ?_); (repeat (go_big_quiet_step (first | (go_at_call 13; exact quietB (cR.out _ (by first | decide) (by first | decide) _)) | (go_at_call 14; exact quietB (cI.out _))))); refine wpQuiet_nil ?_; clear kq; intro wq hb
  have B2 : Below w.heap.size w wq := B1.trans (hb.mono B1s)
  have B2s := B2.size
  obtain ⟨r1, r2, r3, r4⟩ := keepB hb w.heap.size (by first | omega | (simp; done) | (simp; omega))
  clear hb
  go_wp2_with fail
  refine (cS.out _).mono ?_
  rintro e w3 ⟨rfl, hb⟩
  have B3 : Below w.heap.size w w3 := B2.trans (hb.mono B2s)
  clear hb
  go_wp2_with fail
  go_ret
  exact ⟨rfl, B3⟩

set_option maxHeartbeats 8000000 in
theorem print_21_0 (d kind : Int) (hd : 0 ≤ d ∧ d ≤ 31) (hk : 0 ≤ kind ∧ kind ≤ 7) (h4 : kind % 4 = 0) (hr : rightP ⟨21, d, 0, 0, 0, kind⟩) (w : World) :
    Calls Try.prog 5 #[instrV ⟨21, d, 0, 0, 0, kind⟩] w (RetB (.string ⟨(84 :: 76 :: 66 :: 73 :: 32 :: flushL kind).toArray⟩) w) := by
  have hld := regL_len hd.1 hd.2
  have cR : Hid (∀ k, 0 ≤ k → k ≤ 31 → ∀ V, Calls Try.prog 13 #[.int .i64 k] V (RetB (.string ⟨(regL k).toArray⟩) V)) := Lib.hid fun k h0 h1 V => regt_any k V h0 h1
  have hli0 := intL_len (i := 0) (by omega) (by omega)
  have cI : Hid (∀ V, Calls Try.prog 14 #[.int .i64 0] V (RetB (.string ⟨(intL (0)).toArray⟩) V)) := Lib.hid fun V => int_any (0) V (by omega) (by omega)
  have cX : Hid (∀ V, Calls Try.prog 6 #[.agg #[.int .i64 21, .int .i64 d, .int .i64 0, .int .i64 0, .int .i64 0, .int .i64 kind]] V (RetB (.int .i64 0) V)) := Lib.hid fun V => by
    have := iright_any ⟨21, d, 0, 0, 0, kind⟩ V
    rw [errX_yes hr] at this
    exact this
  have i0 := add_run [35] (intL (0)) (by first | (simp; done) | (simp; omega))
  simp only [List.cons_append, List.nil_append, List.append_assoc] at i0
  have hz := regL_len (n := 0) (by decide) (by decide)
  have cS : Hid (∀ V, Calls Try.prog 17 #[.agg #[.int .i64 21, .int .i64 d, .int .i64 0, .int .i64 0, .int .i64 0, .int .i64 kind], (.string ⟨(regL d).toArray⟩), (.string ⟨(regL 0).toArray⟩), (.string ⟨(regL 0).toArray⟩)] V (RetB (.string ⟨(84 :: 76 :: 66 :: 73 :: 32 :: flushL kind).toArray⟩) V)) := Lib.hid fun V => rest_21_0 (regL d) (regL 0) (regL 0) d kind hk h4 (by omega) (by omega) (by omega) V
  clear hz
  have HD := Lib.hid hd
  clear hr hli0
  try clear hld
  try clear hli
  simp only [instrV]
  go_enter Try.func5, Try.ntmps5
  go_wp2_with fail
  refine (cX.out _).mono ?_
  rintro e w1 ⟨rfl, hb⟩
  have B1 : Below w.heap.size w w1 := Below.trans (by repeat' (first | with_reducible exact Below.refl _ _ | with_reducible assumption | with_reducible apply below_drewN | with_reducible apply Below.drew | with_reducible refine Below.setCell ?_ ?_ _ | with_reducible refine Below.alloc ?_ ?_ _ | omega | (simp; done) | (simp; omega))) (hb.mono (by first | omega | (simp; done) | (simp; omega)))
  have B1s := B1.size
  obtain ⟨q1, q2, q3, q4⟩ := keepB hb w.heap.size (by first | omega | (simp; done) | (simp; omega))
  clear hb
  go_wp2_with fail
  refine wp_region_qb1 w.heap.size (by kernel_rfl) (by kernel_rfl) (by first | omega | (simp; done) | (simp; omega)) (fun kq => ?_); (repeat (go_big_quiet_step (first | (go_at_call 13; exact quietB (cR.out _ (by first | decide | exact HD.out.1) (by first | decide | exact HD.out.2) _)) | (go_at_call 14; exact quietB (cI.out _))))); refine wpQuiet_nil ?_; clear kq; intro wq hb
  have B2 : Below w.heap.size w wq := B1.trans (hb.mono B1s)
  have B2s := B2.size
  obtain ⟨r1, r2, r3, r4⟩ := keepB hb w.heap.size (by first | omega | (simp; done) | (simp; omega))
  clear hb
  go_wp2_with fail
  refine (cS.out _).mono ?_
  rintro e w3 ⟨rfl, hb⟩
  have B3 : Below w.heap.size w w3 := B2.trans (hb.mono B2s)
  clear hb
  go_wp2_with fail
  go_ret
  exact ⟨rfl, B3⟩

set_option maxHeartbeats 8000000 in
theorem print_21_1 (d kind : Int) (hd : 0 ≤ d ∧ d ≤ 31) (hk : 0 ≤ kind ∧ kind ≤ 7) (h4 : ¬ kind % 4 = 0) (hr : rightP ⟨21, d, 0, 0, 0, kind⟩) (w : World) :
    Calls Try.prog 5 #[instrV ⟨21, d, 0, 0, 0, kind⟩] w (RetB (.string ⟨(84 :: 76 :: 66 :: 73 :: 32 :: (flushL kind ++ 44 :: regL d)).toArray⟩) w) := by
  have hld := regL_len hd.1 hd.2
  have cR : Hid (∀ k, 0 ≤ k → k ≤ 31 → ∀ V, Calls Try.prog 13 #[.int .i64 k] V (RetB (.string ⟨(regL k).toArray⟩) V)) := Lib.hid fun k h0 h1 V => regt_any k V h0 h1
  have hli0 := intL_len (i := 0) (by omega) (by omega)
  have cI : Hid (∀ V, Calls Try.prog 14 #[.int .i64 0] V (RetB (.string ⟨(intL (0)).toArray⟩) V)) := Lib.hid fun V => int_any (0) V (by omega) (by omega)
  have cX : Hid (∀ V, Calls Try.prog 6 #[.agg #[.int .i64 21, .int .i64 d, .int .i64 0, .int .i64 0, .int .i64 0, .int .i64 kind]] V (RetB (.int .i64 0) V)) := Lib.hid fun V => by
    have := iright_any ⟨21, d, 0, 0, 0, kind⟩ V
    rw [errX_yes hr] at this
    exact this
  have i0 := add_run [35] (intL (0)) (by first | (simp; done) | (simp; omega))
  simp only [List.cons_append, List.nil_append, List.append_assoc] at i0
  have hz := regL_len (n := 0) (by decide) (by decide)
  have cS : Hid (∀ V, Calls Try.prog 17 #[.agg #[.int .i64 21, .int .i64 d, .int .i64 0, .int .i64 0, .int .i64 0, .int .i64 kind], (.string ⟨(regL d).toArray⟩), (.string ⟨(regL 0).toArray⟩), (.string ⟨(regL 0).toArray⟩)] V (RetB (.string ⟨(84 :: 76 :: 66 :: 73 :: 32 :: (flushL kind ++ 44 :: regL d)).toArray⟩) V)) := Lib.hid fun V => rest_21_1 (regL d) (regL 0) (regL 0) d kind hk h4 (by omega) (by omega) (by omega) V
  clear hz
  have HD := Lib.hid hd
  clear hr hli0
  try clear hld
  try clear hli
  simp only [instrV]
  go_enter Try.func5, Try.ntmps5
  go_wp2_with fail
  refine (cX.out _).mono ?_
  rintro e w1 ⟨rfl, hb⟩
  have B1 : Below w.heap.size w w1 := Below.trans (by repeat' (first | with_reducible exact Below.refl _ _ | with_reducible assumption | with_reducible apply below_drewN | with_reducible apply Below.drew | with_reducible refine Below.setCell ?_ ?_ _ | with_reducible refine Below.alloc ?_ ?_ _ | omega | (simp; done) | (simp; omega))) (hb.mono (by first | omega | (simp; done) | (simp; omega)))
  have B1s := B1.size
  obtain ⟨q1, q2, q3, q4⟩ := keepB hb w.heap.size (by first | omega | (simp; done) | (simp; omega))
  clear hb
  go_wp2_with fail
  refine wp_region_qb1 w.heap.size (by kernel_rfl) (by kernel_rfl) (by first | omega | (simp; done) | (simp; omega)) (fun kq => ?_); (repeat (go_big_quiet_step (first | (go_at_call 13; exact quietB (cR.out _ (by first | decide | exact HD.out.1) (by first | decide | exact HD.out.2) _)) | (go_at_call 14; exact quietB (cI.out _))))); refine wpQuiet_nil ?_; clear kq; intro wq hb
  have B2 : Below w.heap.size w wq := B1.trans (hb.mono B1s)
  have B2s := B2.size
  obtain ⟨r1, r2, r3, r4⟩ := keepB hb w.heap.size (by first | omega | (simp; done) | (simp; omega))
  clear hb
  go_wp2_with fail
  refine (cS.out _).mono ?_
  rintro e w3 ⟨rfl, hb⟩
  have B3 : Below w.heap.size w w3 := B2.trans (hb.mono B2s)
  clear hb
  go_wp2_with fail
  go_ret
  exact ⟨rfl, B3⟩

set_option maxHeartbeats 8000000 in
theorem print_23 (d kind : Int) (hd : 0 ≤ d ∧ d ≤ 31) (hk : 0 ≤ kind ∧ kind ≤ 2) (hr : rightP ⟨23, d, 0, 0, 0, kind⟩) (w : World) :
    Calls Try.prog 5 #[instrV ⟨23, d, 0, 0, 0, kind⟩] w (RetB (.string ⟨(77 :: 82 :: 83 :: 32 :: (regL d ++ 44 :: systemL kind)).toArray⟩) w) := by
  have hld := regL_len hd.1 hd.2
  have cR : Hid (∀ k, 0 ≤ k → k ≤ 31 → ∀ V, Calls Try.prog 13 #[.int .i64 k] V (RetB (.string ⟨(regL k).toArray⟩) V)) := Lib.hid fun k h0 h1 V => regt_any k V h0 h1
  have hli0 := intL_len (i := 0) (by omega) (by omega)
  have cI : Hid (∀ V, Calls Try.prog 14 #[.int .i64 0] V (RetB (.string ⟨(intL (0)).toArray⟩) V)) := Lib.hid fun V => int_any (0) V (by omega) (by omega)
  have cX : Hid (∀ V, Calls Try.prog 6 #[.agg #[.int .i64 23, .int .i64 d, .int .i64 0, .int .i64 0, .int .i64 0, .int .i64 kind]] V (RetB (.int .i64 0) V)) := Lib.hid fun V => by
    have := iright_any ⟨23, d, 0, 0, 0, kind⟩ V
    rw [errX_yes hr] at this
    exact this
  have i0 := add_run [35] (intL (0)) (by first | (simp; done) | (simp; omega))
  simp only [List.cons_append, List.nil_append, List.append_assoc] at i0
  have hz := regL_len (n := 0) (by decide) (by decide)
  have cS : Hid (∀ V, Calls Try.prog 17 #[.agg #[.int .i64 23, .int .i64 d, .int .i64 0, .int .i64 0, .int .i64 0, .int .i64 kind], (.string ⟨(regL d).toArray⟩), (.string ⟨(regL 0).toArray⟩), (.string ⟨(regL 0).toArray⟩)] V (RetB (.string ⟨(77 :: 82 :: 83 :: 32 :: (regL d ++ 44 :: systemL kind)).toArray⟩) V)) := Lib.hid fun V => rest_23 (regL d) (regL 0) (regL 0) d kind hk (by omega) (by omega) (by omega) V
  clear hz
  have HD := Lib.hid hd
  clear hr hli0
  try clear hld
  try clear hli
  simp only [instrV]
  go_enter Try.func5, Try.ntmps5
  go_wp2_with fail
  refine (cX.out _).mono ?_
  rintro e w1 ⟨rfl, hb⟩
  have B1 : Below w.heap.size w w1 := Below.trans (by repeat' (first | with_reducible exact Below.refl _ _ | with_reducible assumption | with_reducible apply below_drewN | with_reducible apply Below.drew | with_reducible refine Below.setCell ?_ ?_ _ | with_reducible refine Below.alloc ?_ ?_ _ | omega | (simp; done) | (simp; omega))) (hb.mono (by first | omega | (simp; done) | (simp; omega)))
  have B1s := B1.size
  obtain ⟨q1, q2, q3, q4⟩ := keepB hb w.heap.size (by first | omega | (simp; done) | (simp; omega))
  clear hb
  go_wp2_with fail
  refine wp_region_qb1 w.heap.size (by kernel_rfl) (by kernel_rfl) (by first | omega | (simp; done) | (simp; omega)) (fun kq => ?_); (repeat (go_big_quiet_step (first | (go_at_call 13; exact quietB (cR.out _ (by first | decide | exact HD.out.1) (by first | decide | exact HD.out.2) _)) | (go_at_call 14; exact quietB (cI.out _))))); refine wpQuiet_nil ?_; clear kq; intro wq hb
  have B2 : Below w.heap.size w wq := B1.trans (hb.mono B1s)
  have B2s := B2.size
  obtain ⟨r1, r2, r3, r4⟩ := keepB hb w.heap.size (by first | omega | (simp; done) | (simp; omega))
  clear hb
  go_wp2_with fail
  refine (cS.out _).mono ?_
  rintro e w3 ⟨rfl, hb⟩
  have B3 : Below w.heap.size w w3 := B2.trans (hb.mono B2s)
  clear hb
  go_wp2_with fail
  go_ret
  exact ⟨rfl, B3⟩

set_option maxHeartbeats 8000000 in
theorem print_13_c (n m : Int) (hn : 0 ≤ n ∧ n ≤ 31) (hm : 0 ≤ m ∧ m ≤ 31) (hr : rightP ⟨13, 31, n, m, 0, 0⟩) (w : World) :
    Calls Try.prog 5 #[instrV ⟨13, 31, n, m, 0, 0⟩] w (RetB (.string ⟨(67 :: 77 :: 80 :: 32 :: (regL n ++ 44 :: regL m)).toArray⟩) w) := by
  have hln := regL_len hn.1 hn.2
  have hlm := regL_len hm.1 hm.2
  have cR : Hid (∀ k, 0 ≤ k → k ≤ 31 → ∀ V, Calls Try.prog 13 #[.int .i64 k] V (RetB (.string ⟨(regL k).toArray⟩) V)) := Lib.hid fun k h0 h1 V => regt_any k V h0 h1
  have hli0 := intL_len (i := 0) (by omega) (by omega)
  have cI : Hid (∀ V, Calls Try.prog 14 #[.int .i64 0] V (RetB (.string ⟨(intL (0)).toArray⟩) V)) := Lib.hid fun V => int_any (0) V (by omega) (by omega)
  have cX : Hid (∀ V, Calls Try.prog 6 #[.agg #[.int .i64 13, .int .i64 31, .int .i64 n, .int .i64 m, .int .i64 0, .int .i64 0]] V (RetB (.int .i64 0) V)) := Lib.hid fun V => by
    have := iright_any ⟨13, 31, n, m, 0, 0⟩ V
    rw [errX_yes hr] at this
    exact this
  have i0 := add_run [35] (intL (0)) (by first | (simp; done) | (simp; omega))
  simp only [List.cons_append, List.nil_append, List.append_assoc] at i0
  have hz := regL_len (n := 0) (by decide) (by decide)
  have hz31 := regL_len (n := 31) (by decide) (by decide)
  have cS : Hid (∀ V, Calls Try.prog 17 #[.agg #[.int .i64 13, .int .i64 31, .int .i64 n, .int .i64 m, .int .i64 0, .int .i64 0], (.string ⟨(regL 31).toArray⟩), (.string ⟨(regL n).toArray⟩), (.string ⟨(regL m).toArray⟩)] V (RetB (.string ⟨(67 :: 77 :: 80 :: 32 :: (regL n ++ 44 :: regL m)).toArray⟩) V)) := Lib.hid fun V => rest_13_c (regL 31) (regL n) (regL m) n m (by omega) (by omega) (by omega) V
  clear hz
  have HN := Lib.hid hn
  have HM := Lib.hid hm
  clear hr hli0
  try clear hln
  try clear hlm
  try clear hli
  simp only [instrV]
  go_enter Try.func5, Try.ntmps5
  go_wp2_with fail
  refine (cX.out _).mono ?_
  rintro e w1 ⟨rfl, hb⟩
  have B1 : Below w.heap.size w w1 := Below.trans (by repeat' (first | with_reducible exact Below.refl _ _ | with_reducible assumption | with_reducible apply below_drewN | with_reducible apply Below.drew | with_reducible refine Below.setCell ?_ ?_ _ | with_reducible refine Below.alloc ?_ ?_ _ | omega | (simp; done) | (simp; omega))) (hb.mono (by first | omega | (simp; done) | (simp; omega)))
  have B1s := B1.size
  obtain ⟨q1, q2, q3, q4⟩ := keepB hb w.heap.size (by first | omega | (simp; done) | (simp; omega))
  clear hb
  go_wp2_with fail
  refine wp_region_qb1 w.heap.size (by kernel_rfl) (by kernel_rfl) (by first | omega | (simp; done) | (simp; omega)) (fun kq => ?_); (repeat (go_big_quiet_step (first | (go_at_call 13; exact quietB (cR.out _ (by first | decide | exact HN.out.1 | exact HM.out.1) (by first | decide | exact HN.out.2 | exact HM.out.2) _)) | (go_at_call 14; exact quietB (cI.out _))))); refine wpQuiet_nil ?_; clear kq; intro wq hb
  have B2 : Below w.heap.size w wq := B1.trans (hb.mono B1s)
  have B2s := B2.size
  obtain ⟨r1, r2, r3, r4⟩ := keepB hb w.heap.size (by first | omega | (simp; done) | (simp; omega))
  clear hb
  go_wp2_with fail
  refine (cS.out _).mono ?_
  rintro e w3 ⟨rfl, hb⟩
  have B3 : Below w.heap.size w w3 := B2.trans (hb.mono B2s)
  clear hb
  go_wp2_with fail
  go_ret
  exact ⟨rfl, B3⟩

set_option maxHeartbeats 8000000 in
theorem print_8 (d n m : Int) (hd : 0 ≤ d ∧ d ≤ 31) (hn : 0 ≤ n ∧ n ≤ 31) (hm : 0 ≤ m ∧ m ≤ 31) (hr : rightP ⟨8, d, n, m, 0, 0⟩) (w : World) :
    Calls Try.prog 5 #[instrV ⟨8, d, n, m, 0, 0⟩] w (RetB (.string ⟨(65 :: 68 :: 68 :: 32 :: (regL d ++ 44 :: (regL n ++ 44 :: regL m))).toArray⟩) w) := by
  have hld := regL_len hd.1 hd.2
  have hln := regL_len hn.1 hn.2
  have hlm := regL_len hm.1 hm.2
  have cR : Hid (∀ k, 0 ≤ k → k ≤ 31 → ∀ V, Calls Try.prog 13 #[.int .i64 k] V (RetB (.string ⟨(regL k).toArray⟩) V)) := Lib.hid fun k h0 h1 V => regt_any k V h0 h1
  have hli0 := intL_len (i := 0) (by omega) (by omega)
  have cI : Hid (∀ V, Calls Try.prog 14 #[.int .i64 0] V (RetB (.string ⟨(intL (0)).toArray⟩) V)) := Lib.hid fun V => int_any (0) V (by omega) (by omega)
  have cX : Hid (∀ V, Calls Try.prog 6 #[.agg #[.int .i64 8, .int .i64 d, .int .i64 n, .int .i64 m, .int .i64 0, .int .i64 0]] V (RetB (.int .i64 0) V)) := Lib.hid fun V => by
    have := iright_any ⟨8, d, n, m, 0, 0⟩ V
    rw [errX_yes hr] at this
    exact this
  have i0 := add_run [35] (intL (0)) (by first | (simp; done) | (simp; omega))
  simp only [List.cons_append, List.nil_append, List.append_assoc] at i0
  have hz := regL_len (n := 0) (by decide) (by decide)
  have cS : Hid (∀ V, Calls Try.prog 17 #[.agg #[.int .i64 8, .int .i64 d, .int .i64 n, .int .i64 m, .int .i64 0, .int .i64 0], (.string ⟨(regL d).toArray⟩), (.string ⟨(regL n).toArray⟩), (.string ⟨(regL m).toArray⟩)] V (RetB (.string ⟨(65 :: 68 :: 68 :: 32 :: (regL d ++ 44 :: (regL n ++ 44 :: regL m))).toArray⟩) V)) := Lib.hid fun V => rest_8 (regL d) (regL n) (regL m) d n m (by omega) (by omega) (by omega) V
  clear hz
  have HD := Lib.hid hd
  have HN := Lib.hid hn
  have HM := Lib.hid hm
  clear hr hli0
  try clear hld
  try clear hln
  try clear hlm
  try clear hli
  simp only [instrV]
  go_enter Try.func5, Try.ntmps5
  go_wp2_with fail
  refine (cX.out _).mono ?_
  rintro e w1 ⟨rfl, hb⟩
  have B1 : Below w.heap.size w w1 := Below.trans (by repeat' (first | with_reducible exact Below.refl _ _ | with_reducible assumption | with_reducible apply below_drewN | with_reducible apply Below.drew | with_reducible refine Below.setCell ?_ ?_ _ | with_reducible refine Below.alloc ?_ ?_ _ | omega | (simp; done) | (simp; omega))) (hb.mono (by first | omega | (simp; done) | (simp; omega)))
  have B1s := B1.size
  obtain ⟨q1, q2, q3, q4⟩ := keepB hb w.heap.size (by first | omega | (simp; done) | (simp; omega))
  clear hb
  go_wp2_with fail
  refine wp_region_qb1 w.heap.size (by kernel_rfl) (by kernel_rfl) (by first | omega | (simp; done) | (simp; omega)) (fun kq => ?_); (repeat (go_big_quiet_step (first | (go_at_call 13; exact quietB (cR.out _ (by first | decide | exact HD.out.1 | exact HN.out.1 | exact HM.out.1) (by first | decide | exact HD.out.2 | exact HN.out.2 | exact HM.out.2) _)) | (go_at_call 14; exact quietB (cI.out _))))); refine wpQuiet_nil ?_; clear kq; intro wq hb
  have B2 : Below w.heap.size w wq := B1.trans (hb.mono B1s)
  have B2s := B2.size
  obtain ⟨r1, r2, r3, r4⟩ := keepB hb w.heap.size (by first | omega | (simp; done) | (simp; omega))
  clear hb
  go_wp2_with fail
  refine (cS.out _).mono ?_
  rintro e w3 ⟨rfl, hb⟩
  have B3 : Below w.heap.size w w3 := B2.trans (hb.mono B2s)
  clear hb
  go_wp2_with fail
  go_ret
  exact ⟨rfl, B3⟩

set_option maxHeartbeats 8000000 in
theorem print_9 (d n m : Int) (hd : 0 ≤ d ∧ d ≤ 31) (hn : 0 ≤ n ∧ n ≤ 31) (hm : 0 ≤ m ∧ m ≤ 31) (hr : rightP ⟨9, d, n, m, 0, 0⟩) (w : World) :
    Calls Try.prog 5 #[instrV ⟨9, d, n, m, 0, 0⟩] w (RetB (.string ⟨(83 :: 85 :: 66 :: 32 :: (regL d ++ 44 :: (regL n ++ 44 :: regL m))).toArray⟩) w) := by
  have hld := regL_len hd.1 hd.2
  have hln := regL_len hn.1 hn.2
  have hlm := regL_len hm.1 hm.2
  have cR : Hid (∀ k, 0 ≤ k → k ≤ 31 → ∀ V, Calls Try.prog 13 #[.int .i64 k] V (RetB (.string ⟨(regL k).toArray⟩) V)) := Lib.hid fun k h0 h1 V => regt_any k V h0 h1
  have hli0 := intL_len (i := 0) (by omega) (by omega)
  have cI : Hid (∀ V, Calls Try.prog 14 #[.int .i64 0] V (RetB (.string ⟨(intL (0)).toArray⟩) V)) := Lib.hid fun V => int_any (0) V (by omega) (by omega)
  have cX : Hid (∀ V, Calls Try.prog 6 #[.agg #[.int .i64 9, .int .i64 d, .int .i64 n, .int .i64 m, .int .i64 0, .int .i64 0]] V (RetB (.int .i64 0) V)) := Lib.hid fun V => by
    have := iright_any ⟨9, d, n, m, 0, 0⟩ V
    rw [errX_yes hr] at this
    exact this
  have i0 := add_run [35] (intL (0)) (by first | (simp; done) | (simp; omega))
  simp only [List.cons_append, List.nil_append, List.append_assoc] at i0
  have hz := regL_len (n := 0) (by decide) (by decide)
  have cS : Hid (∀ V, Calls Try.prog 17 #[.agg #[.int .i64 9, .int .i64 d, .int .i64 n, .int .i64 m, .int .i64 0, .int .i64 0], (.string ⟨(regL d).toArray⟩), (.string ⟨(regL n).toArray⟩), (.string ⟨(regL m).toArray⟩)] V (RetB (.string ⟨(83 :: 85 :: 66 :: 32 :: (regL d ++ 44 :: (regL n ++ 44 :: regL m))).toArray⟩) V)) := Lib.hid fun V => rest_9 (regL d) (regL n) (regL m) d n m (by omega) (by omega) (by omega) V
  clear hz
  have HD := Lib.hid hd
  have HN := Lib.hid hn
  have HM := Lib.hid hm
  clear hr hli0
  try clear hld
  try clear hln
  try clear hlm
  try clear hli
  simp only [instrV]
  go_enter Try.func5, Try.ntmps5
  go_wp2_with fail
  refine (cX.out _).mono ?_
  rintro e w1 ⟨rfl, hb⟩
  have B1 : Below w.heap.size w w1 := Below.trans (by repeat' (first | with_reducible exact Below.refl _ _ | with_reducible assumption | with_reducible apply below_drewN | with_reducible apply Below.drew | with_reducible refine Below.setCell ?_ ?_ _ | with_reducible refine Below.alloc ?_ ?_ _ | omega | (simp; done) | (simp; omega))) (hb.mono (by first | omega | (simp; done) | (simp; omega)))
  have B1s := B1.size
  obtain ⟨q1, q2, q3, q4⟩ := keepB hb w.heap.size (by first | omega | (simp; done) | (simp; omega))
  clear hb
  go_wp2_with fail
  refine wp_region_qb1 w.heap.size (by kernel_rfl) (by kernel_rfl) (by first | omega | (simp; done) | (simp; omega)) (fun kq => ?_); (repeat (go_big_quiet_step (first | (go_at_call 13; exact quietB (cR.out _ (by first | decide | exact HD.out.1 | exact HN.out.1 | exact HM.out.1) (by first | decide | exact HD.out.2 | exact HN.out.2 | exact HM.out.2) _)) | (go_at_call 14; exact quietB (cI.out _))))); refine wpQuiet_nil ?_; clear kq; intro wq hb
  have B2 : Below w.heap.size w wq := B1.trans (hb.mono B1s)
  have B2s := B2.size
  obtain ⟨r1, r2, r3, r4⟩ := keepB hb w.heap.size (by first | omega | (simp; done) | (simp; omega))
  clear hb
  go_wp2_with fail
  refine (cS.out _).mono ?_
  rintro e w3 ⟨rfl, hb⟩
  have B3 : Below w.heap.size w w3 := B2.trans (hb.mono B2s)
  clear hb
  go_wp2_with fail
  go_ret
  exact ⟨rfl, B3⟩

set_option maxHeartbeats 8000000 in
theorem print_10 (d n m : Int) (hd : 0 ≤ d ∧ d ≤ 31) (hn : 0 ≤ n ∧ n ≤ 31) (hm : 0 ≤ m ∧ m ≤ 31) (hr : rightP ⟨10, d, n, m, 0, 0⟩) (w : World) :
    Calls Try.prog 5 #[instrV ⟨10, d, n, m, 0, 0⟩] w (RetB (.string ⟨(65 :: 78 :: 68 :: 32 :: (regL d ++ 44 :: (regL n ++ 44 :: regL m))).toArray⟩) w) := by
  have hld := regL_len hd.1 hd.2
  have hln := regL_len hn.1 hn.2
  have hlm := regL_len hm.1 hm.2
  have cR : Hid (∀ k, 0 ≤ k → k ≤ 31 → ∀ V, Calls Try.prog 13 #[.int .i64 k] V (RetB (.string ⟨(regL k).toArray⟩) V)) := Lib.hid fun k h0 h1 V => regt_any k V h0 h1
  have hli0 := intL_len (i := 0) (by omega) (by omega)
  have cI : Hid (∀ V, Calls Try.prog 14 #[.int .i64 0] V (RetB (.string ⟨(intL (0)).toArray⟩) V)) := Lib.hid fun V => int_any (0) V (by omega) (by omega)
  have cX : Hid (∀ V, Calls Try.prog 6 #[.agg #[.int .i64 10, .int .i64 d, .int .i64 n, .int .i64 m, .int .i64 0, .int .i64 0]] V (RetB (.int .i64 0) V)) := Lib.hid fun V => by
    have := iright_any ⟨10, d, n, m, 0, 0⟩ V
    rw [errX_yes hr] at this
    exact this
  have i0 := add_run [35] (intL (0)) (by first | (simp; done) | (simp; omega))
  simp only [List.cons_append, List.nil_append, List.append_assoc] at i0
  have hz := regL_len (n := 0) (by decide) (by decide)
  have cS : Hid (∀ V, Calls Try.prog 17 #[.agg #[.int .i64 10, .int .i64 d, .int .i64 n, .int .i64 m, .int .i64 0, .int .i64 0], (.string ⟨(regL d).toArray⟩), (.string ⟨(regL n).toArray⟩), (.string ⟨(regL m).toArray⟩)] V (RetB (.string ⟨(65 :: 78 :: 68 :: 32 :: (regL d ++ 44 :: (regL n ++ 44 :: regL m))).toArray⟩) V)) := Lib.hid fun V => rest_10 (regL d) (regL n) (regL m) d n m (by omega) (by omega) (by omega) V
  clear hz
  have HD := Lib.hid hd
  have HN := Lib.hid hn
  have HM := Lib.hid hm
  clear hr hli0
  try clear hld
  try clear hln
  try clear hlm
  try clear hli
  simp only [instrV]
  go_enter Try.func5, Try.ntmps5
  go_wp2_with fail
  refine (cX.out _).mono ?_
  rintro e w1 ⟨rfl, hb⟩
  have B1 : Below w.heap.size w w1 := Below.trans (by repeat' (first | with_reducible exact Below.refl _ _ | with_reducible assumption | with_reducible apply below_drewN | with_reducible apply Below.drew | with_reducible refine Below.setCell ?_ ?_ _ | with_reducible refine Below.alloc ?_ ?_ _ | omega | (simp; done) | (simp; omega))) (hb.mono (by first | omega | (simp; done) | (simp; omega)))
  have B1s := B1.size
  obtain ⟨q1, q2, q3, q4⟩ := keepB hb w.heap.size (by first | omega | (simp; done) | (simp; omega))
  clear hb
  go_wp2_with fail
  refine wp_region_qb1 w.heap.size (by kernel_rfl) (by kernel_rfl) (by first | omega | (simp; done) | (simp; omega)) (fun kq => ?_); (repeat (go_big_quiet_step (first | (go_at_call 13; exact quietB (cR.out _ (by first | decide | exact HD.out.1 | exact HN.out.1 | exact HM.out.1) (by first | decide | exact HD.out.2 | exact HN.out.2 | exact HM.out.2) _)) | (go_at_call 14; exact quietB (cI.out _))))); refine wpQuiet_nil ?_; clear kq; intro wq hb
  have B2 : Below w.heap.size w wq := B1.trans (hb.mono B1s)
  have B2s := B2.size
  obtain ⟨r1, r2, r3, r4⟩ := keepB hb w.heap.size (by first | omega | (simp; done) | (simp; omega))
  clear hb
  go_wp2_with fail
  refine (cS.out _).mono ?_
  rintro e w3 ⟨rfl, hb⟩
  have B3 : Below w.heap.size w w3 := B2.trans (hb.mono B2s)
  clear hb
  go_wp2_with fail
  go_ret
  exact ⟨rfl, B3⟩

set_option maxHeartbeats 8000000 in
theorem print_11 (d n m : Int) (hd : 0 ≤ d ∧ d ≤ 31) (hn : 0 ≤ n ∧ n ≤ 31) (hm : 0 ≤ m ∧ m ≤ 31) (hr : rightP ⟨11, d, n, m, 0, 0⟩) (w : World) :
    Calls Try.prog 5 #[instrV ⟨11, d, n, m, 0, 0⟩] w (RetB (.string ⟨(79 :: 82 :: 82 :: 32 :: (regL d ++ 44 :: (regL n ++ 44 :: regL m))).toArray⟩) w) := by
  have hld := regL_len hd.1 hd.2
  have hln := regL_len hn.1 hn.2
  have hlm := regL_len hm.1 hm.2
  have cR : Hid (∀ k, 0 ≤ k → k ≤ 31 → ∀ V, Calls Try.prog 13 #[.int .i64 k] V (RetB (.string ⟨(regL k).toArray⟩) V)) := Lib.hid fun k h0 h1 V => regt_any k V h0 h1
  have hli0 := intL_len (i := 0) (by omega) (by omega)
  have cI : Hid (∀ V, Calls Try.prog 14 #[.int .i64 0] V (RetB (.string ⟨(intL (0)).toArray⟩) V)) := Lib.hid fun V => int_any (0) V (by omega) (by omega)
  have cX : Hid (∀ V, Calls Try.prog 6 #[.agg #[.int .i64 11, .int .i64 d, .int .i64 n, .int .i64 m, .int .i64 0, .int .i64 0]] V (RetB (.int .i64 0) V)) := Lib.hid fun V => by
    have := iright_any ⟨11, d, n, m, 0, 0⟩ V
    rw [errX_yes hr] at this
    exact this
  have i0 := add_run [35] (intL (0)) (by first | (simp; done) | (simp; omega))
  simp only [List.cons_append, List.nil_append, List.append_assoc] at i0
  have hz := regL_len (n := 0) (by decide) (by decide)
  have cS : Hid (∀ V, Calls Try.prog 17 #[.agg #[.int .i64 11, .int .i64 d, .int .i64 n, .int .i64 m, .int .i64 0, .int .i64 0], (.string ⟨(regL d).toArray⟩), (.string ⟨(regL n).toArray⟩), (.string ⟨(regL m).toArray⟩)] V (RetB (.string ⟨(79 :: 82 :: 82 :: 32 :: (regL d ++ 44 :: (regL n ++ 44 :: regL m))).toArray⟩) V)) := Lib.hid fun V => rest_11 (regL d) (regL n) (regL m) d n m (by omega) (by omega) (by omega) V
  clear hz
  have HD := Lib.hid hd
  have HN := Lib.hid hn
  have HM := Lib.hid hm
  clear hr hli0
  try clear hld
  try clear hln
  try clear hlm
  try clear hli
  simp only [instrV]
  go_enter Try.func5, Try.ntmps5
  go_wp2_with fail
  refine (cX.out _).mono ?_
  rintro e w1 ⟨rfl, hb⟩
  have B1 : Below w.heap.size w w1 := Below.trans (by repeat' (first | with_reducible exact Below.refl _ _ | with_reducible assumption | with_reducible apply below_drewN | with_reducible apply Below.drew | with_reducible refine Below.setCell ?_ ?_ _ | with_reducible refine Below.alloc ?_ ?_ _ | omega | (simp; done) | (simp; omega))) (hb.mono (by first | omega | (simp; done) | (simp; omega)))
  have B1s := B1.size
  obtain ⟨q1, q2, q3, q4⟩ := keepB hb w.heap.size (by first | omega | (simp; done) | (simp; omega))
  clear hb
  go_wp2_with fail
  refine wp_region_qb1 w.heap.size (by kernel_rfl) (by kernel_rfl) (by first | omega | (simp; done) | (simp; omega)) (fun kq => ?_); (repeat (go_big_quiet_step (first | (go_at_call 13; exact quietB (cR.out _ (by first | decide | exact HD.out.1 | exact HN.out.1 | exact HM.out.1) (by first | decide | exact HD.out.2 | exact HN.out.2 | exact HM.out.2) _)) | (go_at_call 14; exact quietB (cI.out _))))); refine wpQuiet_nil ?_; clear kq; intro wq hb
  have B2 : Below w.heap.size w wq := B1.trans (hb.mono B1s)
  have B2s := B2.size
  obtain ⟨r1, r2, r3, r4⟩ := keepB hb w.heap.size (by first | omega | (simp; done) | (simp; omega))
  clear hb
  go_wp2_with fail
  refine (cS.out _).mono ?_
  rintro e w3 ⟨rfl, hb⟩
  have B3 : Below w.heap.size w w3 := B2.trans (hb.mono B2s)
  clear hb
  go_wp2_with fail
  go_ret
  exact ⟨rfl, B3⟩

set_option maxHeartbeats 8000000 in
theorem print_12 (d n m : Int) (hd : 0 ≤ d ∧ d ≤ 31) (hn : 0 ≤ n ∧ n ≤ 31) (hm : 0 ≤ m ∧ m ≤ 31) (hr : rightP ⟨12, d, n, m, 0, 0⟩) (w : World) :
    Calls Try.prog 5 #[instrV ⟨12, d, n, m, 0, 0⟩] w (RetB (.string ⟨(69 :: 79 :: 82 :: 32 :: (regL d ++ 44 :: (regL n ++ 44 :: regL m))).toArray⟩) w) := by
  have hld := regL_len hd.1 hd.2
  have hln := regL_len hn.1 hn.2
  have hlm := regL_len hm.1 hm.2
  have cR : Hid (∀ k, 0 ≤ k → k ≤ 31 → ∀ V, Calls Try.prog 13 #[.int .i64 k] V (RetB (.string ⟨(regL k).toArray⟩) V)) := Lib.hid fun k h0 h1 V => regt_any k V h0 h1
  have hli0 := intL_len (i := 0) (by omega) (by omega)
  have cI : Hid (∀ V, Calls Try.prog 14 #[.int .i64 0] V (RetB (.string ⟨(intL (0)).toArray⟩) V)) := Lib.hid fun V => int_any (0) V (by omega) (by omega)
  have cX : Hid (∀ V, Calls Try.prog 6 #[.agg #[.int .i64 12, .int .i64 d, .int .i64 n, .int .i64 m, .int .i64 0, .int .i64 0]] V (RetB (.int .i64 0) V)) := Lib.hid fun V => by
    have := iright_any ⟨12, d, n, m, 0, 0⟩ V
    rw [errX_yes hr] at this
    exact this
  have i0 := add_run [35] (intL (0)) (by first | (simp; done) | (simp; omega))
  simp only [List.cons_append, List.nil_append, List.append_assoc] at i0
  have hz := regL_len (n := 0) (by decide) (by decide)
  have cS : Hid (∀ V, Calls Try.prog 17 #[.agg #[.int .i64 12, .int .i64 d, .int .i64 n, .int .i64 m, .int .i64 0, .int .i64 0], (.string ⟨(regL d).toArray⟩), (.string ⟨(regL n).toArray⟩), (.string ⟨(regL m).toArray⟩)] V (RetB (.string ⟨(69 :: 79 :: 82 :: 32 :: (regL d ++ 44 :: (regL n ++ 44 :: regL m))).toArray⟩) V)) := Lib.hid fun V => rest_12 (regL d) (regL n) (regL m) d n m (by omega) (by omega) (by omega) V
  clear hz
  have HD := Lib.hid hd
  have HN := Lib.hid hn
  have HM := Lib.hid hm
  clear hr hli0
  try clear hld
  try clear hln
  try clear hlm
  try clear hli
  simp only [instrV]
  go_enter Try.func5, Try.ntmps5
  go_wp2_with fail
  refine (cX.out _).mono ?_
  rintro e w1 ⟨rfl, hb⟩
  have B1 : Below w.heap.size w w1 := Below.trans (by repeat' (first | with_reducible exact Below.refl _ _ | with_reducible assumption | with_reducible apply below_drewN | with_reducible apply Below.drew | with_reducible refine Below.setCell ?_ ?_ _ | with_reducible refine Below.alloc ?_ ?_ _ | omega | (simp; done) | (simp; omega))) (hb.mono (by first | omega | (simp; done) | (simp; omega)))
  have B1s := B1.size
  obtain ⟨q1, q2, q3, q4⟩ := keepB hb w.heap.size (by first | omega | (simp; done) | (simp; omega))
  clear hb
  go_wp2_with fail
  refine wp_region_qb1 w.heap.size (by kernel_rfl) (by kernel_rfl) (by first | omega | (simp; done) | (simp; omega)) (fun kq => ?_); (repeat (go_big_quiet_step (first | (go_at_call 13; exact quietB (cR.out _ (by first | decide | exact HD.out.1 | exact HN.out.1 | exact HM.out.1) (by first | decide | exact HD.out.2 | exact HN.out.2 | exact HM.out.2) _)) | (go_at_call 14; exact quietB (cI.out _))))); refine wpQuiet_nil ?_; clear kq; intro wq hb
  have B2 : Below w.heap.size w wq := B1.trans (hb.mono B1s)
  have B2s := B2.size
  obtain ⟨r1, r2, r3, r4⟩ := keepB hb w.heap.size (by first | omega | (simp; done) | (simp; omega))
  clear hb
  go_wp2_with fail
  refine (cS.out _).mono ?_
  rintro e w3 ⟨rfl, hb⟩
  have B3 : Below w.heap.size w w3 := B2.trans (hb.mono B2s)
  clear hb
  go_wp2_with fail
  go_ret
  exact ⟨rfl, B3⟩

set_option maxHeartbeats 8000000 in
theorem print_13 (d n m : Int) (hd : 0 ≤ d ∧ d ≤ 31) (hn : 0 ≤ n ∧ n ≤ 31) (hm : 0 ≤ m ∧ m ≤ 31) (hne : ¬ d = 31) (hr : rightP ⟨13, d, n, m, 0, 0⟩) (w : World) :
    Calls Try.prog 5 #[instrV ⟨13, d, n, m, 0, 0⟩] w (RetB (.string ⟨(83 :: 85 :: 66 :: 83 :: 32 :: (regL d ++ 44 :: (regL n ++ 44 :: regL m))).toArray⟩) w) := by
  have hld := regL_len hd.1 hd.2
  have hln := regL_len hn.1 hn.2
  have hlm := regL_len hm.1 hm.2
  have cR : Hid (∀ k, 0 ≤ k → k ≤ 31 → ∀ V, Calls Try.prog 13 #[.int .i64 k] V (RetB (.string ⟨(regL k).toArray⟩) V)) := Lib.hid fun k h0 h1 V => regt_any k V h0 h1
  have hli0 := intL_len (i := 0) (by omega) (by omega)
  have cI : Hid (∀ V, Calls Try.prog 14 #[.int .i64 0] V (RetB (.string ⟨(intL (0)).toArray⟩) V)) := Lib.hid fun V => int_any (0) V (by omega) (by omega)
  have cX : Hid (∀ V, Calls Try.prog 6 #[.agg #[.int .i64 13, .int .i64 d, .int .i64 n, .int .i64 m, .int .i64 0, .int .i64 0]] V (RetB (.int .i64 0) V)) := Lib.hid fun V => by
    have := iright_any ⟨13, d, n, m, 0, 0⟩ V
    rw [errX_yes hr] at this
    exact this
  have i0 := add_run [35] (intL (0)) (by first | (simp; done) | (simp; omega))
  simp only [List.cons_append, List.nil_append, List.append_assoc] at i0
  have hz := regL_len (n := 0) (by decide) (by decide)
  have cS : Hid (∀ V, Calls Try.prog 17 #[.agg #[.int .i64 13, .int .i64 d, .int .i64 n, .int .i64 m, .int .i64 0, .int .i64 0], (.string ⟨(regL d).toArray⟩), (.string ⟨(regL n).toArray⟩), (.string ⟨(regL m).toArray⟩)] V (RetB (.string ⟨(83 :: 85 :: 66 :: 83 :: 32 :: (regL d ++ 44 :: (regL n ++ 44 :: regL m))).toArray⟩) V)) := Lib.hid fun V => rest_13 (regL d) (regL n) (regL m) d n m hne (by omega) (by omega) (by omega) V
  clear hz
  have HD := Lib.hid hd
  have HN := Lib.hid hn
  have HM := Lib.hid hm
  clear hr hli0
  try clear hld
  try clear hln
  try clear hlm
  try clear hli
  simp only [instrV]
  go_enter Try.func5, Try.ntmps5
  go_wp2_with fail
  refine (cX.out _).mono ?_
  rintro e w1 ⟨rfl, hb⟩
  have B1 : Below w.heap.size w w1 := Below.trans (by repeat' (first | with_reducible exact Below.refl _ _ | with_reducible assumption | with_reducible apply below_drewN | with_reducible apply Below.drew | with_reducible refine Below.setCell ?_ ?_ _ | with_reducible refine Below.alloc ?_ ?_ _ | omega | (simp; done) | (simp; omega))) (hb.mono (by first | omega | (simp; done) | (simp; omega)))
  have B1s := B1.size
  obtain ⟨q1, q2, q3, q4⟩ := keepB hb w.heap.size (by first | omega | (simp; done) | (simp; omega))
  clear hb
  go_wp2_with fail
  refine wp_region_qb1 w.heap.size (by kernel_rfl) (by kernel_rfl) (by first | omega | (simp; done) | (simp; omega)) (fun kq => ?_); (repeat (go_big_quiet_step (first | (go_at_call 13; exact quietB (cR.out _ (by first | decide | exact HD.out.1 | exact HN.out.1 | exact HM.out.1) (by first | decide | exact HD.out.2 | exact HN.out.2 | exact HM.out.2) _)) | (go_at_call 14; exact quietB (cI.out _))))); refine wpQuiet_nil ?_; clear kq; intro wq hb
  have B2 : Below w.heap.size w wq := B1.trans (hb.mono B1s)
  have B2s := B2.size
  obtain ⟨r1, r2, r3, r4⟩ := keepB hb w.heap.size (by first | omega | (simp; done) | (simp; omega))
  clear hb
  go_wp2_with fail
  refine (cS.out _).mono ?_
  rintro e w3 ⟨rfl, hb⟩
  have B3 : Below w.heap.size w w3 := B2.trans (hb.mono B2s)
  clear hb
  go_wp2_with fail
  go_ret
  exact ⟨rfl, B3⟩

end Go.Proofs.Ytdlodacogldinaa
