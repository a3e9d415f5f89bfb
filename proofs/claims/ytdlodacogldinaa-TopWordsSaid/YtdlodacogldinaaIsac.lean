/- Contracts of package isa: Right. -/
import Derived.Test.YtdlodacogldinaaIsab
namespace Go.Proofs.Ytdlodacogldinaa
open Go.RowKit
set_option linter.unusedSimpArgs false
set_option linter.unusedVariables false

theorem right_iff (x : X) : rightP x ↔ (opB x.op = true ∧ ((shX x.op).d = true ∨ x.d = 0) ∧ ((shX x.op).n = true ∨ x.n = 0) ∧ ((shX x.op).m = true ∨ x.m = 0) ∧ ((shX x.op).imm = true ∨ x.imm = 0) ∧ ((shX x.op).kind = true ∨ x.kind = 0) ∧ regB x.d = true ∧ regB x.n = true ∧ regB x.m = true ∧ numB x = true) := by
  obtain ⟨op, d, n, m, imm, kind⟩ := x
  rcases op_cases op with h | h
  · rcases h with rfl | rfl | rfl | rfl | rfl | rfl | rfl | rfl | rfl | rfl | rfl | rfl | rfl | rfl | rfl | rfl | rfl | rfl | rfl | rfl | rfl | rfl | rfl
    all_goals
      simp only [rightP, opB, shX, numB, regB, lowB, fitB, barrB]
      simp
      try omega
      try (by_cases hi : 0 ≤ imm
           · rw [Int.tmod_eq_emod_of_nonneg hi]; omega
           · omega)
      try (by_cases hi : 0 ≤ kind
           · rw [Int.tmod_eq_emod_of_nonneg hi]; omega
           · omega)
  · constructor
    · intro h'
      unfold rightP at h'
      simp only at h'
      rcases h' with ⟨rfl, _⟩ | ⟨rfl, _⟩ | ⟨rfl, _⟩ | ⟨rfl, _⟩ | ⟨rfl, _⟩ | ⟨rfl, _⟩ | ⟨rfl, _⟩ | ⟨rfl, _⟩ | ⟨rfl, _⟩ | ⟨rfl, _⟩ | ⟨rfl, _⟩ | ⟨rfl, _⟩ | ⟨rfl, _⟩ | ⟨rfl, _⟩ | ⟨rfl, _⟩ | ⟨rfl, _⟩ | ⟨rfl, _⟩ | ⟨rfl, _⟩ | ⟨rfl, _⟩ | ⟨rfl, _⟩ | ⟨rfl, _⟩ | ⟨rfl, _⟩ | ⟨rfl, _⟩
      all_goals exact absurd (by decide) h
    · intro h'
      have := h'.1
      simp [opB] at this
      exact absurd this h

noncomputable def errX (x : X) : Int := if rightP x then 0 else 30
noncomputable def encW (x : X) : Int := if rightP x then wordX x else 0

theorem errX_yes {x : X} (h : rightP x) : errX x = 0 := if_pos h
theorem errX_no {x : X} (h : ¬ rightP x) : errX x = 30 := if_neg h

theorem sh_group (op : Int) (h : opB op = true) : shX op = ⟨false, false, false, false, false⟩ ∨ shX op = ⟨true, true, false, true, false⟩ ∨ shX op = ⟨true, true, false, false, false⟩ ∨ shX op = ⟨true, false, false, true, true⟩ ∨ shX op = ⟨true, true, true, false, false⟩ ∨ shX op = ⟨false, false, false, true, false⟩ ∨ shX op = ⟨true, false, false, true, false⟩ ∨ shX op = ⟨false, false, false, true, true⟩ ∨ shX op = ⟨false, false, false, false, true⟩ ∨ shX op = ⟨true, false, false, false, true⟩ := by
  have h2 : 1 ≤ op ∧ op ≤ 23 := by simpa [opB] using h
  clear h
  have h3 : op = 1 ∨ op = 2 ∨ op = 3 ∨ op = 4 ∨ op = 5 ∨ op = 6 ∨ op = 7 ∨ op = 8 ∨ op = 9 ∨ op = 10 ∨ op = 11 ∨ op = 12 ∨ op = 13 ∨ op = 14 ∨ op = 15 ∨ op = 16 ∨ op = 17 ∨ op = 18 ∨ op = 19 ∨ op = 20 ∨ op = 21 ∨ op = 22 ∨ op = 23 := by omega
  clear h2
  rcases h3 with rfl | rfl | rfl | rfl | rfl | rfl | rfl | rfl | rfl | rfl | rfl | rfl | rfl | rfl | rfl | rfl | rfl | rfl | rfl | rfl | rfl | rfl | rfl <;> simp [shX]


set_option maxHeartbeats 2000000 in
theorem iry0 (op : Int) (ho : opB op = true) (hs : shX op = ⟨false, false, false, false, false⟩)  (hn : numB ⟨op, 0, 0, 0, 0, 0⟩ = true) (w : World) : Calls Try.prog 6 #[.agg #[.int .i64 op, .int .i64 0, .int .i64 0, .int .i64 0, .int .i64 0, .int .i64 0]] w (RetB (.int .i64 0) w) := by
  have HO := Lib.hid ho
  have HS := Lib.hid hs
  have HN := Lib.hid hn
  clear ho hs hn 
  go_enter Try.func6, Try.ntmps6
  go_wp2_with (first | (go_at_call 18; refine (shape_any _ _).mono ?_; rintro e w1 ⟨rfl, hb⟩; rw [HO.out, HS.out]; have B : Below w.heap.size w w1 := Below.trans (by repeat' (first | with_reducible exact Below.refl _ _ | with_reducible assumption | with_reducible apply below_drewN | with_reducible apply Below.drew | with_reducible refine Below.setCell ?_ ?_ _ | with_reducible refine Below.alloc ?_ ?_ _ | omega | (simp; done) | (simp; omega))) (hb.mono (by first | omega | (simp; done) | (simp; omega))); have Bz := B.size; obtain ⟨k1, k2, k3, k4⟩ := keepB hb w.heap.size (by first | omega | (simp; done) | (simp; omega)); clear hb) | (go_at_call 19; refine (reg_any _ _).mono ?_; rintro e w' ⟨rfl, rfl⟩; first | rw [show regB 0 = true from rfl]) | (go_at_call 20; refine (number_any ⟨op, _, _, _, _, _⟩ _).mono ?_; rintro e w2 ⟨rfl, hb⟩; rw [HN.out]; have B : Below w.heap.size w w2 := Below.trans (by repeat' (first | with_reducible exact Below.refl _ _ | with_reducible assumption | with_reducible apply below_drewN | with_reducible apply Below.drew | with_reducible refine Below.setCell ?_ ?_ _ | with_reducible refine Below.alloc ?_ ?_ _ | omega | (simp; done) | (simp; omega))) (hb.mono (by first | omega | (simp; done) | (simp; omega))); have Bz := B.size; clear hb))
  go_ret
  exact ⟨rfl, by repeat' (first | with_reducible exact Below.refl _ _ | with_reducible assumption | with_reducible apply below_drewN | with_reducible apply Below.drew | with_reducible refine Below.setCell ?_ ?_ _ | with_reducible refine Below.alloc ?_ ?_ _ | omega | (simp; done) | (simp; omega))⟩

theorem irn0_d (op d n m imm kind : Int) (ho : opB op = true) (hs : shX op = ⟨false, false, false, false, false⟩) (hz : (d != 0) = true) (w : World) : Calls Try.prog 6 #[.agg #[.int .i64 op, .int .i64 d, .int .i64 n, .int .i64 m, .int .i64 imm, .int .i64 kind]] w (RetB (.int .i64 30) w) := by
  have HO := Lib.hid ho
  have HS := Lib.hid hs
  clear ho hs
  go_enter Try.func6, Try.ntmps6
  go_wp2_with ((go_at_call 18; refine (shape_any _ _).mono ?_; rintro e w1 ⟨rfl, hb⟩; rw [HO.out, HS.out]; have B : Below w.heap.size w w1 := Below.trans (by repeat' (first | with_reducible exact Below.refl _ _ | with_reducible assumption | with_reducible apply below_drewN | with_reducible apply Below.drew | with_reducible refine Below.setCell ?_ ?_ _ | with_reducible refine Below.alloc ?_ ?_ _ | omega | (simp; done) | (simp; omega))) (hb.mono (by first | omega | (simp; done) | (simp; omega))); have Bz := B.size; obtain ⟨k1, k2, k3, k4⟩ := keepB hb w.heap.size (by first | omega | (simp; done) | (simp; omega)); clear hb))
  go_ret
  exact ⟨rfl, by repeat' (first | with_reducible exact Below.refl _ _ | with_reducible assumption | with_reducible apply below_drewN | with_reducible apply Below.drew | with_reducible refine Below.setCell ?_ ?_ _ | with_reducible refine Below.alloc ?_ ?_ _ | omega | (simp; done) | (simp; omega))⟩

theorem irn0_n (op n m imm kind : Int) (ho : opB op = true) (hs : shX op = ⟨false, false, false, false, false⟩) (hz : (n != 0) = true) (w : World) : Calls Try.prog 6 #[.agg #[.int .i64 op, .int .i64 0, .int .i64 n, .int .i64 m, .int .i64 imm, .int .i64 kind]] w (RetB (.int .i64 30) w) := by
  have HO := Lib.hid ho
  have HS := Lib.hid hs
  clear ho hs
  go_enter Try.func6, Try.ntmps6
  go_wp2_with ((go_at_call 18; refine (shape_any _ _).mono ?_; rintro e w1 ⟨rfl, hb⟩; rw [HO.out, HS.out]; have B : Below w.heap.size w w1 := Below.trans (by repeat' (first | with_reducible exact Below.refl _ _ | with_reducible assumption | with_reducible apply below_drewN | with_reducible apply Below.drew | with_reducible refine Below.setCell ?_ ?_ _ | with_reducible refine Below.alloc ?_ ?_ _ | omega | (simp; done) | (simp; omega))) (hb.mono (by first | omega | (simp; done) | (simp; omega))); have Bz := B.size; obtain ⟨k1, k2, k3, k4⟩ := keepB hb w.heap.size (by first | omega | (simp; done) | (simp; omega)); clear hb))
  go_ret
  exact ⟨rfl, by repeat' (first | with_reducible exact Below.refl _ _ | with_reducible assumption | with_reducible apply below_drewN | with_reducible apply Below.drew | with_reducible refine Below.setCell ?_ ?_ _ | with_reducible refine Below.alloc ?_ ?_ _ | omega | (simp; done) | (simp; omega))⟩

theorem irn0_m (op m imm kind : Int) (ho : opB op = true) (hs : shX op = ⟨false, false, false, false, false⟩) (hz : (m != 0) = true) (w : World) : Calls Try.prog 6 #[.agg #[.int .i64 op, .int .i64 0, .int .i64 0, .int .i64 m, .int .i64 imm, .int .i64 kind]] w (RetB (.int .i64 30) w) := by
  have HO := Lib.hid ho
  have HS := Lib.hid hs
  clear ho hs
  go_enter Try.func6, Try.ntmps6
  go_wp2_with ((go_at_call 18; refine (shape_any _ _).mono ?_; rintro e w1 ⟨rfl, hb⟩; rw [HO.out, HS.out]; have B : Below w.heap.size w w1 := Below.trans (by repeat' (first | with_reducible exact Below.refl _ _ | with_reducible assumption | with_reducible apply below_drewN | with_reducible apply Below.drew | with_reducible refine Below.setCell ?_ ?_ _ | with_reducible refine Below.alloc ?_ ?_ _ | omega | (simp; done) | (simp; omega))) (hb.mono (by first | omega | (simp; done) | (simp; omega))); have Bz := B.size; obtain ⟨k1, k2, k3, k4⟩ := keepB hb w.heap.size (by first | omega | (simp; done) | (simp; omega)); clear hb))
  go_ret
  exact ⟨rfl, by repeat' (first | with_reducible exact Below.refl _ _ | with_reducible assumption | with_reducible apply below_drewN | with_reducible apply Below.drew | with_reducible refine Below.setCell ?_ ?_ _ | with_reducible refine Below.alloc ?_ ?_ _ | omega | (simp; done) | (simp; omega))⟩

theorem irn0_imm (op imm kind : Int) (ho : opB op = true) (hs : shX op = ⟨false, false, false, false, false⟩) (hz : (imm != 0) = true) (w : World) : Calls Try.prog 6 #[.agg #[.int .i64 op, .int .i64 0, .int .i64 0, .int .i64 0, .int .i64 imm, .int .i64 kind]] w (RetB (.int .i64 30) w) := by
  have HO := Lib.hid ho
  have HS := Lib.hid hs
  clear ho hs
  go_enter Try.func6, Try.ntmps6
  go_wp2_with ((go_at_call 18; refine (shape_any _ _).mono ?_; rintro e w1 ⟨rfl, hb⟩; rw [HO.out, HS.out]; have B : Below w.heap.size w w1 := Below.trans (by repeat' (first | with_reducible exact Below.refl _ _ | with_reducible assumption | with_reducible apply below_drewN | with_reducible apply Below.drew | with_reducible refine Below.setCell ?_ ?_ _ | with_reducible refine Below.alloc ?_ ?_ _ | omega | (simp; done) | (simp; omega))) (hb.mono (by first | omega | (simp; done) | (simp; omega))); have Bz := B.size; obtain ⟨k1, k2, k3, k4⟩ := keepB hb w.heap.size (by first | omega | (simp; done) | (simp; omega)); clear hb))
  go_ret
  exact ⟨rfl, by repeat' (first | with_reducible exact Below.refl _ _ | with_reducible assumption | with_reducible apply below_drewN | with_reducible apply Below.drew | with_reducible refine Below.setCell ?_ ?_ _ | with_reducible refine Below.alloc ?_ ?_ _ | omega | (simp; done) | (simp; omega))⟩

theorem irn0_kind (op kind : Int) (ho : opB op = true) (hs : shX op = ⟨false, false, false, false, false⟩) (hz : (kind != 0) = true) (w : World) : Calls Try.prog 6 #[.agg #[.int .i64 op, .int .i64 0, .int .i64 0, .int .i64 0, .int .i64 0, .int .i64 kind]] w (RetB (.int .i64 30) w) := by
  have HO := Lib.hid ho
  have HS := Lib.hid hs
  clear ho hs
  go_enter Try.func6, Try.ntmps6
  go_wp2_with ((go_at_call 18; refine (shape_any _ _).mono ?_; rintro e w1 ⟨rfl, hb⟩; rw [HO.out, HS.out]; have B : Below w.heap.size w w1 := Below.trans (by repeat' (first | with_reducible exact Below.refl _ _ | with_reducible assumption | with_reducible apply below_drewN | with_reducible apply Below.drew | with_reducible refine Below.setCell ?_ ?_ _ | with_reducible refine Below.alloc ?_ ?_ _ | omega | (simp; done) | (simp; omega))) (hb.mono (by first | omega | (simp; done) | (simp; omega))); have Bz := B.size; obtain ⟨k1, k2, k3, k4⟩ := keepB hb w.heap.size (by first | omega | (simp; done) | (simp; omega)); clear hb))
  go_ret
  exact ⟨rfl, by repeat' (first | with_reducible exact Below.refl _ _ | with_reducible assumption | with_reducible apply below_drewN | with_reducible apply Below.drew | with_reducible refine Below.setCell ?_ ?_ _ | with_reducible refine Below.alloc ?_ ?_ _ | omega | (simp; done) | (simp; omega))⟩

theorem irn0_rnum (op : Int) (ho : opB op = true) (hs : shX op = ⟨false, false, false, false, false⟩)  (hn : numB ⟨op, 0, 0, 0, 0, 0⟩ = false) (w : World) : Calls Try.prog 6 #[.agg #[.int .i64 op, .int .i64 0, .int .i64 0, .int .i64 0, .int .i64 0, .int .i64 0]] w (RetB (.int .i64 30) w) := by
  have HO := Lib.hid ho
  have HS := Lib.hid hs
  have HN := Lib.hid hn
  clear ho hs  hn
  go_enter Try.func6, Try.ntmps6
  go_wp2_with (first | (go_at_call 18; refine (shape_any _ _).mono ?_; rintro e w1 ⟨rfl, hb⟩; rw [HO.out, HS.out]; have B : Below w.heap.size w w1 := Below.trans (by repeat' (first | with_reducible exact Below.refl _ _ | with_reducible assumption | with_reducible apply below_drewN | with_reducible apply Below.drew | with_reducible refine Below.setCell ?_ ?_ _ | with_reducible refine Below.alloc ?_ ?_ _ | omega | (simp; done) | (simp; omega))) (hb.mono (by first | omega | (simp; done) | (simp; omega))); have Bz := B.size; obtain ⟨k1, k2, k3, k4⟩ := keepB hb w.heap.size (by first | omega | (simp; done) | (simp; omega)); clear hb) | (go_at_call 19; refine (reg_any _ _).mono ?_; rintro e w' ⟨rfl, rfl⟩; first | rw [show regB 0 = true from rfl]) | (go_at_call 20; refine (number_any ⟨op, _, _, _, _, _⟩ _).mono ?_; rintro e w2 ⟨rfl, hb⟩; rw [HN.out]; have B : Below w.heap.size w w2 := Below.trans (by repeat' (first | with_reducible exact Below.refl _ _ | with_reducible assumption | with_reducible apply below_drewN | with_reducible apply Below.drew | with_reducible refine Below.setCell ?_ ?_ _ | with_reducible refine Below.alloc ?_ ?_ _ | omega | (simp; done) | (simp; omega))) (hb.mono (by first | omega | (simp; done) | (simp; omega))); have Bz := B.size; clear hb))
  go_ret
  exact ⟨rfl, by repeat' (first | with_reducible exact Below.refl _ _ | with_reducible assumption | with_reducible apply below_drewN | with_reducible apply Below.drew | with_reducible refine Below.setCell ?_ ?_ _ | with_reducible refine Below.alloc ?_ ?_ _ | omega | (simp; done) | (simp; omega))⟩

set_option maxHeartbeats 2000000 in
theorem iry1 (op : Int) (d n imm : Int) (ho : opB op = true) (hs : shX op = ⟨true, true, false, true, false⟩) (Rd : regB d = true) (Rn : regB n = true) (hn : numB ⟨op, d, n, 0, imm, 0⟩ = true) (w : World) : Calls Try.prog 6 #[.agg #[.int .i64 op, .int .i64 d, .int .i64 n, .int .i64 0, .int .i64 imm, .int .i64 0]] w (RetB (.int .i64 0) w) := by
  have HO := Lib.hid ho
  have HS := Lib.hid hs
  have HN := Lib.hid hn
  have Hd := Lib.hid Rd
  have Hn := Lib.hid Rn
  clear ho hs hn Rd Rn
  go_enter Try.func6, Try.ntmps6
  go_wp2_with (first | (go_at_call 18; refine (shape_any _ _).mono ?_; rintro e w1 ⟨rfl, hb⟩; rw [HO.out, HS.out]; have B : Below w.heap.size w w1 := Below.trans (by repeat' (first | with_reducible exact Below.refl _ _ | with_reducible assumption | with_reducible apply below_drewN | with_reducible apply Below.drew | with_reducible refine Below.setCell ?_ ?_ _ | with_reducible refine Below.alloc ?_ ?_ _ | omega | (simp; done) | (simp; omega))) (hb.mono (by first | omega | (simp; done) | (simp; omega))); have Bz := B.size; obtain ⟨k1, k2, k3, k4⟩ := keepB hb w.heap.size (by first | omega | (simp; done) | (simp; omega)); clear hb) | (go_at_call 19; refine (reg_any _ _).mono ?_; rintro e w' ⟨rfl, rfl⟩; first | rw [Hd.out] | rw [Hn.out] | rw [show regB 0 = true from rfl]) | (go_at_call 20; refine (number_any ⟨op, _, _, _, _, _⟩ _).mono ?_; rintro e w2 ⟨rfl, hb⟩; rw [HN.out]; have B : Below w.heap.size w w2 := Below.trans (by repeat' (first | with_reducible exact Below.refl _ _ | with_reducible assumption | with_reducible apply below_drewN | with_reducible apply Below.drew | with_reducible refine Below.setCell ?_ ?_ _ | with_reducible refine Below.alloc ?_ ?_ _ | omega | (simp; done) | (simp; omega))) (hb.mono (by first | omega | (simp; done) | (simp; omega))); have Bz := B.size; clear hb))
  go_ret
  exact ⟨rfl, by repeat' (first | with_reducible exact Below.refl _ _ | with_reducible assumption | with_reducible apply below_drewN | with_reducible apply Below.drew | with_reducible refine Below.setCell ?_ ?_ _ | with_reducible refine Below.alloc ?_ ?_ _ | omega | (simp; done) | (simp; omega))⟩

theorem irn1_m (op d n m imm kind : Int) (ho : opB op = true) (hs : shX op = ⟨true, true, false, true, false⟩) (hz : (m != 0) = true) (w : World) : Calls Try.prog 6 #[.agg #[.int .i64 op, .int .i64 d, .int .i64 n, .int .i64 m, .int .i64 imm, .int .i64 kind]] w (RetB (.int .i64 30) w) := by
  have HO := Lib.hid ho
  have HS := Lib.hid hs
  clear ho hs
  go_enter Try.func6, Try.ntmps6
  go_wp2_with ((go_at_call 18; refine (shape_any _ _).mono ?_; rintro e w1 ⟨rfl, hb⟩; rw [HO.out, HS.out]; have B : Below w.heap.size w w1 := Below.trans (by repeat' (first | with_reducible exact Below.refl _ _ | with_reducible assumption | with_reducible apply below_drewN | with_reducible apply Below.drew | with_reducible refine Below.setCell ?_ ?_ _ | with_reducible refine Below.alloc ?_ ?_ _ | omega | (simp; done) | (simp; omega))) (hb.mono (by first | omega | (simp; done) | (simp; omega))); have Bz := B.size; obtain ⟨k1, k2, k3, k4⟩ := keepB hb w.heap.size (by first | omega | (simp; done) | (simp; omega)); clear hb))
  go_ret
  exact ⟨rfl, by repeat' (first | with_reducible exact Below.refl _ _ | with_reducible assumption | with_reducible apply below_drewN | with_reducible apply Below.drew | with_reducible refine Below.setCell ?_ ?_ _ | with_reducible refine Below.alloc ?_ ?_ _ | omega | (simp; done) | (simp; omega))⟩

theorem irn1_kind (op d n imm kind : Int) (ho : opB op = true) (hs : shX op = ⟨true, true, false, true, false⟩) (hz : (kind != 0) = true) (w : World) : Calls Try.prog 6 #[.agg #[.int .i64 op, .int .i64 d, .int .i64 n, .int .i64 0, .int .i64 imm, .int .i64 kind]] w (RetB (.int .i64 30) w) := by
  have HO := Lib.hid ho
  have HS := Lib.hid hs
  clear ho hs
  go_enter Try.func6, Try.ntmps6
  go_wp2_with ((go_at_call 18; refine (shape_any _ _).mono ?_; rintro e w1 ⟨rfl, hb⟩; rw [HO.out, HS.out]; have B : Below w.heap.size w w1 := Below.trans (by repeat' (first | with_reducible exact Below.refl _ _ | with_reducible assumption | with_reducible apply below_drewN | with_reducible apply Below.drew | with_reducible refine Below.setCell ?_ ?_ _ | with_reducible refine Below.alloc ?_ ?_ _ | omega | (simp; done) | (simp; omega))) (hb.mono (by first | omega | (simp; done) | (simp; omega))); have Bz := B.size; obtain ⟨k1, k2, k3, k4⟩ := keepB hb w.heap.size (by first | omega | (simp; done) | (simp; omega)); clear hb))
  go_ret
  exact ⟨rfl, by repeat' (first | with_reducible exact Below.refl _ _ | with_reducible assumption | with_reducible apply below_drewN | with_reducible apply Below.drew | with_reducible refine Below.setCell ?_ ?_ _ | with_reducible refine Below.alloc ?_ ?_ _ | omega | (simp; done) | (simp; omega))⟩

theorem irn1_rd (op : Int) (d n imm : Int) (ho : opB op = true) (hs : shX op = ⟨true, true, false, true, false⟩)  (Rd : regB d = false) (w : World) : Calls Try.prog 6 #[.agg #[.int .i64 op, .int .i64 d, .int .i64 n, .int .i64 0, .int .i64 imm, .int .i64 0]] w (RetB (.int .i64 30) w) := by
  have HO := Lib.hid ho
  have HS := Lib.hid hs
  have Hd := Lib.hid Rd
  clear ho hs Rd
  go_enter Try.func6, Try.ntmps6
  go_wp2_with (first | (go_at_call 18; refine (shape_any _ _).mono ?_; rintro e w1 ⟨rfl, hb⟩; rw [HO.out, HS.out]; have B : Below w.heap.size w w1 := Below.trans (by repeat' (first | with_reducible exact Below.refl _ _ | with_reducible assumption | with_reducible apply below_drewN | with_reducible apply Below.drew | with_reducible refine Below.setCell ?_ ?_ _ | with_reducible refine Below.alloc ?_ ?_ _ | omega | (simp; done) | (simp; omega))) (hb.mono (by first | omega | (simp; done) | (simp; omega))); have Bz := B.size; obtain ⟨k1, k2, k3, k4⟩ := keepB hb w.heap.size (by first | omega | (simp; done) | (simp; omega)); clear hb) | (go_at_call 19; refine (reg_any _ _).mono ?_; rintro e w' ⟨rfl, rfl⟩; first | rw [Hd.out] | rw [show regB 0 = true from rfl]))
  go_ret
  exact ⟨rfl, by repeat' (first | with_reducible exact Below.refl _ _ | with_reducible assumption | with_reducible apply below_drewN | with_reducible apply Below.drew | with_reducible refine Below.setCell ?_ ?_ _ | with_reducible refine Below.alloc ?_ ?_ _ | omega | (simp; done) | (simp; omega))⟩

theorem irn1_rn (op : Int) (d n imm : Int) (ho : opB op = true) (hs : shX op = ⟨true, true, false, true, false⟩) (Rd : regB d = true) (Rn : regB n = false) (w : World) : Calls Try.prog 6 #[.agg #[.int .i64 op, .int .i64 d, .int .i64 n, .int .i64 0, .int .i64 imm, .int .i64 0]] w (RetB (.int .i64 30) w) := by
  have HO := Lib.hid ho
  have HS := Lib.hid hs
  have Hd := Lib.hid Rd
  have Hn := Lib.hid Rn
  clear ho hs Rd Rn
  go_enter Try.func6, Try.ntmps6
  go_wp2_with (first | (go_at_call 18; refine (shape_any _ _).mono ?_; rintro e w1 ⟨rfl, hb⟩; rw [HO.out, HS.out]; have B : Below w.heap.size w w1 := Below.trans (by repeat' (first | with_reducible exact Below.refl _ _ | with_reducible assumption | with_reducible apply below_drewN | with_reducible apply Below.drew | with_reducible refine Below.setCell ?_ ?_ _ | with_reducible refine Below.alloc ?_ ?_ _ | omega | (simp; done) | (simp; omega))) (hb.mono (by first | omega | (simp; done) | (simp; omega))); have Bz := B.size; obtain ⟨k1, k2, k3, k4⟩ := keepB hb w.heap.size (by first | omega | (simp; done) | (simp; omega)); clear hb) | (go_at_call 19; refine (reg_any _ _).mono ?_; rintro e w' ⟨rfl, rfl⟩; first | rw [Hd.out] | rw [Hn.out] | rw [show regB 0 = true from rfl]))
  go_ret
  exact ⟨rfl, by repeat' (first | with_reducible exact Below.refl _ _ | with_reducible assumption | with_reducible apply below_drewN | with_reducible apply Below.drew | with_reducible refine Below.setCell ?_ ?_ _ | with_reducible refine Below.alloc ?_ ?_ _ | omega | (simp; done) | (simp; omega))⟩

theorem irn1_rnum (op : Int) (d n imm : Int) (ho : opB op = true) (hs : shX op = ⟨true, true, false, true, false⟩) (Rd : regB d = true) (Rn : regB n = true) (hn : numB ⟨op, d, n, 0, imm, 0⟩ = false) (w : World) : Calls Try.prog 6 #[.agg #[.int .i64 op, .int .i64 d, .int .i64 n, .int .i64 0, .int .i64 imm, .int .i64 0]] w (RetB (.int .i64 30) w) := by
  have HO := Lib.hid ho
  have HS := Lib.hid hs
  have Hd := Lib.hid Rd
  have Hn := Lib.hid Rn
  have HN := Lib.hid hn
  clear ho hs Rd Rn hn
  go_enter Try.func6, Try.ntmps6
  go_wp2_with (first | (go_at_call 18; refine (shape_any _ _).mono ?_; rintro e w1 ⟨rfl, hb⟩; rw [HO.out, HS.out]; have B : Below w.heap.size w w1 := Below.trans (by repeat' (first | with_reducible exact Below.refl _ _ | with_reducible assumption | with_reducible apply below_drewN | with_reducible apply Below.drew | with_reducible refine Below.setCell ?_ ?_ _ | with_reducible refine Below.alloc ?_ ?_ _ | omega | (simp; done) | (simp; omega))) (hb.mono (by first | omega | (simp; done) | (simp; omega))); have Bz := B.size; obtain ⟨k1, k2, k3, k4⟩ := keepB hb w.heap.size (by first | omega | (simp; done) | (simp; omega)); clear hb) | (go_at_call 19; refine (reg_any _ _).mono ?_; rintro e w' ⟨rfl, rfl⟩; first | rw [Hd.out] | rw [Hn.out] | rw [show regB 0 = true from rfl]) | (go_at_call 20; refine (number_any ⟨op, _, _, _, _, _⟩ _).mono ?_; rintro e w2 ⟨rfl, hb⟩; rw [HN.out]; have B : Below w.heap.size w w2 := Below.trans (by repeat' (first | with_reducible exact Below.refl _ _ | with_reducible assumption | with_reducible apply below_drewN | with_reducible apply Below.drew | with_reducible refine Below.setCell ?_ ?_ _ | with_reducible refine Below.alloc ?_ ?_ _ | omega | (simp; done) | (simp; omega))) (hb.mono (by first | omega | (simp; done) | (simp; omega))); have Bz := B.size; clear hb))
  go_ret
  exact ⟨rfl, by repeat' (first | with_reducible exact Below.refl _ _ | with_reducible assumption | with_reducible apply below_drewN | with_reducible apply Below.drew | with_reducible refine Below.setCell ?_ ?_ _ | with_reducible refine Below.alloc ?_ ?_ _ | omega | (simp; done) | (simp; omega))⟩

set_option maxHeartbeats 2000000 in
theorem iry2 (op : Int) (d n : Int) (ho : opB op = true) (hs : shX op = ⟨true, true, false, false, false⟩) (Rd : regB d = true) (Rn : regB n = true) (hn : numB ⟨op, d, n, 0, 0, 0⟩ = true) (w : World) : Calls Try.prog 6 #[.agg #[.int .i64 op, .int .i64 d, .int .i64 n, .int .i64 0, .int .i64 0, .int .i64 0]] w (RetB (.int .i64 0) w) := by
  have HO := Lib.hid ho
  have HS := Lib.hid hs
  have HN := Lib.hid hn
  have Hd := Lib.hid Rd
  have Hn := Lib.hid Rn
  clear ho hs hn Rd Rn
  go_enter Try.func6, Try.ntmps6
  go_wp2_with (first | (go_at_call 18; refine (shape_any _ _).mono ?_; rintro e w1 ⟨rfl, hb⟩; rw [HO.out, HS.out]; have B : Below w.heap.size w w1 := Below.trans (by repeat' (first | with_reducible exact Below.refl _ _ | with_reducible assumption | with_reducible apply below_drewN | with_reducible apply Below.drew | with_reducible refine Below.setCell ?_ ?_ _ | with_reducible refine Below.alloc ?_ ?_ _ | omega | (simp; done) | (simp; omega))) (hb.mono (by first | omega | (simp; done) | (simp; omega))); have Bz := B.size; obtain ⟨k1, k2, k3, k4⟩ := keepB hb w.heap.size (by first | omega | (simp; done) | (simp; omega)); clear hb) | (go_at_call 19; refine (reg_any _ _).mono ?_; rintro e w' ⟨rfl, rfl⟩; first | rw [Hd.out] | rw [Hn.out] | rw [show regB 0 = true from rfl]) | (go_at_call 20; refine (number_any ⟨op, _, _, _, _, _⟩ _).mono ?_; rintro e w2 ⟨rfl, hb⟩; rw [HN.out]; have B : Below w.heap.size w w2 := Below.trans (by repeat' (first | with_reducible exact Below.refl _ _ | with_reducible assumption | with_reducible apply below_drewN | with_reducible apply Below.drew | with_reducible refine Below.setCell ?_ ?_ _ | with_reducible refine Below.alloc ?_ ?_ _ | omega | (simp; done) | (simp; omega))) (hb.mono (by first | omega | (simp; done) | (simp; omega))); have Bz := B.size; clear hb))
  go_ret
  exact ⟨rfl, by repeat' (first | with_reducible exact Below.refl _ _ | with_reducible assumption | with_reducible apply below_drewN | with_reducible apply Below.drew | with_reducible refine Below.setCell ?_ ?_ _ | with_reducible refine Below.alloc ?_ ?_ _ | omega | (simp; done) | (simp; omega))⟩

theorem irn2_m (op d n m imm kind : Int) (ho : opB op = true) (hs : shX op = ⟨true, true, false, false, false⟩) (hz : (m != 0) = true) (w : World) : Calls Try.prog 6 #[.agg #[.int .i64 op, .int .i64 d, .int .i64 n, .int .i64 m, .int .i64 imm, .int .i64 kind]] w (RetB (.int .i64 30) w) := by
  have HO := Lib.hid ho
  have HS := Lib.hid hs
  clear ho hs
  go_enter Try.func6, Try.ntmps6
  go_wp2_with ((go_at_call 18; refine (shape_any _ _).mono ?_; rintro e w1 ⟨rfl, hb⟩; rw [HO.out, HS.out]; have B : Below w.heap.size w w1 := Below.trans (by repeat' (first | with_reducible exact Below.refl _ _ | with_reducible assumption | with_reducible apply below_drewN | with_reducible apply Below.drew | with_reducible refine Below.setCell ?_ ?_ _ | with_reducible refine Below.alloc ?_ ?_ _ | omega | (simp; done) | (simp; omega))) (hb.mono (by first | omega | (simp; done) | (simp; omega))); have Bz := B.size; obtain ⟨k1, k2, k3, k4⟩ := keepB hb w.heap.size (by first | omega | (simp; done) | (simp; omega)); clear hb))
  go_ret
  exact ⟨rfl, by repeat' (first | with_reducible exact Below.refl _ _ | with_reducible assumption | with_reducible apply below_drewN | with_reducible apply Below.drew | with_reducible refine Below.setCell ?_ ?_ _ | with_reducible refine Below.alloc ?_ ?_ _ | omega | (simp; done) | (simp; omega))⟩

theorem irn2_imm (op d n imm kind : Int) (ho : opB op = true) (hs : shX op = ⟨true, true, false, false, false⟩) (hz : (imm != 0) = true) (w : World) : Calls Try.prog 6 #[.agg #[.int .i64 op, .int .i64 d, .int .i64 n, .int .i64 0, .int .i64 imm, .int .i64 kind]] w (RetB (.int .i64 30) w) := by
  have HO := Lib.hid ho
  have HS := Lib.hid hs
  clear ho hs
  go_enter Try.func6, Try.ntmps6
  go_wp2_with ((go_at_call 18; refine (shape_any _ _).mono ?_; rintro e w1 ⟨rfl, hb⟩; rw [HO.out, HS.out]; have B : Below w.heap.size w w1 := Below.trans (by repeat' (first | with_reducible exact Below.refl _ _ | with_reducible assumption | with_reducible apply below_drewN | with_reducible apply Below.drew | with_reducible refine Below.setCell ?_ ?_ _ | with_reducible refine Below.alloc ?_ ?_ _ | omega | (simp; done) | (simp; omega))) (hb.mono (by first | omega | (simp; done) | (simp; omega))); have Bz := B.size; obtain ⟨k1, k2, k3, k4⟩ := keepB hb w.heap.size (by first | omega | (simp; done) | (simp; omega)); clear hb))
  go_ret
  exact ⟨rfl, by repeat' (first | with_reducible exact Below.refl _ _ | with_reducible assumption | with_reducible apply below_drewN | with_reducible apply Below.drew | with_reducible refine Below.setCell ?_ ?_ _ | with_reducible refine Below.alloc ?_ ?_ _ | omega | (simp; done) | (simp; omega))⟩

theorem irn2_kind (op d n kind : Int) (ho : opB op = true) (hs : shX op = ⟨true, true, false, false, false⟩) (hz : (kind != 0) = true) (w : World) : Calls Try.prog 6 #[.agg #[.int .i64 op, .int .i64 d, .int .i64 n, .int .i64 0, .int .i64 0, .int .i64 kind]] w (RetB (.int .i64 30) w) := by
  have HO := Lib.hid ho
  have HS := Lib.hid hs
  clear ho hs
  go_enter Try.func6, Try.ntmps6
  go_wp2_with ((go_at_call 18; refine (shape_any _ _).mono ?_; rintro e w1 ⟨rfl, hb⟩; rw [HO.out, HS.out]; have B : Below w.heap.size w w1 := Below.trans (by repeat' (first | with_reducible exact Below.refl _ _ | with_reducible assumption | with_reducible apply below_drewN | with_reducible apply Below.drew | with_reducible refine Below.setCell ?_ ?_ _ | with_reducible refine Below.alloc ?_ ?_ _ | omega | (simp; done) | (simp; omega))) (hb.mono (by first | omega | (simp; done) | (simp; omega))); have Bz := B.size; obtain ⟨k1, k2, k3, k4⟩ := keepB hb w.heap.size (by first | omega | (simp; done) | (simp; omega)); clear hb))
  go_ret
  exact ⟨rfl, by repeat' (first | with_reducible exact Below.refl _ _ | with_reducible assumption | with_reducible apply below_drewN | with_reducible apply Below.drew | with_reducible refine Below.setCell ?_ ?_ _ | with_reducible refine Below.alloc ?_ ?_ _ | omega | (simp; done) | (simp; omega))⟩

theorem irn2_rd (op : Int) (d n : Int) (ho : opB op = true) (hs : shX op = ⟨true, true, false, false, false⟩)  (Rd : regB d = false) (w : World) : Calls Try.prog 6 #[.agg #[.int .i64 op, .int .i64 d, .int .i64 n, .int .i64 0, .int .i64 0, .int .i64 0]] w (RetB (.int .i64 30) w) := by
  have HO := Lib.hid ho
  have HS := Lib.hid hs
  have Hd := Lib.hid Rd
  clear ho hs Rd
  go_enter Try.func6, Try.ntmps6
  go_wp2_with (first | (go_at_call 18; refine (shape_any _ _).mono ?_; rintro e w1 ⟨rfl, hb⟩; rw [HO.out, HS.out]; have B : Below w.heap.size w w1 := Below.trans (by repeat' (first | with_reducible exact Below.refl _ _ | with_reducible assumption | with_reducible apply below_drewN | with_reducible apply Below.drew | with_reducible refine Below.setCell ?_ ?_ _ | with_reducible refine Below.alloc ?_ ?_ _ | omega | (simp; done) | (simp; omega))) (hb.mono (by first | omega | (simp; done) | (simp; omega))); have Bz := B.size; obtain ⟨k1, k2, k3, k4⟩ := keepB hb w.heap.size (by first | omega | (simp; done) | (simp; omega)); clear hb) | (go_at_call 19; refine (reg_any _ _).mono ?_; rintro e w' ⟨rfl, rfl⟩; first | rw [Hd.out] | rw [show regB 0 = true from rfl]))
  go_ret
  exact ⟨rfl, by repeat' (first | with_reducible exact Below.refl _ _ | with_reducible assumption | with_reducible apply below_drewN | with_reducible apply Below.drew | with_reducible refine Below.setCell ?_ ?_ _ | with_reducible refine Below.alloc ?_ ?_ _ | omega | (simp; done) | (simp; omega))⟩

theorem irn2_rn (op : Int) (d n : Int) (ho : opB op = true) (hs : shX op = ⟨true, true, false, false, false⟩) (Rd : regB d = true) (Rn : regB n = false) (w : World) : Calls Try.prog 6 #[.agg #[.int .i64 op, .int .i64 d, .int .i64 n, .int .i64 0, .int .i64 0, .int .i64 0]] w (RetB (.int .i64 30) w) := by
  have HO := Lib.hid ho
  have HS := Lib.hid hs
  have Hd := Lib.hid Rd
  have Hn := Lib.hid Rn
  clear ho hs Rd Rn
  go_enter Try.func6, Try.ntmps6
  go_wp2_with (first | (go_at_call 18; refine (shape_any _ _).mono ?_; rintro e w1 ⟨rfl, hb⟩; rw [HO.out, HS.out]; have B : Below w.heap.size w w1 := Below.trans (by repeat' (first | with_reducible exact Below.refl _ _ | with_reducible assumption | with_reducible apply below_drewN | with_reducible apply Below.drew | with_reducible refine Below.setCell ?_ ?_ _ | with_reducible refine Below.alloc ?_ ?_ _ | omega | (simp; done) | (simp; omega))) (hb.mono (by first | omega | (simp; done) | (simp; omega))); have Bz := B.size; obtain ⟨k1, k2, k3, k4⟩ := keepB hb w.heap.size (by first | omega | (simp; done) | (simp; omega)); clear hb) | (go_at_call 19; refine (reg_any _ _).mono ?_; rintro e w' ⟨rfl, rfl⟩; first | rw [Hd.out] | rw [Hn.out] | rw [show regB 0 = true from rfl]))
  go_ret
  exact ⟨rfl, by repeat' (first | with_reducible exact Below.refl _ _ | with_reducible assumption | with_reducible apply below_drewN | with_reducible apply Below.drew | with_reducible refine Below.setCell ?_ ?_ _ | with_reducible refine Below.alloc ?_ ?_ _ | omega | (simp; done) | (simp; omega))⟩

theorem irn2_rnum (op : Int) (d n : Int) (ho : opB op = true) (hs : shX op = ⟨true, true, false, false, false⟩) (Rd : regB d = true) (Rn : regB n = true) (hn : numB ⟨op, d, n, 0, 0, 0⟩ = false) (w : World) : Calls Try.prog 6 #[.agg #[.int .i64 op, .int .i64 d, .int .i64 n, .int .i64 0, .int .i64 0, .int .i64 0]] w (RetB (.int .i64 30) w) := by
  have HO := Lib.hid ho
  have HS := Lib.hid hs
  have Hd := Lib.hid Rd
  have Hn := Lib.hid Rn
  have HN := Lib.hid hn
  clear ho hs Rd Rn hn
  go_enter Try.func6, Try.ntmps6
  go_wp2_with (first | (go_at_call 18; refine (shape_any _ _).mono ?_; rintro e w1 ⟨rfl, hb⟩; rw [HO.out, HS.out]; have B : Below w.heap.size w w1 := Below.trans (by repeat' (first | with_reducible exact Below.refl _ _ | with_reducible assumption | with_reducible apply below_drewN | with_reducible apply Below.drew | with_reducible refine Below.setCell ?_ ?_ _ | with_reducible refine Below.alloc ?_ ?_ _ | omega | (simp; done) | (simp; omega))) (hb.mono (by first | omega | (simp; done) | (simp; omega))); have Bz := B.size; obtain ⟨k1, k2, k3, k4⟩ := keepB hb w.heap.size (by first | omega | (simp; done) | (simp; omega)); clear hb) | (go_at_call 19; refine (reg_any _ _).mono ?_; rintro e w' ⟨rfl, rfl⟩; first | rw [Hd.out] | rw [Hn.out] | rw [show regB 0 = true from rfl]) | (go_at_call 20; refine (number_any ⟨op, _, _, _, _, _⟩ _).mono ?_; rintro e w2 ⟨rfl, hb⟩; rw [HN.out]; have B : Below w.heap.size w w2 := Below.trans (by repeat' (first | with_reducible exact Below.refl _ _ | with_reducible assumption | with_reducible apply below_drewN | with_reducible apply Below.drew | with_reducible refine Below.setCell ?_ ?_ _ | with_reducible refine Below.alloc ?_ ?_ _ | omega | (simp; done) | (simp; omega))) (hb.mono (by first | omega | (simp; done) | (simp; omega))); have Bz := B.size; clear hb))
  go_ret
  exact ⟨rfl, by repeat' (first | with_reducible exact Below.refl _ _ | with_reducible assumption | with_reducible apply below_drewN | with_reducible apply Below.drew | with_reducible refine Below.setCell ?_ ?_ _ | with_reducible refine Below.alloc ?_ ?_ _ | omega | (simp; done) | (simp; omega))⟩

set_option maxHeartbeats 2000000 in
theorem iry3 (op : Int) (d imm kind : Int) (ho : opB op = true) (hs : shX op = ⟨true, false, false, true, true⟩) (Rd : regB d = true) (hn : numB ⟨op, d, 0, 0, imm, kind⟩ = true) (w : World) : Calls Try.prog 6 #[.agg #[.int .i64 op, .int .i64 d, .int .i64 0, .int .i64 0, .int .i64 imm, .int .i64 kind]] w (RetB (.int .i64 0) w) := by
  have HO := Lib.hid ho
  have HS := Lib.hid hs
  have HN := Lib.hid hn
  have Hd := Lib.hid Rd
  clear ho hs hn Rd
  go_enter Try.func6, Try.ntmps6
  go_wp2_with (first | (go_at_call 18; refine (shape_any _ _).mono ?_; rintro e w1 ⟨rfl, hb⟩; rw [HO.out, HS.out]; have B : Below w.heap.size w w1 := Below.trans (by repeat' (first | with_reducible exact Below.refl _ _ | with_reducible assumption | with_reducible apply below_drewN | with_reducible apply Below.drew | with_reducible refine Below.setCell ?_ ?_ _ | with_reducible refine Below.alloc ?_ ?_ _ | omega | (simp; done) | (simp; omega))) (hb.mono (by first | omega | (simp; done) | (simp; omega))); have Bz := B.size; obtain ⟨k1, k2, k3, k4⟩ := keepB hb w.heap.size (by first | omega | (simp; done) | (simp; omega)); clear hb) | (go_at_call 19; refine (reg_any _ _).mono ?_; rintro e w' ⟨rfl, rfl⟩; first | rw [Hd.out] | rw [show regB 0 = true from rfl]) | (go_at_call 20; refine (number_any ⟨op, _, _, _, _, _⟩ _).mono ?_; rintro e w2 ⟨rfl, hb⟩; rw [HN.out]; have B : Below w.heap.size w w2 := Below.trans (by repeat' (first | with_reducible exact Below.refl _ _ | with_reducible assumption | with_reducible apply below_drewN | with_reducible apply Below.drew | with_reducible refine Below.setCell ?_ ?_ _ | with_reducible refine Below.alloc ?_ ?_ _ | omega | (simp; done) | (simp; omega))) (hb.mono (by first | omega | (simp; done) | (simp; omega))); have Bz := B.size; clear hb))
  go_ret
  exact ⟨rfl, by repeat' (first | with_reducible exact Below.refl _ _ | with_reducible assumption | with_reducible apply below_drewN | with_reducible apply Below.drew | with_reducible refine Below.setCell ?_ ?_ _ | with_reducible refine Below.alloc ?_ ?_ _ | omega | (simp; done) | (simp; omega))⟩

theorem irn3_n (op d n m imm kind : Int) (ho : opB op = true) (hs : shX op = ⟨true, false, false, true, true⟩) (hz : (n != 0) = true) (w : World) : Calls Try.prog 6 #[.agg #[.int .i64 op, .int .i64 d, .int .i64 n, .int .i64 m, .int .i64 imm, .int .i64 kind]] w (RetB (.int .i64 30) w) := by
  have HO := Lib.hid ho
  have HS := Lib.hid hs
  clear ho hs
  go_enter Try.func6, Try.ntmps6
  go_wp2_with ((go_at_call 18; refine (shape_any _ _).mono ?_; rintro e w1 ⟨rfl, hb⟩; rw [HO.out, HS.out]; have B : Below w.heap.size w w1 := Below.trans (by repeat' (first | with_reducible exact Below.refl _ _ | with_reducible assumption | with_reducible apply below_drewN | with_reducible apply Below.drew | with_reducible refine Below.setCell ?_ ?_ _ | with_reducible refine Below.alloc ?_ ?_ _ | omega | (simp; done) | (simp; omega))) (hb.mono (by first | omega | (simp; done) | (simp; omega))); have Bz := B.size; obtain ⟨k1, k2, k3, k4⟩ := keepB hb w.heap.size (by first | omega | (simp; done) | (simp; omega)); clear hb))
  go_ret
  exact ⟨rfl, by repeat' (first | with_reducible exact Below.refl _ _ | with_reducible assumption | with_reducible apply below_drewN | with_reducible apply Below.drew | with_reducible refine Below.setCell ?_ ?_ _ | with_reducible refine Below.alloc ?_ ?_ _ | omega | (simp; done) | (simp; omega))⟩

theorem irn3_m (op d m imm kind : Int) (ho : opB op = true) (hs : shX op = ⟨true, false, false, true, true⟩) (hz : (m != 0) = true) (w : World) : Calls Try.prog 6 #[.agg #[.int .i64 op, .int .i64 d, .int .i64 0, .int .i64 m, .int .i64 imm, .int .i64 kind]] w (RetB (.int .i64 30) w) := by
  have HO := Lib.hid ho
  have HS := Lib.hid hs
  clear ho hs
  go_enter Try.func6, Try.ntmps6
  go_wp2_with ((go_at_call 18; refine (shape_any _ _).mono ?_; rintro e w1 ⟨rfl, hb⟩; rw [HO.out, HS.out]; have B : Below w.heap.size w w1 := Below.trans (by repeat' (first | with_reducible exact Below.refl _ _ | with_reducible assumption | with_reducible apply below_drewN | with_reducible apply Below.drew | with_reducible refine Below.setCell ?_ ?_ _ | with_reducible refine Below.alloc ?_ ?_ _ | omega | (simp; done) | (simp; omega))) (hb.mono (by first | omega | (simp; done) | (simp; omega))); have Bz := B.size; obtain ⟨k1, k2, k3, k4⟩ := keepB hb w.heap.size (by first | omega | (simp; done) | (simp; omega)); clear hb))
  go_ret
  exact ⟨rfl, by repeat' (first | with_reducible exact Below.refl _ _ | with_reducible assumption | with_reducible apply below_drewN | with_reducible apply Below.drew | with_reducible refine Below.setCell ?_ ?_ _ | with_reducible refine Below.alloc ?_ ?_ _ | omega | (simp; done) | (simp; omega))⟩

theorem irn3_rd (op : Int) (d imm kind : Int) (ho : opB op = true) (hs : shX op = ⟨true, false, false, true, true⟩)  (Rd : regB d = false) (w : World) : Calls Try.prog 6 #[.agg #[.int .i64 op, .int .i64 d, .int .i64 0, .int .i64 0, .int .i64 imm, .int .i64 kind]] w (RetB (.int .i64 30) w) := by
  have HO := Lib.hid ho
  have HS := Lib.hid hs
  have Hd := Lib.hid Rd
  clear ho hs Rd
  go_enter Try.func6, Try.ntmps6
  go_wp2_with (first | (go_at_call 18; refine (shape_any _ _).mono ?_; rintro e w1 ⟨rfl, hb⟩; rw [HO.out, HS.out]; have B : Below w.heap.size w w1 := Below.trans (by repeat' (first | with_reducible exact Below.refl _ _ | with_reducible assumption | with_reducible apply below_drewN | with_reducible apply Below.drew | with_reducible refine Below.setCell ?_ ?_ _ | with_reducible refine Below.alloc ?_ ?_ _ | omega | (simp; done) | (simp; omega))) (hb.mono (by first | omega | (simp; done) | (simp; omega))); have Bz := B.size; obtain ⟨k1, k2, k3, k4⟩ := keepB hb w.heap.size (by first | omega | (simp; done) | (simp; omega)); clear hb) | (go_at_call 19; refine (reg_any _ _).mono ?_; rintro e w' ⟨rfl, rfl⟩; first | rw [Hd.out] | rw [show regB 0 = true from rfl]))
  go_ret
  exact ⟨rfl, by repeat' (first | with_reducible exact Below.refl _ _ | with_reducible assumption | with_reducible apply below_drewN | with_reducible apply Below.drew | with_reducible refine Below.setCell ?_ ?_ _ | with_reducible refine Below.alloc ?_ ?_ _ | omega | (simp; done) | (simp; omega))⟩

theorem irn3_rnum (op : Int) (d imm kind : Int) (ho : opB op = true) (hs : shX op = ⟨true, false, false, true, true⟩) (Rd : regB d = true) (hn : numB ⟨op, d, 0, 0, imm, kind⟩ = false) (w : World) : Calls Try.prog 6 #[.agg #[.int .i64 op, .int .i64 d, .int .i64 0, .int .i64 0, .int .i64 imm, .int .i64 kind]] w (RetB (.int .i64 30) w) := by
  have HO := Lib.hid ho
  have HS := Lib.hid hs
  have Hd := Lib.hid Rd
  have HN := Lib.hid hn
  clear ho hs Rd hn
  go_enter Try.func6, Try.ntmps6
  go_wp2_with (first | (go_at_call 18; refine (shape_any _ _).mono ?_; rintro e w1 ⟨rfl, hb⟩; rw [HO.out, HS.out]; have B : Below w.heap.size w w1 := Below.trans (by repeat' (first | with_reducible exact Below.refl _ _ | with_reducible assumption | with_reducible apply below_drewN | with_reducible apply Below.drew | with_reducible refine Below.setCell ?_ ?_ _ | with_reducible refine Below.alloc ?_ ?_ _ | omega | (simp; done) | (simp; omega))) (hb.mono (by first | omega | (simp; done) | (simp; omega))); have Bz := B.size; obtain ⟨k1, k2, k3, k4⟩ := keepB hb w.heap.size (by first | omega | (simp; done) | (simp; omega)); clear hb) | (go_at_call 19; refine (reg_any _ _).mono ?_; rintro e w' ⟨rfl, rfl⟩; first | rw [Hd.out] | rw [show regB 0 = true from rfl]) | (go_at_call 20; refine (number_any ⟨op, _, _, _, _, _⟩ _).mono ?_; rintro e w2 ⟨rfl, hb⟩; rw [HN.out]; have B : Below w.heap.size w w2 := Below.trans (by repeat' (first | with_reducible exact Below.refl _ _ | with_reducible assumption | with_reducible apply below_drewN | with_reducible apply Below.drew | with_reducible refine Below.setCell ?_ ?_ _ | with_reducible refine Below.alloc ?_ ?_ _ | omega | (simp; done) | (simp; omega))) (hb.mono (by first | omega | (simp; done) | (simp; omega))); have Bz := B.size; clear hb))
  go_ret
  exact ⟨rfl, by repeat' (first | with_reducible exact Below.refl _ _ | with_reducible assumption | with_reducible apply below_drewN | with_reducible apply Below.drew | with_reducible refine Below.setCell ?_ ?_ _ | with_reducible refine Below.alloc ?_ ?_ _ | omega | (simp; done) | (simp; omega))⟩

set_option maxHeartbeats 2000000 in
theorem iry4 (op : Int) (d n m : Int) (ho : opB op = true) (hs : shX op = ⟨true, true, true, false, false⟩) (Rd : regB d = true) (Rn : regB n = true) (Rm : regB m = true) (hn : numB ⟨op, d, n, m, 0, 0⟩ = true) (w : World) : Calls Try.prog 6 #[.agg #[.int .i64 op, .int .i64 d, .int .i64 n, .int .i64 m, .int .i64 0, .int .i64 0]] w (RetB (.int .i64 0) w) := by
  have HO := Lib.hid ho
  have HS := Lib.hid hs
  have HN := Lib.hid hn
  have Hd := Lib.hid Rd
  have Hn := Lib.hid Rn
  have Hm := Lib.hid Rm
  clear ho hs hn Rd Rn Rm
  go_enter Try.func6, Try.ntmps6
  go_wp2_with (first | (go_at_call 18; refine (shape_any _ _).mono ?_; rintro e w1 ⟨rfl, hb⟩; rw [HO.out, HS.out]; have B : Below w.heap.size w w1 := Below.trans (by repeat' (first | with_reducible exact Below.refl _ _ | with_reducible assumption | with_reducible apply below_drewN | with_reducible apply Below.drew | with_reducible refine Below.setCell ?_ ?_ _ | with_reducible refine Below.alloc ?_ ?_ _ | omega | (simp; done) | (simp; omega))) (hb.mono (by first | omega | (simp; done) | (simp; omega))); have Bz := B.size; obtain ⟨k1, k2, k3, k4⟩ := keepB hb w.heap.size (by first | omega | (simp; done) | (simp; omega)); clear hb) | (go_at_call 19; refine (reg_any _ _).mono ?_; rintro e w' ⟨rfl, rfl⟩; first | rw [Hd.out] | rw [Hn.out] | rw [Hm.out] | rw [show regB 0 = true from rfl]) | (go_at_call 20; refine (number_any ⟨op, _, _, _, _, _⟩ _).mono ?_; rintro e w2 ⟨rfl, hb⟩; rw [HN.out]; have B : Below w.heap.size w w2 := Below.trans (by repeat' (first | with_reducible exact Below.refl _ _ | with_reducible assumption | with_reducible apply below_drewN | with_reducible apply Below.drew | with_reducible refine Below.setCell ?_ ?_ _ | with_reducible refine Below.alloc ?_ ?_ _ | omega | (simp; done) | (simp; omega))) (hb.mono (by first | omega | (simp; done) | (simp; omega))); have Bz := B.size; clear hb))
  go_ret
  exact ⟨rfl, by repeat' (first | with_reducible exact Below.refl _ _ | with_reducible assumption | with_reducible apply below_drewN | with_reducible apply Below.drew | with_reducible refine Below.setCell ?_ ?_ _ | with_reducible refine Below.alloc ?_ ?_ _ | omega | (simp; done) | (simp; omega))⟩

theorem irn4_imm (op d n m imm kind : Int) (ho : opB op = true) (hs : shX op = ⟨true, true, true, false, false⟩) (hz : (imm != 0) = true) (w : World) : Calls Try.prog 6 #[.agg #[.int .i64 op, .int .i64 d, .int .i64 n, .int .i64 m, .int .i64 imm, .int .i64 kind]] w (RetB (.int .i64 30) w) := by
  have HO := Lib.hid ho
  have HS := Lib.hid hs
  clear ho hs
  go_enter Try.func6, Try.ntmps6
  go_wp2_with ((go_at_call 18; refine (shape_any _ _).mono ?_; rintro e w1 ⟨rfl, hb⟩; rw [HO.out, HS.out]; have B : Below w.heap.size w w1 := Below.trans (by repeat' (first | with_reducible exact Below.refl _ _ | with_reducible assumption | with_reducible apply below_drewN | with_reducible apply Below.drew | with_reducible refine Below.setCell ?_ ?_ _ | with_reducible refine Below.alloc ?_ ?_ _ | omega | (simp; done) | (simp; omega))) (hb.mono (by first | omega | (simp; done) | (simp; omega))); have Bz := B.size; obtain ⟨k1, k2, k3, k4⟩ := keepB hb w.heap.size (by first | omega | (simp; done) | (simp; omega)); clear hb))
  go_ret
  exact ⟨rfl, by repeat' (first | with_reducible exact Below.refl _ _ | with_reducible assumption | with_reducible apply below_drewN | with_reducible apply Below.drew | with_reducible refine Below.setCell ?_ ?_ _ | with_reducible refine Below.alloc ?_ ?_ _ | omega | (simp; done) | (simp; omega))⟩

theorem irn4_kind (op d n m kind : Int) (ho : opB op = true) (hs : shX op = ⟨true, true, true, false, false⟩) (hz : (kind != 0) = true) (w : World) : Calls Try.prog 6 #[.agg #[.int .i64 op, .int .i64 d, .int .i64 n, .int .i64 m, .int .i64 0, .int .i64 kind]] w (RetB (.int .i64 30) w) := by
  have HO := Lib.hid ho
  have HS := Lib.hid hs
  clear ho hs
  go_enter Try.func6, Try.ntmps6
  go_wp2_with ((go_at_call 18; refine (shape_any _ _).mono ?_; rintro e w1 ⟨rfl, hb⟩; rw [HO.out, HS.out]; have B : Below w.heap.size w w1 := Below.trans (by repeat' (first | with_reducible exact Below.refl _ _ | with_reducible assumption | with_reducible apply below_drewN | with_reducible apply Below.drew | with_reducible refine Below.setCell ?_ ?_ _ | with_reducible refine Below.alloc ?_ ?_ _ | omega | (simp; done) | (simp; omega))) (hb.mono (by first | omega | (simp; done) | (simp; omega))); have Bz := B.size; obtain ⟨k1, k2, k3, k4⟩ := keepB hb w.heap.size (by first | omega | (simp; done) | (simp; omega)); clear hb))
  go_ret
  exact ⟨rfl, by repeat' (first | with_reducible exact Below.refl _ _ | with_reducible assumption | with_reducible apply below_drewN | with_reducible apply Below.drew | with_reducible refine Below.setCell ?_ ?_ _ | with_reducible refine Below.alloc ?_ ?_ _ | omega | (simp; done) | (simp; omega))⟩

theorem irn4_rd (op : Int) (d n m : Int) (ho : opB op = true) (hs : shX op = ⟨true, true, true, false, false⟩)  (Rd : regB d = false) (w : World) : Calls Try.prog 6 #[.agg #[.int .i64 op, .int .i64 d, .int .i64 n, .int .i64 m, .int .i64 0, .int .i64 0]] w (RetB (.int .i64 30) w) := by
  have HO := Lib.hid ho
  have HS := Lib.hid hs
  have Hd := Lib.hid Rd
  clear ho hs Rd
  go_enter Try.func6, Try.ntmps6
  go_wp2_with (first | (go_at_call 18; refine (shape_any _ _).mono ?_; rintro e w1 ⟨rfl, hb⟩; rw [HO.out, HS.out]; have B : Below w.heap.size w w1 := Below.trans (by repeat' (first | with_reducible exact Below.refl _ _ | with_reducible assumption | with_reducible apply below_drewN | with_reducible apply Below.drew | with_reducible refine Below.setCell ?_ ?_ _ | with_reducible refine Below.alloc ?_ ?_ _ | omega | (simp; done) | (simp; omega))) (hb.mono (by first | omega | (simp; done) | (simp; omega))); have Bz := B.size; obtain ⟨k1, k2, k3, k4⟩ := keepB hb w.heap.size (by first | omega | (simp; done) | (simp; omega)); clear hb) | (go_at_call 19; refine (reg_any _ _).mono ?_; rintro e w' ⟨rfl, rfl⟩; first | rw [Hd.out] | rw [show regB 0 = true from rfl]))
  go_ret
  exact ⟨rfl, by repeat' (first | with_reducible exact Below.refl _ _ | with_reducible assumption | with_reducible apply below_drewN | with_reducible apply Below.drew | with_reducible refine Below.setCell ?_ ?_ _ | with_reducible refine Below.alloc ?_ ?_ _ | omega | (simp; done) | (simp; omega))⟩

theorem irn4_rn (op : Int) (d n m : Int) (ho : opB op = true) (hs : shX op = ⟨true, true, true, false, false⟩) (Rd : regB d = true) (Rn : regB n = false) (w : World) : Calls Try.prog 6 #[.agg #[.int .i64 op, .int .i64 d, .int .i64 n, .int .i64 m, .int .i64 0, .int .i64 0]] w (RetB (.int .i64 30) w) := by
  have HO := Lib.hid ho
  have HS := Lib.hid hs
  have Hd := Lib.hid Rd
  have Hn := Lib.hid Rn
  clear ho hs Rd Rn
  go_enter Try.func6, Try.ntmps6
  go_wp2_with (first | (go_at_call 18; refine (shape_any _ _).mono ?_; rintro e w1 ⟨rfl, hb⟩; rw [HO.out, HS.out]; have B : Below w.heap.size w w1 := Below.trans (by repeat' (first | with_reducible exact Below.refl _ _ | with_reducible assumption | with_reducible apply below_drewN | with_reducible apply Below.drew | with_reducible refine Below.setCell ?_ ?_ _ | with_reducible refine Below.alloc ?_ ?_ _ | omega | (simp; done) | (simp; omega))) (hb.mono (by first | omega | (simp; done) | (simp; omega))); have Bz := B.size; obtain ⟨k1, k2, k3, k4⟩ := keepB hb w.heap.size (by first | omega | (simp; done) | (simp; omega)); clear hb) | (go_at_call 19; refine (reg_any _ _).mono ?_; rintro e w' ⟨rfl, rfl⟩; first | rw [Hd.out] | rw [Hn.out] | rw [show regB 0 = true from rfl]))
  go_ret
  exact ⟨rfl, by repeat' (first | with_reducible exact Below.refl _ _ | with_reducible assumption | with_reducible apply below_drewN | with_reducible apply Below.drew | with_reducible refine Below.setCell ?_ ?_ _ | with_reducible refine Below.alloc ?_ ?_ _ | omega | (simp; done) | (simp; omega))⟩

theorem irn4_rm (op : Int) (d n m : Int) (ho : opB op = true) (hs : shX op = ⟨true, true, true, false, false⟩) (Rd : regB d = true) (Rn : regB n = true) (Rm : regB m = false) (w : World) : Calls Try.prog 6 #[.agg #[.int .i64 op, .int .i64 d, .int .i64 n, .int .i64 m, .int .i64 0, .int .i64 0]] w (RetB (.int .i64 30) w) := by
  have HO := Lib.hid ho
  have HS := Lib.hid hs
  have Hd := Lib.hid Rd
  have Hn := Lib.hid Rn
  have Hm := Lib.hid Rm
  clear ho hs Rd Rn Rm
  go_enter Try.func6, Try.ntmps6
  go_wp2_with (first | (go_at_call 18; refine (shape_any _ _).mono ?_; rintro e w1 ⟨rfl, hb⟩; rw [HO.out, HS.out]; have B : Below w.heap.size w w1 := Below.trans (by repeat' (first | with_reducible exact Below.refl _ _ | with_reducible assumption | with_reducible apply below_drewN | with_reducible apply Below.drew | with_reducible refine Below.setCell ?_ ?_ _ | with_reducible refine Below.alloc ?_ ?_ _ | omega | (simp; done) | (simp; omega))) (hb.mono (by first | omega | (simp; done) | (simp; omega))); have Bz := B.size; obtain ⟨k1, k2, k3, k4⟩ := keepB hb w.heap.size (by first | omega | (simp; done) | (simp; omega)); clear hb) | (go_at_call 19; refine (reg_any _ _).mono ?_; rintro e w' ⟨rfl, rfl⟩; first | rw [Hd.out] | rw [Hn.out] | rw [Hm.out] | rw [show regB 0 = true from rfl]))
  go_ret
  exact ⟨rfl, by repeat' (first | with_reducible exact Below.refl _ _ | with_reducible assumption | with_reducible apply below_drewN | with_reducible apply Below.drew | with_reducible refine Below.setCell ?_ ?_ _ | with_reducible refine Below.alloc ?_ ?_ _ | omega | (simp; done) | (simp; omega))⟩

theorem irn4_rnum (op : Int) (d n m : Int) (ho : opB op = true) (hs : shX op = ⟨true, true, true, false, false⟩) (Rd : regB d = true) (Rn : regB n = true) (Rm : regB m = true) (hn : numB ⟨op, d, n, m, 0, 0⟩ = false) (w : World) : Calls Try.prog 6 #[.agg #[.int .i64 op, .int .i64 d, .int .i64 n, .int .i64 m, .int .i64 0, .int .i64 0]] w (RetB (.int .i64 30) w) := by
  have HO := Lib.hid ho
  have HS := Lib.hid hs
  have Hd := Lib.hid Rd
  have Hn := Lib.hid Rn
  have Hm := Lib.hid Rm
  have HN := Lib.hid hn
  clear ho hs Rd Rn Rm hn
  go_enter Try.func6, Try.ntmps6
  go_wp2_with (first | (go_at_call 18; refine (shape_any _ _).mono ?_; rintro e w1 ⟨rfl, hb⟩; rw [HO.out, HS.out]; have B : Below w.heap.size w w1 := Below.trans (by repeat' (first | with_reducible exact Below.refl _ _ | with_reducible assumption | with_reducible apply below_drewN | with_reducible apply Below.drew | with_reducible refine Below.setCell ?_ ?_ _ | with_reducible refine Below.alloc ?_ ?_ _ | omega | (simp; done) | (simp; omega))) (hb.mono (by first | omega | (simp; done) | (simp; omega))); have Bz := B.size; obtain ⟨k1, k2, k3, k4⟩ := keepB hb w.heap.size (by first | omega | (simp; done) | (simp; omega)); clear hb) | (go_at_call 19; refine (reg_any _ _).mono ?_; rintro e w' ⟨rfl, rfl⟩; first | rw [Hd.out] | rw [Hn.out] | rw [Hm.out] | rw [show regB 0 = true from rfl]) | (go_at_call 20; refine (number_any ⟨op, _, _, _, _, _⟩ _).mono ?_; rintro e w2 ⟨rfl, hb⟩; rw [HN.out]; have B : Below w.heap.size w w2 := Below.trans (by repeat' (first | with_reducible exact Below.refl _ _ | with_reducible assumption | with_reducible apply below_drewN | with_reducible apply Below.drew | with_reducible refine Below.setCell ?_ ?_ _ | with_reducible refine Below.alloc ?_ ?_ _ | omega | (simp; done) | (simp; omega))) (hb.mono (by first | omega | (simp; done) | (simp; omega))); have Bz := B.size; clear hb))
  go_ret
  exact ⟨rfl, by repeat' (first | with_reducible exact Below.refl _ _ | with_reducible assumption | with_reducible apply below_drewN | with_reducible apply Below.drew | with_reducible refine Below.setCell ?_ ?_ _ | with_reducible refine Below.alloc ?_ ?_ _ | omega | (simp; done) | (simp; omega))⟩

set_option maxHeartbeats 2000000 in
theorem iry5 (op : Int) (imm : Int) (ho : opB op = true) (hs : shX op = ⟨false, false, false, true, false⟩)  (hn : numB ⟨op, 0, 0, 0, imm, 0⟩ = true) (w : World) : Calls Try.prog 6 #[.agg #[.int .i64 op, .int .i64 0, .int .i64 0, .int .i64 0, .int .i64 imm, .int .i64 0]] w (RetB (.int .i64 0) w) := by
  have HO := Lib.hid ho
  have HS := Lib.hid hs
  have HN := Lib.hid hn
  clear ho hs hn 
  go_enter Try.func6, Try.ntmps6
  go_wp2_with (first | (go_at_call 18; refine (shape_any _ _).mono ?_; rintro e w1 ⟨rfl, hb⟩; rw [HO.out, HS.out]; have B : Below w.heap.size w w1 := Below.trans (by repeat' (first | with_reducible exact Below.refl _ _ | with_reducible assumption | with_reducible apply below_drewN | with_reducible apply Below.drew | with_reducible refine Below.setCell ?_ ?_ _ | with_reducible refine Below.alloc ?_ ?_ _ | omega | (simp; done) | (simp; omega))) (hb.mono (by first | omega | (simp; done) | (simp; omega))); have Bz := B.size; obtain ⟨k1, k2, k3, k4⟩ := keepB hb w.heap.size (by first | omega | (simp; done) | (simp; omega)); clear hb) | (go_at_call 19; refine (reg_any _ _).mono ?_; rintro e w' ⟨rfl, rfl⟩; first | rw [show regB 0 = true from rfl]) | (go_at_call 20; refine (number_any ⟨op, _, _, _, _, _⟩ _).mono ?_; rintro e w2 ⟨rfl, hb⟩; rw [HN.out]; have B : Below w.heap.size w w2 := Below.trans (by repeat' (first | with_reducible exact Below.refl _ _ | with_reducible assumption | with_reducible apply below_drewN | with_reducible apply Below.drew | with_reducible refine Below.setCell ?_ ?_ _ | with_reducible refine Below.alloc ?_ ?_ _ | omega | (simp; done) | (simp; omega))) (hb.mono (by first | omega | (simp; done) | (simp; omega))); have Bz := B.size; clear hb))
  go_ret
  exact ⟨rfl, by repeat' (first | with_reducible exact Below.refl _ _ | with_reducible assumption | with_reducible apply below_drewN | with_reducible apply Below.drew | with_reducible refine Below.setCell ?_ ?_ _ | with_reducible refine Below.alloc ?_ ?_ _ | omega | (simp; done) | (simp; omega))⟩

theorem irn5_d (op d n m imm kind : Int) (ho : opB op = true) (hs : shX op = ⟨false, false, false, true, false⟩) (hz : (d != 0) = true) (w : World) : Calls Try.prog 6 #[.agg #[.int .i64 op, .int .i64 d, .int .i64 n, .int .i64 m, .int .i64 imm, .int .i64 kind]] w (RetB (.int .i64 30) w) := by
  have HO := Lib.hid ho
  have HS := Lib.hid hs
  clear ho hs
  go_enter Try.func6, Try.ntmps6
  go_wp2_with ((go_at_call 18; refine (shape_any _ _).mono ?_; rintro e w1 ⟨rfl, hb⟩; rw [HO.out, HS.out]; have B : Below w.heap.size w w1 := Below.trans (by repeat' (first | with_reducible exact Below.refl _ _ | with_reducible assumption | with_reducible apply below_drewN | with_reducible apply Below.drew | with_reducible refine Below.setCell ?_ ?_ _ | with_reducible refine Below.alloc ?_ ?_ _ | omega | (simp; done) | (simp; omega))) (hb.mono (by first | omega | (simp; done) | (simp; omega))); have Bz := B.size; obtain ⟨k1, k2, k3, k4⟩ := keepB hb w.heap.size (by first | omega | (simp; done) | (simp; omega)); clear hb))
  go_ret
  exact ⟨rfl, by repeat' (first | with_reducible exact Below.refl _ _ | with_reducible assumption | with_reducible apply below_drewN | with_reducible apply Below.drew | with_reducible refine Below.setCell ?_ ?_ _ | with_reducible refine Below.alloc ?_ ?_ _ | omega | (simp; done) | (simp; omega))⟩

theorem irn5_n (op n m imm kind : Int) (ho : opB op = true) (hs : shX op = ⟨false, false, false, true, false⟩) (hz : (n != 0) = true) (w : World) : Calls Try.prog 6 #[.agg #[.int .i64 op, .int .i64 0, .int .i64 n, .int .i64 m, .int .i64 imm, .int .i64 kind]] w (RetB (.int .i64 30) w) := by
  have HO := Lib.hid ho
  have HS := Lib.hid hs
  clear ho hs
  go_enter Try.func6, Try.ntmps6
  go_wp2_with ((go_at_call 18; refine (shape_any _ _).mono ?_; rintro e w1 ⟨rfl, hb⟩; rw [HO.out, HS.out]; have B : Below w.heap.size w w1 := Below.trans (by repeat' (first | with_reducible exact Below.refl _ _ | with_reducible assumption | with_reducible apply below_drewN | with_reducible apply Below.drew | with_reducible refine Below.setCell ?_ ?_ _ | with_reducible refine Below.alloc ?_ ?_ _ | omega | (simp; done) | (simp; omega))) (hb.mono (by first | omega | (simp; done) | (simp; omega))); have Bz := B.size; obtain ⟨k1, k2, k3, k4⟩ := keepB hb w.heap.size (by first | omega | (simp; done) | (simp; omega)); clear hb))
  go_ret
  exact ⟨rfl, by repeat' (first | with_reducible exact Below.refl _ _ | with_reducible assumption | with_reducible apply below_drewN | with_reducible apply Below.drew | with_reducible refine Below.setCell ?_ ?_ _ | with_reducible refine Below.alloc ?_ ?_ _ | omega | (simp; done) | (simp; omega))⟩

theorem irn5_m (op m imm kind : Int) (ho : opB op = true) (hs : shX op = ⟨false, false, false, true, false⟩) (hz : (m != 0) = true) (w : World) : Calls Try.prog 6 #[.agg #[.int .i64 op, .int .i64 0, .int .i64 0, .int .i64 m, .int .i64 imm, .int .i64 kind]] w (RetB (.int .i64 30) w) := by
  have HO := Lib.hid ho
  have HS := Lib.hid hs
  clear ho hs
  go_enter Try.func6, Try.ntmps6
  go_wp2_with ((go_at_call 18; refine (shape_any _ _).mono ?_; rintro e w1 ⟨rfl, hb⟩; rw [HO.out, HS.out]; have B : Below w.heap.size w w1 := Below.trans (by repeat' (first | with_reducible exact Below.refl _ _ | with_reducible assumption | with_reducible apply below_drewN | with_reducible apply Below.drew | with_reducible refine Below.setCell ?_ ?_ _ | with_reducible refine Below.alloc ?_ ?_ _ | omega | (simp; done) | (simp; omega))) (hb.mono (by first | omega | (simp; done) | (simp; omega))); have Bz := B.size; obtain ⟨k1, k2, k3, k4⟩ := keepB hb w.heap.size (by first | omega | (simp; done) | (simp; omega)); clear hb))
  go_ret
  exact ⟨rfl, by repeat' (first | with_reducible exact Below.refl _ _ | with_reducible assumption | with_reducible apply below_drewN | with_reducible apply Below.drew | with_reducible refine Below.setCell ?_ ?_ _ | with_reducible refine Below.alloc ?_ ?_ _ | omega | (simp; done) | (simp; omega))⟩

theorem irn5_kind (op imm kind : Int) (ho : opB op = true) (hs : shX op = ⟨false, false, false, true, false⟩) (hz : (kind != 0) = true) (w : World) : Calls Try.prog 6 #[.agg #[.int .i64 op, .int .i64 0, .int .i64 0, .int .i64 0, .int .i64 imm, .int .i64 kind]] w (RetB (.int .i64 30) w) := by
  have HO := Lib.hid ho
  have HS := Lib.hid hs
  clear ho hs
  go_enter Try.func6, Try.ntmps6
  go_wp2_with ((go_at_call 18; refine (shape_any _ _).mono ?_; rintro e w1 ⟨rfl, hb⟩; rw [HO.out, HS.out]; have B : Below w.heap.size w w1 := Below.trans (by repeat' (first | with_reducible exact Below.refl _ _ | with_reducible assumption | with_reducible apply below_drewN | with_reducible apply Below.drew | with_reducible refine Below.setCell ?_ ?_ _ | with_reducible refine Below.alloc ?_ ?_ _ | omega | (simp; done) | (simp; omega))) (hb.mono (by first | omega | (simp; done) | (simp; omega))); have Bz := B.size; obtain ⟨k1, k2, k3, k4⟩ := keepB hb w.heap.size (by first | omega | (simp; done) | (simp; omega)); clear hb))
  go_ret
  exact ⟨rfl, by repeat' (first | with_reducible exact Below.refl _ _ | with_reducible assumption | with_reducible apply below_drewN | with_reducible apply Below.drew | with_reducible refine Below.setCell ?_ ?_ _ | with_reducible refine Below.alloc ?_ ?_ _ | omega | (simp; done) | (simp; omega))⟩

theorem irn5_rnum (op : Int) (imm : Int) (ho : opB op = true) (hs : shX op = ⟨false, false, false, true, false⟩)  (hn : numB ⟨op, 0, 0, 0, imm, 0⟩ = false) (w : World) : Calls Try.prog 6 #[.agg #[.int .i64 op, .int .i64 0, .int .i64 0, .int .i64 0, .int .i64 imm, .int .i64 0]] w (RetB (.int .i64 30) w) := by
  have HO := Lib.hid ho
  have HS := Lib.hid hs
  have HN := Lib.hid hn
  clear ho hs  hn
  go_enter Try.func6, Try.ntmps6
  go_wp2_with (first | (go_at_call 18; refine (shape_any _ _).mono ?_; rintro e w1 ⟨rfl, hb⟩; rw [HO.out, HS.out]; have B : Below w.heap.size w w1 := Below.trans (by repeat' (first | with_reducible exact Below.refl _ _ | with_reducible assumption | with_reducible apply below_drewN | with_reducible apply Below.drew | with_reducible refine Below.setCell ?_ ?_ _ | with_reducible refine Below.alloc ?_ ?_ _ | omega | (simp; done) | (simp; omega))) (hb.mono (by first | omega | (simp; done) | (simp; omega))); have Bz := B.size; obtain ⟨k1, k2, k3, k4⟩ := keepB hb w.heap.size (by first | omega | (simp; done) | (simp; omega)); clear hb) | (go_at_call 19; refine (reg_any _ _).mono ?_; rintro e w' ⟨rfl, rfl⟩; first | rw [show regB 0 = true from rfl]) | (go_at_call 20; refine (number_any ⟨op, _, _, _, _, _⟩ _).mono ?_; rintro e w2 ⟨rfl, hb⟩; rw [HN.out]; have B : Below w.heap.size w w2 := Below.trans (by repeat' (first | with_reducible exact Below.refl _ _ | with_reducible assumption | with_reducible apply below_drewN | with_reducible apply Below.drew | with_reducible refine Below.setCell ?_ ?_ _ | with_reducible refine Below.alloc ?_ ?_ _ | omega | (simp; done) | (simp; omega))) (hb.mono (by first | omega | (simp; done) | (simp; omega))); have Bz := B.size; clear hb))
  go_ret
  exact ⟨rfl, by repeat' (first | with_reducible exact Below.refl _ _ | with_reducible assumption | with_reducible apply below_drewN | with_reducible apply Below.drew | with_reducible refine Below.setCell ?_ ?_ _ | with_reducible refine Below.alloc ?_ ?_ _ | omega | (simp; done) | (simp; omega))⟩

set_option maxHeartbeats 2000000 in
theorem iry6 (op : Int) (d imm : Int) (ho : opB op = true) (hs : shX op = ⟨true, false, false, true, false⟩) (Rd : regB d = true) (hn : numB ⟨op, d, 0, 0, imm, 0⟩ = true) (w : World) : Calls Try.prog 6 #[.agg #[.int .i64 op, .int .i64 d, .int .i64 0, .int .i64 0, .int .i64 imm, .int .i64 0]] w (RetB (.int .i64 0) w) := by
  have HO := Lib.hid ho
  have HS := Lib.hid hs
  have HN := Lib.hid hn
  have Hd := Lib.hid Rd
  clear ho hs hn Rd
  go_enter Try.func6, Try.ntmps6
  go_wp2_with (first | (go_at_call 18; refine (shape_any _ _).mono ?_; rintro e w1 ⟨rfl, hb⟩; rw [HO.out, HS.out]; have B : Below w.heap.size w w1 := Below.trans (by repeat' (first | with_reducible exact Below.refl _ _ | with_reducible assumption | with_reducible apply below_drewN | with_reducible apply Below.drew | with_reducible refine Below.setCell ?_ ?_ _ | with_reducible refine Below.alloc ?_ ?_ _ | omega | (simp; done) | (simp; omega))) (hb.mono (by first | omega | (simp; done) | (simp; omega))); have Bz := B.size; obtain ⟨k1, k2, k3, k4⟩ := keepB hb w.heap.size (by first | omega | (simp; done) | (simp; omega)); clear hb) | (go_at_call 19; refine (reg_any _ _).mono ?_; rintro e w' ⟨rfl, rfl⟩; first | rw [Hd.out] | rw [show regB 0 = true from rfl]) | (go_at_call 20; refine (number_any ⟨op, _, _, _, _, _⟩ _).mono ?_; rintro e w2 ⟨rfl, hb⟩; rw [HN.out]; have B : Below w.heap.size w w2 := Below.trans (by repeat' (first | with_reducible exact Below.refl _ _ | with_reducible assumption | with_reducible apply below_drewN | with_reducible apply Below.drew | with_reducible refine Below.setCell ?_ ?_ _ | with_reducible refine Below.alloc ?_ ?_ _ | omega | (simp; done) | (simp; omega))) (hb.mono (by first | omega | (simp; done) | (simp; omega))); have Bz := B.size; clear hb))
  go_ret
  exact ⟨rfl, by repeat' (first | with_reducible exact Below.refl _ _ | with_reducible assumption | with_reducible apply below_drewN | with_reducible apply Below.drew | with_reducible refine Below.setCell ?_ ?_ _ | with_reducible refine Below.alloc ?_ ?_ _ | omega | (simp; done) | (simp; omega))⟩

theorem irn6_n (op d n m imm kind : Int) (ho : opB op = true) (hs : shX op = ⟨true, false, false, true, false⟩) (hz : (n != 0) = true) (w : World) : Calls Try.prog 6 #[.agg #[.int .i64 op, .int .i64 d, .int .i64 n, .int .i64 m, .int .i64 imm, .int .i64 kind]] w (RetB (.int .i64 30) w) := by
  have HO := Lib.hid ho
  have HS := Lib.hid hs
  clear ho hs
  go_enter Try.func6, Try.ntmps6
  go_wp2_with ((go_at_call 18; refine (shape_any _ _).mono ?_; rintro e w1 ⟨rfl, hb⟩; rw [HO.out, HS.out]; have B : Below w.heap.size w w1 := Below.trans (by repeat' (first | with_reducible exact Below.refl _ _ | with_reducible assumption | with_reducible apply below_drewN | with_reducible apply Below.drew | with_reducible refine Below.setCell ?_ ?_ _ | with_reducible refine Below.alloc ?_ ?_ _ | omega | (simp; done) | (simp; omega))) (hb.mono (by first | omega | (simp; done) | (simp; omega))); have Bz := B.size; obtain ⟨k1, k2, k3, k4⟩ := keepB hb w.heap.size (by first | omega | (simp; done) | (simp; omega)); clear hb))
  go_ret
  exact ⟨rfl, by repeat' (first | with_reducible exact Below.refl _ _ | with_reducible assumption | with_reducible apply below_drewN | with_reducible apply Below.drew | with_reducible refine Below.setCell ?_ ?_ _ | with_reducible refine Below.alloc ?_ ?_ _ | omega | (simp; done) | (simp; omega))⟩

theorem irn6_m (op d m imm kind : Int) (ho : opB op = true) (hs : shX op = ⟨true, false, false, true, false⟩) (hz : (m != 0) = true) (w : World) : Calls Try.prog 6 #[.agg #[.int .i64 op, .int .i64 d, .int .i64 0, .int .i64 m, .int .i64 imm, .int .i64 kind]] w (RetB (.int .i64 30) w) := by
  have HO := Lib.hid ho
  have HS := Lib.hid hs
  clear ho hs
  go_enter Try.func6, Try.ntmps6
  go_wp2_with ((go_at_call 18; refine (shape_any _ _).mono ?_; rintro e w1 ⟨rfl, hb⟩; rw [HO.out, HS.out]; have B : Below w.heap.size w w1 := Below.trans (by repeat' (first | with_reducible exact Below.refl _ _ | with_reducible assumption | with_reducible apply below_drewN | with_reducible apply Below.drew | with_reducible refine Below.setCell ?_ ?_ _ | with_reducible refine Below.alloc ?_ ?_ _ | omega | (simp; done) | (simp; omega))) (hb.mono (by first | omega | (simp; done) | (simp; omega))); have Bz := B.size; obtain ⟨k1, k2, k3, k4⟩ := keepB hb w.heap.size (by first | omega | (simp; done) | (simp; omega)); clear hb))
  go_ret
  exact ⟨rfl, by repeat' (first | with_reducible exact Below.refl _ _ | with_reducible assumption | with_reducible apply below_drewN | with_reducible apply Below.drew | with_reducible refine Below.setCell ?_ ?_ _ | with_reducible refine Below.alloc ?_ ?_ _ | omega | (simp; done) | (simp; omega))⟩

theorem irn6_kind (op d imm kind : Int) (ho : opB op = true) (hs : shX op = ⟨true, false, false, true, false⟩) (hz : (kind != 0) = true) (w : World) : Calls Try.prog 6 #[.agg #[.int .i64 op, .int .i64 d, .int .i64 0, .int .i64 0, .int .i64 imm, .int .i64 kind]] w (RetB (.int .i64 30) w) := by
  have HO := Lib.hid ho
  have HS := Lib.hid hs
  clear ho hs
  go_enter Try.func6, Try.ntmps6
  go_wp2_with ((go_at_call 18; refine (shape_any _ _).mono ?_; rintro e w1 ⟨rfl, hb⟩; rw [HO.out, HS.out]; have B : Below w.heap.size w w1 := Below.trans (by repeat' (first | with_reducible exact Below.refl _ _ | with_reducible assumption | with_reducible apply below_drewN | with_reducible apply Below.drew | with_reducible refine Below.setCell ?_ ?_ _ | with_reducible refine Below.alloc ?_ ?_ _ | omega | (simp; done) | (simp; omega))) (hb.mono (by first | omega | (simp; done) | (simp; omega))); have Bz := B.size; obtain ⟨k1, k2, k3, k4⟩ := keepB hb w.heap.size (by first | omega | (simp; done) | (simp; omega)); clear hb))
  go_ret
  exact ⟨rfl, by repeat' (first | with_reducible exact Below.refl _ _ | with_reducible assumption | with_reducible apply below_drewN | with_reducible apply Below.drew | with_reducible refine Below.setCell ?_ ?_ _ | with_reducible refine Below.alloc ?_ ?_ _ | omega | (simp; done) | (simp; omega))⟩

theorem irn6_rd (op : Int) (d imm : Int) (ho : opB op = true) (hs : shX op = ⟨true, false, false, true, false⟩)  (Rd : regB d = false) (w : World) : Calls Try.prog 6 #[.agg #[.int .i64 op, .int .i64 d, .int .i64 0, .int .i64 0, .int .i64 imm, .int .i64 0]] w (RetB (.int .i64 30) w) := by
  have HO := Lib.hid ho
  have HS := Lib.hid hs
  have Hd := Lib.hid Rd
  clear ho hs Rd
  go_enter Try.func6, Try.ntmps6
  go_wp2_with (first | (go_at_call 18; refine (shape_any _ _).mono ?_; rintro e w1 ⟨rfl, hb⟩; rw [HO.out, HS.out]; have B : Below w.heap.size w w1 := Below.trans (by repeat' (first | with_reducible exact Below.refl _ _ | with_reducible assumption | with_reducible apply below_drewN | with_reducible apply Below.drew | with_reducible refine Below.setCell ?_ ?_ _ | with_reducible refine Below.alloc ?_ ?_ _ | omega | (simp; done) | (simp; omega))) (hb.mono (by first | omega | (simp; done) | (simp; omega))); have Bz := B.size; obtain ⟨k1, k2, k3, k4⟩ := keepB hb w.heap.size (by first | omega | (simp; done) | (simp; omega)); clear hb) | (go_at_call 19; refine (reg_any _ _).mono ?_; rintro e w' ⟨rfl, rfl⟩; first | rw [Hd.out] | rw [show regB 0 = true from rfl]))
  go_ret
  exact ⟨rfl, by repeat' (first | with_reducible exact Below.refl _ _ | with_reducible assumption | with_reducible apply below_drewN | with_reducible apply Below.drew | with_reducible refine Below.setCell ?_ ?_ _ | with_reducible refine Below.alloc ?_ ?_ _ | omega | (simp; done) | (simp; omega))⟩

theorem irn6_rnum (op : Int) (d imm : Int) (ho : opB op = true) (hs : shX op = ⟨true, false, false, true, false⟩) (Rd : regB d = true) (hn : numB ⟨op, d, 0, 0, imm, 0⟩ = false) (w : World) : Calls Try.prog 6 #[.agg #[.int .i64 op, .int .i64 d, .int .i64 0, .int .i64 0, .int .i64 imm, .int .i64 0]] w (RetB (.int .i64 30) w) := by
  have HO := Lib.hid ho
  have HS := Lib.hid hs
  have Hd := Lib.hid Rd
  have HN := Lib.hid hn
  clear ho hs Rd hn
  go_enter Try.func6, Try.ntmps6
  go_wp2_with (first | (go_at_call 18; refine (shape_any _ _).mono ?_; rintro e w1 ⟨rfl, hb⟩; rw [HO.out, HS.out]; have B : Below w.heap.size w w1 := Below.trans (by repeat' (first | with_reducible exact Below.refl _ _ | with_reducible assumption | with_reducible apply below_drewN | with_reducible apply Below.drew | with_reducible refine Below.setCell ?_ ?_ _ | with_reducible refine Below.alloc ?_ ?_ _ | omega | (simp; done) | (simp; omega))) (hb.mono (by first | omega | (simp; done) | (simp; omega))); have Bz := B.size; obtain ⟨k1, k2, k3, k4⟩ := keepB hb w.heap.size (by first | omega | (simp; done) | (simp; omega)); clear hb) | (go_at_call 19; refine (reg_any _ _).mono ?_; rintro e w' ⟨rfl, rfl⟩; first | rw [Hd.out] | rw [show regB 0 = true from rfl]) | (go_at_call 20; refine (number_any ⟨op, _, _, _, _, _⟩ _).mono ?_; rintro e w2 ⟨rfl, hb⟩; rw [HN.out]; have B : Below w.heap.size w w2 := Below.trans (by repeat' (first | with_reducible exact Below.refl _ _ | with_reducible assumption | with_reducible apply below_drewN | with_reducible apply Below.drew | with_reducible refine Below.setCell ?_ ?_ _ | with_reducible refine Below.alloc ?_ ?_ _ | omega | (simp; done) | (simp; omega))) (hb.mono (by first | omega | (simp; done) | (simp; omega))); have Bz := B.size; clear hb))
  go_ret
  exact ⟨rfl, by repeat' (first | with_reducible exact Below.refl _ _ | with_reducible assumption | with_reducible apply below_drewN | with_reducible apply Below.drew | with_reducible refine Below.setCell ?_ ?_ _ | with_reducible refine Below.alloc ?_ ?_ _ | omega | (simp; done) | (simp; omega))⟩

set_option maxHeartbeats 2000000 in
theorem iry7 (op : Int) (imm kind : Int) (ho : opB op = true) (hs : shX op = ⟨false, false, false, true, true⟩)  (hn : numB ⟨op, 0, 0, 0, imm, kind⟩ = true) (w : World) : Calls Try.prog 6 #[.agg #[.int .i64 op, .int .i64 0, .int .i64 0, .int .i64 0, .int .i64 imm, .int .i64 kind]] w (RetB (.int .i64 0) w) := by
  have HO := Lib.hid ho
  have HS := Lib.hid hs
  have HN := Lib.hid hn
  clear ho hs hn 
  go_enter Try.func6, Try.ntmps6
  go_wp2_with (first | (go_at_call 18; refine (shape_any _ _).mono ?_; rintro e w1 ⟨rfl, hb⟩; rw [HO.out, HS.out]; have B : Below w.heap.size w w1 := Below.trans (by repeat' (first | with_reducible exact Below.refl _ _ | with_reducible assumption | with_reducible apply below_drewN | with_reducible apply Below.drew | with_reducible refine Below.setCell ?_ ?_ _ | with_reducible refine Below.alloc ?_ ?_ _ | omega | (simp; done) | (simp; omega))) (hb.mono (by first | omega | (simp; done) | (simp; omega))); have Bz := B.size; obtain ⟨k1, k2, k3, k4⟩ := keepB hb w.heap.size (by first | omega | (simp; done) | (simp; omega)); clear hb) | (go_at_call 19; refine (reg_any _ _).mono ?_; rintro e w' ⟨rfl, rfl⟩; first | rw [show regB 0 = true from rfl]) | (go_at_call 20; refine (number_any ⟨op, _, _, _, _, _⟩ _).mono ?_; rintro e w2 ⟨rfl, hb⟩; rw [HN.out]; have B : Below w.heap.size w w2 := Below.trans (by repeat' (first | with_reducible exact Below.refl _ _ | with_reducible assumption | with_reducible apply below_drewN | with_reducible apply Below.drew | with_reducible refine Below.setCell ?_ ?_ _ | with_reducible refine Below.alloc ?_ ?_ _ | omega | (simp; done) | (simp; omega))) (hb.mono (by first | omega | (simp; done) | (simp; omega))); have Bz := B.size; clear hb))
  go_ret
  exact ⟨rfl, by repeat' (first | with_reducible exact Below.refl _ _ | with_reducible assumption | with_reducible apply below_drewN | with_reducible apply Below.drew | with_reducible refine Below.setCell ?_ ?_ _ | with_reducible refine Below.alloc ?_ ?_ _ | omega | (simp; done) | (simp; omega))⟩

theorem irn7_d (op d n m imm kind : Int) (ho : opB op = true) (hs : shX op = ⟨false, false, false, true, true⟩) (hz : (d != 0) = true) (w : World) : Calls Try.prog 6 #[.agg #[.int .i64 op, .int .i64 d, .int .i64 n, .int .i64 m, .int .i64 imm, .int .i64 kind]] w (RetB (.int .i64 30) w) := by
  have HO := Lib.hid ho
  have HS := Lib.hid hs
  clear ho hs
  go_enter Try.func6, Try.ntmps6
  go_wp2_with ((go_at_call 18; refine (shape_any _ _).mono ?_; rintro e w1 ⟨rfl, hb⟩; rw [HO.out, HS.out]; have B : Below w.heap.size w w1 := Below.trans (by repeat' (first | with_reducible exact Below.refl _ _ | with_reducible assumption | with_reducible apply below_drewN | with_reducible apply Below.drew | with_reducible refine Below.setCell ?_ ?_ _ | with_reducible refine Below.alloc ?_ ?_ _ | omega | (simp; done) | (simp; omega))) (hb.mono (by first | omega | (simp; done) | (simp; omega))); have Bz := B.size; obtain ⟨k1, k2, k3, k4⟩ := keepB hb w.heap.size (by first | omega | (simp; done) | (simp; omega)); clear hb))
  go_ret
  exact ⟨rfl, by repeat' (first | with_reducible exact Below.refl _ _ | with_reducible assumption | with_reducible apply below_drewN | with_reducible apply Below.drew | with_reducible refine Below.setCell ?_ ?_ _ | with_reducible refine Below.alloc ?_ ?_ _ | omega | (simp; done) | (simp; omega))⟩

theorem irn7_n (op n m imm kind : Int) (ho : opB op = true) (hs : shX op = ⟨false, false, false, true, true⟩) (hz : (n != 0) = true) (w : World) : Calls Try.prog 6 #[.agg #[.int .i64 op, .int .i64 0, .int .i64 n, .int .i64 m, .int .i64 imm, .int .i64 kind]] w (RetB (.int .i64 30) w) := by
  have HO := Lib.hid ho
  have HS := Lib.hid hs
  clear ho hs
  go_enter Try.func6, Try.ntmps6
  go_wp2_with ((go_at_call 18; refine (shape_any _ _).mono ?_; rintro e w1 ⟨rfl, hb⟩; rw [HO.out, HS.out]; have B : Below w.heap.size w w1 := Below.trans (by repeat' (first | with_reducible exact Below.refl _ _ | with_reducible assumption | with_reducible apply below_drewN | with_reducible apply Below.drew | with_reducible refine Below.setCell ?_ ?_ _ | with_reducible refine Below.alloc ?_ ?_ _ | omega | (simp; done) | (simp; omega))) (hb.mono (by first | omega | (simp; done) | (simp; omega))); have Bz := B.size; obtain ⟨k1, k2, k3, k4⟩ := keepB hb w.heap.size (by first | omega | (simp; done) | (simp; omega)); clear hb))
  go_ret
  exact ⟨rfl, by repeat' (first | with_reducible exact Below.refl _ _ | with_reducible assumption | with_reducible apply below_drewN | with_reducible apply Below.drew | with_reducible refine Below.setCell ?_ ?_ _ | with_reducible refine Below.alloc ?_ ?_ _ | omega | (simp; done) | (simp; omega))⟩

theorem irn7_m (op m imm kind : Int) (ho : opB op = true) (hs : shX op = ⟨false, false, false, true, true⟩) (hz : (m != 0) = true) (w : World) : Calls Try.prog 6 #[.agg #[.int .i64 op, .int .i64 0, .int .i64 0, .int .i64 m, .int .i64 imm, .int .i64 kind]] w (RetB (.int .i64 30) w) := by
  have HO := Lib.hid ho
  have HS := Lib.hid hs
  clear ho hs
  go_enter Try.func6, Try.ntmps6
  go_wp2_with ((go_at_call 18; refine (shape_any _ _).mono ?_; rintro e w1 ⟨rfl, hb⟩; rw [HO.out, HS.out]; have B : Below w.heap.size w w1 := Below.trans (by repeat' (first | with_reducible exact Below.refl _ _ | with_reducible assumption | with_reducible apply below_drewN | with_reducible apply Below.drew | with_reducible refine Below.setCell ?_ ?_ _ | with_reducible refine Below.alloc ?_ ?_ _ | omega | (simp; done) | (simp; omega))) (hb.mono (by first | omega | (simp; done) | (simp; omega))); have Bz := B.size; obtain ⟨k1, k2, k3, k4⟩ := keepB hb w.heap.size (by first | omega | (simp; done) | (simp; omega)); clear hb))
  go_ret
  exact ⟨rfl, by repeat' (first | with_reducible exact Below.refl _ _ | with_reducible assumption | with_reducible apply below_drewN | with_reducible apply Below.drew | with_reducible refine Below.setCell ?_ ?_ _ | with_reducible refine Below.alloc ?_ ?_ _ | omega | (simp; done) | (simp; omega))⟩

theorem irn7_rnum (op : Int) (imm kind : Int) (ho : opB op = true) (hs : shX op = ⟨false, false, false, true, true⟩)  (hn : numB ⟨op, 0, 0, 0, imm, kind⟩ = false) (w : World) : Calls Try.prog 6 #[.agg #[.int .i64 op, .int .i64 0, .int .i64 0, .int .i64 0, .int .i64 imm, .int .i64 kind]] w (RetB (.int .i64 30) w) := by
  have HO := Lib.hid ho
  have HS := Lib.hid hs
  have HN := Lib.hid hn
  clear ho hs  hn
  go_enter Try.func6, Try.ntmps6
  go_wp2_with (first | (go_at_call 18; refine (shape_any _ _).mono ?_; rintro e w1 ⟨rfl, hb⟩; rw [HO.out, HS.out]; have B : Below w.heap.size w w1 := Below.trans (by repeat' (first | with_reducible exact Below.refl _ _ | with_reducible assumption | with_reducible apply below_drewN | with_reducible apply Below.drew | with_reducible refine Below.setCell ?_ ?_ _ | with_reducible refine Below.alloc ?_ ?_ _ | omega | (simp; done) | (simp; omega))) (hb.mono (by first | omega | (simp; done) | (simp; omega))); have Bz := B.size; obtain ⟨k1, k2, k3, k4⟩ := keepB hb w.heap.size (by first | omega | (simp; done) | (simp; omega)); clear hb) | (go_at_call 19; refine (reg_any _ _).mono ?_; rintro e w' ⟨rfl, rfl⟩; first | rw [show regB 0 = true from rfl]) | (go_at_call 20; refine (number_any ⟨op, _, _, _, _, _⟩ _).mono ?_; rintro e w2 ⟨rfl, hb⟩; rw [HN.out]; have B : Below w.heap.size w w2 := Below.trans (by repeat' (first | with_reducible exact Below.refl _ _ | with_reducible assumption | with_reducible apply below_drewN | with_reducible apply Below.drew | with_reducible refine Below.setCell ?_ ?_ _ | with_reducible refine Below.alloc ?_ ?_ _ | omega | (simp; done) | (simp; omega))) (hb.mono (by first | omega | (simp; done) | (simp; omega))); have Bz := B.size; clear hb))
  go_ret
  exact ⟨rfl, by repeat' (first | with_reducible exact Below.refl _ _ | with_reducible assumption | with_reducible apply below_drewN | with_reducible apply Below.drew | with_reducible refine Below.setCell ?_ ?_ _ | with_reducible refine Below.alloc ?_ ?_ _ | omega | (simp; done) | (simp; omega))⟩

set_option maxHeartbeats 2000000 in
theorem iry8 (op : Int) (kind : Int) (ho : opB op = true) (hs : shX op = ⟨false, false, false, false, true⟩)  (hn : numB ⟨op, 0, 0, 0, 0, kind⟩ = true) (w : World) : Calls Try.prog 6 #[.agg #[.int .i64 op, .int .i64 0, .int .i64 0, .int .i64 0, .int .i64 0, .int .i64 kind]] w (RetB (.int .i64 0) w) := by
  have HO := Lib.hid ho
  have HS := Lib.hid hs
  have HN := Lib.hid hn
  clear ho hs hn 
  go_enter Try.func6, Try.ntmps6
  go_wp2_with (first | (go_at_call 18; refine (shape_any _ _).mono ?_; rintro e w1 ⟨rfl, hb⟩; rw [HO.out, HS.out]; have B : Below w.heap.size w w1 := Below.trans (by repeat' (first | with_reducible exact Below.refl _ _ | with_reducible assumption | with_reducible apply below_drewN | with_reducible apply Below.drew | with_reducible refine Below.setCell ?_ ?_ _ | with_reducible refine Below.alloc ?_ ?_ _ | omega | (simp; done) | (simp; omega))) (hb.mono (by first | omega | (simp; done) | (simp; omega))); have Bz := B.size; obtain ⟨k1, k2, k3, k4⟩ := keepB hb w.heap.size (by first | omega | (simp; done) | (simp; omega)); clear hb) | (go_at_call 19; refine (reg_any _ _).mono ?_; rintro e w' ⟨rfl, rfl⟩; first | rw [show regB 0 = true from rfl]) | (go_at_call 20; refine (number_any ⟨op, _, _, _, _, _⟩ _).mono ?_; rintro e w2 ⟨rfl, hb⟩; rw [HN.out]; have B : Below w.heap.size w w2 := Below.trans (by repeat' (first | with_reducible exact Below.refl _ _ | with_reducible assumption | with_reducible apply below_drewN | with_reducible apply Below.drew | with_reducible refine Below.setCell ?_ ?_ _ | with_reducible refine Below.alloc ?_ ?_ _ | omega | (simp; done) | (simp; omega))) (hb.mono (by first | omega | (simp; done) | (simp; omega))); have Bz := B.size; clear hb))
  go_ret
  exact ⟨rfl, by repeat' (first | with_reducible exact Below.refl _ _ | with_reducible assumption | with_reducible apply below_drewN | with_reducible apply Below.drew | with_reducible refine Below.setCell ?_ ?_ _ | with_reducible refine Below.alloc ?_ ?_ _ | omega | (simp; done) | (simp; omega))⟩

theorem irn8_d (op d n m imm kind : Int) (ho : opB op = true) (hs : shX op = ⟨false, false, false, false, true⟩) (hz : (d != 0) = true) (w : World) : Calls Try.prog 6 #[.agg #[.int .i64 op, .int .i64 d, .int .i64 n, .int .i64 m, .int .i64 imm, .int .i64 kind]] w (RetB (.int .i64 30) w) := by
  have HO := Lib.hid ho
  have HS := Lib.hid hs
  clear ho hs
  go_enter Try.func6, Try.ntmps6
  go_wp2_with ((go_at_call 18; refine (shape_any _ _).mono ?_; rintro e w1 ⟨rfl, hb⟩; rw [HO.out, HS.out]; have B : Below w.heap.size w w1 := Below.trans (by repeat' (first | with_reducible exact Below.refl _ _ | with_reducible assumption | with_reducible apply below_drewN | with_reducible apply Below.drew | with_reducible refine Below.setCell ?_ ?_ _ | with_reducible refine Below.alloc ?_ ?_ _ | omega | (simp; done) | (simp; omega))) (hb.mono (by first | omega | (simp; done) | (simp; omega))); have Bz := B.size; obtain ⟨k1, k2, k3, k4⟩ := keepB hb w.heap.size (by first | omega | (simp; done) | (simp; omega)); clear hb))
  go_ret
  exact ⟨rfl, by repeat' (first | with_reducible exact Below.refl _ _ | with_reducible assumption | with_reducible apply below_drewN | with_reducible apply Below.drew | with_reducible refine Below.setCell ?_ ?_ _ | with_reducible refine Below.alloc ?_ ?_ _ | omega | (simp; done) | (simp; omega))⟩

theorem irn8_n (op n m imm kind : Int) (ho : opB op = true) (hs : shX op = ⟨false, false, false, false, true⟩) (hz : (n != 0) = true) (w : World) : Calls Try.prog 6 #[.agg #[.int .i64 op, .int .i64 0, .int .i64 n, .int .i64 m, .int .i64 imm, .int .i64 kind]] w (RetB (.int .i64 30) w) := by
  have HO := Lib.hid ho
  have HS := Lib.hid hs
  clear ho hs
  go_enter Try.func6, Try.ntmps6
  go_wp2_with ((go_at_call 18; refine (shape_any _ _).mono ?_; rintro e w1 ⟨rfl, hb⟩; rw [HO.out, HS.out]; have B : Below w.heap.size w w1 := Below.trans (by repeat' (first | with_reducible exact Below.refl _ _ | with_reducible assumption | with_reducible apply below_drewN | with_reducible apply Below.drew | with_reducible refine Below.setCell ?_ ?_ _ | with_reducible refine Below.alloc ?_ ?_ _ | omega | (simp; done) | (simp; omega))) (hb.mono (by first | omega | (simp; done) | (simp; omega))); have Bz := B.size; obtain ⟨k1, k2, k3, k4⟩ := keepB hb w.heap.size (by first | omega | (simp; done) | (simp; omega)); clear hb))
  go_ret
  exact ⟨rfl, by repeat' (first | with_reducible exact Below.refl _ _ | with_reducible assumption | with_reducible apply below_drewN | with_reducible apply Below.drew | with_reducible refine Below.setCell ?_ ?_ _ | with_reducible refine Below.alloc ?_ ?_ _ | omega | (simp; done) | (simp; omega))⟩

theorem irn8_m (op m imm kind : Int) (ho : opB op = true) (hs : shX op = ⟨false, false, false, false, true⟩) (hz : (m != 0) = true) (w : World) : Calls Try.prog 6 #[.agg #[.int .i64 op, .int .i64 0, .int .i64 0, .int .i64 m, .int .i64 imm, .int .i64 kind]] w (RetB (.int .i64 30) w) := by
  have HO := Lib.hid ho
  have HS := Lib.hid hs
  clear ho hs
  go_enter Try.func6, Try.ntmps6
  go_wp2_with ((go_at_call 18; refine (shape_any _ _).mono ?_; rintro e w1 ⟨rfl, hb⟩; rw [HO.out, HS.out]; have B : Below w.heap.size w w1 := Below.trans (by repeat' (first | with_reducible exact Below.refl _ _ | with_reducible assumption | with_reducible apply below_drewN | with_reducible apply Below.drew | with_reducible refine Below.setCell ?_ ?_ _ | with_reducible refine Below.alloc ?_ ?_ _ | omega | (simp; done) | (simp; omega))) (hb.mono (by first | omega | (simp; done) | (simp; omega))); have Bz := B.size; obtain ⟨k1, k2, k3, k4⟩ := keepB hb w.heap.size (by first | omega | (simp; done) | (simp; omega)); clear hb))
  go_ret
  exact ⟨rfl, by repeat' (first | with_reducible exact Below.refl _ _ | with_reducible assumption | with_reducible apply below_drewN | with_reducible apply Below.drew | with_reducible refine Below.setCell ?_ ?_ _ | with_reducible refine Below.alloc ?_ ?_ _ | omega | (simp; done) | (simp; omega))⟩

theorem irn8_imm (op imm kind : Int) (ho : opB op = true) (hs : shX op = ⟨false, false, false, false, true⟩) (hz : (imm != 0) = true) (w : World) : Calls Try.prog 6 #[.agg #[.int .i64 op, .int .i64 0, .int .i64 0, .int .i64 0, .int .i64 imm, .int .i64 kind]] w (RetB (.int .i64 30) w) := by
  have HO := Lib.hid ho
  have HS := Lib.hid hs
  clear ho hs
  go_enter Try.func6, Try.ntmps6
  go_wp2_with ((go_at_call 18; refine (shape_any _ _).mono ?_; rintro e w1 ⟨rfl, hb⟩; rw [HO.out, HS.out]; have B : Below w.heap.size w w1 := Below.trans (by repeat' (first | with_reducible exact Below.refl _ _ | with_reducible assumption | with_reducible apply below_drewN | with_reducible apply Below.drew | with_reducible refine Below.setCell ?_ ?_ _ | with_reducible refine Below.alloc ?_ ?_ _ | omega | (simp; done) | (simp; omega))) (hb.mono (by first | omega | (simp; done) | (simp; omega))); have Bz := B.size; obtain ⟨k1, k2, k3, k4⟩ := keepB hb w.heap.size (by first | omega | (simp; done) | (simp; omega)); clear hb))
  go_ret
  exact ⟨rfl, by repeat' (first | with_reducible exact Below.refl _ _ | with_reducible assumption | with_reducible apply below_drewN | with_reducible apply Below.drew | with_reducible refine Below.setCell ?_ ?_ _ | with_reducible refine Below.alloc ?_ ?_ _ | omega | (simp; done) | (simp; omega))⟩

theorem irn8_rnum (op : Int) (kind : Int) (ho : opB op = true) (hs : shX op = ⟨false, false, false, false, true⟩)  (hn : numB ⟨op, 0, 0, 0, 0, kind⟩ = false) (w : World) : Calls Try.prog 6 #[.agg #[.int .i64 op, .int .i64 0, .int .i64 0, .int .i64 0, .int .i64 0, .int .i64 kind]] w (RetB (.int .i64 30) w) := by
  have HO := Lib.hid ho
  have HS := Lib.hid hs
  have HN := Lib.hid hn
  clear ho hs  hn
  go_enter Try.func6, Try.ntmps6
  go_wp2_with (first | (go_at_call 18; refine (shape_any _ _).mono ?_; rintro e w1 ⟨rfl, hb⟩; rw [HO.out, HS.out]; have B : Below w.heap.size w w1 := Below.trans (by repeat' (first | with_reducible exact Below.refl _ _ | with_reducible assumption | with_reducible apply below_drewN | with_reducible apply Below.drew | with_reducible refine Below.setCell ?_ ?_ _ | with_reducible refine Below.alloc ?_ ?_ _ | omega | (simp; done) | (simp; omega))) (hb.mono (by first | omega | (simp; done) | (simp; omega))); have Bz := B.size; obtain ⟨k1, k2, k3, k4⟩ := keepB hb w.heap.size (by first | omega | (simp; done) | (simp; omega)); clear hb) | (go_at_call 19; refine (reg_any _ _).mono ?_; rintro e w' ⟨rfl, rfl⟩; first | rw [show regB 0 = true from rfl]) | (go_at_call 20; refine (number_any ⟨op, _, _, _, _, _⟩ _).mono ?_; rintro e w2 ⟨rfl, hb⟩; rw [HN.out]; have B : Below w.heap.size w w2 := Below.trans (by repeat' (first | with_reducible exact Below.refl _ _ | with_reducible assumption | with_reducible apply below_drewN | with_reducible apply Below.drew | with_reducible refine Below.setCell ?_ ?_ _ | with_reducible refine Below.alloc ?_ ?_ _ | omega | (simp; done) | (simp; omega))) (hb.mono (by first | omega | (simp; done) | (simp; omega))); have Bz := B.size; clear hb))
  go_ret
  exact ⟨rfl, by repeat' (first | with_reducible exact Below.refl _ _ | with_reducible assumption | with_reducible apply below_drewN | with_reducible apply Below.drew | with_reducible refine Below.setCell ?_ ?_ _ | with_reducible refine Below.alloc ?_ ?_ _ | omega | (simp; done) | (simp; omega))⟩

set_option maxHeartbeats 2000000 in
theorem iry9 (op : Int) (d kind : Int) (ho : opB op = true) (hs : shX op = ⟨true, false, false, false, true⟩) (Rd : regB d = true) (hn : numB ⟨op, d, 0, 0, 0, kind⟩ = true) (w : World) : Calls Try.prog 6 #[.agg #[.int .i64 op, .int .i64 d, .int .i64 0, .int .i64 0, .int .i64 0, .int .i64 kind]] w (RetB (.int .i64 0) w) := by
  have HO := Lib.hid ho
  have HS := Lib.hid hs
  have HN := Lib.hid hn
  have Hd := Lib.hid Rd
  clear ho hs hn Rd
  go_enter Try.func6, Try.ntmps6
  go_wp2_with (first | (go_at_call 18; refine (shape_any _ _).mono ?_; rintro e w1 ⟨rfl, hb⟩; rw [HO.out, HS.out]; have B : Below w.heap.size w w1 := Below.trans (by repeat' (first | with_reducible exact Below.refl _ _ | with_reducible assumption | with_reducible apply below_drewN | with_reducible apply Below.drew | with_reducible refine Below.setCell ?_ ?_ _ | with_reducible refine Below.alloc ?_ ?_ _ | omega | (simp; done) | (simp; omega))) (hb.mono (by first | omega | (simp; done) | (simp; omega))); have Bz := B.size; obtain ⟨k1, k2, k3, k4⟩ := keepB hb w.heap.size (by first | omega | (simp; done) | (simp; omega)); clear hb) | (go_at_call 19; refine (reg_any _ _).mono ?_; rintro e w' ⟨rfl, rfl⟩; first | rw [Hd.out] | rw [show regB 0 = true from rfl]) | (go_at_call 20; refine (number_any ⟨op, _, _, _, _, _⟩ _).mono ?_; rintro e w2 ⟨rfl, hb⟩; rw [HN.out]; have B : Below w.heap.size w w2 := Below.trans (by repeat' (first | with_reducible exact Below.refl _ _ | with_reducible assumption | with_reducible apply below_drewN | with_reducible apply Below.drew | with_reducible refine Below.setCell ?_ ?_ _ | with_reducible refine Below.alloc ?_ ?_ _ | omega | (simp; done) | (simp; omega))) (hb.mono (by first | omega | (simp; done) | (simp; omega))); have Bz := B.size; clear hb))
  go_ret
  exact ⟨rfl, by repeat' (first | with_reducible exact Below.refl _ _ | with_reducible assumption | with_reducible apply below_drewN | with_reducible apply Below.drew | with_reducible refine Below.setCell ?_ ?_ _ | with_reducible refine Below.alloc ?_ ?_ _ | omega | (simp; done) | (simp; omega))⟩

theorem irn9_n (op d n m imm kind : Int) (ho : opB op = true) (hs : shX op = ⟨true, false, false, false, true⟩) (hz : (n != 0) = true) (w : World) : Calls Try.prog 6 #[.agg #[.int .i64 op, .int .i64 d, .int .i64 n, .int .i64 m, .int .i64 imm, .int .i64 kind]] w (RetB (.int .i64 30) w) := by
  have HO := Lib.hid ho
  have HS := Lib.hid hs
  clear ho hs
  go_enter Try.func6, Try.ntmps6
  go_wp2_with ((go_at_call 18; refine (shape_any _ _).mono ?_; rintro e w1 ⟨rfl, hb⟩; rw [HO.out, HS.out]; have B : Below w.heap.size w w1 := Below.trans (by repeat' (first | with_reducible exact Below.refl _ _ | with_reducible assumption | with_reducible apply below_drewN | with_reducible apply Below.drew | with_reducible refine Below.setCell ?_ ?_ _ | with_reducible refine Below.alloc ?_ ?_ _ | omega | (simp; done) | (simp; omega))) (hb.mono (by first | omega | (simp; done) | (simp; omega))); have Bz := B.size; obtain ⟨k1, k2, k3, k4⟩ := keepB hb w.heap.size (by first | omega | (simp; done) | (simp; omega)); clear hb))
  go_ret
  exact ⟨rfl, by repeat' (first | with_reducible exact Below.refl _ _ | with_reducible assumption | with_reducible apply below_drewN | with_reducible apply Below.drew | with_reducible refine Below.setCell ?_ ?_ _ | with_reducible refine Below.alloc ?_ ?_ _ | omega | (simp; done) | (simp; omega))⟩

theorem irn9_m (op d m imm kind : Int) (ho : opB op = true) (hs : shX op = ⟨true, false, false, false, true⟩) (hz : (m != 0) = true) (w : World) : Calls Try.prog 6 #[.agg #[.int .i64 op, .int .i64 d, .int .i64 0, .int .i64 m, .int .i64 imm, .int .i64 kind]] w (RetB (.int .i64 30) w) := by
  have HO := Lib.hid ho
  have HS := Lib.hid hs
  clear ho hs
  go_enter Try.func6, Try.ntmps6
  go_wp2_with ((go_at_call 18; refine (shape_any _ _).mono ?_; rintro e w1 ⟨rfl, hb⟩; rw [HO.out, HS.out]; have B : Below w.heap.size w w1 := Below.trans (by repeat' (first | with_reducible exact Below.refl _ _ | with_reducible assumption | with_reducible apply below_drewN | with_reducible apply Below.drew | with_reducible refine Below.setCell ?_ ?_ _ | with_reducible refine Below.alloc ?_ ?_ _ | omega | (simp; done) | (simp; omega))) (hb.mono (by first | omega | (simp; done) | (simp; omega))); have Bz := B.size; obtain ⟨k1, k2, k3, k4⟩ := keepB hb w.heap.size (by first | omega | (simp; done) | (simp; omega)); clear hb))
  go_ret
  exact ⟨rfl, by repeat' (first | with_reducible exact Below.refl _ _ | with_reducible assumption | with_reducible apply below_drewN | with_reducible apply Below.drew | with_reducible refine Below.setCell ?_ ?_ _ | with_reducible refine Below.alloc ?_ ?_ _ | omega | (simp; done) | (simp; omega))⟩

theorem irn9_imm (op d imm kind : Int) (ho : opB op = true) (hs : shX op = ⟨true, false, false, false, true⟩) (hz : (imm != 0) = true) (w : World) : Calls Try.prog 6 #[.agg #[.int .i64 op, .int .i64 d, .int .i64 0, .int .i64 0, .int .i64 imm, .int .i64 kind]] w (RetB (.int .i64 30) w) := by
  have HO := Lib.hid ho
  have HS := Lib.hid hs
  clear ho hs
  go_enter Try.func6, Try.ntmps6
  go_wp2_with ((go_at_call 18; refine (shape_any _ _).mono ?_; rintro e w1 ⟨rfl, hb⟩; rw [HO.out, HS.out]; have B : Below w.heap.size w w1 := Below.trans (by repeat' (first | with_reducible exact Below.refl _ _ | with_reducible assumption | with_reducible apply below_drewN | with_reducible apply Below.drew | with_reducible refine Below.setCell ?_ ?_ _ | with_reducible refine Below.alloc ?_ ?_ _ | omega | (simp; done) | (simp; omega))) (hb.mono (by first | omega | (simp; done) | (simp; omega))); have Bz := B.size; obtain ⟨k1, k2, k3, k4⟩ := keepB hb w.heap.size (by first | omega | (simp; done) | (simp; omega)); clear hb))
  go_ret
  exact ⟨rfl, by repeat' (first | with_reducible exact Below.refl _ _ | with_reducible assumption | with_reducible apply below_drewN | with_reducible apply Below.drew | with_reducible refine Below.setCell ?_ ?_ _ | with_reducible refine Below.alloc ?_ ?_ _ | omega | (simp; done) | (simp; omega))⟩

theorem irn9_rd (op : Int) (d kind : Int) (ho : opB op = true) (hs : shX op = ⟨true, false, false, false, true⟩)  (Rd : regB d = false) (w : World) : Calls Try.prog 6 #[.agg #[.int .i64 op, .int .i64 d, .int .i64 0, .int .i64 0, .int .i64 0, .int .i64 kind]] w (RetB (.int .i64 30) w) := by
  have HO := Lib.hid ho
  have HS := Lib.hid hs
  have Hd := Lib.hid Rd
  clear ho hs Rd
  go_enter Try.func6, Try.ntmps6
  go_wp2_with (first | (go_at_call 18; refine (shape_any _ _).mono ?_; rintro e w1 ⟨rfl, hb⟩; rw [HO.out, HS.out]; have B : Below w.heap.size w w1 := Below.trans (by repeat' (first | with_reducible exact Below.refl _ _ | with_reducible assumption | with_reducible apply below_drewN | with_reducible apply Below.drew | with_reducible refine Below.setCell ?_ ?_ _ | with_reducible refine Below.alloc ?_ ?_ _ | omega | (simp; done) | (simp; omega))) (hb.mono (by first | omega | (simp; done) | (simp; omega))); have Bz := B.size; obtain ⟨k1, k2, k3, k4⟩ := keepB hb w.heap.size (by first | omega | (simp; done) | (simp; omega)); clear hb) | (go_at_call 19; refine (reg_any _ _).mono ?_; rintro e w' ⟨rfl, rfl⟩; first | rw [Hd.out] | rw [show regB 0 = true from rfl]))
  go_ret
  exact ⟨rfl, by repeat' (first | with_reducible exact Below.refl _ _ | with_reducible assumption | with_reducible apply below_drewN | with_reducible apply Below.drew | with_reducible refine Below.setCell ?_ ?_ _ | with_reducible refine Below.alloc ?_ ?_ _ | omega | (simp; done) | (simp; omega))⟩

theorem irn9_rnum (op : Int) (d kind : Int) (ho : opB op = true) (hs : shX op = ⟨true, false, false, false, true⟩) (Rd : regB d = true) (hn : numB ⟨op, d, 0, 0, 0, kind⟩ = false) (w : World) : Calls Try.prog 6 #[.agg #[.int .i64 op, .int .i64 d, .int .i64 0, .int .i64 0, .int .i64 0, .int .i64 kind]] w (RetB (.int .i64 30) w) := by
  have HO := Lib.hid ho
  have HS := Lib.hid hs
  have Hd := Lib.hid Rd
  have HN := Lib.hid hn
  clear ho hs Rd hn
  go_enter Try.func6, Try.ntmps6
  go_wp2_with (first | (go_at_call 18; refine (shape_any _ _).mono ?_; rintro e w1 ⟨rfl, hb⟩; rw [HO.out, HS.out]; have B : Below w.heap.size w w1 := Below.trans (by repeat' (first | with_reducible exact Below.refl _ _ | with_reducible assumption | with_reducible apply below_drewN | with_reducible apply Below.drew | with_reducible refine Below.setCell ?_ ?_ _ | with_reducible refine Below.alloc ?_ ?_ _ | omega | (simp; done) | (simp; omega))) (hb.mono (by first | omega | (simp; done) | (simp; omega))); have Bz := B.size; obtain ⟨k1, k2, k3, k4⟩ := keepB hb w.heap.size (by first | omega | (simp; done) | (simp; omega)); clear hb) | (go_at_call 19; refine (reg_any _ _).mono ?_; rintro e w' ⟨rfl, rfl⟩; first | rw [Hd.out] | rw [show regB 0 = true from rfl]) | (go_at_call 20; refine (number_any ⟨op, _, _, _, _, _⟩ _).mono ?_; rintro e w2 ⟨rfl, hb⟩; rw [HN.out]; have B : Below w.heap.size w w2 := Below.trans (by repeat' (first | with_reducible exact Below.refl _ _ | with_reducible assumption | with_reducible apply below_drewN | with_reducible apply Below.drew | with_reducible refine Below.setCell ?_ ?_ _ | with_reducible refine Below.alloc ?_ ?_ _ | omega | (simp; done) | (simp; omega))) (hb.mono (by first | omega | (simp; done) | (simp; omega))); have Bz := B.size; clear hb))
  go_ret
  exact ⟨rfl, by repeat' (first | with_reducible exact Below.refl _ _ | with_reducible assumption | with_reducible apply below_drewN | with_reducible apply Below.drew | with_reducible refine Below.setCell ?_ ?_ _ | with_reducible refine Below.alloc ?_ ?_ _ | omega | (simp; done) | (simp; omega))⟩

theorem iright_any (x : X) (w : World) : Calls Try.prog 6 #[instrV x] w (RetB (.int .i64 (errX x)) w) := by
  have hri := right_iff x
  obtain ⟨op, d, n, m, imm, kind⟩ := x
  simp only at hri
  simp only [instrV]
  by_cases hx : rightP ⟨op, d, n, m, imm, kind⟩
  · rw [errX_yes hx]
    obtain ⟨h1, h2, h3, h4, h5, h6, h7, h8, h9, h10⟩ := hri.1 hx
    clear hri hx
    rcases sh_group op h1 with hs | hs | hs | hs | hs | hs | hs | hs | hs | hs
    all_goals
      rw [hs] at h2 h3 h4 h5 h6
      simp only [Bool.false_eq_true, true_or, false_or] at h2 h3 h4 h5 h6
    · subst h2; subst h3; subst h4; subst h5; subst h6; exact iry0 op  h1 hs  h10 w
    · subst h4; subst h6; exact iry1 op _ _ _ h1 hs h7 h8 h10 w
    · subst h4; subst h5; subst h6; exact iry2 op _ _ h1 hs h7 h8 h10 w
    · subst h3; subst h4; exact iry3 op _ _ _ h1 hs h7 h10 w
    · subst h5; subst h6; exact iry4 op _ _ _ h1 hs h7 h8 h9 h10 w
    · subst h2; subst h3; subst h4; subst h6; exact iry5 op _ h1 hs  h10 w
    · subst h3; subst h4; subst h6; exact iry6 op _ _ h1 hs h7 h10 w
    · subst h2; subst h3; subst h4; exact iry7 op _ _ h1 hs  h10 w
    · subst h2; subst h3; subst h4; subst h5; exact iry8 op _ h1 hs  h10 w
    · subst h3; subst h4; subst h5; exact iry9 op _ _ h1 hs h7 h10 w
  · rw [errX_no hx]
    by_cases ho : opB op = true
    · have hg := sh_group op ho
      have hno := fun a => hx (hri.2 a)
      clear hri hx
      rcases hg with hs | hs | hs | hs | hs | hs | hs | hs | hs | hs
      all_goals
        rw [hs] at hno
        simp only [Bool.false_eq_true, true_or, false_or] at hno
      · by_cases z0 : d = 0
        rotate_left
        · exact irn0_d op _ _ _ _ _ ho hs (bne_iff_ne.2 z0) w
        subst z0
        by_cases z1 : n = 0
        rotate_left
        · exact irn0_n op _ _ _ _ ho hs (bne_iff_ne.2 z1) w
        subst z1
        by_cases z2 : m = 0
        rotate_left
        · exact irn0_m op _ _ _ ho hs (bne_iff_ne.2 z2) w
        subst z2
        by_cases z3 : imm = 0
        rotate_left
        · exact irn0_imm op _ _ ho hs (bne_iff_ne.2 z3) w
        subst z3
        by_cases z4 : kind = 0
        rotate_left
        · exact irn0_kind op _ ho hs (bne_iff_ne.2 z4) w
        subst z4
        refine irn0_rnum op  ho hs  ?_ w
        cases hb : numB _
        · rfl
        exact (hno (by simp [*, show regB 0 = true from rfl])).elim
      · by_cases z2 : m = 0
        rotate_left
        · exact irn1_m op _ _ _ _ _ ho hs (bne_iff_ne.2 z2) w
        subst z2
        by_cases z4 : kind = 0
        rotate_left
        · exact irn1_kind op _ _ _ _ ho hs (bne_iff_ne.2 z4) w
        subst z4
        cases rd : regB d
        · exact irn1_rd op _ _ _ ho hs  rd w
        cases rn : regB n
        · exact irn1_rn op _ _ _ ho hs rd rn w
        refine irn1_rnum op _ _ _ ho hs rd rn ?_ w
        cases hb : numB _
        · rfl
        exact (hno (by simp [*, show regB 0 = true from rfl])).elim
      · by_cases z2 : m = 0
        rotate_left
        · exact irn2_m op _ _ _ _ _ ho hs (bne_iff_ne.2 z2) w
        subst z2
        by_cases z3 : imm = 0
        rotate_left
        · exact irn2_imm op _ _ _ _ ho hs (bne_iff_ne.2 z3) w
        subst z3
        by_cases z4 : kind = 0
        rotate_left
        · exact irn2_kind op _ _ _ ho hs (bne_iff_ne.2 z4) w
        subst z4
        cases rd : regB d
        · exact irn2_rd op _ _ ho hs  rd w
        cases rn : regB n
        · exact irn2_rn op _ _ ho hs rd rn w
        refine irn2_rnum op _ _ ho hs rd rn ?_ w
        cases hb : numB _
        · rfl
        exact (hno (by simp [*, show regB 0 = true from rfl])).elim
      · by_cases z1 : n = 0
        rotate_left
        · exact irn3_n op _ _ _ _ _ ho hs (bne_iff_ne.2 z1) w
        subst z1
        by_cases z2 : m = 0
        rotate_left
        · exact irn3_m op _ _ _ _ ho hs (bne_iff_ne.2 z2) w
        subst z2
        cases rd : regB d
        · exact irn3_rd op _ _ _ ho hs  rd w
        refine irn3_rnum op _ _ _ ho hs rd ?_ w
        cases hb : numB _
        · rfl
        exact (hno (by simp [*, show regB 0 = true from rfl])).elim
      · by_cases z3 : imm = 0
        rotate_left
        · exact irn4_imm op _ _ _ _ _ ho hs (bne_iff_ne.2 z3) w
        subst z3
        by_cases z4 : kind = 0
        rotate_left
        · exact irn4_kind op _ _ _ _ ho hs (bne_iff_ne.2 z4) w
        subst z4
        cases rd : regB d
        · exact irn4_rd op _ _ _ ho hs  rd w
        cases rn : regB n
        · exact irn4_rn op _ _ _ ho hs rd rn w
        cases rm : regB m
        · exact irn4_rm op _ _ _ ho hs rd rn rm w
        refine irn4_rnum op _ _ _ ho hs rd rn rm ?_ w
        cases hb : numB _
        · rfl
        exact (hno (by simp [*, show regB 0 = true from rfl])).elim
      · by_cases z0 : d = 0
        rotate_left
        · exact irn5_d op _ _ _ _ _ ho hs (bne_iff_ne.2 z0) w
        subst z0
        by_cases z1 : n = 0
        rotate_left
        · exact irn5_n op _ _ _ _ ho hs (bne_iff_ne.2 z1) w
        subst z1
        by_cases z2 : m = 0
        rotate_left
        · exact irn5_m op _ _ _ ho hs (bne_iff_ne.2 z2) w
        subst z2
        by_cases z4 : kind = 0
        rotate_left
        · exact irn5_kind op _ _ ho hs (bne_iff_ne.2 z4) w
        subst z4
        refine irn5_rnum op _ ho hs  ?_ w
        cases hb : numB _
        · rfl
        exact (hno (by simp [*, show regB 0 = true from rfl])).elim
      · by_cases z1 : n = 0
        rotate_left
        · exact irn6_n op _ _ _ _ _ ho hs (bne_iff_ne.2 z1) w
        subst z1
        by_cases z2 : m = 0
        rotate_left
        · exact irn6_m op _ _ _ _ ho hs (bne_iff_ne.2 z2) w
        subst z2
        by_cases z4 : kind = 0
        rotate_left
        · exact irn6_kind op _ _ _ ho hs (bne_iff_ne.2 z4) w
        subst z4
        cases rd : regB d
        · exact irn6_rd op _ _ ho hs  rd w
        refine irn6_rnum op _ _ ho hs rd ?_ w
        cases hb : numB _
        · rfl
        exact (hno (by simp [*, show regB 0 = true from rfl])).elim
      · by_cases z0 : d = 0
        rotate_left
        · exact irn7_d op _ _ _ _ _ ho hs (bne_iff_ne.2 z0) w
        subst z0
        by_cases z1 : n = 0
        rotate_left
        · exact irn7_n op _ _ _ _ ho hs (bne_iff_ne.2 z1) w
        subst z1
        by_cases z2 : m = 0
        rotate_left
        · exact irn7_m op _ _ _ ho hs (bne_iff_ne.2 z2) w
        subst z2
        refine irn7_rnum op _ _ ho hs  ?_ w
        cases hb : numB _
        · rfl
        exact (hno (by simp [*, show regB 0 = true from rfl])).elim
      · by_cases z0 : d = 0
        rotate_left
        · exact irn8_d op _ _ _ _ _ ho hs (bne_iff_ne.2 z0) w
        subst z0
        by_cases z1 : n = 0
        rotate_left
        · exact irn8_n op _ _ _ _ ho hs (bne_iff_ne.2 z1) w
        subst z1
        by_cases z2 : m = 0
        rotate_left
        · exact irn8_m op _ _ _ ho hs (bne_iff_ne.2 z2) w
        subst z2
        by_cases z3 : imm = 0
        rotate_left
        · exact irn8_imm op _ _ ho hs (bne_iff_ne.2 z3) w
        subst z3
        refine irn8_rnum op _ ho hs  ?_ w
        cases hb : numB _
        · rfl
        exact (hno (by simp [*, show regB 0 = true from rfl])).elim
      · by_cases z1 : n = 0
        rotate_left
        · exact irn9_n op _ _ _ _ _ ho hs (bne_iff_ne.2 z1) w
        subst z1
        by_cases z2 : m = 0
        rotate_left
        · exact irn9_m op _ _ _ _ ho hs (bne_iff_ne.2 z2) w
        subst z2
        by_cases z3 : imm = 0
        rotate_left
        · exact irn9_imm op _ _ _ ho hs (bne_iff_ne.2 z3) w
        subst z3
        cases rd : regB d
        · exact irn9_rd op _ _ ho hs  rd w
        refine irn9_rnum op _ _ ho hs rd ?_ w
        cases hb : numB _
        · rfl
        exact (hno (by simp [*, show regB 0 = true from rfl])).elim
    · have HO := Lib.hid (Bool.not_eq_true _ ▸ ho : opB op = false)
      clear hri hx ho
      go_enter Try.func6, Try.ntmps6
      go_wp2_with (go_at_call 18; refine (shape_any _ _).mono ?_; rintro e w1 ⟨rfl, hb⟩; rw [HO.out]; have B : Below w.heap.size w w1 := Below.trans (by repeat' (first | with_reducible exact Below.refl _ _ | with_reducible assumption | with_reducible apply below_drewN | with_reducible apply Below.drew | with_reducible refine Below.setCell ?_ ?_ _ | with_reducible refine Below.alloc ?_ ?_ _ | omega | (simp; done) | (simp; omega))) (hb.mono (by first | omega | (simp; done) | (simp; omega))); have Bz := B.size; obtain ⟨k1, k2, k3, k4⟩ := keepB hb w.heap.size (by first | omega | (simp; done) | (simp; omega)); clear hb)
      go_ret
      exact ⟨rfl, by repeat' (first | with_reducible exact Below.refl _ _ | with_reducible assumption | with_reducible apply below_drewN | with_reducible apply Below.drew | with_reducible refine Below.setCell ?_ ?_ _ | with_reducible refine Below.alloc ?_ ?_ _ | omega | (simp; done) | (simp; omega))⟩

end Go.Proofs.Ytdlodacogldinaa