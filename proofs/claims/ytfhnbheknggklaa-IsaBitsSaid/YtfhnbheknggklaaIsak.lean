/- The contract of granuleref03.Right. -/
import Derived.Test.YtfhnbheknggklaaIsaj
namespace Go.Proofs.Ytfhnbheknggklaa
open Go.RowKit
set_option linter.unusedSimpArgs false
set_option linter.unusedVariables false

/-- What the reference says of number and kind. -/
def numR (x : X) : Bool :=
  if x.op = 2 ∨ x.op = 3 then inB x.imm 0 32760 && x.imm.tmod 8 == 0 else
  if x.op = 7 then inB x.imm 0 4095 else
  if x.op = 6 then inB x.imm 0 65535 && inB x.kind 0 3 else
  if x.op = 14 then inB x.imm (-33554432) 33554431 else
  if x.op = 15 ∨ x.op = 16 then inB x.imm (-262144) 262143 else
  if x.op = 17 then inB x.imm (-262144) 262143 && inB x.kind 0 1 else
  if x.op = 18 ∨ x.op = 19 then inB x.kind 9 11 || inB x.kind 13 15 else
  if x.op = 21 then inB x.kind 0 7 && (x.kind.tmod 4 != 0 || x.d == 31) else
  if x.op = 23 then inB x.kind 0 2 else true

theorem numR_eq (x : X) : numR x = numB x := by
  unfold numR numB
  repeat' split
  all_goals
    apply Bool.eq_iff_iff.2
    try simp [inB, lowB, fitB, barrB]
    try omega
  all_goals
    by_cases hi : 0 ≤ x.imm
    · rw [Int.tmod_eq_emod_of_nonneg hi]; omega
    · omega


set_option maxRecDepth 100000 in
theorem rrn_op (op d n m imm kind : Int) (hs : sumX op = -1) (w : World) : Calls Try.prog 11 #[.agg #[.int .i64 op, .int .i64 d, .int .i64 n, .int .i64 m, .int .i64 imm, .int .i64 kind]] w (RetB (.bool false) w) := by
  have HS := Lib.hid hs
  clear hs
  go_enter Try.func11, Try.ntmps11
  go_wp2_with (first | (go_at_call 21; refine (rparts_any _ _).mono ?_; rintro e w' ⟨rfl, rfl⟩; rw [HS.out]))
  go_ret
  exact ⟨rfl, by repeat' (first | with_reducible exact Below.refl _ _ | with_reducible assumption | with_reducible apply below_drewN | with_reducible apply Below.drew | with_reducible refine Below.setCell ?_ ?_ _ | with_reducible refine Below.alloc ?_ ?_ _ | omega | (simp; done) | (simp; omega))⟩

set_option maxRecDepth 100000 in
theorem rrn_d (op d n m imm kind s : Int) (h0 : 0 ≤ s) (hs : sumX op = s)  (Rd : inB d 0 31 = false) (w : World) : Calls Try.prog 11 #[.agg #[.int .i64 op, .int .i64 d, .int .i64 n, .int .i64 m, .int .i64 imm, .int .i64 kind]] w (RetB (.bool false) w) := by
  have HS := Lib.hid hs
  have Hd := Lib.hid Rd
  clear hs Rd
  go_enter Try.func11, Try.ntmps11
  go_wp2_with (first | (go_at_call 21; refine (rparts_any _ _).mono ?_; rintro e w' ⟨rfl, rfl⟩; rw [HS.out]) | (go_at_call 22; refine (rin_any _ _ _ _).mono ?_; rintro e w' ⟨rfl, rfl⟩; first | rw [Hd.out]))
  go_ret
  exact ⟨rfl, by repeat' (first | with_reducible exact Below.refl _ _ | with_reducible assumption | with_reducible apply below_drewN | with_reducible apply Below.drew | with_reducible refine Below.setCell ?_ ?_ _ | with_reducible refine Below.alloc ?_ ?_ _ | omega | (simp; done) | (simp; omega))⟩

set_option maxRecDepth 100000 in
theorem rrn_n (op d n m imm kind s : Int) (h0 : 0 ≤ s) (hs : sumX op = s) (Rd : inB d 0 31 = true) (Rn : inB n 0 31 = false) (w : World) : Calls Try.prog 11 #[.agg #[.int .i64 op, .int .i64 d, .int .i64 n, .int .i64 m, .int .i64 imm, .int .i64 kind]] w (RetB (.bool false) w) := by
  have HS := Lib.hid hs
  have Hd := Lib.hid Rd
  have Hn := Lib.hid Rn
  clear hs Rd Rn
  go_enter Try.func11, Try.ntmps11
  go_wp2_with (first | (go_at_call 21; refine (rparts_any _ _).mono ?_; rintro e w' ⟨rfl, rfl⟩; rw [HS.out]) | (go_at_call 22; refine (rin_any _ _ _ _).mono ?_; rintro e w' ⟨rfl, rfl⟩; first | rw [Hd.out] | rw [Hn.out]))
  go_ret
  exact ⟨rfl, by repeat' (first | with_reducible exact Below.refl _ _ | with_reducible assumption | with_reducible apply below_drewN | with_reducible apply Below.drew | with_reducible refine Below.setCell ?_ ?_ _ | with_reducible refine Below.alloc ?_ ?_ _ | omega | (simp; done) | (simp; omega))⟩

set_option maxRecDepth 100000 in
theorem rrn_m (op d n m imm kind s : Int) (h0 : 0 ≤ s) (hs : sumX op = s) (Rd : inB d 0 31 = true) (Rn : inB n 0 31 = true) (Rm : inB m 0 31 = false) (w : World) : Calls Try.prog 11 #[.agg #[.int .i64 op, .int .i64 d, .int .i64 n, .int .i64 m, .int .i64 imm, .int .i64 kind]] w (RetB (.bool false) w) := by
  have HS := Lib.hid hs
  have Hd := Lib.hid Rd
  have Hn := Lib.hid Rn
  have Hm := Lib.hid Rm
  clear hs Rd Rn Rm
  go_enter Try.func11, Try.ntmps11
  go_wp2_with (first | (go_at_call 21; refine (rparts_any _ _).mono ?_; rintro e w' ⟨rfl, rfl⟩; rw [HS.out]) | (go_at_call 22; refine (rin_any _ _ _ _).mono ?_; rintro e w' ⟨rfl, rfl⟩; first | rw [Hd.out] | rw [Hn.out] | rw [Hm.out]))
  go_ret
  exact ⟨rfl, by repeat' (first | with_reducible exact Below.refl _ _ | with_reducible assumption | with_reducible apply below_drewN | with_reducible apply Below.drew | with_reducible refine Below.setCell ?_ ?_ _ | with_reducible refine Below.alloc ?_ ?_ _ | omega | (simp; done) | (simp; omega))⟩

set_option maxRecDepth 100000 in
theorem rrn0_d (op d n m imm kind : Int) (hs : sumX op = 0) (Rd : inB d 0 31 = true) (Rn : inB n 0 31 = true) (Rm : inB m 0 31 = true) (hz : (d != 0) = true) (w : World) : Calls Try.prog 11 #[.agg #[.int .i64 op, .int .i64 d, .int .i64 n, .int .i64 m, .int .i64 imm, .int .i64 kind]] w (RetB (.bool false) w) := by
  have HS := Lib.hid hs
  have Hd := Lib.hid Rd
  have Hn := Lib.hid Rn
  have Hm := Lib.hid Rm
  clear hs Rd Rn Rm
  go_enter Try.func11, Try.ntmps11
  go_wp2_with (first | (go_at_call 21; refine (rparts_any _ _).mono ?_; rintro e w' ⟨rfl, rfl⟩; rw [HS.out]) | (go_at_call 23; refine (rhas_any _ _ _ (by decide) (by decide)).mono ?_; rintro e w' ⟨rfl, rfl⟩; simp only [hasB, Int.reduceDiv, Int.reduceMod, Int.reduceBEq]) | (go_at_call 22; refine (rin_any _ _ _ _).mono ?_; rintro e w' ⟨rfl, rfl⟩; first | rw [Hd.out] | rw [Hn.out] | rw [Hm.out] | rw [show inB 0 0 31 = true from rfl]))
  go_ret
  exact ⟨rfl, by repeat' (first | with_reducible exact Below.refl _ _ | with_reducible assumption | with_reducible apply below_drewN | with_reducible apply Below.drew | with_reducible refine Below.setCell ?_ ?_ _ | with_reducible refine Below.alloc ?_ ?_ _ | omega | (simp; done) | (simp; omega))⟩

set_option maxRecDepth 100000 in
theorem rrn0_n (op n m imm kind : Int) (hs : sumX op = 0) (Rn : inB n 0 31 = true) (Rm : inB m 0 31 = true) (hz : (n != 0) = true) (w : World) : Calls Try.prog 11 #[.agg #[.int .i64 op, .int .i64 0, .int .i64 n, .int .i64 m, .int .i64 imm, .int .i64 kind]] w (RetB (.bool false) w) := by
  have HS := Lib.hid hs
  have Hn := Lib.hid Rn
  have Hm := Lib.hid Rm
  clear hs Rn Rm
  go_enter Try.func11, Try.ntmps11
  go_wp2_with (first | (go_at_call 21; refine (rparts_any _ _).mono ?_; rintro e w' ⟨rfl, rfl⟩; rw [HS.out]) | (go_at_call 23; refine (rhas_any _ _ _ (by decide) (by decide)).mono ?_; rintro e w' ⟨rfl, rfl⟩; simp only [hasB, Int.reduceDiv, Int.reduceMod, Int.reduceBEq]) | (go_at_call 22; refine (rin_any _ _ _ _).mono ?_; rintro e w' ⟨rfl, rfl⟩; first | rw [Hn.out] | rw [Hm.out] | rw [show inB 0 0 31 = true from rfl]))
  go_ret
  exact ⟨rfl, by repeat' (first | with_reducible exact Below.refl _ _ | with_reducible assumption | with_reducible apply below_drewN | with_reducible apply Below.drew | with_reducible refine Below.setCell ?_ ?_ _ | with_reducible refine Below.alloc ?_ ?_ _ | omega | (simp; done) | (simp; omega))⟩

set_option maxRecDepth 100000 in
theorem rrn0_m (op m imm kind : Int) (hs : sumX op = 0) (Rm : inB m 0 31 = true) (hz : (m != 0) = true) (w : World) : Calls Try.prog 11 #[.agg #[.int .i64 op, .int .i64 0, .int .i64 0, .int .i64 m, .int .i64 imm, .int .i64 kind]] w (RetB (.bool false) w) := by
  have HS := Lib.hid hs
  have Hm := Lib.hid Rm
  clear hs Rm
  go_enter Try.func11, Try.ntmps11
  go_wp2_with (first | (go_at_call 21; refine (rparts_any _ _).mono ?_; rintro e w' ⟨rfl, rfl⟩; rw [HS.out]) | (go_at_call 23; refine (rhas_any _ _ _ (by decide) (by decide)).mono ?_; rintro e w' ⟨rfl, rfl⟩; simp only [hasB, Int.reduceDiv, Int.reduceMod, Int.reduceBEq]) | (go_at_call 22; refine (rin_any _ _ _ _).mono ?_; rintro e w' ⟨rfl, rfl⟩; first | rw [Hm.out] | rw [show inB 0 0 31 = true from rfl]))
  go_ret
  exact ⟨rfl, by repeat' (first | with_reducible exact Below.refl _ _ | with_reducible assumption | with_reducible apply below_drewN | with_reducible apply Below.drew | with_reducible refine Below.setCell ?_ ?_ _ | with_reducible refine Below.alloc ?_ ?_ _ | omega | (simp; done) | (simp; omega))⟩

set_option maxRecDepth 100000 in
theorem rrn0_imm (op imm kind : Int) (hs : sumX op = 0)  (hz : (imm != 0) = true) (w : World) : Calls Try.prog 11 #[.agg #[.int .i64 op, .int .i64 0, .int .i64 0, .int .i64 0, .int .i64 imm, .int .i64 kind]] w (RetB (.bool false) w) := by
  have HS := Lib.hid hs

  clear hs 
  go_enter Try.func11, Try.ntmps11
  go_wp2_with (first | (go_at_call 21; refine (rparts_any _ _).mono ?_; rintro e w' ⟨rfl, rfl⟩; rw [HS.out]) | (go_at_call 23; refine (rhas_any _ _ _ (by decide) (by decide)).mono ?_; rintro e w' ⟨rfl, rfl⟩; simp only [hasB, Int.reduceDiv, Int.reduceMod, Int.reduceBEq]) | (go_at_call 22; refine (rin_any _ _ _ _).mono ?_; rintro e w' ⟨rfl, rfl⟩; first | rw [show inB 0 0 31 = true from rfl]))
  go_ret
  exact ⟨rfl, by repeat' (first | with_reducible exact Below.refl _ _ | with_reducible assumption | with_reducible apply below_drewN | with_reducible apply Below.drew | with_reducible refine Below.setCell ?_ ?_ _ | with_reducible refine Below.alloc ?_ ?_ _ | omega | (simp; done) | (simp; omega))⟩

set_option maxRecDepth 100000 in
theorem rrn0_kind (op kind : Int) (hs : sumX op = 0)  (hz : (kind != 0) = true) (w : World) : Calls Try.prog 11 #[.agg #[.int .i64 op, .int .i64 0, .int .i64 0, .int .i64 0, .int .i64 0, .int .i64 kind]] w (RetB (.bool false) w) := by
  have HS := Lib.hid hs

  clear hs 
  go_enter Try.func11, Try.ntmps11
  go_wp2_with (first | (go_at_call 21; refine (rparts_any _ _).mono ?_; rintro e w' ⟨rfl, rfl⟩; rw [HS.out]) | (go_at_call 23; refine (rhas_any _ _ _ (by decide) (by decide)).mono ?_; rintro e w' ⟨rfl, rfl⟩; simp only [hasB, Int.reduceDiv, Int.reduceMod, Int.reduceBEq]) | (go_at_call 22; refine (rin_any _ _ _ _).mono ?_; rintro e w' ⟨rfl, rfl⟩; first | rw [show inB 0 0 31 = true from rfl]))
  go_ret
  exact ⟨rfl, by repeat' (first | with_reducible exact Below.refl _ _ | with_reducible assumption | with_reducible apply below_drewN | with_reducible apply Below.drew | with_reducible refine Below.setCell ?_ ?_ _ | with_reducible refine Below.alloc ?_ ?_ _ | omega | (simp; done) | (simp; omega))⟩

set_option maxRecDepth 100000 in
theorem rry1  (w : World) : Calls Try.prog 11 #[.agg #[.int .i64 1, .int .i64 0, .int .i64 0, .int .i64 0, .int .i64 0, .int .i64 0]] w (RetB (.bool (numR ⟨1, 0, 0, 0, 0, 0⟩)) w) := by
  have HS : Hid (sumX 1 = 0) := Lib.hid rfl

  go_enter Try.func11, Try.ntmps11
  go_wp2_with (first | (go_at_call 21; refine (rparts_any _ _).mono ?_; rintro e w' ⟨rfl, rfl⟩; rw [HS.out]) | (go_at_call 23; refine (rhas_any _ _ _ (by decide) (by decide)).mono ?_; rintro e w' ⟨rfl, rfl⟩; simp only [hasB, Int.reduceDiv, Int.reduceMod, Int.reduceBEq]) | (go_at_call 22; refine (rin_any _ _ _ _).mono ?_; rintro e w' ⟨rfl, rfl⟩; first | rw [show inB 0 0 31 = true from rfl] | skip))
  all_goals
    go_ret
    refine ⟨?_, by repeat' (first | with_reducible exact Below.refl _ _ | with_reducible assumption | with_reducible apply below_drewN | with_reducible apply Below.drew | with_reducible refine Below.setCell ?_ ?_ _ | with_reducible refine Below.alloc ?_ ?_ _ | omega | (simp; done) | (simp; omega))⟩
    simp [numR, *]

set_option maxRecDepth 100000 in
theorem rry20  (w : World) : Calls Try.prog 11 #[.agg #[.int .i64 20, .int .i64 0, .int .i64 0, .int .i64 0, .int .i64 0, .int .i64 0]] w (RetB (.bool (numR ⟨20, 0, 0, 0, 0, 0⟩)) w) := by
  have HS : Hid (sumX 20 = 0) := Lib.hid rfl

  go_enter Try.func11, Try.ntmps11
  go_wp2_with (first | (go_at_call 21; refine (rparts_any _ _).mono ?_; rintro e w' ⟨rfl, rfl⟩; rw [HS.out]) | (go_at_call 23; refine (rhas_any _ _ _ (by decide) (by decide)).mono ?_; rintro e w' ⟨rfl, rfl⟩; simp only [hasB, Int.reduceDiv, Int.reduceMod, Int.reduceBEq]) | (go_at_call 22; refine (rin_any _ _ _ _).mono ?_; rintro e w' ⟨rfl, rfl⟩; first | rw [show inB 0 0 31 = true from rfl] | skip))
  all_goals
    go_ret
    refine ⟨?_, by repeat' (first | with_reducible exact Below.refl _ _ | with_reducible assumption | with_reducible apply below_drewN | with_reducible apply Below.drew | with_reducible refine Below.setCell ?_ ?_ _ | with_reducible refine Below.alloc ?_ ?_ _ | omega | (simp; done) | (simp; omega))⟩
    simp [numR, *]

set_option maxRecDepth 100000 in
theorem rry22  (w : World) : Calls Try.prog 11 #[.agg #[.int .i64 22, .int .i64 0, .int .i64 0, .int .i64 0, .int .i64 0, .int .i64 0]] w (RetB (.bool (numR ⟨22, 0, 0, 0, 0, 0⟩)) w) := by
  have HS : Hid (sumX 22 = 0) := Lib.hid rfl

  go_enter Try.func11, Try.ntmps11
  go_wp2_with (first | (go_at_call 21; refine (rparts_any _ _).mono ?_; rintro e w' ⟨rfl, rfl⟩; rw [HS.out]) | (go_at_call 23; refine (rhas_any _ _ _ (by decide) (by decide)).mono ?_; rintro e w' ⟨rfl, rfl⟩; simp only [hasB, Int.reduceDiv, Int.reduceMod, Int.reduceBEq]) | (go_at_call 22; refine (rin_any _ _ _ _).mono ?_; rintro e w' ⟨rfl, rfl⟩; first | rw [show inB 0 0 31 = true from rfl] | skip))
  all_goals
    go_ret
    refine ⟨?_, by repeat' (first | with_reducible exact Below.refl _ _ | with_reducible assumption | with_reducible apply below_drewN | with_reducible apply Below.drew | with_reducible refine Below.setCell ?_ ?_ _ | with_reducible refine Below.alloc ?_ ?_ _ | omega | (simp; done) | (simp; omega))⟩
    simp [numR, *]

set_option maxRecDepth 100000 in
theorem rrn1_m (op d n m imm kind : Int) (hs : sumX op = 11) (Rd : inB d 0 31 = true) (Rn : inB n 0 31 = true) (Rm : inB m 0 31 = true) (hz : (m != 0) = true) (w : World) : Calls Try.prog 11 #[.agg #[.int .i64 op, .int .i64 d, .int .i64 n, .int .i64 m, .int .i64 imm, .int .i64 kind]] w (RetB (.bool false) w) := by
  have HS := Lib.hid hs
  have Hd := Lib.hid Rd
  have Hn := Lib.hid Rn
  have Hm := Lib.hid Rm
  clear hs Rd Rn Rm
  go_enter Try.func11, Try.ntmps11
  go_wp2_with (first | (go_at_call 21; refine (rparts_any _ _).mono ?_; rintro e w' ⟨rfl, rfl⟩; rw [HS.out]) | (go_at_call 23; refine (rhas_any _ _ _ (by decide) (by decide)).mono ?_; rintro e w' ⟨rfl, rfl⟩; simp only [hasB, Int.reduceDiv, Int.reduceMod, Int.reduceBEq]) | (go_at_call 22; refine (rin_any _ _ _ _).mono ?_; rintro e w' ⟨rfl, rfl⟩; first | rw [Hd.out] | rw [Hn.out] | rw [Hm.out] | rw [show inB 0 0 31 = true from rfl]))
  go_ret
  exact ⟨rfl, by repeat' (first | with_reducible exact Below.refl _ _ | with_reducible assumption | with_reducible apply below_drewN | with_reducible apply Below.drew | with_reducible refine Below.setCell ?_ ?_ _ | with_reducible refine Below.alloc ?_ ?_ _ | omega | (simp; done) | (simp; omega))⟩

set_option maxRecDepth 100000 in
theorem rrn1_kind (op d n imm kind : Int) (hs : sumX op = 11) (Rd : inB d 0 31 = true) (Rn : inB n 0 31 = true) (hz : (kind != 0) = true) (w : World) : Calls Try.prog 11 #[.agg #[.int .i64 op, .int .i64 d, .int .i64 n, .int .i64 0, .int .i64 imm, .int .i64 kind]] w (RetB (.bool false) w) := by
  have HS := Lib.hid hs
  have Hd := Lib.hid Rd
  have Hn := Lib.hid Rn
  clear hs Rd Rn
  go_enter Try.func11, Try.ntmps11
  go_wp2_with (first | (go_at_call 21; refine (rparts_any _ _).mono ?_; rintro e w' ⟨rfl, rfl⟩; rw [HS.out]) | (go_at_call 23; refine (rhas_any _ _ _ (by decide) (by decide)).mono ?_; rintro e w' ⟨rfl, rfl⟩; simp only [hasB, Int.reduceDiv, Int.reduceMod, Int.reduceBEq]) | (go_at_call 22; refine (rin_any _ _ _ _).mono ?_; rintro e w' ⟨rfl, rfl⟩; first | rw [Hd.out] | rw [Hn.out] | rw [show inB 0 0 31 = true from rfl]))
  go_ret
  exact ⟨rfl, by repeat' (first | with_reducible exact Below.refl _ _ | with_reducible assumption | with_reducible apply below_drewN | with_reducible apply Below.drew | with_reducible refine Below.setCell ?_ ?_ _ | with_reducible refine Below.alloc ?_ ?_ _ | omega | (simp; done) | (simp; omega))⟩

set_option maxRecDepth 100000 in
theorem rry2 (d n imm : Int) (Rd : inB d 0 31 = true) (Rn : inB n 0 31 = true) (w : World) : Calls Try.prog 11 #[.agg #[.int .i64 2, .int .i64 d, .int .i64 n, .int .i64 0, .int .i64 imm, .int .i64 0]] w (RetB (.bool (numR ⟨2, d, n, 0, imm, 0⟩)) w) := by
  have HS : Hid (sumX 2 = 11) := Lib.hid rfl
  have Hd := Lib.hid Rd
  have Hn := Lib.hid Rn
  clear Rd Rn
  go_enter Try.func11, Try.ntmps11
  go_wp2_with (first | (go_at_call 21; refine (rparts_any _ _).mono ?_; rintro e w' ⟨rfl, rfl⟩; rw [HS.out]) | (go_at_call 23; refine (rhas_any _ _ _ (by decide) (by decide)).mono ?_; rintro e w' ⟨rfl, rfl⟩; simp only [hasB, Int.reduceDiv, Int.reduceMod, Int.reduceBEq]) | (go_at_call 22; refine (rin_any _ _ _ _).mono ?_; rintro e w' ⟨rfl, rfl⟩; first | rw [Hd.out] | rw [Hn.out] | rw [show inB 0 0 31 = true from rfl] | skip))
  all_goals
    go_ret
    refine ⟨?_, by repeat' (first | with_reducible exact Below.refl _ _ | with_reducible assumption | with_reducible apply below_drewN | with_reducible apply Below.drew | with_reducible refine Below.setCell ?_ ?_ _ | with_reducible refine Below.alloc ?_ ?_ _ | omega | (simp; done) | (simp; omega))⟩
    simp [numR, *]

set_option maxRecDepth 100000 in
theorem rry3 (d n imm : Int) (Rd : inB d 0 31 = true) (Rn : inB n 0 31 = true) (w : World) : Calls Try.prog 11 #[.agg #[.int .i64 3, .int .i64 d, .int .i64 n, .int .i64 0, .int .i64 imm, .int .i64 0]] w (RetB (.bool (numR ⟨3, d, n, 0, imm, 0⟩)) w) := by
  have HS : Hid (sumX 3 = 11) := Lib.hid rfl
  have Hd := Lib.hid Rd
  have Hn := Lib.hid Rn
  clear Rd Rn
  go_enter Try.func11, Try.ntmps11
  go_wp2_with (first | (go_at_call 21; refine (rparts_any _ _).mono ?_; rintro e w' ⟨rfl, rfl⟩; rw [HS.out]) | (go_at_call 23; refine (rhas_any _ _ _ (by decide) (by decide)).mono ?_; rintro e w' ⟨rfl, rfl⟩; simp only [hasB, Int.reduceDiv, Int.reduceMod, Int.reduceBEq]) | (go_at_call 22; refine (rin_any _ _ _ _).mono ?_; rintro e w' ⟨rfl, rfl⟩; first | rw [Hd.out] | rw [Hn.out] | rw [show inB 0 0 31 = true from rfl] | skip))
  all_goals
    go_ret
    refine ⟨?_, by repeat' (first | with_reducible exact Below.refl _ _ | with_reducible assumption | with_reducible apply below_drewN | with_reducible apply Below.drew | with_reducible refine Below.setCell ?_ ?_ _ | with_reducible refine Below.alloc ?_ ?_ _ | omega | (simp; done) | (simp; omega))⟩
    simp [numR, *]

set_option maxRecDepth 100000 in
theorem rry7 (d n imm : Int) (Rd : inB d 0 31 = true) (Rn : inB n 0 31 = true) (w : World) : Calls Try.prog 11 #[.agg #[.int .i64 7, .int .i64 d, .int .i64 n, .int .i64 0, .int .i64 imm, .int .i64 0]] w (RetB (.bool (numR ⟨7, d, n, 0, imm, 0⟩)) w) := by
  have HS : Hid (sumX 7 = 11) := Lib.hid rfl
  have Hd := Lib.hid Rd
  have Hn := Lib.hid Rn
  clear Rd Rn
  go_enter Try.func11, Try.ntmps11
  go_wp2_with (first | (go_at_call 21; refine (rparts_any _ _).mono ?_; rintro e w' ⟨rfl, rfl⟩; rw [HS.out]) | (go_at_call 23; refine (rhas_any _ _ _ (by decide) (by decide)).mono ?_; rintro e w' ⟨rfl, rfl⟩; simp only [hasB, Int.reduceDiv, Int.reduceMod, Int.reduceBEq]) | (go_at_call 22; refine (rin_any _ _ _ _).mono ?_; rintro e w' ⟨rfl, rfl⟩; first | rw [Hd.out] | rw [Hn.out] | rw [show inB 0 0 31 = true from rfl] | skip))
  all_goals
    go_ret
    refine ⟨?_, by repeat' (first | with_reducible exact Below.refl _ _ | with_reducible assumption | with_reducible apply below_drewN | with_reducible apply Below.drew | with_reducible refine Below.setCell ?_ ?_ _ | with_reducible refine Below.alloc ?_ ?_ _ | omega | (simp; done) | (simp; omega))⟩
    simp [numR, *]

set_option maxRecDepth 100000 in
theorem rrn2_m (op d n m imm kind : Int) (hs : sumX op = 3) (Rd : inB d 0 31 = true) (Rn : inB n 0 31 = true) (Rm : inB m 0 31 = true) (hz : (m != 0) = true) (w : World) : Calls Try.prog 11 #[.agg #[.int .i64 op, .int .i64 d, .int .i64 n, .int .i64 m, .int .i64 imm, .int .i64 kind]] w (RetB (.bool false) w) := by
  have HS := Lib.hid hs
  have Hd := Lib.hid Rd
  have Hn := Lib.hid Rn
  have Hm := Lib.hid Rm
  clear hs Rd Rn Rm
  go_enter Try.func11, Try.ntmps11
  go_wp2_with (first | (go_at_call 21; refine (rparts_any _ _).mono ?_; rintro e w' ⟨rfl, rfl⟩; rw [HS.out]) | (go_at_call 23; refine (rhas_any _ _ _ (by decide) (by decide)).mono ?_; rintro e w' ⟨rfl, rfl⟩; simp only [hasB, Int.reduceDiv, Int.reduceMod, Int.reduceBEq]) | (go_at_call 22; refine (rin_any _ _ _ _).mono ?_; rintro e w' ⟨rfl, rfl⟩; first | rw [Hd.out] | rw [Hn.out] | rw [Hm.out] | rw [show inB 0 0 31 = true from rfl]))
  go_ret
  exact ⟨rfl, by repeat' (first | with_reducible exact Below.refl _ _ | with_reducible assumption | with_reducible apply below_drewN | with_reducible apply Below.drew | with_reducible refine Below.setCell ?_ ?_ _ | with_reducible refine Below.alloc ?_ ?_ _ | omega | (simp; done) | (simp; omega))⟩

set_option maxRecDepth 100000 in
theorem rrn2_imm (op d n imm kind : Int) (hs : sumX op = 3) (Rd : inB d 0 31 = true) (Rn : inB n 0 31 = true) (hz : (imm != 0) = true) (w : World) : Calls Try.prog 11 #[.agg #[.int .i64 op, .int .i64 d, .int .i64 n, .int .i64 0, .int .i64 imm, .int .i64 kind]] w (RetB (.bool false) w) := by
  have HS := Lib.hid hs
  have Hd := Lib.hid Rd
  have Hn := Lib.hid Rn
  clear hs Rd Rn
  go_enter Try.func11, Try.ntmps11
  go_wp2_with (first | (go_at_call 21; refine (rparts_any _ _).mono ?_; rintro e w' ⟨rfl, rfl⟩; rw [HS.out]) | (go_at_call 23; refine (rhas_any _ _ _ (by decide) (by decide)).mono ?_; rintro e w' ⟨rfl, rfl⟩; simp only [hasB, Int.reduceDiv, Int.reduceMod, Int.reduceBEq]) | (go_at_call 22; refine (rin_any _ _ _ _).mono ?_; rintro e w' ⟨rfl, rfl⟩; first | rw [Hd.out] | rw [Hn.out] | rw [show inB 0 0 31 = true from rfl]))
  go_ret
  exact ⟨rfl, by repeat' (first | with_reducible exact Below.refl _ _ | with_reducible assumption | with_reducible apply below_drewN | with_reducible apply Below.drew | with_reducible refine Below.setCell ?_ ?_ _ | with_reducible refine Below.alloc ?_ ?_ _ | omega | (simp; done) | (simp; omega))⟩

set_option maxRecDepth 100000 in
theorem rrn2_kind (op d n kind : Int) (hs : sumX op = 3) (Rd : inB d 0 31 = true) (Rn : inB n 0 31 = true) (hz : (kind != 0) = true) (w : World) : Calls Try.prog 11 #[.agg #[.int .i64 op, .int .i64 d, .int .i64 n, .int .i64 0, .int .i64 0, .int .i64 kind]] w (RetB (.bool false) w) := by
  have HS := Lib.hid hs
  have Hd := Lib.hid Rd
  have Hn := Lib.hid Rn
  clear hs Rd Rn
  go_enter Try.func11, Try.ntmps11
  go_wp2_with (first | (go_at_call 21; refine (rparts_any _ _).mono ?_; rintro e w' ⟨rfl, rfl⟩; rw [HS.out]) | (go_at_call 23; refine (rhas_any _ _ _ (by decide) (by decide)).mono ?_; rintro e w' ⟨rfl, rfl⟩; simp only [hasB, Int.reduceDiv, Int.reduceMod, Int.reduceBEq]) | (go_at_call 22; refine (rin_any _ _ _ _).mono ?_; rintro e w' ⟨rfl, rfl⟩; first | rw [Hd.out] | rw [Hn.out] | rw [show inB 0 0 31 = true from rfl]))
  go_ret
  exact ⟨rfl, by repeat' (first | with_reducible exact Below.refl _ _ | with_reducible assumption | with_reducible apply below_drewN | with_reducible apply Below.drew | with_reducible refine Below.setCell ?_ ?_ _ | with_reducible refine Below.alloc ?_ ?_ _ | omega | (simp; done) | (simp; omega))⟩

set_option maxRecDepth 100000 in
theorem rry4 (d n : Int) (Rd : inB d 0 31 = true) (Rn : inB n 0 31 = true) (w : World) : Calls Try.prog 11 #[.agg #[.int .i64 4, .int .i64 d, .int .i64 n, .int .i64 0, .int .i64 0, .int .i64 0]] w (RetB (.bool (numR ⟨4, d, n, 0, 0, 0⟩)) w) := by
  have HS : Hid (sumX 4 = 3) := Lib.hid rfl
  have Hd := Lib.hid Rd
  have Hn := Lib.hid Rn
  clear Rd Rn
  go_enter Try.func11, Try.ntmps11
  go_wp2_with (first | (go_at_call 21; refine (rparts_any _ _).mono ?_; rintro e w' ⟨rfl, rfl⟩; rw [HS.out]) | (go_at_call 23; refine (rhas_any _ _ _ (by decide) (by decide)).mono ?_; rintro e w' ⟨rfl, rfl⟩; simp only [hasB, Int.reduceDiv, Int.reduceMod, Int.reduceBEq]) | (go_at_call 22; refine (rin_any _ _ _ _).mono ?_; rintro e w' ⟨rfl, rfl⟩; first | rw [Hd.out] | rw [Hn.out] | rw [show inB 0 0 31 = true from rfl] | skip))
  all_goals
    go_ret
    refine ⟨?_, by repeat' (first | with_reducible exact Below.refl _ _ | with_reducible assumption | with_reducible apply below_drewN | with_reducible apply Below.drew | with_reducible refine Below.setCell ?_ ?_ _ | with_reducible refine Below.alloc ?_ ?_ _ | omega | (simp; done) | (simp; omega))⟩
    simp [numR, *]

set_option maxRecDepth 100000 in
theorem rry5 (d n : Int) (Rd : inB d 0 31 = true) (Rn : inB n 0 31 = true) (w : World) : Calls Try.prog 11 #[.agg #[.int .i64 5, .int .i64 d, .int .i64 n, .int .i64 0, .int .i64 0, .int .i64 0]] w (RetB (.bool (numR ⟨5, d, n, 0, 0, 0⟩)) w) := by
  have HS : Hid (sumX 5 = 3) := Lib.hid rfl
  have Hd := Lib.hid Rd
  have Hn := Lib.hid Rn
  clear Rd Rn
  go_enter Try.func11, Try.ntmps11
  go_wp2_with (first | (go_at_call 21; refine (rparts_any _ _).mono ?_; rintro e w' ⟨rfl, rfl⟩; rw [HS.out]) | (go_at_call 23; refine (rhas_any _ _ _ (by decide) (by decide)).mono ?_; rintro e w' ⟨rfl, rfl⟩; simp only [hasB, Int.reduceDiv, Int.reduceMod, Int.reduceBEq]) | (go_at_call 22; refine (rin_any _ _ _ _).mono ?_; rintro e w' ⟨rfl, rfl⟩; first | rw [Hd.out] | rw [Hn.out] | rw [show inB 0 0 31 = true from rfl] | skip))
  all_goals
    go_ret
    refine ⟨?_, by repeat' (first | with_reducible exact Below.refl _ _ | with_reducible assumption | with_reducible apply below_drewN | with_reducible apply Below.drew | with_reducible refine Below.setCell ?_ ?_ _ | with_reducible refine Below.alloc ?_ ?_ _ | omega | (simp; done) | (simp; omega))⟩
    simp [numR, *]

set_option maxRecDepth 100000 in
theorem rrn3_n (op d n m imm kind : Int) (hs : sumX op = 25) (Rd : inB d 0 31 = true) (Rn : inB n 0 31 = true) (Rm : inB m 0 31 = true) (hz : (n != 0) = true) (w : World) : Calls Try.prog 11 #[.agg #[.int .i64 op, .int .i64 d, .int .i64 n, .int .i64 m, .int .i64 imm, .int .i64 kind]] w (RetB (.bool false) w) := by
  have HS := Lib.hid hs
  have Hd := Lib.hid Rd
  have Hn := Lib.hid Rn
  have Hm := Lib.hid Rm
  clear hs Rd Rn Rm
  go_enter Try.func11, Try.ntmps11
  go_wp2_with (first | (go_at_call 21; refine (rparts_any _ _).mono ?_; rintro e w' ⟨rfl, rfl⟩; rw [HS.out]) | (go_at_call 23; refine (rhas_any _ _ _ (by decide) (by decide)).mono ?_; rintro e w' ⟨rfl, rfl⟩; simp only [hasB, Int.reduceDiv, Int.reduceMod, Int.reduceBEq]) | (go_at_call 22; refine (rin_any _ _ _ _).mono ?_; rintro e w' ⟨rfl, rfl⟩; first | rw [Hd.out] | rw [Hn.out] | rw [Hm.out] | rw [show inB 0 0 31 = true from rfl]))
  go_ret
  exact ⟨rfl, by repeat' (first | with_reducible exact Below.refl _ _ | with_reducible assumption | with_reducible apply below_drewN | with_reducible apply Below.drew | with_reducible refine Below.setCell ?_ ?_ _ | with_reducible refine Below.alloc ?_ ?_ _ | omega | (simp; done) | (simp; omega))⟩

set_option maxRecDepth 100000 in
theorem rrn3_m (op d m imm kind : Int) (hs : sumX op = 25) (Rd : inB d 0 31 = true) (Rm : inB m 0 31 = true) (hz : (m != 0) = true) (w : World) : Calls Try.prog 11 #[.agg #[.int .i64 op, .int .i64 d, .int .i64 0, .int .i64 m, .int .i64 imm, .int .i64 kind]] w (RetB (.bool false) w) := by
  have HS := Lib.hid hs
  have Hd := Lib.hid Rd
  have Hm := Lib.hid Rm
  clear hs Rd Rm
  go_enter Try.func11, Try.ntmps11
  go_wp2_with (first | (go_at_call 21; refine (rparts_any _ _).mono ?_; rintro e w' ⟨rfl, rfl⟩; rw [HS.out]) | (go_at_call 23; refine (rhas_any _ _ _ (by decide) (by decide)).mono ?_; rintro e w' ⟨rfl, rfl⟩; simp only [hasB, Int.reduceDiv, Int.reduceMod, Int.reduceBEq]) | (go_at_call 22; refine (rin_any _ _ _ _).mono ?_; rintro e w' ⟨rfl, rfl⟩; first | rw [Hd.out] | rw [Hm.out] | rw [show inB 0 0 31 = true from rfl]))
  go_ret
  exact ⟨rfl, by repeat' (first | with_reducible exact Below.refl _ _ | with_reducible assumption | with_reducible apply below_drewN | with_reducible apply Below.drew | with_reducible refine Below.setCell ?_ ?_ _ | with_reducible refine Below.alloc ?_ ?_ _ | omega | (simp; done) | (simp; omega))⟩

set_option maxRecDepth 100000 in
theorem rry6 (d imm kind : Int) (Rd : inB d 0 31 = true) (w : World) : Calls Try.prog 11 #[.agg #[.int .i64 6, .int .i64 d, .int .i64 0, .int .i64 0, .int .i64 imm, .int .i64 kind]] w (RetB (.bool (numR ⟨6, d, 0, 0, imm, kind⟩)) w) := by
  have HS : Hid (sumX 6 = 25) := Lib.hid rfl
  have Hd := Lib.hid Rd
  clear Rd
  go_enter Try.func11, Try.ntmps11
  go_wp2_with (first | (go_at_call 21; refine (rparts_any _ _).mono ?_; rintro e w' ⟨rfl, rfl⟩; rw [HS.out]) | (go_at_call 23; refine (rhas_any _ _ _ (by decide) (by decide)).mono ?_; rintro e w' ⟨rfl, rfl⟩; simp only [hasB, Int.reduceDiv, Int.reduceMod, Int.reduceBEq]) | (go_at_call 22; refine (rin_any _ _ _ _).mono ?_; rintro e w' ⟨rfl, rfl⟩; first | rw [Hd.out] | rw [show inB 0 0 31 = true from rfl] | skip))
  all_goals
    go_ret
    refine ⟨?_, by repeat' (first | with_reducible exact Below.refl _ _ | with_reducible assumption | with_reducible apply below_drewN | with_reducible apply Below.drew | with_reducible refine Below.setCell ?_ ?_ _ | with_reducible refine Below.alloc ?_ ?_ _ | omega | (simp; done) | (simp; omega))⟩
    simp [numR, *]

set_option maxRecDepth 100000 in
theorem rrn4_imm (op d n m imm kind : Int) (hs : sumX op = 7) (Rd : inB d 0 31 = true) (Rn : inB n 0 31 = true) (Rm : inB m 0 31 = true) (hz : (imm != 0) = true) (w : World) : Calls Try.prog 11 #[.agg #[.int .i64 op, .int .i64 d, .int .i64 n, .int .i64 m, .int .i64 imm, .int .i64 kind]] w (RetB (.bool false) w) := by
  have HS := Lib.hid hs
  have Hd := Lib.hid Rd
  have Hn := Lib.hid Rn
  have Hm := Lib.hid Rm
  clear hs Rd Rn Rm
  go_enter Try.func11, Try.ntmps11
  go_wp2_with (first | (go_at_call 21; refine (rparts_any _ _).mono ?_; rintro e w' ⟨rfl, rfl⟩; rw [HS.out]) | (go_at_call 23; refine (rhas_any _ _ _ (by decide) (by decide)).mono ?_; rintro e w' ⟨rfl, rfl⟩; simp only [hasB, Int.reduceDiv, Int.reduceMod, Int.reduceBEq]) | (go_at_call 22; refine (rin_any _ _ _ _).mono ?_; rintro e w' ⟨rfl, rfl⟩; first | rw [Hd.out] | rw [Hn.out] | rw [Hm.out] | rw [show inB 0 0 31 = true from rfl]))
  go_ret
  exact ⟨rfl, by repeat' (first | with_reducible exact Below.refl _ _ | with_reducible assumption | with_reducible apply below_drewN | with_reducible apply Below.drew | with_reducible refine Below.setCell ?_ ?_ _ | with_reducible refine Below.alloc ?_ ?_ _ | omega | (simp; done) | (simp; omega))⟩

set_option maxRecDepth 100000 in
theorem rrn4_kind (op d n m kind : Int) (hs : sumX op = 7) (Rd : inB d 0 31 = true) (Rn : inB n 0 31 = true) (Rm : inB m 0 31 = true) (hz : (kind != 0) = true) (w : World) : Calls Try.prog 11 #[.agg #[.int .i64 op, .int .i64 d, .int .i64 n, .int .i64 m, .int .i64 0, .int .i64 kind]] w (RetB (.bool false) w) := by
  have HS := Lib.hid hs
  have Hd := Lib.hid Rd
  have Hn := Lib.hid Rn
  have Hm := Lib.hid Rm
  clear hs Rd Rn Rm
  go_enter Try.func11, Try.ntmps11
  go_wp2_with (first | (go_at_call 21; refine (rparts_any _ _).mono ?_; rintro e w' ⟨rfl, rfl⟩; rw [HS.out]) | (go_at_call 23; refine (rhas_any _ _ _ (by decide) (by decide)).mono ?_; rintro e w' ⟨rfl, rfl⟩; simp only [hasB, Int.reduceDiv, Int.reduceMod, Int.reduceBEq]) | (go_at_call 22; refine (rin_any _ _ _ _).mono ?_; rintro e w' ⟨rfl, rfl⟩; first | rw [Hd.out] | rw [Hn.out] | rw [Hm.out] | rw [show inB 0 0 31 = true from rfl]))
  go_ret
  exact ⟨rfl, by repeat' (first | with_reducible exact Below.refl _ _ | with_reducible assumption | with_reducible apply below_drewN | with_reducible apply Below.drew | with_reducible refine Below.setCell ?_ ?_ _ | with_reducible refine Below.alloc ?_ ?_ _ | omega | (simp; done) | (simp; omega))⟩

set_option maxRecDepth 100000 in
theorem rry8 (d n m : Int) (Rd : inB d 0 31 = true) (Rn : inB n 0 31 = true) (Rm : inB m 0 31 = true) (w : World) : Calls Try.prog 11 #[.agg #[.int .i64 8, .int .i64 d, .int .i64 n, .int .i64 m, .int .i64 0, .int .i64 0]] w (RetB (.bool (numR ⟨8, d, n, m, 0, 0⟩)) w) := by
  have HS : Hid (sumX 8 = 7) := Lib.hid rfl
  have Hd := Lib.hid Rd
  have Hn := Lib.hid Rn
  have Hm := Lib.hid Rm
  clear Rd Rn Rm
  go_enter Try.func11, Try.ntmps11
  go_wp2_with (first | (go_at_call 21; refine (rparts_any _ _).mono ?_; rintro e w' ⟨rfl, rfl⟩; rw [HS.out]) | (go_at_call 23; refine (rhas_any _ _ _ (by decide) (by decide)).mono ?_; rintro e w' ⟨rfl, rfl⟩; simp only [hasB, Int.reduceDiv, Int.reduceMod, Int.reduceBEq]) | (go_at_call 22; refine (rin_any _ _ _ _).mono ?_; rintro e w' ⟨rfl, rfl⟩; first | rw [Hd.out] | rw [Hn.out] | rw [Hm.out] | rw [show inB 0 0 31 = true from rfl] | skip))
  all_goals
    go_ret
    refine ⟨?_, by repeat' (first | with_reducible exact Below.refl _ _ | with_reducible assumption | with_reducible apply below_drewN | with_reducible apply Below.drew | with_reducible refine Below.setCell ?_ ?_ _ | with_reducible refine Below.alloc ?_ ?_ _ | omega | (simp; done) | (simp; omega))⟩
    simp [numR, *]

set_option maxRecDepth 100000 in
theorem rry9 (d n m : Int) (Rd : inB d 0 31 = true) (Rn : inB n 0 31 = true) (Rm : inB m 0 31 = true) (w : World) : Calls Try.prog 11 #[.agg #[.int .i64 9, .int .i64 d, .int .i64 n, .int .i64 m, .int .i64 0, .int .i64 0]] w (RetB (.bool (numR ⟨9, d, n, m, 0, 0⟩)) w) := by
  have HS : Hid (sumX 9 = 7) := Lib.hid rfl
  have Hd := Lib.hid Rd
  have Hn := Lib.hid Rn
  have Hm := Lib.hid Rm
  clear Rd Rn Rm
  go_enter Try.func11, Try.ntmps11
  go_wp2_with (first | (go_at_call 21; refine (rparts_any _ _).mono ?_; rintro e w' ⟨rfl, rfl⟩; rw [HS.out]) | (go_at_call 23; refine (rhas_any _ _ _ (by decide) (by decide)).mono ?_; rintro e w' ⟨rfl, rfl⟩; simp only [hasB, Int.reduceDiv, Int.reduceMod, Int.reduceBEq]) | (go_at_call 22; refine (rin_any _ _ _ _).mono ?_; rintro e w' ⟨rfl, rfl⟩; first | rw [Hd.out] | rw [Hn.out] | rw [Hm.out] | rw [show inB 0 0 31 = true from rfl] | skip))
  all_goals
    go_ret
    refine ⟨?_, by repeat' (first | with_reducible exact Below.refl _ _ | with_reducible assumption | with_reducible apply below_drewN | with_reducible apply Below.drew | with_reducible refine Below.setCell ?_ ?_ _ | with_reducible refine Below.alloc ?_ ?_ _ | omega | (simp; done) | (simp; omega))⟩
    simp [numR, *]

set_option maxRecDepth 100000 in
theorem rry10 (d n m : Int) (Rd : inB d 0 31 = true) (Rn : inB n 0 31 = true) (Rm : inB m 0 31 = true) (w : World) : Calls Try.prog 11 #[.agg #[.int .i64 10, .int .i64 d, .int .i64 n, .int .i64 m, .int .i64 0, .int .i64 0]] w (RetB (.bool (numR ⟨10, d, n, m, 0, 0⟩)) w) := by
  have HS : Hid (sumX 10 = 7) := Lib.hid rfl
  have Hd := Lib.hid Rd
  have Hn := Lib.hid Rn
  have Hm := Lib.hid Rm
  clear Rd Rn Rm
  go_enter Try.func11, Try.ntmps11
  go_wp2_with (first | (go_at_call 21; refine (rparts_any _ _).mono ?_; rintro e w' ⟨rfl, rfl⟩; rw [HS.out]) | (go_at_call 23; refine (rhas_any _ _ _ (by decide) (by decide)).mono ?_; rintro e w' ⟨rfl, rfl⟩; simp only [hasB, Int.reduceDiv, Int.reduceMod, Int.reduceBEq]) | (go_at_call 22; refine (rin_any _ _ _ _).mono ?_; rintro e w' ⟨rfl, rfl⟩; first | rw [Hd.out] | rw [Hn.out] | rw [Hm.out] | rw [show inB 0 0 31 = true from rfl] | skip))
  all_goals
    go_ret
    refine ⟨?_, by repeat' (first | with_reducible exact Below.refl _ _ | with_reducible assumption | with_reducible apply below_drewN | with_reducible apply Below.drew | with_reducible refine Below.setCell ?_ ?_ _ | with_reducible refine Below.alloc ?_ ?_ _ | omega | (simp; done) | (simp; omega))⟩
    simp [numR, *]

set_option maxRecDepth 100000 in
theorem rry11 (d n m : Int) (Rd : inB d 0 31 = true) (Rn : inB n 0 31 = true) (Rm : inB m 0 31 = true) (w : World) : Calls Try.prog 11 #[.agg #[.int .i64 11, .int .i64 d, .int .i64 n, .int .i64 m, .int .i64 0, .int .i64 0]] w (RetB (.bool (numR ⟨11, d, n, m, 0, 0⟩)) w) := by
  have HS : Hid (sumX 11 = 7) := Lib.hid rfl
  have Hd := Lib.hid Rd
  have Hn := Lib.hid Rn
  have Hm := Lib.hid Rm
  clear Rd Rn Rm
  go_enter Try.func11, Try.ntmps11
  go_wp2_with (first | (go_at_call 21; refine (rparts_any _ _).mono ?_; rintro e w' ⟨rfl, rfl⟩; rw [HS.out]) | (go_at_call 23; refine (rhas_any _ _ _ (by decide) (by decide)).mono ?_; rintro e w' ⟨rfl, rfl⟩; simp only [hasB, Int.reduceDiv, Int.reduceMod, Int.reduceBEq]) | (go_at_call 22; refine (rin_any _ _ _ _).mono ?_; rintro e w' ⟨rfl, rfl⟩; first | rw [Hd.out] | rw [Hn.out] | rw [Hm.out] | rw [show inB 0 0 31 = true from rfl] | skip))
  all_goals
    go_ret
    refine ⟨?_, by repeat' (first | with_reducible exact Below.refl _ _ | with_reducible assumption | with_reducible apply below_drewN | with_reducible apply Below.drew | with_reducible refine Below.setCell ?_ ?_ _ | with_reducible refine Below.alloc ?_ ?_ _ | omega | (simp; done) | (simp; omega))⟩
    simp [numR, *]

set_option maxRecDepth 100000 in
theorem rry12 (d n m : Int) (Rd : inB d 0 31 = true) (Rn : inB n 0 31 = true) (Rm : inB m 0 31 = true) (w : World) : Calls Try.prog 11 #[.agg #[.int .i64 12, .int .i64 d, .int .i64 n, .int .i64 m, .int .i64 0, .int .i64 0]] w (RetB (.bool (numR ⟨12, d, n, m, 0, 0⟩)) w) := by
  have HS : Hid (sumX 12 = 7) := Lib.hid rfl
  have Hd := Lib.hid Rd
  have Hn := Lib.hid Rn
  have Hm := Lib.hid Rm
  clear Rd Rn Rm
  go_enter Try.func11, Try.ntmps11
  go_wp2_with (first | (go_at_call 21; refine (rparts_any _ _).mono ?_; rintro e w' ⟨rfl, rfl⟩; rw [HS.out]) | (go_at_call 23; refine (rhas_any _ _ _ (by decide) (by decide)).mono ?_; rintro e w' ⟨rfl, rfl⟩; simp only [hasB, Int.reduceDiv, Int.reduceMod, Int.reduceBEq]) | (go_at_call 22; refine (rin_any _ _ _ _).mono ?_; rintro e w' ⟨rfl, rfl⟩; first | rw [Hd.out] | rw [Hn.out] | rw [Hm.out] | rw [show inB 0 0 31 = true from rfl] | skip))
  all_goals
    go_ret
    refine ⟨?_, by repeat' (first | with_reducible exact Below.refl _ _ | with_reducible assumption | with_reducible apply below_drewN | with_reducible apply Below.drew | with_reducible refine Below.setCell ?_ ?_ _ | with_reducible refine Below.alloc ?_ ?_ _ | omega | (simp; done) | (simp; omega))⟩
    simp [numR, *]

set_option maxRecDepth 100000 in
theorem rry13 (d n m : Int) (Rd : inB d 0 31 = true) (Rn : inB n 0 31 = true) (Rm : inB m 0 31 = true) (w : World) : Calls Try.prog 11 #[.agg #[.int .i64 13, .int .i64 d, .int .i64 n, .int .i64 m, .int .i64 0, .int .i64 0]] w (RetB (.bool (numR ⟨13, d, n, m, 0, 0⟩)) w) := by
  have HS : Hid (sumX 13 = 7) := Lib.hid rfl
  have Hd := Lib.hid Rd
  have Hn := Lib.hid Rn
  have Hm := Lib.hid Rm
  clear Rd Rn Rm
  go_enter Try.func11, Try.ntmps11
  go_wp2_with (first | (go_at_call 21; refine (rparts_any _ _).mono ?_; rintro e w' ⟨rfl, rfl⟩; rw [HS.out]) | (go_at_call 23; refine (rhas_any _ _ _ (by decide) (by decide)).mono ?_; rintro e w' ⟨rfl, rfl⟩; simp only [hasB, Int.reduceDiv, Int.reduceMod, Int.reduceBEq]) | (go_at_call 22; refine (rin_any _ _ _ _).mono ?_; rintro e w' ⟨rfl, rfl⟩; first | rw [Hd.out] | rw [Hn.out] | rw [Hm.out] | rw [show inB 0 0 31 = true from rfl] | skip))
  all_goals
    go_ret
    refine ⟨?_, by repeat' (first | with_reducible exact Below.refl _ _ | with_reducible assumption | with_reducible apply below_drewN | with_reducible apply Below.drew | with_reducible refine Below.setCell ?_ ?_ _ | with_reducible refine Below.alloc ?_ ?_ _ | omega | (simp; done) | (simp; omega))⟩
    simp [numR, *]

set_option maxRecDepth 100000 in
theorem rrn5_d (op d n m imm kind : Int) (hs : sumX op = 8) (Rd : inB d 0 31 = true) (Rn : inB n 0 31 = true) (Rm : inB m 0 31 = true) (hz : (d != 0) = true) (w : World) : Calls Try.prog 11 #[.agg #[.int .i64 op, .int .i64 d, .int .i64 n, .int .i64 m, .int .i64 imm, .int .i64 kind]] w (RetB (.bool false) w) := by
  have HS := Lib.hid hs
  have Hd := Lib.hid Rd
  have Hn := Lib.hid Rn
  have Hm := Lib.hid Rm
  clear hs Rd Rn Rm
  go_enter Try.func11, Try.ntmps11
  go_wp2_with (first | (go_at_call 21; refine (rparts_any _ _).mono ?_; rintro e w' ⟨rfl, rfl⟩; rw [HS.out]) | (go_at_call 23; refine (rhas_any _ _ _ (by decide) (by decide)).mono ?_; rintro e w' ⟨rfl, rfl⟩; simp only [hasB, Int.reduceDiv, Int.reduceMod, Int.reduceBEq]) | (go_at_call 22; refine (rin_any _ _ _ _).mono ?_; rintro e w' ⟨rfl, rfl⟩; first | rw [Hd.out] | rw [Hn.out] | rw [Hm.out] | rw [show inB 0 0 31 = true from rfl]))
  go_ret
  exact ⟨rfl, by repeat' (first | with_reducible exact Below.refl _ _ | with_reducible assumption | with_reducible apply below_drewN | with_reducible apply Below.drew | with_reducible refine Below.setCell ?_ ?_ _ | with_reducible refine Below.alloc ?_ ?_ _ | omega | (simp; done) | (simp; omega))⟩

set_option maxRecDepth 100000 in
theorem rrn5_n (op n m imm kind : Int) (hs : sumX op = 8) (Rn : inB n 0 31 = true) (Rm : inB m 0 31 = true) (hz : (n != 0) = true) (w : World) : Calls Try.prog 11 #[.agg #[.int .i64 op, .int .i64 0, .int .i64 n, .int .i64 m, .int .i64 imm, .int .i64 kind]] w (RetB (.bool false) w) := by
  have HS := Lib.hid hs
  have Hn := Lib.hid Rn
  have Hm := Lib.hid Rm
  clear hs Rn Rm
  go_enter Try.func11, Try.ntmps11
  go_wp2_with (first | (go_at_call 21; refine (rparts_any _ _).mono ?_; rintro e w' ⟨rfl, rfl⟩; rw [HS.out]) | (go_at_call 23; refine (rhas_any _ _ _ (by decide) (by decide)).mono ?_; rintro e w' ⟨rfl, rfl⟩; simp only [hasB, Int.reduceDiv, Int.reduceMod, Int.reduceBEq]) | (go_at_call 22; refine (rin_any _ _ _ _).mono ?_; rintro e w' ⟨rfl, rfl⟩; first | rw [Hn.out] | rw [Hm.out] | rw [show inB 0 0 31 = true from rfl]))
  go_ret
  exact ⟨rfl, by repeat' (first | with_reducible exact Below.refl _ _ | with_reducible assumption | with_reducible apply below_drewN | with_reducible apply Below.drew | with_reducible refine Below.setCell ?_ ?_ _ | with_reducible refine Below.alloc ?_ ?_ _ | omega | (simp; done) | (simp; omega))⟩

set_option maxRecDepth 100000 in
theorem rrn5_m (op m imm kind : Int) (hs : sumX op = 8) (Rm : inB m 0 31 = true) (hz : (m != 0) = true) (w : World) : Calls Try.prog 11 #[.agg #[.int .i64 op, .int .i64 0, .int .i64 0, .int .i64 m, .int .i64 imm, .int .i64 kind]] w (RetB (.bool false) w) := by
  have HS := Lib.hid hs
  have Hm := Lib.hid Rm
  clear hs Rm
  go_enter Try.func11, Try.ntmps11
  go_wp2_with (first | (go_at_call 21; refine (rparts_any _ _).mono ?_; rintro e w' ⟨rfl, rfl⟩; rw [HS.out]) | (go_at_call 23; refine (rhas_any _ _ _ (by decide) (by decide)).mono ?_; rintro e w' ⟨rfl, rfl⟩; simp only [hasB, Int.reduceDiv, Int.reduceMod, Int.reduceBEq]) | (go_at_call 22; refine (rin_any _ _ _ _).mono ?_; rintro e w' ⟨rfl, rfl⟩; first | rw [Hm.out] | rw [show inB 0 0 31 = true from rfl]))
  go_ret
  exact ⟨rfl, by repeat' (first | with_reducible exact Below.refl _ _ | with_reducible assumption | with_reducible apply below_drewN | with_reducible apply Below.drew | with_reducible refine Below.setCell ?_ ?_ _ | with_reducible refine Below.alloc ?_ ?_ _ | omega | (simp; done) | (simp; omega))⟩

set_option maxRecDepth 100000 in
theorem rrn5_kind (op imm kind : Int) (hs : sumX op = 8)  (hz : (kind != 0) = true) (w : World) : Calls Try.prog 11 #[.agg #[.int .i64 op, .int .i64 0, .int .i64 0, .int .i64 0, .int .i64 imm, .int .i64 kind]] w (RetB (.bool false) w) := by
  have HS := Lib.hid hs

  clear hs 
  go_enter Try.func11, Try.ntmps11
  go_wp2_with (first | (go_at_call 21; refine (rparts_any _ _).mono ?_; rintro e w' ⟨rfl, rfl⟩; rw [HS.out]) | (go_at_call 23; refine (rhas_any _ _ _ (by decide) (by decide)).mono ?_; rintro e w' ⟨rfl, rfl⟩; simp only [hasB, Int.reduceDiv, Int.reduceMod, Int.reduceBEq]) | (go_at_call 22; refine (rin_any _ _ _ _).mono ?_; rintro e w' ⟨rfl, rfl⟩; first | rw [show inB 0 0 31 = true from rfl]))
  go_ret
  exact ⟨rfl, by repeat' (first | with_reducible exact Below.refl _ _ | with_reducible assumption | with_reducible apply below_drewN | with_reducible apply Below.drew | with_reducible refine Below.setCell ?_ ?_ _ | with_reducible refine Below.alloc ?_ ?_ _ | omega | (simp; done) | (simp; omega))⟩

set_option maxRecDepth 100000 in
theorem rry14 (imm : Int)  (w : World) : Calls Try.prog 11 #[.agg #[.int .i64 14, .int .i64 0, .int .i64 0, .int .i64 0, .int .i64 imm, .int .i64 0]] w (RetB (.bool (numR ⟨14, 0, 0, 0, imm, 0⟩)) w) := by
  have HS : Hid (sumX 14 = 8) := Lib.hid rfl

  go_enter Try.func11, Try.ntmps11
  go_wp2_with (first | (go_at_call 21; refine (rparts_any _ _).mono ?_; rintro e w' ⟨rfl, rfl⟩; rw [HS.out]) | (go_at_call 23; refine (rhas_any _ _ _ (by decide) (by decide)).mono ?_; rintro e w' ⟨rfl, rfl⟩; simp only [hasB, Int.reduceDiv, Int.reduceMod, Int.reduceBEq]) | (go_at_call 22; refine (rin_any _ _ _ _).mono ?_; rintro e w' ⟨rfl, rfl⟩; first | rw [show inB 0 0 31 = true from rfl] | skip))
  all_goals
    go_ret
    refine ⟨?_, by repeat' (first | with_reducible exact Below.refl _ _ | with_reducible assumption | with_reducible apply below_drewN | with_reducible apply Below.drew | with_reducible refine Below.setCell ?_ ?_ _ | with_reducible refine Below.alloc ?_ ?_ _ | omega | (simp; done) | (simp; omega))⟩
    simp [numR, *]

set_option maxRecDepth 100000 in
theorem rrn6_n (op d n m imm kind : Int) (hs : sumX op = 9) (Rd : inB d 0 31 = true) (Rn : inB n 0 31 = true) (Rm : inB m 0 31 = true) (hz : (n != 0) = true) (w : World) : Calls Try.prog 11 #[.agg #[.int .i64 op, .int .i64 d, .int .i64 n, .int .i64 m, .int .i64 imm, .int .i64 kind]] w (RetB (.bool false) w) := by
  have HS := Lib.hid hs
  have Hd := Lib.hid Rd
  have Hn := Lib.hid Rn
  have Hm := Lib.hid Rm
  clear hs Rd Rn Rm
  go_enter Try.func11, Try.ntmps11
  go_wp2_with (first | (go_at_call 21; refine (rparts_any _ _).mono ?_; rintro e w' ⟨rfl, rfl⟩; rw [HS.out]) | (go_at_call 23; refine (rhas_any _ _ _ (by decide) (by decide)).mono ?_; rintro e w' ⟨rfl, rfl⟩; simp only [hasB, Int.reduceDiv, Int.reduceMod, Int.reduceBEq]) | (go_at_call 22; refine (rin_any _ _ _ _).mono ?_; rintro e w' ⟨rfl, rfl⟩; first | rw [Hd.out] | rw [Hn.out] | rw [Hm.out] | rw [show inB 0 0 31 = true from rfl]))
  go_ret
  exact ⟨rfl, by repeat' (first | with_reducible exact Below.refl _ _ | with_reducible assumption | with_reducible apply below_drewN | with_reducible apply Below.drew | with_reducible refine Below.setCell ?_ ?_ _ | with_reducible refine Below.alloc ?_ ?_ _ | omega | (simp; done) | (simp; omega))⟩

set_option maxRecDepth 100000 in
theorem rrn6_m (op d m imm kind : Int) (hs : sumX op = 9) (Rd : inB d 0 31 = true) (Rm : inB m 0 31 = true) (hz : (m != 0) = true) (w : World) : Calls Try.prog 11 #[.agg #[.int .i64 op, .int .i64 d, .int .i64 0, .int .i64 m, .int .i64 imm, .int .i64 kind]] w (RetB (.bool false) w) := by
  have HS := Lib.hid hs
  have Hd := Lib.hid Rd
  have Hm := Lib.hid Rm
  clear hs Rd Rm
  go_enter Try.func11, Try.ntmps11
  go_wp2_with (first | (go_at_call 21; refine (rparts_any _ _).mono ?_; rintro e w' ⟨rfl, rfl⟩; rw [HS.out]) | (go_at_call 23; refine (rhas_any _ _ _ (by decide) (by decide)).mono ?_; rintro e w' ⟨rfl, rfl⟩; simp only [hasB, Int.reduceDiv, Int.reduceMod, Int.reduceBEq]) | (go_at_call 22; refine (rin_any _ _ _ _).mono ?_; rintro e w' ⟨rfl, rfl⟩; first | rw [Hd.out] | rw [Hm.out] | rw [show inB 0 0 31 = true from rfl]))
  go_ret
  exact ⟨rfl, by repeat' (first | with_reducible exact Below.refl _ _ | with_reducible assumption | with_reducible apply below_drewN | with_reducible apply Below.drew | with_reducible refine Below.setCell ?_ ?_ _ | with_reducible refine Below.alloc ?_ ?_ _ | omega | (simp; done) | (simp; omega))⟩

set_option maxRecDepth 100000 in
theorem rrn6_kind (op d imm kind : Int) (hs : sumX op = 9) (Rd : inB d 0 31 = true) (hz : (kind != 0) = true) (w : World) : Calls Try.prog 11 #[.agg #[.int .i64 op, .int .i64 d, .int .i64 0, .int .i64 0, .int .i64 imm, .int .i64 kind]] w (RetB (.bool false) w) := by
  have HS := Lib.hid hs
  have Hd := Lib.hid Rd
  clear hs Rd
  go_enter Try.func11, Try.ntmps11
  go_wp2_with (first | (go_at_call 21; refine (rparts_any _ _).mono ?_; rintro e w' ⟨rfl, rfl⟩; rw [HS.out]) | (go_at_call 23; refine (rhas_any _ _ _ (by decide) (by decide)).mono ?_; rintro e w' ⟨rfl, rfl⟩; simp only [hasB, Int.reduceDiv, Int.reduceMod, Int.reduceBEq]) | (go_at_call 22; refine (rin_any _ _ _ _).mono ?_; rintro e w' ⟨rfl, rfl⟩; first | rw [Hd.out] | rw [show inB 0 0 31 = true from rfl]))
  go_ret
  exact ⟨rfl, by repeat' (first | with_reducible exact Below.refl _ _ | with_reducible assumption | with_reducible apply below_drewN | with_reducible apply Below.drew | with_reducible refine Below.setCell ?_ ?_ _ | with_reducible refine Below.alloc ?_ ?_ _ | omega | (simp; done) | (simp; omega))⟩

set_option maxRecDepth 100000 in
theorem rry15 (d imm : Int) (Rd : inB d 0 31 = true) (w : World) : Calls Try.prog 11 #[.agg #[.int .i64 15, .int .i64 d, .int .i64 0, .int .i64 0, .int .i64 imm, .int .i64 0]] w (RetB (.bool (numR ⟨15, d, 0, 0, imm, 0⟩)) w) := by
  have HS : Hid (sumX 15 = 9) := Lib.hid rfl
  have Hd := Lib.hid Rd
  clear Rd
  go_enter Try.func11, Try.ntmps11
  go_wp2_with (first | (go_at_call 21; refine (rparts_any _ _).mono ?_; rintro e w' ⟨rfl, rfl⟩; rw [HS.out]) | (go_at_call 23; refine (rhas_any _ _ _ (by decide) (by decide)).mono ?_; rintro e w' ⟨rfl, rfl⟩; simp only [hasB, Int.reduceDiv, Int.reduceMod, Int.reduceBEq]) | (go_at_call 22; refine (rin_any _ _ _ _).mono ?_; rintro e w' ⟨rfl, rfl⟩; first | rw [Hd.out] | rw [show inB 0 0 31 = true from rfl] | skip))
  all_goals
    go_ret
    refine ⟨?_, by repeat' (first | with_reducible exact Below.refl _ _ | with_reducible assumption | with_reducible apply below_drewN | with_reducible apply Below.drew | with_reducible refine Below.setCell ?_ ?_ _ | with_reducible refine Below.alloc ?_ ?_ _ | omega | (simp; done) | (simp; omega))⟩
    simp [numR, *]

set_option maxRecDepth 100000 in
theorem rry16 (d imm : Int) (Rd : inB d 0 31 = true) (w : World) : Calls Try.prog 11 #[.agg #[.int .i64 16, .int .i64 d, .int .i64 0, .int .i64 0, .int .i64 imm, .int .i64 0]] w (RetB (.bool (numR ⟨16, d, 0, 0, imm, 0⟩)) w) := by
  have HS : Hid (sumX 16 = 9) := Lib.hid rfl
  have Hd := Lib.hid Rd
  clear Rd
  go_enter Try.func11, Try.ntmps11
  go_wp2_with (first | (go_at_call 21; refine (rparts_any _ _).mono ?_; rintro e w' ⟨rfl, rfl⟩; rw [HS.out]) | (go_at_call 23; refine (rhas_any _ _ _ (by decide) (by decide)).mono ?_; rintro e w' ⟨rfl, rfl⟩; simp only [hasB, Int.reduceDiv, Int.reduceMod, Int.reduceBEq]) | (go_at_call 22; refine (rin_any _ _ _ _).mono ?_; rintro e w' ⟨rfl, rfl⟩; first | rw [Hd.out] | rw [show inB 0 0 31 = true from rfl] | skip))
  all_goals
    go_ret
    refine ⟨?_, by repeat' (first | with_reducible exact Below.refl _ _ | with_reducible assumption | with_reducible apply below_drewN | with_reducible apply Below.drew | with_reducible refine Below.setCell ?_ ?_ _ | with_reducible refine Below.alloc ?_ ?_ _ | omega | (simp; done) | (simp; omega))⟩
    simp [numR, *]

set_option maxRecDepth 100000 in
theorem rrn7_d (op d n m imm kind : Int) (hs : sumX op = 24) (Rd : inB d 0 31 = true) (Rn : inB n 0 31 = true) (Rm : inB m 0 31 = true) (hz : (d != 0) = true) (w : World) : Calls Try.prog 11 #[.agg #[.int .i64 op, .int .i64 d, .int .i64 n, .int .i64 m, .int .i64 imm, .int .i64 kind]] w (RetB (.bool false) w) := by
  have HS := Lib.hid hs
  have Hd := Lib.hid Rd
  have Hn := Lib.hid Rn
  have Hm := Lib.hid Rm
  clear hs Rd Rn Rm
  go_enter Try.func11, Try.ntmps11
  go_wp2_with (first | (go_at_call 21; refine (rparts_any _ _).mono ?_; rintro e w' ⟨rfl, rfl⟩; rw [HS.out]) | (go_at_call 23; refine (rhas_any _ _ _ (by decide) (by decide)).mono ?_; rintro e w' ⟨rfl, rfl⟩; simp only [hasB, Int.reduceDiv, Int.reduceMod, Int.reduceBEq]) | (go_at_call 22; refine (rin_any _ _ _ _).mono ?_; rintro e w' ⟨rfl, rfl⟩; first | rw [Hd.out] | rw [Hn.out] | rw [Hm.out] | rw [show inB 0 0 31 = true from rfl]))
  go_ret
  exact ⟨rfl, by repeat' (first | with_reducible exact Below.refl _ _ | with_reducible assumption | with_reducible apply below_drewN | with_reducible apply Below.drew | with_reducible refine Below.setCell ?_ ?_ _ | with_reducible refine Below.alloc ?_ ?_ _ | omega | (simp; done) | (simp; omega))⟩

set_option maxRecDepth 100000 in
theorem rrn7_n (op n m imm kind : Int) (hs : sumX op = 24) (Rn : inB n 0 31 = true) (Rm : inB m 0 31 = true) (hz : (n != 0) = true) (w : World) : Calls Try.prog 11 #[.agg #[.int .i64 op, .int .i64 0, .int .i64 n, .int .i64 m, .int .i64 imm, .int .i64 kind]] w (RetB (.bool false) w) := by
  have HS := Lib.hid hs
  have Hn := Lib.hid Rn
  have Hm := Lib.hid Rm
  clear hs Rn Rm
  go_enter Try.func11, Try.ntmps11
  go_wp2_with (first | (go_at_call 21; refine (rparts_any _ _).mono ?_; rintro e w' ⟨rfl, rfl⟩; rw [HS.out]) | (go_at_call 23; refine (rhas_any _ _ _ (by decide) (by decide)).mono ?_; rintro e w' ⟨rfl, rfl⟩; simp only [hasB, Int.reduceDiv, Int.reduceMod, Int.reduceBEq]) | (go_at_call 22; refine (rin_any _ _ _ _).mono ?_; rintro e w' ⟨rfl, rfl⟩; first | rw [Hn.out] | rw [Hm.out] | rw [show inB 0 0 31 = true from rfl]))
  go_ret
  exact ⟨rfl, by repeat' (first | with_reducible exact Below.refl _ _ | with_reducible assumption | with_reducible apply below_drewN | with_reducible apply Below.drew | with_reducible refine Below.setCell ?_ ?_ _ | with_reducible refine Below.alloc ?_ ?_ _ | omega | (simp; done) | (simp; omega))⟩

set_option maxRecDepth 100000 in
theorem rrn7_m (op m imm kind : Int) (hs : sumX op = 24) (Rm : inB m 0 31 = true) (hz : (m != 0) = true) (w : World) : Calls Try.prog 11 #[.agg #[.int .i64 op, .int .i64 0, .int .i64 0, .int .i64 m, .int .i64 imm, .int .i64 kind]] w (RetB (.bool false) w) := by
  have HS := Lib.hid hs
  have Hm := Lib.hid Rm
  clear hs Rm
  go_enter Try.func11, Try.ntmps11
  go_wp2_with (first | (go_at_call 21; refine (rparts_any _ _).mono ?_; rintro e w' ⟨rfl, rfl⟩; rw [HS.out]) | (go_at_call 23; refine (rhas_any _ _ _ (by decide) (by decide)).mono ?_; rintro e w' ⟨rfl, rfl⟩; simp only [hasB, Int.reduceDiv, Int.reduceMod, Int.reduceBEq]) | (go_at_call 22; refine (rin_any _ _ _ _).mono ?_; rintro e w' ⟨rfl, rfl⟩; first | rw [Hm.out] | rw [show inB 0 0 31 = true from rfl]))
  go_ret
  exact ⟨rfl, by repeat' (first | with_reducible exact Below.refl _ _ | with_reducible assumption | with_reducible apply below_drewN | with_reducible apply Below.drew | with_reducible refine Below.setCell ?_ ?_ _ | with_reducible refine Below.alloc ?_ ?_ _ | omega | (simp; done) | (simp; omega))⟩

set_option maxRecDepth 100000 in
theorem rry17 (imm kind : Int)  (w : World) : Calls Try.prog 11 #[.agg #[.int .i64 17, .int .i64 0, .int .i64 0, .int .i64 0, .int .i64 imm, .int .i64 kind]] w (RetB (.bool (numR ⟨17, 0, 0, 0, imm, kind⟩)) w) := by
  have HS : Hid (sumX 17 = 24) := Lib.hid rfl

  go_enter Try.func11, Try.ntmps11
  go_wp2_with (first | (go_at_call 21; refine (rparts_any _ _).mono ?_; rintro e w' ⟨rfl, rfl⟩; rw [HS.out]) | (go_at_call 23; refine (rhas_any _ _ _ (by decide) (by decide)).mono ?_; rintro e w' ⟨rfl, rfl⟩; simp only [hasB, Int.reduceDiv, Int.reduceMod, Int.reduceBEq]) | (go_at_call 22; refine (rin_any _ _ _ _).mono ?_; rintro e w' ⟨rfl, rfl⟩; first | rw [show inB 0 0 31 = true from rfl] | skip))
  all_goals
    go_ret
    refine ⟨?_, by repeat' (first | with_reducible exact Below.refl _ _ | with_reducible assumption | with_reducible apply below_drewN | with_reducible apply Below.drew | with_reducible refine Below.setCell ?_ ?_ _ | with_reducible refine Below.alloc ?_ ?_ _ | omega | (simp; done) | (simp; omega))⟩
    simp [numR, *]

set_option maxRecDepth 100000 in
theorem rrn8_d (op d n m imm kind : Int) (hs : sumX op = 16) (Rd : inB d 0 31 = true) (Rn : inB n 0 31 = true) (Rm : inB m 0 31 = true) (hz : (d != 0) = true) (w : World) : Calls Try.prog 11 #[.agg #[.int .i64 op, .int .i64 d, .int .i64 n, .int .i64 m, .int .i64 imm, .int .i64 kind]] w (RetB (.bool false) w) := by
  have HS := Lib.hid hs
  have Hd := Lib.hid Rd
  have Hn := Lib.hid Rn
  have Hm := Lib.hid Rm
  clear hs Rd Rn Rm
  go_enter Try.func11, Try.ntmps11
  go_wp2_with (first | (go_at_call 21; refine (rparts_any _ _).mono ?_; rintro e w' ⟨rfl, rfl⟩; rw [HS.out]) | (go_at_call 23; refine (rhas_any _ _ _ (by decide) (by decide)).mono ?_; rintro e w' ⟨rfl, rfl⟩; simp only [hasB, Int.reduceDiv, Int.reduceMod, Int.reduceBEq]) | (go_at_call 22; refine (rin_any _ _ _ _).mono ?_; rintro e w' ⟨rfl, rfl⟩; first | rw [Hd.out] | rw [Hn.out] | rw [Hm.out] | rw [show inB 0 0 31 = true from rfl]))
  go_ret
  exact ⟨rfl, by repeat' (first | with_reducible exact Below.refl _ _ | with_reducible assumption | with_reducible apply below_drewN | with_reducible apply Below.drew | with_reducible refine Below.setCell ?_ ?_ _ | with_reducible refine Below.alloc ?_ ?_ _ | omega | (simp; done) | (simp; omega))⟩

set_option maxRecDepth 100000 in
theorem rrn8_n (op n m imm kind : Int) (hs : sumX op = 16) (Rn : inB n 0 31 = true) (Rm : inB m 0 31 = true) (hz : (n != 0) = true) (w : World) : Calls Try.prog 11 #[.agg #[.int .i64 op, .int .i64 0, .int .i64 n, .int .i64 m, .int .i64 imm, .int .i64 kind]] w (RetB (.bool false) w) := by
  have HS := Lib.hid hs
  have Hn := Lib.hid Rn
  have Hm := Lib.hid Rm
  clear hs Rn Rm
  go_enter Try.func11, Try.ntmps11
  go_wp2_with (first | (go_at_call 21; refine (rparts_any _ _).mono ?_; rintro e w' ⟨rfl, rfl⟩; rw [HS.out]) | (go_at_call 23; refine (rhas_any _ _ _ (by decide) (by decide)).mono ?_; rintro e w' ⟨rfl, rfl⟩; simp only [hasB, Int.reduceDiv, Int.reduceMod, Int.reduceBEq]) | (go_at_call 22; refine (rin_any _ _ _ _).mono ?_; rintro e w' ⟨rfl, rfl⟩; first | rw [Hn.out] | rw [Hm.out] | rw [show inB 0 0 31 = true from rfl]))
  go_ret
  exact ⟨rfl, by repeat' (first | with_reducible exact Below.refl _ _ | with_reducible assumption | with_reducible apply below_drewN | with_reducible apply Below.drew | with_reducible refine Below.setCell ?_ ?_ _ | with_reducible refine Below.alloc ?_ ?_ _ | omega | (simp; done) | (simp; omega))⟩

set_option maxRecDepth 100000 in
theorem rrn8_m (op m imm kind : Int) (hs : sumX op = 16) (Rm : inB m 0 31 = true) (hz : (m != 0) = true) (w : World) : Calls Try.prog 11 #[.agg #[.int .i64 op, .int .i64 0, .int .i64 0, .int .i64 m, .int .i64 imm, .int .i64 kind]] w (RetB (.bool false) w) := by
  have HS := Lib.hid hs
  have Hm := Lib.hid Rm
  clear hs Rm
  go_enter Try.func11, Try.ntmps11
  go_wp2_with (first | (go_at_call 21; refine (rparts_any _ _).mono ?_; rintro e w' ⟨rfl, rfl⟩; rw [HS.out]) | (go_at_call 23; refine (rhas_any _ _ _ (by decide) (by decide)).mono ?_; rintro e w' ⟨rfl, rfl⟩; simp only [hasB, Int.reduceDiv, Int.reduceMod, Int.reduceBEq]) | (go_at_call 22; refine (rin_any _ _ _ _).mono ?_; rintro e w' ⟨rfl, rfl⟩; first | rw [Hm.out] | rw [show inB 0 0 31 = true from rfl]))
  go_ret
  exact ⟨rfl, by repeat' (first | with_reducible exact Below.refl _ _ | with_reducible assumption | with_reducible apply below_drewN | with_reducible apply Below.drew | with_reducible refine Below.setCell ?_ ?_ _ | with_reducible refine Below.alloc ?_ ?_ _ | omega | (simp; done) | (simp; omega))⟩

set_option maxRecDepth 100000 in
theorem rrn8_imm (op imm kind : Int) (hs : sumX op = 16)  (hz : (imm != 0) = true) (w : World) : Calls Try.prog 11 #[.agg #[.int .i64 op, .int .i64 0, .int .i64 0, .int .i64 0, .int .i64 imm, .int .i64 kind]] w (RetB (.bool false) w) := by
  have HS := Lib.hid hs

  clear hs 
  go_enter Try.func11, Try.ntmps11
  go_wp2_with (first | (go_at_call 21; refine (rparts_any _ _).mono ?_; rintro e w' ⟨rfl, rfl⟩; rw [HS.out]) | (go_at_call 23; refine (rhas_any _ _ _ (by decide) (by decide)).mono ?_; rintro e w' ⟨rfl, rfl⟩; simp only [hasB, Int.reduceDiv, Int.reduceMod, Int.reduceBEq]) | (go_at_call 22; refine (rin_any _ _ _ _).mono ?_; rintro e w' ⟨rfl, rfl⟩; first | rw [show inB 0 0 31 = true from rfl]))
  go_ret
  exact ⟨rfl, by repeat' (first | with_reducible exact Below.refl _ _ | with_reducible assumption | with_reducible apply below_drewN | with_reducible apply Below.drew | with_reducible refine Below.setCell ?_ ?_ _ | with_reducible refine Below.alloc ?_ ?_ _ | omega | (simp; done) | (simp; omega))⟩

set_option maxRecDepth 100000 in
theorem rry18 (kind : Int)  (w : World) : Calls Try.prog 11 #[.agg #[.int .i64 18, .int .i64 0, .int .i64 0, .int .i64 0, .int .i64 0, .int .i64 kind]] w (RetB (.bool (numR ⟨18, 0, 0, 0, 0, kind⟩)) w) := by
  have HS : Hid (sumX 18 = 16) := Lib.hid rfl

  go_enter Try.func11, Try.ntmps11
  go_wp2_with (first | (go_at_call 21; refine (rparts_any _ _).mono ?_; rintro e w' ⟨rfl, rfl⟩; rw [HS.out]) | (go_at_call 23; refine (rhas_any _ _ _ (by decide) (by decide)).mono ?_; rintro e w' ⟨rfl, rfl⟩; simp only [hasB, Int.reduceDiv, Int.reduceMod, Int.reduceBEq]) | (go_at_call 22; refine (rin_any _ _ _ _).mono ?_; rintro e w' ⟨rfl, rfl⟩; first | rw [show inB 0 0 31 = true from rfl] | skip))
  all_goals
    go_ret
    refine ⟨?_, by repeat' (first | with_reducible exact Below.refl _ _ | with_reducible assumption | with_reducible apply below_drewN | with_reducible apply Below.drew | with_reducible refine Below.setCell ?_ ?_ _ | with_reducible refine Below.alloc ?_ ?_ _ | omega | (simp; done) | (simp; omega))⟩
    simp [numR, *]

set_option maxRecDepth 100000 in
theorem rry19 (kind : Int)  (w : World) : Calls Try.prog 11 #[.agg #[.int .i64 19, .int .i64 0, .int .i64 0, .int .i64 0, .int .i64 0, .int .i64 kind]] w (RetB (.bool (numR ⟨19, 0, 0, 0, 0, kind⟩)) w) := by
  have HS : Hid (sumX 19 = 16) := Lib.hid rfl

  go_enter Try.func11, Try.ntmps11
  go_wp2_with (first | (go_at_call 21; refine (rparts_any _ _).mono ?_; rintro e w' ⟨rfl, rfl⟩; rw [HS.out]) | (go_at_call 23; refine (rhas_any _ _ _ (by decide) (by decide)).mono ?_; rintro e w' ⟨rfl, rfl⟩; simp only [hasB, Int.reduceDiv, Int.reduceMod, Int.reduceBEq]) | (go_at_call 22; refine (rin_any _ _ _ _).mono ?_; rintro e w' ⟨rfl, rfl⟩; first | rw [show inB 0 0 31 = true from rfl] | skip))
  all_goals
    go_ret
    refine ⟨?_, by repeat' (first | with_reducible exact Below.refl _ _ | with_reducible assumption | with_reducible apply below_drewN | with_reducible apply Below.drew | with_reducible refine Below.setCell ?_ ?_ _ | with_reducible refine Below.alloc ?_ ?_ _ | omega | (simp; done) | (simp; omega))⟩
    simp [numR, *]

set_option maxRecDepth 100000 in
theorem rrn9_n (op d n m imm kind : Int) (hs : sumX op = 17) (Rd : inB d 0 31 = true) (Rn : inB n 0 31 = true) (Rm : inB m 0 31 = true) (hz : (n != 0) = true) (w : World) : Calls Try.prog 11 #[.agg #[.int .i64 op, .int .i64 d, .int .i64 n, .int .i64 m, .int .i64 imm, .int .i64 kind]] w (RetB (.bool false) w) := by
  have HS := Lib.hid hs
  have Hd := Lib.hid Rd
  have Hn := Lib.hid Rn
  have Hm := Lib.hid Rm
  clear hs Rd Rn Rm
  go_enter Try.func11, Try.ntmps11
  go_wp2_with (first | (go_at_call 21; refine (rparts_any _ _).mono ?_; rintro e w' ⟨rfl, rfl⟩; rw [HS.out]) | (go_at_call 23; refine (rhas_any _ _ _ (by decide) (by decide)).mono ?_; rintro e w' ⟨rfl, rfl⟩; simp only [hasB, Int.reduceDiv, Int.reduceMod, Int.reduceBEq]) | (go_at_call 22; refine (rin_any _ _ _ _).mono ?_; rintro e w' ⟨rfl, rfl⟩; first | rw [Hd.out] | rw [Hn.out] | rw [Hm.out] | rw [show inB 0 0 31 = true from rfl]))
  go_ret
  exact ⟨rfl, by repeat' (first | with_reducible exact Below.refl _ _ | with_reducible assumption | with_reducible apply below_drewN | with_reducible apply Below.drew | with_reducible refine Below.setCell ?_ ?_ _ | with_reducible refine Below.alloc ?_ ?_ _ | omega | (simp; done) | (simp; omega))⟩

set_option maxRecDepth 100000 in
theorem rrn9_m (op d m imm kind : Int) (hs : sumX op = 17) (Rd : inB d 0 31 = true) (Rm : inB m 0 31 = true) (hz : (m != 0) = true) (w : World) : Calls Try.prog 11 #[.agg #[.int .i64 op, .int .i64 d, .int .i64 0, .int .i64 m, .int .i64 imm, .int .i64 kind]] w (RetB (.bool false) w) := by
  have HS := Lib.hid hs
  have Hd := Lib.hid Rd
  have Hm := Lib.hid Rm
  clear hs Rd Rm
  go_enter Try.func11, Try.ntmps11
  go_wp2_with (first | (go_at_call 21; refine (rparts_any _ _).mono ?_; rintro e w' ⟨rfl, rfl⟩; rw [HS.out]) | (go_at_call 23; refine (rhas_any _ _ _ (by decide) (by decide)).mono ?_; rintro e w' ⟨rfl, rfl⟩; simp only [hasB, Int.reduceDiv, Int.reduceMod, Int.reduceBEq]) | (go_at_call 22; refine (rin_any _ _ _ _).mono ?_; rintro e w' ⟨rfl, rfl⟩; first | rw [Hd.out] | rw [Hm.out] | rw [show inB 0 0 31 = true from rfl]))
  go_ret
  exact ⟨rfl, by repeat' (first | with_reducible exact Below.refl _ _ | with_reducible assumption | with_reducible apply below_drewN | with_reducible apply Below.drew | with_reducible refine Below.setCell ?_ ?_ _ | with_reducible refine Below.alloc ?_ ?_ _ | omega | (simp; done) | (simp; omega))⟩

set_option maxRecDepth 100000 in
theorem rrn9_imm (op d imm kind : Int) (hs : sumX op = 17) (Rd : inB d 0 31 = true) (hz : (imm != 0) = true) (w : World) : Calls Try.prog 11 #[.agg #[.int .i64 op, .int .i64 d, .int .i64 0, .int .i64 0, .int .i64 imm, .int .i64 kind]] w (RetB (.bool false) w) := by
  have HS := Lib.hid hs
  have Hd := Lib.hid Rd
  clear hs Rd
  go_enter Try.func11, Try.ntmps11
  go_wp2_with (first | (go_at_call 21; refine (rparts_any _ _).mono ?_; rintro e w' ⟨rfl, rfl⟩; rw [HS.out]) | (go_at_call 23; refine (rhas_any _ _ _ (by decide) (by decide)).mono ?_; rintro e w' ⟨rfl, rfl⟩; simp only [hasB, Int.reduceDiv, Int.reduceMod, Int.reduceBEq]) | (go_at_call 22; refine (rin_any _ _ _ _).mono ?_; rintro e w' ⟨rfl, rfl⟩; first | rw [Hd.out] | rw [show inB 0 0 31 = true from rfl]))
  go_ret
  exact ⟨rfl, by repeat' (first | with_reducible exact Below.refl _ _ | with_reducible assumption | with_reducible apply below_drewN | with_reducible apply Below.drew | with_reducible refine Below.setCell ?_ ?_ _ | with_reducible refine Below.alloc ?_ ?_ _ | omega | (simp; done) | (simp; omega))⟩

set_option maxRecDepth 100000 in
theorem rry21 (d kind : Int) (Rd : inB d 0 31 = true) (w : World) : Calls Try.prog 11 #[.agg #[.int .i64 21, .int .i64 d, .int .i64 0, .int .i64 0, .int .i64 0, .int .i64 kind]] w (RetB (.bool (numR ⟨21, d, 0, 0, 0, kind⟩)) w) := by
  have HS : Hid (sumX 21 = 17) := Lib.hid rfl
  have Hd := Lib.hid Rd
  clear Rd
  go_enter Try.func11, Try.ntmps11
  go_wp2_with (first | (go_at_call 21; refine (rparts_any _ _).mono ?_; rintro e w' ⟨rfl, rfl⟩; rw [HS.out]) | (go_at_call 23; refine (rhas_any _ _ _ (by decide) (by decide)).mono ?_; rintro e w' ⟨rfl, rfl⟩; simp only [hasB, Int.reduceDiv, Int.reduceMod, Int.reduceBEq]) | (go_at_call 22; refine (rin_any _ _ _ _).mono ?_; rintro e w' ⟨rfl, rfl⟩; first | rw [Hd.out] | rw [show inB 0 0 31 = true from rfl] | skip))
  all_goals
    go_ret
    refine ⟨?_, by repeat' (first | with_reducible exact Below.refl _ _ | with_reducible assumption | with_reducible apply below_drewN | with_reducible apply Below.drew | with_reducible refine Below.setCell ?_ ?_ _ | with_reducible refine Below.alloc ?_ ?_ _ | omega | (simp; done) | (simp; omega))⟩
    simp [numR, *]

set_option maxRecDepth 100000 in
theorem rry23 (d kind : Int) (Rd : inB d 0 31 = true) (w : World) : Calls Try.prog 11 #[.agg #[.int .i64 23, .int .i64 d, .int .i64 0, .int .i64 0, .int .i64 0, .int .i64 kind]] w (RetB (.bool (numR ⟨23, d, 0, 0, 0, kind⟩)) w) := by
  have HS : Hid (sumX 23 = 17) := Lib.hid rfl
  have Hd := Lib.hid Rd
  clear Rd
  go_enter Try.func11, Try.ntmps11
  go_wp2_with (first | (go_at_call 21; refine (rparts_any _ _).mono ?_; rintro e w' ⟨rfl, rfl⟩; rw [HS.out]) | (go_at_call 23; refine (rhas_any _ _ _ (by decide) (by decide)).mono ?_; rintro e w' ⟨rfl, rfl⟩; simp only [hasB, Int.reduceDiv, Int.reduceMod, Int.reduceBEq]) | (go_at_call 22; refine (rin_any _ _ _ _).mono ?_; rintro e w' ⟨rfl, rfl⟩; first | rw [Hd.out] | rw [show inB 0 0 31 = true from rfl] | skip))
  all_goals
    go_ret
    refine ⟨?_, by repeat' (first | with_reducible exact Below.refl _ _ | with_reducible assumption | with_reducible apply below_drewN | with_reducible apply Below.drew | with_reducible refine Below.setCell ?_ ?_ _ | with_reducible refine Below.alloc ?_ ?_ _ | omega | (simp; done) | (simp; omega))⟩
    simp [numR, *]

theorem sum_group (op : Int) (h : opB op = true) : (shX op = ⟨false, false, false, false, false⟩ ∧ sumX op = 0 ∧ (op = 1 ∨ op = 20 ∨ op = 22)) ∨ (shX op = ⟨true, true, false, true, false⟩ ∧ sumX op = 11 ∧ (op = 2 ∨ op = 3 ∨ op = 7)) ∨ (shX op = ⟨true, true, false, false, false⟩ ∧ sumX op = 3 ∧ (op = 4 ∨ op = 5)) ∨ (shX op = ⟨true, false, false, true, true⟩ ∧ sumX op = 25 ∧ (op = 6)) ∨ (shX op = ⟨true, true, true, false, false⟩ ∧ sumX op = 7 ∧ (op = 8 ∨ op = 9 ∨ op = 10 ∨ op = 11 ∨ op = 12 ∨ op = 13)) ∨ (shX op = ⟨false, false, false, true, false⟩ ∧ sumX op = 8 ∧ (op = 14)) ∨ (shX op = ⟨true, false, false, true, false⟩ ∧ sumX op = 9 ∧ (op = 15 ∨ op = 16)) ∨ (shX op = ⟨false, false, false, true, true⟩ ∧ sumX op = 24 ∧ (op = 17)) ∨ (shX op = ⟨false, false, false, false, true⟩ ∧ sumX op = 16 ∧ (op = 18 ∨ op = 19)) ∨ (shX op = ⟨true, false, false, false, true⟩ ∧ sumX op = 17 ∧ (op = 21 ∨ op = 23)) := by
  have h2 : 1 ≤ op ∧ op ≤ 23 := by simpa [opB] using h
  clear h
  have h3 : op = 1 ∨ op = 2 ∨ op = 3 ∨ op = 4 ∨ op = 5 ∨ op = 6 ∨ op = 7 ∨ op = 8 ∨ op = 9 ∨ op = 10 ∨ op = 11 ∨ op = 12 ∨ op = 13 ∨ op = 14 ∨ op = 15 ∨ op = 16 ∨ op = 17 ∨ op = 18 ∨ op = 19 ∨ op = 20 ∨ op = 21 ∨ op = 22 ∨ op = 23 := by omega
  clear h2
  rcases h3 with rfl | rfl | rfl | rfl | rfl | rfl | rfl | rfl | rfl | rfl | rfl | rfl | rfl | rfl | rfl | rfl | rfl | rfl | rfl | rfl | rfl | rfl | rfl <;> simp [shX, sumX]

theorem inB_reg (a : Int) : inB a 0 31 = regB a := rfl

theorem rright_any (x : X) (w : World) : Calls Try.prog 11 #[instrV x] w (RetB (.bool (decide (rightP x))) w) := by
  have hri := right_iff x
  rw [← numR_eq] at hri
  obtain ⟨op, d, n, m, imm, kind⟩ := x
  simp only [← inB_reg] at hri
  simp only [instrV]
  have no : ∀ (h : ¬ rightP ⟨op, d, n, m, imm, kind⟩), decide (rightP ⟨op, d, n, m, imm, kind⟩) = false := fun h => by simp [h]
  by_cases ho : opB op = true
  · rcases sum_group op ho with ⟨hs, hS, ho2⟩ | ⟨hs, hS, ho2⟩ | ⟨hs, hS, ho2⟩ | ⟨hs, hS, ho2⟩ | ⟨hs, hS, ho2⟩ | ⟨hs, hS, ho2⟩ | ⟨hs, hS, ho2⟩ | ⟨hs, hS, ho2⟩ | ⟨hs, hS, ho2⟩ | ⟨hs, hS, ho2⟩
    all_goals
      rw [hs] at hri
      simp only [Bool.false_eq_true, true_or, false_or, ho, true_and] at hri
      cases rd : inB d 0 31
      · rw [no (fun h => by have := hri.1 h; simp_all)]
        exact rrn_d op d n m imm kind _ (by omega) hS rd w
      cases rn : inB n 0 31
      · rw [no (fun h => by have := hri.1 h; simp_all)]
        exact rrn_n op d n m imm kind _ (by omega) hS rd rn w
      cases rm : inB m 0 31
      · rw [no (fun h => by have := hri.1 h; simp_all)]
        exact rrn_m op d n m imm kind _ (by omega) hS rd rn rm w
    · by_cases z0 : d = 0
      rotate_left
      · rw [no (fun h => by have := hri.1 h; simp_all)]
        exact rrn0_d op _ _ _ _ _ hS rd rn rm (bne_iff_ne.2 z0) w
      subst z0
      by_cases z1 : n = 0
      rotate_left
      · rw [no (fun h => by have := hri.1 h; simp_all)]
        exact rrn0_n op _ _ _ _ hS rn rm (bne_iff_ne.2 z1) w
      subst z1
      by_cases z2 : m = 0
      rotate_left
      · rw [no (fun h => by have := hri.1 h; simp_all)]
        exact rrn0_m op _ _ _ hS rm (bne_iff_ne.2 z2) w
      subst z2
      by_cases z3 : imm = 0
      rotate_left
      · rw [no (fun h => by have := hri.1 h; simp_all)]
        exact rrn0_imm op _ _ hS  (bne_iff_ne.2 z3) w
      subst z3
      by_cases z4 : kind = 0
      rotate_left
      · rw [no (fun h => by have := hri.1 h; simp_all)]
        exact rrn0_kind op _ hS  (bne_iff_ne.2 z4) w
      subst z4
      rw [show decide (rightP ⟨op, 0, 0, 0, 0, 0⟩) = numR ⟨op, 0, 0, 0, 0, 0⟩ from Bool.eq_iff_iff.2 (by rw [decide_eq_true_iff, hri]; simp [*])]
      clear hri no hs hS ho
      rcases ho2 with rfl | rfl | rfl
      · exact rry1   w
      · exact rry20   w
      · exact rry22   w
    · by_cases z2 : m = 0
      rotate_left
      · rw [no (fun h => by have := hri.1 h; simp_all)]
        exact rrn1_m op _ _ _ _ _ hS rd rn rm (bne_iff_ne.2 z2) w
      subst z2
      by_cases z4 : kind = 0
      rotate_left
      · rw [no (fun h => by have := hri.1 h; simp_all)]
        exact rrn1_kind op _ _ _ _ hS rd rn (bne_iff_ne.2 z4) w
      subst z4
      rw [show decide (rightP ⟨op, d, n, 0, imm, 0⟩) = numR ⟨op, d, n, 0, imm, 0⟩ from Bool.eq_iff_iff.2 (by rw [decide_eq_true_iff, hri]; simp [*])]
      clear hri no hs hS ho
      rcases ho2 with rfl | rfl | rfl
      · exact rry2 _ _ _ rd rn w
      · exact rry3 _ _ _ rd rn w
      · exact rry7 _ _ _ rd rn w
    · by_cases z2 : m = 0
      rotate_left
      · rw [no (fun h => by have := hri.1 h; simp_all)]
        exact rrn2_m op _ _ _ _ _ hS rd rn rm (bne_iff_ne.2 z2) w
      subst z2
      by_cases z3 : imm = 0
      rotate_left
      · rw [no (fun h => by have := hri.1 h; simp_all)]
        exact rrn2_imm op _ _ _ _ hS rd rn (bne_iff_ne.2 z3) w
      subst z3
      by_cases z4 : kind = 0
      rotate_left
      · rw [no (fun h => by have := hri.1 h; simp_all)]
        exact rrn2_kind op _ _ _ hS rd rn (bne_iff_ne.2 z4) w
      subst z4
      rw [show decide (rightP ⟨op, d, n, 0, 0, 0⟩) = numR ⟨op, d, n, 0, 0, 0⟩ from Bool.eq_iff_iff.2 (by rw [decide_eq_true_iff, hri]; simp [*])]
      clear hri no hs hS ho
      rcases ho2 with rfl | rfl
      · exact rry4 _ _ rd rn w
      · exact rry5 _ _ rd rn w
    · by_cases z1 : n = 0
      rotate_left
      · rw [no (fun h => by have := hri.1 h; simp_all)]
        exact rrn3_n op _ _ _ _ _ hS rd rn rm (bne_iff_ne.2 z1) w
      subst z1
      by_cases z2 : m = 0
      rotate_left
      · rw [no (fun h => by have := hri.1 h; simp_all)]
        exact rrn3_m op _ _ _ _ hS rd rm (bne_iff_ne.2 z2) w
      subst z2
      rw [show decide (rightP ⟨op, d, 0, 0, imm, kind⟩) = numR ⟨op, d, 0, 0, imm, kind⟩ from Bool.eq_iff_iff.2 (by rw [decide_eq_true_iff, hri]; simp [*])]
      clear hri no hs hS ho
      subst ho2
      · exact rry6 _ _ _ rd w
    · by_cases z3 : imm = 0
      rotate_left
      · rw [no (fun h => by have := hri.1 h; simp_all)]
        exact rrn4_imm op _ _ _ _ _ hS rd rn rm (bne_iff_ne.2 z3) w
      subst z3
      by_cases z4 : kind = 0
      rotate_left
      · rw [no (fun h => by have := hri.1 h; simp_all)]
        exact rrn4_kind op _ _ _ _ hS rd rn rm (bne_iff_ne.2 z4) w
      subst z4
      rw [show decide (rightP ⟨op, d, n, m, 0, 0⟩) = numR ⟨op, d, n, m, 0, 0⟩ from Bool.eq_iff_iff.2 (by rw [decide_eq_true_iff, hri]; simp [*])]
      clear hri no hs hS ho
      rcases ho2 with rfl | rfl | rfl | rfl | rfl | rfl
      · exact rry8 _ _ _ rd rn rm w
      · exact rry9 _ _ _ rd rn rm w
      · exact rry10 _ _ _ rd rn rm w
      · exact rry11 _ _ _ rd rn rm w
      · exact rry12 _ _ _ rd rn rm w
      · exact rry13 _ _ _ rd rn rm w
    · by_cases z0 : d = 0
      rotate_left
      · rw [no (fun h => by have := hri.1 h; simp_all)]
        exact rrn5_d op _ _ _ _ _ hS rd rn rm (bne_iff_ne.2 z0) w
      subst z0
      by_cases z1 : n = 0
      rotate_left
      · rw [no (fun h => by have := hri.1 h; simp_all)]
        exact rrn5_n op _ _ _ _ hS rn rm (bne_iff_ne.2 z1) w
      subst z1
      by_cases z2 : m = 0
      rotate_left
      · rw [no (fun h => by have := hri.1 h; simp_all)]
        exact rrn5_m op _ _ _ hS rm (bne_iff_ne.2 z2) w
      subst z2
      by_cases z4 : kind = 0
      rotate_left
      · rw [no (fun h => by have := hri.1 h; simp_all)]
        exact rrn5_kind op _ _ hS  (bne_iff_ne.2 z4) w
      subst z4
      rw [show decide (rightP ⟨op, 0, 0, 0, imm, 0⟩) = numR ⟨op, 0, 0, 0, imm, 0⟩ from Bool.eq_iff_iff.2 (by rw [decide_eq_true_iff, hri]; simp [*])]
      clear hri no hs hS ho
      subst ho2
      · exact rry14 _  w
    · by_cases z1 : n = 0
      rotate_left
      · rw [no (fun h => by have := hri.1 h; simp_all)]
        exact rrn6_n op _ _ _ _ _ hS rd rn rm (bne_iff_ne.2 z1) w
      subst z1
      by_cases z2 : m = 0
      rotate_left
      · rw [no (fun h => by have := hri.1 h; simp_all)]
        exact rrn6_m op _ _ _ _ hS rd rm (bne_iff_ne.2 z2) w
      subst z2
      by_cases z4 : kind = 0
      rotate_left
      · rw [no (fun h => by have := hri.1 h; simp_all)]
        exact rrn6_kind op _ _ _ hS rd (bne_iff_ne.2 z4) w
      subst z4
      rw [show decide (rightP ⟨op, d, 0, 0, imm, 0⟩) = numR ⟨op, d, 0, 0, imm, 0⟩ from Bool.eq_iff_iff.2 (by rw [decide_eq_true_iff, hri]; simp [*])]
      clear hri no hs hS ho
      rcases ho2 with rfl | rfl
      · exact rry15 _ _ rd w
      · exact rry16 _ _ rd w
    · by_cases z0 : d = 0
      rotate_left
      · rw [no (fun h => by have := hri.1 h; simp_all)]
        exact rrn7_d op _ _ _ _ _ hS rd rn rm (bne_iff_ne.2 z0) w
      subst z0
      by_cases z1 : n = 0
      rotate_left
      · rw [no (fun h => by have := hri.1 h; simp_all)]
        exact rrn7_n op _ _ _ _ hS rn rm (bne_iff_ne.2 z1) w
      subst z1
      by_cases z2 : m = 0
      rotate_left
      · rw [no (fun h => by have := hri.1 h; simp_all)]
        exact rrn7_m op _ _ _ hS rm (bne_iff_ne.2 z2) w
      subst z2
      rw [show decide (rightP ⟨op, 0, 0, 0, imm, kind⟩) = numR ⟨op, 0, 0, 0, imm, kind⟩ from Bool.eq_iff_iff.2 (by rw [decide_eq_true_iff, hri]; simp [*])]
      clear hri no hs hS ho
      subst ho2
      · exact rry17 _ _  w
    · by_cases z0 : d = 0
      rotate_left
      · rw [no (fun h => by have := hri.1 h; simp_all)]
        exact rrn8_d op _ _ _ _ _ hS rd rn rm (bne_iff_ne.2 z0) w
      subst z0
      by_cases z1 : n = 0
      rotate_left
      · rw [no (fun h => by have := hri.1 h; simp_all)]
        exact rrn8_n op _ _ _ _ hS rn rm (bne_iff_ne.2 z1) w
      subst z1
      by_cases z2 : m = 0
      rotate_left
      · rw [no (fun h => by have := hri.1 h; simp_all)]
        exact rrn8_m op _ _ _ hS rm (bne_iff_ne.2 z2) w
      subst z2
      by_cases z3 : imm = 0
      rotate_left
      · rw [no (fun h => by have := hri.1 h; simp_all)]
        exact rrn8_imm op _ _ hS  (bne_iff_ne.2 z3) w
      subst z3
      rw [show decide (rightP ⟨op, 0, 0, 0, 0, kind⟩) = numR ⟨op, 0, 0, 0, 0, kind⟩ from Bool.eq_iff_iff.2 (by rw [decide_eq_true_iff, hri]; simp [*])]
      clear hri no hs hS ho
      rcases ho2 with rfl | rfl
      · exact rry18 _  w
      · exact rry19 _  w
    · by_cases z1 : n = 0
      rotate_left
      · rw [no (fun h => by have := hri.1 h; simp_all)]
        exact rrn9_n op _ _ _ _ _ hS rd rn rm (bne_iff_ne.2 z1) w
      subst z1
      by_cases z2 : m = 0
      rotate_left
      · rw [no (fun h => by have := hri.1 h; simp_all)]
        exact rrn9_m op _ _ _ _ hS rd rm (bne_iff_ne.2 z2) w
      subst z2
      by_cases z3 : imm = 0
      rotate_left
      · rw [no (fun h => by have := hri.1 h; simp_all)]
        exact rrn9_imm op _ _ _ hS rd (bne_iff_ne.2 z3) w
      subst z3
      rw [show decide (rightP ⟨op, d, 0, 0, 0, kind⟩) = numR ⟨op, d, 0, 0, 0, kind⟩ from Bool.eq_iff_iff.2 (by rw [decide_eq_true_iff, hri]; simp [*])]
      clear hri no hs hS ho
      rcases ho2 with rfl | rfl
      · exact rry21 _ _ rd w
      · exact rry23 _ _ rd w
  · rw [no (fun h => ho (hri.1 h).1)]
    exact rrn_op op d n m imm kind (by
      have h2 : ¬ (1 ≤ op ∧ op ≤ 23) := by simpa [opB] using ho
      unfold sumX
      repeat rw [if_neg (by omega)]) w


end Go.Proofs.Ytfhnbheknggklaa