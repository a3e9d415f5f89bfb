/- Contracts of field.Dec, field.Int. -/
import Derived.Test.YtdlodacogldinaaField
import Derived.BigQuiet
import Derived.Laws.Strings2
import Derived.Laws.Concat
import Derived.Deep.QuietTactic
namespace Go.Proofs.Ytdlodacogldinaa
open Go.RowKit
set_option linter.unusedSimpArgs false
set_option linter.unusedVariables false

theorem ba_append (a b : List UInt8) : (⟨a.toArray⟩ : ByteArray) ++ ⟨b.toArray⟩ = ⟨(a ++ b).toArray⟩ := by
  exact ByteArray.mk_append_mk a b

def digB (d : Nat) : UInt8 := UInt8.ofNat (48 + d)
/-- Decimal digits. -/
def decL (n : Nat) : List UInt8 := if h : n < 10 then [digB n] else decL (n / 10) ++ [digB (n % 10)]
termination_by n
decreasing_by omega
theorem decL_eq (n : Nat) : decL n = if n < 10 then [digB n] else decL (n / 10) ++ [digB (n % 10)] := by
  rw [decL]
  split <;> rfl

theorem dig_slice (d : Nat) (h : d < 10) : (⟨#[48, 49, 50, 51, 52, 53, 54, 55, 56, 57, 97, 98, 99, 100, 101, 102]⟩ : ByteArray).extract d (d + 1) = ⟨[digB d].toArray⟩ := by
  have key : ∀ d : Fin 10, (⟨#[48, 49, 50, 51, 52, 53, 54, 55, 56, 57, 97, 98, 99, 100, 101, 102]⟩ : ByteArray).extract d.val (d.val + 1) = ⟨[digB d.val].toArray⟩ := by decide
  exact key ⟨d, h⟩

theorem add_run (a b : List UInt8) (h : a.length + b.length ≤ 1000) (w : World) : (Op.stringOp .add ⟨a.toArray⟩ ⟨b.toArray⟩).run Try.prog w = .ok (.string ⟨(a ++ b).toArray⟩) w :=
  run_string_add_lists w a b (by omega) (by omega)
theorem decL_len (k : Nat) : ∀ n, n < 10 ^ (k + 1) → (decL n).length ≤ k + 1 := by
  induction k with
  | zero => intro n h; rw [decL_eq, if_pos (by simpa using h)]; simp
  | succ k ih =>
    intro n h
    rw [decL_eq]
    split
    · simp
    · rw [List.length_append]
      have := ih (n / 10) (by rw [Nat.pow_succ] at h; omega)
      simp
      omega

theorem dig_run (d : Nat) (h : d < 10) (w : World) : (Instr.slice 9 (.string ⟨#[48, 49, 50, 51, 52, 53, 54, 55, 56, 57, 97, 98, 99, 100, 101, 102]⟩) (some (.int .u64 (d : Int))) (some (.int .u64 ((d : Int) + 1))) none).run Try.prog w = .ok ((.string ⟨([digB d]).toArray⟩)) w := by
  have := run_slice_string (P := Try.prog) w 9 ⟨#[48, 49, 50, 51, 52, 53, 54, 55, 56, 57, 97, 98, 99, 100, 101, 102]⟩ .u64 .u64 (d : Int) ((d : Int) + 1) Try.underlying9 (by omega) (by omega) (by show (d : Int) + 1 ≤ (16 : Nat); omega)
  rw [this, show ((d : Int)).toNat = d by omega, show ((d : Int) + 1).toNat = d + 1 by omega, dig_slice d h]

set_option maxHeartbeats 2000000 in
theorem dec_any (k : Nat) : ∀ (n : Nat) (w : World), n < 10 ^ (k + 1) → n < 18446744073709551616 → Calls Try.prog 31 #[.int .u64 (n : Int)] w (RetB ((.string ⟨(decL n).toArray⟩)) w) := by
  have small : ∀ (n : Nat) (w : World), n < 10 → Calls Try.prog 31 #[.int .u64 (n : Int)] w (RetB ((.string ⟨(decL n).toArray⟩)) w) := by
    intro n w h10
    have hi : (n : Int) < 10 := by omega
    have hr := dig_run n h10
    have HD : Hid (decL n = [digB n]) := Lib.hid (by rw [decL_eq, if_pos h10])
    go_enter Try.func31, Try.ntmps31
    go_wp2_with fail
    go_ret
    exact ⟨by rw [HD.out]; rfl, by repeat' (first | with_reducible exact Below.refl _ _ | with_reducible assumption | with_reducible apply below_drewN | with_reducible apply Below.drew | with_reducible refine Below.setCell ?_ ?_ _ | with_reducible refine Below.alloc ?_ ?_ _ | omega | (simp; done) | (simp; omega))⟩
  induction k with
  | zero => exact fun n w hn _ => small n w (by simpa using hn)
  | succ k ih =>
    intro n w hn h64
    by_cases h10 : n < 10
    · exact small n w h10
    · have hi : ¬ (n : Int) < 10 := by omega
      have hr := dig_run (n % 10) (by omega)
      have HD : Hid (decL n = decL (n / 10) ++ [digB (n % 10)]) := Lib.hid (by rw [decL_eq, if_neg h10])
      have c1 : Hid (∀ V, Calls Try.prog 31 #[.int .u64 ((n : Int) / 10)] V (RetB ((.string ⟨(decL (n / 10)).toArray⟩)) V)) := Lib.hid fun V => by
        have := ih (n / 10) V (by rw [Nat.pow_succ] at hn; omega) (by omega)
        rw [show ((n / 10 : Nat) : Int) = (n : Int) / 10 by omega] at this
        exact this
      rw [show ((n % 10 : Nat) : Int) = (n : Int) % 10 by omega] at hr
      have hl := decL_len 19 (n / 10) (by omega)
      have ha := add_run (decL (n / 10)) [digB (n % 10)] (by simp; omega)
      clear ih hn hl
      go_enter Try.func31, Try.ntmps31
      go_wp2_with fail
      refine wp_region_qb (by kernel_rfl) (by kernel_rfl) ?_; (repeat (go_big_quiet_step ((go_at_call 31; exact quietB (c1.out _))))); refine wpQuiet_nil ?_; intro wq hb
      go_wp2_with fail
      go_ret
      exact ⟨by rw [HD.out, ← ba_append]; rfl, hb⟩

/-- A number's text. -/
def intL (i : Int) : List UInt8 := if i < 0 then 45 :: decL i.natAbs else decL i.natAbs
theorem intL_len {i : Int} (h : -10000000000 < i) (h2 : i < 10000000000) : (intL i).length ≤ 12 := by
  have := decL_len 10 i.natAbs (by omega)
  unfold intL
  split
  · simp; omega
  · omega

theorem int_any (i : Int) (w : World) (h0 : -10000000000 < i) (h1 : i < 10000000000) : Calls Try.prog 14 #[.int .i64 i] w (RetB (.string ⟨(intL i).toArray⟩) w) := by
  have hl := decL_len 10 i.natAbs (by omega)
  by_cases hi : i < 0
  · have c1 : Hid (∀ V, Calls Try.prog 31 #[.int .u64 (-i)] V (RetB (.string ⟨(decL i.natAbs).toArray⟩) V)) := Lib.hid fun V => by
      have := dec_any 19 i.natAbs V (by omega) (by omega)
      rw [show ((i.natAbs : Nat) : Int) = -i by omega] at this
      exact this
    have HI : Hid (intL i = [45] ++ decL i.natAbs) := Lib.hid (by unfold intL; rw [if_pos hi]; rfl)
    have ha := add_run [45] (decL i.natAbs) (by simp; omega)
    clear hl
    go_enter Try.func14, Try.ntmps14
    go_wp2_with fail
    refine (c1.out _).mono ?_
    rintro e w1 ⟨rfl, hb⟩
    go_wp2_with fail
    go_ret
    exact ⟨by rw [HI.out]; rfl, hb⟩
  · have c1 : Hid (∀ V, Calls Try.prog 31 #[.int .u64 i] V (RetB (.string ⟨(decL i.natAbs).toArray⟩) V)) := Lib.hid fun V => by
      have := dec_any 19 i.natAbs V (by omega) (by omega)
      rw [show ((i.natAbs : Nat) : Int) = i by omega] at this
      exact this
    have HI : Hid (intL i = decL i.natAbs) := Lib.hid (by unfold intL; rw [if_neg hi])
    clear hl
    go_enter Try.func14, Try.ntmps14
    go_wp2_with fail
    refine (c1.out _).mono ?_
    rintro e w1 ⟨rfl, hb⟩
    go_wp2_with fail
    go_ret
    exact ⟨by rw [HI.out]; rfl, hb⟩

/-- A register's name. -/
def regL (n : Int) : List UInt8 := if n = 31 then [88, 90, 82] else 88 :: intL n
theorem regL_len {n : Int} (h : 0 ≤ n) (h2 : n ≤ 31) : (regL n).length ≤ 13 := by
  unfold regL
  split
  · simp
  · have := intL_len (i := n) (by omega) (by omega)
    simp; omega

theorem regt_any (n : Int) (w : World) (h0 : 0 ≤ n) (h1 : n ≤ 31) : Calls Try.prog 13 #[.int .i64 n] w (RetB (.string ⟨(regL n).toArray⟩) w) := by
  by_cases hn : n = 31
  · have HI : Hid (regL n = [88, 90, 82]) := Lib.hid (by unfold regL; rw [if_pos hn])
    subst hn
    go_enter Try.func13, Try.ntmps13
    go_wp2_with fail
    go_ret
    exact ⟨by rw [HI.out]; rfl, by repeat' (first | with_reducible exact Below.refl _ _ | with_reducible assumption | with_reducible apply below_drewN | with_reducible apply Below.drew | with_reducible refine Below.setCell ?_ ?_ _ | with_reducible refine Below.alloc ?_ ?_ _ | omega | (simp; done) | (simp; omega))⟩
  · have HI : Hid (regL n = [88] ++ intL n) := Lib.hid (by unfold regL; rw [if_neg hn]; rfl)
    have hl := intL_len (i := n) (by omega) (by omega)
    have ha := add_run [88] (intL n) (by simp; omega)
    have c1 : Hid (∀ V, Calls Try.prog 14 #[.int .i64 n] V (RetB (.string ⟨(intL n).toArray⟩) V)) := Lib.hid fun V => int_any n V (by omega) (by omega)
    have hn2 : n < 31 := by omega
    clear hl
    go_enter Try.func13, Try.ntmps13
    go_wp2_with fail
    refine (c1.out _).mono ?_
    rintro e w1 ⟨rfl, hb⟩
    go_wp2_with fail
    go_ret
    exact ⟨by rw [HI.out]; rfl, hb⟩

/-- Where a branch leads to. -/
def targetL (i : Int) : List UInt8 := if i < 0 then 46 :: intL i else [46, 43] ++ intL i
theorem targetL_len {i : Int} (h : -10000000000 < i) (h2 : i < 10000000000) : (targetL i).length ≤ 14 := by
  have := intL_len h h2
  unfold targetL
  split
  · simp; omega
  · simp; omega
theorem target_any (i : Int) (w : World) (h0 : -10000000000 < i) (h1 : i < 10000000000) : Calls Try.prog 16 #[.int .i64 i] w (RetB (.string ⟨(targetL i).toArray⟩) w) := by
  have hl := intL_len h0 h1
  have c1 : Hid (∀ V, Calls Try.prog 14 #[.int .i64 i] V (RetB (.string ⟨(intL i).toArray⟩) V)) := Lib.hid fun V => int_any i V h0 h1
  by_cases hi : i < 0
  · have HI : Hid (targetL i = [46] ++ intL i) := Lib.hid (by unfold targetL; rw [if_pos hi]; rfl)
    have ha := add_run [46] (intL i) (by simp; omega)
    clear hl
    go_enter Try.func16, Try.ntmps16
    go_wp2_with fail
    refine (c1.out _).mono ?_
    rintro e w1 ⟨rfl, hb⟩
    go_wp2_with fail
    go_ret
    exact ⟨by rw [HI.out]; rfl, hb⟩
  · have HI : Hid (targetL i = [46, 43] ++ intL i) := Lib.hid (by unfold targetL; rw [if_neg hi])
    have ha := add_run [46, 43] (intL i) (by simp; omega)
    clear hl
    go_enter Try.func16, Try.ntmps16
    go_wp2_with fail
    refine (c1.out _).mono ?_
    rintro e w1 ⟨rfl, hb⟩
    go_wp2_with fail
    go_ret
    exact ⟨by rw [HI.out]; rfl, hb⟩

end Go.Proofs.Ytdlodacogldinaa
