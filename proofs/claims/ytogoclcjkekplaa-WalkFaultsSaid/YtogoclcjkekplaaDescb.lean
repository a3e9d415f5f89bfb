/- Contracts of package desc's functions: those that make words and addresses. -/
import Derived.Test.YtogoclcjkekplaaDesc
namespace Go.Proofs.Ytogoclcjkekplaa
open Go.RowKit

/-- Which accesses a descriptor allows. -/
def allowZ (d : D) (wr : Bool) : Int := if d.valid = false then 3 else if d.used = false then 4 else if (wr && d.readOnly) = true then 5 else 0

theorem allowed_any (d : D) (wr : Bool) (w : World) : Calls Try.prog 35 #[descV d, .bool wr] w (RetB (.int .i64 (allowZ d wr)) w) := by
  obtain ⟨v, t, o, u, r, s, n⟩ := d
  simp only [descV]
  cases v <;> cases u <;> cases wr <;> cases r
  all_goals
    go_enter Try.func35, Try.ntmps35
    go_wp2
    go_ret
    exact ⟨rfl, by repeat' (first | with_reducible exact Below.refl _ _ | with_reducible assumption | with_reducible apply below_drewN | with_reducible apply Below.drew | with_reducible refine Below.setCell ?_ ?_ _ | with_reducible refine Below.alloc ?_ ?_ _ | omega | (simp; done) | (simp; omega))⟩



/-- The address of a table's entry. -/
def entryZ (table va level : Int) : Int := IntKind.u64.wrap (table + IntKind.u64.wrap (8 * slotZ va level))

theorem slotZ_small (a level : Int) : 0 ≤ slotZ a level ∧ slotZ a level < 9223372036854775808 := by
  unfold slotZ
  split
  · exact getZ_small (by decide)
  · split
    · exact getZ_small (by decide)
    · exact ⟨by decide, by decide⟩

theorem dslot_any (t a level : Int) (w : World) (ha : U64 a) : Calls Try.prog 33 #[.int .u64 t, .int .u64 a, .int .i64 level] w (RetQ (.int .u64 (entryZ t a level)) w) := by
  obtain ⟨g0, g1⟩ := slotZ_small a level
  have E := Lib.hid (show IntKind.u64.wrap (slotZ a level) = slotZ a level by rw [IntKind.wrap_u64]; omega)
  clear g1
  go_enter Try.func33, Try.ntmps33
  go_wp2_with (go_at_call 52; refine (slot_any _ _ _ ha).mono ?_; rintro e w' ⟨rfl, n, rfl⟩)
  go_ret
  refine ⟨?_, _, rfl⟩
  go_tidy
  simp [entryZ, E.out]

/-- How many bytes it leads to. -/
def sizeZ (table : Bool) (level : Int) : Int := if (level == 1 && !table) = true then 2097152 else 4096
/-- Where a descriptor takes an address. -/
def addrZ (d : D) (level va : Int) : Int := d.out - d.out % sizeZ d.table level + va % sizeZ d.table level

theorem addr_eq (d : D) (level va : Int) : putZ d.out (shiftZ d.table level - 1) 0 (getZ va (shiftZ d.table level - 1) 0) = addrZ d level va := by
  unfold addrZ sizeZ shiftZ
  have e1 : (2 : Int) ^ (21 : Nat) = 2097152 := rfl
  have e2 : (2 : Int) ^ (12 : Nat) = 4096 := rfl
  by_cases h : (level == 1 && !d.table) = true
  · rw [if_pos h, if_pos h]
    simp [putZ, getZ, rightB, e1]
    omega
  · rw [if_neg h, if_neg h]
    simp [putZ, getZ, rightB, e2]
    omega

theorem address_any (d : D) (level va : Int) (w : World) (ho : U64 d.out) (ha : U64 va) : Calls Try.prog 36 #[descV d, .int .i64 level, .int .u64 va] w (RetB (.int .u64 (addrZ d level va)) w) := by
  have H := Lib.hid (addr_eq d level va)
  have hs : 12 ≤ shiftZ d.table level ∧ shiftZ d.table level ≤ 21 := by unfold shiftZ; split <;> decide
  obtain ⟨v, t, o, u, r, s, n⟩ := d
  simp only at ho hs
  have Ho := Lib.hid ho
  have Ha := Lib.hid ha
  clear ho ha
  simp only [descV]
  go_enter Try.func36, Try.ntmps36
  go_wp2_with (go_at_call 53; refine (shift_any _ _ _).mono ?_; rintro e w' ⟨rfl, rfl⟩)
  go_quiet (first | (go_at_call 54; exact quietQ (get_any _ _ _ _ Ha.out)) | (go_at_call 49; exact quietQ (put_any _ _ _ _ _ Ho.out (u64_getZ Ha.out _ _))))
  go_wp2
  go_ret
  exact ⟨by rw [← H.out]; rfl, by repeat' (first | with_reducible exact Below.refl _ _ | with_reducible assumption | with_reducible apply below_drewN | with_reducible apply Below.drew | with_reducible refine Below.setCell ?_ ?_ _ | with_reducible refine Below.alloc ?_ ?_ _ | omega | (simp; done) | (simp; omega))⟩

end Go.Proofs.Ytogoclcjkekplaa
