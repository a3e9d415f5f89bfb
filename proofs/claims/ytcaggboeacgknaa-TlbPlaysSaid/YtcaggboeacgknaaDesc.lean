/- Contracts of package desc's functions. -/
import Derived.Test.YtcaggboeacgknaaRefa
namespace Go.Proofs.Ytcaggboeacgknaa
set_option linter.unusedSimpArgs false
set_option linter.unusedVariables false
open Go.RowKit

/-- A descriptor. -/
structure D where
  valid : Bool
  table : Bool
  out : Int
  used : Bool
  readOnly : Bool
  user : Bool
  own : Bool
  deriving DecidableEq

@[go_sem] def descV (d : D) : Value := .agg #[.bool d.valid, .bool d.table, .int .u64 d.out, .bool d.used, .bool d.readOnly, .bool d.user, .bool d.own]

/-- A field of a descriptor that lies in no memory. -/
theorem dfield0 (c0 c1 c2 c3 c4 c5 c6 : Value) (w : World) : (Instr.field 64 (.agg #[c0, c1, c2, c3, c4, c5, c6]) 0).run Try.prog w = .ok c0 w := by kernel_rfl

def D.zero : D := ⟨false, false, 0, false, false, false, false⟩

/-- How many low bits of an address a descriptor leaves as they are. -/
def shiftZ (table : Bool) (level : Int) : Int := if (level == 1 && !table) = true then 21 else 12

/-- A word as a descriptor. -/
def decD (w level : Int) : D :=
  if (bitB w 0 && getZ w 47 32 == 0 && (level == 1 || level == 2) && !(level == 2 && !bitB w 1)) = true then
    (if (level == 1 && bitB w 1) = true then ⟨true, true, downZ (getZ w 31 0) 12, false, false, false, false⟩
     else ⟨true, false, downZ (getZ w 31 0) (shiftZ (bitB w 1) level), bitB w 10, bitB w 7, bitB w 6, bitB w 11⟩)
  else D.zero

theorem shift_any (t : Bool) (level : Int) (w : World) : Calls Try.prog 69 #[.bool t, .int .i64 level] w (Ret (.int .i64 (shiftZ t level)) w) := by
  cases h1 : (level == 1) <;> cases t
  all_goals
    go_enter Try.func69, Try.ntmps69
    go_wp2
    go_ret
    exact ⟨by simp [shiftZ, h1], rfl⟩

set_option maxHeartbeats 2000000 in
theorem decode_any (a level : Int) (w : World) (ha : U64 a) : Calls Try.prog 57 #[.int .u64 a, .int .i64 level] w
    (RetB (descV (decD a level)) w) := by
  go_enter Try.func57, Try.ntmps57
  go_wp2_with (first | (go_at_call 68; refine (bit_any _ _ _ ha).mono ?_; rintro e w' ⟨rfl, n, rfl⟩) | (go_at_call 46; refine (get_any _ _ _ _ ha).mono ?_; rintro e w' ⟨rfl, n, rfl⟩) | (go_at_call 39; refine (down_any _ _ _ (u64_getZ ha _ _)).mono ?_; rintro e w' ⟨rfl, rfl⟩) | (go_at_call 69; refine (shift_any _ _ _).mono ?_; rintro e w' ⟨rfl, rfl⟩))
  all_goals
    refine bodyPost_ret (v := descV (decD a level)) ?_ rfl ⟨rfl, ?_⟩
    · first | (simp [results, Try.results57, go_sem, descV, decD, shiftZ, *]; done) | (simp [results, Try.results57, go_sem, descV, decD, D.zero, *]; done)
    · go_tidy
      repeat' (first | with_reducible exact Below.refl _ _ | with_reducible assumption | with_reducible apply below_drewN | with_reducible apply Below.drew | with_reducible refine Below.setCell ?_ ?_ _ | with_reducible refine Below.alloc ?_ ?_ _ | omega | (simp; done) | (simp; omega))



end Go.Proofs.Ytcaggboeacgknaa
