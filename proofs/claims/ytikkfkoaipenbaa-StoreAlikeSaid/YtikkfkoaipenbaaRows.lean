/-
  No cell of these rows narrows 'for every input' (looked for: loops, veiled, ifaces, maps, wideKeys, modest, calm, conditions, laid).
  DERIVED. THE GIVEN ROWS OF THIS SEAT. 7 by the template 'for every input the law returns true; each argument reads behind the call as it read before'; 0 by the template 'total and deterministic' (their statements: YtikkfkoaipenbaaTotals.lean).
  GIVEN WITH THE SEED: the statements are not yours to turn. If you find one false, say at which input.
  Laid BY PROGRAM, IN A SANDBOX (cutbox-rows.mjs): the forced cells as the released guide's own fill.sh prints them over the translation 81ba77870953d73a… (all of the seat's roots in one cut). By AI agents, Wed Nov 11 2026. No macro, syntax, notation, axiom, sorry.
-/
import Derived.Test.YtikkfkoaipenbaaChecked
import GoSem.Claim
import GoSem.ClaimJoined
import GoSem.ClaimMapViews
import Derived.JoinedTies
import Derived.KernelRfl
namespace Go.Proofs.Ytikkfkoaipenbaa
/- THE CELL 'sum', in the pinned program and in every row, IS THE sha256 OF THE DUMP (.gsa) THAT YtikkfkoaipenbaaProg.lean LOADS. Nothing in Lean hashes anything: it is a label: what it is worth is what the hold of that sum in a sandbox is worth. -/
noncomputable def Try.pinned : Pinned := { name := "ytikkfkoaipenbaa", sum := "81ba77870953d73ad77064c06b891817711e9c961464617ad87105dc91b13ab2", checked := Try.checked }
namespace Rows
def none {H : Type} : Left H := { results := [], args := [] }

/-- 'granulelaw06.StoreMaps': WHATEVER THE INPUT: true; the input reads as it did. -/
def storeMapsSpec : ChangeSpec := { name := "storeMaps", fn := fun _ => fun
  | [d1, d2] => { results := [.lit (.bool true)], args := [d1, d2] }
  | _ => none }
def storeMapsRow : OpenClaim := { program := "ytikkfkoaipenbaa", sum := "81ba77870953d73ad77064c06b891817711e9c961464617ad87105dc91b13ab2", func := "granule/granulelaw06.StoreMaps", spec := "storeMaps", unfollowed := true, recurses := true, apart := false }
def StoreMapsSaid : Prop := storeMapsRow.holds Try.pinned (OpenSpec.ofChange storeMapsSpec)

/-- ITS FALSE NEIGHBOUR: 'it returns false'. Refute it at one input. -/
def storeMapsWrong : ChangeSpec := { name := "storeMaps", fn := fun _ => fun
  | [d1, d2] => { results := [.lit (.bool false)], args := [d1, d2] }
  | _ => none }
def StoreMapsWrongFalsely : Prop := storeMapsRow.holds Try.pinned (OpenSpec.ofChange storeMapsWrong)

/-- 'granulelaw06.StoreKeeps': WHATEVER THE INPUT: true; the input reads as it did. -/
def storeKeepsSpec : ChangeSpec := { name := "storeKeeps", fn := fun _ => fun
  | [d1, d2] => { results := [.lit (.bool true)], args := [d1, d2] }
  | _ => none }
def storeKeepsRow : OpenClaim := { program := "ytikkfkoaipenbaa", sum := "81ba77870953d73ad77064c06b891817711e9c961464617ad87105dc91b13ab2", func := "granule/granulelaw06.StoreKeeps", spec := "storeKeeps", unfollowed := true, recurses := true, apart := false }
def StoreKeepsSaid : Prop := storeKeepsRow.holds Try.pinned (OpenSpec.ofChange storeKeepsSpec)

/-- ITS FALSE NEIGHBOUR: 'it returns false'. Refute it at one input. -/
def storeKeepsWrong : ChangeSpec := { name := "storeKeeps", fn := fun _ => fun
  | [d1, d2] => { results := [.lit (.bool false)], args := [d1, d2] }
  | _ => none }
def StoreKeepsWrongFalsely : Prop := storeKeepsRow.holds Try.pinned (OpenSpec.ofChange storeKeepsWrong)

/-- 'granulelaw06.StoreLeaves': WHATEVER THE INPUT: true; the input reads as it did. -/
def storeLeavesSpec : ChangeSpec := { name := "storeLeaves", fn := fun _ => fun
  | [d1, d2] => { results := [.lit (.bool true)], args := [d1, d2] }
  | _ => none }
def storeLeavesRow : OpenClaim := { program := "ytikkfkoaipenbaa", sum := "81ba77870953d73ad77064c06b891817711e9c961464617ad87105dc91b13ab2", func := "granule/granulelaw06.StoreLeaves", spec := "storeLeaves", unfollowed := true, recurses := true, apart := false }
def StoreLeavesSaid : Prop := storeLeavesRow.holds Try.pinned (OpenSpec.ofChange storeLeavesSpec)

/-- ITS FALSE NEIGHBOUR: 'it returns false'. Refute it at one input. -/
def storeLeavesWrong : ChangeSpec := { name := "storeLeaves", fn := fun _ => fun
  | [d1, d2] => { results := [.lit (.bool false)], args := [d1, d2] }
  | _ => none }
def StoreLeavesWrongFalsely : Prop := storeLeavesRow.holds Try.pinned (OpenSpec.ofChange storeLeavesWrong)

/-- 'granulelaw06.StoreMemory': WHATEVER THE INPUT: true; the input reads as it did. -/
def storeMemorySpec : ChangeSpec := { name := "storeMemory", fn := fun _ => fun
  | [d1, d2] => { results := [.lit (.bool true)], args := [d1, d2] }
  | _ => none }
def storeMemoryRow : OpenClaim := { program := "ytikkfkoaipenbaa", sum := "81ba77870953d73ad77064c06b891817711e9c961464617ad87105dc91b13ab2", func := "granule/granulelaw06.StoreMemory", spec := "storeMemory", unfollowed := true, recurses := true, apart := false }
def StoreMemorySaid : Prop := storeMemoryRow.holds Try.pinned (OpenSpec.ofChange storeMemorySpec)

/-- ITS FALSE NEIGHBOUR: 'it returns false'. Refute it at one input. -/
def storeMemoryWrong : ChangeSpec := { name := "storeMemory", fn := fun _ => fun
  | [d1, d2] => { results := [.lit (.bool false)], args := [d1, d2] }
  | _ => none }
def StoreMemoryWrongFalsely : Prop := storeMemoryRow.holds Try.pinned (OpenSpec.ofChange storeMemoryWrong)

/-- 'granulelaw06.StoreWrites': WHATEVER THE INPUT: true; the input reads as it did. -/
def storeWritesSpec : ChangeSpec := { name := "storeWrites", fn := fun _ => fun
  | [d1, d2, d3] => { results := [.lit (.bool true)], args := [d1, d2, d3] }
  | _ => none }
def storeWritesRow : OpenClaim := { program := "ytikkfkoaipenbaa", sum := "81ba77870953d73ad77064c06b891817711e9c961464617ad87105dc91b13ab2", func := "granule/granulelaw06.StoreWrites", spec := "storeWrites", unfollowed := true, recurses := true, apart := false }
def StoreWritesSaid : Prop := storeWritesRow.holds Try.pinned (OpenSpec.ofChange storeWritesSpec)

/-- ITS FALSE NEIGHBOUR: 'it returns false'. Refute it at one input. -/
def storeWritesWrong : ChangeSpec := { name := "storeWrites", fn := fun _ => fun
  | [d1, d2, d3] => { results := [.lit (.bool false)], args := [d1, d2, d3] }
  | _ => none }
def StoreWritesWrongFalsely : Prop := storeWritesRow.holds Try.pinned (OpenSpec.ofChange storeWritesWrong)

/-- 'granulelaw06.StoreTurns': WHATEVER THE INPUT: true; the input reads as it did. -/
def storeTurnsSpec : ChangeSpec := { name := "storeTurns", fn := fun _ => fun
  | [d1, d2, d3] => { results := [.lit (.bool true)], args := [d1, d2, d3] }
  | _ => none }
def storeTurnsRow : OpenClaim := { program := "ytikkfkoaipenbaa", sum := "81ba77870953d73ad77064c06b891817711e9c961464617ad87105dc91b13ab2", func := "granule/granulelaw06.StoreTurns", spec := "storeTurns", unfollowed := true, recurses := true, apart := false }
def StoreTurnsSaid : Prop := storeTurnsRow.holds Try.pinned (OpenSpec.ofChange storeTurnsSpec)

/-- ITS FALSE NEIGHBOUR: 'it returns false'. Refute it at one input. -/
def storeTurnsWrong : ChangeSpec := { name := "storeTurns", fn := fun _ => fun
  | [d1, d2, d3] => { results := [.lit (.bool false)], args := [d1, d2, d3] }
  | _ => none }
def StoreTurnsWrongFalsely : Prop := storeTurnsRow.holds Try.pinned (OpenSpec.ofChange storeTurnsWrong)

/-- 'granulelaw06.StoreAlike': WHATEVER THE INPUT: true; the input reads as it did. -/
def storeAlikeSpec : ChangeSpec := { name := "storeAlike", fn := fun _ => fun
  | [d1, d2] => { results := [.lit (.bool true)], args := [d1, d2] }
  | _ => none }
def storeAlikeRow : OpenClaim := { program := "ytikkfkoaipenbaa", sum := "81ba77870953d73ad77064c06b891817711e9c961464617ad87105dc91b13ab2", func := "granule/granulelaw06.StoreAlike", spec := "storeAlike", unfollowed := true, recurses := true, apart := false }
def StoreAlikeSaid : Prop := storeAlikeRow.holds Try.pinned (OpenSpec.ofChange storeAlikeSpec)

/-- ITS FALSE NEIGHBOUR: 'it returns false'. Refute it at one input. -/
def storeAlikeWrong : ChangeSpec := { name := "storeAlike", fn := fun _ => fun
  | [d1, d2] => { results := [.lit (.bool false)], args := [d1, d2] }
  | _ => none }
def StoreAlikeWrongFalsely : Prop := storeAlikeRow.holds Try.pinned (OpenSpec.ofChange storeAlikeWrong)

/- THE SECOND FORM. 'bulk': how many values and letters a reading holds, each counted each time it is reached (what is shared counts as often as it is met; a slice's spare places count too). A statement '..UptoSaid' is the law's where the arguments, and the package variables that the reading takes, are together of bulk at most 1048576: NARROWER than '..Said'. Prove '..Said' where nothing that the law and all that it calls make is longer than what came in: it says more and counts as full. Else prove '..UptoSaid'. A law counts once. -/
mutual
def uptoBulk {H : Type} : DataW H → Nat
  | .lit (.string bytes) => bytes.length + 1
  | .lit _ => 1
  | .nil => 1
  | .ptr d => uptoBulk d + 1
  | .slice elems spare => uptoBulkAll elems + uptoBulkAll spare + 1
  | .agg parts => uptoBulkAll parts + 1
  | .iface _ d => uptoBulk d + 1
  | .map entries => uptoBulkEntries entries + 1
  | .held _ => 1
def uptoBulkAll {H : Type} : List (DataW H) → Nat
  | [] => 0
  | d :: r => uptoBulk d + uptoBulkAll r
def uptoBulkEntries {H : Type} : List (Lit × DataW H) → Nat
  | [] => 0
  | x :: r => uptoBulkEntry x + uptoBulkEntries r
def uptoBulkEntry {H : Type} : Lit × DataW H → Nat
  | (.string bytes, d) => bytes.length + uptoBulk d + 1
  | (_, d) => uptoBulk d + 1
 end
def uptoSmall : (H : Type) → List (DataW H) → Bool := fun _ ds => decide (uptoBulkAll ds ≤ 1048576)
def OpenSpec.upto (s : _root_.Go.ChangeSpec) : _root_.Go.OpenSpec := { _root_.Go.OpenSpec.ofChange s with cond := some uptoSmall }

/-- 'granulelaw06.StoreMaps', WHERE WHAT IT READS IS OF BULK AT MOST 1048576: true; the input reads as it did. -/
def storeMapsUptoRow : OpenClaim := { program := "ytikkfkoaipenbaa", sum := "81ba77870953d73ad77064c06b891817711e9c961464617ad87105dc91b13ab2", func := "granule/granulelaw06.StoreMaps", spec := "storeMaps", unfollowed := true, recurses := true, apart := false, narrowed := true }
def StoreMapsUptoSaid : Prop := storeMapsUptoRow.holds Try.pinned (OpenSpec.upto storeMapsSpec)

/-- 'granulelaw06.StoreKeeps', WHERE WHAT IT READS IS OF BULK AT MOST 1048576: true; the input reads as it did. -/
def storeKeepsUptoRow : OpenClaim := { program := "ytikkfkoaipenbaa", sum := "81ba77870953d73ad77064c06b891817711e9c961464617ad87105dc91b13ab2", func := "granule/granulelaw06.StoreKeeps", spec := "storeKeeps", unfollowed := true, recurses := true, apart := false, narrowed := true }
def StoreKeepsUptoSaid : Prop := storeKeepsUptoRow.holds Try.pinned (OpenSpec.upto storeKeepsSpec)

/-- 'granulelaw06.StoreLeaves', WHERE WHAT IT READS IS OF BULK AT MOST 1048576: true; the input reads as it did. -/
def storeLeavesUptoRow : OpenClaim := { program := "ytikkfkoaipenbaa", sum := "81ba77870953d73ad77064c06b891817711e9c961464617ad87105dc91b13ab2", func := "granule/granulelaw06.StoreLeaves", spec := "storeLeaves", unfollowed := true, recurses := true, apart := false, narrowed := true }
def StoreLeavesUptoSaid : Prop := storeLeavesUptoRow.holds Try.pinned (OpenSpec.upto storeLeavesSpec)

/-- 'granulelaw06.StoreMemory', WHERE WHAT IT READS IS OF BULK AT MOST 1048576: true; the input reads as it did. -/
def storeMemoryUptoRow : OpenClaim := { program := "ytikkfkoaipenbaa", sum := "81ba77870953d73ad77064c06b891817711e9c961464617ad87105dc91b13ab2", func := "granule/granulelaw06.StoreMemory", spec := "storeMemory", unfollowed := true, recurses := true, apart := false, narrowed := true }
def StoreMemoryUptoSaid : Prop := storeMemoryUptoRow.holds Try.pinned (OpenSpec.upto storeMemorySpec)

/-- 'granulelaw06.StoreWrites', WHERE WHAT IT READS IS OF BULK AT MOST 1048576: true; the input reads as it did. -/
def storeWritesUptoRow : OpenClaim := { program := "ytikkfkoaipenbaa", sum := "81ba77870953d73ad77064c06b891817711e9c961464617ad87105dc91b13ab2", func := "granule/granulelaw06.StoreWrites", spec := "storeWrites", unfollowed := true, recurses := true, apart := false, narrowed := true }
def StoreWritesUptoSaid : Prop := storeWritesUptoRow.holds Try.pinned (OpenSpec.upto storeWritesSpec)

/-- 'granulelaw06.StoreTurns', WHERE WHAT IT READS IS OF BULK AT MOST 1048576: true; the input reads as it did. -/
def storeTurnsUptoRow : OpenClaim := { program := "ytikkfkoaipenbaa", sum := "81ba77870953d73ad77064c06b891817711e9c961464617ad87105dc91b13ab2", func := "granule/granulelaw06.StoreTurns", spec := "storeTurns", unfollowed := true, recurses := true, apart := false, narrowed := true }
def StoreTurnsUptoSaid : Prop := storeTurnsUptoRow.holds Try.pinned (OpenSpec.upto storeTurnsSpec)

/-- 'granulelaw06.StoreAlike', WHERE WHAT IT READS IS OF BULK AT MOST 1048576: true; the input reads as it did. -/
def storeAlikeUptoRow : OpenClaim := { program := "ytikkfkoaipenbaa", sum := "81ba77870953d73ad77064c06b891817711e9c961464617ad87105dc91b13ab2", func := "granule/granulelaw06.StoreAlike", spec := "storeAlike", unfollowed := true, recurses := true, apart := false, narrowed := true }
def StoreAlikeUptoSaid : Prop := storeAlikeUptoRow.holds Try.pinned (OpenSpec.upto storeAlikeSpec)

end Rows
end Go.Proofs.Ytikkfkoaipenbaa
