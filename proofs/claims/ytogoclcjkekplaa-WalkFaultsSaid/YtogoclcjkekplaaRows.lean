/-
  No cell of these rows narrows 'for every input' (looked for: loops, veiled, ifaces, maps, wideKeys, modest, calm, conditions, laid).
  DERIVED. THE GIVEN ROWS OF THIS SEAT. 7 by the template 'for every input the law returns true; each argument reads behind the call as it read before'; 0 by the template 'total and deterministic' (their statements: YtogoclcjkekplaaTotals.lean).
  GIVEN WITH THE SEED: the statements are not yours to turn. If you find one false, say at which input.
  Laid BY PROGRAM, IN A SANDBOX (cutbox-rows.mjs): the forced cells as the released guide's own fill.sh prints them over the translation b3415d94626c41d2… (all of the seat's roots in one cut). By AI agents, Wed Nov 11 2026. No macro, syntax, notation, axiom, sorry.
-/
import Derived.Test.YtogoclcjkekplaaChecked
import GoSem.Claim
import GoSem.ClaimJoined
import GoSem.ClaimMapViews
import Derived.JoinedTies
import Derived.KernelRfl
namespace Go.Proofs.Ytogoclcjkekplaa
/- THE CELL 'sum', in the pinned program and in every row, IS THE sha256 OF THE DUMP (.gsa) THAT YtogoclcjkekplaaProg.lean LOADS. Nothing in Lean hashes anything: it is a label: what it is worth is what the hold of that sum in a sandbox is worth. -/
noncomputable def Try.pinned : Pinned := { name := "ytogoclcjkekplaa", sum := "b3415d94626c41d2d0ad857834ff7ab9f56137c361caeead7c78bab2771e7981", checked := Try.checked }
namespace Rows
def none {H : Type} : Left H := { results := [], args := [] }

/-- 'granulelaw08.WalkGoes': WHATEVER THE INPUT: true; the input reads as it did. -/
def walkGoesSpec : ChangeSpec := { name := "walkGoes", fn := fun _ => fun
  | [d1, d2] => { results := [.lit (.bool true)], args := [d1, d2] }
  | _ => none }
def walkGoesRow : OpenClaim := { program := "ytogoclcjkekplaa", sum := "b3415d94626c41d2d0ad857834ff7ab9f56137c361caeead7c78bab2771e7981", func := "granule/granulelaw08.WalkGoes", spec := "walkGoes", apart := false }
def WalkGoesSaid : Prop := walkGoesRow.holds Try.pinned (OpenSpec.ofChange walkGoesSpec)

/-- ITS FALSE NEIGHBOUR: 'it returns false'. Refute it at one input. -/
def walkGoesWrong : ChangeSpec := { name := "walkGoes", fn := fun _ => fun
  | [d1, d2] => { results := [.lit (.bool false)], args := [d1, d2] }
  | _ => none }
def WalkGoesWrongFalsely : Prop := walkGoesRow.holds Try.pinned (OpenSpec.ofChange walkGoesWrong)

/-- 'granulelaw08.WalkThrough': WHATEVER THE INPUT: true; the input reads as it did. -/
def walkThroughSpec : ChangeSpec := { name := "walkThrough", fn := fun _ => fun
  | [d1, d2, d3] => { results := [.lit (.bool true)], args := [d1, d2, d3] }
  | _ => none }
def walkThroughRow : OpenClaim := { program := "ytogoclcjkekplaa", sum := "b3415d94626c41d2d0ad857834ff7ab9f56137c361caeead7c78bab2771e7981", func := "granule/granulelaw08.WalkThrough", spec := "walkThrough", apart := false }
def WalkThroughSaid : Prop := walkThroughRow.holds Try.pinned (OpenSpec.ofChange walkThroughSpec)

/-- ITS FALSE NEIGHBOUR: 'it returns false'. Refute it at one input. -/
def walkThroughWrong : ChangeSpec := { name := "walkThrough", fn := fun _ => fun
  | [d1, d2, d3] => { results := [.lit (.bool false)], args := [d1, d2, d3] }
  | _ => none }
def WalkThroughWrongFalsely : Prop := walkThroughRow.holds Try.pinned (OpenSpec.ofChange walkThroughWrong)

/-- 'granulelaw08.WalkFirst': WHATEVER THE INPUT: true; the input reads as it did. -/
def walkFirstSpec : ChangeSpec := { name := "walkFirst", fn := fun _ => fun
  | [d1, d2] => { results := [.lit (.bool true)], args := [d1, d2] }
  | _ => none }
def walkFirstRow : OpenClaim := { program := "ytogoclcjkekplaa", sum := "b3415d94626c41d2d0ad857834ff7ab9f56137c361caeead7c78bab2771e7981", func := "granule/granulelaw08.WalkFirst", spec := "walkFirst", apart := false }
def WalkFirstSaid : Prop := walkFirstRow.holds Try.pinned (OpenSpec.ofChange walkFirstSpec)

/-- ITS FALSE NEIGHBOUR: 'it returns false'. Refute it at one input. -/
def walkFirstWrong : ChangeSpec := { name := "walkFirst", fn := fun _ => fun
  | [d1, d2] => { results := [.lit (.bool false)], args := [d1, d2] }
  | _ => none }
def WalkFirstWrongFalsely : Prop := walkFirstRow.holds Try.pinned (OpenSpec.ofChange walkFirstWrong)

/-- 'granulelaw08.WalkParts': WHATEVER THE INPUT: true; the input reads as it did. -/
def walkPartsSpec : ChangeSpec := { name := "walkParts", fn := fun _ => fun
  | [d1, d2] => { results := [.lit (.bool true)], args := [d1, d2] }
  | _ => none }
def walkPartsRow : OpenClaim := { program := "ytogoclcjkekplaa", sum := "b3415d94626c41d2d0ad857834ff7ab9f56137c361caeead7c78bab2771e7981", func := "granule/granulelaw08.WalkParts", spec := "walkParts", apart := false }
def WalkPartsSaid : Prop := walkPartsRow.holds Try.pinned (OpenSpec.ofChange walkPartsSpec)

/-- ITS FALSE NEIGHBOUR: 'it returns false'. Refute it at one input. -/
def walkPartsWrong : ChangeSpec := { name := "walkParts", fn := fun _ => fun
  | [d1, d2] => { results := [.lit (.bool false)], args := [d1, d2] }
  | _ => none }
def WalkPartsWrongFalsely : Prop := walkPartsRow.holds Try.pinned (OpenSpec.ofChange walkPartsWrong)

/-- 'granulelaw08.WalkBeside': WHATEVER THE INPUT: true; the input reads as it did. -/
def walkBesideSpec : ChangeSpec := { name := "walkBeside", fn := fun _ => fun
  | [d1, d2, d3] => { results := [.lit (.bool true)], args := [d1, d2, d3] }
  | _ => none }
def walkBesideRow : OpenClaim := { program := "ytogoclcjkekplaa", sum := "b3415d94626c41d2d0ad857834ff7ab9f56137c361caeead7c78bab2771e7981", func := "granule/granulelaw08.WalkBeside", spec := "walkBeside", apart := false }
def WalkBesideSaid : Prop := walkBesideRow.holds Try.pinned (OpenSpec.ofChange walkBesideSpec)

/-- ITS FALSE NEIGHBOUR: 'it returns false'. Refute it at one input. -/
def walkBesideWrong : ChangeSpec := { name := "walkBeside", fn := fun _ => fun
  | [d1, d2, d3] => { results := [.lit (.bool false)], args := [d1, d2, d3] }
  | _ => none }
def WalkBesideWrongFalsely : Prop := walkBesideRow.holds Try.pinned (OpenSpec.ofChange walkBesideWrong)

/-- 'granulelaw08.WalkSyndromes': WHATEVER THE INPUT: true; the input reads as it did. -/
def walkSyndromesSpec : ChangeSpec := { name := "walkSyndromes", fn := fun _ => fun
  | [d] => { results := [.lit (.bool true)], args := [d] }
  | _ => none }
def walkSyndromesRow : OpenClaim := { program := "ytogoclcjkekplaa", sum := "b3415d94626c41d2d0ad857834ff7ab9f56137c361caeead7c78bab2771e7981", func := "granule/granulelaw08.WalkSyndromes", spec := "walkSyndromes", apart := false }
def WalkSyndromesSaid : Prop := walkSyndromesRow.holds Try.pinned (OpenSpec.ofChange walkSyndromesSpec)

/-- ITS FALSE NEIGHBOUR: 'it returns false'. Refute it at one input. -/
def walkSyndromesWrong : ChangeSpec := { name := "walkSyndromes", fn := fun _ => fun
  | [d] => { results := [.lit (.bool false)], args := [d] }
  | _ => none }
def WalkSyndromesWrongFalsely : Prop := walkSyndromesRow.holds Try.pinned (OpenSpec.ofChange walkSyndromesWrong)

/-- 'granulelaw08.WalkFaults': WHATEVER THE INPUT: true; the input reads as it did. -/
def walkFaultsSpec : ChangeSpec := { name := "walkFaults", fn := fun _ => fun
  | [d1, d2, d3] => { results := [.lit (.bool true)], args := [d1, d2, d3] }
  | _ => none }
def walkFaultsRow : OpenClaim := { program := "ytogoclcjkekplaa", sum := "b3415d94626c41d2d0ad857834ff7ab9f56137c361caeead7c78bab2771e7981", func := "granule/granulelaw08.WalkFaults", spec := "walkFaults", apart := false }
def WalkFaultsSaid : Prop := walkFaultsRow.holds Try.pinned (OpenSpec.ofChange walkFaultsSpec)

/-- ITS FALSE NEIGHBOUR: 'it returns false'. Refute it at one input. -/
def walkFaultsWrong : ChangeSpec := { name := "walkFaults", fn := fun _ => fun
  | [d1, d2, d3] => { results := [.lit (.bool false)], args := [d1, d2, d3] }
  | _ => none }
def WalkFaultsWrongFalsely : Prop := walkFaultsRow.holds Try.pinned (OpenSpec.ofChange walkFaultsWrong)

/- THE SECOND FORM. 'bulk': how many values and letters a reading holds, each counted each time it is reached (what is shared counts as often as it is met; a slice's spare places count too). A statement '..UptoSaid' is the law's where the arguments, and the package variables that the reading takes, are together of bulk at most 1048576: NARROWER than '..Said'. Prove '..Said' where nothing that the law and all that it calls make is longer than what came in: it says more and counts as full. Else prove '..UptoSaid'. A law counts once. -/
mutual
def uptoBulk {H : Type} : DataW H → Nat
  | .lit (.string bytes) => bytes.length + 1
  | .lit _ => 1
  | .nil => 1
  | .ptr d => uptoBulk d + 1
  | .slice elems spare => uptoBulkAll elems + uptoBulkAll spare + 1
  | .agg parts => uptoBulkAll parts + 1
  | .iface _ d => uptoBulk d + 1
  | .map entries => uptoBulkEntries entries + 1
  | .held _ => 1
def uptoBulkAll {H : Type} : List (DataW H) → Nat
  | [] => 0
  | d :: r => uptoBulk d + uptoBulkAll r
def uptoBulkEntries {H : Type} : List (Lit × DataW H) → Nat
  | [] => 0
  | x :: r => uptoBulkEntry x + uptoBulkEntries r
def uptoBulkEntry {H : Type} : Lit × DataW H → Nat
  | (.string bytes, d) => bytes.length + uptoBulk d + 1
  | (_, d) => uptoBulk d + 1
 end
def uptoSmall : (H : Type) → List (DataW H) → Bool := fun _ ds => decide (uptoBulkAll ds ≤ 1048576)
def OpenSpec.upto (s : _root_.Go.ChangeSpec) : _root_.Go.OpenSpec := { _root_.Go.OpenSpec.ofChange s with cond := some uptoSmall }

/-- 'granulelaw08.WalkGoes', WHERE WHAT IT READS IS OF BULK AT MOST 1048576: true; the input reads as it did. -/
def walkGoesUptoRow : OpenClaim := { program := "ytogoclcjkekplaa", sum := "b3415d94626c41d2d0ad857834ff7ab9f56137c361caeead7c78bab2771e7981", func := "granule/granulelaw08.WalkGoes", spec := "walkGoes", apart := false, narrowed := true }
def WalkGoesUptoSaid : Prop := walkGoesUptoRow.holds Try.pinned (OpenSpec.upto walkGoesSpec)

/-- 'granulelaw08.WalkThrough', WHERE WHAT IT READS IS OF BULK AT MOST 1048576: true; the input reads as it did. -/
def walkThroughUptoRow : OpenClaim := { program := "ytogoclcjkekplaa", sum := "b3415d94626c41d2d0ad857834ff7ab9f56137c361caeead7c78bab2771e7981", func := "granule/granulelaw08.WalkThrough", spec := "walkThrough", apart := false, narrowed := true }
def WalkThroughUptoSaid : Prop := walkThroughUptoRow.holds Try.pinned (OpenSpec.upto walkThroughSpec)

/-- 'granulelaw08.WalkFirst', WHERE WHAT IT READS IS OF BULK AT MOST 1048576: true; the input reads as it did. -/
def walkFirstUptoRow : OpenClaim := { program := "ytogoclcjkekplaa", sum := "b3415d94626c41d2d0ad857834ff7ab9f56137c361caeead7c78bab2771e7981", func := "granule/granulelaw08.WalkFirst", spec := "walkFirst", apart := false, narrowed := true }
def WalkFirstUptoSaid : Prop := walkFirstUptoRow.holds Try.pinned (OpenSpec.upto walkFirstSpec)

/-- 'granulelaw08.WalkParts', WHERE WHAT IT READS IS OF BULK AT MOST 1048576: true; the input reads as it did. -/
def walkPartsUptoRow : OpenClaim := { program := "ytogoclcjkekplaa", sum := "b3415d94626c41d2d0ad857834ff7ab9f56137c361caeead7c78bab2771e7981", func := "granule/granulelaw08.WalkParts", spec := "walkParts", apart := false, narrowed := true }
def WalkPartsUptoSaid : Prop := walkPartsUptoRow.holds Try.pinned (OpenSpec.upto walkPartsSpec)

/-- 'granulelaw08.WalkBeside', WHERE WHAT IT READS IS OF BULK AT MOST 1048576: true; the input reads as it did. -/
def walkBesideUptoRow : OpenClaim := { program := "ytogoclcjkekplaa", sum := "b3415d94626c41d2d0ad857834ff7ab9f56137c361caeead7c78bab2771e7981", func := "granule/granulelaw08.WalkBeside", spec := "walkBeside", apart := false, narrowed := true }
def WalkBesideUptoSaid : Prop := walkBesideUptoRow.holds Try.pinned (OpenSpec.upto walkBesideSpec)

/-- 'granulelaw08.WalkSyndromes', WHERE WHAT IT READS IS OF BULK AT MOST 1048576: true; the input reads as it did. -/
def walkSyndromesUptoRow : OpenClaim := { program := "ytogoclcjkekplaa", sum := "b3415d94626c41d2d0ad857834ff7ab9f56137c361caeead7c78bab2771e7981", func := "granule/granulelaw08.WalkSyndromes", spec := "walkSyndromes", apart := false, narrowed := true }
def WalkSyndromesUptoSaid : Prop := walkSyndromesUptoRow.holds Try.pinned (OpenSpec.upto walkSyndromesSpec)

/-- 'granulelaw08.WalkFaults', WHERE WHAT IT READS IS OF BULK AT MOST 1048576: true; the input reads as it did. -/
def walkFaultsUptoRow : OpenClaim := { program := "ytogoclcjkekplaa", sum := "b3415d94626c41d2d0ad857834ff7ab9f56137c361caeead7c78bab2771e7981", func := "granule/granulelaw08.WalkFaults", spec := "walkFaults", apart := false, narrowed := true }
def WalkFaultsUptoSaid : Prop := walkFaultsUptoRow.holds Try.pinned (OpenSpec.upto walkFaultsSpec)

end Rows
end Go.Proofs.Ytogoclcjkekplaa
