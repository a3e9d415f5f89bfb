/-
  No cell of these rows narrows 'for every input' (looked for: loops, veiled, ifaces, maps, wideKeys, modest, calm, conditions, laid).
  DERIVED. THE GIVEN ROWS OF THIS SEAT. 6 by the template 'for every input the law returns true; each argument reads behind the call as it read before'; 0 by the template 'total and deterministic' (their statements: YtalapjdaplfjlaaTotals.lean).
  GIVEN WITH THE SEED: the statements are not yours to turn. If you find one false, say at which input.
  Laid BY PROGRAM, IN A SANDBOX (cutbox-rows.mjs): the forced cells as the released guide's own fill.sh prints them over the translation 0445c86f2ba714e8… (all of the seat's roots in one cut). By AI agents, Wed Nov 11 2026. No macro, syntax, notation, axiom, sorry.
-/
import Derived.Test.YtalapjdaplfjlaaChecked
import GoSem.Claim
import GoSem.ClaimJoined
import GoSem.ClaimMapViews
import Derived.JoinedTies
import Derived.KernelRfl
namespace Go.Proofs.Ytalapjdaplfjlaa
/- THE CELL 'sum', in the pinned program and in every row, IS THE sha256 OF THE DUMP (.gsa) THAT YtalapjdaplfjlaaProg.lean LOADS. Nothing in Lean hashes anything: it is a label: what it is worth is what the hold of that sum in a sandbox is worth. -/
noncomputable def Try.pinned : Pinned := { name := "ytalapjdaplfjlaa", sum := "0445c86f2ba714e8c169eea0627cbcbb315647bd68e247bca951d57eb6f7de38", checked := Try.checked }
namespace Rows
def none {H : Type} : Left H := { results := [], args := [] }

/-- 'granulelaw07.DescReads': WHATEVER THE INPUT: true; the input reads as it did. -/
def descReadsSpec : ChangeSpec := { name := "descReads", fn := fun _ => fun
  | [d1, d2] => { results := [.lit (.bool true)], args := [d1, d2] }
  | _ => none }
def descReadsRow : OpenClaim := { program := "ytalapjdaplfjlaa", sum := "0445c86f2ba714e8c169eea0627cbcbb315647bd68e247bca951d57eb6f7de38", func := "granule/granulelaw07.DescReads", spec := "descReads", apart := false }
def DescReadsSaid : Prop := descReadsRow.holds Try.pinned (OpenSpec.ofChange descReadsSpec)

/-- ITS FALSE NEIGHBOUR: 'it returns false'. Refute it at one input. -/
def descReadsWrong : ChangeSpec := { name := "descReads", fn := fun _ => fun
  | [d1, d2] => { results := [.lit (.bool false)], args := [d1, d2] }
  | _ => none }
def DescReadsWrongFalsely : Prop := descReadsRow.holds Try.pinned (OpenSpec.ofChange descReadsWrong)

/-- 'granulelaw07.DescLeads': WHATEVER THE INPUT: true; the input reads as it did. -/
def descLeadsSpec : ChangeSpec := { name := "descLeads", fn := fun _ => fun
  | [d1, d2, d3] => { results := [.lit (.bool true)], args := [d1, d2, d3] }
  | _ => none }
def descLeadsRow : OpenClaim := { program := "ytalapjdaplfjlaa", sum := "0445c86f2ba714e8c169eea0627cbcbb315647bd68e247bca951d57eb6f7de38", func := "granule/granulelaw07.DescLeads", spec := "descLeads", apart := false }
def DescLeadsSaid : Prop := descLeadsRow.holds Try.pinned (OpenSpec.ofChange descLeadsSpec)

/-- ITS FALSE NEIGHBOUR: 'it returns false'. Refute it at one input. -/
def descLeadsWrong : ChangeSpec := { name := "descLeads", fn := fun _ => fun
  | [d1, d2, d3] => { results := [.lit (.bool false)], args := [d1, d2, d3] }
  | _ => none }
def DescLeadsWrongFalsely : Prop := descLeadsRow.holds Try.pinned (OpenSpec.ofChange descLeadsWrong)

/-- 'granulelaw07.DescAllows': WHATEVER THE INPUT: true; the input reads as it did. -/
def descAllowsSpec : ChangeSpec := { name := "descAllows", fn := fun _ => fun
  | [d1, d2] => { results := [.lit (.bool true)], args := [d1, d2] }
  | _ => none }
def descAllowsRow : OpenClaim := { program := "ytalapjdaplfjlaa", sum := "0445c86f2ba714e8c169eea0627cbcbb315647bd68e247bca951d57eb6f7de38", func := "granule/granulelaw07.DescAllows", spec := "descAllows", apart := false }
def DescAllowsSaid : Prop := descAllowsRow.holds Try.pinned (OpenSpec.ofChange descAllowsSpec)

/-- ITS FALSE NEIGHBOUR: 'it returns false'. Refute it at one input. -/
def descAllowsWrong : ChangeSpec := { name := "descAllows", fn := fun _ => fun
  | [d1, d2] => { results := [.lit (.bool false)], args := [d1, d2] }
  | _ => none }
def DescAllowsWrongFalsely : Prop := descAllowsRow.holds Try.pinned (OpenSpec.ofChange descAllowsWrong)

/-- 'granulelaw07.DescSlots': WHATEVER THE INPUT: true; the input reads as it did. -/
def descSlotsSpec : ChangeSpec := { name := "descSlots", fn := fun _ => fun
  | [d1, d2, d3] => { results := [.lit (.bool true)], args := [d1, d2, d3] }
  | _ => none }
def descSlotsRow : OpenClaim := { program := "ytalapjdaplfjlaa", sum := "0445c86f2ba714e8c169eea0627cbcbb315647bd68e247bca951d57eb6f7de38", func := "granule/granulelaw07.DescSlots", spec := "descSlots", apart := false }
def DescSlotsSaid : Prop := descSlotsRow.holds Try.pinned (OpenSpec.ofChange descSlotsSpec)

/-- ITS FALSE NEIGHBOUR: 'it returns false'. Refute it at one input. -/
def descSlotsWrong : ChangeSpec := { name := "descSlots", fn := fun _ => fun
  | [d1, d2, d3] => { results := [.lit (.bool false)], args := [d1, d2, d3] }
  | _ => none }
def DescSlotsWrongFalsely : Prop := descSlotsRow.holds Try.pinned (OpenSpec.ofChange descSlotsWrong)

/-- 'granulelaw07.DescWrites': WHATEVER THE INPUT: true; the input reads as it did. -/
def descWritesSpec : ChangeSpec := { name := "descWrites", fn := fun _ => fun
  | [d1, d2] => { results := [.lit (.bool true)], args := [d1, d2] }
  | _ => none }
def descWritesRow : OpenClaim := { program := "ytalapjdaplfjlaa", sum := "0445c86f2ba714e8c169eea0627cbcbb315647bd68e247bca951d57eb6f7de38", func := "granule/granulelaw07.DescWrites", spec := "descWrites", apart := false }
def DescWritesSaid : Prop := descWritesRow.holds Try.pinned (OpenSpec.ofChange descWritesSpec)

/-- ITS FALSE NEIGHBOUR: 'it returns false'. Refute it at one input. -/
def descWritesWrong : ChangeSpec := { name := "descWrites", fn := fun _ => fun
  | [d1, d2] => { results := [.lit (.bool false)], args := [d1, d2] }
  | _ => none }
def DescWritesWrongFalsely : Prop := descWritesRow.holds Try.pinned (OpenSpec.ofChange descWritesWrong)

/-- 'granulelaw07.DescBack': WHATEVER THE INPUT: true; the input reads as it did. -/
def descBackSpec : ChangeSpec := { name := "descBack", fn := fun _ => fun
  | [d1, d2, d3] => { results := [.lit (.bool true)], args := [d1, d2, d3] }
  | _ => none }
def descBackRow : OpenClaim := { program := "ytalapjdaplfjlaa", sum := "0445c86f2ba714e8c169eea0627cbcbb315647bd68e247bca951d57eb6f7de38", func := "granule/granulelaw07.DescBack", spec := "descBack", apart := false }
def DescBackSaid : Prop := descBackRow.holds Try.pinned (OpenSpec.ofChange descBackSpec)

/-- ITS FALSE NEIGHBOUR: 'it returns false'. Refute it at one input. -/
def descBackWrong : ChangeSpec := { name := "descBack", fn := fun _ => fun
  | [d1, d2, d3] => { results := [.lit (.bool false)], args := [d1, d2, d3] }
  | _ => none }
def DescBackWrongFalsely : Prop := descBackRow.holds Try.pinned (OpenSpec.ofChange descBackWrong)

/- THE SECOND FORM. 'bulk': how many values and letters a reading holds, each counted each time it is reached (what is shared counts as often as it is met; a slice's spare places count too). A statement '..UptoSaid' is the law's where the arguments, and the package variables that the reading takes, are together of bulk at most 1048576: NARROWER than '..Said'. Prove '..Said' where nothing that the law and all that it calls make is longer than what came in: it says more and counts as full. Else prove '..UptoSaid'. A law counts once. -/
mutual
def uptoBulk {H : Type} : DataW H → Nat
  | .lit (.string bytes) => bytes.length + 1
  | .lit _ => 1
  | .nil => 1
  | .ptr d => uptoBulk d + 1
  | .slice elems spare => uptoBulkAll elems + uptoBulkAll spare + 1
  | .agg parts => uptoBulkAll parts + 1
  | .iface _ d => uptoBulk d + 1
  | .map entries => uptoBulkEntries entries + 1
  | .held _ => 1
def uptoBulkAll {H : Type} : List (DataW H) → Nat
  | [] => 0
  | d :: r => uptoBulk d + uptoBulkAll r
def uptoBulkEntries {H : Type} : List (Lit × DataW H) → Nat
  | [] => 0
  | x :: r => uptoBulkEntry x + uptoBulkEntries r
def uptoBulkEntry {H : Type} : Lit × DataW H → Nat
  | (.string bytes, d) => bytes.length + uptoBulk d + 1
  | (_, d) => uptoBulk d + 1
 end
def uptoSmall : (H : Type) → List (DataW H) → Bool := fun _ ds => decide (uptoBulkAll ds ≤ 1048576)
def OpenSpec.upto (s : _root_.Go.ChangeSpec) : _root_.Go.OpenSpec := { _root_.Go.OpenSpec.ofChange s with cond := some uptoSmall }

/-- 'granulelaw07.DescReads', WHERE WHAT IT READS IS OF BULK AT MOST 1048576: true; the input reads as it did. -/
def descReadsUptoRow : OpenClaim := { program := "ytalapjdaplfjlaa", sum := "0445c86f2ba714e8c169eea0627cbcbb315647bd68e247bca951d57eb6f7de38", func := "granule/granulelaw07.DescReads", spec := "descReads", apart := false, narrowed := true }
def DescReadsUptoSaid : Prop := descReadsUptoRow.holds Try.pinned (OpenSpec.upto descReadsSpec)

/-- 'granulelaw07.DescLeads', WHERE WHAT IT READS IS OF BULK AT MOST 1048576: true; the input reads as it did. -/
def descLeadsUptoRow : OpenClaim := { program := "ytalapjdaplfjlaa", sum := "0445c86f2ba714e8c169eea0627cbcbb315647bd68e247bca951d57eb6f7de38", func := "granule/granulelaw07.DescLeads", spec := "descLeads", apart := false, narrowed := true }
def DescLeadsUptoSaid : Prop := descLeadsUptoRow.holds Try.pinned (OpenSpec.upto descLeadsSpec)

/-- 'granulelaw07.DescAllows', WHERE WHAT IT READS IS OF BULK AT MOST 1048576: true; the input reads as it did. -/
def descAllowsUptoRow : OpenClaim := { program := "ytalapjdaplfjlaa", sum := "0445c86f2ba714e8c169eea0627cbcbb315647bd68e247bca951d57eb6f7de38", func := "granule/granulelaw07.DescAllows", spec := "descAllows", apart := false, narrowed := true }
def DescAllowsUptoSaid : Prop := descAllowsUptoRow.holds Try.pinned (OpenSpec.upto descAllowsSpec)

/-- 'granulelaw07.DescSlots', WHERE WHAT IT READS IS OF BULK AT MOST 1048576: true; the input reads as it did. -/
def descSlotsUptoRow : OpenClaim := { program := "ytalapjdaplfjlaa", sum := "0445c86f2ba714e8c169eea0627cbcbb315647bd68e247bca951d57eb6f7de38", func := "granule/granulelaw07.DescSlots", spec := "descSlots", apart := false, narrowed := true }
def DescSlotsUptoSaid : Prop := descSlotsUptoRow.holds Try.pinned (OpenSpec.upto descSlotsSpec)

/-- 'granulelaw07.DescWrites', WHERE WHAT IT READS IS OF BULK AT MOST 1048576: true; the input reads as it did. -/
def descWritesUptoRow : OpenClaim := { program := "ytalapjdaplfjlaa", sum := "0445c86f2ba714e8c169eea0627cbcbb315647bd68e247bca951d57eb6f7de38", func := "granule/granulelaw07.DescWrites", spec := "descWrites", apart := false, narrowed := true }
def DescWritesUptoSaid : Prop := descWritesUptoRow.holds Try.pinned (OpenSpec.upto descWritesSpec)

/-- 'granulelaw07.DescBack', WHERE WHAT IT READS IS OF BULK AT MOST 1048576: true; the input reads as it did. -/
def descBackUptoRow : OpenClaim := { program := "ytalapjdaplfjlaa", sum := "0445c86f2ba714e8c169eea0627cbcbb315647bd68e247bca951d57eb6f7de38", func := "granule/granulelaw07.DescBack", spec := "descBack", apart := false, narrowed := true }
def DescBackUptoSaid : Prop := descBackUptoRow.holds Try.pinned (OpenSpec.upto descBackSpec)

end Rows
end Go.Proofs.Ytalapjdaplfjlaa
