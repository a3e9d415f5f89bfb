/-
  No cell of these rows narrows 'for every input' (looked for: loops, veiled, ifaces, maps, wideKeys, modest, calm, conditions, laid).
  DERIVED. THE GIVEN ROWS OF THIS SEAT. 9 by the template 'for every input the law returns true; each argument reads behind the call as it read before'; 0 by the template 'total and deterministic' (their statements: YtcaggboeacgknaaTotals.lean).
  GIVEN WITH THE SEED: the statements are not yours to turn. If you find one false, say at which input.
  Laid BY PROGRAM, IN A SANDBOX (cutbox-rows.mjs): the forced cells as the released guide's own fill.sh prints them over the translation 188ca130d4c6f3c4… (all of the seat's roots in one cut). By AI agents, Wed Nov 11 2026. No macro, syntax, notation, axiom, sorry.
-/
import Derived.Test.YtcaggboeacgknaaChecked
import GoSem.Claim
import GoSem.ClaimJoined
import GoSem.ClaimMapViews
import Derived.JoinedTies
import Derived.KernelRfl
namespace Go.Proofs.Ytcaggboeacgknaa
/- THE CELL 'sum', in the pinned program and in every row, IS THE sha256 OF THE DUMP (.gsa) THAT YtcaggboeacgknaaProg.lean LOADS. Nothing in Lean hashes anything: it is a label: what it is worth is what the hold of that sum in a sandbox is worth. -/
noncomputable def Try.pinned : Pinned := { name := "ytcaggboeacgknaa", sum := "188ca130d4c6f3c4fae64c3373a518c8e11f19a9bcf2c85f5f43df914363efaf", checked := Try.checked }
namespace Rows
def none {H : Type} : Left H := { results := [], args := [] }

/-- 'granulelaw09.TlbFills': WHATEVER THE INPUT: true; the input reads as it did. -/
def tlbFillsSpec : ChangeSpec := { name := "tlbFills", fn := fun _ => fun
  | [d] => { results := [.lit (.bool true)], args := [d] }
  | _ => none }
def tlbFillsRow : OpenClaim := { program := "ytcaggboeacgknaa", sum := "188ca130d4c6f3c4fae64c3373a518c8e11f19a9bcf2c85f5f43df914363efaf", func := "granule/granulelaw09.TlbFills", spec := "tlbFills", apart := false }
def TlbFillsSaid : Prop := tlbFillsRow.holds Try.pinned (OpenSpec.ofChange tlbFillsSpec)

/-- ITS FALSE NEIGHBOUR: 'it returns false'. Refute it at one input. -/
def tlbFillsWrong : ChangeSpec := { name := "tlbFills", fn := fun _ => fun
  | [d] => { results := [.lit (.bool false)], args := [d] }
  | _ => none }
def TlbFillsWrongFalsely : Prop := tlbFillsRow.holds Try.pinned (OpenSpec.ofChange tlbFillsWrong)

/-- 'granulelaw09.TlbServes': WHATEVER THE INPUT: true; the input reads as it did. -/
def tlbServesSpec : ChangeSpec := { name := "tlbServes", fn := fun _ => fun
  | [d1, d2, d3] => { results := [.lit (.bool true)], args := [d1, d2, d3] }
  | _ => none }
def tlbServesRow : OpenClaim := { program := "ytcaggboeacgknaa", sum := "188ca130d4c6f3c4fae64c3373a518c8e11f19a9bcf2c85f5f43df914363efaf", func := "granule/granulelaw09.TlbServes", spec := "tlbServes", apart := false }
def TlbServesSaid : Prop := tlbServesRow.holds Try.pinned (OpenSpec.ofChange tlbServesSpec)

/-- ITS FALSE NEIGHBOUR: 'it returns false'. Refute it at one input. -/
def tlbServesWrong : ChangeSpec := { name := "tlbServes", fn := fun _ => fun
  | [d1, d2, d3] => { results := [.lit (.bool false)], args := [d1, d2, d3] }
  | _ => none }
def TlbServesWrongFalsely : Prop := tlbServesRow.holds Try.pinned (OpenSpec.ofChange tlbServesWrong)

/-- 'granulelaw09.TlbOwn': WHATEVER THE INPUT: true; the input reads as it did. -/
def tlbOwnSpec : ChangeSpec := { name := "tlbOwn", fn := fun _ => fun
  | [d1, d2] => { results := [.lit (.bool true)], args := [d1, d2] }
  | _ => none }
def tlbOwnRow : OpenClaim := { program := "ytcaggboeacgknaa", sum := "188ca130d4c6f3c4fae64c3373a518c8e11f19a9bcf2c85f5f43df914363efaf", func := "granule/granulelaw09.TlbOwn", spec := "tlbOwn", apart := false }
def TlbOwnSaid : Prop := tlbOwnRow.holds Try.pinned (OpenSpec.ofChange tlbOwnSpec)

/-- ITS FALSE NEIGHBOUR: 'it returns false'. Refute it at one input. -/
def tlbOwnWrong : ChangeSpec := { name := "tlbOwn", fn := fun _ => fun
  | [d1, d2] => { results := [.lit (.bool false)], args := [d1, d2] }
  | _ => none }
def TlbOwnWrongFalsely : Prop := tlbOwnRow.holds Try.pinned (OpenSpec.ofChange tlbOwnWrong)

/-- 'granulelaw09.TlbTakes': WHATEVER THE INPUT: true; the input reads as it did. -/
def tlbTakesSpec : ChangeSpec := { name := "tlbTakes", fn := fun _ => fun
  | [d1, d2, d3] => { results := [.lit (.bool true)], args := [d1, d2, d3] }
  | _ => none }
def tlbTakesRow : OpenClaim := { program := "ytcaggboeacgknaa", sum := "188ca130d4c6f3c4fae64c3373a518c8e11f19a9bcf2c85f5f43df914363efaf", func := "granule/granulelaw09.TlbTakes", spec := "tlbTakes", apart := false }
def TlbTakesSaid : Prop := tlbTakesRow.holds Try.pinned (OpenSpec.ofChange tlbTakesSpec)

/-- ITS FALSE NEIGHBOUR: 'it returns false'. Refute it at one input. -/
def tlbTakesWrong : ChangeSpec := { name := "tlbTakes", fn := fun _ => fun
  | [d1, d2, d3] => { results := [.lit (.bool false)], args := [d1, d2, d3] }
  | _ => none }
def TlbTakesWrongFalsely : Prop := tlbTakesRow.holds Try.pinned (OpenSpec.ofChange tlbTakesWrong)

/-- 'granulelaw09.TlbSingle': WHATEVER THE INPUT: true; the input reads as it did. -/
def tlbSingleSpec : ChangeSpec := { name := "tlbSingle", fn := fun _ => fun
  | [d] => { results := [.lit (.bool true)], args := [d] }
  | _ => none }
def tlbSingleRow : OpenClaim := { program := "ytcaggboeacgknaa", sum := "188ca130d4c6f3c4fae64c3373a518c8e11f19a9bcf2c85f5f43df914363efaf", func := "granule/granulelaw09.TlbSingle", spec := "tlbSingle", inPlace := ["slices.overlaps[granule/api.Entry]"], unfollowed := true, recurses := true, apart := false }
def TlbSingleSaid : Prop := tlbSingleRow.holds Try.pinned (OpenSpec.ofChange tlbSingleSpec)

/-- ITS FALSE NEIGHBOUR: 'it returns false'. Refute it at one input. -/
def tlbSingleWrong : ChangeSpec := { name := "tlbSingle", fn := fun _ => fun
  | [d] => { results := [.lit (.bool false)], args := [d] }
  | _ => none }
def TlbSingleWrongFalsely : Prop := tlbSingleRow.holds Try.pinned (OpenSpec.ofChange tlbSingleWrong)

/-- 'granulelaw09.TlbKeeps': WHATEVER THE INPUT: true; the input reads as it did. -/
def tlbKeepsSpec : ChangeSpec := { name := "tlbKeeps", fn := fun _ => fun
  | [d1, d2] => { results := [.lit (.bool true)], args := [d1, d2] }
  | _ => none }
def tlbKeepsRow : OpenClaim := { program := "ytcaggboeacgknaa", sum := "188ca130d4c6f3c4fae64c3373a518c8e11f19a9bcf2c85f5f43df914363efaf", func := "granule/granulelaw09.TlbKeeps", spec := "tlbKeeps", inPlace := ["slices.overlaps[granule/api.Entry]"], unfollowed := true, recurses := true, apart := false }
def TlbKeepsSaid : Prop := tlbKeepsRow.holds Try.pinned (OpenSpec.ofChange tlbKeepsSpec)

/-- ITS FALSE NEIGHBOUR: 'it returns false'. Refute it at one input. -/
def tlbKeepsWrong : ChangeSpec := { name := "tlbKeeps", fn := fun _ => fun
  | [d1, d2] => { results := [.lit (.bool false)], args := [d1, d2] }
  | _ => none }
def TlbKeepsWrongFalsely : Prop := tlbKeepsRow.holds Try.pinned (OpenSpec.ofChange tlbKeepsWrong)

/-- 'granulelaw09.TlbPlays': WHATEVER THE INPUT: true; the input reads as it did. -/
def tlbPlaysSpec : ChangeSpec := { name := "tlbPlays", fn := fun _ => fun
  | [d1, d2] => { results := [.lit (.bool true)], args := [d1, d2] }
  | _ => none }
def tlbPlaysRow : OpenClaim := { program := "ytcaggboeacgknaa", sum := "188ca130d4c6f3c4fae64c3373a518c8e11f19a9bcf2c85f5f43df914363efaf", func := "granule/granulelaw09.TlbPlays", spec := "tlbPlays", inPlace := ["slices.overlaps[granule/api.Entry]"], unfollowed := true, recurses := true, apart := false }
def TlbPlaysSaid : Prop := tlbPlaysRow.holds Try.pinned (OpenSpec.ofChange tlbPlaysSpec)

/-- ITS FALSE NEIGHBOUR: 'it returns false'. Refute it at one input. -/
def tlbPlaysWrong : ChangeSpec := { name := "tlbPlays", fn := fun _ => fun
  | [d1, d2] => { results := [.lit (.bool false)], args := [d1, d2] }
  | _ => none }
def TlbPlaysWrongFalsely : Prop := tlbPlaysRow.holds Try.pinned (OpenSpec.ofChange tlbPlaysWrong)

/-- 'granulelaw09.TlbDrops': WHATEVER THE INPUT: true; the input reads as it did. -/
def tlbDropsSpec : ChangeSpec := { name := "tlbDrops", fn := fun _ => fun
  | [d1, d2] => { results := [.lit (.bool true)], args := [d1, d2] }
  | _ => none }
def tlbDropsRow : OpenClaim := { program := "ytcaggboeacgknaa", sum := "188ca130d4c6f3c4fae64c3373a518c8e11f19a9bcf2c85f5f43df914363efaf", func := "granule/granulelaw09.TlbDrops", spec := "tlbDrops", inPlace := ["slices.overlaps[granule/api.Entry]"], unfollowed := true, recurses := true, apart := false }
def TlbDropsSaid : Prop := tlbDropsRow.holds Try.pinned (OpenSpec.ofChange tlbDropsSpec)

/-- ITS FALSE NEIGHBOUR: 'it returns false'. Refute it at one input. -/
def tlbDropsWrong : ChangeSpec := { name := "tlbDrops", fn := fun _ => fun
  | [d1, d2] => { results := [.lit (.bool false)], args := [d1, d2] }
  | _ => none }
def TlbDropsWrongFalsely : Prop := tlbDropsRow.holds Try.pinned (OpenSpec.ofChange tlbDropsWrong)

/-- 'granulelaw09.TlbServing': WHATEVER THE INPUT: true; the input reads as it did. -/
def tlbServingSpec : ChangeSpec := { name := "tlbServing", fn := fun _ => fun
  | [d1, d2, d3] => { results := [.lit (.bool true)], args := [d1, d2, d3] }
  | _ => none }
def tlbServingRow : OpenClaim := { program := "ytcaggboeacgknaa", sum := "188ca130d4c6f3c4fae64c3373a518c8e11f19a9bcf2c85f5f43df914363efaf", func := "granule/granulelaw09.TlbServing", spec := "tlbServing", inPlace := ["slices.overlaps[granule/api.Entry]"], unfollowed := true, recurses := true, apart := false }
def TlbServingSaid : Prop := tlbServingRow.holds Try.pinned (OpenSpec.ofChange tlbServingSpec)

/-- ITS FALSE NEIGHBOUR: 'it returns false'. Refute it at one input. -/
def tlbServingWrong : ChangeSpec := { name := "tlbServing", fn := fun _ => fun
  | [d1, d2, d3] => { results := [.lit (.bool false)], args := [d1, d2, d3] }
  | _ => none }
def TlbServingWrongFalsely : Prop := tlbServingRow.holds Try.pinned (OpenSpec.ofChange tlbServingWrong)

/- THE SECOND FORM. 'bulk': how many values and letters a reading holds, each counted each time it is reached (what is shared counts as often as it is met; a slice's spare places count too). A statement '..UptoSaid' is the law's where the arguments, and the package variables that the reading takes, are together of bulk at most 1048576: NARROWER than '..Said'. Prove '..Said' where nothing that the law and all that it calls make is longer than what came in: it says more and counts as full. Else prove '..UptoSaid'. A law counts once. -/
mutual
def uptoBulk {H : Type} : DataW H → Nat
  | .lit (.string bytes) => bytes.length + 1
  | .lit _ => 1
  | .nil => 1
  | .ptr d => uptoBulk d + 1
  | .slice elems spare => uptoBulkAll elems + uptoBulkAll spare + 1
  | .agg parts => uptoBulkAll parts + 1
  | .iface _ d => uptoBulk d + 1
  | .map entries => uptoBulkEntries entries + 1
  | .held _ => 1
def uptoBulkAll {H : Type} : List (DataW H) → Nat
  | [] => 0
  | d :: r => uptoBulk d + uptoBulkAll r
def uptoBulkEntries {H : Type} : List (Lit × DataW H) → Nat
  | [] => 0
  | x :: r => uptoBulkEntry x + uptoBulkEntries r
def uptoBulkEntry {H : Type} : Lit × DataW H → Nat
  | (.string bytes, d) => bytes.length + uptoBulk d + 1
  | (_, d) => uptoBulk d + 1
 end
def uptoSmall : (H : Type) → List (DataW H) → Bool := fun _ ds => decide (uptoBulkAll ds ≤ 1048576)
def OpenSpec.upto (s : _root_.Go.ChangeSpec) : _root_.Go.OpenSpec := { _root_.Go.OpenSpec.ofChange s with cond := some uptoSmall }

/-- 'granulelaw09.TlbFills', WHERE WHAT IT READS IS OF BULK AT MOST 1048576: true; the input reads as it did. -/
def tlbFillsUptoRow : OpenClaim := { program := "ytcaggboeacgknaa", sum := "188ca130d4c6f3c4fae64c3373a518c8e11f19a9bcf2c85f5f43df914363efaf", func := "granule/granulelaw09.TlbFills", spec := "tlbFills", apart := false, narrowed := true }
def TlbFillsUptoSaid : Prop := tlbFillsUptoRow.holds Try.pinned (OpenSpec.upto tlbFillsSpec)

/-- 'granulelaw09.TlbServes', WHERE WHAT IT READS IS OF BULK AT MOST 1048576: true; the input reads as it did. -/
def tlbServesUptoRow : OpenClaim := { program := "ytcaggboeacgknaa", sum := "188ca130d4c6f3c4fae64c3373a518c8e11f19a9bcf2c85f5f43df914363efaf", func := "granule/granulelaw09.TlbServes", spec := "tlbServes", apart := false, narrowed := true }
def TlbServesUptoSaid : Prop := tlbServesUptoRow.holds Try.pinned (OpenSpec.upto tlbServesSpec)

/-- 'granulelaw09.TlbOwn', WHERE WHAT IT READS IS OF BULK AT MOST 1048576: true; the input reads as it did. -/
def tlbOwnUptoRow : OpenClaim := { program := "ytcaggboeacgknaa", sum := "188ca130d4c6f3c4fae64c3373a518c8e11f19a9bcf2c85f5f43df914363efaf", func := "granule/granulelaw09.TlbOwn", spec := "tlbOwn", apart := false, narrowed := true }
def TlbOwnUptoSaid : Prop := tlbOwnUptoRow.holds Try.pinned (OpenSpec.upto tlbOwnSpec)

/-- 'granulelaw09.TlbTakes', WHERE WHAT IT READS IS OF BULK AT MOST 1048576: true; the input reads as it did. -/
def tlbTakesUptoRow : OpenClaim := { program := "ytcaggboeacgknaa", sum := "188ca130d4c6f3c4fae64c3373a518c8e11f19a9bcf2c85f5f43df914363efaf", func := "granule/granulelaw09.TlbTakes", spec := "tlbTakes", apart := false, narrowed := true }
def TlbTakesUptoSaid : Prop := tlbTakesUptoRow.holds Try.pinned (OpenSpec.upto tlbTakesSpec)

/-- 'granulelaw09.TlbSingle', WHERE WHAT IT READS IS OF BULK AT MOST 1048576: true; the input reads as it did. -/
def tlbSingleUptoRow : OpenClaim := { program := "ytcaggboeacgknaa", sum := "188ca130d4c6f3c4fae64c3373a518c8e11f19a9bcf2c85f5f43df914363efaf", func := "granule/granulelaw09.TlbSingle", spec := "tlbSingle", inPlace := ["slices.overlaps[granule/api.Entry]"], unfollowed := true, recurses := true, apart := false, narrowed := true }
def TlbSingleUptoSaid : Prop := tlbSingleUptoRow.holds Try.pinned (OpenSpec.upto tlbSingleSpec)

/-- 'granulelaw09.TlbKeeps', WHERE WHAT IT READS IS OF BULK AT MOST 1048576: true; the input reads as it did. -/
def tlbKeepsUptoRow : OpenClaim := { program := "ytcaggboeacgknaa", sum := "188ca130d4c6f3c4fae64c3373a518c8e11f19a9bcf2c85f5f43df914363efaf", func := "granule/granulelaw09.TlbKeeps", spec := "tlbKeeps", inPlace := ["slices.overlaps[granule/api.Entry]"], unfollowed := true, recurses := true, apart := false, narrowed := true }
def TlbKeepsUptoSaid : Prop := tlbKeepsUptoRow.holds Try.pinned (OpenSpec.upto tlbKeepsSpec)

/-- 'granulelaw09.TlbPlays', WHERE WHAT IT READS IS OF BULK AT MOST 1048576: true; the input reads as it did. -/
def tlbPlaysUptoRow : OpenClaim := { program := "ytcaggboeacgknaa", sum := "188ca130d4c6f3c4fae64c3373a518c8e11f19a9bcf2c85f5f43df914363efaf", func := "granule/granulelaw09.TlbPlays", spec := "tlbPlays", inPlace := ["slices.overlaps[granule/api.Entry]"], unfollowed := true, recurses := true, apart := false, narrowed := true }
def TlbPlaysUptoSaid : Prop := tlbPlaysUptoRow.holds Try.pinned (OpenSpec.upto tlbPlaysSpec)

/-- 'granulelaw09.TlbDrops', WHERE WHAT IT READS IS OF BULK AT MOST 1048576: true; the input reads as it did. -/
def tlbDropsUptoRow : OpenClaim := { program := "ytcaggboeacgknaa", sum := "188ca130d4c6f3c4fae64c3373a518c8e11f19a9bcf2c85f5f43df914363efaf", func := "granule/granulelaw09.TlbDrops", spec := "tlbDrops", inPlace := ["slices.overlaps[granule/api.Entry]"], unfollowed := true, recurses := true, apart := false, narrowed := true }
def TlbDropsUptoSaid : Prop := tlbDropsUptoRow.holds Try.pinned (OpenSpec.upto tlbDropsSpec)

/-- 'granulelaw09.TlbServing', WHERE WHAT IT READS IS OF BULK AT MOST 1048576: true; the input reads as it did. -/
def tlbServingUptoRow : OpenClaim := { program := "ytcaggboeacgknaa", sum := "188ca130d4c6f3c4fae64c3373a518c8e11f19a9bcf2c85f5f43df914363efaf", func := "granule/granulelaw09.TlbServing", spec := "tlbServing", inPlace := ["slices.overlaps[granule/api.Entry]"], unfollowed := true, recurses := true, apart := false, narrowed := true }
def TlbServingUptoSaid : Prop := tlbServingUptoRow.holds Try.pinned (OpenSpec.upto tlbServingSpec)

end Rows
end Go.Proofs.Ytcaggboeacgknaa
