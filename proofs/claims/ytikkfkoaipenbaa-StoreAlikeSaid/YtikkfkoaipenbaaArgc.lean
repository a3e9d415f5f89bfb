/- Cells and slices of cells as arguments. -/
import Derived.Test.YtikkfkoaipenbaaArgs
import Derived.Test.YtikkfkoaipenbaaRecc
namespace Go.Proofs.Ytikkfkoaipenbaa
open Go.ChangeShapes Go.WideShapes Go.RowKit

section
variable {H : Type} {enc : TypeId × Value → H} {w : World} {base : Nat} {spare : Nat → Bool} {held : Bool}

theorem trod_cell {fuel : Nat} {cs : List Value} {x : DataW H × List MemPlace} (h : DataW.trod enc Try.prog w base spare held fuel 73 cs = some x) : ∃ p : Int × Int, cs = [.int .u64 p.1, .int .u64 p.2] ∧ (U64 p.1 ∧ U64 p.2) := by
  obtain ⟨xs, n, _, _, hl, hxs, hf⟩ := DataW.trod_struct Try.underlying73 h
  have hc : Try.prog.cellsOf 73 = 2 := by kernel_rfl
  have hc1 : Try.prog.cellsOf 23 = 1 := by kernel_rfl
  rw [hc] at hl
  obtain ⟨c0, c1, rfl⟩ : ∃ a b, cs = [a, b] := by
    match cs, hl with
    | [a, b], _ => exact ⟨a, b, rfl⟩
  have e0 := hf 0 _ rfl
  have e1 := hf 1 _ rfl
  have hx2 : xs.length = 2 := hxs
  rw [List.getElem?_eq_getElem (by omega)] at e0 e1
  obtain ⟨a, ha, hau⟩ := trod_u64 Try.underlying23 e0
  obtain ⟨b, hb, hbu⟩ := trod_u64 Try.underlying23 e1
  have ha' : List.take (Try.prog.cellsOf 23) (List.drop 0 [c0, c1]) = [.int .u64 a] := ha
  have hb' : List.take (Try.prog.cellsOf 23) (List.drop 1 [c0, c1]) = [.int .u64 b] := hb
  rw [hc1] at ha' hb'
  simp at ha' hb'
  subst ha' hb'
  exact ⟨(a, b), rfl, hau, hbu⟩

theorem arg_cells {v : Value} {d : DataW H} {ps : List MemPlace} (h : DataW.Trod enc Try.prog w base spare held 51 v d ps) (hv : Value.okWide Try.prog w .any base 51 v) :
    ∃ (ao : Option Addr) (cap : Nat) (l : List (Int × Int)), v = .slice ao l.length cap ∧ Atc w ao l ∧ (ao = none → cap = 0) ∧ ∀ p ∈ l, U64 p.1 ∧ U64 p.2 := by
  obtain ⟨_, _, _, rfl⟩ := okWide_slice Try.underlying51 hv
  obtain ⟨ao, cap, l, hvv, hR, hn, _, _, hc⟩ := open_recs (fun p : Int × Int => [.int .u64 p.1, .int .u64 p.2]) (fun p => U64 p.1 ∧ U64 p.2) Try.underlying51 (show Try.prog.cellsOf 73 = 2 by kernel_rfl) (fun _ _ _ h => trod_cell h) h rfl
  exact ⟨ao, cap, l, hvv, ⟨fun e => (hn e).1, hc⟩, fun e => (hn e).2, hR⟩

theorem arg_cell {v : Value} (h : Value.okWide Try.prog w .any base 73 v) : ∃ a b, v = .agg #[.int .u64 a, .int .u64 b] ∧ U64 a ∧ U64 b := by
  obtain ⟨l, rfl, hl, hc⟩ := agg_cells Try.underlying73 (by kernel_rfl) (show Try.prog.cellTypes Try.prog.depth 73 = some [23, 23] by kernel_rfl) rfl h
  obtain ⟨c0, h0, k0⟩ := hc 0 _ rfl
  obtain ⟨c1, h1, k1⟩ := hc 1 _ rfl
  obtain ⟨a, rfl, ha⟩ := cell_u64 Try.underlying23 k0
  obtain ⟨b, rfl, hb⟩ := cell_u64 Try.underlying23 k1
  match l, hl with
  | [x, y], _ =>
    simp at h0 h1
    subst h0 h1
    exact ⟨a, b, rfl, ha, hb⟩
end

end Go.Proofs.Ytikkfkoaipenbaa
