/- Changes of maps: as arguments, and where they lie. -/
import Derived.Test.YtikkfkoaipenbaaArgs
import Derived.Test.YtikkfkoaipenbaaRecp
namespace Go.Proofs.Ytikkfkoaipenbaa
open Go.ChangeShapes Go.WideShapes Go.RowKit

/-- A change's cells. -/
def opC (p : Bool × Int × Int) : List Value := [.bool p.1, .int .u64 p.2.1, .int .i64 p.2.2]

/-- Changes, wherever they lie. -/
def Ato (w : World) (ao : Option Addr) (l : List (Bool × Int × Int)) : Prop :=
  (ao = none → l = []) ∧ ∀ ad, ao = some ad → ∀ (k : Nat) (u : Value), (l.map opC).flatten[k]? = some u → w.cell? (ad.add k) = some u

theorem opC_at : ∀ (l : List (Bool × Int × Int)) (j i : Nat) (h : j < l.length), i < 3 → (l.map opC).flatten[j * 3 + i]? = (opC l[j])[i]?
  | [], j, i, h, _ => by simp at h
  | p :: l, 0, i, _, hi => by
    simp only [List.map_cons, List.flatten_cons]
    rw [List.getElem?_append_left (by simp [opC]; omega)]
    simp
  | p :: l, j + 1, i, h, hi => by
    simp only [List.map_cons, List.flatten_cons]
    rw [List.getElem?_append_right (by simp [opC]; omega), show (j + 1) * 3 + i - (opC p).length = j * 3 + i by simp [opC]; omega]
    have := opC_at l j i (by simpa using h) hi
    rw [this]
    simp

theorem Ato.triple {w : World} {ad : Addr} {l : List (Bool × Int × Int)} (h : Ato w (some ad) l) (j : Nat) (hj : j < l.length) :
    w.cell? (ad.add (j * 3)) = some (.bool l[j].1) ∧ w.cell? ⟨(ad.add (j * 3)).block, (ad.add (j * 3)).off + 1, none⟩ = some (.int .u64 l[j].2.1) ∧ w.cell? ⟨(ad.add (j * 3)).block, (ad.add (j * 3)).off + 2, none⟩ = some (.int .i64 l[j].2.2) := by
  have h0 := h.2 ad rfl (j * 3 + 0) _ (opC_at l j 0 hj (by decide))
  have h1 := h.2 ad rfl (j * 3 + 1) _ (opC_at l j 1 hj (by decide))
  have h2 := h.2 ad rfl (j * 3 + 2) _ (opC_at l j 2 hj (by decide))
  rw [← Go.Deep.add_add] at h1 h2
  exact ⟨h0, h1, h2⟩

theorem Ato.below {w w' : World} {ao : Option Addr} {l : List (Bool × Int × Int)} (h : Ato w ao l) (hb : Below w.heap.size w w') : Ato w' ao l := by
  refine ⟨h.1, fun ad e j u hj => ?_⟩
  have := h.2 ad e j u hj
  rw [hb.cell (cell_lt this)]
  exact this

section
variable {H : Type} {enc : TypeId × Value → H} {w : World} {base : Nat} {spare : Nat → Bool} {held : Bool}

theorem trod_boolc {t : TypeId} {fuel : Nat} {cs : List Value} {x : DataW H × List MemPlace} (ht : Try.prog.underlying t = some .bool) (h : DataW.trod enc Try.prog w base spare held fuel t cs = some x) : ∃ b, cs = [.bool b] := by
  obtain ⟨b, rfl, _⟩ := DataW.trod_bool ht h
  exact ⟨b, rfl⟩

theorem trod_op {fuel : Nat} {cs : List Value} {x : DataW H × List MemPlace} (h : DataW.trod enc Try.prog w base spare held fuel 38 cs = some x) : ∃ p : Bool × Int × Int, cs = opC p ∧ (U64 p.2.1 ∧ I64 p.2.2) := by
  obtain ⟨xs, n, _, _, hl, hxs, hf⟩ := DataW.trod_struct Try.underlying38 h
  have hc : Try.prog.cellsOf 38 = 3 := by kernel_rfl
  have hc0 : Try.prog.cellsOf 4 = 1 := by kernel_rfl
  have hc1 : Try.prog.cellsOf 23 = 1 := by kernel_rfl
  have hc2 : Try.prog.cellsOf 3 = 1 := by kernel_rfl
  rw [hc] at hl
  obtain ⟨c0, c1, c2, rfl⟩ : ∃ a b c, cs = [a, b, c] := by
    match cs, hl with
    | [a, b, c], _ => exact ⟨a, b, c, rfl⟩
  have e0 := hf 0 _ rfl
  have e1 := hf 1 _ rfl
  have e2 := hf 2 _ rfl
  have hx2 : xs.length = 3 := hxs
  rw [List.getElem?_eq_getElem (by omega)] at e0 e1 e2
  obtain ⟨a, ha⟩ := trod_boolc Try.underlying4 e0
  obtain ⟨b, hb, hbu⟩ := trod_u64 Try.underlying23 e1
  obtain ⟨c, hcc, hcu⟩ := trod_i64 Try.underlying3 e2
  have ha' : List.take (Try.prog.cellsOf 4) (List.drop 0 [c0, c1, c2]) = [.bool a] := ha
  have hb' : List.take (Try.prog.cellsOf 23) (List.drop 1 [c0, c1, c2]) = [.int .u64 b] := hb
  have hc' : List.take (Try.prog.cellsOf 3) (List.drop 2 [c0, c1, c2]) = [.int .i64 c] := hcc
  rw [hc0] at ha'
  rw [hc1] at hb'
  rw [hc2] at hc'
  simp at ha' hb' hc'
  subst ha' hb' hc'
  exact ⟨(a, b, c), rfl, hbu, hcu⟩

theorem arg_ops {v : Value} {d : DataW H} {ps : List MemPlace} (h : DataW.Trod enc Try.prog w base spare held 22 v d ps) (hv : Value.okWide Try.prog w .any base 22 v) :
    ∃ (ao : Option Addr) (cap : Nat) (l : List (Bool × Int × Int)), v = .slice ao l.length cap ∧ Ato w ao l ∧ (ao = none → cap = 0) ∧ ∀ p ∈ l, U64 p.2.1 ∧ I64 p.2.2 := by
  obtain ⟨_, _, _, rfl⟩ := okWide_slice Try.underlying22 hv
  obtain ⟨ao, cap, l, hvv, hR, hn, _, _, hc⟩ := open_recs opC (fun p => U64 p.2.1 ∧ I64 p.2.2) Try.underlying22 (show Try.prog.cellsOf 38 = 3 by kernel_rfl) (fun _ _ _ h => trod_op h) h rfl
  exact ⟨ao, cap, l, hvv, ⟨fun e => (hn e).1, hc⟩, fun e => (hn e).2, hR⟩

theorem arg_op {v : Value} (h : Value.okWide Try.prog w .any base 38 v) : ∃ a b c, v = .agg #[.bool a, .int .u64 b, .int .i64 c] ∧ U64 b ∧ I64 c := by
  obtain ⟨l, rfl, hl, hc⟩ := agg_cells Try.underlying38 (by kernel_rfl) (show Try.prog.cellTypes Try.prog.depth 38 = some [4, 23, 3] by kernel_rfl) rfl h
  obtain ⟨c0, h0, k0⟩ := hc 0 _ rfl
  obtain ⟨c1, h1, k1⟩ := hc 1 _ rfl
  obtain ⟨c2, h2, k2⟩ := hc 2 _ rfl
  obtain ⟨a, rfl⟩ := cell_bool Try.underlying4 k0
  obtain ⟨b, rfl, hb⟩ := cell_u64 Try.underlying23 k1
  obtain ⟨c, rfl, hcc⟩ := cell_i64 Try.underlying3 k2
  match l, hl with
  | [x, y, z], _ =>
    simp at h0 h1 h2
    subst h0 h1 h2
    exact ⟨a, b, c, rfl, hb, hcc⟩
end

end Go.Proofs.Ytikkfkoaipenbaa
