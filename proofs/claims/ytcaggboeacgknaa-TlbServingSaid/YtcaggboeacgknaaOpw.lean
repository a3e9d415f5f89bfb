/- Changes of buffers, and ways, as arguments. -/
import Derived.Test.YtcaggboeacgknaaArgs
import Derived.Test.YtcaggboeacgknaaAwake09
import Derived.Test.YtcaggboeacgknaaEnts
namespace Go.Proofs.Ytcaggboeacgknaa
open Go.ChangeShapes Go.WideShapes Go.RowKit
set_option linter.unusedSimpArgs false
set_option linter.unusedVariables false

/-- Records, wherever they lie. -/
def Atr {β : Type} (f : β → List Value) (w : World) (ao : Option Addr) (l : List β) : Prop :=
  (ao = none → l = []) ∧ ∀ ad, ao = some ad → ∀ (k : Nat) (u : Value), (l.map f).flatten[k]? = some u → w.cell? (ad.add k) = some u

theorem recs_at {β : Type} (f : β → List Value) (size : Nat) (hf : ∀ p, (f p).length = size) : ∀ (l : List β) (j i : Nat) (h : j < l.length), i < size → (l.map f).flatten[j * size + i]? = (f l[j])[i]?
  | [], j, i, h, _ => by simp at h
  | p :: l, 0, i, _, hi => by
    simp only [List.map_cons, List.flatten_cons]
    rw [List.getElem?_append_left (by rw [hf]; omega)]
    simp
  | p :: l, j + 1, i, h, hi => by
    simp only [List.map_cons, List.flatten_cons]
    have e : (j + 1) * size = j * size + size := by rw [Nat.add_mul]; omega
    rw [e, List.getElem?_append_right (by rw [hf]; omega), show j * size + size + i - (f p).length = j * size + i by rw [hf]; omega]
    have := recs_at f size hf l j i (by simpa using h) hi
    rw [this]
    simp

theorem Atr.at {β : Type} {f : β → List Value} {size : Nat} (hf : ∀ p, (f p).length = size) {w : World} {ad : Addr} {l : List β} (h : Atr f w (some ad) l) (j : Nat) (hj : j < l.length) (i : Nat) (u : Value) (hu : (f l[j])[i]? = some u) :
    w.cell? ((ad.add (j * size)).add i) = some u := by
  have hi : i < size := by rw [← hf l[j]]; exact (List.getElem?_eq_some_iff.1 hu).1
  have := h.2 ad rfl (j * size + i) u (by rw [recs_at f size hf l j i hj hi]; exact hu)
  rw [← Go.Deep.add_add] at this
  exact this

theorem Atr.below {β : Type} {f : β → List Value} {w w' : World} {ao : Option Addr} {l : List β} (h : Atr f w ao l) (hb : Below w.heap.size w w') : Atr f w' ao l := by
  refine ⟨h.1, fun ad e j u hj => ?_⟩
  have := h.2 ad e j u hj
  rw [hb.cell (cell_lt this)]
  exact this

/-- A change of a buffer: its kind, its entry, what it flushes. -/
abbrev P9 := Int × E × F
def cellsF (f : F) : List Value := [.int .i64 f.kind, .int .u64 f.page, .int .i64 f.space]
def cellsP (p : P9) : List Value := [.int .i64 p.1, .int .i64 p.2.1.space, .int .u64 p.2.1.page, .int .u64 p.2.1.first, .int .u64 p.2.1.last, .int .i64 p.2.2.kind, .int .u64 p.2.2.page, .int .i64 p.2.2.space]
def opV (p : P9) : Value := .agg (cellsP p).toArray
def okP (p : P9) : Prop := I64 p.1 ∧ p.2.1.ok ∧ p.2.2.ok

section
variable {H : Type} {enc : TypeId × Value → H} {w : World} {base : Nat} {spare : Nat → Bool} {held : Bool}

theorem trod_four {fuel : Nat} {cs : List Value} {x : DataW H × List MemPlace}
    (h : DataW.trod enc Try.prog w base spare held fuel 27 cs = some x) : ∃ e : E, cs = cellsE e ∧ e.ok := by
  obtain ⟨xs, n, _, _, hl, hxs, hf⟩ := DataW.trod_struct Try.underlying27 h
  have hc1 : Try.prog.cellsOf 22 = 1 := by kernel_rfl
  have hc2 : Try.prog.cellsOf 3 = 1 := by kernel_rfl
  have hc : Try.prog.cellsOf 27 = 4 := by kernel_rfl
  rw [hc] at hl
  obtain ⟨c0, c1, c2, c3, rfl⟩ : ∃ a b c d, cs = [a, b, c, d] := by
    match cs, hl with
    | [a, b, c, d], _ => exact ⟨a, b, c, d, rfl⟩
  have e0 := hf 0 _ rfl
  have e1 := hf 1 _ rfl
  have e2 := hf 2 _ rfl
  have e3 := hf 3 _ rfl
  have hx2 : xs.length = 4 := hxs
  rw [List.getElem?_eq_getElem (by omega)] at e0 e1 e2 e3
  obtain ⟨a, ha, hau⟩ := trod_i64 Try.underlying3 e0
  obtain ⟨b, hb, hbu⟩ := trod_u64 Try.underlying22 e1
  obtain ⟨c, hcc, hcu⟩ := trod_u64 Try.underlying22 e2
  obtain ⟨d, hd, hdu⟩ := trod_u64 Try.underlying22 e3
  have ha' : List.take (Try.prog.cellsOf 3) (List.drop 0 [c0, c1, c2, c3]) = [.int .i64 a] := ha
  have hb' : List.take (Try.prog.cellsOf 22) (List.drop 1 [c0, c1, c2, c3]) = [.int .u64 b] := hb
  have hc' : List.take (Try.prog.cellsOf 22) (List.drop 2 [c0, c1, c2, c3]) = [.int .u64 c] := hcc
  have hd' : List.take (Try.prog.cellsOf 22) (List.drop 3 [c0, c1, c2, c3]) = [.int .u64 d] := hd
  rw [hc2] at ha'
  rw [hc1] at hb' hc' hd'
  simp at ha' hb' hc' hd'
  subst ha' hb' hc' hd'
  exact ⟨⟨a, b, c, d⟩, rfl, hau, hbu, hcu, hdu⟩

theorem trod_way {fuel : Nat} {cs : List Value} {x : DataW H × List MemPlace}
    (h : DataW.trod enc Try.prog w base spare held fuel 24 cs = some x) : ∃ e : E, cs = cellsE e ∧ e.ok := by
  obtain ⟨xs, n, _, _, hl, hxs, hf⟩ := DataW.trod_struct Try.underlying24 h
  have hc1 : Try.prog.cellsOf 22 = 1 := by kernel_rfl
  have hc2 : Try.prog.cellsOf 3 = 1 := by kernel_rfl
  have hc : Try.prog.cellsOf 24 = 4 := by kernel_rfl
  rw [hc] at hl
  obtain ⟨c0, c1, c2, c3, rfl⟩ : ∃ a b c d, cs = [a, b, c, d] := by
    match cs, hl with
    | [a, b, c, d], _ => exact ⟨a, b, c, d, rfl⟩
  have e0 := hf 0 _ rfl
  have e1 := hf 1 _ rfl
  have e2 := hf 2 _ rfl
  have e3 := hf 3 _ rfl
  have hx2 : xs.length = 4 := hxs
  rw [List.getElem?_eq_getElem (by omega)] at e0 e1 e2 e3
  obtain ⟨a, ha, hau⟩ := trod_i64 Try.underlying3 e0
  obtain ⟨b, hb, hbu⟩ := trod_u64 Try.underlying22 e1
  obtain ⟨c, hcc, hcu⟩ := trod_u64 Try.underlying22 e2
  obtain ⟨d, hd, hdu⟩ := trod_u64 Try.underlying22 e3
  have ha' : List.take (Try.prog.cellsOf 3) (List.drop 0 [c0, c1, c2, c3]) = [.int .i64 a] := ha
  have hb' : List.take (Try.prog.cellsOf 22) (List.drop 1 [c0, c1, c2, c3]) = [.int .u64 b] := hb
  have hc' : List.take (Try.prog.cellsOf 22) (List.drop 2 [c0, c1, c2, c3]) = [.int .u64 c] := hcc
  have hd' : List.take (Try.prog.cellsOf 22) (List.drop 3 [c0, c1, c2, c3]) = [.int .u64 d] := hd
  rw [hc2] at ha'
  rw [hc1] at hb' hc' hd'
  simp at ha' hb' hc' hd'
  subst ha' hb' hc' hd'
  exact ⟨⟨a, b, c, d⟩, rfl, hau, hbu, hcu, hdu⟩

theorem trod_flush {fuel : Nat} {cs : List Value} {x : DataW H × List MemPlace}
    (h : DataW.trod enc Try.prog w base spare held fuel 35 cs = some x) : ∃ f : F, cs = cellsF f ∧ f.ok := by
  obtain ⟨xs, n, _, _, hl, hxs, hf⟩ := DataW.trod_struct Try.underlying35 h
  have hc : Try.prog.cellsOf 35 = 3 := by kernel_rfl
  have hc1 : Try.prog.cellsOf 22 = 1 := by kernel_rfl
  have hc2 : Try.prog.cellsOf 3 = 1 := by kernel_rfl
  rw [hc] at hl
  obtain ⟨c0, c1, c2, rfl⟩ : ∃ a b c, cs = [a, b, c] := by
    match cs, hl with
    | [a, b, c], _ => exact ⟨a, b, c, rfl⟩
  have e0 := hf 0 _ rfl
  have e1 := hf 1 _ rfl
  have e2 := hf 2 _ rfl
  have hx2 : xs.length = 3 := hxs
  rw [List.getElem?_eq_getElem (by omega)] at e0 e1 e2
  obtain ⟨a, ha, hau⟩ := trod_i64 Try.underlying3 e0
  obtain ⟨b, hb, hbu⟩ := trod_u64 Try.underlying22 e1
  obtain ⟨c, hcc, hcu⟩ := trod_i64 Try.underlying3 e2
  have ha' : List.take (Try.prog.cellsOf 3) (List.drop 0 [c0, c1, c2]) = [.int .i64 a] := ha
  have hb' : List.take (Try.prog.cellsOf 22) (List.drop 1 [c0, c1, c2]) = [.int .u64 b] := hb
  have hc' : List.take (Try.prog.cellsOf 3) (List.drop 2 [c0, c1, c2]) = [.int .i64 c] := hcc
  rw [hc2] at ha' hc'
  rw [hc1] at hb'
  simp at ha' hb' hc'
  subst ha' hb' hc'
  exact ⟨⟨a, b, c⟩, rfl, hau, hbu, hcu⟩

theorem trod_op9 {fuel : Nat} {cs : List Value} {x : DataW H × List MemPlace}
    (h : DataW.trod enc Try.prog w base spare held fuel 49 cs = some x) : ∃ p : P9, cs = cellsP p ∧ okP p := by
  obtain ⟨xs, n, _, _, hl, hxs, hf⟩ := DataW.trod_struct Try.underlying49 h
  have hc : Try.prog.cellsOf 49 = 8 := by kernel_rfl
  have hc1 : Try.prog.cellsOf 27 = 4 := by kernel_rfl
  have hc2 : Try.prog.cellsOf 3 = 1 := by kernel_rfl
  have hc3 : Try.prog.cellsOf 35 = 3 := by kernel_rfl
  rw [hc] at hl
  obtain ⟨c0, c1, c2, c3, c4, c5, c6, c7, rfl⟩ : ∃ a b c d e f g i, cs = [a, b, c, d, e, f, g, i] := by
    match cs, hl with
    | [a, b, c, d, e, f, g, i], _ => exact ⟨a, b, c, d, e, f, g, i, rfl⟩
  have e0 := hf 0 _ rfl
  have e1 := hf 1 _ rfl
  have e2 := hf 2 _ rfl
  have hx2 : xs.length = 3 := hxs
  rw [List.getElem?_eq_getElem (by omega)] at e0 e1 e2
  obtain ⟨a, ha, hau⟩ := trod_i64 Try.underlying3 e0
  obtain ⟨b, hb, hbu⟩ := trod_four e1
  obtain ⟨c, hcc, hcu⟩ := trod_flush e2
  have ha' : List.take (Try.prog.cellsOf 3) (List.drop 0 [c0, c1, c2, c3, c4, c5, c6, c7]) = [.int .i64 a] := ha
  have hb' : List.take (Try.prog.cellsOf 27) (List.drop 1 [c0, c1, c2, c3, c4, c5, c6, c7]) = cellsE b := hb
  have hc' : List.take (Try.prog.cellsOf 35) (List.drop 5 [c0, c1, c2, c3, c4, c5, c6, c7]) = cellsF c := hcc
  rw [hc2] at ha'
  rw [hc1] at hb'
  rw [hc3] at hc'
  simp [cellsE, cellsF] at ha' hb' hc'
  obtain ⟨rfl, rfl, rfl, rfl⟩ := hb'
  obtain ⟨rfl, rfl, rfl⟩ := hc'
  subst ha'
  exact ⟨(a, b, c), rfl, hau, hbu, hcu⟩

theorem arg_op9s {v : Value} {d : DataW H} {ps : List MemPlace} (h : DataW.Trod enc Try.prog w base spare held 47 v d ps) (hv : Value.okWide Try.prog w .any base 47 v) :
    ∃ (ao : Option Addr) (cap : Nat) (l : List P9), v = .slice ao l.length cap ∧ Atr cellsP w ao l ∧ (ao = none → cap = 0) ∧ ∀ p ∈ l, okP p := by
  obtain ⟨_, _, _, rfl⟩ := okWide_slice Try.underlying47 hv
  obtain ⟨ao, cap, l, hvv, hR, hn, _, _, hc⟩ := open_recs cellsP okP Try.underlying47 (show Try.prog.cellsOf 49 = 8 by kernel_rfl) (fun _ _ _ h => trod_op9 h) h rfl
  exact ⟨ao, cap, l, hvv, ⟨fun e => (hn e).1, hc⟩, fun e => (hn e).2, hR⟩

theorem arg_ways {v : Value} {d : DataW H} {ps : List MemPlace} (h : DataW.Trod enc Try.prog w base spare held 39 v d ps) (hv : Value.okWide Try.prog w .any base 39 v) :
    ∃ (ao : Option Addr) (cap : Nat) (l : List E), v = .slice ao l.length cap ∧ Atr cellsE w ao l ∧ (ao = none → cap = 0) ∧ ∀ p ∈ l, p.ok := by
  obtain ⟨_, _, _, rfl⟩ := okWide_slice Try.underlying39 hv
  obtain ⟨ao, cap, l, hvv, hR, hn, _, _, hc⟩ := open_recs cellsE E.ok Try.underlying39 (show Try.prog.cellsOf 24 = 4 by kernel_rfl) (fun _ _ _ h => trod_way h) h rfl
  exact ⟨ao, cap, l, hvv, ⟨fun e => (hn e).1, hc⟩, fun e => (hn e).2, hR⟩

theorem arg_op9 {v : Value} (h : Value.okWide Try.prog w .any base 49 v) : ∃ p : P9, v = opV p ∧ okP p := by
  obtain ⟨l, rfl, hl, hc⟩ := agg_cells Try.underlying49 (by kernel_rfl) (show Try.prog.cellTypes Try.prog.depth 49 = some [3, 3, 22, 22, 22, 3, 22, 3] by kernel_rfl) rfl h
  obtain ⟨c0, h0, k0⟩ := hc 0 _ rfl
  obtain ⟨c1, h1, k1⟩ := hc 1 _ rfl
  obtain ⟨c2, h2, k2⟩ := hc 2 _ rfl
  obtain ⟨c3, h3, k3⟩ := hc 3 _ rfl
  obtain ⟨c4, h4, k4⟩ := hc 4 _ rfl
  obtain ⟨c5, h5, k5⟩ := hc 5 _ rfl
  obtain ⟨c6, h6, k6⟩ := hc 6 _ rfl
  obtain ⟨c7, h7, k7⟩ := hc 7 _ rfl
  obtain ⟨n0, rfl, m0⟩ := cell_i64 Try.underlying3 k0
  obtain ⟨n1, rfl, m1⟩ := cell_i64 Try.underlying3 k1
  obtain ⟨n2, rfl, m2⟩ := cell_u64 Try.underlying22 k2
  obtain ⟨n3, rfl, m3⟩ := cell_u64 Try.underlying22 k3
  obtain ⟨n4, rfl, m4⟩ := cell_u64 Try.underlying22 k4
  obtain ⟨n5, rfl, m5⟩ := cell_i64 Try.underlying3 k5
  obtain ⟨n6, rfl, m6⟩ := cell_u64 Try.underlying22 k6
  obtain ⟨n7, rfl, m7⟩ := cell_i64 Try.underlying3 k7
  match l, hl with
  | [x0, x1, x2, x3, x4, x5, x6, x7], _ =>
    simp at h0 h1 h2 h3 h4 h5 h6 h7
    subst h0 h1 h2 h3 h4 h5 h6 h7
    exact ⟨(n0, ⟨n1, n2, n3, n4⟩, ⟨n5, n6, n7⟩), rfl, m0, ⟨m1, m2, m3, m4⟩, m5, m6, m7⟩
end

end Go.Proofs.Ytcaggboeacgknaa
