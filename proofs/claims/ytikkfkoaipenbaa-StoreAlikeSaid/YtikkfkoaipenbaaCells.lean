/- Memories of package store: Cells. -/
import Derived.Test.YtikkfkoaipenbaaEachu
import Derived.Test.YtikkfkoaipenbaaMem
import Derived.Test.YtikkfkoaipenbaaRecc
import Derived.Maps.AppendAt
namespace Go.Proofs.Ytikkfkoaipenbaa
open Go.RowKit Go.Shelf
attribute [local go_sem] Oper.semAt_some

theorem two_one (x y : Int) : ∀ u ∈ [Value.int .u64 x, Value.int .u64 y], u.oneCell' = true := by
  intro u hu
  simp at hu
  rcases hu with rfl | rfl <;> rfl

/-- A row's own block is none of another type. -/
theorem row_ne {W : World} {base : Nat} {e : TypeId} {size : Nat} {v : Value} {n : Nat} {xs : List Value} (h : W.ownsRow base e size v n xs) {B : Nat} {cs : Array Value} {t : TypeId} (hB : W.heap[B]? = some (.cells cs t)) (ht : t ≠ e) : some B ≠ v.ownBlock := by
  rcases h.2 with ⟨rfl, _⟩ | ⟨g, cap, cur, rfl, _, hg, _⟩
  · simp [Value.ownBlock]
  · intro e'
    obtain rfl : B = g := by simpa [Value.ownBlock] using e'
    rw [hB] at hg
    simp at hg
    exact ht hg.2

/-- What is no cells may turn: cells stay. -/
theorem cells_own {β : Type} (B : Nat) (cs : Array Value) (t : TypeId) : Own (fun (_ : β) W => W.heap[B]? = some (.cells cs t)) := by
  rintro s X Y row h hg hrow
  refine (hg.block B (Array.getElem?_eq_some_iff.1 h).1 fun e => ?_).trans h
  obtain ⟨o, ho, hc⟩ := hrow B e.symm
  rw [h] at ho
  cases ho
  cases hc

set_option maxRecDepth 100000 in
set_option maxHeartbeats 4000000 in
theorem cells_any (ks vs : Value) (L : List (Int × Int)) (w : World) (hm : MapuIs w ks vs L) (hlen : L.length ≤ 900) :
    Calls Try.prog 26 #[.agg #[ks, vs]] w (RetRowc L w) := by
  obtain ⟨i0, hi, hz0, hz1, hz2⟩ := info_parts infocR
  have HM := Lib.hid hm
  obtain ⟨ao, cap, rfl⟩ := ownsRow_form hm.keys
  obtain ⟨bo, cap2, rfl⟩ := ownsRow_form hm.vals
  clear hm
  refine (callsIn_wide (n := 5)).1 ?_
  refine callsIn_of_wp_marks Try.func26 rfl trivial ?_ rfl
  simp only [Try.ntmps26, List.size_toArray, List.length_cons, List.length_nil, Nat.reduceAdd, Nat.reduceSub, Array.replicate_succ, Array.replicate_zero, List.push_toArray, List.append_toArray, List.nil_append, List.cons_append]
  gi_wp2_with (refine ⟨trivial, ?_⟩; gi_at_call 38; refine (eachu_in Fence.wide _ trivial rfl _ _ _ _ _ _ _).mono ?_; rintro e w' ⟨rfl, rfl⟩)
  have bO : Boxed ((w.alloc (.cells #[.slice ao L.length cap, .slice bo L.length cap2] 55)).alloc (.cells #[.slice none 0 0] 51)) (w.heap.size + 1) 51 (.slice none 0 0) := by unfold Boxed; (repeat (first | assumption | (refine heap_new _ _ _ ?_; simp; done) | refine heap_old _ _ _ _ ?_))
  obtain ⟨w2, hw2⟩ : ∃ w2, w2 = (w.alloc (.cells #[.slice ao L.length cap, .slice bo L.length cap2] 55)).alloc (.cells #[.slice none 0 0] 51) := ⟨_, rfl⟩
  have hB2 : Below w.heap.size w w2 := by rw [hw2]; repeat' (first | with_reducible exact Below.refl _ _ | with_reducible assumption | with_reducible apply below_drewN | with_reducible apply Below.drew | with_reducible refine Below.setCell ?_ ?_ _ | with_reducible refine Below.alloc ?_ ?_ _ | omega | (simp; done) | (simp; omega))
  have hs2 : w2.heap.size = w.heap.size + 2 := by rw [hw2]; simp
  have hbn : (w2.alloc (.cells #[.slice ao L.length cap, .slice bo L.length cap2] 53)).heap[w2.heap.size]? = some (.cells #[.slice ao L.length cap, .slice bo L.length cap2] 53) := by (repeat (first | assumption | (refine heap_new _ _ _ ?_; simp; done) | refine heap_old _ _ _ _ ?_))
  rw [← hw2] at bO ⊢
  rw [hs2] at hbn
  have hB3 : Below w.heap.size w (w2.alloc (.cells #[.slice ao L.length cap, .slice bo L.length cap2] 53)) := hB2.alloc (by omega) _
  refine wpIn_rangeFunc_ownG (F := Fence.wide) rfl (by omega) (gf := 45) (lb := #[.pointer (some ⟨w.heap.size + 1 + 1, 0, none⟩)]) rfl trivial (enters_of Try.func45 (by kernel_rfl) rfl)
    (eachu_stops Fence.wide _ trivial rfl (by omega) (w.heap.size + 2) _ _ L (by omega) w _ HM.out hB3 hbn) (fun h k => h.trans k) (KeepNu.put (by simp; omega) (by simp; omega)) (Below.refl _ _) (fun _ => rfl)
    (fun pre W => ((∃ v, Boxed W (w.heap.size + 1) 51 v ∧ W.ownsRow w.heap.size 73 2 v pre.length (flatc pre) ∧ True) ∧ W.heap[w.heap.size + 2]? = some (.cells #[.slice ao L.length cap, .slice bo L.length cap2] 53)) ∧ Below w.heap.size w W)
    (fun _ _ _ => False)
    (OwnFrom.and (Own.from (fun s A B row hs hg hr => ⟨holdsRow_own w.heap.size (w.heap.size + 1) 51 73 2 (fun pre => pre.length) flatc (fun _ _ => True) s A B row hs.1 hg hr, cells_own _ _ _ s A B row hs.2 hg hr⟩) _) (ownFrom_below (Nat.le_refl _) (by simp; omega)))
    (fun _ _ _ _ _ hs _ _ => hs)
    ⟨⟨⟨_, bO.alloc _, World.ownsRow_nil _ _ _ _, trivial⟩, hbn⟩, hB3⟩
    (fun x => { tmps := #[.agg #[.slice ao L.length cap, .slice bo L.length cap2], .pointer (some ⟨w.heap.size, 0, none⟩), .slice none 0 0, .pointer (some ⟨w.heap.size + 1, 0, none⟩), .int .u64 x.1, .int .u64 x.2, .pointer (some ⟨w.heap.size, 0, none⟩), .agg #[.slice ao L.length cap, .slice bo L.length cap2], .func (.func 45) #[] #[.pointer (some ⟨w.heap.size + 1 + 1, 0, none⟩)], .int .u64 x.1, .int .u64 x.2, undef, undef, undef, undef, undef, undef, undef], defers := [] }) ?assign ?body ?done ?stop
  case assign =>
    intro l x W K hK
    dsimp only [encu]
    gi_wp2
    exact hK
  case body =>
    rintro l pre x W ⟨⟨⟨v, hv, hrow, -⟩, hbx⟩, hB⟩ hlt
    have hc := hv.cell
    obtain ⟨go, cap3, rfl⟩ := ownsRow_form hrow
    gi_wp2_with (gi_at_builtin; refine wpListIn_append_own _ rfl _ _ 51 rfl w.heap.size 73 i0 (.agg #[.int .u64 0, .int .u64 0]) 2 16 Try.underlying51 hi hz0 hz1 hz2 rfl (by decide) _ _ _ rfl (hrow.alloc _) ⟨W.heap.size, 0, none⟩ 1 1 [.int .u64 x.1, .int .u64 x.2] rfl rfl (two_new _ _ _ _) (two_one _ _) (by unfold maxLen; omega) (by omega) (by have := hB.size; simp; omega) ?_; intro v' w1 hown' hgrow _; obtain ⟨g', cap', rfl⟩ := ownsRow_succ hown'; obtain ⟨hv1, hv2, hr2, hk2, hb2⟩ := hv.appended (by decide) hrow hB.size (by omega) hown' hgrow; have hc1 := hv1.cell; have hf1 := hv1.frozen)
    have hbl := (Array.getElem?_eq_some_iff.1 hbx).1
    have hx2 : (w1.setCell ⟨w.heap.size + 1, 0, none⟩ (.slice (some ⟨g', 0, none⟩) (pre.length + 1) cap')).heap[w.heap.size + 2]? = some (.cells #[.slice ao L.length cap, .slice bo L.length cap2] 53) := by
      refine block_else ?_ (by omega)
      refine (hgrow.block _ (by simp; omega) (row_ne hrow hbx (by decide))).trans ?_
      exact heap_old _ _ _ _ hbx
    exact ⟨hk2.from _, ⟨hb2, hx2.trans hbx.symm⟩, ⟨⟨_, hv2, by rw [flatc_snoc, List.length_append]; exact hr2, trivial⟩, hx2⟩, hB.trans hb2⟩
  case done =>
    rintro D ys W hD rfl ⟨⟨⟨v, hv, hrow, -⟩, -⟩, hB⟩ hK
    have hc := hv.cell
    obtain ⟨ao', cap', rfl⟩ := ownsRow_form hrow
    gi_wp2
    refine ⟨by simp, .inl ⟨_, _, rfl, run_takeDeferred hK, ?_⟩⟩
    exact ⟨_, results_tmp rfl _ _ _, _, _, rfl, ownsRow_putObj hrow _ hK rfl, hB.trans (belowK_b (w := w) (Nat.le_refl _) W D _ _ (by simp at hD; omega) hK rfl rfl)⟩
  case stop =>
    rintro D c pre W _ _ h _
    exact h.elim

end Go.Proofs.Ytikkfkoaipenbaa
