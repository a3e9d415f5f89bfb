/- Contract of the law's is: a map and a list of the same things. -/
import Derived.Test.YtikkfkoaipenbaaEachi
import Derived.Test.YtikkfkoaipenbaaMapie
import Derived.Test.YtikkfkoaipenbaaRefq
import Derived.Test.YtikkfkoaipenbaaCells
namespace Go.Proofs.Ytikkfkoaipenbaa
open Go.RowKit Go.Shelf
attribute [local go_sem] Oper.semAt_some

theorem retB_out {v : Value} {w w' : World} {e : Ending} (h : RetB v w e w') : e = .returned v ∧ Below w.heap.size w w' := h

set_option maxRecDepth 100000 in
set_option maxHeartbeats 4000000 in
theorem is_true (ks vs : Value) (L M : List (Int × Int)) (mo : Option Addr) (mc : Nat) (w : World) (hm : MapiIs w ks vs L) (hM : Atp w mo M) (hs : sortL M = L) (hlen : L.length ≤ 900) (hlen' : M.length ≤ 900) :
    Calls Try.prog 14 #[.agg #[ks, vs], .slice mo M.length mc] w (RetB (.bool true) w) := by
  have HM := Lib.hid hm
  have HMM := Lib.hid hM
  have HS := Lib.hid hs
  obtain ⟨ao, cap, rfl⟩ := ownsRow_form hm.keys
  obtain ⟨bo, cap2, rfl⟩ := ownsRow_form hm.vals
  clear hm hM hs
  refine (callsIn_wide (n := 5)).1 ?_
  refine callsIn_of_wp_marks Try.func14 rfl trivial ?_ rfl
  simp only [Try.ntmps14, List.size_toArray, List.length_cons, List.length_nil, Nat.reduceAdd, Nat.reduceSub, Array.replicate_succ, Array.replicate_zero, List.push_toArray, List.append_toArray, List.nil_append, List.cons_append]
  gi_wp2_with (refine ⟨trivial, ?_⟩; gi_at_call 19; refine ((callsIn_wide (n := _)).2 (rsorted_any mo M.length mc M _ (HMM.out.below (by repeat' (first | with_reducible exact Below.refl _ _ | with_reducible assumption | with_reducible apply below_drewN | with_reducible apply Below.drew | with_reducible refine Below.setCell ?_ ?_ _ | with_reducible refine Below.alloc ?_ ?_ _ | omega | (simp; done) | (simp; omega)))) rfl (by omega))).mono ?_; rw [HS.out]; rintro e w1 ⟨so, sc, rfl, hr, hb⟩; have B1 : Below w.heap.size w w1 := Below.trans (by repeat' (first | with_reducible exact Below.refl _ _ | with_reducible assumption | with_reducible apply below_drewN | with_reducible apply Below.drew | with_reducible refine Below.setCell ?_ ?_ _ | with_reducible refine Below.alloc ?_ ?_ _ | omega | (simp; done) | (simp; omega))) (hb.mono (by first | omega | (simp; done) | (simp; omega))); have Bz1 := B1.size; have HR := Lib.hid (Atp.of_row hr); have hs1 := hb.size; obtain ⟨k1, k2, k3, k4⟩ := keepB hb w.heap.size (by first | omega | (simp; done) | (simp; omega)); have g4 := Lib.hid (hb.block (w.heap.size + 1) (by first | omega | (simp; done) | (simp; omega))); have g2 := (hb.block w.heap.size (by first | omega | (simp; done) | (simp; omega))).trans (by (repeat (first | assumption | (refine heap_new _ _ _ ?_; simp; done) | refine heap_old _ _ _ _ ?_)) : _ = some (.cells #[.slice ao L.length cap, .slice bo L.length cap2] 28)); clear hr hb)
  gi_wp2_with (refine ⟨trivial, ?_⟩; gi_at_call 20; refine (eachi_in Fence.wide _ trivial rfl _ _ _ _ _ _ _).mono ?_; rintro e w' ⟨rfl, rfl⟩)
  obtain ⟨w2, hw2⟩ : ∃ w2, w2 = ((w1.alloc (.cells #[.slice so L.length sc] 29)).alloc (.cells #[.int .i64 0] 3)).alloc (.cells #[.slice ao L.length cap, .slice bo L.length cap2] 28) := ⟨_, rfl⟩
  have B2 : Below w1.heap.size w1 w2 := by rw [hw2]; repeat' (first | with_reducible exact Below.refl _ _ | with_reducible assumption | with_reducible apply below_drewN | with_reducible apply Below.drew | with_reducible refine Below.setCell ?_ ?_ _ | with_reducible refine Below.alloc ?_ ?_ _ | omega | (simp; done) | (simp; omega))
  have hs2 : w2.heap.size = w1.heap.size + 3 := by rw [hw2]; simp
  have h5 : w2.heap[w1.heap.size]? = some (.cells #[.slice so L.length sc] 29) := by rw [hw2]; (repeat (first | assumption | (refine heap_new _ _ _ ?_; simp; done) | refine heap_old _ _ _ _ ?_))
  have h6 : w2.heap[w1.heap.size + 1]? = some (.cells #[.int .i64 0] 3) := by rw [hw2]; (repeat (first | assumption | (refine heap_new _ _ _ ?_; simp; done) | refine heap_old _ _ _ _ ?_))
  have hbn : w2.heap[w1.heap.size + 2]? = some (.cells #[.slice ao L.length cap, .slice bo L.length cap2] 28) := by rw [hw2]; (repeat (first | assumption | (refine heap_new _ _ _ ?_; simp; done) | refine heap_old _ _ _ _ ?_))
  have G4 : Hid (w1.heap[w.heap.size + 1]? = some (.cells #[.bool false] 4)) := Lib.hid (g4.out.trans (by (repeat (first | assumption | (refine heap_new _ _ _ ?_; simp; done) | refine heap_old _ _ _ _ ?_))))
  have G2 : Hid (w1.heap[w.heap.size]? = some (.cells #[.slice ao L.length cap, .slice bo L.length cap2] 28)) := Lib.hid g2
  rw [← hw2]
  clear hw2 k1 k2 k3 k4 g4 g2
  refine wpIn_rangeFunc_ownG (F := Fence.wide) rfl (by omega) (gf := 36) (lb := #[.pointer (some ⟨w1.heap.size + 1 + 1, 0, none⟩)]) rfl trivial (enters_of Try.func36 (by kernel_rfl) rfl)
    (eachi_stops Fence.wide _ trivial rfl (by omega) (w1.heap.size + 2) _ _ L (by omega) w1 _ (HM.out.below B1) B2 hbn) (fun h k => h.trans k) (KeepNi.put (by omega) (by omega)) (Below.refl _ _) (fun _ => rfl)
    (fun pre W => (((W.heap[w1.heap.size]? = some (.cells #[.slice so L.length sc] 29) ∧ W.heap[w1.heap.size + 1]? = some (.cells #[.int .i64 (pre.length : Nat)] 3)) ∧ W.heap[w1.heap.size + 2]? = some (.cells #[.slice ao L.length cap, .slice bo L.length cap2] 28)) ∧ pre = L.take pre.length) ∧ Below w1.heap.size w1 W)
    (fun _ pre _ => ¬ pre = L.take pre.length)
    (OwnFrom.and (Own.from (fun s A B row hs hg hr => ⟨⟨⟨cells_own _ _ _ () A B row hs.1.1.1 hg hr, cells_own _ _ _ () A B row hs.1.1.2 hg hr⟩, cells_own _ _ _ () A B row hs.1.2 hg hr⟩, hs.2⟩) _) (ownFrom_below (Nat.le_refl _) (by omega)))
    (fun _ _ _ _ _ hs _ _ => hs)
    ⟨⟨⟨⟨h5, h6⟩, hbn⟩, rfl⟩, B2⟩
    (fun x => { tmps := #[.agg #[.slice ao L.length cap, .slice bo L.length cap2], .slice mo M.length mc, .pointer (some ⟨w.heap.size, 0, none⟩), undef, .pointer (some ⟨w.heap.size + 1, 0, none⟩), .pointer (some ⟨w1.heap.size, 0, none⟩), .pointer (some ⟨w1.heap.size + 1, 0, none⟩), .int .u64 x.1, .int .i64 x.2, .slice mo M.length mc, .slice so L.length sc, .agg #[.slice ao L.length cap, .slice bo L.length cap2], .func (.func 36) #[] #[.pointer (some ⟨w1.heap.size + 1 + 1, 0, none⟩)], .int .u64 x.1, .int .i64 x.2, undef, undef, undef, undef, undef, undef, undef, undef, undef, undef, undef, undef, undef, undef, undef, undef, undef, undef, undef, undef, undef, undef, undef, undef, undef, undef, undef, undef, undef, undef, undef, undef, undef, undef], defers := [] }) ?assign ?body ?done ?stop
  case assign =>
    intro l x W K hK
    dsimp only [enci]
    gi_wp2
    exact hK
  case body =>
    rintro l pre x W ⟨⟨⟨⟨h5, h6⟩, hbx⟩, hp⟩, hB⟩ hlt
    obtain ⟨sd, rfl⟩ : ∃ ad, so = some ad := by
      cases so with
      | some ad => exact ⟨ad, rfl⟩
      | none => have := HR.out.1 rfl; rw [this] at hlt; simp at hlt
    obtain ⟨y1, y2⟩ := (HR.out.below hB).pair pre.length hlt
    have HX : Hid (L.take (pre.length + 1) = L.take pre.length ++ [L[pre.length]'hlt]) := Lib.hid (List.take_succ_eq_append_getElem hlt)
    rw [← hp] at HX
    have HP := Lib.hid hp
    generalize L[pre.length]'hlt = y at y1 y2 HX
    obtain ⟨ya, yv⟩ := y
    obtain ⟨xa, xv⟩ := x
    simp only at y1 y2
    have hBs := hB.size
    have g4 := (hB.block (w.heap.size + 1) (by have := (Array.getElem?_eq_some_iff.1 G4.out).1; omega)).trans G4.out
    obtain ⟨c5, f5, l5, n5⟩ := block_cells h5
    obtain ⟨c6, f6, l6, n6⟩ := block_cells h6
    obtain ⟨c4, f4, l4, n4⟩ := block_cells g4
    have d5 := c5 0 _ rfl
    have d6 := c6 0 _ rfl
    have d4 := c4 0 _ rfl
    have H5 := Lib.hid h5
    have H6 := Lib.hid h6
    have HBX := Lib.hid hbx
    clear h5 h6 hbx hp g4 c4 c5 c6
    by_cases hx : ya = xa ∧ yv = xv
    · obtain ⟨rfl, rfl⟩ := hx
      gi_wp2
      refine ⟨(KeepsOthers.setCell _ _ _).from _, ⟨(Below.refl _ _).setCell (show w1.heap.size ≤ w1.heap.size + 1 by omega) _, (block_else HBX.out (by omega)).trans HBX.out.symm⟩, ⟨⟨⟨block_else H5.out (by omega), ?_⟩, block_else HBX.out (by omega)⟩, ?_⟩, hB.setCell (show w1.heap.size ≤ w1.heap.size + 1 by omega) _⟩
      · rw [List.length_append, List.length_singleton]
        exact block_set H6.out rfl
      · rw [List.length_append, List.length_singleton, HX.out]
    · have HXN : Hid (¬ pre ++ [(xa, xv)] = L.take (pre ++ [(xa, xv)]).length) := Lib.hid (by
        rw [List.length_append, List.length_singleton, HX.out]
        intro h
        have := List.append_inj_right' h rfl
        simp at this
        exact hx ⟨this.1.symm, this.2.symm⟩)
      by_cases h1 : ya = xa
      · have h2 : ¬ yv = xv := fun h => hx ⟨h1, h⟩
        subst h1
        have hne : (yv != xv) = true := by simpa using h2
        clear hx
        gi_wp2
        exact ⟨(KeepsOthers.setCell _ _ _).from _, HXN.out⟩
      · have hne : (ya != xa) = true := by simpa using h1
        clear hx
        gi_wp2
        exact ⟨(KeepsOthers.setCell _ _ _).from _, HXN.out⟩
  case done =>
    rintro D ys W hD rfl ⟨⟨⟨⟨h5, h6⟩, hbx⟩, -⟩, hB⟩ hK
    obtain ⟨c5, f5, l5, n5⟩ := block_cells h5
    obtain ⟨c6, f6, l6, n6⟩ := block_cells h6
    have d5 := c5 0 _ rfl
    have d6 := c6 0 _ rfl
    have hBs := hB.size
    have g2 := (hB.block w.heap.size (by have := (Array.getElem?_eq_some_iff.1 G2.out).1; omega)).trans G2.out
    have g4 := (hB.block (w.heap.size + 1) (by have := (Array.getElem?_eq_some_iff.1 G4.out).1; omega)).trans G4.out
    obtain ⟨c2, f2, l2, n2⟩ := block_cells g2
    obtain ⟨c4, f4, l4, n4⟩ := block_cells g4
    have l7 := (Array.getElem?_eq_some_iff.1 G4.out).1
    have HK := Lib.hid hK
    have HSS : Hid (∀ V, Below W.heap.size W V → V.cell? ⟨w1.heap.size + 1, 0, none⟩ = some (.int .i64 (ys.length : Nat)) ∧ V.cell? ⟨w1.heap.size, 0, none⟩ = some (.slice so ys.length sc) ∧ V.cell? ⟨w.heap.size, 0, none⟩ = some (.slice ao ys.length cap) ∧ V.cell? ⟨w.heap.size, 1, none⟩ = some (.slice bo ys.length cap2)) :=
      Lib.hid fun V h => ⟨(h.cell (p := ⟨w1.heap.size + 1, 0, none⟩) l6).trans (c6 0 _ rfl), (h.cell (p := ⟨w1.heap.size, 0, none⟩) l5).trans (c5 0 _ rfl), (h.cell (p := ⟨w.heap.size, 0, none⟩) l2).trans (c2 0 _ rfl), (h.cell (p := ⟨w.heap.size, 1, none⟩) l2).trans (c2 1 _ rfl)⟩
    have HST : Hid (∀ V, Below W.heap.size W V → V.cell? ⟨w.heap.size + 1, 0, none⟩ = some (.bool false) ∧ V.frozen? ⟨w.heap.size + 1, 0, none⟩ = false) :=
      Lib.hid fun V h => ⟨(h.cell (p := ⟨w.heap.size + 1, 0, none⟩) l4).trans (c4 0 _ rfl), (h.frozen (p := ⟨w.heap.size + 1, 0, none⟩) l4).trans (f4 0)⟩
    have cL : Hid (∀ V, Below W.heap.size W V → Calls Try.prog 35 #[.agg #[.slice ao ys.length cap, .slice bo ys.length cap2]] V (RetB (.int .i64 (ys.length : Nat)) V)) := Lib.hid fun V h => leni_any _ _ ys V (HM.out.below (B1.trans ((hB.trans (h.mono hBs)).mono Bz1)))
    have v1 : w.heap.size + 1 ≠ w1.heap.size := by omega
    have v2 : ¬ w.heap.size = w1.heap.size := by omega
    have v3 : ¬ w1.heap.size = w.heap.size := by omega
    clear c5 c6 c2 c4 hK hbx h5 h6 g2 g4
    gi_wp2
    refine wpIn_wide.2 ?_
    go_region_held3 (fun V => V.cell? ⟨w1.heap.size + 1, 0, none⟩ = some (.int .i64 (ys.length : Nat)) ∧ V.cell? ⟨w1.heap.size, 0, none⟩ = some (.slice so ys.length sc) ∧ V.cell? ⟨w.heap.size, 0, none⟩ = some (.slice ao ys.length cap) ∧ V.cell? ⟨w.heap.size, 1, none⟩ = some (.slice bo ys.length cap2))
      (first | (refine HSS.out _ ?_; (repeat' (first | with_reducible exact Below.refl _ _ | with_reducible assumption | with_reducible apply below_drewN | with_reducible apply Below.drew | with_reducible refine Below.setCell ?_ ?_ _ | with_reducible refine Below.alloc ?_ ?_ _ | omega | (simp; done) | (simp; omega))); done) | go_keep)
      (first | (go_at_call 35; with_reducible refine (cL.out _ ?_).mono ?_; (focus repeat' (first | with_reducible exact Below.refl _ _ | with_reducible assumption | with_reducible apply below_drewN | with_reducible apply Below.drew | with_reducible refine Below.setCell ?_ ?_ _ | with_reducible refine Below.alloc ?_ ?_ _ | omega | (simp; done) | (simp; omega))); intro e w3 hx; obtain ⟨rfl, hb⟩ := retB_out hx; have BW : Below W.heap.size W w3 := Below.trans (by repeat' (first | with_reducible exact Below.refl _ _ | with_reducible assumption | with_reducible apply below_drewN | with_reducible apply Below.drew | with_reducible refine Below.setCell ?_ ?_ _ | with_reducible refine Below.alloc ?_ ?_ _ | omega | (simp; done) | (simp; omega))) (hb.mono (by first | omega | (simp; done) | (simp; omega))); have BWs := BW.size; obtain ⟨y1, y2⟩ := HST.out _ BW; clear hx hb))
    have hK' : w3.heap[D]? = some (.deferred (some [])) := (BW.block D (Array.getElem?_eq_some_iff.1 HK.out).1).trans HK.out
    have HK3 : Hid ((w3.setCell ⟨w.heap.size + 1, 0, none⟩ (.bool true)).heap[D]? = some (.deferred (some []))) := Lib.hid (block_else hK' (by omega))
    have B9 : Below w.heap.size w (w3.setCell ⟨w.heap.size + 1, 0, none⟩ (.bool true)) := (B1.trans ((hB.trans (BW.mono hBs)).mono Bz1)).setCell (show w.heap.size ≤ w.heap.size + 1 by omega) _
    clear hK'
    gi_wp2
    refine ⟨by simp, .inl ⟨_, _, rfl, run_takeDeferred HK3.out, ?_⟩⟩
    refine ⟨.bool true, ?_, rfl, ?_⟩
    · have hcell : ((w3.setCell ⟨w.heap.size + 1, 0, none⟩ (.bool true)).putObj D (.deferred none)).cell? ⟨w.heap.size + 1, 0, none⟩ = some (.bool true) :=
        (World.cell?_of_block (w := w3.setCell ⟨w.heap.size + 1, 0, none⟩ (.bool true)) (a := ⟨w.heap.size + 1, 0, none⟩) (World.putObj_heap_other (by show w.heap.size + 1 ≠ D; omega))).trans (cell_setCell_same w3 _ _ _ _ y1)
      simp [results, Try.results14, go_sem, hcell]
    · exact B9.trans (belowK_b (w := w) (Nat.le_refl _) _ D _ _ (by omega) HK3.out rfl rfl)
  case stop =>
    rintro D c pre W _ ⟨k, hk, rfl⟩ h _
    exact absurd (by rw [List.length_take, Nat.min_eq_left hk]) h

end Go.Proofs.Ytikkfkoaipenbaa
