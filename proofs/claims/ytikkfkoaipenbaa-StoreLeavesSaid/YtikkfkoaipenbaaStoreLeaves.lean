/- The statement StoreLeaves: the telling of a map's numbers may be left. No conditions. -/
import Derived.Test.YtikkfkoaipenbaaAwake06
import Derived.Test.YtikkfkoaipenbaaPlayed
import Derived.Test.YtikkfkoaipenbaaIs
import Derived.Test.YtikkfkoaipenbaaRows
namespace Go.Proofs.Ytikkfkoaipenbaa
open Go.RowKit Go.ChangeShapes Go.WideShapes Go.ChangeAt Go.Shelf
attribute [local go_sem] Oper.semAt_some

set_option maxRecDepth 100000 in
set_option maxHeartbeats 8000000 in
theorem storeLeaves_walk {w : World} (ao : Option Addr) (cap : Nat) (l : List (Bool × Int × Int)) (lv : Int) (hl : Ato w ao l) (_hc : ao = none → cap = 0) (_hu : ∀ p ∈ l, U64 p.2.1 ∧ I64 p.2.2) (_hlv : I64 lv) :
    Calls Try.prog 5 #[.slice ao l.length cap, .int .i64 lv] w (RetB (.bool true) w) := by
  have HL := Lib.hid hl
  obtain ⟨n, hn⟩ : ∃ n, n = l.length := ⟨_, rfl⟩
  have HN := Lib.hid hn
  rw [← hn]
  clear hl hn
  have HAL := Lib.hid (play_alike (l.take 60))
  have cP : Hid (∀ W, Below w.heap.size w W → Calls Try.prog 11 #[.slice ao n cap] W (fun e w' => ∃ ks vs mo mc, e = .returned (.tuple #[.agg #[ks, vs], .slice mo (playM (l.take 60)).length mc]) ∧ MapiIs w' ks vs (playL (l.take 60)) ∧
      w'.ownsRow W.heap.size 49 2 (.slice mo (playM (l.take 60)).length mc) (playM (l.take 60)).length (flatp (playM (l.take 60))) ∧ Below W.heap.size W w' ∧ (playL (l.take 60)).length ≤ 60 ∧ (playM (l.take 60)).length ≤ 60)) := Lib.hid fun W h => played_any ao n cap l W (HL.out.below h) HN.out
  generalize playL (l.take 60) = L at HAL cP
  generalize playM (l.take 60) = M at HAL cP
  have HS : Hid (sortL M = L) := Lib.hid HAL.out.sorted
  refine (callsIn_wide (n := 5)).1 ?_
  refine callsIn_of_wp_marks Try.func5 rfl trivial ?_ rfl
  simp only [Try.ntmps5, List.size_toArray, List.length_cons, List.length_nil, Nat.reduceAdd, Nat.reduceSub, Array.replicate_succ, Array.replicate_zero, List.push_toArray, List.append_toArray, List.nil_append, List.cons_append]
  gi_wp2_with (refine ⟨trivial, ?_⟩; gi_at_call 10; refine ((callsIn_wide (n := _)).2 (awake_any _)).mono ?_; rintro e w1 ⟨rfl, hb⟩; have B1 : Below w.heap.size w w1 := Below.trans (by repeat' (first | with_reducible exact Below.refl _ _ | with_reducible assumption | with_reducible apply below_drewN | with_reducible apply Below.drew | with_reducible refine Below.setCell ?_ ?_ _ | with_reducible refine Below.alloc ?_ ?_ _ | omega | (simp; done) | (simp; omega))) (hb.mono (by first | omega | (simp; done) | (simp; omega))); have Bz1 := B1.size; have hs1 := hb.size; have g3 := (hb.block w.heap.size (by first | omega | (simp; done) | (simp; omega))).trans (by (repeat (first | assumption | (refine heap_new _ _ _ ?_; simp; done) | refine heap_old _ _ _ _ ?_)) : _ = some (.cells #[.int .i64 lv] 3)); have g4 := (hb.block (w.heap.size + 1) (by first | omega | (simp; done) | (simp; omega))).trans (by (repeat (first | assumption | (refine heap_new _ _ _ ?_; simp; done) | refine heap_old _ _ _ _ ?_)) : _ = some (.cells #[.bool false] 4)); clear hb)
  gi_wp2_with (refine ⟨trivial, ?_⟩; gi_at_call 11; refine ((callsIn_wide (n := _)).2 (cP.out _ B1)).mono ?_; rintro e w2 ⟨ks, vs, mo, mc, rfl, hm, hr, hb, hlL, hlM⟩; have B2 : Below w1.heap.size w1 w2 := hb; have Bz2 := hb.size; have M1 := Lib.hid hm; have R1 := Lib.hid (Atp.of_row hr); obtain ⟨ao1, cap1, rfl⟩ := ownsRow_form hm.keys; obtain ⟨ao2, cap2, rfl⟩ := ownsRow_form hm.vals; clear hm hr hb)
  gi_wp2_with (refine ⟨trivial, ?_⟩; gi_at_call 19; refine ((callsIn_wide (n := _)).2 (rsorted_any mo M.length mc M _ (R1.out.below (by repeat' (first | with_reducible exact Below.refl _ _ | with_reducible assumption | with_reducible apply below_drewN | with_reducible apply Below.drew | with_reducible refine Below.setCell ?_ ?_ _ | with_reducible refine Below.alloc ?_ ?_ _ | omega | (simp; done) | (simp; omega)))) rfl (by omega))).mono ?_; rw [HS.out]; rintro e w3 ⟨so, sc, rfl, hr, hb⟩; have B3 : Below w2.heap.size w2 w3 := Below.trans (by repeat' (first | with_reducible exact Below.refl _ _ | with_reducible assumption | with_reducible apply below_drewN | with_reducible apply Below.drew | with_reducible refine Below.setCell ?_ ?_ _ | with_reducible refine Below.alloc ?_ ?_ _ | omega | (simp; done) | (simp; omega))) (hb.mono (by first | omega | (simp; done) | (simp; omega))); have Bz3 := B3.size; have HR := Lib.hid (Atp.of_row hr); have hs3 := hb.size; have g5 := (hb.block w2.heap.size (by first | omega | (simp; done) | (simp; omega))).trans (by (repeat (first | assumption | (refine heap_new _ _ _ ?_; simp; done) | refine heap_old _ _ _ _ ?_)) : _ = some (.cells #[.slice ao1 L.length cap1, .slice ao2 L.length cap2] 28)); obtain ⟨c5, f5, l5, n5⟩ := block_cells g5; have i0 := c5 0 _ rfl; have i1 := c5 1 _ rfl; clear hr hb c5)
  gi_wp2_with (refine ⟨trivial, ?_⟩; gi_at_call 20; refine (eachi_in Fence.wide _ trivial rfl _ _ _ _ _ _ _).mono ?_; rintro e w' ⟨rfl, rfl⟩)
  obtain ⟨w4, hw4⟩ : ∃ w4, w4 = ((w3.alloc (.cells #[.slice so L.length sc] 29)).alloc (.cells #[.int .i64 0] 3)).alloc (.cells #[.slice ao1 L.length cap1, .slice ao2 L.length cap2] 28) := ⟨_, rfl⟩
  have B4 : Below w3.heap.size w3 w4 := by rw [hw4]; repeat' (first | with_reducible exact Below.refl _ _ | with_reducible assumption | with_reducible apply below_drewN | with_reducible apply Below.drew | with_reducible refine Below.setCell ?_ ?_ _ | with_reducible refine Below.alloc ?_ ?_ _ | omega | (simp; done) | (simp; omega))
  have hs4 : w4.heap.size = w3.heap.size + 3 := by rw [hw4]; simp
  have h7 : w4.heap[w3.heap.size]? = some (.cells #[.slice so L.length sc] 29) := by rw [hw4]; (repeat (first | assumption | (refine heap_new _ _ _ ?_; simp; done) | refine heap_old _ _ _ _ ?_))
  have h8 : w4.heap[w3.heap.size + 1]? = some (.cells #[.int .i64 0] 3) := by rw [hw4]; (repeat (first | assumption | (refine heap_new _ _ _ ?_; simp; done) | refine heap_old _ _ _ _ ?_))
  have hbn : w4.heap[w3.heap.size + 2]? = some (.cells #[.slice ao1 L.length cap1, .slice ao2 L.length cap2] 28) := by rw [hw4]; (repeat (first | assumption | (refine heap_new _ _ _ ?_; simp; done) | refine heap_old _ _ _ _ ?_))
  have B13 : Below w1.heap.size w1 w3 := B2.trans (B3.mono Bz2)
  have Bz13 := B13.size
  have lw3 := (Array.getElem?_eq_some_iff.1 g3).1
  have lw4 := (Array.getElem?_eq_some_iff.1 g4).1
  have G3 := Lib.hid ((B13.block w.heap.size lw3).trans g3)
  have G4 := Lib.hid ((B13.block (w.heap.size + 1) lw4).trans g4)
  have MM : Hid (MapiIs w3 (.slice ao1 L.length cap1) (.slice ao2 L.length cap2) L) := Lib.hid (M1.out.below B3)
  rw [← hw4]
  clear hw4 g3 g4 g5 f5 l5 n5 i0 i1
  refine wpIn_rangeFunc_ownG (F := Fence.wide) rfl (by omega) (gf := 36) (lb := #[.pointer (some ⟨w3.heap.size + 1 + 1, 0, none⟩)]) rfl trivial (enters_of Try.func36 (by kernel_rfl) rfl)
    (eachi_stops Fence.wide _ trivial rfl (by omega) (w3.heap.size + 2) _ _ L (by omega) w3 _ MM.out B4 hbn) (fun h k => h.trans k) (KeepNi.put (by omega) (by omega)) (Below.refl _ _) (fun _ => rfl)
    (fun pre W => (((W.heap[w3.heap.size]? = some (.cells #[.slice so L.length sc] 29) ∧ W.heap[w3.heap.size + 1]? = some (.cells #[.int .i64 (pre.length : Nat)] 3)) ∧ W.heap[w3.heap.size + 2]? = some (.cells #[.slice ao1 L.length cap1, .slice ao2 L.length cap2] 28)) ∧ pre.map Prod.fst = (L.take pre.length).map Prod.fst) ∧ Below w3.heap.size w3 W)
    (fun c pre W => (¬ pre.map Prod.fst = (L.take pre.length).map Prod.fst) ∨ ((c = .exit 0 ∧ ((pre.length : Nat) : Int) = lv) ∧ W.heap[w3.heap.size + 1]? = some (.cells #[.int .i64 (pre.length : Nat)] 3)) ∧ Below w3.heap.size w3 W)
    (OwnFrom.and (Own.from (fun s A B row hs hg hr => ⟨⟨⟨cells_own _ _ _ () A B row hs.1.1.1 hg hr, cells_own _ _ _ () A B row hs.1.1.2 hg hr⟩, cells_own _ _ _ () A B row hs.1.2 hg hr⟩, hs.2⟩) _) (ownFrom_below (Nat.le_refl _) (by omega)))
    (fun c s A B row hs hg hr => hs.imp (fun h => h) (fun h => ⟨⟨h.1.1, cells_own _ _ _ () A B row h.1.2 hg (fun r e => (hr r e).2)⟩, ownFrom_below (β := Unit) (Nat.le_refl w3.heap.size) (by omega : w3.heap.size ≤ w4.heap.size) () A B row h.2 hg hr⟩))
    ⟨⟨⟨⟨h7, h8⟩, hbn⟩, rfl⟩, B4⟩
    (fun x => { tmps := #[.slice ao n cap, .int .i64 lv, undef, .pointer (some ⟨w.heap.size, 0, none⟩), .pointer (some ⟨w.heap.size + 1, 0, none⟩), .pointer (some ⟨w2.heap.size, 0, none⟩), .slice mo M.length mc, .pointer (some ⟨w3.heap.size, 0, none⟩), .pointer (some ⟨w3.heap.size + 1, 0, none⟩), .int .u64 x.1, .bool true, .bool false,
      .tuple #[.agg #[.slice ao1 L.length cap1, .slice ao2 L.length cap2], .slice mo M.length mc], .slice ao n cap, .tuple #[.agg #[.slice ao1 L.length cap1, .slice ao2 L.length cap2], .slice mo M.length mc], .agg #[.slice ao1 L.length cap1, .slice ao2 L.length cap2], .slice mo M.length mc, .slice mo M.length mc, .slice so L.length sc, .agg #[.slice ao1 L.length cap1, .slice ao2 L.length cap2],
      .func (.func 36) #[] #[.pointer (some ⟨w3.heap.size + 1 + 1, 0, none⟩)], .int .u64 x.1, .int .i64 x.2, undef, undef, undef, undef, undef, undef, undef, undef, undef, undef, undef, undef, undef, undef, undef, undef, undef, undef, undef, undef, undef, undef, undef, undef, undef, undef, undef], defers := [] }) ?assign ?body ?done ?stop
  case assign =>
    intro l x W K hK
    dsimp only [enci]
    gi_wp2
    exact hK
  case body =>
    rintro _ pre x W ⟨⟨⟨⟨h7, h8⟩, hbx⟩, hp⟩, hB⟩ hlt
    obtain ⟨sd, rfl⟩ : ∃ ad, so = some ad := by
      cases so with
      | some ad => exact ⟨ad, rfl⟩
      | none => have := HR.out.1 rfl; rw [this] at hlt; simp at hlt
    obtain ⟨y1, y2⟩ := (HR.out.below hB).pair pre.length hlt
    have HX : Hid ((L.take (pre.length + 1)).map Prod.fst = pre.map Prod.fst ++ [(L[pre.length]'hlt).1]) := Lib.hid (by rw [List.take_succ_eq_append_getElem hlt, List.map_append, ← hp]; rfl)
    generalize L[pre.length]'hlt = y at y1 y2 HX
    obtain ⟨ya, yv⟩ := y
    obtain ⟨xa, xv⟩ := x
    simp only at y1 y2
    have hBs := hB.size
    have g4 := (hB.block (w.heap.size + 1) (by have := (Array.getElem?_eq_some_iff.1 G4.out).1; omega)).trans G4.out
    have g3 := (hB.block w.heap.size (by have := (Array.getElem?_eq_some_iff.1 G3.out).1; omega)).trans G3.out
    obtain ⟨c7, f7, l7, n7⟩ := block_cells h7
    obtain ⟨c8, f8, l8, n8⟩ := block_cells h8
    obtain ⟨c4, f4, l4, n4⟩ := block_cells g4
    obtain ⟨c3, f3, l3, n3⟩ := block_cells g3
    have d7 := c7 0 _ rfl
    have d8 := c8 0 _ rfl
    have d4 := c4 0 _ rfl
    have d3 := c3 0 _ rfl
    have H7 := Lib.hid h7
    have H8 := Lib.hid h8
    have HBX := Lib.hid hbx
    have v1 : ¬ w3.heap.size + 1 = w.heap.size := by omega
    clear h7 h8 hbx g4 g3 c7 c8 c4 c3
    by_cases h1 : ya = xa
    · subst h1
      have HPX : Hid ((pre ++ [(ya, xv)]).map Prod.fst = (L.take (pre ++ [(ya, xv)]).length).map Prod.fst) := Lib.hid (by rw [List.length_append, List.length_singleton, HX.out, List.map_append]; rfl)
      by_cases hle : ((pre.length : Nat) : Int) + 1 = lv
      · have hled : (((pre.length : Nat) : Int) + 1 == lv) = true := by simpa using hle
        gi_wp2
        refine ⟨(KeepsOthers.setCell _ _ _).from _, .inr ⟨⟨⟨rfl, ?_⟩, ?_⟩, hB.setCell (show w3.heap.size ≤ w3.heap.size + 1 by omega) _⟩⟩
        · simp; omega
        · rw [List.length_append, List.length_singleton]
          exact block_set H8.out (by first | rfl | (show #[Value.int .i64 lv] = _; rw [← hle]; rfl))
      · have hled : (((pre.length : Nat) : Int) + 1 == lv) = false := by simpa using hle
        gi_wp2
        refine ⟨(KeepsOthers.setCell _ _ _).from _, ⟨(Below.refl _ _).setCell (show w3.heap.size ≤ w3.heap.size + 1 by omega) _, (block_else HBX.out (by omega)).trans HBX.out.symm⟩, ⟨⟨⟨block_else H7.out (by omega), ?_⟩, block_else HBX.out (by omega)⟩, (by have := HPX.out; rwa [List.map_take] at this)⟩, hB.setCell (show w3.heap.size ≤ w3.heap.size + 1 by omega) _⟩
        rw [List.length_append, List.length_singleton]
        exact block_set H8.out (by first | rfl | (show #[Value.int .i64 lv] = _; rw [← hle]; rfl))
    · have HXN : Hid (¬ (pre ++ [(xa, xv)]).map Prod.fst = (L.take (pre ++ [(xa, xv)]).length).map Prod.fst) := Lib.hid (by
        rw [List.length_append, List.length_singleton, HX.out, List.map_append]
        intro h
        have := List.append_inj_right' h rfl
        simp at this
        exact h1 this.symm)
      have hne : (ya != xa) = true := by simpa using h1
      gi_wp2
      exact ⟨(KeepsOthers.setCell _ _ _).from _, .inl (by have := HXN.out; rwa [List.map_take] at this)⟩
  case done =>
    rintro D ys W hD rfl ⟨⟨⟨⟨h7, h8⟩, hbx⟩, -⟩, hB⟩ hK
    have g4 := (hB.block (w.heap.size + 1) (by have := (Array.getElem?_eq_some_iff.1 G4.out).1; omega)).trans G4.out
    have g3 := (hB.block w.heap.size (by have := (Array.getElem?_eq_some_iff.1 G3.out).1; omega)).trans G3.out
    have hBs := hB.size
    obtain ⟨c8, f8, l8, n8⟩ := block_cells h8
    obtain ⟨c4, f4, l4, n4⟩ := block_cells g4
    obtain ⟨c3, f3, l3, n3⟩ := block_cells g3
    have d8 := c8 0 _ rfl
    have d4 := c4 0 _ rfl
    have d3 := c3 0 _ rfl
    obtain ⟨c7, f7, l7, n7⟩ := block_cells h7
    have d7 := c7 0 _ rfl
    clear c7 h7
    have HK : Hid ((W.setCell ⟨w.heap.size + 1, 0, none⟩ (.bool true)).heap[D]? = some (.deferred (some []))) := Lib.hid (block_else hK (by have := (Array.getElem?_eq_some_iff.1 G4.out).1; omega))
    have B9 : Below w.heap.size w (W.setCell ⟨w.heap.size + 1, 0, none⟩ (.bool true)) := (B1.trans ((B13.trans (hB.mono Bz13)).mono Bz1)).setCell (show w.heap.size ≤ w.heap.size + 1 by omega) _
    have hcell : ((W.setCell ⟨w.heap.size + 1, 0, none⟩ (.bool true)).putObj D (.deferred none)).cell? ⟨w.heap.size + 1, 0, none⟩ = some (.bool true) :=
      (World.cell?_of_block (w := W.setCell ⟨w.heap.size + 1, 0, none⟩ (.bool true)) (a := ⟨w.heap.size + 1, 0, none⟩) (World.putObj_heap_other (by show w.heap.size + 1 ≠ D; have := (Array.getElem?_eq_some_iff.1 G4.out).1; omega))).trans (cell_setCell_same W _ _ _ _ d4)
    have HCE := Lib.hid hcell
    clear c8 c4 c3 hK g4 g3 h8 hcell
    by_cases hle : ((ys.length : Nat) : Int) = lv
    · have hled : (((ys.length : Nat) : Int) == lv) = true := by simpa using hle
      clear hle
      gi_wp2
      refine ⟨by simp, .inl ⟨_, _, rfl, run_takeDeferred HK.out, ?_⟩⟩
      refine ⟨.bool true, ?_, rfl, ?_⟩
      · simp [results, Try.results5, go_sem, HCE.out]
      · exact B9.trans (belowK_b (w := w) (Nat.le_refl _) _ D _ _ (by omega) HK.out rfl rfl)
    · have hled : (((ys.length : Nat) : Int) == lv) = false := by simpa using hle
      clear hle
      gi_wp2
      refine ⟨by simp, .inl ⟨_, _, rfl, run_takeDeferred HK.out, ?_⟩⟩
      refine ⟨.bool true, ?_, rfl, ?_⟩
      · simp [results, Try.results5, go_sem, HCE.out]
      · exact B9.trans (belowK_b (w := w) (Nat.le_refl _) _ D _ _ (by omega) HK.out rfl rfl)
  case stop =>
    rintro D c pre W hD ⟨k, hk, rfl⟩ h hK
    rcases h with h | ⟨⟨⟨rfl, hlv⟩, h8⟩, hB⟩
    · exact absurd (by rw [List.length_take, Nat.min_eq_left hk]) h
    · generalize List.take k L = pre at hlv h8
      have hled : (((pre.length : Nat) : Int) == lv) = true := by simpa using hlv
      clear hlv
      have g4 := (hB.block (w.heap.size + 1) (by have := (Array.getElem?_eq_some_iff.1 G4.out).1; omega)).trans G4.out
      have g3 := (hB.block w.heap.size (by have := (Array.getElem?_eq_some_iff.1 G3.out).1; omega)).trans G3.out
      have hBs := hB.size
      obtain ⟨c8, f8, l8, n8⟩ := block_cells h8
      obtain ⟨c4, f4, l4, n4⟩ := block_cells g4
      obtain ⟨c3, f3, l3, n3⟩ := block_cells g3
      have d8 := c8 0 _ rfl
      have d4 := c4 0 _ rfl
      have d3 := c3 0 _ rfl
      have HK : Hid ((W.setCell ⟨w.heap.size + 1, 0, none⟩ (.bool true)).heap[D]? = some (.deferred (some []))) := Lib.hid (block_else hK (by have := (Array.getElem?_eq_some_iff.1 G4.out).1; omega))
      have B9 : Below w.heap.size w (W.setCell ⟨w.heap.size + 1, 0, none⟩ (.bool true)) := (B1.trans ((B13.trans (hB.mono Bz13)).mono Bz1)).setCell (show w.heap.size ≤ w.heap.size + 1 by omega) _
      have hcell : ((W.setCell ⟨w.heap.size + 1, 0, none⟩ (.bool true)).putObj D (.deferred none)).cell? ⟨w.heap.size + 1, 0, none⟩ = some (.bool true) :=
        (World.cell?_of_block (w := W.setCell ⟨w.heap.size + 1, 0, none⟩ (.bool true)) (a := ⟨w.heap.size + 1, 0, none⟩) (World.putObj_heap_other (by show w.heap.size + 1 ≠ D; have := (Array.getElem?_eq_some_iff.1 G4.out).1; omega))).trans (cell_setCell_same W _ _ _ _ d4)
      have HCE := Lib.hid hcell
      clear c8 c4 c3 hK g4 g3 h8 hcell
      gi_wp2
      refine ⟨by simp, .inl ⟨_, _, rfl, run_takeDeferred HK.out, ?_⟩⟩
      refine ⟨.bool true, ?_, rfl, ?_⟩
      · simp [results, Try.results5, go_sem, HCE.out]
      · exact B9.trans (belowK_b (w := w) (Nat.le_refl _) _ D _ _ (by omega) HK.out rfl rfl)

set_option maxRecDepth 100000 in
theorem storeLeaves_lifted (os : Os) (started : os.Started) (H : Type) (enc : TypeId × Value → H) :
    ReturnsInHanded {} Try.checked os 5 .any (Rows.storeLeavesSpec.pre6 enc Try.prog Try.f5 Rows.storeLeavesRow.domain false) (Rows.storeLeavesSpec.post enc Try.prog Try.f5 false true false false) := by
  refine returnsInHanded_of_change (C := Try.checked) own started (by kernel_rfl) Try.func5
    (ChangeSpec.witness6 (enc := enc) (C := Try.checked) false ⟨#[], #[.slice none 0 0, .int .i64 0], []⟩ 8 (by kernel_rfl) (by kernel_rfl) (by kernel_rfl) (by kernel_rfl)) ?_
  intro W base args ds gs before hval0 hW _ _
  have hval : ∀ (j : Nat) t v, Try.f5.params[j]? = some t → args[j]? = some v → Value.okWide Try.prog W .any base t v := hval0
  have hW' := hW
  obtain ⟨p, q, hA0, hV, rfl, hfz, hnd⟩ := hW
  have hA : DataW.TrodAll enc Try.prog W 0 (fun _ => true) true Try.f5.params.toList args.toList ds p := hA0
  rw [Try.params5] at hA hval
  obtain ⟨v0, vs0, d0, ds0, p0, q0, hargs, rfl, rfl, h0, r0⟩ := trodAll_cons hA
  obtain ⟨v1, vs1, d1, ds1, p1, q1, rfl, rfl, rfl, h1, r1⟩ := trodAll_cons r0
  obtain ⟨rfl, rfl, rfl⟩ := trodAll_nil r1
  obtain rfl : args = #[v0, v1] := by cases args; simp_all
  obtain ⟨rfl, rfl⟩ := trodVars_none hV
  obtain ⟨o0, k0, l0, rfl, A0, c0, w0⟩ := arg_ops h0 (hval 0 22 v0 rfl rfl)
  obtain ⟨a1, rfl, w1⟩ := arg_i64 Try.underlying3 (hval 1 3 v1 rfl rfl)
  refine (storeLeaves_walk (w := W) o0 k0 l0 a1 A0 c0 w0 w1).mono fun e W' ⟨he, hb⟩ => ?_
  subst he
  exact ⟨_, rfl, post_law laid hW' rfl (by kernel_rfl) rfl Try.underlying4 rfl hb⟩

/-- The statement. -/
theorem storeLeaves_holds : Rows.StoreLeavesSaid :=
  OpenClaim.holds_of_wide 5 Try.f5 rfl rfl rfl rfl rfl rfl rfl ⟨rfl, rfl, rfl, rfl, rfl⟩ rfl rfl rfl rfl rfl (by kernel_rfl) Try.func5 (by kernel_rfl)
    (of_decide_eq_true (by kernel_rfl)) (by unfold Func.isWrapper; first | (rw [if_pos (by decide +kernel)]; kernel_rfl) | (rw [if_neg (by decide +kernel)]; exact ⟨rfl, rfl⟩))
    (fun os started H enc _ => storeLeaves_lifted os started H enc)
#print axioms storeLeaves_holds
