/- Contract of the law's played. -/
import Derived.Test.YtikkfkoaipenbaaMapie
import Derived.Test.YtikkfkoaipenbaaRefp
import Derived.Test.YtikkfkoaipenbaaPlay
import Derived.Test.YtikkfkoaipenbaaOps
import Derived.Deep.RegionHeld3
namespace Go.Proofs.Ytikkfkoaipenbaa
open Go.RowKit

def playL (l : List (Bool × Int × Int)) : List (Int × Int) := l.foldl mapStep []
def playM (l : List (Bool × Int × Int)) : List (Int × Int) := l.foldl refStep []
theorem playL_take (l : List (Bool × Int × Int)) (j : Nat) (h : j < l.length) : playL (l.take (j + 1)) = mapStep (playL (l.take j)) l[j] ∧ playM (l.take (j + 1)) = refStep (playM (l.take j)) l[j] := by
  unfold playL playM
  rw [List.take_succ_eq_append_getElem h, List.foldl_append, List.foldl_append]
  exact ⟨rfl, rfl⟩
theorem play_alike (l : List (Bool × Int × Int)) : Alike (playL l) (playM l) := Alike.nil.play l

theorem retiMap_out {L : List (Int × Int)} {w w' : World} {e : Ending} (h : RetiMap L w e w') : ∃ ks vs, e = .returned (.agg #[ks, vs]) ∧ MapiIs w' ks vs L ∧ Below w.heap.size w w' := h

set_option maxRecDepth 100000 in
set_option maxHeartbeats 4000000 in
theorem played_any (ao : Option Addr) (n cap : Nat) (l : List (Bool × Int × Int)) (w : World) (hl : Ato w ao l) (hn : n = l.length) :
    Calls Try.prog 11 #[.slice ao n cap] w (fun e w' => ∃ ks vs mo mc, e = .returned (.tuple #[.agg #[ks, vs], .slice mo (playM (l.take 60)).length mc]) ∧ MapiIs w' ks vs (playL (l.take 60)) ∧
      w'.ownsRow w.heap.size 49 2 (.slice mo (playM (l.take 60)).length mc) (playM (l.take 60)).length (flatp (playM (l.take 60))) ∧ Below w.heap.size w w' ∧ (playL (l.take 60)).length ≤ 60 ∧ (playM (l.take 60)).length ≤ 60) := by
  have HL := Lib.hid hl
  have HN := Lib.hid hn
  clear hl hn
  go_enter Try.func11, Try.ntmps11
  go_wp2_with fail
  go_loopw [5, 6] (fun o i wr => ∃ (j : Nat) (L M : List (Int × Int)) (ks vs : Value), i = .int .i64 j ∧ j ≤ n ∧ j ≤ 60 ∧ L = playL (l.take j) ∧ M = playM (l.take j) ∧ L.length ≤ j ∧ M.length ≤ j ∧ MapiIs wr ks vs L ∧
    wr.ownsRow w.heap.size 49 2 o M.length (flatp M) ∧ Below w.heap.size w wr ∧
    wr.heap[w.heap.size]? = some (.cells #[.slice none 0 0, .slice none 0 0] 28) ∧ wr.heap[w.heap.size + 1]? = some (.cells #[ks, vs] 28)) (fun _ i _ => 60 - (intOf i).toNat)
  case atStart => exact ⟨0, [], [], _, _, rfl, by omega, by omega, rfl, rfl, by simp, by simp, MapiIs.nil _, World.ownsRow_nil _ _ _ _, by repeat' (first | with_reducible exact Below.refl _ _ | with_reducible assumption | with_reducible apply below_drewN | with_reducible apply Below.drew | with_reducible refine Below.setCell ?_ ?_ _ | with_reducible refine Below.alloc ?_ ?_ _ | omega | (simp; done) | (simp; omega)), by (repeat (first | assumption | (refine heap_new _ _ _ ?_; simp; done) | refine heap_old _ _ _ _ ?_)), by (repeat (first | assumption | (refine heap_new _ _ _ ?_; simp; done) | refine heap_old _ _ _ _ ?_))⟩
  case round =>
    obtain ⟨j, L, M, ks, vs, rfl, hj, hj6, hL, hM, hLj, hMj, hm, hown, hB, hb1, hb2⟩ := hrel
    obtain ⟨mo, mc, rfl⟩ := ownsRow_form hown
    obtain ⟨ao1, cap1, rfl⟩ := ownsRow_form hm.keys
    obtain ⟨ao2, cap2, rfl⟩ := ownsRow_form hm.vals
    have HO := Lib.hid hown
    have HM := Lib.hid hm
    have HL1 := Lib.hid hL
    have HM1 := Lib.hid hM
    have HAL : Hid (Alike L M) := Lib.hid (by rw [hL, hM]; exact play_alike _)
    have G1 := Lib.hid hb1
    have G2 := Lib.hid hb2
    have hBs := hB.size
    obtain ⟨c1, f1, l1, n1⟩ := block_cells hb1
    obtain ⟨c2, f2, l2, n2⟩ := block_cells hb2
    have d0 := c2 0 _ rfl
    have d1 := c2 1 _ rfl
    have d2 := c1 0 _ rfl
    have d3 := c1 1 _ rfl
    clear hown hm hL hM hb1 hb2 c1 c2
    by_cases hlt : j < n ∧ j < 60
    · obtain ⟨hlt1, hlt2⟩ := hlt
      have hj1 : j < l.length := by rw [← HN.out]; exact hlt1
      obtain ⟨ad, rfl⟩ : ∃ ad, ao = some ad := by
        cases ao with
        | some ad => exact ⟨ad, rfl⟩
        | none => have := HL.out.1 rfl; rw [this] at hj1; simp at hj1
      obtain ⟨e0, e1, e2⟩ := (HL.out.below hB).triple j hj1
      obtain ⟨t1, t2⟩ := playL_take l j hj1
      have T1 := Lib.hid t1
      have T2 := Lib.hid t2
      clear t1 t2
      rw [← HL1.out] at T1
      rw [← HM1.out] at T2
      have HPR : Hid (∀ W, Below w.heap.size w W → W.cell? ⟨(ad.add (j * 3)).block, (ad.add (j * 3)).off + 1, none⟩ = some (.int .u64 (l[j]'hj1).2.1) ∧ W.cell? ⟨(ad.add (j * 3)).block, (ad.add (j * 3)).off + 2, none⟩ = some (.int .i64 (l[j]'hj1).2.2)) := Lib.hid fun W h => ((HL.out.below h).triple j hj1).2
      generalize l[j]'hj1 = p at e0 e1 e2 T1 T2 HPR
      obtain ⟨b, k, v⟩ := p
      simp only [mapStep, refStep] at e0 e1 e2 T1 T2 HPR
      clear hj1
      cases b
      · simp only [Bool.false_eq_true, if_false] at T1 T2
        go_wp2_with fail
        go_cut [] (fun wx => ∃ (ks' vs' : Value), MapiIs wx ks' vs' (withL L k v) ∧ wx.ownsRow w.heap.size 49 2 (.slice mo M.length mc) M.length (flatp M) ∧ Below w.heap.size w wx ∧ wx.heap[w.heap.size]? = some (.cells #[.slice none 0 0, .slice none 0 0] 28) ∧ wx.heap[w.heap.size + 1]? = some (.cells #[ks', vs'] 28))
        case first =>
          have cW : Hid (∀ W, Below wr.heap.size wr W → Calls Try.prog 15 #[.agg #[.slice ao1 L.length cap1, .slice ao2 L.length cap2], .int .u64 k, .int .i64 v] W (RetiMap (withL L k v) W)) := Lib.hid fun W h => withi_any _ _ L k v W (HM.out.below h) HAL.out.rise (by omega)
          go_region_with (go_at_call 15; with_reducible refine (cW.out _ ?_).mono ?_; (focus repeat' (first | with_reducible exact Below.refl _ _ | with_reducible assumption | with_reducible apply below_drewN | with_reducible apply Below.drew | with_reducible refine Below.setCell ?_ ?_ _ | with_reducible refine Below.alloc ?_ ?_ _ | omega | (simp; done) | (simp; omega))); intro e w1 hx; obtain ⟨ks', vs', rfl, hm', hb⟩ := retiMap_out hx; have BW : Below wr.heap.size wr w1 := Below.trans (by repeat' (first | with_reducible exact Below.refl _ _ | with_reducible assumption | with_reducible apply below_drewN | with_reducible apply Below.drew | with_reducible refine Below.setCell ?_ ?_ _ | with_reducible refine Below.alloc ?_ ?_ _ | omega | (simp; done) | (simp; omega))) (hb.mono (by first | omega | (simp; done) | (simp; omega))); have BWs := BW.size; have HM' := Lib.hid hm'; obtain ⟨ao3, cap3, rfl⟩ := ownsRow_form hm'.keys; obtain ⟨ao4, cap4, rfl⟩ := ownsRow_form hm'.vals; have G1' := Lib.hid ((BW.block w.heap.size l1).trans G1.out); have g2' := (BW.block (w.heap.size + 1) l2).trans G2.out; have G2' := Lib.hid g2'; obtain ⟨c2, f2', l2', n2'⟩ := block_cells g2'; have i0 := c2 0 _ rfl; have i1 := c2 1 _ rfl; have HO' := Lib.hid (ownsRow_below HO.out BW); clear hx hm' hb g2' c2)
          all_goals
            go_wp2_with fail
            go_meet
            refine ⟨_, _, (HM'.out.set G2'.out (by decide) (by decide) _ _).set (heap_setCell_cells G2'.out) (by decide) (by decide) _ _, ?_, ?_, ?_, ?_⟩
            · exact ownsRow_set_type (ownsRow_set_type HO'.out G2'.out (by decide) _ _) (heap_setCell_cells G2'.out) (by decide) _ _
            · exact ((hB.trans (BW.mono hBs)).setCell (show w.heap.size ≤ w.heap.size + 1 by omega) _).setCell (show w.heap.size ≤ w.heap.size + 1 by omega) _
            · exact block_else (block_else G1'.out (by omega)) (by omega)
            · exact block_set (block_set G2'.out rfl) rfl
        case rest =>
        obtain ⟨ks', vs', hm', hown', hB', g1, g2⟩ := hcut
        have HM' := Lib.hid hm'
        have HO' := Lib.hid hown'
        have HC1 := Lib.hid g1
        have HC2 := Lib.hid g2
        have hBs' := hB'.size
        have HLN : Hid ((withL L k v).length ≤ j + 1) := Lib.hid (by have := len_with L k v; omega)
        obtain ⟨z1, z2⟩ := HPR.out _ hB'
        clear hm' hown' g1 g2 e0 e1 e2 d0 d1 d2 d3 f1 f2 l1 l2 n1 n2
        have cR : Hid (∀ W, Below wc.heap.size wc W → Calls Try.prog 17 #[.slice mo M.length mc, .int .u64 k, .int .i64 v] W (RetRowp (dropL M k ++ [(k, v)]) W)) := Lib.hid fun W h => rwith_any mo M.length mc M k v W (Atp.of_row (ownsRow_below HO'.out h)) rfl (by omega)
        go_wp2_with fail
        go_region_held3 (fun W => W.cell? ⟨(ad.add (j * 3)).block, (ad.add (j * 3)).off + 1, none⟩ = some (.int .u64 k) ∧ W.cell? ⟨(ad.add (j * 3)).block, (ad.add (j * 3)).off + 2, none⟩ = some (.int .i64 v))
          (first | exact HPR.out _ (hB'.trans (Below.mono (B := wc.heap.size) (by repeat' (first | with_reducible exact Below.refl _ _ | with_reducible assumption | with_reducible apply below_drewN | with_reducible apply Below.drew | with_reducible refine Below.setCell ?_ ?_ _ | with_reducible refine Below.alloc ?_ ?_ _ | omega | (simp; done) | (simp; omega))) hBs')))
          (first | (go_at_call 17; with_reducible refine (cR.out _ ?_).mono ?_; (focus repeat' (first | with_reducible exact Below.refl _ _ | with_reducible assumption | with_reducible apply below_drewN | with_reducible apply Below.drew | with_reducible refine Below.setCell ?_ ?_ _ | with_reducible refine Below.alloc ?_ ?_ _ | omega | (simp; done) | (simp; omega))); intro e w1 hx; obtain ⟨ao5, cap5, rfl, hr, hb⟩ := retRowp_out hx; have BW : Below wc.heap.size wc w1 := Below.trans (by repeat' (first | with_reducible exact Below.refl _ _ | with_reducible assumption | with_reducible apply below_drewN | with_reducible apply Below.drew | with_reducible refine Below.setCell ?_ ?_ _ | with_reducible refine Below.alloc ?_ ?_ _ | omega | (simp; done) | (simp; omega))) (hb.mono (by first | omega | (simp; done) | (simp; omega))); have BWs := BW.size; have G5 := Lib.hid hr; clear hx hr hb))
        go_wp2_with fail
        have Bw1 : Below w.heap.size w w1 := hB'.trans (BW.mono hBs')
        go_roundw
        case rel =>
          refine ⟨j + 1, withL L k v, dropL M k ++ [(k, v)], ks', vs', by go_num, by omega, by omega, T1.out.symm, T2.out.symm, HLN.out, ?_, HM'.out.below BW, ?_, Bw1, (BW.block _ (by have := (Array.getElem?_eq_some_iff.1 HC1.out).1; omega)).trans HC1.out, (BW.block _ (by have := (Array.getElem?_eq_some_iff.1 HC2.out).1; omega)).trans HC2.out⟩
          · have := dropL_len M k; rw [List.length_append]; simp; omega
          · have h5 := G5.out
            rw [show (dropL M k ++ [(k, v)]).length = (dropL M k).length + 1 by simp] at h5 ⊢
            exact ownsRow_base h5 (show w.heap.size ≤ wc.heap.size by omega)
        case measure => first | (simp [intOf]; done) | (simp [intOf]; omega)
      · simp only [if_true] at T1 T2
        go_wp2_with fail
        go_cut [] (fun wx => ∃ (ks' vs' : Value), MapiIs wx ks' vs' (withoutL L k) ∧ wx.ownsRow w.heap.size 49 2 (.slice mo M.length mc) M.length (flatp M) ∧ Below w.heap.size w wx ∧ wx.heap[w.heap.size]? = some (.cells #[.slice none 0 0, .slice none 0 0] 28) ∧ wx.heap[w.heap.size + 1]? = some (.cells #[ks', vs'] 28))
        case first =>
          have cW : Hid (∀ W, Below wr.heap.size wr W → Calls Try.prog 16 #[.agg #[.slice ao1 L.length cap1, .slice ao2 L.length cap2], .int .u64 k] W (RetiMap (withoutL L k) W)) := Lib.hid fun W h => withouti_any _ _ L k W (HM.out.below h) HAL.out.rise (by omega)
          go_region_with (go_at_call 16; with_reducible refine (cW.out _ ?_).mono ?_; (focus repeat' (first | with_reducible exact Below.refl _ _ | with_reducible assumption | with_reducible apply below_drewN | with_reducible apply Below.drew | with_reducible refine Below.setCell ?_ ?_ _ | with_reducible refine Below.alloc ?_ ?_ _ | omega | (simp; done) | (simp; omega))); intro e w1 hx; obtain ⟨ks', vs', rfl, hm', hb⟩ := retiMap_out hx; have BW : Below wr.heap.size wr w1 := Below.trans (by repeat' (first | with_reducible exact Below.refl _ _ | with_reducible assumption | with_reducible apply below_drewN | with_reducible apply Below.drew | with_reducible refine Below.setCell ?_ ?_ _ | with_reducible refine Below.alloc ?_ ?_ _ | omega | (simp; done) | (simp; omega))) (hb.mono (by first | omega | (simp; done) | (simp; omega))); have BWs := BW.size; have HM' := Lib.hid hm'; obtain ⟨ao3, cap3, rfl⟩ := ownsRow_form hm'.keys; obtain ⟨ao4, cap4, rfl⟩ := ownsRow_form hm'.vals; have G1' := Lib.hid ((BW.block w.heap.size l1).trans G1.out); have g2' := (BW.block (w.heap.size + 1) l2).trans G2.out; have G2' := Lib.hid g2'; obtain ⟨c2, f2', l2', n2'⟩ := block_cells g2'; have i0 := c2 0 _ rfl; have i1 := c2 1 _ rfl; have HO' := Lib.hid (ownsRow_below HO.out BW); clear hx hm' hb g2' c2)
          all_goals
            go_wp2_with fail
            go_meet
            refine ⟨_, _, (HM'.out.set G2'.out (by decide) (by decide) _ _).set (heap_setCell_cells G2'.out) (by decide) (by decide) _ _, ?_, ?_, ?_, ?_⟩
            · exact ownsRow_set_type (ownsRow_set_type HO'.out G2'.out (by decide) _ _) (heap_setCell_cells G2'.out) (by decide) _ _
            · exact ((hB.trans (BW.mono hBs)).setCell (show w.heap.size ≤ w.heap.size + 1 by omega) _).setCell (show w.heap.size ≤ w.heap.size + 1 by omega) _
            · exact block_else (block_else G1'.out (by omega)) (by omega)
            · exact block_set (block_set G2'.out rfl) rfl
        case rest =>
        obtain ⟨ks', vs', hm', hown', hB', g1, g2⟩ := hcut
        have HM' := Lib.hid hm'
        have HO' := Lib.hid hown'
        have HC1 := Lib.hid g1
        have HC2 := Lib.hid g2
        have hBs' := hB'.size
        have HLN : Hid ((withoutL L k).length ≤ j + 1) := Lib.hid (by have := len_without L k; omega)
        obtain ⟨z1, z2⟩ := HPR.out _ hB'
        clear hm' hown' g1 g2 e0 e1 e2 d0 d1 d2 d3 f1 f2 l1 l2 n1 n2
        go_wp2_with (go_at_call 18; refine (rwithout_any mo M.length mc M k _ (Atp.of_row HO'.out) rfl (by omega)).mono ?_; rintro e w1 ⟨ao5, cap5, rfl, hr, hb⟩; have BW : Below wc.heap.size wc w1 := hb; have BWs := BW.size; have G5 := Lib.hid hr; clear hr hb)
        have Bw1 : Below w.heap.size w w1 := hB'.trans (BW.mono hBs')
        go_roundw
        case rel =>
          refine ⟨j + 1, withoutL L k, dropL M k, ks', vs', by go_num, by omega, by omega, T1.out.symm, T2.out.symm, HLN.out, ?_, HM'.out.below BW, ?_, Bw1, (BW.block _ (by have := (Array.getElem?_eq_some_iff.1 HC1.out).1; omega)).trans HC1.out, (BW.block _ (by have := (Array.getElem?_eq_some_iff.1 HC2.out).1; omega)).trans HC2.out⟩
          · have := dropL_len M k; omega
          · exact ownsRow_base G5.out (by omega)
        case measure => first | (simp [intOf]; done) | (simp [intOf]; omega)
    · have e : l.take 60 = l.take j := by
        rcases Nat.lt_or_ge j n with h | h
        · have : j = 60 := by
            rcases Nat.lt_or_ge j 60 with h6 | h6
            · exact absurd ⟨h, h6⟩ hlt
            · omega
          rw [this]
        · have hjn : j = l.length := by have := HN.out; omega
          rw [hjn, List.take_length, List.take_of_length_le (by omega)]
      have HPL : Hid (playL (l.take 60) = L) := Lib.hid (by rw [e, ← HL1.out])
      have HPM : Hid (playM (l.take 60) = M) := Lib.hid (by rw [e, ← HM1.out])
      clear e
      have hlt' : j < n → ¬ j < 60 := fun h h6 => hlt ⟨h, h6⟩
      clear hlt
      by_cases h1 : j < n
      · have h2 := hlt' h1
        clear hlt'
        go_wp2_with fail
        refine bodyPost_ret (v := .tuple #[.agg #[.slice ao1 L.length cap1, .slice ao2 L.length cap2], .slice mo M.length mc]) (by simp [results, Try.results11, go_sem, *]) rfl ?_
        rw [HPL.out, HPM.out]
        refine ⟨_, _, _, _, rfl, ?_, ?_, ?_, by omega, by omega⟩
        · exact (HM.out.set G1.out (by decide) (by decide) _ _).set (heap_setCell_cells G1.out) (by decide) (by decide) _ _
        · exact ownsRow_set_type (ownsRow_set_type HO.out G1.out (by decide) _ _) (heap_setCell_cells G1.out) (by decide) _ _
        · repeat' (first | with_reducible exact Below.refl _ _ | with_reducible assumption | with_reducible apply below_drewN | with_reducible apply Below.drew | with_reducible refine Below.setCell ?_ ?_ _ | with_reducible refine Below.alloc ?_ ?_ _ | omega | (simp; done) | (simp; omega))
      · clear hlt'
        go_wp2_with fail
        refine bodyPost_ret (v := .tuple #[.agg #[.slice ao1 L.length cap1, .slice ao2 L.length cap2], .slice mo M.length mc]) (by simp [results, Try.results11, go_sem, *]) rfl ?_
        rw [HPL.out, HPM.out]
        refine ⟨_, _, _, _, rfl, ?_, ?_, ?_, by omega, by omega⟩
        · exact (HM.out.set G1.out (by decide) (by decide) _ _).set (heap_setCell_cells G1.out) (by decide) (by decide) _ _
        · exact ownsRow_set_type (ownsRow_set_type HO.out G1.out (by decide) _ _) (heap_setCell_cells G1.out) (by decide) _ _
        · repeat' (first | with_reducible exact Below.refl _ _ | with_reducible assumption | with_reducible apply below_drewN | with_reducible apply Below.drew | with_reducible refine Below.setCell ?_ ?_ _ | with_reducible refine Below.alloc ?_ ?_ _ | omega | (simp; done) | (simp; omega))

end Go.Proofs.Ytikkfkoaipenbaa
