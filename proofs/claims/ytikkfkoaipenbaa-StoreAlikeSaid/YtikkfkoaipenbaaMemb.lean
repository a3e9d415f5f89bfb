/- Memories of package store: Of. -/
import Derived.Test.YtikkfkoaipenbaaMem
import Derived.Test.YtikkfkoaipenbaaPairsb
import Derived.Test.YtikkfkoaipenbaaRecc
namespace Go.Proofs.Ytikkfkoaipenbaa
open Go.RowKit

theorem sorted_write {L : List (Int × Int)} (hs : Sorted L) (a v : Int) : Sorted (writeL L a v).1 := by
  unfold writeL
  split
  · split
    · exact sorted_without hs a
    · split
      · exact sorted_with hs a v
      · exact hs
  · exact hs
theorem len_write {L : List (Int × Int)} (hl : L.length ≤ 256) (a v : Int) : (writeL L a v).1.length ≤ 256 := by
  unfold writeL
  split
  · split
    · have := len_without L a
      simp only; omega
    · split
      · assumption
      · exact hl
  · exact hl

/-- Cells, written in order. -/
def ofL : List (Int × Int) → List (Int × Int) → List (Int × Int) × Int
  | L, [] => (L, 0)
  | L, c :: cs => if (writeL L c.1 c.2).2 = 0 then ofL (writeL L c.1 c.2).1 cs else ([], (writeL L c.1 c.2).2)

theorem ofL_step (L l : List (Int × Int)) (j : Nat) (h : j < l.length) :
    ofL L (l.drop j) = if (writeL L l[j].1 l[j].2).2 = 0 then ofL (writeL L l[j].1 l[j].2).1 (l.drop (j + 1)) else ([], (writeL L l[j].1 l[j].2).2) := by
  rw [List.drop_eq_getElem_cons h]
  rfl

set_option maxHeartbeats 1000000 in
theorem of_any (ao : Option Addr) (n cap : Nat) (l : List (Int × Int)) (w : World) (hl : Atc w ao l) (hn : n = l.length) (hlen : l.length ≤ 1000) (hu : ∀ p ∈ l, U64 p.1) :
    Calls Try.prog 21 #[.slice ao n cap] w (RetMem (ofL [] l) w) := by
  have HL := Lib.hid hl
  have HN := Lib.hid hn
  have HU := Lib.hid hu
  rw [← hn] at hlen
  clear hl hn hu
  go_enter Try.func21, Try.ntmps21
  go_wp2_with fail
  go_loopw [11] (fun i wr => ∃ (j : Nat) (ks vs : Value) (L : List (Int × Int)), i = .int .i64 j ∧ j ≤ n ∧ MapuIs wr ks vs L ∧ Sorted L ∧ L.length ≤ 256 ∧ ofL [] l = ofL L (l.drop j) ∧ Below w.heap.size w wr ∧
    wr.heap[w.heap.size]? = some (.cells #[.slice none 0 0, .slice none 0 0] 55) ∧ wr.heap[w.heap.size + 1]? = some (.cells #[ks, vs] 55)) (fun i _ => n - (intOf i).toNat)
  case atStart => exact ⟨0, _, _, [], rfl, by omega, MapuIs.nil _, List.Pairwise.nil, by simp, rfl, by repeat' (first | with_reducible exact Below.refl _ _ | with_reducible assumption | with_reducible apply below_drewN | with_reducible apply Below.drew | with_reducible refine Below.setCell ?_ ?_ _ | with_reducible refine Below.alloc ?_ ?_ _ | omega | (simp; done) | (simp; omega)), by (repeat (first | assumption | (refine heap_new _ _ _ ?_; simp; done) | refine heap_old _ _ _ _ ?_)), by (repeat (first | assumption | (refine heap_new _ _ _ ?_; simp; done) | refine heap_old _ _ _ _ ?_))⟩
  case round =>
    obtain ⟨j, ks, vs, L, rfl, hj, hm, hs, hL, hof, hB, hb1, hb2⟩ := hrel
    by_cases hlt : j < n
    · have hj' : j < l.length := by rw [← HN.out]; exact hlt
      obtain ⟨ad, rfl⟩ : ∃ ad, ao = some ad := by
        cases ao with
        | some ad => exact ⟨ad, rfl⟩
        | none => have := HL.out.1 rfl; rw [this] at hj'; simp at hj'
      obtain ⟨hc1, hc2⟩ := (HL.out.below hB).pair j hj'
      have hab := cell_lt hc1
      have HST := Lib.hid (ofL_step L l j hj')
      have hca := HU.out _ (List.getElem_mem hj')
      obtain ⟨⟨ca, cv⟩, hc⟩ : ∃ c, c = l[j] := ⟨_, rfl⟩
      rw [← hc] at hc1 hc2 HST hca
      simp only at hc1 hc2 HST hca
      obtain ⟨bo, cap1, rfl⟩ := ownsRow_form hm.keys
      obtain ⟨co, cap2, rfl⟩ := ownsRow_form hm.vals
      have HM := Lib.hid hm
      have HS := Lib.hid hs
      have HCA := Lib.hid hca
      have HOF := Lib.hid hof
      obtain ⟨c0, f0, l0, n0⟩ := block_cells hb2
      obtain ⟨c1, f1, l1, n1⟩ := block_cells hb1
      have d0 := c0 0 _ rfl
      have d1 := c0 1 _ rfl
      have d2 := c1 0 _ rfl
      have d3 := c1 1 _ rfl
      clear hm hs hca hof hc c0 c1
      go_wp2_with fail
      refine (write_any _ _ L ca cv _ (HM.out.below (by repeat' (first | with_reducible exact Below.refl _ _ | with_reducible assumption | with_reducible apply below_drewN | with_reducible apply Below.drew | with_reducible refine Below.setCell ?_ ?_ _ | with_reducible refine Below.alloc ?_ ?_ _ | omega | (simp; done) | (simp; omega)))) HS.out (by omega) HCA.out).mono ?_
      rintro e w1 ⟨ks', vs', rfl, hm', hb⟩
      have B1 : Below wr.heap.size wr w1 := Below.trans (by repeat' (first | with_reducible exact Below.refl _ _ | with_reducible assumption | with_reducible apply below_drewN | with_reducible apply Below.drew | with_reducible refine Below.setCell ?_ ?_ _ | with_reducible refine Below.alloc ?_ ?_ _ | omega | (simp; done) | (simp; omega))) (hb.mono (by first | omega | (simp; done) | (simp; omega)))
      have Bz := B1.size
      have BB := hB.trans (B1.mono hB.size)
      obtain ⟨k1, k2, k3, k4⟩ := keepB B1 w.heap.size l1
      obtain ⟨m1, m2, m3, m4⟩ := keepB B1 (w.heap.size + 1) l0
      have e1 := (B1.block _ l1).trans hb1
      have e2 := (B1.block _ l0).trans hb2
      have HM' := Lib.hid hm'
      obtain ⟨ao', cap', rfl⟩ := ownsRow_form hm'.keys
      obtain ⟨bo', cap2', rfl⟩ := ownsRow_form hm'.vals
      clear hm' hb
      by_cases hz : (writeL L ca cv).2 = 0
      · have HZ := Lib.hid hz
        rw [HZ.out]
        go_wp2_with fail
        go_roundw
        case rel =>
          refine ⟨j + 1, .slice ao' (writeL L ca cv).1.length cap', .slice bo' (writeL L ca cv).1.length cap2', (writeL L ca cv).1, by go_num, by omega, ?_, sorted_write HS.out _ _, len_write hL _ _, ?_, ?_, ?_, ?_⟩
          · exact ((HM'.out.set e2 (by decide) (by decide) _ _).set (heap_setCell_cells e2) (by decide) (by decide) _ _).below (by repeat' (first | with_reducible exact Below.refl _ _ | with_reducible assumption | with_reducible apply below_drewN | with_reducible apply Below.drew | with_reducible refine Below.setCell ?_ ?_ _ | with_reducible refine Below.alloc ?_ ?_ _ | omega | (simp; done) | (simp; omega)))
          · rw [HOF.out, HST.out, if_pos HZ.out]
          · repeat' (first | with_reducible exact Below.refl _ _ | with_reducible assumption | with_reducible apply below_drewN | with_reducible apply Below.drew | with_reducible refine Below.setCell ?_ ?_ _ | with_reducible refine Below.alloc ?_ ?_ _ | omega | (simp; done) | (simp; omega))
          · exact heap_old _ _ _ _ (block_else (block_else e1 (by omega)) (by omega))
          · exact heap_old _ _ _ _ (block_set (block_set e2 rfl) rfl)
        case measure => simp [intOf]; omega
      · have HZ := Lib.hid hz
        have hzd : ((writeL L ca cv).2 != 0) = true := by simpa using hz
        obtain ⟨z, hze⟩ : ∃ z, z = (writeL L ca cv).2 := ⟨_, rfl⟩
        have HZE := Lib.hid hze
        rw [← hze] at hzd ⊢
        clear hz hze
        go_wp2_with fail
        refine bodyPost_ret (v := .tuple #[.agg #[.slice none 0 0, .slice none 0 0], .int .i64 z]) (by simp [results, Try.results21, go_sem, *]) rfl ⟨.slice none 0 0, .slice none 0 0, ?_, ?_, ?_⟩
        · rw [HOF.out, HST.out, ← HZE.out, if_neg (by simpa using hzd)]
        · rw [HOF.out, HST.out, ← HZE.out, if_neg (by simpa using hzd)]
          exact MapuIs.nil _
        · repeat' (first | with_reducible exact Below.refl _ _ | with_reducible assumption | with_reducible apply below_drewN | with_reducible apply Below.drew | with_reducible refine Below.setCell ?_ ?_ _ | with_reducible refine Below.alloc ?_ ?_ _ | omega | (simp; done) | (simp; omega))
    · obtain rfl : j = n := by omega
      obtain ⟨bo, cap1, rfl⟩ := ownsRow_form hm.keys
      obtain ⟨co, cap2, rfl⟩ := ownsRow_form hm.vals
      have HM := Lib.hid hm
      have HOF := Lib.hid hof
      obtain ⟨c0, f0, l0, n0⟩ := block_cells hb2
      obtain ⟨c1, f1, l1, n1⟩ := block_cells hb1
      have d0 := c0 0 _ rfl
      have d1 := c0 1 _ rfl
      have d2 := c1 0 _ rfl
      have d3 := c1 1 _ rfl
      clear hm hs hof c0 c1
      go_wp2_with fail
      refine bodyPost_ret (v := .tuple #[.agg #[.slice bo L.length cap1, .slice co L.length cap2], .int .i64 0]) (by simp [results, Try.results21, go_sem, *]) rfl ⟨_, _, by rw [HOF.out, HN.out, List.drop_length]; rfl, ?_, ?_⟩
      · rw [HOF.out, HN.out, List.drop_length]
        exact (HM.out.set hb1 (by decide) (by decide) _ _).set (heap_setCell_cells hb1) (by decide) (by decide) _ _
      · repeat' (first | with_reducible exact Below.refl _ _ | with_reducible assumption | with_reducible apply below_drewN | with_reducible apply Below.drew | with_reducible refine Below.setCell ?_ ?_ _ | with_reducible refine Below.alloc ?_ ?_ _ | omega | (simp; done) | (simp; omega))

end Go.Proofs.Ytikkfkoaipenbaa
