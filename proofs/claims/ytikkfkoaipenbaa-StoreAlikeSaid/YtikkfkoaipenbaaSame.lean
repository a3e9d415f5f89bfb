/- Memories of package store: Same. -/
import Derived.Test.YtikkfkoaipenbaaCells
import Derived.BigQuiet
import Derived.Deep.QuietTactic
import Derived.Deep.RegionHeld3
namespace Go.Proofs.Ytikkfkoaipenbaa
open Go.RowKit

theorem retRowc_out {L : List (Int × Int)} {w w' : World} {e : Ending} (h : RetRowc L w e w') : ∃ ao cap, e = .returned (.slice ao L.length cap) ∧ w'.ownsRow w.heap.size 73 2 (.slice ao L.length cap) L.length (flatc L) ∧ Below w.heap.size w w' := h

set_option maxHeartbeats 2000000 in
theorem same_any (ks vs ks' vs' : Value) (L K : List (Int × Int)) (w : World) (hm : MapuIs w ks vs L) (hm' : MapuIs w ks' vs' K) (hlen : L.length ≤ 900) (hlen' : K.length ≤ 900) :
    Calls Try.prog 32 #[.agg #[ks, vs], .agg #[ks', vs']] w (RetB (.bool (decide (L = K))) w) := by
  have HM := Lib.hid hm
  have HM' := Lib.hid hm'
  obtain ⟨ao1, cap1, rfl⟩ := ownsRow_form hm.keys
  obtain ⟨ao2, cap2, rfl⟩ := ownsRow_form hm.vals
  obtain ⟨ao3, cap3, rfl⟩ := ownsRow_form hm'.keys
  obtain ⟨ao4, cap4, rfl⟩ := ownsRow_form hm'.vals
  clear hm hm'
  go_enter Try.func32, Try.ntmps32
  go_wp2_with fail
  obtain ⟨wr, hwr⟩ : ∃ wr, wr = (w.alloc (.cells #[.slice ao1 L.length cap1, .slice ao2 L.length cap2] 55)).alloc (.cells #[.slice ao3 K.length cap3, .slice ao4 K.length cap4] 55) := ⟨_, rfl⟩
  have hB : Below w.heap.size w wr := by rw [hwr]; repeat' (first | with_reducible exact Below.refl _ _ | with_reducible assumption | with_reducible apply below_drewN | with_reducible apply Below.drew | with_reducible refine Below.setCell ?_ ?_ _ | with_reducible refine Below.alloc ?_ ?_ _ | omega | (simp; done) | (simp; omega))
  have hs : wr.heap.size = w.heap.size + 2 := by rw [hwr]; simp
  have hb1 : wr.heap[w.heap.size]? = some (.cells #[.slice ao1 L.length cap1, .slice ao2 L.length cap2] 55) := by rw [hwr]; (repeat (first | assumption | (refine heap_new _ _ _ ?_; simp; done) | refine heap_old _ _ _ _ ?_))
  have hb2 : wr.heap[w.heap.size + 1]? = some (.cells #[.slice ao3 K.length cap3, .slice ao4 K.length cap4] 55) := by rw [hwr]; (repeat (first | assumption | (refine heap_new _ _ _ ?_; simp; done) | refine heap_old _ _ _ _ ?_))
  rw [← hwr]
  clear hwr
  go_cut [5, 6] (fun x y wx => ∃ (co co' : Option Addr) (cc cc' : Nat), x = .slice co L.length cc ∧ y = .slice co' K.length cc' ∧ Atc wx co L ∧ Atc wx co' K ∧ Below wr.heap.size wr wx)
  case first =>
    obtain ⟨c0, -, l0, n0⟩ := block_cells hb1
    obtain ⟨c1, -, l1, n1⟩ := block_cells hb2
    have d0 := c0 0 _ rfl
    have d1 := c0 1 _ rfl
    have d2 := c1 0 _ rfl
    have d3 := c1 1 _ rfl
    clear c0 c1 hb1 hb2
    have HS : Hid (∀ W, Below wr.heap.size wr W → W.cell? ⟨w.heap.size, 0, none⟩ = some (.slice ao1 L.length cap1) ∧ W.cell? ⟨w.heap.size, 1, none⟩ = some (.slice ao2 L.length cap2) ∧ W.cell? ⟨w.heap.size + 1, 0, none⟩ = some (.slice ao3 K.length cap3) ∧ W.cell? ⟨w.heap.size + 1, 1, none⟩ = some (.slice ao4 K.length cap4)) :=
      Lib.hid fun W h => ⟨(h.cell (p := ⟨w.heap.size, 0, none⟩) l0).trans d0, (h.cell (p := ⟨w.heap.size, 1, none⟩) l0).trans d1, (h.cell (p := ⟨w.heap.size + 1, 0, none⟩) l1).trans d2, (h.cell (p := ⟨w.heap.size + 1, 1, none⟩) l1).trans d3⟩
    have cL : ∀ W, Below wr.heap.size wr W → Calls Try.prog 26 #[.agg #[.slice ao1 L.length cap1, .slice ao2 L.length cap2]] W (RetRowc L W) := fun W h => cells_any _ _ L W (HM.out.below (hB.trans (h.mono hB.size))) hlen
    have cK : ∀ W, Below wr.heap.size wr W → Calls Try.prog 26 #[.agg #[.slice ao3 K.length cap3, .slice ao4 K.length cap4]] W (RetRowc K W) := fun W h => cells_any _ _ K W (HM'.out.below (hB.trans (h.mono hB.size))) hlen'
    have CLL := Lib.hid cL
    have CKK := Lib.hid cK
    clear cL cK
    go_region_held3 (fun W => W.cell? ⟨w.heap.size, 0, none⟩ = some (.slice ao1 L.length cap1) ∧ W.cell? ⟨w.heap.size, 1, none⟩ = some (.slice ao2 L.length cap2) ∧ W.cell? ⟨w.heap.size + 1, 0, none⟩ = some (.slice ao3 K.length cap3) ∧ W.cell? ⟨w.heap.size + 1, 1, none⟩ = some (.slice ao4 K.length cap4))
      (first | exact HS.out _ (by repeat' (first | with_reducible exact Below.refl _ _ | with_reducible assumption | with_reducible apply below_drewN | with_reducible apply Below.drew | with_reducible refine Below.setCell ?_ ?_ _ | with_reducible refine Below.alloc ?_ ?_ _ | omega | (simp; done) | (simp; omega))))
      (first
      | (go_at_call 26; with_reducible refine (CLL.out _ ?_).mono ?_; (focus repeat' (first | with_reducible exact Below.refl _ _ | with_reducible assumption | with_reducible apply below_drewN | with_reducible apply Below.drew | with_reducible refine Below.setCell ?_ ?_ _ | with_reducible refine Below.alloc ?_ ?_ _ | omega | (simp; done) | (simp; omega))); intro e wL hx; obtain ⟨co, cc, rfl, hr, hb⟩ := retRowc_out hx; clear hx; have BL : Below wr.heap.size wr wL := Below.trans (by repeat' (first | with_reducible exact Below.refl _ _ | with_reducible assumption | with_reducible apply below_drewN | with_reducible apply Below.drew | with_reducible refine Below.setCell ?_ ?_ _ | with_reducible refine Below.alloc ?_ ?_ _ | omega | (simp; done) | (simp; omega))) (hb.mono (by first | omega | (simp; done) | (simp; omega))); have BzL := BL.size; have CL := Lib.hid (Atc.of_row hr); try (have EK : Below wK.heap.size wK wL := Below.trans (by repeat' (first | with_reducible exact Below.refl _ _ | with_reducible assumption | with_reducible apply below_drewN | with_reducible apply Below.drew | with_reducible refine Below.setCell ?_ ?_ _ | with_reducible refine Below.alloc ?_ ?_ _ | omega | (simp; done) | (simp; omega))) (hb.mono (by first | omega | (simp; done) | (simp; omega)))); clear hb hr)
      | (go_at_call 26; with_reducible refine (CKK.out _ ?_).mono ?_; (focus repeat' (first | with_reducible exact Below.refl _ _ | with_reducible assumption | with_reducible apply below_drewN | with_reducible apply Below.drew | with_reducible refine Below.setCell ?_ ?_ _ | with_reducible refine Below.alloc ?_ ?_ _ | omega | (simp; done) | (simp; omega))); intro e wK hx; obtain ⟨co', cc', rfl, hr, hb⟩ := retRowc_out hx; clear hx; have BK : Below wr.heap.size wr wK := Below.trans (by repeat' (first | with_reducible exact Below.refl _ _ | with_reducible assumption | with_reducible apply below_drewN | with_reducible apply Below.drew | with_reducible refine Below.setCell ?_ ?_ _ | with_reducible refine Below.alloc ?_ ?_ _ | omega | (simp; done) | (simp; omega))) (hb.mono (by first | omega | (simp; done) | (simp; omega))); have BzK := BK.size; have CK := Lib.hid (Atc.of_row hr); try (have EL : Below wL.heap.size wL wK := Below.trans (by repeat' (first | with_reducible exact Below.refl _ _ | with_reducible assumption | with_reducible apply below_drewN | with_reducible apply Below.drew | with_reducible refine Below.setCell ?_ ?_ _ | with_reducible refine Below.alloc ?_ ?_ _ | omega | (simp; done) | (simp; omega))) (hb.mono (by first | omega | (simp; done) | (simp; omega)))); clear hb hr))
    all_goals
      go_wp2_with fail
      go_meet
      exact ⟨_, _, _, _, rfl, rfl, CL.out.below (by repeat' (first | with_reducible exact Below.refl _ _ | with_reducible assumption | with_reducible apply below_drewN | with_reducible apply Below.drew | with_reducible refine Below.setCell ?_ ?_ _ | with_reducible refine Below.alloc ?_ ?_ _ | omega | (simp; done) | (simp; omega))), CK.out.below (by repeat' (first | with_reducible exact Below.refl _ _ | with_reducible assumption | with_reducible apply below_drewN | with_reducible apply Below.drew | with_reducible refine Below.setCell ?_ ?_ _ | with_reducible refine Below.alloc ?_ ?_ _ | omega | (simp; done) | (simp; omega))), by repeat' (first | with_reducible exact Below.refl _ _ | with_reducible assumption | with_reducible apply below_drewN | with_reducible apply Below.drew | with_reducible refine Below.setCell ?_ ?_ _ | with_reducible refine Below.alloc ?_ ?_ _ | omega | (simp; done) | (simp; omega))⟩
  case rest =>
    obtain ⟨co, co', cc, cc', rfl, rfl, hL, hK, hb⟩ := hcut
    have HL := Lib.hid hL
    have HK := Lib.hid hK
    have HB := hB.trans (hb.mono hB.size)
    clear hL hK hb hb1 hb2
    obtain ⟨n, hn⟩ : ∃ n, n = L.length := ⟨_, rfl⟩
    obtain ⟨m, hm⟩ : ∃ m, m = K.length := ⟨_, rfl⟩
    have HN := Lib.hid hn
    have HMM := Lib.hid hm
    rw [← hn, ← hm]
    rw [← hn] at hlen
    rw [← hm] at hlen'
    clear hn hm HM HM' hB hs
    by_cases hnm : n = m
    · subst hnm
      go_wp2_with fail
      go_loopw [20] (fun i wr => ∃ j : Nat, i = .int .i64 j ∧ j ≤ n ∧ L.take j = K.take j ∧ Below wc.heap.size wc wr) (fun i _ => n - (intOf i).toNat)
      case atStart => exact ⟨0, rfl, by omega, rfl, Below.refl _ _⟩
      case round =>
        obtain ⟨j, rfl, hj, hd, hB⟩ := hrel
        have hBB := HB.trans (hB.mono HB.size)
        have hBs := hB.size
        have hBBs := hBB.size
        by_cases hlt : j < n
        · have hj1 : j < L.length := by rw [← HN.out]; omega
          have hj2 : j < K.length := by rw [← HMM.out]; omega
          obtain ⟨ad, rfl⟩ : ∃ ad, co = some ad := by
            cases co with
            | some ad => exact ⟨ad, rfl⟩
            | none => have := HL.out.1 rfl; rw [this] at hj1; simp at hj1
          obtain ⟨bd, rfl⟩ : ∃ ad, co' = some ad := by
            cases co' with
            | some ad => exact ⟨ad, rfl⟩
            | none => have := HK.out.1 rfl; rw [this] at hj2; simp at hj2
          obtain ⟨hc1, hc2⟩ := (HL.out.below hB).pair j hj1
          obtain ⟨hd1, hd2⟩ := (HK.out.below hB).pair j hj2
          have hdb := cell_lt hd1
          have HT : Hid (L.take (j + 1) = L.take j ++ [L[j]]) := Lib.hid (List.take_succ_eq_append_getElem hj1)
          have HU : Hid (K.take (j + 1) = K.take j ++ [K[j]]) := Lib.hid (List.take_succ_eq_append_getElem hj2)
          generalize L[j]'hj1 = c at hc1 hc2 HT
          generalize K[j]'hj2 = d at hd1 hd2 HU
          obtain ⟨ca, cv⟩ := c
          obtain ⟨da, dv⟩ := d
          simp only at hc1 hc2 hd1 hd2
          have hdb : (bd.add (j * 2)).block < wr.heap.size := cell_lt hd1
          have hdn : (bd.add (j * 2)).block ≠ wr.heap.size := Nat.ne_of_lt hdb
          clear hj1 hj2
          have HD := Lib.hid hd
          clear hd
          by_cases e : ca = da ∧ cv = dv
          · obtain ⟨rfl, rfl⟩ := e
            go_wp2_with fail
            go_quiet (fail)
            go_wp2_with fail
            go_roundw
            case rel => exact ⟨j + 1, by go_num, by omega, by rw [HT.out, HU.out, HD.out], by repeat' (first | with_reducible exact Below.refl _ _ | with_reducible assumption | with_reducible apply below_drewN | with_reducible apply Below.drew | with_reducible refine Below.setCell ?_ ?_ _ | with_reducible refine Below.alloc ?_ ?_ _ | omega | (simp; done) | (simp; omega))⟩
            case measure => first | (simp [intOf]; done) | (simp [intOf]; omega)
          · by_cases e1 : ca = da
            · have e2 : ¬ cv = dv := fun h => e ⟨e1, h⟩
              clear e
              subst e1
              go_wp2_with fail
              go_quiet (fail)
              go_wp2_with fail
              go_ret
              refine ⟨?_, by repeat' (first | with_reducible exact Below.refl _ _ | with_reducible assumption | with_reducible apply below_drewN | with_reducible apply Below.drew | with_reducible refine Below.setCell ?_ ?_ _ | with_reducible refine Below.alloc ?_ ?_ _ | omega | (simp; done) | (simp; omega))⟩
              rw [decide_eq_false]
              · rfl
              · intro e'
                have h1 := HT.out
                have h2 := HU.out
                rw [e', h2] at h1
                have h3 := List.append_inj_right' h1 rfl
                simp at h3
                omega
            · clear e
              go_wp2_with fail
              go_quiet (fail)
              go_wp2_with fail
              go_ret
              refine ⟨?_, by repeat' (first | with_reducible exact Below.refl _ _ | with_reducible assumption | with_reducible apply below_drewN | with_reducible apply Below.drew | with_reducible refine Below.setCell ?_ ?_ _ | with_reducible refine Below.alloc ?_ ?_ _ | omega | (simp; done) | (simp; omega))⟩
              rw [decide_eq_false]
              · rfl
              · intro e'
                have h1 := HT.out
                have h2 := HU.out
                rw [e', h2] at h1
                have h3 := List.append_inj_right' h1 rfl
                simp at h3
                omega
        · obtain rfl : j = n := by omega
          have HD := Lib.hid hd
          clear hd
          go_wp2_with fail
          go_ret
          refine ⟨?_, by repeat' (first | with_reducible exact Below.refl _ _ | with_reducible assumption | with_reducible apply below_drewN | with_reducible apply Below.drew | with_reducible refine Below.setCell ?_ ?_ _ | with_reducible refine Below.alloc ?_ ?_ _ | omega | (simp; done) | (simp; omega))⟩
          have := HD.out
          rw [HN.out, List.take_length, ← HN.out, HMM.out, List.take_length] at this
          subst this
          simp
    · go_wp2_with fail
      go_ret
      refine ⟨?_, by repeat' (first | with_reducible exact Below.refl _ _ | with_reducible assumption | with_reducible apply below_drewN | with_reducible apply Below.drew | with_reducible refine Below.setCell ?_ ?_ _ | with_reducible refine Below.alloc ?_ ?_ _ | omega | (simp; done) | (simp; omega))⟩
      rw [decide_eq_false]
      · rfl
      · intro e
        rw [HN.out, HMM.out, e] at hnm
        exact hnm rfl

end Go.Proofs.Ytikkfkoaipenbaa
