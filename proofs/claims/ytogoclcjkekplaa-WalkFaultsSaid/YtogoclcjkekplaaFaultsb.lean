/- Contracts of walk.right, walk.FaultOf. -/
import Derived.Test.YtogoclcjkekplaaFaults
import Derived.Test.YtogoclcjkekplaaOwn
namespace Go.Proofs.Ytogoclcjkekplaa
open Go.RowKit

theorem right_any' (k l : Int) (b : Bool) (w : World) : Calls Try.prog 50 #[.agg #[.int .i64 k, .int .i64 l, .bool b]] w (RetB (.bool (rightF ⟨k, l, b⟩)) w) := by
  have HR : Hid (rightF ⟨k, l, b⟩ = if k = 1 ∨ k = 2 then decide (l = 0) else decide (0 < l)) := Lib.hid rfl
  rw [HR.out]
  by_cases h1 : k = 1
  · rw [if_pos (.inl h1)]
    subst h1
    go_enter Try.func50, Try.ntmps50
    go_wp2_with fail
    go_ret
    exact ⟨by first | rfl | (congr 2; simp [beq_eq_decide]), by repeat' (first | with_reducible exact Below.refl _ _ | with_reducible assumption | with_reducible apply below_drewN | with_reducible apply Below.drew | with_reducible refine Below.setCell ?_ ?_ _ | with_reducible refine Below.alloc ?_ ?_ _ | omega | (simp; done) | (simp; omega))⟩
  · by_cases h2 : k = 2
    · rw [if_pos (.inr h2)]
      subst h2
      go_enter Try.func50, Try.ntmps50
      go_wp2_with fail
      go_ret
      exact ⟨by first | rfl | (congr 2; simp [beq_eq_decide]), by repeat' (first | with_reducible exact Below.refl _ _ | with_reducible assumption | with_reducible apply below_drewN | with_reducible apply Below.drew | with_reducible refine Below.setCell ?_ ?_ _ | with_reducible refine Below.alloc ?_ ?_ _ | omega | (simp; done) | (simp; omega))⟩
    · rw [if_neg (by omega)]
      have e1 : (k == 1) = false := by simpa using h1
      have e2 : (k == 2) = false := by simpa using h2
      go_enter Try.func50, Try.ntmps50
      go_wp2_with fail
      go_ret
      exact ⟨by first | rfl | (congr 2; simp [beq_eq_decide]), by repeat' (first | with_reducible exact Below.refl _ _ | with_reducible assumption | with_reducible apply below_drewN | with_reducible apply Below.drew | with_reducible refine Below.setCell ?_ ?_ _ | with_reducible refine Below.alloc ?_ ?_ _ | omega | (simp; done) | (simp; omega))⟩

theorem cnd_at (K Lv j : Nat) (h1 : 1 ≤ K) (h2 : Lv < 3) (h3 : j < 2) : cnd ((K - 1) * 6 + Lv * 2 + j) = ⟨(K : Nat), (Lv : Nat), decide (j = 1)⟩ := by
  unfold cnd
  have e1 : ((K - 1) * 6 + Lv * 2 + j) / 6 = K - 1 := by omega
  have e2 : ((K - 1) * 6 + Lv * 2 + j) % 6 / 2 = Lv := by omega
  have e3 : ((K - 1) * 6 + Lv * 2 + j) % 2 = j % 2 := by omega
  rw [e1, e2, e3]
  have e4 : (((K - 1 : Nat) : Int) + 1) = (K : Nat) := by omega
  rw [e4]
  have e5 : (j % 2 = 1) = (j = 1) := by
    apply propext
    omega
  simp only [e5]

set_option maxRecDepth 100000 in
set_option maxHeartbeats 8000000 in
theorem faultOf_any (x : Int) (w : World) : Calls Try.prog 29 #[.int .u64 x] w (RetB (.tuple #[faultV (foF x).1, .bool (foF x).2]) w) := by
  have HF : Hid (∀ p, p < 30 → matchB x p = true → (∀ q, q < p → matchB x q = false) → foF x = (cnd p, true)) := Lib.hid fun p h1 h2 h3 => fo_some h1 h2 h3
  have HN : Hid ((∀ q, q < 30 → matchB x q = false) → foF x = (Fa.zero, false)) := Lib.hid fo_none
  go_enter Try.func29, Try.ntmps29
  go_wp2_with fail
  go_loopw [4] (fun i wr => ∃ K : Nat, i = .int .i64 (K : Nat) ∧ 1 ≤ K ∧ K ≤ 6 ∧ (∀ q, q < (K - 1) * 6 → matchB x q = false) ∧ Below w.heap.size w wr ∧ wr.heap[w.heap.size]? = some (.cells #[.int .i64 0, .int .i64 0, .bool false] 36)) (fun i _ => 6 - (intOf i).toNat)
  case atStart => exact ⟨1, rfl, by omega, by omega, fun q h => by omega, by repeat' (first | with_reducible exact Below.refl _ _ | with_reducible assumption | with_reducible apply below_drewN | with_reducible apply Below.drew | with_reducible refine Below.setCell ?_ ?_ _ | with_reducible refine Below.alloc ?_ ?_ _ | omega | (simp; done) | (simp; omega)), by (repeat (first | assumption | (refine heap_new _ _ _ ?_; simp; done) | refine heap_old _ _ _ _ ?_))⟩
  case round =>
    obtain ⟨K, rfl, hK1, hK2, hno, hB, h2⟩ := hrel
    have HNO := Lib.hid hno
    clear hno
    by_cases hk : K ≤ 5
    · have hk' : decide (((K : Nat) : Int) ≤ 5) = true := decide_eq_true (by omega)
      go_wp2_with fail
      try rw [hk']
      go_loopw [13] (fun i V => ∃ Lv : Nat, i = .int .i64 (Lv : Nat) ∧ Lv ≤ 3 ∧ (∀ q, q < (K - 1) * 6 + Lv * 2 → matchB x q = false) ∧ Below w.heap.size w V ∧ V.heap[w.heap.size]? = some (.cells #[.int .i64 0, .int .i64 0, .bool false] 36)) (fun i _ => 3 - (intOf i).toNat)
      case atStart => exact ⟨0, rfl, by omega, HNO.out, hB, h2⟩
      case round =>
        clear hB h2 HNO
        obtain ⟨Lv, rfl, hL, hno, hB, h2⟩ := hrel
        have HNO := Lib.hid hno
        clear hno
        have hBs := hB.size
        have hlt2 := (Array.getElem?_eq_some_iff.1 h2).1
        by_cases hlv : Lv < 3
        · have hlv' : decide (((Lv : Nat) : Int) < 3) = true := decide_eq_true (by omega)
          go_wp2_with fail
          try rw [hlv']
          obtain ⟨B, hBe⟩ : ∃ B, B = wr.heap.size := ⟨_, rfl⟩
          have hBl : w.heap.size < B := by omega
          go_loopw [18] (fun i V => ∃ j : Nat, i = .int .i64 (j : Nat) ∧ j ≤ 2 ∧ (∀ q, q < (K - 1) * 6 + Lv * 2 + j → matchB x q = false) ∧ Below w.heap.size w V ∧ V.heap[w.heap.size]? = some (.cells #[.int .i64 0, .int .i64 0, .bool false] 36) ∧ V.heap[B]? = some (.cells #[.bool false, .bool true] 4)) (fun i _ => 2 - (intOf i).toNat)
          case atStart => exact ⟨0, rfl, by omega, HNO.out, by repeat' (first | with_reducible exact Below.refl _ _ | with_reducible assumption | with_reducible apply below_drewN | with_reducible apply Below.drew | with_reducible refine Below.setCell ?_ ?_ _ | with_reducible refine Below.alloc ?_ ?_ _ | omega | (simp; done) | (simp; omega)), heap_old _ _ _ _ h2, heap_new _ _ _ hBe⟩
          case round =>
            clear hB h2 HNO hBs hlt2
            obtain ⟨j, rfl, hj, hno, hB, h2, hbb⟩ := hrel
            have HNO := Lib.hid hno
            have hBs := hB.size
            have H2 := Lib.hid h2
            have HBB := Lib.hid hbb
            obtain ⟨cb, fb, lb, nb⟩ := block_cells hbb
            have b0 := cb 0 _ rfl
            have b1 := cb 1 _ rfl
            obtain ⟨c2, f2, l2, n2⟩ := block_cells h2
            have d0 := c2 0 _ rfl
            have d1 := c2 1 _ rfl
            have d2 := c2 2 _ rfl
            clear hno h2 hbb cb c2
            subst hBe
            by_cases hj2 : j < 2
            · have HC := Lib.hid (cnd_at K Lv j hK1 hlv hj2)
              have HP : Hid ((K - 1) * 6 + Lv * 2 + j < 30) := Lib.hid (by omega)
              rcases (show j = 0 ∨ j = 1 by omega) with rfl | rfl
              · cases hr : rightF ⟨(K : Nat), (Lv : Nat), false⟩
                · have HM : Hid (∀ q, q < (K - 1) * 6 + Lv * 2 + (0 + 1) → matchB x q = false) := Lib.hid fun q h => by
                    rcases Nat.lt_or_ge q ((K - 1) * 6 + Lv * 2 + 0) with h' | h'
                    · exact HNO.out q h'
                    · obtain rfl : q = (K - 1) * 6 + Lv * 2 + 0 := by omega
                      unfold matchB
                      rw [HC.out, show rightF ⟨(K : Nat), (Lv : Nat), decide (0 = 1)⟩ = false from hr]
                      rfl
                  have HR := Lib.hid hr
                  clear hr
                  go_wp2_with (go_at_call 50; refine (right_any' _ _ _ _).mono ?_; rw [HR.out]; rintro e w3 ⟨rfl, hb⟩; have BW : Below wr.heap.size wr w3 := Below.trans (by repeat' (first | with_reducible exact Below.refl _ _ | with_reducible assumption | with_reducible apply below_drewN | with_reducible apply Below.drew | with_reducible refine Below.setCell ?_ ?_ _ | with_reducible refine Below.alloc ?_ ?_ _ | omega | (simp; done) | (simp; omega))) (hb.mono (by first | omega | (simp; done) | (simp; omega))); have BWs := BW.size; clear hb)
                  go_roundw
                  case rel => exact ⟨0 + 1, by go_num, by omega, HM.out, hB.trans (BW.mono hBs), (BW.block _ (by omega)).trans H2.out, (BW.block _ (by omega)).trans HBB.out⟩
                  case measure => first | (simp [intOf]; done) | (simp [intOf]; omega)
                · have HR := Lib.hid hr
                  by_cases hs : synZ ⟨(K : Nat), (Lv : Nat), false⟩ = x
                  · have HFO : Hid (foF x = (⟨(K : Nat), (Lv : Nat), false⟩, true)) := Lib.hid (by
                      have := HF.out ((K - 1) * 6 + Lv * 2 + 0) HP.out (by
                        unfold matchB
                        rw [HC.out, show rightF ⟨(K : Nat), (Lv : Nat), decide (0 = 1)⟩ = true from hr]
                        simp only [Bool.true_and, beq_iff_eq]
                        exact hs) HNO.out
                      rw [HC.out] at this
                      exact this)
                    have HSY := Lib.hid hs
                    clear hr hs
                    go_wp2_with (first | (go_at_call 50; refine (right_any' _ _ _ _).mono ?_; rw [HR.out]; rintro e w3 ⟨rfl, hb⟩; have BW : Below wr.heap.size wr w3 := Below.trans (by repeat' (first | with_reducible exact Below.refl _ _ | with_reducible assumption | with_reducible apply below_drewN | with_reducible apply Below.drew | with_reducible refine Below.setCell ?_ ?_ _ | with_reducible refine Below.alloc ?_ ?_ _ | omega | (simp; done) | (simp; omega))) (hb.mono (by first | omega | (simp; done) | (simp; omega))); have BWs := BW.size; obtain ⟨k1, k2, k3, k4⟩ := keepB hb wr.heap.size (by first | omega | (simp; done) | (simp; omega)); clear hb) | (go_at_call 27; refine (syn_any _ _ _ _).mono ?_; rw [HSY.out]; rintro e w4 ⟨rfl, hb⟩; have BX : Below wr.heap.size wr w4 := Below.trans (by repeat' (first | with_reducible exact Below.refl _ _ | with_reducible assumption | with_reducible apply below_drewN | with_reducible apply Below.drew | with_reducible refine Below.setCell ?_ ?_ _ | with_reducible refine Below.alloc ?_ ?_ _ | omega | (simp; done) | (simp; omega))) (hb.mono (by first | omega | (simp; done) | (simp; omega))); have BXs := BX.size; obtain ⟨m1, m2, m3, m4⟩ := keepB hb wr.heap.size k3; obtain ⟨n1, n2, n3, n4⟩ := keepB BX w.heap.size l2; clear hb))
                    refine bodyPost_ret (v := .tuple #[faultV ⟨(K : Nat), (Lv : Nat), false⟩, .bool true]) (by simp [results, Try.results29, go_sem, faultV, *]) rfl ⟨by rw [HFO.out], ?_⟩
                    exact (((hB.trans (BX.mono hBs)).setCell (Nat.le_refl _) _).setCell (Nat.le_refl _) _).setCell (Nat.le_refl _) _
                  · have HM : Hid (∀ q, q < (K - 1) * 6 + Lv * 2 + (0 + 1) → matchB x q = false) := Lib.hid fun q h => by
                      rcases Nat.lt_or_ge q ((K - 1) * 6 + Lv * 2 + 0) with h' | h'
                      · exact HNO.out q h'
                      · obtain rfl : q = (K - 1) * 6 + Lv * 2 + 0 := by omega
                        unfold matchB
                        rw [HC.out, Bool.and_eq_false_iff]
                        right
                        rw [beq_eq_false_iff_ne]
                        exact hs
                    have hsd : (synZ ⟨(K : Nat), (Lv : Nat), false⟩ == x) = false := by simpa using hs
                    clear hr hs
                    obtain ⟨sy, hsy⟩ : ∃ sy, sy = synZ ⟨(K : Nat), (Lv : Nat), false⟩ := ⟨_, rfl⟩
                    have HSY := Lib.hid hsy
                    rw [← hsy] at hsd
                    clear hsy
                    go_wp2_with (first | (go_at_call 50; refine (right_any' _ _ _ _).mono ?_; rw [HR.out]; rintro e w3 ⟨rfl, hb⟩; have BW : Below wr.heap.size wr w3 := Below.trans (by repeat' (first | with_reducible exact Below.refl _ _ | with_reducible assumption | with_reducible apply below_drewN | with_reducible apply Below.drew | with_reducible refine Below.setCell ?_ ?_ _ | with_reducible refine Below.alloc ?_ ?_ _ | omega | (simp; done) | (simp; omega))) (hb.mono (by first | omega | (simp; done) | (simp; omega))); have BWs := BW.size; obtain ⟨k1, k2, k3, k4⟩ := keepB hb wr.heap.size (by first | omega | (simp; done) | (simp; omega)); clear hb) | (go_at_call 27; refine (syn_any _ _ _ _).mono ?_; rw [← HSY.out]; rintro e w4 ⟨rfl, hb⟩; have BX : Below wr.heap.size wr w4 := Below.trans (by repeat' (first | with_reducible exact Below.refl _ _ | with_reducible assumption | with_reducible apply below_drewN | with_reducible apply Below.drew | with_reducible refine Below.setCell ?_ ?_ _ | with_reducible refine Below.alloc ?_ ?_ _ | omega | (simp; done) | (simp; omega))) (hb.mono (by first | omega | (simp; done) | (simp; omega))); have BXs := BX.size; clear hb))
                    go_roundw
                    case rel => exact ⟨0 + 1, by go_num, by omega, HM.out, hB.trans (BX.mono hBs), (BX.block _ (by omega)).trans H2.out, (BX.block _ (by omega)).trans HBB.out⟩
                    case measure => first | (simp [intOf]; done) | (simp [intOf]; omega)
              · cases hr : rightF ⟨(K : Nat), (Lv : Nat), true⟩
                · have HM : Hid (∀ q, q < (K - 1) * 6 + Lv * 2 + (1 + 1) → matchB x q = false) := Lib.hid fun q h => by
                    rcases Nat.lt_or_ge q ((K - 1) * 6 + Lv * 2 + 1) with h' | h'
                    · exact HNO.out q h'
                    · obtain rfl : q = (K - 1) * 6 + Lv * 2 + 1 := by omega
                      unfold matchB
                      rw [HC.out, show rightF ⟨(K : Nat), (Lv : Nat), decide (1 = 1)⟩ = false from hr]
                      rfl
                  have HR := Lib.hid hr
                  clear hr
                  go_wp2_with (go_at_call 50; refine (right_any' _ _ _ _).mono ?_; rw [HR.out]; rintro e w3 ⟨rfl, hb⟩; have BW : Below wr.heap.size wr w3 := Below.trans (by repeat' (first | with_reducible exact Below.refl _ _ | with_reducible assumption | with_reducible apply below_drewN | with_reducible apply Below.drew | with_reducible refine Below.setCell ?_ ?_ _ | with_reducible refine Below.alloc ?_ ?_ _ | omega | (simp; done) | (simp; omega))) (hb.mono (by first | omega | (simp; done) | (simp; omega))); have BWs := BW.size; clear hb)
                  go_roundw
                  case rel => exact ⟨1 + 1, by go_num, by omega, HM.out, hB.trans (BW.mono hBs), (BW.block _ (by omega)).trans H2.out, (BW.block _ (by omega)).trans HBB.out⟩
                  case measure => first | (simp [intOf]; done) | (simp [intOf]; omega)
                · have HR := Lib.hid hr
                  by_cases hs : synZ ⟨(K : Nat), (Lv : Nat), true⟩ = x
                  · have HFO : Hid (foF x = (⟨(K : Nat), (Lv : Nat), true⟩, true)) := Lib.hid (by
                      have := HF.out ((K - 1) * 6 + Lv * 2 + 1) HP.out (by
                        unfold matchB
                        rw [HC.out, show rightF ⟨(K : Nat), (Lv : Nat), decide (1 = 1)⟩ = true from hr]
                        simp only [Bool.true_and, beq_iff_eq]
                        exact hs) HNO.out
                      rw [HC.out] at this
                      exact this)
                    have HSY := Lib.hid hs
                    clear hr hs
                    go_wp2_with (first | (go_at_call 50; refine (right_any' _ _ _ _).mono ?_; rw [HR.out]; rintro e w3 ⟨rfl, hb⟩; have BW : Below wr.heap.size wr w3 := Below.trans (by repeat' (first | with_reducible exact Below.refl _ _ | with_reducible assumption | with_reducible apply below_drewN | with_reducible apply Below.drew | with_reducible refine Below.setCell ?_ ?_ _ | with_reducible refine Below.alloc ?_ ?_ _ | omega | (simp; done) | (simp; omega))) (hb.mono (by first | omega | (simp; done) | (simp; omega))); have BWs := BW.size; obtain ⟨k1, k2, k3, k4⟩ := keepB hb wr.heap.size (by first | omega | (simp; done) | (simp; omega)); clear hb) | (go_at_call 27; refine (syn_any _ _ _ _).mono ?_; rw [HSY.out]; rintro e w4 ⟨rfl, hb⟩; have BX : Below wr.heap.size wr w4 := Below.trans (by repeat' (first | with_reducible exact Below.refl _ _ | with_reducible assumption | with_reducible apply below_drewN | with_reducible apply Below.drew | with_reducible refine Below.setCell ?_ ?_ _ | with_reducible refine Below.alloc ?_ ?_ _ | omega | (simp; done) | (simp; omega))) (hb.mono (by first | omega | (simp; done) | (simp; omega))); have BXs := BX.size; obtain ⟨m1, m2, m3, m4⟩ := keepB hb wr.heap.size k3; obtain ⟨n1, n2, n3, n4⟩ := keepB BX w.heap.size l2; clear hb))
                    refine bodyPost_ret (v := .tuple #[faultV ⟨(K : Nat), (Lv : Nat), true⟩, .bool true]) (by simp [results, Try.results29, go_sem, faultV, *]) rfl ⟨by rw [HFO.out], ?_⟩
                    exact (((hB.trans (BX.mono hBs)).setCell (Nat.le_refl _) _).setCell (Nat.le_refl _) _).setCell (Nat.le_refl _) _
                  · have HM : Hid (∀ q, q < (K - 1) * 6 + Lv * 2 + (1 + 1) → matchB x q = false) := Lib.hid fun q h => by
                      rcases Nat.lt_or_ge q ((K - 1) * 6 + Lv * 2 + 1) with h' | h'
                      · exact HNO.out q h'
                      · obtain rfl : q = (K - 1) * 6 + Lv * 2 + 1 := by omega
                        unfold matchB
                        rw [HC.out, Bool.and_eq_false_iff]
                        right
                        rw [beq_eq_false_iff_ne]
                        exact hs
                    have hsd : (synZ ⟨(K : Nat), (Lv : Nat), true⟩ == x) = false := by simpa using hs
                    clear hr hs
                    obtain ⟨sy, hsy⟩ : ∃ sy, sy = synZ ⟨(K : Nat), (Lv : Nat), true⟩ := ⟨_, rfl⟩
                    have HSY := Lib.hid hsy
                    rw [← hsy] at hsd
                    clear hsy
                    go_wp2_with (first | (go_at_call 50; refine (right_any' _ _ _ _).mono ?_; rw [HR.out]; rintro e w3 ⟨rfl, hb⟩; have BW : Below wr.heap.size wr w3 := Below.trans (by repeat' (first | with_reducible exact Below.refl _ _ | with_reducible assumption | with_reducible apply below_drewN | with_reducible apply Below.drew | with_reducible refine Below.setCell ?_ ?_ _ | with_reducible refine Below.alloc ?_ ?_ _ | omega | (simp; done) | (simp; omega))) (hb.mono (by first | omega | (simp; done) | (simp; omega))); have BWs := BW.size; obtain ⟨k1, k2, k3, k4⟩ := keepB hb wr.heap.size (by first | omega | (simp; done) | (simp; omega)); clear hb) | (go_at_call 27; refine (syn_any _ _ _ _).mono ?_; rw [← HSY.out]; rintro e w4 ⟨rfl, hb⟩; have BX : Below wr.heap.size wr w4 := Below.trans (by repeat' (first | with_reducible exact Below.refl _ _ | with_reducible assumption | with_reducible apply below_drewN | with_reducible apply Below.drew | with_reducible refine Below.setCell ?_ ?_ _ | with_reducible refine Below.alloc ?_ ?_ _ | omega | (simp; done) | (simp; omega))) (hb.mono (by first | omega | (simp; done) | (simp; omega))); have BXs := BX.size; clear hb))
                    go_roundw
                    case rel => exact ⟨1 + 1, by go_num, by omega, HM.out, hB.trans (BX.mono hBs), (BX.block _ (by omega)).trans H2.out, (BX.block _ (by omega)).trans HBB.out⟩
                    case measure => first | (simp [intOf]; done) | (simp [intOf]; omega)
            · obtain rfl : j = 2 := by omega
              have HNN : Hid (∀ q, q < (K - 1) * 6 + (Lv + 1) * 2 → matchB x q = false) := Lib.hid fun q h => HNO.out q (by omega)
              go_wp2_with fail
              go_roundw
              case rel => exact ⟨Lv + 1, by go_num, by omega, HNN.out, hB, H2.out⟩
              case measure => first | (simp [intOf]; done) | (simp [intOf]; omega)
        · obtain rfl : Lv = 3 := by omega
          have HNN : Hid (∀ q, q < (K + 1 - 1) * 6 → matchB x q = false) := Lib.hid fun q h => HNO.out q (by omega)
          go_wp2_with fail
          go_roundw
          case rel => exact ⟨K + 1, by go_num, by omega, by omega, HNN.out, hB, h2⟩
          case measure => first | (simp [intOf]; done) | (simp [intOf]; omega)
    · obtain rfl : K = 6 := by omega
      have HZ := Lib.hid (HN.out fun q h => HNO.out q (by omega))
      obtain ⟨c2, f2, l2, n2⟩ := block_cells h2
      have d0 := c2 0 _ rfl
      have d1 := c2 1 _ rfl
      have d2 := c2 2 _ rfl
      clear c2 h2
      go_wp2_with fail
      refine bodyPost_ret (v := .tuple #[faultV Fa.zero, .bool false]) (by simp [results, Try.results29, go_sem, faultV, Fa.zero, *]) rfl ⟨by rw [HZ.out], ?_⟩
      repeat' (first | with_reducible exact Below.refl _ _ | with_reducible assumption | with_reducible apply below_drewN | with_reducible apply Below.drew | with_reducible refine Below.setCell ?_ ?_ _ | with_reducible refine Below.alloc ?_ ?_ _ | omega | (simp; done) | (simp; omega))

end Go.Proofs.Ytogoclcjkekplaa
