/- Contract of Buffer.Single. -/
import Derived.Test.YtcaggboeacgknaaMeet
import Derived.Test.YtcaggboeacgknaaBuf
import Derived.Test.YtcaggboeacgknaaFilt
namespace Go.Proofs.Ytcaggboeacgknaa
open Go.RowKit
set_option linter.unusedSimpArgs false
set_option linter.unusedVariables false

theorem row_cap {w : World} {base g n cap : Nat} {L : List E} (h : RowE w base (.slice (some ⟨g, 0, none⟩) n cap) L) : n ≤ cap ∧ cap ≤ maxLen := by
  unfold RowE at h
  rcases h.2 with ⟨hv, _⟩ | ⟨g', cap', cur, hv, _, _, hn, hm, _⟩
  · cases hv
  · simp only [Value.slice.injEq, Option.some.injEq, Addr.mk.injEq, and_true, true_and] at hv
    obtain ⟨rfl, rfl, rfl⟩ := hv
    exact ⟨hn, hm⟩

set_option maxRecDepth 100000 in
set_option maxHeartbeats 8000000 in
theorem bsingle_some (g cap : Nat) (L : List E) (R : Bool) (w : World) (hg : g < w.heap.size) (hF : ∀ (j : Nat) u, (flatE L)[j]? = some u → w.cell? ⟨g, j, none⟩ = some u) (hcap : L.length ≤ cap) (hcm : cap ≤ maxLen)
    (hok : ∀ x ∈ L, x.ok) (hlen : L.length ≤ 1000) (hR : R = true ↔ SingleP L) : Calls Try.prog 25 #[bufV (.slice (some ⟨g, 0, none⟩) L.length cap)] w (RetB (.bool R) w) := by
  have HL : Hid (∀ (j : Nat) (hj : j < L.length), w.cell? ⟨g, j * 4, none⟩ = some (.int .i64 L[j].space) ∧ w.cell? ⟨g, j * 4 + 1, none⟩ = some (.int .u64 L[j].page) ∧ w.cell? ⟨g, j * 4 + 2, none⟩ = some (.int .u64 L[j].first) ∧ w.cell? ⟨g, j * 4 + 3, none⟩ = some (.int .u64 L[j].last)) := Lib.hid (rowcells hF)
  have HOK := Lib.hid hok
  have HR := Lib.hid hR
  simp only [bufV]
  obtain ⟨n, hn⟩ : ∃ n, n = L.length := ⟨_, rfl⟩
  have HN := Lib.hid hn
  rw [← hn] at hlen hcap ⊢
  unfold maxLen at hcm
  clear hn hF hok hR
  go_enter Try.func25, Try.ntmps25
  go_wp2_with fail
  obtain ⟨X, hX⟩ : ∃ X, X = w.alloc (.cells #[.slice (some ⟨g, 0, none⟩) n cap] 42) := ⟨_, rfl⟩
  have BX : Below w.heap.size w X := by rw [hX]; repeat' (first | with_reducible exact Below.refl _ _ | with_reducible assumption | with_reducible apply below_drewN | with_reducible apply Below.drew | with_reducible refine Below.setCell ?_ ?_ _ | with_reducible refine Below.alloc ?_ ?_ _ | omega | (simp; done) | (simp; omega))
  have hsX : X.heap.size = w.heap.size + 1 := by rw [hX]; simp
  have hb1 : X.heap[w.heap.size]? = some (.cells #[.slice (some ⟨g, 0, none⟩) n cap] 42) := by rw [hX]; (repeat (first | assumption | (refine heap_new _ _ _ ?_; simp; done) | refine heap_old _ _ _ _ ?_))
  rw [← hX]
  clear hX
  have HBB : Hid (∀ W, Below X.heap.size X W → W.heap[w.heap.size]? = some (.cells #[.slice (some ⟨g, 0, none⟩) n cap] 42)) := Lib.hid fun W h => (h.block w.heap.size (by omega)).trans hb1
  have HCE : Hid (∀ W, Below X.heap.size X W → ∀ (j : Nat) (hj : j < L.length), W.cell? ⟨g, j * 4, none⟩ = some (.int .i64 L[j].space) ∧ W.cell? ⟨g, j * 4 + 1, none⟩ = some (.int .u64 L[j].page) ∧ W.cell? ⟨g, j * 4 + 2, none⟩ = some (.int .u64 L[j].first) ∧ W.cell? ⟨g, j * 4 + 3, none⟩ = some (.int .u64 L[j].last)) := Lib.hid fun W h j hj => by
    obtain ⟨e0, e1, e2, e3⟩ := HL.out j hj
    have hB := BX.trans (h.mono BX.size)
    exact ⟨(hB.cell (p := ⟨g, j * 4, none⟩) hg).trans e0, (hB.cell (p := ⟨g, j * 4 + 1, none⟩) hg).trans e1, (hB.cell (p := ⟨g, j * 4 + 2, none⟩) hg).trans e2, (hB.cell (p := ⟨g, j * 4 + 3, none⟩) hg).trans e3⟩
  have hgX : g < X.heap.size := by omega
  clear hb1 HL
  go_loopw [10] (fun i V => ∃ a : Nat, a ≤ n ∧ i = .int .i64 (a : Nat) ∧ (∀ (i j : Nat) (hj : j < i) (hi : i < L.length), i < a → meetB L[i] L[j] = false) ∧ Below X.heap.size X V) (fun i _ => (n - (intOf i)).toNat)
  case atStart => exact ⟨0, by omega, rfl, fun _ _ _ _ h => by omega, Below.refl _ _⟩
  case round =>
    obtain ⟨a, ha, rfl, hall, hB⟩ := hrel
    have hBs := hB.size
    have HA := Lib.hid hall
    clear hall
    obtain ⟨wo, rfl⟩ : ∃ wo, wo = wr := ⟨_, rfl⟩
    by_cases han : a < n
    · have hal : a < L.length := by have := HN.out; omega
      obtain ⟨g0, g1, g2, g3⟩ := HCE.out _ hB a hal
      have hxo := HOK.out _ (List.getElem_mem hal)
      obtain ⟨c1, f1, l1, n1⟩ := block_cells (HBB.out _ hB)
      have b0 := c1 0 _ rfl
      have hgV : g < wo.heap.size := by omega
      have hgV2 : g ≠ wo.heap.size := by omega
      have hac : a ≤ cap := by omega
      have hac2 : (a : Int) ≤ (cap : Int) := by omega
      obtain ⟨x, hx⟩ : ∃ x, x = L[a]'hal := ⟨_, rfl⟩
      have HX := Lib.hid hx
      rw [← hx] at g0 g1 g2 g3 hxo
      have HXO := Lib.hid hxo
      obtain ⟨xs, xp, xf, xl⟩ := x
      simp only at g0 g1 g2 g3
      clear hx hxo c1 f1
      go_wp2_with fail
      obtain ⟨Y, hY⟩ : ∃ Y, Y = wo.alloc (.cells #[.int .i64 xs, .int .u64 xp, .int .u64 xf, .int .u64 xl] 27) := ⟨_, rfl⟩
      have BY : Below wo.heap.size wo Y := by rw [hY]; repeat' (first | with_reducible exact Below.refl _ _ | with_reducible assumption | with_reducible apply below_drewN | with_reducible apply Below.drew | with_reducible refine Below.setCell ?_ ?_ _ | with_reducible refine Below.alloc ?_ ?_ _ | omega | (simp; done) | (simp; omega))
      have hsY : Y.heap.size = wo.heap.size + 1 := by rw [hY]; simp
      have hb2 : Y.heap[wo.heap.size]? = some (.cells #[.int .i64 xs, .int .u64 xp, .int .u64 xf, .int .u64 xl] 27) := by rw [hY]; (repeat (first | assumption | (refine heap_new _ _ _ ?_; simp; done) | refine heap_old _ _ _ _ ?_))
      try rw [← hY]
      clear hY
      have BXY : Below X.heap.size X Y := hB.trans (BY.mono hBs)
      have HYB : Hid (∀ W, Below Y.heap.size Y W → W.heap[wo.heap.size]? = some (.cells #[.int .i64 xs, .int .u64 xp, .int .u64 xf, .int .u64 xl] 27)) := Lib.hid fun W h => (h.block wo.heap.size (by omega)).trans hb2
      clear hb2 g0 g1 g2 g3 b0 l1 n1
      go_loopw [20] (fun k V => ∃ b : Nat, b ≤ a ∧ k = .int .i64 (b : Nat) ∧ (∀ (j : Nat) (hj : j < a), j < b → meetB ⟨xs, xp, xf, xl⟩ L[j] = false) ∧ Below Y.heap.size Y V) (fun k _ => (a - (intOf k)).toNat)
      case atStart => exact ⟨0, by omega, rfl, fun _ _ h => by omega, Below.refl _ _⟩
      case round =>
        obtain ⟨b, hba', rfl, hin, hC⟩ := hrel
        have hCs := hC.size
        have HI := Lib.hid hin
        clear hin
        have hCX : Below X.heap.size X wr := BXY.trans (hC.mono BXY.size)
        have hCXs := hCX.size
        by_cases hba : b < a
        · have hbl : b < L.length := by omega
          obtain ⟨y0, y1, y2, y3⟩ := HCE.out _ hCX b hbl
          obtain ⟨c4, f4, l4, n4⟩ := block_cells (HYB.out _ hC)
          have d0 := c4 0 _ rfl
          have d1 := c4 1 _ rfl
          have d2 := c4 2 _ rfl
          have d3 := c4 3 _ rfl
          have hyo := HOK.out _ (List.getElem_mem hbl)
          have hgW : g < wr.heap.size := by omega
          have hgW2 : g ≠ wr.heap.size := by omega
          have HI2 : Hid (∀ (_ : meetB ⟨xs, xp, xf, xl⟩ (L[b]'hbl) = false) (j : Nat) (hj : j < a), j < b + 1 → meetB ⟨xs, xp, xf, xl⟩ L[j] = false) := Lib.hid fun hm j hj hj2 => by
            by_cases e : j = b
            · subst e; exact hm
            · exact HI.out j hj (by omega)
          have HF2 : Hid (meetB ⟨xs, xp, xf, xl⟩ (L[b]'hbl) = true → R = false) := Lib.hid fun hm => by
            rw [Bool.eq_false_iff, ne_eq, HR.out]
            intro hs
            have := hs a b hba hal
            rw [← HX.out, hm] at this
            cases this
          generalize L[b]'hbl = y at y0 y1 y2 y3 hyo HI2 HF2
          obtain ⟨ys, yp, yf, yl⟩ := y
          simp only at y0 y1 y2 y3
          have cM : Hid (∀ V, Calls Try.prog 53 #[.agg #[.int .i64 xs, .int .u64 xp, .int .u64 xf, .int .u64 xl], .agg #[.int .i64 ys, .int .u64 yp, .int .u64 yf, .int .u64 yl]] V (RetB (.bool (meetB ⟨xs, xp, xf, xl⟩ ⟨ys, yp, yf, yl⟩)) V)) := Lib.hid fun V => meet_any ⟨xs, xp, xf, xl⟩ ⟨ys, yp, yf, yl⟩ V HXO.out hyo
          clear hyo c4
          go_wp2_with fail
          refine (cM.out _).mono ?_
          cases hm : meetB ⟨xs, xp, xf, xl⟩ ⟨ys, yp, yf, yl⟩ with
          | true =>
            have HRF := Lib.hid (HF2.out hm)
            clear hm
            rintro e t1 ⟨rfl, hb⟩
            have D1 : Below X.heap.size X t1 := hCX.trans (Below.trans (by repeat' (first | with_reducible exact Below.refl _ _ | with_reducible assumption | with_reducible apply below_drewN | with_reducible apply Below.drew | with_reducible refine Below.setCell ?_ ?_ _ | with_reducible refine Below.alloc ?_ ?_ _ | omega | (simp; done) | (simp; omega))) (hb.mono (by first | omega | (simp; done) | (simp; omega))))
            clear hb
            go_wp2_with fail
            go_ret
            exact ⟨by rw [HRF.out]; rfl, BX.trans (D1.mono BX.size)⟩
          | false =>
            have HIN := Lib.hid (HI2.out hm)
            clear hm
            rintro e t1 ⟨rfl, hb⟩
            have D1 : Below Y.heap.size Y t1 := hC.trans (Below.mono (Below.trans (B := wr.heap.size) (by repeat' (first | with_reducible exact Below.refl _ _ | with_reducible assumption | with_reducible apply below_drewN | with_reducible apply Below.drew | with_reducible refine Below.setCell ?_ ?_ _ | with_reducible refine Below.alloc ?_ ?_ _ | omega | (simp; done) | (simp; omega))) (hb.mono (by first | omega | (simp; done) | (simp; omega)))) hCs)
            clear hb
            go_wp2_with fail
            go_roundw
            case rel => exact ⟨b + 1, by omega, by go_num, fun j hj hj2 => HIN.out j hj hj2, D1⟩
            case measure => first | (simp [intOf]; done) | (simp [intOf]; omega)
        · obtain rfl : b = a := by omega
          have HA2 : Hid (∀ (i j : Nat) (hj : j < i) (hi : i < L.length), i < b + 1 → meetB L[i] L[j] = false) := Lib.hid fun i j hj hi h => by
            by_cases e : i = b
            · subst e
              have := HI.out j hj hj
              rw [HX.out] at this
              exact this
            · exact HA.out i j hj hi (by omega)
          go_wp2_with fail
          go_roundw
          case rel => exact ⟨b + 1, by omega, by go_num, HA2.out, hCX⟩
          case measure => first | (simp [intOf]; done) | (simp [intOf]; omega)
    · obtain rfl : a = n := by omega
      have HT : Hid (R = true) := Lib.hid (HR.out.2 fun i j hj hi => HA.out i j hj hi (by rw [HN.out]; exact hi))
      go_wp2_with fail
      go_ret
      exact ⟨by rw [HT.out]; rfl, BX.trans (hB.mono BX.size)⟩

theorem bsingle_nil (R : Bool) (w : World) (hR : R = true ↔ SingleP []) : Calls Try.prog 25 #[bufV (.slice none 0 0)] w (RetB (.bool R) w) := by
  have HR : Hid (R = true) := Lib.hid (hR.2 fun i j hj hi => by simp at hi)
  clear hR
  simp only [bufV]
  go_enter Try.func25, Try.ntmps25
  go_wp2_with fail
  go_loopw [10] (fun i V => i = .int .i64 0 ∧ Below w.heap.size w V) (fun _ _ => 0)
  case atStart => exact ⟨rfl, by repeat' (first | with_reducible exact Below.refl _ _ | with_reducible assumption | with_reducible apply below_drewN | with_reducible apply Below.drew | with_reducible refine Below.setCell ?_ ?_ _ | with_reducible refine Below.alloc ?_ ?_ _ | omega | (simp; done) | (simp; omega))⟩
  case round =>
    obtain ⟨rfl, hB⟩ := hrel
    go_wp2_with fail
    go_ret
    exact ⟨by rw [HR.out]; rfl, hB⟩

theorem bsingle_any (base : Nat) (v : Value) (L : List E) (R : Bool) (w : World) (h : RowE w base v L) (hok : ∀ x ∈ L, x.ok) (hlen : L.length ≤ 1000) (hR : R = true ↔ SingleP L) :
    Calls Try.prog 25 #[bufV v] w (RetB (.bool R) w) := by
  rcases h.form with ⟨rfl, rfl⟩ | ⟨g, cap, rfl, hg, _⟩
  · exact bsingle_nil R w hR
  · obtain ⟨h1, h2⟩ := row_cap h
    exact bsingle_some g cap L R w hg h.flat h1 h2 hok hlen hR

end Go.Proofs.Ytcaggboeacgknaa
