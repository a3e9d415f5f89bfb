/- The reference's Same of entries. -/
import Derived.Test.YtcaggboeacgknaaSorts
namespace Go.Proofs.Ytcaggboeacgknaa
open Go.RowKit
set_option linter.unusedSimpArgs false
set_option linter.unusedVariables false

theorem rsame_len (ao ao' : Option Addr) (n n' c c' : Nat) (w : World) (h : n ≠ n') : Calls Try.prog 32 #[.slice ao n c, .slice ao' n' c'] w (RetB (.bool false) w) := by
  have h1 : ((n : Int) != (n' : Int)) = true := by simp; omega
  go_enter Try.func32, Try.ntmps32
  go_wp2_with fail
  go_ret
  exact ⟨rfl, by repeat' (first | with_reducible exact Below.refl _ _ | with_reducible assumption | with_reducible apply below_drewN | with_reducible apply Below.drew | with_reducible refine Below.setCell ?_ ?_ _ | with_reducible refine Below.alloc ?_ ?_ _ | omega | (simp; done) | (simp; omega))⟩
theorem rsame_zero (ao ao' : Option Addr) (c c' : Nat) (w : World) : Calls Try.prog 32 #[.slice ao 0 c, .slice ao' 0 c'] w (RetB (.bool true) w) := by
  go_enter Try.func32, Try.ntmps32
  go_wp2_with fail
  go_loopw [5] (fun i V => i = .int .i64 0 ∧ Below w.heap.size w V) (fun i _ => 0)
  case atStart => exact ⟨rfl, by repeat' (first | with_reducible exact Below.refl _ _ | with_reducible assumption | with_reducible apply below_drewN | with_reducible apply Below.drew | with_reducible refine Below.setCell ?_ ?_ _ | with_reducible refine Below.alloc ?_ ?_ _ | omega | (simp; done) | (simp; omega))⟩
  case round =>
    obtain ⟨rfl, hB⟩ := hrel
    go_wp2_with fail
    go_ret
    exact ⟨rfl, hB⟩
set_option maxRecDepth 100000 in
set_option maxHeartbeats 4000000 in
theorem rsame_some (g g' cap cap' : Nat) (L K : List E) (w : World) (hg : g < w.heap.size) (hg' : g' < w.heap.size) (hF : ∀ (j : Nat) u, (flatE L)[j]? = some u → w.cell? ⟨g, j, none⟩ = some u) (hF' : ∀ (j : Nat) u, (flatE K)[j]? = some u → w.cell? ⟨g', j, none⟩ = some u)
    (hlk : K.length = L.length) (hlen : L.length ≤ 1000) :
    Calls Try.prog 32 #[.slice (some ⟨g, 0, none⟩) L.length cap, .slice (some ⟨g', 0, none⟩) L.length cap'] w (RetB (.bool (decide (L = K))) w) := by
  have HL : Hid (∀ (j : Nat) (hj : j < L.length), w.cell? ⟨g, j * 4, none⟩ = some (.int .i64 L[j].space) ∧ w.cell? ⟨g, j * 4 + 1, none⟩ = some (.int .u64 L[j].page) ∧ w.cell? ⟨g, j * 4 + 2, none⟩ = some (.int .u64 L[j].first) ∧ w.cell? ⟨g, j * 4 + 3, none⟩ = some (.int .u64 L[j].last)) := Lib.hid (rowcells hF)
  have HK : Hid (∀ (j : Nat) (hj : j < K.length), w.cell? ⟨g', j * 4, none⟩ = some (.int .i64 K[j].space) ∧ w.cell? ⟨g', j * 4 + 1, none⟩ = some (.int .u64 K[j].page) ∧ w.cell? ⟨g', j * 4 + 2, none⟩ = some (.int .u64 K[j].first) ∧ w.cell? ⟨g', j * 4 + 3, none⟩ = some (.int .u64 K[j].last)) := Lib.hid (rowcells hF')
  have HLK := Lib.hid hlk
  obtain ⟨n, hn⟩ : ∃ n, n = L.length := ⟨_, rfl⟩
  have HN := Lib.hid hn
  rw [← hn] at hlen ⊢
  obtain ⟨R, hR⟩ : ∃ R, R = decide (L = K) := ⟨_, rfl⟩
  have HR := Lib.hid hR
  rw [← hR]
  clear hn hF hF' hlk hR
  go_enter Try.func32, Try.ntmps32
  go_wp2_with fail
  go_loopw [5] (fun i V => ∃ j : Nat, j ≤ n ∧ i = .int .i64 (j : Nat) ∧ L.take j = K.take j ∧ Below w.heap.size w V) (fun i _ => (n - (intOf i)).toNat)
  case atStart => exact ⟨0, by omega, rfl, by simp, by repeat' (first | with_reducible exact Below.refl _ _ | with_reducible assumption | with_reducible apply below_drewN | with_reducible apply Below.drew | with_reducible refine Below.setCell ?_ ?_ _ | with_reducible refine Below.alloc ?_ ?_ _ | omega | (simp; done) | (simp; omega))⟩
  case round =>
    obtain ⟨j, hj, rfl, htk, hB⟩ := hrel
    have hBs := hB.size
    have hgV : g < wr.heap.size := by omega
    have hgV' : g' < wr.heap.size := by omega
    by_cases hjn : j < n
    · have han : j < L.length := by have := HN.out; omega
      have han' : j < K.length := by have := HN.out; have := HLK.out; omega
      obtain ⟨e0, e1, e2, e3⟩ := HL.out j han
      obtain ⟨y0, y1, y2, y3⟩ := HK.out j han'
      have g0 := (hB.cell (p := ⟨g, j * 4, none⟩) hg).trans e0
      have g1 := (hB.cell (p := ⟨g, j * 4 + 1, none⟩) hg).trans e1
      have g2 := (hB.cell (p := ⟨g, j * 4 + 2, none⟩) hg).trans e2
      have g3 := (hB.cell (p := ⟨g, j * 4 + 3, none⟩) hg).trans e3
      have k0 := (hB.cell (p := ⟨g', j * 4, none⟩) hg').trans y0
      have k1 := (hB.cell (p := ⟨g', j * 4 + 1, none⟩) hg').trans y1
      have k2 := (hB.cell (p := ⟨g', j * 4 + 2, none⟩) hg').trans y2
      have k3 := (hB.cell (p := ⟨g', j * 4 + 3, none⟩) hg').trans y3
      have hst : L[j] = K[j] → L.take (j + 1) = K.take (j + 1) := fun h => by rw [List.take_succ_eq_append_getElem han, List.take_succ_eq_append_getElem han', htk, h]
      have hno : ¬ L[j] = K[j] → R = false := fun h => by
        rw [HR.out, decide_eq_false_iff_not]
        rintro rfl
        exact h rfl
      clear e0 e1 e2 e3 y0 y1 y2 y3 htk
      generalize L[j]'han = x at g0 g1 g2 g3 hst hno
      generalize K[j]'han' = y at k0 k1 k2 k3 hst hno
      obtain ⟨xs, xp, xf, xl⟩ := x
      obtain ⟨ys, yp, yf, yl⟩ := y
      simp only at g0 g1 g2 g3 k0 k1 k2 k3
      clear han han'
      cases hp : decide ((⟨xs, xp, xf, xl⟩ : E) = ⟨ys, yp, yf, yl⟩) with
      | true =>
        have hq : ∀ w, (binOp .neq 27 (.agg #[.int .i64 xs, .int .u64 xp, .int .u64 xf, .int .u64 xl]) (.agg #[.int .i64 ys, .int .u64 yp, .int .u64 yf, .int .u64 yl])).run Try.prog w = .ok (.bool false) w := fun w => by
          have := neqE ⟨xs, xp, xf, xl⟩ ⟨ys, yp, yf, yl⟩ w
          rw [hp] at this
          exact this
        have HT := Lib.hid (hst (of_decide_eq_true hp))
        clear hp hst hno
        go_wp2_with fail
        refine wp_region_qbn (by kernel_rfl) (by kernel_rfl) (fun kq => ?_); have kq0 := kq (g) (by first | omega | (simp; done) | (simp; omega)); have kq1 := kq (g') (by first | omega | (simp; done) | (simp; omega)); clear kq; (repeat (go_big_quiet_step (fail))); refine wpQuiet_nil ?_; clear kq0 kq1; intro wq hb
        go_wp2_with fail
        go_roundw
        case rel => exact ⟨j + 1, by omega, by go_num, HT.out, hB.trans (hb.mono hBs)⟩
        case measure => first | (simp [intOf]; done) | (simp [intOf]; omega)
      | false =>
        have hq : ∀ w, (binOp .neq 27 (.agg #[.int .i64 xs, .int .u64 xp, .int .u64 xf, .int .u64 xl]) (.agg #[.int .i64 ys, .int .u64 yp, .int .u64 yf, .int .u64 yl])).run Try.prog w = .ok (.bool true) w := fun w => by
          have := neqE ⟨xs, xp, xf, xl⟩ ⟨ys, yp, yf, yl⟩ w
          rw [hp] at this
          exact this
        have HT := Lib.hid (hno (of_decide_eq_false hp))
        clear hp hst hno
        go_wp2_with fail
        refine wp_region_qbn (by kernel_rfl) (by kernel_rfl) (fun kq => ?_); have kq0 := kq (g) (by first | omega | (simp; done) | (simp; omega)); have kq1 := kq (g') (by first | omega | (simp; done) | (simp; omega)); clear kq; (repeat (go_big_quiet_step (fail))); refine wpQuiet_nil ?_; clear kq0 kq1; intro wq hb
        go_wp2_with fail
        go_ret
        exact ⟨by rw [HT.out]; rfl, hB.trans (hb.mono hBs)⟩
    · obtain rfl : j = n := by omega
      have HT : Hid (R = true) := Lib.hid (by
        rw [HR.out, decide_eq_true_iff]
        have h1 := HN.out
        have h2 := HLK.out
        rw [List.take_of_length_le (by omega), List.take_of_length_le (by omega)] at htk
        exact htk)
      clear htk
      go_wp2_with fail
      go_ret
      exact ⟨by rw [HT.out]; rfl, hB⟩

theorem rsame_any (base base' : Nat) (v v' : Value) (L K : List E) (w : World) (h : RowE w base v L) (h' : RowE w base' v' K) (hlen : L.length ≤ 1000) : Calls Try.prog 32 #[v, v'] w (RetB (.bool (decide (L = K))) w) := by
  by_cases hl : L.length = K.length
  · rcases h.form with ⟨rfl, rfl⟩ | ⟨g, cap, rfl, hg, _⟩
    · obtain rfl : K = [] := List.eq_nil_of_length_eq_zero hl.symm
      obtain ⟨ao, c, rfl⟩ := ownsRow_form h'
      exact rsame_zero _ _ _ _ w
    · rcases h'.form with ⟨rfl, rfl⟩ | ⟨g', cap', rfl, hg', _⟩
      · obtain rfl : L = [] := List.eq_nil_of_length_eq_zero hl
        exact rsame_zero _ _ _ _ w
      · have := rsame_some g g' cap cap' L K w hg hg' h.flat h'.flat hl.symm hlen
        rw [← hl]
        exact this
  · have hd : decide (L = K) = false := by
      rw [decide_eq_false_iff_not]
      rintro rfl
      exact hl rfl
    rw [hd]
    obtain ⟨ao, c, rfl⟩ := ownsRow_form h
    obtain ⟨ao', c', rfl⟩ := ownsRow_form h'
    exact rsame_len _ _ _ _ _ _ w hl

end Go.Proofs.Ytcaggboeacgknaa
