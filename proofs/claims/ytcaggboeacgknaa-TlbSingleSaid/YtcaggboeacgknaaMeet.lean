/- Contract of tlb.meet. -/
import Derived.Test.YtcaggboeacgknaaSing
import Derived.Deep.RegionHeld3
namespace Go.Proofs.Ytcaggboeacgknaa
open Go.RowKit
set_option linter.unusedSimpArgs false
set_option linter.unusedVariables false

theorem retB_m {v : Value} {w w' : World} {e : Ending} (h : RetB v w e w') : e = .returned v ∧ Below w.heap.size w w' := h

set_option maxRecDepth 100000 in
set_option maxHeartbeats 8000000 in
theorem meet_any (x y : E) (w : World) (hx : x.ok) (hy : y.ok) : Calls Try.prog 53 #[entV x, entV y] w (RetB (.bool (meetB x y)) w) := by
  obtain ⟨xs, xp, xf, xl⟩ := x
  obtain ⟨ys, yp, yf, yl⟩ := y
  have HX := Lib.hid hx
  have HY := Lib.hid hy
  clear hx hy
  have cOX : Hid (∀ V, Calls Try.prog 44 #[.agg #[.int .i64 xs, .int .u64 xp, .int .u64 xf, .int .u64 xl]] V (RetB (.bool (ownB ⟨xs, xp, xf, xl⟩)) V)) := Lib.hid fun V => own_any ⟨xs, xp, xf, xl⟩ V HX.out.2.2.1 HX.out.2.2.2
  have cOY : Hid (∀ V, Calls Try.prog 44 #[.agg #[.int .i64 ys, .int .u64 yp, .int .u64 yf, .int .u64 yl]] V (RetB (.bool (ownB ⟨ys, yp, yf, yl⟩)) V)) := Lib.hid fun V => own_any ⟨ys, yp, yf, yl⟩ V HY.out.2.2.1 HY.out.2.2.2
  have cZX : Hid (∀ V, Calls Try.prog 43 #[.agg #[.int .i64 xs, .int .u64 xp, .int .u64 xf, .int .u64 xl]] V (RetB (.int .i64 (bitsZ ⟨xs, xp, xf, xl⟩)) V)) := Lib.hid fun V => size_any ⟨xs, xp, xf, xl⟩ V HX.out.2.2.1
  have cZY : Hid (∀ V, Calls Try.prog 43 #[.agg #[.int .i64 ys, .int .u64 yp, .int .u64 yf, .int .u64 yl]] V (RetB (.int .i64 (bitsZ ⟨ys, yp, yf, yl⟩)) V)) := Lib.hid fun V => size_any ⟨ys, yp, yf, yl⟩ V HY.out.2.2.1
  have cDX : Hid (∀ n V, Calls Try.prog 39 #[.int .u64 xp, .int .i64 n] V (Ret (.int .u64 (downZ xp n)) V)) := Lib.hid fun n V => down_any xp n V HX.out.2.1
  have cDY : Hid (∀ n V, Calls Try.prog 39 #[.int .u64 yp, .int .i64 n] V (Ret (.int .u64 (downZ yp n)) V)) := Lib.hid fun n V => down_any yp n V HY.out.2.1
  have HM : Hid (meetB ⟨xs, xp, xf, xl⟩ ⟨ys, yp, yf, yl⟩ = if (!decide (xs = ys) && (ownB ⟨xs, xp, xf, xl⟩ && ownB ⟨ys, yp, yf, yl⟩)) = true then false else downZ xp (max (bitsZ ⟨xs, xp, xf, xl⟩) (bitsZ ⟨ys, yp, yf, yl⟩)) == downZ yp (max (bitsZ ⟨xs, xp, xf, xl⟩) (bitsZ ⟨ys, yp, yf, yl⟩))) := Lib.hid rfl
  have hzx := bits_two ⟨xs, xp, xf, xl⟩
  have hzy := bits_two ⟨ys, yp, yf, yl⟩
  clear HX HY
  simp only [entV]
  generalize meetB ⟨xs, xp, xf, xl⟩ ⟨ys, yp, yf, yl⟩ = R at HM ⊢
  generalize ownB ⟨xs, xp, xf, xl⟩ = ox at cOX HM
  generalize ownB ⟨ys, yp, yf, yl⟩ = oy at cOY HM
  generalize bitsZ ⟨xs, xp, xf, xl⟩ = zx at cZX HM hzx
  generalize bitsZ ⟨ys, yp, yf, yl⟩ = zy at cZY HM hzy
  obtain ⟨mm, hmm⟩ : ∃ mm, mm = max zx zy := ⟨_, rfl⟩
  rw [← hmm] at HM
  have hsp : xs = ys ∨ (¬ xs = ys ∧ (ox = false ∨ (ox = true ∧ (oy = false ∨ oy = true)))) := by
    by_cases h : xs = ys
    · exact .inl h
    · cases ox <;> cases oy <;> simp [h]
  rcases hsp with heq | ⟨hne, rfl | ⟨rfl, rfl | rfl⟩⟩
  all_goals
    (first | (have hne2 : (xs != ys) = true := by simpa using hne) | (have hne2 : (xs != ys) = false := by simpa using heq))
    try (have HEQ := Lib.hid heq; clear heq)
    go_enter Try.func53, Try.ntmps53
    go_wp2_with fail
    obtain ⟨X, hX⟩ : ∃ X, X = (w.alloc (.cells #[.int .i64 xs, .int .u64 xp, .int .u64 xf, .int .u64 xl] 27)).alloc (.cells #[.int .i64 ys, .int .u64 yp, .int .u64 yf, .int .u64 yl] 27) := ⟨_, rfl⟩
    have BX : Below w.heap.size w X := by rw [hX]; repeat' (first | with_reducible exact Below.refl _ _ | with_reducible assumption | with_reducible apply below_drewN | with_reducible apply Below.drew | with_reducible refine Below.setCell ?_ ?_ _ | with_reducible refine Below.alloc ?_ ?_ _ | omega | (simp; done) | (simp; omega))
    have hsX : X.heap.size = w.heap.size + 2 := by rw [hX]; simp
    have hc1 : X.heap[w.heap.size]? = some (.cells #[.int .i64 xs, .int .u64 xp, .int .u64 xf, .int .u64 xl] 27) := by rw [hX]; exact heap_old _ _ _ _ (heap_new _ _ _ rfl)
    have hc2 : X.heap[w.heap.size + 1]? = some (.cells #[.int .i64 ys, .int .u64 yp, .int .u64 yf, .int .u64 yl] 27) := by rw [hX]; exact heap_new _ _ _ (by simp)
    have HS : Hid (∀ W, Below X.heap.size X W → W.cell? ⟨w.heap.size, 0, none⟩ = some (.int .i64 xs) ∧ W.cell? ⟨w.heap.size, 1, none⟩ = some (.int .u64 xp) ∧ W.cell? ⟨w.heap.size, 2, none⟩ = some (.int .u64 xf) ∧ W.cell? ⟨w.heap.size, 3, none⟩ = some (.int .u64 xl) ∧ W.cell? ⟨w.heap.size + 1, 0, none⟩ = some (.int .i64 ys) ∧ W.cell? ⟨w.heap.size + 1, 1, none⟩ = some (.int .u64 yp) ∧ W.cell? ⟨w.heap.size + 1, 2, none⟩ = some (.int .u64 yf) ∧ W.cell? ⟨w.heap.size + 1, 3, none⟩ = some (.int .u64 yl)) := Lib.hid fun W h => by
      have e1 := (block_cells ((h.block w.heap.size (by omega)).trans hc1)).1
      have e2 := (block_cells ((h.block (w.heap.size + 1) (by omega)).trans hc2)).1
      exact ⟨e1 0 _ rfl, e1 1 _ rfl, e1 2 _ rfl, e1 3 _ rfl, e2 0 _ rfl, e2 1 _ rfl, e2 2 _ rfl, e2 3 _ rfl⟩
    rw [← hX]
    clear hX hc1 hc2
  · have HR : Hid (R = (downZ xp mm == downZ yp mm)) := Lib.hid (by rw [HM.out, decide_eq_true HEQ.out]; rfl)
    clear HM
    have CC := Below.refl X.heap.size X
    have CCs := CC.size
    have HMM := Lib.hid hmm
    have BXs := BX.size
    have hz1 : w.heap.size + 1 < X.heap.size := by omega
    clear hsX hmm
    go_region_held3 (fun W => W.cell? ⟨w.heap.size, 0, none⟩ = some (.int .i64 xs) ∧ W.cell? ⟨w.heap.size, 1, none⟩ = some (.int .u64 xp) ∧ W.cell? ⟨w.heap.size, 2, none⟩ = some (.int .u64 xf) ∧ W.cell? ⟨w.heap.size, 3, none⟩ = some (.int .u64 xl) ∧ W.cell? ⟨w.heap.size + 1, 0, none⟩ = some (.int .i64 ys) ∧ W.cell? ⟨w.heap.size + 1, 1, none⟩ = some (.int .u64 yp) ∧ W.cell? ⟨w.heap.size + 1, 2, none⟩ = some (.int .u64 yf) ∧ W.cell? ⟨w.heap.size + 1, 3, none⟩ = some (.int .u64 yl)) (first | (refine HS.out _ ?_; (repeat' (first | with_reducible exact Below.refl _ _ | with_reducible assumption | with_reducible apply below_drewN | with_reducible apply Below.drew | with_reducible refine Below.setCell ?_ ?_ _ | with_reducible refine Below.alloc ?_ ?_ _ | omega | (simp; done) | (simp; omega))); done)) (first | (go_at_call 43; with_reducible refine (cZX.out _).mono ?_; intro e t1 hx; obtain ⟨rfl, hb⟩ := retB_m hx; have CC : Below X.heap.size X t1 := Below.trans (by (repeat' (first | with_reducible exact Below.refl _ _ | with_reducible assumption | with_reducible apply below_drewN | with_reducible apply Below.drew | with_reducible refine Below.setCell ?_ ?_ _ | with_reducible refine Below.alloc ?_ ?_ _ | omega | (simp; done) | (simp; omega))); done) (hb.mono (by first | omega | (simp; done) | (simp; omega))); have CCs := CC.size; clear hx hb) | (go_at_call 43; with_reducible refine (cZY.out _).mono ?_; intro e t2 hx; obtain ⟨rfl, hb⟩ := retB_m hx; have CC : Below X.heap.size X t2 := Below.trans (by (repeat' (first | with_reducible exact Below.refl _ _ | with_reducible assumption | with_reducible apply below_drewN | with_reducible apply Below.drew | with_reducible refine Below.setCell ?_ ?_ _ | with_reducible refine Below.alloc ?_ ?_ _ | omega | (simp; done) | (simp; omega))); done) (hb.mono (by first | omega | (simp; done) | (simp; omega))); have CCs := CC.size; clear hx hb))
    all_goals
      go_wp2_with fail
      obtain ⟨d0, d1, d2, d3, e0, e1, e2, e3⟩ := HS.out _ CC
      rw [← HMM.out]
      have hz2 : w.heap.size + 1 < X.heap.size := hz1
      clear hzx hzy
      refine wp_region_qbn (by kernel_rfl) (by kernel_rfl) (fun kq => ?_); have kq0 := kq (w.heap.size) (by first | omega | (simp; done) | (simp; omega)); have kq1 := kq (w.heap.size + 1) (by first | omega | (simp; done) | (simp; omega)); clear kq; (repeat (go_big_quiet_step (first | (go_at_call_of 39 (Value.int IntKind.u64 xp); exact quietBR (cDX.out _ _)) | (go_at_call_of 39 (Value.int IntKind.u64 yp); exact quietBR (cDY.out _ _))))); refine wpQuiet_nil ?_; clear kq0 kq1; intro wq hb
      go_wp2_with fail
      go_ret
      exact ⟨by rw [HR.out]; rfl, BX.trans (Below.mono (CC.trans (hb.mono CCs)) BXs)⟩
  · have HR : Hid (R = (downZ xp mm == downZ yp mm)) := Lib.hid (by rw [HM.out, decide_eq_false hne]; rfl)
    clear HM
    refine (cOX.out _).mono ?_
    rintro e w1 ⟨rfl, hb⟩
    have CC : Below X.heap.size X w1 := hb
    clear hb
    obtain ⟨d0, d1, d2, d3, e0, e1, e2, e3⟩ := HS.out _ CC
    go_wp2_with fail
    clear d0 d1 d2 d3 e0 e1 e2 e3
    have CCs := CC.size
    have HMM := Lib.hid hmm
    have BXs := BX.size
    have hz1 : w.heap.size + 1 < X.heap.size := by omega
    clear hsX hmm
    go_region_held3 (fun W => W.cell? ⟨w.heap.size, 0, none⟩ = some (.int .i64 xs) ∧ W.cell? ⟨w.heap.size, 1, none⟩ = some (.int .u64 xp) ∧ W.cell? ⟨w.heap.size, 2, none⟩ = some (.int .u64 xf) ∧ W.cell? ⟨w.heap.size, 3, none⟩ = some (.int .u64 xl) ∧ W.cell? ⟨w.heap.size + 1, 0, none⟩ = some (.int .i64 ys) ∧ W.cell? ⟨w.heap.size + 1, 1, none⟩ = some (.int .u64 yp) ∧ W.cell? ⟨w.heap.size + 1, 2, none⟩ = some (.int .u64 yf) ∧ W.cell? ⟨w.heap.size + 1, 3, none⟩ = some (.int .u64 yl)) (first | (refine HS.out _ ?_; (repeat' (first | with_reducible exact Below.refl _ _ | with_reducible assumption | with_reducible apply below_drewN | with_reducible apply Below.drew | with_reducible refine Below.setCell ?_ ?_ _ | with_reducible refine Below.alloc ?_ ?_ _ | omega | (simp; done) | (simp; omega))); done)) (first | (go_at_call 43; with_reducible refine (cZX.out _).mono ?_; intro e t1 hx; obtain ⟨rfl, hb⟩ := retB_m hx; have CC : Below X.heap.size X t1 := Below.trans (by (repeat' (first | with_reducible exact Below.refl _ _ | with_reducible assumption | with_reducible apply below_drewN | with_reducible apply Below.drew | with_reducible refine Below.setCell ?_ ?_ _ | with_reducible refine Below.alloc ?_ ?_ _ | omega | (simp; done) | (simp; omega))); done) (hb.mono (by first | omega | (simp; done) | (simp; omega))); have CCs := CC.size; clear hx hb) | (go_at_call 43; with_reducible refine (cZY.out _).mono ?_; intro e t2 hx; obtain ⟨rfl, hb⟩ := retB_m hx; have CC : Below X.heap.size X t2 := Below.trans (by (repeat' (first | with_reducible exact Below.refl _ _ | with_reducible assumption | with_reducible apply below_drewN | with_reducible apply Below.drew | with_reducible refine Below.setCell ?_ ?_ _ | with_reducible refine Below.alloc ?_ ?_ _ | omega | (simp; done) | (simp; omega))); done) (hb.mono (by first | omega | (simp; done) | (simp; omega))); have CCs := CC.size; clear hx hb))
    all_goals
      go_wp2_with fail
      obtain ⟨d0, d1, d2, d3, e0, e1, e2, e3⟩ := HS.out _ CC
      rw [← HMM.out]
      have hz2 : w.heap.size + 1 < X.heap.size := hz1
      clear hzx hzy
      refine wp_region_qbn (by kernel_rfl) (by kernel_rfl) (fun kq => ?_); have kq0 := kq (w.heap.size) (by first | omega | (simp; done) | (simp; omega)); have kq1 := kq (w.heap.size + 1) (by first | omega | (simp; done) | (simp; omega)); clear kq; (repeat (go_big_quiet_step (first | (go_at_call_of 39 (Value.int IntKind.u64 xp); exact quietBR (cDX.out _ _)) | (go_at_call_of 39 (Value.int IntKind.u64 yp); exact quietBR (cDY.out _ _))))); refine wpQuiet_nil ?_; clear kq0 kq1; intro wq hb
      go_wp2_with fail
      go_ret
      exact ⟨by rw [HR.out]; rfl, BX.trans (Below.mono (CC.trans (hb.mono CCs)) BXs)⟩
  · have HR : Hid (R = (downZ xp mm == downZ yp mm)) := Lib.hid (by rw [HM.out, decide_eq_false hne]; rfl)
    clear HM
    refine (cOX.out _).mono ?_
    rintro e w1 ⟨rfl, hb⟩
    have B1 : Below X.heap.size X w1 := hb
    have B1s := B1.size
    clear hb
    obtain ⟨d0, d1, d2, d3, e0, e1, e2, e3⟩ := HS.out _ B1
    go_wp2_with fail
    refine (cOY.out _).mono ?_
    rintro e w2 ⟨rfl, hb⟩
    have CC : Below X.heap.size X w2 := B1.trans (hb.mono B1s)
    clear hb d0 d1 d2 d3 e0 e1 e2 e3
    obtain ⟨d0, d1, d2, d3, e0, e1, e2, e3⟩ := HS.out _ CC
    go_wp2_with fail
    clear d0 d1 d2 d3 e0 e1 e2 e3 B1 B1s
    have CCs := CC.size
    have HMM := Lib.hid hmm
    have BXs := BX.size
    have hz1 : w.heap.size + 1 < X.heap.size := by omega
    clear hsX hmm
    go_region_held3 (fun W => W.cell? ⟨w.heap.size, 0, none⟩ = some (.int .i64 xs) ∧ W.cell? ⟨w.heap.size, 1, none⟩ = some (.int .u64 xp) ∧ W.cell? ⟨w.heap.size, 2, none⟩ = some (.int .u64 xf) ∧ W.cell? ⟨w.heap.size, 3, none⟩ = some (.int .u64 xl) ∧ W.cell? ⟨w.heap.size + 1, 0, none⟩ = some (.int .i64 ys) ∧ W.cell? ⟨w.heap.size + 1, 1, none⟩ = some (.int .u64 yp) ∧ W.cell? ⟨w.heap.size + 1, 2, none⟩ = some (.int .u64 yf) ∧ W.cell? ⟨w.heap.size + 1, 3, none⟩ = some (.int .u64 yl)) (first | (refine HS.out _ ?_; (repeat' (first | with_reducible exact Below.refl _ _ | with_reducible assumption | with_reducible apply below_drewN | with_reducible apply Below.drew | with_reducible refine Below.setCell ?_ ?_ _ | with_reducible refine Below.alloc ?_ ?_ _ | omega | (simp; done) | (simp; omega))); done)) (first | (go_at_call 43; with_reducible refine (cZX.out _).mono ?_; intro e t1 hx; obtain ⟨rfl, hb⟩ := retB_m hx; have CC : Below X.heap.size X t1 := Below.trans (by (repeat' (first | with_reducible exact Below.refl _ _ | with_reducible assumption | with_reducible apply below_drewN | with_reducible apply Below.drew | with_reducible refine Below.setCell ?_ ?_ _ | with_reducible refine Below.alloc ?_ ?_ _ | omega | (simp; done) | (simp; omega))); done) (hb.mono (by first | omega | (simp; done) | (simp; omega))); have CCs := CC.size; clear hx hb) | (go_at_call 43; with_reducible refine (cZY.out _).mono ?_; intro e t2 hx; obtain ⟨rfl, hb⟩ := retB_m hx; have CC : Below X.heap.size X t2 := Below.trans (by (repeat' (first | with_reducible exact Below.refl _ _ | with_reducible assumption | with_reducible apply below_drewN | with_reducible apply Below.drew | with_reducible refine Below.setCell ?_ ?_ _ | with_reducible refine Below.alloc ?_ ?_ _ | omega | (simp; done) | (simp; omega))); done) (hb.mono (by first | omega | (simp; done) | (simp; omega))); have CCs := CC.size; clear hx hb))
    all_goals
      go_wp2_with fail
      obtain ⟨d0, d1, d2, d3, e0, e1, e2, e3⟩ := HS.out _ CC
      rw [← HMM.out]
      have hz2 : w.heap.size + 1 < X.heap.size := hz1
      clear hzx hzy
      refine wp_region_qbn (by kernel_rfl) (by kernel_rfl) (fun kq => ?_); have kq0 := kq (w.heap.size) (by first | omega | (simp; done) | (simp; omega)); have kq1 := kq (w.heap.size + 1) (by first | omega | (simp; done) | (simp; omega)); clear kq; (repeat (go_big_quiet_step (first | (go_at_call_of 39 (Value.int IntKind.u64 xp); exact quietBR (cDX.out _ _)) | (go_at_call_of 39 (Value.int IntKind.u64 yp); exact quietBR (cDY.out _ _))))); refine wpQuiet_nil ?_; clear kq0 kq1; intro wq hb
      go_wp2_with fail
      go_ret
      exact ⟨by rw [HR.out]; rfl, BX.trans (Below.mono (CC.trans (hb.mono CCs)) BXs)⟩
  · have HR : Hid (R = false) := Lib.hid (by rw [HM.out, decide_eq_false hne]; rfl)
    clear HM hzx hzy hmm
    refine (cOX.out _).mono ?_
    rintro e w1 ⟨rfl, hb⟩
    have B1 : Below X.heap.size X w1 := hb
    have B1s := B1.size
    clear hb
    obtain ⟨d0, d1, d2, d3, e0, e1, e2, e3⟩ := HS.out _ B1
    go_wp2_with fail
    refine (cOY.out _).mono ?_
    rintro e w2 ⟨rfl, hb⟩
    have B2 : Below X.heap.size X w2 := B1.trans (hb.mono B1s)
    clear hb
    go_wp2_with fail
    go_ret
    exact ⟨by rw [HR.out]; rfl, BX.trans (B2.mono BX.size)⟩

end Go.Proofs.Ytcaggboeacgknaa
