/- Buffer.Drop, Buffer.Serving: written by gen_filtb.py. -/
import Derived.Test.YtcaggboeacgknaaFilt
namespace Go.Proofs.Ytcaggboeacgknaa
open Go.RowKit
set_option linter.unusedSimpArgs false
set_option linter.unusedVariables false


set_option maxRecDepth 100000 in
set_option maxHeartbeats 4000000 in
theorem bdrop_some (g cap : Nat) (L : List E) (f : F) (hfp : U64 f.page) (w : World) (hg : g < w.heap.size) (hF : ∀ (j : Nat) u, (flatE L)[j]? = some u → w.cell? ⟨g, j, none⟩ = some u) (hok : ∀ x ∈ L, U64 x.first ∧ U64 x.last) (hlen : L.length ≤ 1000) :
    Calls Try.prog 30 #[bufV (.slice (some ⟨g, 0, none⟩) L.length cap), flushV f] w (RetBuf w.heap.size (L.filter fun x => !takesB f x) w) := by
  obtain ⟨i0, hi0, hz0, hz1, hz2⟩ := info_parts infoE
  have HL : Hid (∀ (j : Nat) (hj : j < L.length), w.cell? ⟨g, j * 4, none⟩ = some (.int .i64 L[j].space) ∧ w.cell? ⟨g, j * 4 + 1, none⟩ = some (.int .u64 L[j].page) ∧ w.cell? ⟨g, j * 4 + 2, none⟩ = some (.int .u64 L[j].first) ∧ w.cell? ⟨g, j * 4 + 3, none⟩ = some (.int .u64 L[j].last)) := Lib.hid (rowcells hF)
  have HOK := Lib.hid hok
  have hne : g ≠ w.heap.size := Nat.ne_of_lt hg
  obtain ⟨fk, fp, fs⟩ := f
  have HFP := Lib.hid hfp
  clear hfp
  simp only [flushV, bufV]
  obtain ⟨P, hP⟩ : ∃ P : E → Bool, P = fun x => !takesB ⟨fk, fp, fs⟩ x := ⟨_, rfl⟩
  have HP := Lib.hid hP
  rw [← hP]
  obtain ⟨n, hn⟩ : ∃ n, n = L.length := ⟨_, rfl⟩
  have HN := Lib.hid hn
  rw [← hn] at hlen ⊢
  clear hn hF hok hP
  go_enter Try.func30, Try.ntmps30
  go_wp2_with fail
  go_loopw [5, 11] (fun o i V => ∃ j : Nat, j ≤ n ∧ i = .int .i64 (j : Nat) ∧ RowE V (w.heap.size + 3) o ((L.take j).filter P) ∧ V.heap[w.heap.size + 1]? = some (.cells #[.int .i64 fk, .int .u64 fp, .int .i64 fs] 35) ∧ V.heap[w.heap.size + 2]? = some (.cells #[.slice none 0 0] 42) ∧  Below w.heap.size w V ∧ w.heap.size + 3 ≤ V.heap.size) (fun _ i _ => (n - (intOf i)).toNat)
  case atStart => exact ⟨0, by omega, rfl, RowE.nil _ _, (by (repeat (first | assumption | (refine heap_new _ _ _ ?_; simp; done) | refine heap_old _ _ _ _ ?_))), (by (repeat (first | assumption | (refine heap_new _ _ _ ?_; simp; done) | refine heap_old _ _ _ _ ?_))), (by repeat' (first | with_reducible exact Below.refl _ _ | with_reducible assumption | with_reducible apply below_drewN | with_reducible apply Below.drew | with_reducible refine Below.setCell ?_ ?_ _ | with_reducible refine Below.alloc ?_ ?_ _ | omega | (simp; done) | (simp; omega))), (by first | omega | (simp; done) | (simp; omega))⟩
  case round =>
    obtain ⟨j, hj, rfl, hrow, hbf, hbb, hB, hBs⟩ := hrel
    have hgV : g < wr.heap.size := by omega
    have hkl := filter_len L P j
    have hK : ∀ (h : j < L.length), (L.take (j + 1)).filter P = if P L[j] = true then (L.take j).filter P ++ [L[j]] else (L.take j).filter P := fun h => filter_step L P j h
    have hE : j = n → (L.take j).filter P = L.filter P := fun h => by rw [h, HN.out, List.take_length]
    obtain ⟨K2, hK2⟩ : ∃ K2, K2 = (L.take (j + 1)).filter P := ⟨_, rfl⟩
    have HK2 := Lib.hid hK2
    rw [← hK2] at hK
    generalize (L.take j).filter P = K at hrow hkl hK hE
    rw [← HN.out] at hkl
    have hrow2 := hrow
    unfold RowE at hrow2
    obtain ⟨ao, c, rfl⟩ := ownsRow_form hrow2
    have HROW := Lib.hid hrow
    obtain ⟨m, hm⟩ : ∃ m, m = K.length := ⟨_, rfl⟩
    have HM := Lib.hid hm
    rw [← hm] at hkl HROW ⊢
    clear hrow hrow2 hm hK2
    obtain ⟨c4, f4, l4, n4⟩ := block_cells hbf
    have d0 := c4 0 _ rfl
    have d1 := c4 1 _ rfl
    have d2 := c4 2 _ rfl
    have HBF := Lib.hid hbf
    obtain ⟨c5, f5, l5, n5⟩ := block_cells hbb
    have v0 := c5 0 _ rfl
    have HBB := Lib.hid hbb
    clear c4 hbf c5 hbb
    by_cases hjn : j < n
    · have han : j < L.length := by have := HN.out; omega
      obtain ⟨e0, e1, e2, e3⟩ := HL.out j han
      have g0 := (hB.cell (p := ⟨g, j * 4, none⟩) hg).trans e0
      have g1 := (hB.cell (p := ⟨g, j * 4 + 1, none⟩) hg).trans e1
      have g2 := (hB.cell (p := ⟨g, j * 4 + 2, none⟩) hg).trans e2
      have g3 := (hB.cell (p := ⟨g, j * 4 + 3, none⟩) hg).trans e3
      have hx := HOK.out _ (List.getElem_mem han)
      have hk2 := hK han
      clear e0 e1 e2 e3 hK hE
      generalize L[j]'han = x at g0 g1 g2 g3 hx hk2
      obtain ⟨xs, xp, xf, xl⟩ := x
      simp only at g0 g1 g2 g3 hx
      obtain ⟨hx1, hx2⟩ := hx
      clear han
      cases hp : takesB ⟨fk, fp, fs⟩ ⟨xs, xp, xf, xl⟩ with
      | false =>
        have hpx : P ⟨xs, xp, xf, xl⟩ = true := by rw [HP.out]; simp only [hp]; try rfl
        rw [if_pos hpx] at hk2
        have HKK := Lib.hid hk2
        have cL : Hid (∀ V, Calls Try.prog 19 #[.agg #[.int .i64 fk, .int .u64 fp, .int .i64 fs], .agg #[.int .i64 xs, .int .u64 xp, .int .u64 xf, .int .u64 xl]] V (RetB (.bool false) V)) := Lib.hid fun V => by
          have := takes_any ⟨fk, fp, fs⟩ ⟨xs, xp, xf, xl⟩ V HFP.out hx1 hx2
          rw [hp] at this
          exact this
        clear hp hpx hx1 hx2 hk2
        go_wp2_with (first | (go_at_call 19; (with_reducible refine (cL.out _).mono ?_); rintro e wq ⟨rfl, hb⟩; have BW : Below wr.heap.size wr wq := Below.trans (by repeat' (first | with_reducible exact Below.refl _ _ | with_reducible assumption | with_reducible apply below_drewN | with_reducible apply Below.drew | with_reducible refine Below.setCell ?_ ?_ _ | with_reducible refine Below.alloc ?_ ?_ _ | omega | (simp; done) | (simp; omega))) (hb.mono (by first | omega | (simp; done) | (simp; omega))); have hB2 : Below w.heap.size w wq := hB.trans (BW.mono (by omega)); have BWs := BW.size; have HBF2 := Lib.hid ((BW.block (w.heap.size + 1) (by omega)).trans HBF.out); have HBB2 := Lib.hid ((BW.block (w.heap.size + 2) (by omega)).trans HBB.out); have HROW2 := Lib.hid (HROW.out.below BW); have hbt := (hb.block wr.heap.size (by first | omega | (simp; done) | (simp; omega))).trans (by (repeat (first | assumption | (refine heap_new _ _ _ ?_; simp; done) | refine heap_old _ _ _ _ ?_)) : _ = some (.cells #[.int .i64 xs, .int .u64 xp, .int .u64 xf, .int .u64 xl] 27)); obtain ⟨x2, y2, z2, t2⟩ := block_cells hbt; have x20 := x2 0 _ rfl; have x21 := x2 1 _ rfl; have x22 := x2 2 _ rfl; have x23 := x2 3 _ rfl; clear hb x2 hbt) | (at_builtin; (refine wpList_append_gen rfl (.tmp 19) (.tmp 21) 40 rfl (w.heap.size + 3) 27 i0 (.agg #[.int .i64 0, .int .u64 0, .int .u64 0, .int .u64 0]) 4 32 Try.underlying40 hi0 hz0 hz1 hz2 rfl (by decide) _ m (flatE K) rfl (by have := HROW2.out; unfold RowE at this; rw [← HM.out] at this; exact this.alloc _) (some ⟨wq.heap.size, 0, none⟩) 1 1 (cellsE ⟨xs, xp, xf, xl⟩) rfl (fun h => by cases h) rfl (new_cells wq #[.int .i64 xs, .int .u64 xp, .int .u64 xf, .int .u64 xl] _) (cellsE_one _) (by unfold maxLen; omega) (by omega) (by simp; omega) ?_); intro a2 c2 w2 ho hg2 _; (have B2 : Below (w.heap.size + 3) wq w2 := (((Below.refl _ wq).alloc (by omega) _).grown hg2 (by simp; omega) (fun k hk => (HROW2.out.lt k hk).1))); have G2 := Lib.hid ho; have B2s := B2.size; clear ho hg2))
        go_roundw
        case rel => exact ⟨j + 1, by omega, by go_num, by rw [← HK2.out, HKK.out]; unfold RowE; rw [List.length_append, flatE_snoc, ← HM.out]; exact G2.out, (B2.block (w.heap.size + 1) (by omega)).trans HBF2.out, (B2.block (w.heap.size + 2) (by omega)).trans HBB2.out, hB2.trans (B2.mono (by omega)), by omega⟩
        case measure => first | (simp [intOf]; done) | (simp [intOf]; omega)
      | true =>
        have hpx : P ⟨xs, xp, xf, xl⟩ = false := by rw [HP.out]; simp only [hp]; try rfl
        rw [if_neg (by rw [hpx]; decide)] at hk2
        have HKK := Lib.hid hk2
        have cL : Hid (∀ V, Calls Try.prog 19 #[.agg #[.int .i64 fk, .int .u64 fp, .int .i64 fs], .agg #[.int .i64 xs, .int .u64 xp, .int .u64 xf, .int .u64 xl]] V (RetB (.bool true) V)) := Lib.hid fun V => by
          have := takes_any ⟨fk, fp, fs⟩ ⟨xs, xp, xf, xl⟩ V HFP.out hx1 hx2
          rw [hp] at this
          exact this
        clear hp hpx hx1 hx2 hk2
        go_wp2_with (go_at_call 19; (with_reducible refine (cL.out _).mono ?_); rintro e wq ⟨rfl, hb⟩; have BW : Below wr.heap.size wr wq := Below.trans (by repeat' (first | with_reducible exact Below.refl _ _ | with_reducible assumption | with_reducible apply below_drewN | with_reducible apply Below.drew | with_reducible refine Below.setCell ?_ ?_ _ | with_reducible refine Below.alloc ?_ ?_ _ | omega | (simp; done) | (simp; omega))) (hb.mono (by first | omega | (simp; done) | (simp; omega))); have hB2 : Below w.heap.size w wq := hB.trans (BW.mono (by omega)); have BWs := BW.size; have HBF2 := Lib.hid ((BW.block (w.heap.size + 1) (by omega)).trans HBF.out); have HBB2 := Lib.hid ((BW.block (w.heap.size + 2) (by omega)).trans HBB.out); have HROW2 := Lib.hid (HROW.out.below BW); have hbt := (hb.block wr.heap.size (by first | omega | (simp; done) | (simp; omega))).trans (by (repeat (first | assumption | (refine heap_new _ _ _ ?_; simp; done) | refine heap_old _ _ _ _ ?_)) : _ = some (.cells #[.int .i64 xs, .int .u64 xp, .int .u64 xf, .int .u64 xl] 27)); obtain ⟨x2, y2, z2, t2⟩ := block_cells hbt; have x20 := x2 0 _ rfl; have x21 := x2 1 _ rfl; have x22 := x2 2 _ rfl; have x23 := x2 3 _ rfl; clear hb x2 hbt)
        go_roundw
        case rel => exact ⟨j + 1, by omega, by go_num, by rw [← HK2.out, HKK.out]; exact HROW2.out, HBF2.out, HBB2.out, hB2, by omega⟩
        case measure => first | (simp [intOf]; done) | (simp [intOf]; omega)
    · obtain rfl : j = n := by omega
      have HE := Lib.hid (hE rfl)
      clear hK hE
      go_wp2_with fail
      refine bodyPost_ret (by simp [results, Try.results30, go_sem, *]; rfl) rfl ?_
      refine ⟨_, rfl, ?_, hB.setCell (by simp; try omega) _⟩
      rw [← HE.out]
      have h2 := HROW.out.low (base' := w.heap.size) (by omega)
      rw [HM.out] at h2
      exact ownsRow_set_type (by rw [HM.out]; exact h2) HBB.out (by decide) _ _

set_option maxHeartbeats 1000000 in
theorem bdrop_nil (f : F) (hfp : U64 f.page) (w : World) : Calls Try.prog 30 #[bufV (.slice none 0 0), flushV f] w (RetBuf w.heap.size [] w) := by
  obtain ⟨fk, fp, fs⟩ := f
  have HFP := Lib.hid hfp
  clear hfp
  simp only [flushV, bufV]
  go_enter Try.func30, Try.ntmps30
  go_wp2_with fail
  go_loopw [5, 11] (fun o i V => o = .slice none 0 0 ∧ i = .int .i64 0 ∧ V.heap[w.heap.size + 2]? = some (.cells #[.slice none 0 0] 42) ∧ Below w.heap.size w V) (fun _ i _ => 0)
  case atStart => exact ⟨rfl, rfl, (by (repeat (first | assumption | (refine heap_new _ _ _ ?_; simp; done) | refine heap_old _ _ _ _ ?_))), by repeat' (first | with_reducible exact Below.refl _ _ | with_reducible assumption | with_reducible apply below_drewN | with_reducible apply Below.drew | with_reducible refine Below.setCell ?_ ?_ _ | with_reducible refine Below.alloc ?_ ?_ _ | omega | (simp; done) | (simp; omega))⟩
  case round =>
    obtain ⟨rfl, rfl, hbb, hB⟩ := hrel
    obtain ⟨c5, f5, l5, n5⟩ := block_cells hbb
    have v0 := c5 0 _ rfl
    clear c5 hbb
    go_wp2_with fail
    refine bodyPost_ret (by simp [results, Try.results30, go_sem, *]; rfl) rfl ?_
    exact ⟨_, rfl, RowE.nil _ _, hB.setCell (by simp; try omega) _⟩

theorem bdrop_any (base : Nat) (v : Value) (L : List E) (f : F) (hfp : U64 f.page) (w : World) (h : RowE w base v L) (hbase : base ≤ w.heap.size) (hok : ∀ x ∈ L, U64 x.first ∧ U64 x.last) (hlen : L.length ≤ 1000) : Calls Try.prog 30 #[bufV v, flushV f] w (RetBuf base (L.filter fun x => !takesB f x) w) := by
  rcases h.form with ⟨rfl, rfl⟩ | ⟨g, cap, rfl, hg, _⟩
  · refine (bdrop_nil f hfp w).mono ?_
    rintro e w' ⟨v', rfl, h1, hb⟩
    exact ⟨v', rfl, h1.low hbase, hb⟩
  · refine (bdrop_some g cap L f hfp w hg h.flat hok hlen).mono ?_
    rintro e w' ⟨v', rfl, h1, hb⟩
    exact ⟨v', rfl, h1.low hbase, hb⟩

set_option maxRecDepth 100000 in
set_option maxHeartbeats 4000000 in
theorem bserv_some (g cap : Nat) (L : List E) (sp va : Int) (hva : U64 va) (w : World) (hg : g < w.heap.size) (hF : ∀ (j : Nat) u, (flatE L)[j]? = some u → w.cell? ⟨g, j, none⟩ = some u) (hok : ∀ x ∈ L, U64 x.first ∧ U64 x.last) (hlen : L.length ≤ 1000) :
    Calls Try.prog 34 #[bufV (.slice (some ⟨g, 0, none⟩) L.length cap), .int .i64 sp, .int .u64 va] w (RetLst w.heap.size (L.filter fun x => servesB x sp va) w) := by
  obtain ⟨i0, hi0, hz0, hz1, hz2⟩ := info_parts infoE
  have HL : Hid (∀ (j : Nat) (hj : j < L.length), w.cell? ⟨g, j * 4, none⟩ = some (.int .i64 L[j].space) ∧ w.cell? ⟨g, j * 4 + 1, none⟩ = some (.int .u64 L[j].page) ∧ w.cell? ⟨g, j * 4 + 2, none⟩ = some (.int .u64 L[j].first) ∧ w.cell? ⟨g, j * 4 + 3, none⟩ = some (.int .u64 L[j].last)) := Lib.hid (rowcells hF)
  have HOK := Lib.hid hok
  have hne : g ≠ w.heap.size := Nat.ne_of_lt hg
  have HVA := Lib.hid hva
  clear hva
  simp only [bufV]
  obtain ⟨P, hP⟩ : ∃ P : E → Bool, P = fun x => servesB x sp va := ⟨_, rfl⟩
  have HP := Lib.hid hP
  rw [← hP]
  obtain ⟨n, hn⟩ : ∃ n, n = L.length := ⟨_, rfl⟩
  have HN := Lib.hid hn
  rw [← hn] at hlen ⊢
  clear hn hF hok hP
  go_enter Try.func34, Try.ntmps34
  go_wp2_with fail
  go_loopw [7, 13] (fun o i V => ∃ j : Nat, j ≤ n ∧ i = .int .i64 (j : Nat) ∧ RowE V (w.heap.size + 1) o ((L.take j).filter P) ∧  Below w.heap.size w V ∧ w.heap.size + 1 ≤ V.heap.size) (fun _ i _ => (n - (intOf i)).toNat)
  case atStart => exact ⟨0, by omega, rfl, RowE.nil _ _, (by repeat' (first | with_reducible exact Below.refl _ _ | with_reducible assumption | with_reducible apply below_drewN | with_reducible apply Below.drew | with_reducible refine Below.setCell ?_ ?_ _ | with_reducible refine Below.alloc ?_ ?_ _ | omega | (simp; done) | (simp; omega))), (by first | omega | (simp; done) | (simp; omega))⟩
  case round =>
    obtain ⟨j, hj, rfl, hrow, hB, hBs⟩ := hrel
    have hgV : g < wr.heap.size := by omega
    have hkl := filter_len L P j
    have hK : ∀ (h : j < L.length), (L.take (j + 1)).filter P = if P L[j] = true then (L.take j).filter P ++ [L[j]] else (L.take j).filter P := fun h => filter_step L P j h
    have hE : j = n → (L.take j).filter P = L.filter P := fun h => by rw [h, HN.out, List.take_length]
    obtain ⟨K2, hK2⟩ : ∃ K2, K2 = (L.take (j + 1)).filter P := ⟨_, rfl⟩
    have HK2 := Lib.hid hK2
    rw [← hK2] at hK
    generalize (L.take j).filter P = K at hrow hkl hK hE
    rw [← HN.out] at hkl
    have hrow2 := hrow
    unfold RowE at hrow2
    obtain ⟨ao, c, rfl⟩ := ownsRow_form hrow2
    have HROW := Lib.hid hrow
    obtain ⟨m, hm⟩ : ∃ m, m = K.length := ⟨_, rfl⟩
    have HM := Lib.hid hm
    rw [← hm] at hkl HROW ⊢
    clear hrow hrow2 hm hK2
    by_cases hjn : j < n
    · have han : j < L.length := by have := HN.out; omega
      obtain ⟨e0, e1, e2, e3⟩ := HL.out j han
      have g0 := (hB.cell (p := ⟨g, j * 4, none⟩) hg).trans e0
      have g1 := (hB.cell (p := ⟨g, j * 4 + 1, none⟩) hg).trans e1
      have g2 := (hB.cell (p := ⟨g, j * 4 + 2, none⟩) hg).trans e2
      have g3 := (hB.cell (p := ⟨g, j * 4 + 3, none⟩) hg).trans e3
      have hx := HOK.out _ (List.getElem_mem han)
      have hk2 := hK han
      clear e0 e1 e2 e3 hK hE
      generalize L[j]'han = x at g0 g1 g2 g3 hx hk2
      obtain ⟨xs, xp, xf, xl⟩ := x
      simp only at g0 g1 g2 g3 hx
      obtain ⟨hx1, hx2⟩ := hx
      clear han
      cases hp : servesB ⟨xs, xp, xf, xl⟩ sp va with
      | false =>
        have hpx : P ⟨xs, xp, xf, xl⟩ = false := by rw [HP.out]; simp only [hp]; try rfl
        rw [if_neg (by rw [hpx]; decide)] at hk2
        have HKK := Lib.hid hk2
        have cL : Hid (∀ V, Calls Try.prog 17 #[.agg #[.int .i64 xs, .int .u64 xp, .int .u64 xf, .int .u64 xl], .int .i64 sp, .int .u64 va] V (RetB (.bool false) V)) := Lib.hid fun V => by
          have := serves_any ⟨xs, xp, xf, xl⟩ sp va V hx1 hx2 HVA.out
          rw [hp] at this
          exact this
        clear hp hpx hx1 hx2 hk2
        go_wp2_with (go_at_call 17; (with_reducible refine (cL.out _).mono ?_); rintro e wq ⟨rfl, hb⟩; have BW : Below wr.heap.size wr wq := Below.trans (by repeat' (first | with_reducible exact Below.refl _ _ | with_reducible assumption | with_reducible apply below_drewN | with_reducible apply Below.drew | with_reducible refine Below.setCell ?_ ?_ _ | with_reducible refine Below.alloc ?_ ?_ _ | omega | (simp; done) | (simp; omega))) (hb.mono (by first | omega | (simp; done) | (simp; omega))); have hB2 : Below w.heap.size w wq := hB.trans (BW.mono (by omega)); have BWs := BW.size; have HROW2 := Lib.hid (HROW.out.below BW); have hbt := (hb.block wr.heap.size (by first | omega | (simp; done) | (simp; omega))).trans (by (repeat (first | assumption | (refine heap_new _ _ _ ?_; simp; done) | refine heap_old _ _ _ _ ?_)) : _ = some (.cells #[.int .i64 xs, .int .u64 xp, .int .u64 xf, .int .u64 xl] 27)); obtain ⟨x2, y2, z2, t2⟩ := block_cells hbt; have x20 := x2 0 _ rfl; have x21 := x2 1 _ rfl; have x22 := x2 2 _ rfl; have x23 := x2 3 _ rfl; clear hb x2 hbt)
        go_roundw
        case rel => exact ⟨j + 1, by omega, by go_num, by rw [← HK2.out, HKK.out]; exact HROW2.out, hB2, by omega⟩
        case measure => first | (simp [intOf]; done) | (simp [intOf]; omega)
      | true =>
        have hpx : P ⟨xs, xp, xf, xl⟩ = true := by rw [HP.out]; simp only [hp]; try rfl
        rw [if_pos hpx] at hk2
        have HKK := Lib.hid hk2
        have cL : Hid (∀ V, Calls Try.prog 17 #[.agg #[.int .i64 xs, .int .u64 xp, .int .u64 xf, .int .u64 xl], .int .i64 sp, .int .u64 va] V (RetB (.bool true) V)) := Lib.hid fun V => by
          have := serves_any ⟨xs, xp, xf, xl⟩ sp va V hx1 hx2 HVA.out
          rw [hp] at this
          exact this
        clear hp hpx hx1 hx2 hk2
        go_wp2_with (first | (go_at_call 17; (with_reducible refine (cL.out _).mono ?_); rintro e wq ⟨rfl, hb⟩; have BW : Below wr.heap.size wr wq := Below.trans (by repeat' (first | with_reducible exact Below.refl _ _ | with_reducible assumption | with_reducible apply below_drewN | with_reducible apply Below.drew | with_reducible refine Below.setCell ?_ ?_ _ | with_reducible refine Below.alloc ?_ ?_ _ | omega | (simp; done) | (simp; omega))) (hb.mono (by first | omega | (simp; done) | (simp; omega))); have hB2 : Below w.heap.size w wq := hB.trans (BW.mono (by omega)); have BWs := BW.size; have HROW2 := Lib.hid (HROW.out.below BW); have hbt := (hb.block wr.heap.size (by first | omega | (simp; done) | (simp; omega))).trans (by (repeat (first | assumption | (refine heap_new _ _ _ ?_; simp; done) | refine heap_old _ _ _ _ ?_)) : _ = some (.cells #[.int .i64 xs, .int .u64 xp, .int .u64 xf, .int .u64 xl] 27)); obtain ⟨x2, y2, z2, t2⟩ := block_cells hbt; have x20 := x2 0 _ rfl; have x21 := x2 1 _ rfl; have x22 := x2 2 _ rfl; have x23 := x2 3 _ rfl; clear hb x2 hbt) | (at_builtin; (refine wpList_append_gen rfl (.tmp 21) (.tmp 23) 40 rfl (w.heap.size + 1) 27 i0 (.agg #[.int .i64 0, .int .u64 0, .int .u64 0, .int .u64 0]) 4 32 Try.underlying40 hi0 hz0 hz1 hz2 rfl (by decide) _ m (flatE K) rfl (by have := HROW2.out; unfold RowE at this; rw [← HM.out] at this; exact this.alloc _) (some ⟨wq.heap.size, 0, none⟩) 1 1 (cellsE ⟨xs, xp, xf, xl⟩) rfl (fun h => by cases h) rfl (new_cells wq #[.int .i64 xs, .int .u64 xp, .int .u64 xf, .int .u64 xl] _) (cellsE_one _) (by unfold maxLen; omega) (by omega) (by simp; omega) ?_); intro a2 c2 w2 ho hg2 _; (have B2 : Below (w.heap.size + 1) wq w2 := (((Below.refl _ wq).alloc (by omega) _).grown hg2 (by simp; omega) (fun k hk => (HROW2.out.lt k hk).1))); have G2 := Lib.hid ho; have B2s := B2.size; clear ho hg2))
        go_roundw
        case rel => exact ⟨j + 1, by omega, by go_num, by rw [← HK2.out, HKK.out]; unfold RowE; rw [List.length_append, flatE_snoc, ← HM.out]; exact G2.out, hB2.trans (B2.mono (by omega)), by omega⟩
        case measure => first | (simp [intOf]; done) | (simp [intOf]; omega)
    · obtain rfl : j = n := by omega
      have HE := Lib.hid (hE rfl)
      clear hK hE
      go_wp2_with fail
      go_ret
      refine ⟨_, rfl, ?_, hB⟩
      rw [← HE.out]
      have := HROW.out
      rw [HM.out] at this
      have h2 := this.low (base' := w.heap.size) (by omega)
      rw [HM.out]
      exact h2

set_option maxHeartbeats 1000000 in
theorem bserv_nil (sp va : Int) (hva : U64 va) (w : World) : Calls Try.prog 34 #[bufV (.slice none 0 0), .int .i64 sp, .int .u64 va] w (RetLst w.heap.size [] w) := by
  have HVA := Lib.hid hva
  clear hva
  simp only [bufV]
  go_enter Try.func34, Try.ntmps34
  go_wp2_with fail
  go_loopw [7, 13] (fun o i V => o = .slice none 0 0 ∧ i = .int .i64 0 ∧ Below w.heap.size w V) (fun _ i _ => 0)
  case atStart => exact ⟨rfl, rfl, by repeat' (first | with_reducible exact Below.refl _ _ | with_reducible assumption | with_reducible apply below_drewN | with_reducible apply Below.drew | with_reducible refine Below.setCell ?_ ?_ _ | with_reducible refine Below.alloc ?_ ?_ _ | omega | (simp; done) | (simp; omega))⟩
  case round =>
    obtain ⟨rfl, rfl, hB⟩ := hrel
    go_wp2_with fail
    go_ret
    exact ⟨_, rfl, RowE.nil _ _, hB⟩

theorem bserv_any (base : Nat) (v : Value) (L : List E) (sp va : Int) (hva : U64 va) (w : World) (h : RowE w base v L) (hbase : base ≤ w.heap.size) (hok : ∀ x ∈ L, U64 x.first ∧ U64 x.last) (hlen : L.length ≤ 1000) : Calls Try.prog 34 #[bufV v, .int .i64 sp, .int .u64 va] w (RetLst base (L.filter fun x => servesB x sp va) w) := by
  rcases h.form with ⟨rfl, rfl⟩ | ⟨g, cap, rfl, hg, _⟩
  · refine (bserv_nil sp va hva w).mono ?_
    rintro e w' ⟨v', rfl, h1, hb⟩
    exact ⟨v', rfl, h1.low hbase, hb⟩
  · refine (bserv_some g cap L sp va hva w hg h.flat hok hlen).mono ?_
    rintro e w' ⟨v', rfl, h1, hb⟩
    exact ⟨v', rfl, h1.low hbase, hb⟩

end Go.Proofs.Ytcaggboeacgknaa
