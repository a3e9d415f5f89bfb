/- The reference's Without, Drop, Serving: written by gen_filt.py. -/
import Derived.Test.YtcaggboeacgknaaRefe
namespace Go.Proofs.Ytcaggboeacgknaa
open Go.RowKit
set_option linter.unusedSimpArgs false
set_option linter.unusedVariables false

theorem filter_step (L : List E) (p : E → Bool) (j : Nat) (hj : j < L.length) : (L.take (j + 1)).filter p = if p L[j] = true then (L.take j).filter p ++ [L[j]] else (L.take j).filter p := by
  rw [List.take_succ_eq_append_getElem hj, List.filter_append]
  by_cases h : p L[j] = true
  · rw [if_pos h]; simp [h]
  · rw [if_neg h]; simp [h]
theorem filter_len (L : List E) (p : E → Bool) (j : Nat) : ((L.take j).filter p).length ≤ L.length :=
  Nat.le_trans (List.length_filter_le _ _) (by rw [List.length_take]; exact Nat.min_le_right _ _)
theorem RowE.flat {w : World} {base g n cap : Nat} {L : List E} (h : RowE w base (.slice (some ⟨g, 0, none⟩) n cap) L) : ∀ (j : Nat) u, (flatE L)[j]? = some u → w.cell? ⟨g, j, none⟩ = some u := fun j u hj => by
  have h1 := h
  unfold RowE at h1
  rcases h1.2 with ⟨hv, _⟩ | ⟨g', cap', cur, hv, _⟩
  · cases hv
  · simp only [Value.slice.injEq, Option.some.injEq, Addr.mk.injEq, and_true, true_and] at hv
    obtain ⟨rfl, rfl, rfl⟩ := hv
    have hj' := (List.getElem?_eq_some_iff.1 hj).1
    rw [flatE_len] at hj'
    rw [h1.cellAt j hj', hj]


set_option maxRecDepth 100000 in
set_option maxHeartbeats 4000000 in
theorem rdrop_some (g cap : Nat) (L : List E) (f : F) (hfp : U64 f.page) (w : World) (hg : g < w.heap.size) (hF : ∀ (j : Nat) u, (flatE L)[j]? = some u → w.cell? ⟨g, j, none⟩ = some u) (hok : ∀ x ∈ L, U64 x.first ∧ U64 x.last) (hlen : L.length ≤ 1000) :
    Calls Try.prog 55 #[.slice (some ⟨g, 0, none⟩) L.length cap, flushV f] w (RetLst w.heap.size (L.filter fun x => !takesB f x) w) := by
  obtain ⟨i0, hi0, hz0, hz1, hz2⟩ := info_parts infoE
  have HL : Hid (∀ (j : Nat) (hj : j < L.length), w.cell? ⟨g, j * 4, none⟩ = some (.int .i64 L[j].space) ∧ w.cell? ⟨g, j * 4 + 1, none⟩ = some (.int .u64 L[j].page) ∧ w.cell? ⟨g, j * 4 + 2, none⟩ = some (.int .u64 L[j].first) ∧ w.cell? ⟨g, j * 4 + 3, none⟩ = some (.int .u64 L[j].last)) := Lib.hid (rowcells hF)
  have HOK := Lib.hid hok
  have hne : g ≠ w.heap.size := Nat.ne_of_lt hg
  obtain ⟨fk, fp, fs⟩ := f
  have HFP := Lib.hid hfp
  clear hfp
  simp only [flushV]
  obtain ⟨P, hP⟩ : ∃ P : E → Bool, P = fun x => !takesB ⟨fk, fp, fs⟩ x := ⟨_, rfl⟩
  have HP := Lib.hid hP
  rw [← hP]
  obtain ⟨n, hn⟩ : ∃ n, n = L.length := ⟨_, rfl⟩
  have HN := Lib.hid hn
  rw [← hn] at hlen ⊢
  clear hn hF hok hP
  go_enter Try.func55, Try.ntmps55
  go_wp2_with fail
  go_loopw [5, 6] (fun o i V => ∃ j : Nat, j ≤ n ∧ i = .int .i64 (j : Nat) ∧ RowE V (w.heap.size + 1) o ((L.take j).filter P) ∧ V.heap[w.heap.size]? = some (.cells #[.int .i64 fk, .int .u64 fp, .int .i64 fs] 35) ∧ Below w.heap.size w V) (fun _ i _ => (n - (intOf i)).toNat)
  case atStart => exact ⟨0, by omega, rfl, RowE.nil _ _, (by (repeat (first | assumption | (refine heap_new _ _ _ ?_; simp; done) | refine heap_old _ _ _ _ ?_))), by repeat' (first | with_reducible exact Below.refl _ _ | with_reducible assumption | with_reducible apply below_drewN | with_reducible apply Below.drew | with_reducible refine Below.setCell ?_ ?_ _ | with_reducible refine Below.alloc ?_ ?_ _ | omega | (simp; done) | (simp; omega))⟩
  case round =>
    obtain ⟨j, hj, rfl, hrow, hblk, hB⟩ := hrel
    have hBs := hB.size
    have hgV : g < wr.heap.size := by omega
    have hkl := filter_len L P j
    have hK : ∀ (h : j < L.length), (L.take (j + 1)).filter P = if P L[j] = true then (L.take j).filter P ++ [L[j]] else (L.take j).filter P := fun h => filter_step L P j h
    have hE : j = n → (L.take j).filter P = L.filter P := fun h => by rw [h, HN.out, List.take_length]
    obtain ⟨K2, hK2⟩ : ∃ K2, K2 = (L.take (j + 1)).filter P := ⟨_, rfl⟩
    have HK2 := Lib.hid hK2
    rw [← hK2] at hK
    generalize (L.take j).filter P = K at hrow hkl hK hE
    rw [← HN.out] at hkl
    have hrow2 := hrow
    unfold RowE at hrow2
    obtain ⟨ao, c, rfl⟩ := ownsRow_form hrow2
    have HROW := Lib.hid hrow
    obtain ⟨m, hm⟩ : ∃ m, m = K.length := ⟨_, rfl⟩
    have HM := Lib.hid hm
    rw [← hm] at hkl HROW ⊢
    clear hrow hrow2 hm hK2
    obtain ⟨c4, f4, l4, n4⟩ := block_cells hblk
    have d0 := c4 0 _ rfl
    have d1 := c4 1 _ rfl
    have d2 := c4 2 _ rfl
    have HBK := Lib.hid hblk
    clear c4 hblk
    by_cases hjn : j < n
    · have han : j < L.length := by have := HN.out; omega
      obtain ⟨e0, e1, e2, e3⟩ := HL.out j han
      have g0 := (hB.cell (p := ⟨g, j * 4, none⟩) hg).trans e0
      have g1 := (hB.cell (p := ⟨g, j * 4 + 1, none⟩) hg).trans e1
      have g2 := (hB.cell (p := ⟨g, j * 4 + 2, none⟩) hg).trans e2
      have g3 := (hB.cell (p := ⟨g, j * 4 + 3, none⟩) hg).trans e3
      have hx := HOK.out _ (List.getElem_mem han)
      have hk2 := hK han
      clear e0 e1 e2 e3 hK hE
      generalize L[j]'han = x at g0 g1 g2 g3 hx hk2
      obtain ⟨xs, xp, xf, xl⟩ := x
      simp only at g0 g1 g2 g3 hx
      obtain ⟨hx1, hx2⟩ := hx
      clear han
      cases hp : takesB ⟨fk, fp, fs⟩ ⟨xs, xp, xf, xl⟩ with
      | false =>
        have hpx : P ⟨xs, xp, xf, xl⟩ = true := by rw [HP.out]; simp only [hp]; try rfl
        rw [if_pos hpx] at hk2
        have HKK := Lib.hid hk2
        have cL : Hid (∀ V, Calls Try.prog 20 #[.agg #[.int .i64 fk, .int .u64 fp, .int .i64 fs], .agg #[.int .i64 xs, .int .u64 xp, .int .u64 xf, .int .u64 xl]] V (RetB (.bool false) V)) := Lib.hid fun V => by
          have := refTakes_any ⟨fk, fp, fs⟩ ⟨xs, xp, xf, xl⟩ V HFP.out hx1 hx2
          rw [hp] at this
          exact this
        clear hp hpx hx1 hx2 hk2
        go_wp2_with fail
        refine wp_region_qbn (by kernel_rfl) (by kernel_rfl) (fun kq => ?_); have kq0 := kq (w.heap.size) (by first | omega | (simp; done) | (simp; omega)); have kq1 := kq (g) (by first | omega | (simp; done) | (simp; omega)); clear kq; (repeat (go_big_quiet_step ((go_at_call 20; exact quietB (cL.out _))))); refine wpQuiet_nil ?_; clear kq0 kq1; intro wq hb
        have hB2 : Below w.heap.size w wq := hB.trans (hb.mono hBs)
        have hBs2 := hB2.size
        have HROW2 := Lib.hid (HROW.out.below hb)
        have gk0 := (hb.cell (p := ⟨g, j * 4, none⟩) hgV).trans g0
        have gk1 := (hb.cell (p := ⟨g, j * 4 + 1, none⟩) hgV).trans g1
        have gk2 := (hb.cell (p := ⟨g, j * 4 + 2, none⟩) hgV).trans g2
        have gk3 := (hb.cell (p := ⟨g, j * 4 + 3, none⟩) hgV).trans g3
        have hsz2 := hb.size
        have HBK2 := Lib.hid ((hb.block w.heap.size l4).trans HBK.out)
        clear hb
        go_wp2_with (at_builtin; (refine wpList_append_gen rfl (.tmp 20) (.tmp 25) 40 rfl (w.heap.size + 1) 27 i0 (.agg #[.int .i64 0, .int .u64 0, .int .u64 0, .int .u64 0]) 4 32 Try.underlying40 hi0 hz0 hz1 hz2 rfl (by decide) _ m (flatE K) rfl (by have := HROW2.out; unfold RowE at this; rw [← HM.out] at this; exact this.alloc _) (some ⟨wq.heap.size, 0, none⟩) 1 1 (cellsE ⟨xs, xp, xf, xl⟩) rfl (fun h => by cases h) rfl (new_cells wq #[.int .i64 xs, .int .u64 xp, .int .u64 xf, .int .u64 xl] _) (cellsE_one _) (by unfold maxLen; omega) (by omega) (by simp; omega) ?_); intro a2 c2 w2 ho hg2 _; (have B2 : Below (w.heap.size + 1) wq w2 := (((Below.refl _ wq).alloc (by omega) _).grown hg2 (by simp; omega) (fun k hk => (HROW2.out.lt k hk).1))); have G2 := Lib.hid ho; clear ho hg2)
        go_roundw
        case rel => exact ⟨j + 1, by omega, by go_num, by rw [← HK2.out, HKK.out]; unfold RowE; rw [List.length_append, flatE_snoc, ← HM.out]; exact G2.out, (B2.block w.heap.size (by omega)).trans HBK2.out, hB2.trans (B2.mono (by omega))⟩
        case measure => first | (simp [intOf]; done) | (simp [intOf]; omega)
      | true =>
        have hpx : P ⟨xs, xp, xf, xl⟩ = false := by rw [HP.out]; simp only [hp]; try rfl
        rw [if_neg (by rw [hpx]; decide)] at hk2
        have HKK := Lib.hid hk2
        have cL : Hid (∀ V, Calls Try.prog 20 #[.agg #[.int .i64 fk, .int .u64 fp, .int .i64 fs], .agg #[.int .i64 xs, .int .u64 xp, .int .u64 xf, .int .u64 xl]] V (RetB (.bool true) V)) := Lib.hid fun V => by
          have := refTakes_any ⟨fk, fp, fs⟩ ⟨xs, xp, xf, xl⟩ V HFP.out hx1 hx2
          rw [hp] at this
          exact this
        clear hp hpx hx1 hx2 hk2
        go_wp2_with fail
        refine wp_region_qbn (by kernel_rfl) (by kernel_rfl) (fun kq => ?_); have kq0 := kq (w.heap.size) (by first | omega | (simp; done) | (simp; omega)); have kq1 := kq (g) (by first | omega | (simp; done) | (simp; omega)); clear kq; (repeat (go_big_quiet_step ((go_at_call 20; exact quietB (cL.out _))))); refine wpQuiet_nil ?_; clear kq0 kq1; intro wq hb
        have hB2 : Below w.heap.size w wq := hB.trans (hb.mono hBs)
        have hBs2 := hB2.size
        have HROW2 := Lib.hid (HROW.out.below hb)
        have gk0 := (hb.cell (p := ⟨g, j * 4, none⟩) hgV).trans g0
        have gk1 := (hb.cell (p := ⟨g, j * 4 + 1, none⟩) hgV).trans g1
        have gk2 := (hb.cell (p := ⟨g, j * 4 + 2, none⟩) hgV).trans g2
        have gk3 := (hb.cell (p := ⟨g, j * 4 + 3, none⟩) hgV).trans g3
        have hsz2 := hb.size
        have HBK2 := Lib.hid ((hb.block w.heap.size l4).trans HBK.out)
        clear hb
        go_wp2_with fail
        go_roundw
        case rel => exact ⟨j + 1, by omega, by go_num, by rw [← HK2.out, HKK.out]; exact HROW2.out, HBK2.out, hB2⟩
        case measure => first | (simp [intOf]; done) | (simp [intOf]; omega)
    · obtain rfl : j = n := by omega
      have HE := Lib.hid (hE rfl)
      clear hK hE
      go_wp2_with fail
      go_ret
      refine ⟨_, rfl, ?_, hB⟩
      rw [← HE.out]
      have := HROW.out
      rw [HM.out] at this
      have h2 := this.low (base' := w.heap.size) (by omega)
      rw [HM.out]
      exact h2

set_option maxHeartbeats 1000000 in
theorem rdrop_nil (f : F) (hfp : U64 f.page) (w : World) : Calls Try.prog 55 #[.slice none 0 0, flushV f] w (RetLst w.heap.size [] w) := by
  obtain ⟨fk, fp, fs⟩ := f
  have HFP := Lib.hid hfp
  clear hfp
  simp only [flushV]
  go_enter Try.func55, Try.ntmps55
  go_wp2_with fail
  go_loopw [5, 6] (fun o i V => o = .slice none 0 0 ∧ i = .int .i64 0 ∧ Below w.heap.size w V) (fun _ i _ => 0)
  case atStart => exact ⟨rfl, rfl, by repeat' (first | with_reducible exact Below.refl _ _ | with_reducible assumption | with_reducible apply below_drewN | with_reducible apply Below.drew | with_reducible refine Below.setCell ?_ ?_ _ | with_reducible refine Below.alloc ?_ ?_ _ | omega | (simp; done) | (simp; omega))⟩
  case round =>
    obtain ⟨rfl, rfl, hB⟩ := hrel
    go_wp2_with fail
    go_ret
    exact ⟨_, rfl, RowE.nil _ _, hB⟩

theorem rdrop_any (base : Nat) (v : Value) (L : List E) (f : F) (hfp : U64 f.page) (w : World) (h : RowE w base v L) (hbase : base ≤ w.heap.size) (hok : ∀ x ∈ L, U64 x.first ∧ U64 x.last) (hlen : L.length ≤ 1000) : Calls Try.prog 55 #[v, flushV f] w (RetLst base (L.filter fun x => !takesB f x) w) := by
  rcases h.form with ⟨rfl, rfl⟩ | ⟨g, cap, rfl, hg, _⟩
  · refine (rdrop_nil f hfp w).mono ?_
    rintro e w' ⟨v', rfl, h1, hb⟩
    exact ⟨v', rfl, h1.low hbase, hb⟩
  · refine (rdrop_some g cap L f hfp w hg h.flat hok hlen).mono ?_
    rintro e w' ⟨v', rfl, h1, hb⟩
    exact ⟨v', rfl, h1.low hbase, hb⟩

set_option maxRecDepth 100000 in
set_option maxHeartbeats 4000000 in
theorem rwout_some (g cap : Nat) (L : List E) (e : E) (w : World) (hg : g < w.heap.size) (hF : ∀ (j : Nat) u, (flatE L)[j]? = some u → w.cell? ⟨g, j, none⟩ = some u) (hok : ∀ x ∈ L, U64 x.first ∧ U64 x.last) (hlen : L.length ≤ 1000) :
    Calls Try.prog 54 #[.slice (some ⟨g, 0, none⟩) L.length cap, entV e] w (RetLst w.heap.size (L.filter fun x => !decide (x = e)) w) := by
  obtain ⟨i0, hi0, hz0, hz1, hz2⟩ := info_parts infoE
  have HL : Hid (∀ (j : Nat) (hj : j < L.length), w.cell? ⟨g, j * 4, none⟩ = some (.int .i64 L[j].space) ∧ w.cell? ⟨g, j * 4 + 1, none⟩ = some (.int .u64 L[j].page) ∧ w.cell? ⟨g, j * 4 + 2, none⟩ = some (.int .u64 L[j].first) ∧ w.cell? ⟨g, j * 4 + 3, none⟩ = some (.int .u64 L[j].last)) := Lib.hid (rowcells hF)
  have HOK := Lib.hid hok
  have hne : g ≠ w.heap.size := Nat.ne_of_lt hg
  obtain ⟨s, p, f, l⟩ := e
  simp only [entV]
  obtain ⟨P, hP⟩ : ∃ P : E → Bool, P = fun x => !decide (x = ⟨s, p, f, l⟩) := ⟨_, rfl⟩
  have HP := Lib.hid hP
  rw [← hP]
  obtain ⟨n, hn⟩ : ∃ n, n = L.length := ⟨_, rfl⟩
  have HN := Lib.hid hn
  rw [← hn] at hlen ⊢
  clear hn hF hok hP
  go_enter Try.func54, Try.ntmps54
  go_wp2_with fail
  go_loopw [5, 6] (fun o i V => ∃ j : Nat, j ≤ n ∧ i = .int .i64 (j : Nat) ∧ RowE V (w.heap.size + 1) o ((L.take j).filter P) ∧ V.heap[w.heap.size]? = some (.cells #[.int .i64 s, .int .u64 p, .int .u64 f, .int .u64 l] 27) ∧ Below w.heap.size w V) (fun _ i _ => (n - (intOf i)).toNat)
  case atStart => exact ⟨0, by omega, rfl, RowE.nil _ _, (by (repeat (first | assumption | (refine heap_new _ _ _ ?_; simp; done) | refine heap_old _ _ _ _ ?_))), by repeat' (first | with_reducible exact Below.refl _ _ | with_reducible assumption | with_reducible apply below_drewN | with_reducible apply Below.drew | with_reducible refine Below.setCell ?_ ?_ _ | with_reducible refine Below.alloc ?_ ?_ _ | omega | (simp; done) | (simp; omega))⟩
  case round =>
    obtain ⟨j, hj, rfl, hrow, hblk, hB⟩ := hrel
    have hBs := hB.size
    have hgV : g < wr.heap.size := by omega
    have hkl := filter_len L P j
    have hK : ∀ (h : j < L.length), (L.take (j + 1)).filter P = if P L[j] = true then (L.take j).filter P ++ [L[j]] else (L.take j).filter P := fun h => filter_step L P j h
    have hE : j = n → (L.take j).filter P = L.filter P := fun h => by rw [h, HN.out, List.take_length]
    obtain ⟨K2, hK2⟩ : ∃ K2, K2 = (L.take (j + 1)).filter P := ⟨_, rfl⟩
    have HK2 := Lib.hid hK2
    rw [← hK2] at hK
    generalize (L.take j).filter P = K at hrow hkl hK hE
    rw [← HN.out] at hkl
    have hrow2 := hrow
    unfold RowE at hrow2
    obtain ⟨ao, c, rfl⟩ := ownsRow_form hrow2
    have HROW := Lib.hid hrow
    obtain ⟨m, hm⟩ : ∃ m, m = K.length := ⟨_, rfl⟩
    have HM := Lib.hid hm
    rw [← hm] at hkl HROW ⊢
    clear hrow hrow2 hm hK2
    obtain ⟨c4, f4, l4, n4⟩ := block_cells hblk
    have d0 := c4 0 _ rfl
    have d1 := c4 1 _ rfl
    have d2 := c4 2 _ rfl
    have d3 := c4 3 _ rfl
    have HBK := Lib.hid hblk
    clear c4 hblk
    by_cases hjn : j < n
    · have han : j < L.length := by have := HN.out; omega
      obtain ⟨e0, e1, e2, e3⟩ := HL.out j han
      have g0 := (hB.cell (p := ⟨g, j * 4, none⟩) hg).trans e0
      have g1 := (hB.cell (p := ⟨g, j * 4 + 1, none⟩) hg).trans e1
      have g2 := (hB.cell (p := ⟨g, j * 4 + 2, none⟩) hg).trans e2
      have g3 := (hB.cell (p := ⟨g, j * 4 + 3, none⟩) hg).trans e3
      have hx := HOK.out _ (List.getElem_mem han)
      have hk2 := hK han
      clear e0 e1 e2 e3 hK hE
      generalize L[j]'han = x at g0 g1 g2 g3 hx hk2
      obtain ⟨xs, xp, xf, xl⟩ := x
      simp only at g0 g1 g2 g3 hx
      obtain ⟨hx1, hx2⟩ := hx
      clear han
      cases hp : decide ((⟨xs, xp, xf, xl⟩ : E) = ⟨s, p, f, l⟩) with
      | false =>
        have hpx : P ⟨xs, xp, xf, xl⟩ = true := by rw [HP.out]; simp only [hp]; try rfl
        rw [if_pos hpx] at hk2
        have HKK := Lib.hid hk2
        have hq : ∀ w, (binOp .neq 27 (.agg #[.int .i64 xs, .int .u64 xp, .int .u64 xf, .int .u64 xl]) (.agg #[.int .i64 s, .int .u64 p, .int .u64 f, .int .u64 l])).run Try.prog w = .ok (.bool true) w := fun w => by
          have := neqE ⟨xs, xp, xf, xl⟩ ⟨s, p, f, l⟩ w
          rw [hp] at this
          exact this
        clear hp hpx hx1 hx2 hk2
        go_wp2_with fail
        refine wp_region_qbn (by kernel_rfl) (by kernel_rfl) (fun kq => ?_); have kq0 := kq (w.heap.size) (by first | omega | (simp; done) | (simp; omega)); have kq1 := kq (g) (by first | omega | (simp; done) | (simp; omega)); clear kq; (repeat (go_big_quiet_step (fail))); refine wpQuiet_nil ?_; clear kq0 kq1; intro wq hb
        have hB2 : Below w.heap.size w wq := hB.trans (hb.mono hBs)
        have hBs2 := hB2.size
        have HROW2 := Lib.hid (HROW.out.below hb)
        have gk0 := (hb.cell (p := ⟨g, j * 4, none⟩) hgV).trans g0
        have gk1 := (hb.cell (p := ⟨g, j * 4 + 1, none⟩) hgV).trans g1
        have gk2 := (hb.cell (p := ⟨g, j * 4 + 2, none⟩) hgV).trans g2
        have gk3 := (hb.cell (p := ⟨g, j * 4 + 3, none⟩) hgV).trans g3
        have hsz2 := hb.size
        have HBK2 := Lib.hid ((hb.block w.heap.size l4).trans HBK.out)
        clear hb
        go_wp2_with (at_builtin; (refine wpList_append_gen rfl (.tmp 19) (.tmp 24) 40 rfl (w.heap.size + 1) 27 i0 (.agg #[.int .i64 0, .int .u64 0, .int .u64 0, .int .u64 0]) 4 32 Try.underlying40 hi0 hz0 hz1 hz2 rfl (by decide) _ m (flatE K) rfl (by have := HROW2.out; unfold RowE at this; rw [← HM.out] at this; exact this.alloc _) (some ⟨wq.heap.size, 0, none⟩) 1 1 (cellsE ⟨xs, xp, xf, xl⟩) rfl (fun h => by cases h) rfl (new_cells wq #[.int .i64 xs, .int .u64 xp, .int .u64 xf, .int .u64 xl] _) (cellsE_one _) (by unfold maxLen; omega) (by omega) (by simp; omega) ?_); intro a2 c2 w2 ho hg2 _; (have B2 : Below (w.heap.size + 1) wq w2 := (((Below.refl _ wq).alloc (by omega) _).grown hg2 (by simp; omega) (fun k hk => (HROW2.out.lt k hk).1))); have G2 := Lib.hid ho; clear ho hg2)
        go_roundw
        case rel => exact ⟨j + 1, by omega, by go_num, by rw [← HK2.out, HKK.out]; unfold RowE; rw [List.length_append, flatE_snoc, ← HM.out]; exact G2.out, (B2.block w.heap.size (by omega)).trans HBK2.out, hB2.trans (B2.mono (by omega))⟩
        case measure => first | (simp [intOf]; done) | (simp [intOf]; omega)
      | true =>
        have hpx : P ⟨xs, xp, xf, xl⟩ = false := by rw [HP.out]; simp only [hp]; try rfl
        rw [if_neg (by rw [hpx]; decide)] at hk2
        have HKK := Lib.hid hk2
        have hq : ∀ w, (binOp .neq 27 (.agg #[.int .i64 xs, .int .u64 xp, .int .u64 xf, .int .u64 xl]) (.agg #[.int .i64 s, .int .u64 p, .int .u64 f, .int .u64 l])).run Try.prog w = .ok (.bool false) w := fun w => by
          have := neqE ⟨xs, xp, xf, xl⟩ ⟨s, p, f, l⟩ w
          rw [hp] at this
          exact this
        clear hp hpx hx1 hx2 hk2
        go_wp2_with fail
        refine wp_region_qbn (by kernel_rfl) (by kernel_rfl) (fun kq => ?_); have kq0 := kq (w.heap.size) (by first | omega | (simp; done) | (simp; omega)); have kq1 := kq (g) (by first | omega | (simp; done) | (simp; omega)); clear kq; (repeat (go_big_quiet_step (fail))); refine wpQuiet_nil ?_; clear kq0 kq1; intro wq hb
        have hB2 : Below w.heap.size w wq := hB.trans (hb.mono hBs)
        have hBs2 := hB2.size
        have HROW2 := Lib.hid (HROW.out.below hb)
        have gk0 := (hb.cell (p := ⟨g, j * 4, none⟩) hgV).trans g0
        have gk1 := (hb.cell (p := ⟨g, j * 4 + 1, none⟩) hgV).trans g1
        have gk2 := (hb.cell (p := ⟨g, j * 4 + 2, none⟩) hgV).trans g2
        have gk3 := (hb.cell (p := ⟨g, j * 4 + 3, none⟩) hgV).trans g3
        have hsz2 := hb.size
        have HBK2 := Lib.hid ((hb.block w.heap.size l4).trans HBK.out)
        clear hb
        go_wp2_with fail
        go_roundw
        case rel => exact ⟨j + 1, by omega, by go_num, by rw [← HK2.out, HKK.out]; exact HROW2.out, HBK2.out, hB2⟩
        case measure => first | (simp [intOf]; done) | (simp [intOf]; omega)
    · obtain rfl : j = n := by omega
      have HE := Lib.hid (hE rfl)
      clear hK hE
      go_wp2_with fail
      go_ret
      refine ⟨_, rfl, ?_, hB⟩
      rw [← HE.out]
      have := HROW.out
      rw [HM.out] at this
      have h2 := this.low (base' := w.heap.size) (by omega)
      rw [HM.out]
      exact h2

set_option maxHeartbeats 1000000 in
theorem rwout_nil (e : E) (w : World) : Calls Try.prog 54 #[.slice none 0 0, entV e] w (RetLst w.heap.size [] w) := by
  obtain ⟨s, p, f, l⟩ := e
  simp only [entV]
  go_enter Try.func54, Try.ntmps54
  go_wp2_with fail
  go_loopw [5, 6] (fun o i V => o = .slice none 0 0 ∧ i = .int .i64 0 ∧ Below w.heap.size w V) (fun _ i _ => 0)
  case atStart => exact ⟨rfl, rfl, by repeat' (first | with_reducible exact Below.refl _ _ | with_reducible assumption | with_reducible apply below_drewN | with_reducible apply Below.drew | with_reducible refine Below.setCell ?_ ?_ _ | with_reducible refine Below.alloc ?_ ?_ _ | omega | (simp; done) | (simp; omega))⟩
  case round =>
    obtain ⟨rfl, rfl, hB⟩ := hrel
    go_wp2_with fail
    go_ret
    exact ⟨_, rfl, RowE.nil _ _, hB⟩

theorem rwout_any (base : Nat) (v : Value) (L : List E) (e : E) (w : World) (h : RowE w base v L) (hbase : base ≤ w.heap.size) (hok : ∀ x ∈ L, U64 x.first ∧ U64 x.last) (hlen : L.length ≤ 1000) : Calls Try.prog 54 #[v, entV e] w (RetLst base (L.filter fun x => !decide (x = e)) w) := by
  rcases h.form with ⟨rfl, rfl⟩ | ⟨g, cap, rfl, hg, _⟩
  · refine (rwout_nil e w).mono ?_
    rintro e w' ⟨v', rfl, h1, hb⟩
    exact ⟨v', rfl, h1.low hbase, hb⟩
  · refine (rwout_some g cap L e w hg h.flat hok hlen).mono ?_
    rintro e w' ⟨v', rfl, h1, hb⟩
    exact ⟨v', rfl, h1.low hbase, hb⟩

set_option maxRecDepth 100000 in
set_option maxHeartbeats 4000000 in
theorem rserv_some (g cap : Nat) (L : List E) (sp va : Int) (hva : U64 va) (w : World) (hg : g < w.heap.size) (hF : ∀ (j : Nat) u, (flatE L)[j]? = some u → w.cell? ⟨g, j, none⟩ = some u) (hok : ∀ x ∈ L, U64 x.first ∧ U64 x.last) (hlen : L.length ≤ 1000) :
    Calls Try.prog 35 #[.slice (some ⟨g, 0, none⟩) L.length cap, .int .i64 sp, .int .u64 va] w (RetLst w.heap.size (L.filter fun x => servesB x sp va) w) := by
  obtain ⟨i0, hi0, hz0, hz1, hz2⟩ := info_parts infoE
  have HL : Hid (∀ (j : Nat) (hj : j < L.length), w.cell? ⟨g, j * 4, none⟩ = some (.int .i64 L[j].space) ∧ w.cell? ⟨g, j * 4 + 1, none⟩ = some (.int .u64 L[j].page) ∧ w.cell? ⟨g, j * 4 + 2, none⟩ = some (.int .u64 L[j].first) ∧ w.cell? ⟨g, j * 4 + 3, none⟩ = some (.int .u64 L[j].last)) := Lib.hid (rowcells hF)
  have HOK := Lib.hid hok
  have HVA := Lib.hid hva
  clear hva
  obtain ⟨P, hP⟩ : ∃ P : E → Bool, P = fun x => servesB x sp va := ⟨_, rfl⟩
  have HP := Lib.hid hP
  rw [← hP]
  obtain ⟨n, hn⟩ : ∃ n, n = L.length := ⟨_, rfl⟩
  have HN := Lib.hid hn
  rw [← hn] at hlen ⊢
  clear hn hF hok hP
  go_enter Try.func35, Try.ntmps35
  go_wp2_with fail
  go_loopw [7, 8] (fun o i V => ∃ j : Nat, j ≤ n ∧ i = .int .i64 (j : Nat) ∧ RowE V (w.heap.size) o ((L.take j).filter P) ∧ Below w.heap.size w V) (fun _ i _ => (n - (intOf i)).toNat)
  case atStart => exact ⟨0, by omega, rfl, RowE.nil _ _, by repeat' (first | with_reducible exact Below.refl _ _ | with_reducible assumption | with_reducible apply below_drewN | with_reducible apply Below.drew | with_reducible refine Below.setCell ?_ ?_ _ | with_reducible refine Below.alloc ?_ ?_ _ | omega | (simp; done) | (simp; omega))⟩
  case round =>
    obtain ⟨j, hj, rfl, hrow, hB⟩ := hrel
    have hBs := hB.size
    have hgV : g < wr.heap.size := by omega
    have hkl := filter_len L P j
    have hK : ∀ (h : j < L.length), (L.take (j + 1)).filter P = if P L[j] = true then (L.take j).filter P ++ [L[j]] else (L.take j).filter P := fun h => filter_step L P j h
    have hE : j = n → (L.take j).filter P = L.filter P := fun h => by rw [h, HN.out, List.take_length]
    obtain ⟨K2, hK2⟩ : ∃ K2, K2 = (L.take (j + 1)).filter P := ⟨_, rfl⟩
    have HK2 := Lib.hid hK2
    rw [← hK2] at hK
    generalize (L.take j).filter P = K at hrow hkl hK hE
    rw [← HN.out] at hkl
    have hrow2 := hrow
    unfold RowE at hrow2
    obtain ⟨ao, c, rfl⟩ := ownsRow_form hrow2
    have HROW := Lib.hid hrow
    obtain ⟨m, hm⟩ : ∃ m, m = K.length := ⟨_, rfl⟩
    have HM := Lib.hid hm
    rw [← hm] at hkl HROW ⊢
    clear hrow hrow2 hm hK2
    by_cases hjn : j < n
    · have han : j < L.length := by have := HN.out; omega
      obtain ⟨e0, e1, e2, e3⟩ := HL.out j han
      have g0 := (hB.cell (p := ⟨g, j * 4, none⟩) hg).trans e0
      have g1 := (hB.cell (p := ⟨g, j * 4 + 1, none⟩) hg).trans e1
      have g2 := (hB.cell (p := ⟨g, j * 4 + 2, none⟩) hg).trans e2
      have g3 := (hB.cell (p := ⟨g, j * 4 + 3, none⟩) hg).trans e3
      have hx := HOK.out _ (List.getElem_mem han)
      have hk2 := hK han
      clear e0 e1 e2 e3 hK hE
      generalize L[j]'han = x at g0 g1 g2 g3 hx hk2
      obtain ⟨xs, xp, xf, xl⟩ := x
      simp only at g0 g1 g2 g3 hx
      obtain ⟨hx1, hx2⟩ := hx
      clear han
      cases hp : servesB ⟨xs, xp, xf, xl⟩ sp va with
      | false =>
        have hpx : P ⟨xs, xp, xf, xl⟩ = false := by rw [HP.out]; simp only [hp]; try rfl
        rw [if_neg (by rw [hpx]; decide)] at hk2
        have HKK := Lib.hid hk2
        have cL : Hid (∀ V, Calls Try.prog 18 #[.agg #[.int .i64 xs, .int .u64 xp, .int .u64 xf, .int .u64 xl], .int .i64 sp, .int .u64 va] V (RetB (.bool false) V)) := Lib.hid fun V => by
          have := refServes_any ⟨xs, xp, xf, xl⟩ sp va V hx1 hx2 HVA.out
          rw [hp] at this
          exact this
        clear hp hpx hx1 hx2 hk2
        go_wp2_with (go_at_call 18; refine (cL.out _).mono ?_; rintro e wq ⟨rfl, hb⟩; have hB2 : Below w.heap.size w wq := hB.trans (hb.mono hBs); have hBs2 := hB2.size; have HROW2 := Lib.hid (HROW.out.below hb); have gk0 := (hb.cell (p := ⟨g, j * 4, none⟩) hgV).trans g0; have gk1 := (hb.cell (p := ⟨g, j * 4 + 1, none⟩) hgV).trans g1; have gk2 := (hb.cell (p := ⟨g, j * 4 + 2, none⟩) hgV).trans g2; have gk3 := (hb.cell (p := ⟨g, j * 4 + 3, none⟩) hgV).trans g3; clear hb)
        go_roundw
        case rel => exact ⟨j + 1, by omega, by go_num, by rw [← HK2.out, HKK.out]; exact HROW2.out, hB2⟩
        case measure => first | (simp [intOf]; done) | (simp [intOf]; omega)
      | true =>
        have hpx : P ⟨xs, xp, xf, xl⟩ = true := by rw [HP.out]; simp only [hp]; try rfl
        rw [if_pos hpx] at hk2
        have HKK := Lib.hid hk2
        have cL : Hid (∀ V, Calls Try.prog 18 #[.agg #[.int .i64 xs, .int .u64 xp, .int .u64 xf, .int .u64 xl], .int .i64 sp, .int .u64 va] V (RetB (.bool true) V)) := Lib.hid fun V => by
          have := refServes_any ⟨xs, xp, xf, xl⟩ sp va V hx1 hx2 HVA.out
          rw [hp] at this
          exact this
        clear hp hpx hx1 hx2 hk2
        go_wp2_with (first | (go_at_call 18; refine (cL.out _).mono ?_; rintro e wq ⟨rfl, hb⟩; have hB2 : Below w.heap.size w wq := hB.trans (hb.mono hBs); have hBs2 := hB2.size; have HROW2 := Lib.hid (HROW.out.below hb); have gk0 := (hb.cell (p := ⟨g, j * 4, none⟩) hgV).trans g0; have gk1 := (hb.cell (p := ⟨g, j * 4 + 1, none⟩) hgV).trans g1; have gk2 := (hb.cell (p := ⟨g, j * 4 + 2, none⟩) hgV).trans g2; have gk3 := (hb.cell (p := ⟨g, j * 4 + 3, none⟩) hgV).trans g3; clear hb) | (at_builtin; (refine wpList_append_gen rfl (.tmp 22) (.tmp 27) 40 rfl (w.heap.size) 27 i0 (.agg #[.int .i64 0, .int .u64 0, .int .u64 0, .int .u64 0]) 4 32 Try.underlying40 hi0 hz0 hz1 hz2 rfl (by decide) _ m (flatE K) rfl (by have := HROW2.out; unfold RowE at this; rw [← HM.out] at this; exact this.alloc _) (some ⟨wq.heap.size, 0, none⟩) 1 1 (cellsE ⟨xs, xp, xf, xl⟩) rfl (fun h => by cases h) rfl (new_cells wq #[.int .i64 xs, .int .u64 xp, .int .u64 xf, .int .u64 xl] _) (cellsE_one _) (by unfold maxLen; omega) (by omega) (by simp; omega) ?_); intro a2 c2 w2 ho hg2 _; (have B2 : Below (w.heap.size) wq w2 := (((Below.refl _ wq).alloc (by omega) _).grown hg2 (by simp; omega) (fun k hk => (HROW2.out.lt k hk).1))); have G2 := Lib.hid ho; clear ho hg2))
        go_roundw
        case rel => exact ⟨j + 1, by omega, by go_num, by rw [← HK2.out, HKK.out]; unfold RowE; rw [List.length_append, flatE_snoc, ← HM.out]; exact G2.out, hB2.trans (B2.mono (by omega))⟩
        case measure => first | (simp [intOf]; done) | (simp [intOf]; omega)
    · obtain rfl : j = n := by omega
      have HE := Lib.hid (hE rfl)
      clear hK hE
      go_wp2_with fail
      go_ret
      refine ⟨_, rfl, ?_, hB⟩
      rw [← HE.out]
      have := HROW.out
      rw [HM.out] at this
      have h2 := this.low (base' := w.heap.size) (by omega)
      rw [HM.out]
      exact h2

set_option maxHeartbeats 1000000 in
theorem rserv_nil (sp va : Int) (hva : U64 va) (w : World) : Calls Try.prog 35 #[.slice none 0 0, .int .i64 sp, .int .u64 va] w (RetLst w.heap.size [] w) := by
  have HVA := Lib.hid hva
  clear hva
  go_enter Try.func35, Try.ntmps35
  go_wp2_with fail
  go_loopw [7, 8] (fun o i V => o = .slice none 0 0 ∧ i = .int .i64 0 ∧ Below w.heap.size w V) (fun _ i _ => 0)
  case atStart => exact ⟨rfl, rfl, by repeat' (first | with_reducible exact Below.refl _ _ | with_reducible assumption | with_reducible apply below_drewN | with_reducible apply Below.drew | with_reducible refine Below.setCell ?_ ?_ _ | with_reducible refine Below.alloc ?_ ?_ _ | omega | (simp; done) | (simp; omega))⟩
  case round =>
    obtain ⟨rfl, rfl, hB⟩ := hrel
    go_wp2_with fail
    go_ret
    exact ⟨_, rfl, RowE.nil _ _, hB⟩

theorem rserv_any (base : Nat) (v : Value) (L : List E) (sp va : Int) (hva : U64 va) (w : World) (h : RowE w base v L) (hbase : base ≤ w.heap.size) (hok : ∀ x ∈ L, U64 x.first ∧ U64 x.last) (hlen : L.length ≤ 1000) : Calls Try.prog 35 #[v, .int .i64 sp, .int .u64 va] w (RetLst base (L.filter fun x => servesB x sp va) w) := by
  rcases h.form with ⟨rfl, rfl⟩ | ⟨g, cap, rfl, hg, _⟩
  · refine (rserv_nil sp va hva w).mono ?_
    rintro e w' ⟨v', rfl, h1, hb⟩
    exact ⟨v', rfl, h1.low hbase, hb⟩
  · refine (rserv_some g cap L sp va hva w hg h.flat hok hlen).mono ?_
    rintro e w' ⟨v', rfl, h1, hb⟩
    exact ⟨v', rfl, h1.low hbase, hb⟩

end Go.Proofs.Ytcaggboeacgknaa
