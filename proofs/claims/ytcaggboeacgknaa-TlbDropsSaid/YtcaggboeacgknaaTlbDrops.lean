/- The statement TlbDrops: what an invalidation leaves it doesn't take; what it takes out, it takes. No conditions. -/
import Derived.Test.YtcaggboeacgknaaPlayw
import Derived.Test.YtcaggboeacgknaaSamee
import Derived.Test.YtcaggboeacgknaaRows
namespace Go.Proofs.Ytcaggboeacgknaa
open Go.RowKit Go.ChangeShapes Go.WideShapes Go.ChangeAt
set_option linter.unusedSimpArgs false
set_option linter.unusedVariables false

theorem has_filter {L : List E} {q : E → Bool} {x : E} (h : x ∈ L) : hasE (L.filter q) x = q x := by
  unfold hasE
  rw [Bool.eq_iff_iff, decide_eq_true_iff, List.mem_filter]
  exact ⟨fun k => k.2, fun k => ⟨h, k⟩⟩
theorem filter_again (L : List E) (q : E → Bool) : (L.filter q).filter q = L.filter q := by
  rw [List.filter_eq_self]
  exact fun x hx => (List.mem_filter.1 hx).2
theorem retB_out' {v : Value} {w w' : World} {e : Ending} (h : RetB v w e w') : e = .returned v ∧ Below w.heap.size w w' := h
theorem retE_out {L : List E} {w w' : World} {e : Ending} (h : RetE L w e w') : ∃ ao cap, e = .returned (.slice ao L.length cap) ∧ RowE w' w.heap.size (.slice ao L.length cap) L ∧ Below w.heap.size w w' := by
  obtain ⟨v, rfl, hr, hb⟩ := h
  obtain ⟨ao, cap, rfl⟩ := ownsRow_form hr
  exact ⟨ao, cap, rfl, hr, hb⟩

set_option maxRecDepth 100000 in
set_option maxHeartbeats 4000000 in
theorem tlbDrops_walk {w : World} (ao : Option Addr) (cap : Nat) (l : List P9) (fl : F) (hl : Atr cellsP w ao l) (_hc : ao = none → cap = 0) (hok : ∀ p ∈ l, okP p) (hfl : fl.ok) :
    Calls Try.prog 10 #[.slice ao l.length cap, flushV fl] w (RetB (.bool true) w) := by
  have HL := Lib.hid hl
  obtain ⟨n, hn⟩ : ∃ n, n = l.length := ⟨_, rfl⟩
  have HN := Lib.hid hn
  have HK := Lib.hid hok
  rw [← hn]
  obtain ⟨hs, hx, hlen⟩ := playE_all l hok
  have HS := Lib.hid hs
  have HX : Hid (∀ x ∈ playE (l.take 50), U64 x.first ∧ U64 x.last) := Lib.hid fun x h => ⟨(hx x h).2.2.1, (hx x h).2.2.2⟩
  have cP : Hid (∀ W, Below w.heap.size w W → Calls Try.prog 27 #[.slice ao n cap] W (RetPlay (playE (l.take 50)) W)) := Lib.hid fun W h => play9_any ao n cap l W (HL.out.below h) HN.out HK.out
  clear hl hn hok hs hx HL HN HK
  generalize playE (l.take 50) = L at HS HX hlen cP
  obtain ⟨fk, fp, fs⟩ := fl
  have HFP : Hid (U64 fp) := Lib.hid hfl.2.1
  clear hfl
  simp only [flushV]
  go_enter Try.func10, Try.ntmps10
  go_wp2_with fail
  obtain ⟨w0, hw0⟩ : ∃ w0, w0 = w.alloc (.cells #[.int .i64 fk, .int .u64 fp, .int .i64 fs] 35) := ⟨_, rfl⟩
  have B0 : Below w.heap.size w w0 := by rw [hw0]; repeat' (first | with_reducible exact Below.refl _ _ | with_reducible assumption | with_reducible apply below_drewN | with_reducible apply Below.drew | with_reducible refine Below.setCell ?_ ?_ _ | with_reducible refine Below.alloc ?_ ?_ _ | omega | (simp; done) | (simp; omega))
  have Bz0 := B0.size
  have hs0 : w0.heap.size = w.heap.size + 1 := by rw [hw0]; simp
  have hb1 : w0.heap[w.heap.size]? = some (.cells #[.int .i64 fk, .int .u64 fp, .int .i64 fs] 35) := by rw [hw0]; (repeat (first | assumption | (refine heap_new _ _ _ ?_; simp; done) | refine heap_old _ _ _ _ ?_))
  rw [← hw0]
  clear hw0
  have HEN : Hid (∀ W, Below w0.heap.size w0 W → W.heap[w.heap.size]? = some (.cells #[.int .i64 fk, .int .u64 fp, .int .i64 fs] 35)) := Lib.hid fun W h => (h.block w.heap.size (by omega)).trans hb1
  clear hb1
  refine (awake_any _).mono ?_
  rintro e w1 ⟨rfl, hb⟩
  have B1 : Below w0.heap.size w0 w1 := hb
  have Bz1 := B1.size
  clear hb
  go_wp2_with fail
  refine (cP.out _ (B0.trans (B1.mono Bz0))).mono ?_
  rintro e w2 ⟨a1, p1, a2, p2, rfl, hr1, hr2, hb⟩
  have B2 : Below w0.heap.size w0 w2 := B1.trans (hb.mono Bz1)
  have Bz2 := B2.size
  have R1 := Lib.hid hr1
  have hz12 := hb.size
  clear hr1 hr2 hb
  obtain ⟨y0, y1, y2, y3⟩ := block_cells (HEN.out _ B2)
  have d0 := y0 0 _ rfl
  have d1 := y0 1 _ rfl
  have d2 := y0 2 _ rfl
  clear y0
  go_wp2_with fail
  obtain ⟨x, hx⟩ : ∃ x, x = w2.alloc (.cells #[.slice a1 L.length p1] 42) := ⟨_, rfl⟩
  have hsx : x.heap.size = w2.heap.size + 1 := by rw [hx]; simp
  have BX : Below w2.heap.size w2 x := by rw [hx]; repeat' (first | with_reducible exact Below.refl _ _ | with_reducible assumption | with_reducible apply below_drewN | with_reducible apply Below.drew | with_reducible refine Below.setCell ?_ ?_ _ | with_reducible refine Below.alloc ?_ ?_ _ | omega | (simp; done) | (simp; omega))
  have h5 : x.heap[w2.heap.size]? = some (.cells #[.slice a1 L.length p1] 42) := by rw [hx]; (repeat (first | assumption | (refine heap_new _ _ _ ?_; simp; done) | refine heap_old _ _ _ _ ?_))
  try rw [← hx]
  have R1x := Lib.hid (R1.out.below BX)
  refine (bdrop_any _ _ L ⟨fk, fp, fs⟩ HFP.out _ R1x.out (by omega) HX.out (by omega)).mono ?_
  obtain ⟨q, hq⟩ : ∃ q : E → Bool, q = fun z => !takesB ⟨fk, fp, fs⟩ z := ⟨_, rfl⟩
  have HQ := Lib.hid hq
  rw [← hq]
  clear hq
  intro e w3 hx3
  obtain ⟨a3, p3, rfl, hr, hb⟩ := retBuf_out hx3
  have B3 : Below x.heap.size x w3 := hb
  have Bz3 := B3.size
  have R3 := Lib.hid hr
  clear hr hb hx3 d0 d1 d2 y1 y2 y3
  obtain ⟨z0, z1, z2, z3⟩ := block_cells ((B3.block w2.heap.size (by omega)).trans h5)
  have b0 := z0 0 _ rfl
  clear z0
  have hkl : (L.filter q).length ≤ 50 := Nat.le_trans (List.length_filter_le _ _) hlen
  obtain ⟨m, hm⟩ : ∃ m, m = L.length := ⟨_, rfl⟩
  have HM := Lib.hid hm
  rw [← hm] at hlen R1 R1x b0 h5 ⊢
  clear hm
  obtain ⟨kk, hkk⟩ : ∃ kk, kk = (L.filter q).length := ⟨_, rfl⟩
  have HKK := Lib.hid hkk
  rw [← hkk] at hkl R3 ⊢
  clear hkk
  have BW3 : Below w.heap.size w w3 := B0.trans ((B2.trans ((BX.trans (B3.mono (by omega))).mono Bz2)).mono Bz0)
  have HEN2 : Hid (∀ W, Below w3.heap.size w3 W → W.heap[w.heap.size]? = some (.cells #[.int .i64 fk, .int .u64 fp, .int .i64 fs] 35)) := Lib.hid fun W h => HEN.out W (B2.trans (Below.mono (BX.trans (Below.mono (B3.trans (h.mono Bz3)) (by omega))) Bz2))
  have BW3s := BW3.size
  have hsz : w2.heap.size + 1 ≤ w3.heap.size := by omega
  clear hx HEN h5
  go_wp2_with fail
  obtain ⟨y, hy⟩ : ∃ y, y = w3.alloc (.cells #[.slice a3 kk p3] 42) := ⟨_, rfl⟩
  have hsy : y.heap.size = w3.heap.size + 1 := by rw [hy]; simp
  have BY : Below w3.heap.size w3 y := by rw [hy]; repeat' (first | with_reducible exact Below.refl _ _ | with_reducible assumption | with_reducible apply below_drewN | with_reducible apply Below.drew | with_reducible refine Below.setCell ?_ ?_ _ | with_reducible refine Below.alloc ?_ ?_ _ | omega | (simp; done) | (simp; omega))
  have h6 : y.heap[w3.heap.size]? = some (.cells #[.slice a3 kk p3] 42) := by rw [hy]; (repeat (first | assumption | (refine heap_new _ _ _ ?_; simp; done) | refine heap_old _ _ _ _ ?_))
  try rw [← hy]
  have R1y := Lib.hid ((R1x.out.below B3).below BY)
  have R3y := Lib.hid (R3.out.below BY)
  have HC7 : Hid (∀ W, Below y.heap.size y W → W.heap[w3.heap.size]? = some (.cells #[.slice a3 kk p3] 42)) := Lib.hid fun W h => (h.block w3.heap.size (by omega)).trans h6
  refine (bentries_any _ _ L _ R1y.out (by have := HM.out; omega)).mono ?_
  intro e w4 hx4
  obtain ⟨a8, p8, rfl, hr, hb⟩ := retE_out hx4
  rw [← HM.out] at hr ⊢
  have B4 : Below y.heap.size y w4 := hb
  have Bz4 := B4.size
  have R8 := Lib.hid hr
  have HEN3 : Hid (∀ W, Below w4.heap.size w4 W → W.heap[w.heap.size]? = some (.cells #[.int .i64 fk, .int .u64 fp, .int .i64 fs] 35)) := Lib.hid fun W h => HEN2.out W (BY.trans ((B4.trans (h.mono Bz4)).mono (by omega)))
  have HC8 : Hid (∀ W, Below w4.heap.size w4 W → W.heap[w3.heap.size]? = some (.cells #[.slice a3 kk p3] 42)) := Lib.hid fun W h => HC7.out W (B4.trans (h.mono Bz4))
  have R3z := Lib.hid (R3y.out.below B4)
  have BW4 : Below w.heap.size w w4 := BW3.trans ((BY.trans (B4.mono (by omega))).mono BW3s)
  have BW4s := BW4.size
  have hsz4 : w3.heap.size + 1 ≤ w4.heap.size := by omega
  have hsw : w.heap.size < w4.heap.size := by omega
  have hz14 : w1.heap.size ≤ w4.heap.size := by omega
  clear hr hb hx4 h6 hy HEN2 HC7 R3 R3y R1 R1x R1y b0 z1 z2 z3 B3 BX B2 B1 B0 B4 BY
  clear BW3 BW3s Bz0 Bz1 Bz2 Bz3 Bz4 hs0 hsx hsz hz12 hsy cP
  go_wp2_with fail
  go_loopw [9, 10] (fun c i V => ∃ j : Nat, j ≤ m ∧ i = .int .i64 (j : Nat) ∧ c = .int .i64 (((L.take j).filter q).length : Nat) ∧ Below w4.heap.size w4 V) (fun _ i _ => (m - (intOf i)).toNat)
  case atStart => exact ⟨0, by omega, rfl, by simp, Below.refl _ _⟩
  case round =>
    obtain ⟨j, hj, rfl, rfl, hB⟩ := hrel
    have hBs := hB.size
    by_cases hjm : j < m
    · have han : j < L.length := by have := HM.out; omega
      have HT2 : Hid (((L.take (j + 1)).filter q).length = if q (L[j]'han) = true then ((L.take j).filter q).length + 1 else ((L.take j).filter q).length) := Lib.hid (by rw [filter_step L q j han]; split <;> simp)
      have hcl : ((L.take j).filter q).length ≤ m := by have := filter_len L q j; have := HM.out; omega
      have hhas : hasE (L.filter q) L[j] = q L[j] := has_filter (List.getElem_mem han)
      have hxo := HX.out _ (List.getElem_mem han)
      obtain ⟨g, cp, ha2, hg⟩ : ∃ g cp, Value.slice a8 m p8 = .slice (some ⟨g, 0, none⟩) m cp ∧ g < w4.heap.size := by
        rcases R8.out.form with ⟨hv, hv2⟩ | ⟨g, cp, hv, hg, _⟩
        · rw [hv2] at han; simp at han
        · exact ⟨g, cp, by rw [hv, HM.out], hg⟩
      simp only [Value.slice.injEq] at ha2
      obtain ⟨rfl, -, rfl⟩ := ha2
      have HCE : Hid (∀ W, Below w4.heap.size w4 W → W.cell? ⟨g, j * 4, none⟩ = some (.int .i64 L[j].space) ∧ W.cell? ⟨g, j * 4 + 1, none⟩ = some (.int .u64 L[j].page) ∧ W.cell? ⟨g, j * 4 + 2, none⟩ = some (.int .u64 L[j].first) ∧ W.cell? ⟨g, j * 4 + 3, none⟩ = some (.int .u64 L[j].last)) := Lib.hid fun W h => RowE.cell (R8.out.below h) j han
      generalize ((L.take j).filter q).length = c at hcl HT2 ⊢
      have HQx : Hid (q (L[j]'han) = !takesB ⟨fk, fp, fs⟩ (L[j]'han)) := Lib.hid (by rw [HQ.out])
      generalize L[j]'han = xx at hhas hxo HCE HQx HT2
      obtain ⟨xs, xp, xf, xl⟩ := xx
      simp only at HCE hxo
      clear han
      have hgV : g < wr.heap.size := by omega
      have hqV : w3.heap.size < wr.heap.size := by omega
      have hwV : w.heap.size < wr.heap.size := by omega
      obtain ⟨e0, e1, e2, e3⟩ := HCE.out _ hB
      obtain ⟨y0, y1, y2, y3⟩ := block_cells (HEN3.out _ hB)
      have d0 := y0 0 _ rfl
      have d1 := y0 1 _ rfl
      have d2 := y0 2 _ rfl
      obtain ⟨z0, z1, z2, z3⟩ := block_cells (HC8.out _ hB)
      have b0 := z0 0 _ rfl
      clear y0 z0 y1 y2 y3 z1 z2 z3
      have cT : Hid (∀ V, Calls Try.prog 19 #[.agg #[.int .i64 fk, .int .u64 fp, .int .i64 fs], .agg #[.int .i64 xs, .int .u64 xp, .int .u64 xf, .int .u64 xl]] V (RetB (.bool (takesB ⟨fk, fp, fs⟩ ⟨xs, xp, xf, xl⟩)) V)) := Lib.hid fun V => takes_any ⟨fk, fp, fs⟩ ⟨xs, xp, xf, xl⟩ V HFP.out hxo.1 hxo.2
      have cH : Hid (∀ V, Below w4.heap.size w4 V → Calls Try.prog 31 #[.agg #[.slice a3 kk p3], .agg #[.int .i64 xs, .int .u64 xp, .int .u64 xf, .int .u64 xl]] V (RetB (.bool (!takesB ⟨fk, fp, fs⟩ ⟨xs, xp, xf, xl⟩)) V)) := Lib.hid fun V h => by
        have := bhas_any _ _ (L.filter q) ⟨xs, xp, xf, xl⟩ V (R3z.out.below h) (sorted_filter HS.out q) (by have := HKK.out; omega)
        rw [hhas, HQx.out] at this
        exact this
      rw [HQx.out] at HT2
      clear hhas HQx hxo
      generalize takesB ⟨fk, fp, fs⟩ ⟨xs, xp, xf, xl⟩ = tb at cT cH HT2
      cases tb with
      | true =>
        rw [Bool.not_true] at cH HT2
        rw [if_neg (by decide)] at HT2
        go_wp2_with fail
        refine wp_region_qbn (by kernel_rfl) (by kernel_rfl) (fun kq => ?_); have kq0 := kq (w.heap.size) (by first | omega | (simp; done) | (simp; omega)); have kq1 := kq (w3.heap.size) (by first | omega | (simp; done) | (simp; omega)); have kq2 := kq (g) (by first | omega | (simp; done) | (simp; omega)); clear kq; (repeat (go_big_quiet_step (first | (go_at_call 19; exact quietB (cT.out _)) | (go_at_call 31; exact quietB (cH.out _ (hB.trans (Below.mono (below_regrown _ _ _) hBs))))))); refine wpQuiet_nil ?_; clear kq0 kq1 kq2; intro wq hb
        have hB2 : Below w4.heap.size w4 wq := hB.trans (hb.mono hBs)
        have hBs2 := hB2.size
        clear e0 e1 e2 e3 d0 d1 d2 b0 hb
        obtain ⟨e0, e1, e2, e3⟩ := HCE.out _ hB2
        obtain ⟨z0, z1, z2, z3⟩ := block_cells (HC8.out _ hB2)
        have b0 := z0 0 _ rfl
        clear z0 z1 z2 z3 hB hBs
        obtain ⟨wz, rfl⟩ : ∃ wz, wz = wq := ⟨_, rfl⟩
        go_wp2_with fail
        refine wp_region_qbn (by kernel_rfl) (by kernel_rfl) (fun kq => ?_); have kq0 := kq (w3.heap.size) (by first | omega | (simp; done) | (simp; omega)); have kq1 := kq (g) (by first | omega | (simp; done) | (simp; omega)); clear kq; (repeat (go_big_quiet_step ((go_at_call 31; exact quietB (cH.out _ (hB2.trans (Below.mono (below_regrown _ _ _) hBs2))))))); refine wpQuiet_nil ?_; clear kq0 kq1; intro wq hb
        go_wp2_with fail
        go_roundw
        case rel => exact ⟨j + 1, by omega, by go_num, by rw [HT2.out], hB2.trans (hb.mono hBs2)⟩
        case measure => first | (simp [intOf]; done) | (simp [intOf]; omega)
      | false =>
        rw [Bool.not_false] at cH HT2
        rw [if_pos rfl] at HT2
        go_wp2_with fail
        refine wp_region_qbn (by kernel_rfl) (by kernel_rfl) (fun kq => ?_); have kq0 := kq (w.heap.size) (by first | omega | (simp; done) | (simp; omega)); have kq1 := kq (w3.heap.size) (by first | omega | (simp; done) | (simp; omega)); have kq2 := kq (g) (by first | omega | (simp; done) | (simp; omega)); clear kq; (repeat (go_big_quiet_step (first | (go_at_call 19; exact quietB (cT.out _)) | (go_at_call 31; exact quietB (cH.out _ (hB.trans (Below.mono (below_regrown _ _ _) hBs))))))); refine wpQuiet_nil ?_; clear kq0 kq1 kq2; intro wq hb
        have hB2 : Below w4.heap.size w4 wq := hB.trans (hb.mono hBs)
        have hBs2 := hB2.size
        clear e0 e1 e2 e3 d0 d1 d2 b0 hb
        obtain ⟨e0, e1, e2, e3⟩ := HCE.out _ hB2
        obtain ⟨z0, z1, z2, z3⟩ := block_cells (HC8.out _ hB2)
        have b0 := z0 0 _ rfl
        clear z0 z1 z2 z3 hB hBs
        obtain ⟨wz, rfl⟩ : ∃ wz, wz = wq := ⟨_, rfl⟩
        go_wp2_with fail
        refine wp_region_qbn (by kernel_rfl) (by kernel_rfl) (fun kq => ?_); have kq0 := kq (w3.heap.size) (by first | omega | (simp; done) | (simp; omega)); have kq1 := kq (g) (by first | omega | (simp; done) | (simp; omega)); clear kq; (repeat (go_big_quiet_step ((go_at_call 31; exact quietB (cH.out _ (hB2.trans (Below.mono (below_regrown _ _ _) hBs2))))))); refine wpQuiet_nil ?_; clear kq0 kq1; intro wq hb
        go_wp2_with fail
        go_roundw
        case rel => exact ⟨j + 1, by omega, by go_num, by rw [HT2.out]; go_num, hB2.trans (hb.mono hBs2)⟩
        case measure => first | (simp [intOf]; done) | (simp [intOf]; omega)
    · obtain rfl : j = m := by omega
      rw [show L.take j = L by rw [HM.out, List.take_length], ← HKK.out]
      have cN : Hid (∀ W, Below w4.heap.size w4 W → Calls Try.prog 33 #[.agg #[.slice a3 kk p3]] W (RetB (.int .i64 (kk : Nat)) W)) := Lib.hid fun W h => by
        have := blen_any _ _ _ W (R3z.out.below h)
        rw [← HKK.out] at this
        exact this
      have HXK : Hid (∀ z ∈ L.filter q, U64 z.first ∧ U64 z.last) := Lib.hid fun z hz => HX.out z (List.mem_filter.1 hz).1
      have cD : Hid (∀ W, Below w4.heap.size w4 W → Calls Try.prog 30 #[.agg #[.slice a3 kk p3], .agg #[.int .i64 fk, .int .u64 fp, .int .i64 fs]] W (RetBuf w1.heap.size (L.filter q) W)) := Lib.hid fun W h => by
        have hz := h.size
        have := bdrop_any _ _ _ ⟨fk, fp, fs⟩ HFP.out W ((R3z.out.below h)) (by omega) HXK.out (by have := HKK.out; omega)
        rw [← HQ.out, filter_again] at this
        exact this
      have cE : Hid (∀ W, Below w4.heap.size w4 W → Calls Try.prog 28 #[.agg #[.slice a3 kk p3]] W (RetE (L.filter q) W)) := Lib.hid fun W h => bentries_any _ _ _ W (R3z.out.below h) (by have := HKK.out; omega)
      have cE2 : Hid (∀ b v W, RowE W b v (L.filter q) → Calls Try.prog 28 #[.agg #[v]] W (RetE (L.filter q) W)) := Lib.hid fun b v W h => bentries_any _ _ _ W h (by have := HKK.out; omega)
      have cS : Hid (∀ b b' v v' W, RowE W b v (L.filter q) → RowE W b' v' (L.filter q) → Calls Try.prog 32 #[v, v'] W (RetB (.bool true) W)) := Lib.hid fun b b' v v' W h h' => by
        have := rsame_any _ _ _ _ _ _ W h h' (by have := HKK.out; omega)
        rw [decide_eq_true rfl] at this
        exact this
      generalize L.filter q = K at cD cE cE2 cS HKK
      obtain ⟨y0, y1, y2, y3⟩ := block_cells (HEN3.out _ hB)
      have d0 := y0 0 _ rfl
      have d1 := y0 1 _ rfl
      have d2 := y0 2 _ rfl
      obtain ⟨z0, z1, z2, z3⟩ := block_cells (HC8.out _ hB)
      have b0 := z0 0 _ rfl
      clear y0 z0 y1 y2 y3 z1 z2 z3 HKK HQ HX HXK HS HM
      have HSS : Hid (∀ W, Below w4.heap.size w4 W → W.cell? ⟨w3.heap.size, 0, none⟩ = some (.slice a3 kk p3) ∧ W.cell? ⟨w.heap.size, 0, none⟩ = some (.int .i64 fk) ∧ W.cell? ⟨w.heap.size, 1, none⟩ = some (.int .u64 fp) ∧ W.cell? ⟨w.heap.size, 2, none⟩ = some (.int .i64 fs)) := Lib.hid fun W h =>
        ⟨(block_cells (HC8.out _ h)).1 0 _ rfl, (block_cells (HEN3.out _ h)).1 0 _ rfl, (block_cells (HEN3.out _ h)).1 1 _ rfl, (block_cells (HEN3.out _ h)).1 2 _ rfl⟩
      clear HC8 HEN3
      go_wp2_with fail
      go_region_held3 (fun W => W.cell? ⟨w3.heap.size, 0, none⟩ = some (.slice a3 kk p3) ∧ W.cell? ⟨w.heap.size, 0, none⟩ = some (.int .i64 fk) ∧ W.cell? ⟨w.heap.size, 1, none⟩ = some (.int .u64 fp) ∧ W.cell? ⟨w.heap.size, 2, none⟩ = some (.int .i64 fs))
        (first | (refine HSS.out _ ?_; (repeat' (first | with_reducible exact Below.refl _ _ | with_reducible assumption | with_reducible apply below_drewN | with_reducible apply Below.drew | with_reducible refine Below.setCell ?_ ?_ _ | with_reducible refine Below.alloc ?_ ?_ _ | omega | (simp; done) | (simp; omega))); done))
        (first
        | (go_at_call 33; with_reducible refine (cN.out _ ?_).mono ?_; (focus ((repeat' (first | with_reducible exact Below.refl _ _ | with_reducible assumption | with_reducible apply below_drewN | with_reducible apply Below.drew | with_reducible refine Below.setCell ?_ ?_ _ | with_reducible refine Below.alloc ?_ ?_ _ | omega | (simp; done) | (simp; omega))); done)); intro e t1 hx; obtain ⟨rfl, hb⟩ := retB_out' hx; have C1 : Below w4.heap.size w4 t1 := Below.trans (by (repeat' (first | with_reducible exact Below.refl _ _ | with_reducible assumption | with_reducible apply below_drewN | with_reducible apply Below.drew | with_reducible refine Below.setCell ?_ ?_ _ | with_reducible refine Below.alloc ?_ ?_ _ | omega | (simp; done) | (simp; omega))); done) (hb.mono (by first | omega | (simp; done) | (simp; omega))); have C1s := C1.size; clear hx hb)
        | (go_at_call 30; with_reducible refine (cD.out _ ?_).mono ?_; (focus ((repeat' (first | with_reducible exact Below.refl _ _ | with_reducible assumption | with_reducible apply below_drewN | with_reducible apply Below.drew | with_reducible refine Below.setCell ?_ ?_ _ | with_reducible refine Below.alloc ?_ ?_ _ | omega | (simp; done) | (simp; omega))); done)); intro e t2 hx; obtain ⟨a6, p6, rfl, hr, hb⟩ := retBuf_out hx; have C2 : Below w4.heap.size w4 t2 := Below.trans (by (repeat' (first | with_reducible exact Below.refl _ _ | with_reducible assumption | with_reducible apply below_drewN | with_reducible apply Below.drew | with_reducible refine Below.setCell ?_ ?_ _ | with_reducible refine Below.alloc ?_ ?_ _ | omega | (simp; done) | (simp; omega))); done) (hb.mono (by first | omega | (simp; done) | (simp; omega))); have C2s := C2.size; have RD := Lib.hid hr; (try (have RF1 := Lib.hid (RF.out.below hb))); clear hx hr hb)
        | (go_at_call 28; with_reducible refine (cE.out _ ?_).mono ?_; (focus ((repeat' (first | with_reducible exact Below.refl _ _ | with_reducible assumption | with_reducible apply below_drewN | with_reducible apply Below.drew | with_reducible refine Below.setCell ?_ ?_ _ | with_reducible refine Below.alloc ?_ ?_ _ | omega | (simp; done) | (simp; omega))); done)); intro e t3 hx; obtain ⟨a7, p7, rfl, hr, hb⟩ := retE_out hx; have C3 : Below w4.heap.size w4 t3 := Below.trans (by (repeat' (first | with_reducible exact Below.refl _ _ | with_reducible assumption | with_reducible apply below_drewN | with_reducible apply Below.drew | with_reducible refine Below.setCell ?_ ?_ _ | with_reducible refine Below.alloc ?_ ?_ _ | omega | (simp; done) | (simp; omega))); done) (hb.mono (by first | omega | (simp; done) | (simp; omega))); have C3s := C3.size; have RF := Lib.hid hr; (try (have RE1 := Lib.hid (RE.out.below hb))); (try (have RD1 := Lib.hid (RD.out.below hb))); clear hx hr hb)
        | (go_at_call 28; (first | with_reducible refine (cE2.out _ _ _ RD.out).mono ?_ | with_reducible refine (cE2.out _ _ _ RD1.out).mono ?_); intro e t4 hx; obtain ⟨a9, p9, rfl, hr, hb⟩ := retE_out hx; have C4 : Below w4.heap.size w4 t4 := Below.trans (by (repeat' (first | with_reducible exact Below.refl _ _ | with_reducible assumption | with_reducible apply below_drewN | with_reducible apply Below.drew | with_reducible refine Below.setCell ?_ ?_ _ | with_reducible refine Below.alloc ?_ ?_ _ | omega | (simp; done) | (simp; omega))); done) (hb.mono (by first | omega | (simp; done) | (simp; omega))); have C4s := C4.size; have RE := Lib.hid hr; (first | (have RF2 := Lib.hid (RF1.out.below hb)) | (have RF2 := Lib.hid (RF.out.below hb)) | skip); clear hx hr hb)
        | (go_at_call 32; (first | with_reducible refine (cS.out _ _ _ _ _ RE.out RF2.out).mono ?_ | with_reducible refine (cS.out _ _ _ _ _ RE1.out RF.out).mono ?_ | with_reducible refine (cS.out _ _ _ _ _ RE.out RF.out).mono ?_); intro e t5 hx; obtain ⟨rfl, hb⟩ := retB_out' hx; have C5 : Below w4.heap.size w4 t5 := Below.trans (by (repeat' (first | with_reducible exact Below.refl _ _ | with_reducible assumption | with_reducible apply below_drewN | with_reducible apply Below.drew | with_reducible refine Below.setCell ?_ ?_ _ | with_reducible refine Below.alloc ?_ ?_ _ | omega | (simp; done) | (simp; omega))); done) (hb.mono (by first | omega | (simp; done) | (simp; omega))); clear hx hb))
      all_goals
        go_wp2_with fail
        go_ret
        exact ⟨rfl, BW4.trans (C5.mono BW4s)⟩

set_option maxRecDepth 100000 in
theorem tlbDrops_lifted (os : Os) (started : os.Started) (H : Type) (enc : TypeId × Value → H) :
    ReturnsInHanded {} Try.checked os 10 .any (Rows.tlbDropsSpec.pre6 enc Try.prog Try.f10 Rows.tlbDropsRow.domain false) (Rows.tlbDropsSpec.post enc Try.prog Try.f10 false true false false) := by
  refine returnsInHanded_of_change (C := Try.checked) own started (by kernel_rfl) Try.func10
    (ChangeSpec.witness6 (enc := enc) (C := Try.checked) false ⟨#[], #[.slice none 0 0, flushV ⟨0, 0, 0⟩], []⟩ 8 (by kernel_rfl) (by kernel_rfl) (by kernel_rfl) (by kernel_rfl)) ?_
  intro W base args ds gs before hval0 hW _ _
  have hval : ∀ (j : Nat) t v, Try.f10.params[j]? = some t → args[j]? = some v → Value.okWide Try.prog W .any base t v := hval0
  have hW' := hW
  obtain ⟨p, q, hA0, hV, rfl, hfz, hnd⟩ := hW
  have hA : DataW.TrodAll enc Try.prog W 0 (fun _ => true) true Try.f10.params.toList args.toList ds p := hA0
  rw [Try.params10] at hA hval
  obtain ⟨v0, vs0, d0, ds0, p0, q0, hargs, rfl, rfl, h0, r0⟩ := trodAll_cons hA
  obtain ⟨v1, vs1, d1, ds1, p1, q1, rfl, rfl, rfl, h1, r1⟩ := trodAll_cons r0
  obtain ⟨rfl, rfl, rfl⟩ := trodAll_nil r1
  obtain rfl : args = #[v0, v1] := by cases args; simp_all
  obtain ⟨rfl, rfl⟩ := trodVars_none hV
  obtain ⟨o0, k0, l0, rfl, A0, c0, w0⟩ := arg_op9s h0 (hval 0 47 v0 rfl rfl)
  obtain ⟨a1, rfl, w1⟩ := arg_flush (hval 1 35 v1 rfl rfl)
  refine (tlbDrops_walk (w := W) o0 k0 l0 a1 A0 c0 w0 w1).mono fun e W' ⟨he, hb⟩ => ?_
  subst he
  exact ⟨_, rfl, post_law laid hW' rfl (by kernel_rfl) rfl Try.underlying4 rfl hb⟩

/-- The statement. -/
theorem tlbDrops_holds : Rows.TlbDropsSaid :=
  OpenClaim.holds_of_wide 10 Try.f10 rfl rfl rfl rfl rfl rfl rfl ⟨rfl, rfl, rfl, rfl, rfl⟩ rfl rfl rfl rfl rfl (by kernel_rfl) Try.func10 (by kernel_rfl)
    (of_decide_eq_true (by kernel_rfl)) (by unfold Func.isWrapper; first | (rw [if_pos (by decide +kernel)]; kernel_rfl) | (rw [if_neg (by decide +kernel)]; exact ⟨rfl, rfl⟩))
    (fun os started H enc _ => tlbDrops_lifted os started H enc)
#print axioms tlbDrops_holds

end Go.Proofs.Ytcaggboeacgknaa
