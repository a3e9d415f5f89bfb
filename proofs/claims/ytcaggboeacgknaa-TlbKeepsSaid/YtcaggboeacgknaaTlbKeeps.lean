/- The statement TlbKeeps: what is made of a buffer leaves it as it was, and what it told is the asker's. No conditions. -/
import Derived.Test.YtcaggboeacgknaaPlayw
import Derived.Test.YtcaggboeacgknaaSamee
import Derived.Test.YtcaggboeacgknaaRows
namespace Go.Proofs.Ytcaggboeacgknaa
open Go.RowKit Go.ChangeShapes Go.WideShapes Go.ChangeAt
set_option linter.unusedSimpArgs false
set_option linter.unusedVariables false

theorem has_with (L : List E) (e : E) : hasE (withE L e) e = true := by
  unfold hasE
  exact decide_eq_true (mem_with.2 (.inr rfl))
theorem has_without {L : List E} (h : SortedE L) (e : E) : hasE (withoutE L e) e = false := by
  rw [without_filter h]
  unfold hasE
  rw [decide_eq_false_iff_not, List.mem_filter]
  rintro ⟨_, hx⟩
  simp at hx

/-- A row's block: each entry's space is a number. -/
def Spaces (w : World) (g m : Nat) : Prop := ∃ cs : Array Value, w.heap[g]? = some (.cells cs 27) ∧ ∀ j, j < m → ∃ z, cs[j * 4]? = some (.int .i64 z)
theorem RowE.spaces {w : World} {base g n cap : Nat} {L : List E} (h : RowE w base (.slice (some ⟨g, 0, none⟩) n cap) L) : Spaces w g L.length := by
  have h1 := h
  unfold RowE at h1
  rcases h1.2 with ⟨hv, _⟩ | ⟨g', cap', cur, hv, _, hh, hn, _, hsz, htk⟩
  · cases hv
  · simp only [Value.slice.injEq, Option.some.injEq, Addr.mk.injEq, and_true, true_and] at hv
    obtain ⟨rfl, rfl, rfl⟩ := hv
    refine ⟨cur, hh, fun j hj => ⟨L[j].space, ?_⟩⟩
    have e0 := (flatE_at L j hj).1
    rw [← htk, List.getElem?_take_of_lt (by omega)] at e0
    simpa using e0
theorem Spaces.cell {w : World} {g m : Nat} (h : Spaces w g m) (j : Nat) (hj : j < m) : ∃ z, w.cell? ⟨g, j * 4, none⟩ = some (.int .i64 z) := by
  obtain ⟨cs, hh, hc⟩ := h
  obtain ⟨z, hz⟩ := hc j hj
  exact ⟨z, (block_cells hh).1 _ _ hz⟩
theorem Spaces.frozen {w : World} {g m : Nat} (h : Spaces w g m) (o : Nat) : w.frozen? ⟨g, o, none⟩ = false := by
  obtain ⟨cs, hh, hc⟩ := h
  exact (block_cells hh).2.1 o
theorem Spaces.put {w : World} {g m : Nat} (h : Spaces w g m) (j : Nat) (z : Int) : Spaces (w.setCell ⟨g, j * 4, none⟩ (.int .i64 z)) g m := by
  obtain ⟨cs, hh, hc⟩ := h
  refine ⟨_, block_set hh rfl, fun i hi => ?_⟩
  obtain ⟨y, hy⟩ := hc i hi
  rw [Array.getElem?_setIfInBounds]
  split
  · rename_i e
    have := (Array.getElem?_eq_some_iff.1 hy).1
    rw [if_pos (by omega)]
    exact ⟨z, rfl⟩
  · exact ⟨y, hy⟩
theorem retB_out' {v : Value} {w w' : World} {e : Ending} (h : RetB v w e w') : e = .returned v ∧ Below w.heap.size w w' := h
theorem retE_out {L : List E} {w w' : World} {e : Ending} (h : RetE L w e w') : ∃ ao cap, e = .returned (.slice ao L.length cap) ∧ RowE w' w.heap.size (.slice ao L.length cap) L ∧ Below w.heap.size w w' := by
  obtain ⟨v, rfl, hr, hb⟩ := h
  obtain ⟨ao, cap, rfl⟩ := ownsRow_form hr
  exact ⟨ao, cap, rfl, hr, hb⟩

set_option maxRecDepth 100000 in
set_option maxHeartbeats 8000000 in
theorem tlbKeeps_walk {w : World} (ao : Option Addr) (cap : Nat) (l : List P9) (o : P9) (hl : Atr cellsP w ao l) (_hc : ao = none → cap = 0) (hok : ∀ p ∈ l, okP p) (ho : okP o) :
    Calls Try.prog 8 #[.slice ao l.length cap, opV o] w (RetB (.bool true) w) := by
  have HL := Lib.hid hl
  obtain ⟨n, hn⟩ : ∃ n, n = l.length := ⟨_, rfl⟩
  have HN := Lib.hid hn
  have HK := Lib.hid hok
  rw [← hn]
  obtain ⟨hs, hx, hlen⟩ := playE_all l hok
  have HS := Lib.hid hs
  have HX : Hid (∀ x ∈ playE (l.take 50), U64 x.first ∧ U64 x.last) := Lib.hid fun x h => ⟨(hx x h).2.2.1, (hx x h).2.2.2⟩
  have cP : Hid (∀ W, Below w.heap.size w W → Calls Try.prog 27 #[.slice ao n cap] W (RetPlay (playE (l.take 50)) W)) := Lib.hid fun W h => play9_any ao n cap l W (HL.out.below h) HN.out HK.out
  clear hl hn hok hs hx HL HN HK
  generalize playE (l.take 50) = L at HS HX hlen cP
  obtain ⟨k, ⟨s, p, f, l'⟩, ⟨fk, fp, fs⟩⟩ := o
  have HFP : Hid (U64 fp) := Lib.hid ho.2.2.2.1
  clear ho
  show Calls Try.prog 8 #[.slice ao n cap, .agg #[.int .i64 k, .int .i64 s, .int .u64 p, .int .u64 f, .int .u64 l', .int .i64 fk, .int .u64 fp, .int .i64 fs]] w (RetB (.bool true) w)
  go_enter Try.func8, Try.ntmps8
  go_wp2_with fail
  obtain ⟨w0, hw0⟩ : ∃ w0, w0 = w.alloc (.cells #[.int .i64 k, .int .i64 s, .int .u64 p, .int .u64 f, .int .u64 l', .int .i64 fk, .int .u64 fp, .int .i64 fs] 49) := ⟨_, rfl⟩
  have B0 : Below w.heap.size w w0 := by rw [hw0]; repeat' (first | with_reducible exact Below.refl _ _ | with_reducible assumption | with_reducible apply below_drewN | with_reducible apply Below.drew | with_reducible refine Below.setCell ?_ ?_ _ | with_reducible refine Below.alloc ?_ ?_ _ | omega | (simp; done) | (simp; omega))
  have Bz0 := B0.size
  have hs0 : w0.heap.size = w.heap.size + 1 := by rw [hw0]; simp
  have hb1 : w0.heap[w.heap.size]? = some (.cells #[.int .i64 k, .int .i64 s, .int .u64 p, .int .u64 f, .int .u64 l', .int .i64 fk, .int .u64 fp, .int .i64 fs] 49) := by rw [hw0]; (repeat (first | assumption | (refine heap_new _ _ _ ?_; simp; done) | refine heap_old _ _ _ _ ?_))
  rw [← hw0]
  clear hw0
  have HOP : Hid (∀ W, Below w0.heap.size w0 W → W.heap[w.heap.size]? = some (.cells #[.int .i64 k, .int .i64 s, .int .u64 p, .int .u64 f, .int .u64 l', .int .i64 fk, .int .u64 fp, .int .i64 fs] 49)) := Lib.hid fun W h => (h.block w.heap.size (by omega)).trans hb1
  clear hb1
  refine (awake_any _).mono ?_
  rintro e w1 ⟨rfl, hb⟩
  have B1 : Below w0.heap.size w0 w1 := hb
  have Bz1 := B1.size
  clear hb
  go_wp2_with fail
  refine (cP.out _ (B0.trans (B1.mono Bz0))).mono ?_
  rintro e w2 ⟨a1, p1, a2, p2, rfl, hr1, hr2, hb⟩
  have B2 : Below w0.heap.size w0 w2 := B1.trans (hb.mono Bz1)
  have Bz2 := B2.size
  have R1 := Lib.hid hr1
  have hz12 := hb.size
  clear hr1 hr2 hb
  go_wp2_with fail
  -- the buffer in its block
  obtain ⟨x, hx⟩ : ∃ x, x = w2.alloc (.cells #[.slice a1 L.length p1] 42) := ⟨_, rfl⟩
  have hsx : x.heap.size = w2.heap.size + 1 := by rw [hx]; simp
  have BX : Below w2.heap.size w2 x := by rw [hx]; repeat' (first | with_reducible exact Below.refl _ _ | with_reducible assumption | with_reducible apply below_drewN | with_reducible apply Below.drew | with_reducible refine Below.setCell ?_ ?_ _ | with_reducible refine Below.alloc ?_ ?_ _ | omega | (simp; done) | (simp; omega))
  have h5 : x.heap[w2.heap.size]? = some (.cells #[.slice a1 L.length p1] 42) := by rw [hx]; (repeat (first | assumption | (refine heap_new _ _ _ ?_; simp; done) | refine heap_old _ _ _ _ ?_))
  try rw [← hx]
  clear hx
  have H0x : Hid (∀ W, Below x.heap.size x W → W.heap[w.heap.size]? = some (.cells #[.int .i64 k, .int .i64 s, .int .u64 p, .int .u64 f, .int .u64 l', .int .i64 fk, .int .u64 fp, .int .i64 fs] 49) ∧ W.heap[w2.heap.size]? = some (.cells #[.slice a1 L.length p1] 42)) := Lib.hid fun W h => ⟨HOP.out W (B2.trans (Below.mono (BX.trans (h.mono (by omega))) Bz2)), (h.block w2.heap.size (by omega)).trans h5⟩
  have R5x := Lib.hid (R1.out.below BX)
  have BW0 : Below w.heap.size w x := B0.trans ((B2.trans (BX.mono Bz2)).mono Bz0)
  have BW0s := BW0.size
  have hz1x : w1.heap.size ≤ x.heap.size := by omega
  clear h5 HOP R1 BX B2 B1 B0 hs0 Bz0 Bz1 Bz2 cP
  refine (bentries_any _ _ L _ R5x.out (by omega)).mono ?_
  intro e w3 hx3
  obtain ⟨a7, p7, rfl, hr, hb⟩ := retE_out hx3
  have B3 : Below x.heap.size x w3 := hb
  have Bz3 := B3.size
  have R7 := Lib.hid hr
  clear hr hb hx3
  obtain ⟨hq1, hq2⟩ := H0x.out _ B3
  obtain ⟨c1, f1, l1, n1⟩ := block_cells hq1
  obtain ⟨c2, f2, l2, n2⟩ := block_cells hq2
  have d1 := c1 1 _ rfl
  have d2 := c1 2 _ rfl
  have d3 := c1 3 _ rfl
  have d4 := c1 4 _ rfl
  have b0 := c2 0 _ rfl
  clear hq1 hq2 c1 c2
  go_wp2_with fail
  -- c
  refine (bwith_any _ _ L ⟨s, p, f, l'⟩ _ (R5x.out.below B3) (by omega) HS.out (by omega)).mono ?_
  have hla := len_withE L ⟨s, p, f, l'⟩
  have GA := Lib.hid (has_with L ⟨s, p, f, l'⟩)
  have SA := Lib.hid (sorted_with HS.out ⟨s, p, f, l'⟩)
  obtain ⟨A, hA⟩ : ∃ A, A = withE L ⟨s, p, f, l'⟩ := ⟨_, rfl⟩
  rw [← hA] at GA SA hla ⊢
  clear hA
  intro e w4 hx4
  obtain ⟨a8, p8, rfl, hr, hb⟩ := retBuf_out hx4
  have B4 : Below x.heap.size x w4 := B3.trans (hb.mono Bz3)
  have Bz4 := B4.size
  have R8 := Lib.hid hr
  have R7' := Lib.hid (R7.out.below hb)
  clear hr hb hx4 d1 d2 d3 d4 b0 f1 f2 l1 l2 n1 n2 R7
  obtain ⟨hq1, hq2⟩ := H0x.out _ B4
  obtain ⟨c1, f1, l1, n1⟩ := block_cells hq1
  obtain ⟨c2, f2, l2, n2⟩ := block_cells hq2
  have d1 := c1 1 _ rfl
  have d2 := c1 2 _ rfl
  have d3 := c1 3 _ rfl
  have d4 := c1 4 _ rfl
  have b0 := c2 0 _ rfl
  clear hq1 hq2 c1 c2
  go_wp2_with fail
  obtain ⟨x4, hx⟩ : ∃ x4, x4 = w4.alloc (.cells #[.slice a8 A.length p8] 42) := ⟨_, rfl⟩
  have hsx4 : x4.heap.size = w4.heap.size + 1 := by rw [hx]; simp
  have BX4 : Below w4.heap.size w4 x4 := by rw [hx]; repeat' (first | with_reducible exact Below.refl _ _ | with_reducible assumption | with_reducible apply below_drewN | with_reducible apply Below.drew | with_reducible refine Below.setCell ?_ ?_ _ | with_reducible refine Below.alloc ?_ ?_ _ | omega | (simp; done) | (simp; omega))
  have h8 : x4.heap[w4.heap.size]? = some (.cells #[.slice a8 A.length p8] 42) := by rw [hx]; (repeat (first | assumption | (refine heap_new _ _ _ ?_; simp; done) | refine heap_old _ _ _ _ ?_))
  try rw [← hx]
  clear hx d1 d2 d3 d4 b0 f1 f2 l1 l2 n1 n2
  have BXX4 : Below x.heap.size x x4 := B4.trans (BX4.mono Bz4)
  -- d
  refine (bwout_any _ _ L ⟨s, p, f, l'⟩ _ (R5x.out.below BXX4) (by omega) HS.out (by omega)).mono ?_
  have hlb : (withoutE L ⟨s, p, f, l'⟩).length ≤ L.length := by rw [without_filter HS.out]; exact List.length_filter_le _ _
  have GB := Lib.hid (has_without HS.out ⟨s, p, f, l'⟩)
  have SB : Hid (SortedE (withoutE L ⟨s, p, f, l'⟩)) := Lib.hid (by rw [without_filter HS.out]; exact sorted_filter HS.out _)
  obtain ⟨C, hC⟩ : ∃ C, C = withoutE L ⟨s, p, f, l'⟩ := ⟨_, rfl⟩
  rw [← hC] at GB SB hlb ⊢
  clear hC
  intro e w5 hx5
  obtain ⟨a9, p9, rfl, hr, hb⟩ := retBuf_out hx5
  have B5' : Below x4.heap.size x4 w5 := hb
  have B5 : Below x.heap.size x w5 := BXX4.trans (hb.mono BXX4.size)
  have Bz5 := B5.size
  have Bz5' := B5'.size
  have R9 := Lib.hid hr
  have R8' := Lib.hid ((R8.out.below BX4).below hb)
  have R7 := Lib.hid ((R7'.out.below BX4).below hb)
  have hq8 := (hb.block w4.heap.size (by omega)).trans h8
  clear hr hb hx5 R8 R7' h8
  obtain ⟨hq1, hq2⟩ := H0x.out _ B5
  obtain ⟨c1, f1, l1, n1⟩ := block_cells hq1
  obtain ⟨c2, f2, l2, n2⟩ := block_cells hq2
  obtain ⟨c3, f3, l3, n3⟩ := block_cells hq8
  have d5 := c1 5 _ rfl
  have d6 := c1 6 _ rfl
  have d7 := c1 7 _ rfl
  have b0 := c2 0 _ rfl
  clear hq1 hq2 c1 c2 c3
  go_wp2_with fail
  obtain ⟨x5, hx⟩ : ∃ x5, x5 = w5.alloc (.cells #[.slice a9 C.length p9] 42) := ⟨_, rfl⟩
  have hsx5 : x5.heap.size = w5.heap.size + 1 := by rw [hx]; simp
  have BX5 : Below w5.heap.size w5 x5 := by rw [hx]; repeat' (first | with_reducible exact Below.refl _ _ | with_reducible assumption | with_reducible apply below_drewN | with_reducible apply Below.drew | with_reducible refine Below.setCell ?_ ?_ _ | with_reducible refine Below.alloc ?_ ?_ _ | omega | (simp; done) | (simp; omega))
  have h9 : x5.heap[w5.heap.size]? = some (.cells #[.slice a9 C.length p9] 42) := by rw [hx]; (repeat (first | assumption | (refine heap_new _ _ _ ?_; simp; done) | refine heap_old _ _ _ _ ?_))
  try rw [← hx]
  clear hx d5 d6 d7 b0 f1 f2 f3 l1 l2 l3 n1 n2 n3
  have BXX5 : Below x.heap.size x x5 := B5.trans (BX5.mono Bz5)
  have HA : Hid (∀ W, Below x5.heap.size x5 W → (W.cell? ⟨w.heap.size, 1, none⟩ = some (.int .i64 s) ∧ W.cell? ⟨w.heap.size, 2, none⟩ = some (.int .u64 p) ∧ W.cell? ⟨w.heap.size, 3, none⟩ = some (.int .u64 f) ∧ W.cell? ⟨w.heap.size, 4, none⟩ = some (.int .u64 l')) ∧
      W.cell? ⟨w2.heap.size, 0, none⟩ = some (.slice a1 L.length p1) ∧ W.cell? ⟨w4.heap.size, 0, none⟩ = some (.slice a8 A.length p8) ∧ W.cell? ⟨w5.heap.size, 0, none⟩ = some (.slice a9 C.length p9)) := Lib.hid fun W h => by
    have e1 := H0x.out W (BXX5.trans (h.mono BXX5.size))
    have e2 := (h.block w4.heap.size (by omega)).trans ((BX5.block w4.heap.size (by omega)).trans hq8)
    have e3 := (h.block w5.heap.size (by omega)).trans h9
    exact ⟨⟨(block_cells e1.1).1 1 _ rfl, (block_cells e1.1).1 2 _ rfl, (block_cells e1.1).1 3 _ rfl, (block_cells e1.1).1 4 _ rfl⟩, (block_cells e1.2).1 0 _ rfl, (block_cells e2).1 0 _ rfl, (block_cells e3).1 0 _ rfl⟩
  have Q5 : Hid (RowE x5 w1.heap.size (.slice a1 L.length p1) L) := Lib.hid (R5x.out.below BXX5)
  have Q7 := Lib.hid (R7.out.below BX5)
  have Q8 := Lib.hid (R8'.out.below BX5)
  have Q9 := Lib.hid (R9.out.below BX5)
  have BW5 : Below w.heap.size w x5 := BW0.trans (BXX5.mono BW0s)
  have BW5s := BW5.size
  have hz15 : w1.heap.size ≤ x5.heap.size := by have := BXX5.size; omega
  clear R5x R7 R8' R9 h9 hq8 H0x BXX5 BX5 B5 B5' BXX4 BX4 B4 B3 BW0 hsx5 Bz5 Bz5' hsx4 Bz4 Bz3 BW0s hsx hz1x hz12
  have cE : Hid (∀ W, Below x5.heap.size x5 W → Calls Try.prog 28 #[.agg #[.slice a1 L.length p1]] W (RetE L W)) := Lib.hid fun W h => bentries_any _ _ _ W (Q5.out.below h) (by omega)
  have cS : Hid (∀ b v W, Below x5.heap.size x5 W → RowE W b v L → Calls Try.prog 32 #[v, .slice a7 L.length p7] W (RetB (.bool true) W)) := Lib.hid fun b v W h h' => by
    have := rsame_any _ _ _ _ _ _ W h' (Q7.out.below h) (by omega)
    rw [decide_eq_true rfl] at this
    exact this
  -- Drop, its result is let go
  refine (bdrop_any _ _ L ⟨fk, fp, fs⟩ HFP.out _ Q5.out (by omega) HX.out (by omega)).mono ?_
  intro e w6 hx6
  obtain ⟨a10, p10, rfl, hr, hb⟩ := retBuf_out hx6
  have B6 : Below x5.heap.size x5 w6 := hb
  have Bz6 := B6.size
  clear hr hb hx6
  obtain ⟨⟨d1, d2, d3, d4⟩, b5, b8, b9⟩ := HA.out _ B6
  go_wp2_with fail
  -- c's With, its result is let go
  refine (bwith_any _ _ A ⟨77, 0, 0, 0⟩ _ (Q8.out.below B6) (by omega) SA.out (by omega)).mono ?_
  intro e w7 hx7
  obtain ⟨a11, p11, rfl, hr, hb⟩ := retBuf_out hx7
  have B7 : Below x5.heap.size x5 w7 := B6.trans (hb.mono Bz6)
  have Bz7 := B7.size
  clear hr hb hx7 d1 d2 d3 d4 b5 b8 b9
  obtain ⟨⟨d1, d2, d3, d4⟩, b5, b8, b9⟩ := HA.out _ B7
  go_wp2_with fail
  refine (bhas_any _ _ A ⟨s, p, f, l'⟩ _ (Q8.out.below B7) SA.out (by omega)).mono ?_
  rw [GA.out]
  rintro e w8 ⟨rfl, hb⟩
  have B8 : Below x5.heap.size x5 w8 := B7.trans (hb.mono Bz7)
  have Bz8 := B8.size
  clear hb d1 d2 d3 d4 b5 b8 b9
  obtain ⟨⟨d1, d2, d3, d4⟩, b5, b8, b9⟩ := HA.out _ B8
  go_wp2_with fail
  refine (bhas_any _ _ C ⟨s, p, f, l'⟩ _ (Q9.out.below B8) SB.out (by omega)).mono ?_
  rw [GB.out]
  rintro e w9 ⟨rfl, hb⟩
  have B9 : Below x5.heap.size x5 w9 := B8.trans (hb.mono Bz8)
  have Bz9 := B9.size
  clear hb d1 d2 d3 d4 b5 b8 b9
  obtain ⟨⟨d1, d2, d3, d4⟩, b5, b8, b9⟩ := HA.out _ B9
  go_wp2_with fail
  refine (cE.out _ B9).mono ?_
  intro e w10 hx10
  obtain ⟨a12, p12, rfl, hr, hb⟩ := retE_out hx10
  have B10 : Below x5.heap.size x5 w10 := B9.trans (hb.mono Bz9)
  have Bz10 := B10.size
  have R10 := Lib.hid hr
  clear hb hr hx10 d1 d2 d3 d4 b5 b8 b9
  go_wp2_with fail
  refine (cS.out _ _ _ B10 R10.out).mono ?_
  rintro e w11 ⟨rfl, hb⟩
  have B11 : Below x5.heap.size x5 w11 := B10.trans (hb.mono Bz10)
  have Bz11 := B11.size
  clear hb R10
  obtain ⟨⟨d1, d2, d3, d4⟩, b5, b8, b9⟩ := HA.out _ B11
  go_wp2_with fail
  -- what it told is the asker's
  refine (cE.out _ B11).mono ?_
  intro e w12 hx12
  obtain ⟨a13, p13, rfl, hr, hb⟩ := retE_out hx12
  have B12 : Below x5.heap.size x5 w12 := B11.trans (hb.mono Bz11)
  have Bz12 := B12.size
  have R13 := Lib.hid hr
  have HB0 := Lib.hid hb
  obtain ⟨m, hm⟩ : ∃ m, m = L.length := ⟨_, rfl⟩
  have HM := Lib.hid hm
  clear hb hr hx12 d1 d2 d3 d4 b5 b8 b9 B6 B7 B8 B9 B10 Bz6 Bz7 Bz8 Bz9 Bz10
  rw [← hm] at hlen R13 HA cE cS Q5 Q7 ⊢
  clear hm
  go_wp2_with fail
  rcases R13.out.form with ⟨hv, hL⟩ | ⟨g, cp, hv, hg, hge⟩
  · have hm0 : m = 0 := by rw [HM.out, hL]; rfl
    clear hv hL
    subst hm0
    go_loopw [11] (fun i V => i = .int .i64 0 ∧ Below x5.heap.size x5 V) (fun _ _ => 0)
    case atStart => exact ⟨rfl, B12⟩
    case round =>
      obtain ⟨rfl, hB⟩ := hrel
      have hBs := hB.size
      obtain ⟨⟨d1, d2, d3, d4⟩, b5, b8, b9⟩ := HA.out _ hB
      go_wp2_with fail
      refine (cE.out _ hB).mono ?_
      intro e t1 hy
      obtain ⟨a14, p14, rfl, hr, hb⟩ := retE_out hy
      have C1 : Below x5.heap.size x5 t1 := hB.trans (hb.mono hBs)
      have C1s := C1.size
      go_wp2_with fail
      refine (cS.out _ _ _ C1 hr).mono ?_
      rintro e t2 ⟨rfl, hb2⟩
      have C2 : Below x5.heap.size x5 t2 := C1.trans (hb2.mono C1s)
      clear hb2 hb hr hy
      go_wp2_with fail
      go_ret
      exact ⟨rfl, BW5.trans (C2.mono BW5s)⟩
  · have hsp := R13.out
    rw [HM.out] at hv hsp
    rw [hv] at hsp
    have hsp2 := hsp.spaces
    clear hsp
    rw [← HM.out] at hv hsp2
    simp only [Value.slice.injEq] at hv
    obtain ⟨rfl, -, rfl⟩ := hv
    have hge2 : x5.heap.size ≤ g := by omega
    clear R13
    go_loopw [11] (fun i V => ∃ j : Nat, j ≤ m ∧ i = .int .i64 (j : Nat) ∧ Spaces V g m ∧ Below x5.heap.size x5 V) (fun i _ => (m - (intOf i)).toNat)
    case atStart => exact ⟨0, by omega, rfl, hsp2, B12⟩
    case round =>
      obtain ⟨j, hj, rfl, hp, hB⟩ := hrel
      have hBs := hB.size
      by_cases hjm : j < m
      · obtain ⟨z, hz⟩ := hp.cell j hjm
        have hfz := hp.frozen
        have HP := Lib.hid hp
        clear hp hsp2
        go_wp2_with fail
        go_roundw
        case rel => exact ⟨j + 1, by omega, by go_num, HP.out.put j _, hB.setCell hge2 _⟩
        case measure => first | (simp [intOf]; done) | (simp [intOf]; omega)
      · obtain ⟨⟨d1, d2, d3, d4⟩, b5, b8, b9⟩ := HA.out _ hB
        obtain rfl : j = m := by omega
        clear hp hsp2
        go_wp2_with fail
        refine (cE.out _ hB).mono ?_
        intro e t1 hy
        obtain ⟨a14, p14, rfl, hr, hb⟩ := retE_out hy
        have C1 : Below x5.heap.size x5 t1 := hB.trans (hb.mono hBs)
        have C1s := C1.size
        go_wp2_with fail
        refine (cS.out _ _ _ C1 hr).mono ?_
        rintro e t2 ⟨rfl, hb2⟩
        have C2 : Below x5.heap.size x5 t2 := C1.trans (hb2.mono C1s)
        clear hb2 hb hr hy
        go_wp2_with fail
        go_ret
        exact ⟨rfl, BW5.trans (C2.mono BW5s)⟩

set_option maxRecDepth 100000 in
theorem tlbKeeps_lifted (os : Os) (started : os.Started) (H : Type) (enc : TypeId × Value → H) :
    ReturnsInHanded {} Try.checked os 8 .any (Rows.tlbKeepsSpec.pre6 enc Try.prog Try.f8 Rows.tlbKeepsRow.domain false) (Rows.tlbKeepsSpec.post enc Try.prog Try.f8 false true false false) := by
  refine returnsInHanded_of_change (C := Try.checked) own started (by kernel_rfl) Try.func8
    (ChangeSpec.witness6 (enc := enc) (C := Try.checked) false ⟨#[], #[.slice none 0 0, opV (0, E.zero, ⟨0, 0, 0⟩)], []⟩ 8 (by kernel_rfl) (by kernel_rfl) (by kernel_rfl) (by kernel_rfl)) ?_
  intro W base args ds gs before hval0 hW _ _
  have hval : ∀ (j : Nat) t v, Try.f8.params[j]? = some t → args[j]? = some v → Value.okWide Try.prog W .any base t v := hval0
  have hW' := hW
  obtain ⟨p, q, hA0, hV, rfl, hfz, hnd⟩ := hW
  have hA : DataW.TrodAll enc Try.prog W 0 (fun _ => true) true Try.f8.params.toList args.toList ds p := hA0
  rw [Try.params8] at hA hval
  obtain ⟨v0, vs0, d0, ds0, p0, q0, hargs, rfl, rfl, h0, r0⟩ := trodAll_cons hA
  obtain ⟨v1, vs1, d1, ds1, p1, q1, rfl, rfl, rfl, h1, r1⟩ := trodAll_cons r0
  obtain ⟨rfl, rfl, rfl⟩ := trodAll_nil r1
  obtain rfl : args = #[v0, v1] := by cases args; simp_all
  obtain ⟨rfl, rfl⟩ := trodVars_none hV
  obtain ⟨o0, k0, l0, rfl, A0, c0, w0⟩ := arg_op9s h0 (hval 0 47 v0 rfl rfl)
  obtain ⟨a1, rfl, w1⟩ := arg_op9 (hval 1 49 v1 rfl rfl)
  refine (tlbKeeps_walk (w := W) o0 k0 l0 a1 A0 c0 w0 w1).mono fun e W' ⟨he, hb⟩ => ?_
  subst he
  exact ⟨_, rfl, post_law laid hW' rfl (by kernel_rfl) rfl Try.underlying4 rfl hb⟩

/-- The statement. -/
theorem tlbKeeps_holds : Rows.TlbKeepsSaid :=
  OpenClaim.holds_of_wide 8 Try.f8 rfl rfl rfl rfl rfl rfl rfl ⟨rfl, rfl, rfl, rfl, rfl⟩ rfl rfl rfl rfl rfl (by kernel_rfl) Try.func8 (by kernel_rfl)
    (of_decide_eq_true (by kernel_rfl)) (by unfold Func.isWrapper; first | (rw [if_pos (by decide +kernel)]; kernel_rfl) | (rw [if_neg (by decide +kernel)]; exact ⟨rfl, rfl⟩))
    (fun os started H enc _ => tlbKeeps_lifted os started H enc)
#print axioms tlbKeeps_holds

end Go.Proofs.Ytcaggboeacgknaa
