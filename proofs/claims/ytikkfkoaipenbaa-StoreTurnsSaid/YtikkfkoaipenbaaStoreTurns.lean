/- The statement StoreTurns: writes to unlike cells may be done in either order. No conditions. -/
import Derived.Test.YtikkfkoaipenbaaAwake06
import Derived.Test.YtikkfkoaipenbaaStorec
import Derived.Test.YtikkfkoaipenbaaSame
import Derived.Test.YtikkfkoaipenbaaArgc
import Derived.Test.YtikkfkoaipenbaaRows
namespace Go.Proofs.Ytikkfkoaipenbaa
open Go.RowKit Go.ChangeShapes Go.WideShapes Go.ChangeAt

theorem write_mem {L : List (Int × Int)} {a v : Int} (hs : Sorted L) (hz : (writeL L a v).2 = 0) (p : Int × Int) : p ∈ (writeL L a v).1 ↔ (p = (a, v) ∧ v ≠ 0) ∨ (p.1 ≠ a ∧ p ∈ L) := by
  unfold writeL at hz ⊢
  split at hz
  · rename_i hc
    rw [if_pos hc]
    split at hz
    · rename_i hv
      rw [if_pos hv]
      simp only [mem_without L hs a p]
      constructor
      · exact .inr
      · rintro (⟨_, h⟩ | h)
        · exact absurd hv h
        · exact h
    · rename_i hv
      rw [if_neg hv]
      split at hz
      · rename_i hl
        rw [if_pos hl]
        simp only [mem_with L hs a v p]
        constructor
        · rintro (h | h)
          · exact .inl ⟨h, hv⟩
          · exact .inr h
        · rintro (⟨h, _⟩ | h)
          · exact .inl h
          · exact .inr h
      · simp at hz
  · rename_i hc
    exact absurd hz hc

theorem write_turn {L : List (Int × Int)} {a v b u : Int} (hs : Sorted L) (hab : a ≠ b) (h1 : (writeL L a v).2 = 0) (h2 : (writeL (writeL L a v).1 b u).2 = 0) (h3 : (writeL L b u).2 = 0) (h4 : (writeL (writeL L b u).1 a v).2 = 0) :
    (writeL (writeL L a v).1 b u).1 = (writeL (writeL L b u).1 a v).1 := by
  have s1 := sorted_write hs a v
  have s2 := sorted_write hs b u
  refine sorted_ext (sorted_write s1 b u) (sorted_write s2 a v) fun p => ?_
  rw [write_mem s1 h2, write_mem hs h1, write_mem s2 h4, write_mem hs h3]
  constructor
  · rintro (⟨rfl, h⟩ | ⟨h, ⟨rfl, g⟩ | ⟨g, k⟩⟩)
    · exact .inr ⟨fun e => hab e.symm, .inl ⟨rfl, h⟩⟩
    · exact .inl ⟨rfl, g⟩
    · exact .inr ⟨g, .inr ⟨h, k⟩⟩
  · rintro (⟨rfl, h⟩ | ⟨h, ⟨rfl, g⟩ | ⟨g, k⟩⟩)
    · exact .inr ⟨hab, .inl ⟨rfl, h⟩⟩
    · exact .inl ⟨rfl, g⟩
    · exact .inr ⟨g, .inr ⟨h, k⟩⟩

set_option maxHeartbeats 4000000 in
theorem storeTurns_walk {w : World} (ao : Option Addr) (cap : Nat) (l : List (Int × Int)) (a v b u : Int) (hl : Atc w ao l) (_hc : ao = none → cap = 0) (hu : ∀ p ∈ l, U64 p.1 ∧ U64 p.2) (ha : U64 a) (_hv : U64 v) (hb : U64 b) (_hu : U64 u) :
    Calls Try.prog 8 #[.slice ao l.length cap, .agg #[.int .u64 a, .int .u64 v], .agg #[.int .u64 b, .int .u64 u]] w (RetB (.bool true) w) := by
  have HL := Lib.hid hl
  have HU : Hid (∀ p ∈ l, U64 p.1) := Lib.hid fun p hp => (hu p hp).1
  have HA := Lib.hid ha
  have HBB := Lib.hid hb
  obtain ⟨n, hn⟩ : ∃ n, n = l.length := ⟨_, rfl⟩
  have HN := Lib.hid hn
  rw [← hn]
  clear hl hu ha hb hn
  go_enter Try.func8, Try.ntmps8
  go_wp2_with fail
  obtain ⟨w0, hw0⟩ : ∃ w0, w0 = (w.alloc (.cells #[.int .u64 a, .int .u64 v] 73)).alloc (.cells #[.int .u64 b, .int .u64 u] 73) := ⟨_, rfl⟩
  have B0 : Below w.heap.size w w0 := by rw [hw0]; repeat' (first | with_reducible exact Below.refl _ _ | with_reducible assumption | with_reducible apply below_drewN | with_reducible apply Below.drew | with_reducible refine Below.setCell ?_ ?_ _ | with_reducible refine Below.alloc ?_ ?_ _ | omega | (simp; done) | (simp; omega))
  have Bz0 := B0.size
  have hs0 : w0.heap.size = w.heap.size + 2 := by rw [hw0]; simp
  have hb1 : w0.heap[w.heap.size]? = some (.cells #[.int .u64 a, .int .u64 v] 73) := by rw [hw0]; (repeat (first | assumption | (refine heap_new _ _ _ ?_; simp; done) | refine heap_old _ _ _ _ ?_))
  have hb2 : w0.heap[w.heap.size + 1]? = some (.cells #[.int .u64 b, .int .u64 u] 73) := by rw [hw0]; (repeat (first | assumption | (refine heap_new _ _ _ ?_; simp; done) | refine heap_old _ _ _ _ ?_))
  rw [← hw0]
  clear hw0
  obtain ⟨c0, -, l0, n0⟩ := block_cells hb1
  obtain ⟨c1, -, l1, n1⟩ := block_cells hb2
  have d0 := c0 0 _ rfl
  have d1 := c0 1 _ rfl
  have d2 := c1 0 _ rfl
  have d3 := c1 1 _ rfl
  clear c0 c1 hb1 hb2
  refine (awake_any _).mono ?_
  rintro e w1 ⟨rfl, hb⟩
  have B1 : Below w0.heap.size w0 w1 := Below.trans (by repeat' (first | with_reducible exact Below.refl _ _ | with_reducible assumption | with_reducible apply below_drewN | with_reducible apply Below.drew | with_reducible refine Below.setCell ?_ ?_ _ | with_reducible refine Below.alloc ?_ ?_ _ | omega | (simp; done) | (simp; omega))) (hb.mono (by first | omega | (simp; done) | (simp; omega)))
  have Bz1 := B1.size
  clear hb
  by_cases hbig : 200 < n
  · go_wp2_with fail
    go_ret
    exact ⟨rfl, B0.trans (B1.mono Bz0)⟩
  · have hbig' : n ≤ 200 := by omega
    go_wp2_with fail
    refine (of_any ao n cap l _ (HL.out.below (B0.trans (B1.mono Bz0))) HN.out (by have := HN.out; omega) HU.out).mono ?_
    obtain ⟨r1, r2, r3, r4⟩ := of_ref l (L := []) (M := []) rfl (by simp)
    have r5 := ofL_sorted l
    clear r1 r2 r4
    generalize ofL [] l = p at r3 r5
    obtain ⟨L, z⟩ := p
    simp only at r3 r5
    have R5 := Lib.hid r5
    clear r5
    rintro e w2 ⟨ks, vs, rfl, hm, hb⟩
    have B2 : Below w0.heap.size w0 w2 := B1.trans (hb.mono (by first | omega | (simp; done) | (simp; omega)))
    have Bz2 := B2.size
    have M1 := Lib.hid hm
    obtain ⟨ao1, cap1, rfl⟩ := ownsRow_form hm.keys
    obtain ⟨ao2, cap2, rfl⟩ := ownsRow_form hm.vals
    obtain ⟨k1, -, k3, k4⟩ := keepB B2 w.heap.size (by omega)
    obtain ⟨j1, -, j3, j4⟩ := keepB B2 (w.heap.size + 1) (by omega)
    clear hb hm
    by_cases hz : z = 0
    · subst hz
      by_cases hab : a = b
      · go_wp2_with fail
        go_ret
        exact ⟨rfl, B0.trans ((Below.trans (B := w0.heap.size) B2 (by repeat' (first | with_reducible exact Below.refl _ _ | with_reducible assumption | with_reducible apply below_drewN | with_reducible apply Below.drew | with_reducible refine Below.setCell ?_ ?_ _ | with_reducible refine Below.alloc ?_ ?_ _ | omega | (simp; done) | (simp; omega)))).mono Bz0)⟩
      · go_wp2_with fail
        have HWT : Hid ((writeL L a v).2 = 0 → (writeL (writeL L a v).1 b u).2 = 0 → (writeL L b u).2 = 0 → (writeL (writeL L b u).1 a v).2 = 0 → (writeL (writeL L a v).1 b u).1 = (writeL (writeL L b u).1 a v).1) := Lib.hid (write_turn R5.out hab)
        have s1 := sorted_write R5.out a v
        have s2 := sorted_write R5.out b u
        have t1 := len_write r3 a v
        have t2 := len_write r3 b u
        have t3 := len_write t1 b u
        have t4 := len_write t2 a v
        refine (write_any _ _ L a v _ (M1.out.below (by repeat' (first | with_reducible exact Below.refl _ _ | with_reducible assumption | with_reducible apply below_drewN | with_reducible apply Below.drew | with_reducible refine Below.setCell ?_ ?_ _ | with_reducible refine Below.alloc ?_ ?_ _ | omega | (simp; done) | (simp; omega)))) R5.out (by omega) HA.out).mono ?_
        obtain ⟨p1, hp1⟩ : ∃ p, p = writeL L a v := ⟨_, rfl⟩
        rw [← hp1] at HWT s1 t1 t3 ⊢
        obtain ⟨p2, hp2⟩ : ∃ p, p = writeL p1.1 b u := ⟨_, rfl⟩
        rw [← hp2] at HWT t3
        obtain ⟨p3, hp3⟩ : ∃ p, p = writeL L b u := ⟨_, rfl⟩
        rw [← hp3] at HWT s2 t2 t4
        obtain ⟨p4, hp4⟩ : ∃ p, p = writeL p3.1 a v := ⟨_, rfl⟩
        rw [← hp4] at HWT t4
        obtain ⟨X1, f⟩ := p1
        obtain ⟨X2, g⟩ := p2
        obtain ⟨Y1, h⟩ := p3
        obtain ⟨Y2, i⟩ := p4
        simp only at HWT s1 s2 t1 t2 t3 t4 hp2 hp4
        have P2 := Lib.hid hp2
        have P3 := Lib.hid hp3
        have P4 := Lib.hid hp4
        have S1 := Lib.hid s1
        have S2 := Lib.hid s2
        clear hp1 hp2 hp3 hp4 s1 s2 hab
        -- the first write
        have e7 : (w2.alloc (.cells #[.slice ao1 L.length cap1, .slice ao2 L.length cap2] 55)).heap[w2.heap.size]? = some (.cells #[.slice ao1 L.length cap1, .slice ao2 L.length cap2] 55) := by (repeat (first | assumption | (refine heap_new _ _ _ ?_; simp; done) | refine heap_old _ _ _ _ ?_))
        rintro e w3 ⟨ks1, vs1, rfl, hm, hb⟩
        have e7' := (hb.block w2.heap.size (by simp)).trans e7
        have B3 : Below w0.heap.size w0 w3 := Below.trans (B := w0.heap.size) (by repeat' (first | with_reducible exact Below.refl _ _ | with_reducible assumption | with_reducible apply below_drewN | with_reducible apply Below.drew | with_reducible refine Below.setCell ?_ ?_ _ | with_reducible refine Below.alloc ?_ ?_ _ | omega | (simp; done) | (simp; omega))) (hb.mono (by first | omega | (simp; done) | (simp; omega)))
        have M1' := Lib.hid ((M1.out.below ((Below.refl _ _).alloc (Nat.le_refl _) (.cells #[.slice ao1 L.length cap1, .slice ao2 L.length cap2] 55))).below hb)
        have Bz3 := hb.size
        have M2 := Lib.hid hm
        obtain ⟨ao3, cap3, rfl⟩ := ownsRow_form hm.keys
        obtain ⟨ao4, cap4, rfl⟩ := ownsRow_form hm.vals
        have d0' := (B3.cell (p := ⟨w.heap.size, 0, none⟩) l0).trans d0
        have d1' := (B3.cell (p := ⟨w.heap.size, 1, none⟩) l0).trans d1
        have d2' := (B3.cell (p := ⟨w.heap.size + 1, 0, none⟩) l1).trans d2
        have d3' := (B3.cell (p := ⟨w.heap.size + 1, 1, none⟩) l1).trans d3
        have E7 := Lib.hid e7'
        have hz3 : w2.heap.size < w3.heap.size := by simp at Bz3; omega
        clear hb hm e7 e7' k1 k3 k4 j1 j3 j4 Bz3 M1
        have q1 : w.heap.size < w3.heap.size := by omega
        have q2 : w.heap.size + 1 < w3.heap.size := by omega
        have q3 : w.heap.size ≠ w3.heap.size := by omega
        have q4 : w.heap.size + 1 ≠ w3.heap.size := by omega
        go_wp2_with fail
        -- the second write
        refine (write_any _ _ X1 b u _ (M2.out.below (by repeat' (first | with_reducible exact Below.refl _ _ | with_reducible assumption | with_reducible apply below_drewN | with_reducible apply Below.drew | with_reducible refine Below.setCell ?_ ?_ _ | with_reducible refine Below.alloc ?_ ?_ _ | omega | (simp; done) | (simp; omega)))) S1.out (by omega) HBB.out).mono ?_
        rw [← P2.out]
        rintro e w4 ⟨ks2, vs2, rfl, hm, hb⟩
        have e9 : w4.heap[w3.heap.size]? = some (.cells #[.slice ao3 X1.length cap3, .slice ao4 X1.length cap4] 55) := (hb.block w3.heap.size (by simp)).trans (by (repeat (first | assumption | (refine heap_new _ _ _ ?_; simp; done) | refine heap_old _ _ _ _ ?_)))
        have e7 := (hb.block w2.heap.size (by simp; omega)).trans (heap_old _ _ _ _ E7.out)
        have B4 : Below w0.heap.size w0 w4 := Below.trans (B := w0.heap.size) (by repeat' (first | with_reducible exact Below.refl _ _ | with_reducible assumption | with_reducible apply below_drewN | with_reducible apply Below.drew | with_reducible refine Below.setCell ?_ ?_ _ | with_reducible refine Below.alloc ?_ ?_ _ | omega | (simp; done) | (simp; omega))) (hb.mono (by first | omega | (simp; done) | (simp; omega)))
        have M1'' := Lib.hid ((M1'.out.below ((Below.refl _ _).alloc (Nat.le_refl _) (.cells #[.slice ao3 X1.length cap3, .slice ao4 X1.length cap4] 55))).below hb)
        have Bz4 := hb.size
        have M3 := Lib.hid hm
        obtain ⟨ao5, cap5, rfl⟩ := ownsRow_form hm.keys
        obtain ⟨ao6, cap6, rfl⟩ := ownsRow_form hm.vals
        have hz4 : w3.heap.size < w4.heap.size := by simp at Bz4; omega
        clear d0' d1' d2' d3'
        have d0' := (B4.cell (p := ⟨w.heap.size, 0, none⟩) l0).trans d0
        have d1' := (B4.cell (p := ⟨w.heap.size, 1, none⟩) l0).trans d1
        have d2' := (B4.cell (p := ⟨w.heap.size + 1, 0, none⟩) l1).trans d2
        have d3' := (B4.cell (p := ⟨w.heap.size + 1, 1, none⟩) l1).trans d3
        obtain ⟨c7, f7, -, -⟩ := block_cells e7
        obtain ⟨c9, f9, -, -⟩ := block_cells e9
        have g0 := c7 0 _ rfl
        have g1 := c7 1 _ rfl
        have g2 := c9 0 _ rfl
        have g3 := c9 1 _ rfl
        have E7' := Lib.hid e7
        have E9 := Lib.hid e9
        have q5 : w3.heap.size ≠ w2.heap.size := by omega
        have q6 : w3.heap.size ≠ w.heap.size := by omega
        have q7 : w3.heap.size ≠ w.heap.size + 1 := by omega
        clear hb hm e7 e9 E7 M1' Bz4 c7 c9
        go_wp2_with fail
        -- the third write
        obtain ⟨wx, hwx⟩ : ∃ wx, wx = (w4.setCell ⟨w3.heap.size, 0, none⟩ (.slice ao5 X2.length cap5)).setCell ⟨w3.heap.size, 1, none⟩ (.slice ao6 X2.length cap6) := ⟨_, rfl⟩
        have B5 : Below w0.heap.size w0 wx := by rw [hwx]; exact (B4.setCell (show _ ≤ w3.heap.size by omega) _).setCell (show _ ≤ w3.heap.size by omega) _
        have X9 : Hid (wx.heap[w3.heap.size]? = some (.cells #[.slice ao5 X2.length cap5, .slice ao6 X2.length cap6] 55)) := Lib.hid (by rw [hwx]; exact block_set (block_set E9.out rfl) rfl)
        have X7 : Hid (wx.heap[w2.heap.size]? = some (.cells #[.slice ao1 L.length cap1, .slice ao2 L.length cap2] 55)) := Lib.hid (by rw [hwx]; exact block_else (block_else E7'.out q5) q5)
        have N1 : Hid (MapuIs wx (.slice ao1 L.length cap1) (.slice ao2 L.length cap2) L) := Lib.hid (by rw [hwx]; exact (M1''.out.set E9.out (by decide) (by decide) _ _).set (heap_setCell_cells E9.out) (by decide) (by decide) _ _)
        have N2 : Hid (MapuIs wx (.slice ao5 X2.length cap5) (.slice ao6 X2.length cap6) X2) := Lib.hid (by rw [hwx]; exact (M3.out.set E9.out (by decide) (by decide) _ _).set (heap_setCell_cells E9.out) (by decide) (by decide) _ _)
        have hzx : wx.heap.size = w4.heap.size := by rw [hwx]; simp [World.setCell]
        rw [← hwx]
        clear hwx g0 g1 g2 g3 f7 f9 d0' d1' d2' d3' E7' E9 M1'' M3
        refine (write_any _ _ L b u _ N1.out R5.out (by omega) HBB.out).mono ?_
        rw [← P3.out]
        rintro e w5 ⟨ks3, vs3, rfl, hm, hb⟩
        have hz5 := hb.size
        have B6 : Below w0.heap.size w0 w5 := B5.trans (hb.mono (by omega))
        have X9' := Lib.hid ((hb.block w3.heap.size (by omega)).trans X9.out)
        have N2' := Lib.hid (N2.out.below hb)
        have M4 := Lib.hid hm
        obtain ⟨ao7, cap7, rfl⟩ := ownsRow_form hm.keys
        obtain ⟨ao8, cap8, rfl⟩ := ownsRow_form hm.vals
        have d0' := (B6.cell (p := ⟨w.heap.size, 0, none⟩) l0).trans d0
        have d1' := (B6.cell (p := ⟨w.heap.size, 1, none⟩) l0).trans d1
        have d2' := (B6.cell (p := ⟨w.heap.size + 1, 0, none⟩) l1).trans d2
        have d3' := (B6.cell (p := ⟨w.heap.size + 1, 1, none⟩) l1).trans d3
        have q8 : w.heap.size ≠ w5.heap.size := by omega
        have q9 : w.heap.size + 1 ≠ w5.heap.size := by omega
        have q10 : w.heap.size < w5.heap.size := by omega
        have q11 : w.heap.size + 1 < w5.heap.size := by omega
        clear hb hm X7 X9 N1 N2
        go_wp2_with fail
        -- the fourth write
        refine (write_any _ _ Y1 a v _ (M4.out.below (by repeat' (first | with_reducible exact Below.refl _ _ | with_reducible assumption | with_reducible apply below_drewN | with_reducible apply Below.drew | with_reducible refine Below.setCell ?_ ?_ _ | with_reducible refine Below.alloc ?_ ?_ _ | omega | (simp; done) | (simp; omega)))) S2.out (by omega) HA.out).mono ?_
        rw [← P4.out]
        rintro e w6 ⟨ks4, vs4, rfl, hm, hb⟩
        have hz6 := hb.size
        have B7 : Below w0.heap.size w0 w6 := Below.trans (B := w0.heap.size) (by repeat' (first | with_reducible exact Below.refl _ _ | with_reducible assumption | with_reducible apply below_drewN | with_reducible apply Below.drew | with_reducible refine Below.setCell ?_ ?_ _ | with_reducible refine Below.alloc ?_ ?_ _ | omega | (simp; done) | (simp; omega))) (hb.mono (by first | omega | (simp; done) | (simp; omega)))
        have e12 : w6.heap[w5.heap.size]? = some (.cells #[.slice ao7 Y1.length cap7, .slice ao8 Y1.length cap8] 55) := (hb.block w5.heap.size (by simp)).trans (by (repeat (first | assumption | (refine heap_new _ _ _ ?_; simp; done) | refine heap_old _ _ _ _ ?_)))
        have e9 := (hb.block w3.heap.size (by simp; omega)).trans (heap_old _ _ _ _ X9'.out)
        have N3 := Lib.hid ((N2'.out.below ((Below.refl _ _).alloc (Nat.le_refl _) (.cells #[.slice ao7 Y1.length cap7, .slice ao8 Y1.length cap8] 55))).below hb)
        have M5 := Lib.hid hm
        obtain ⟨ao9, cap9, rfl⟩ := ownsRow_form hm.keys
        obtain ⟨ao10, cap10, rfl⟩ := ownsRow_form hm.vals
        have hz7 : w5.heap.size < w6.heap.size := by simp at hz6; omega
        obtain ⟨c9, f9, -, -⟩ := block_cells e9
        obtain ⟨c12, f12, -, -⟩ := block_cells e12
        have g0 := c9 0 _ rfl
        have g1 := c9 1 _ rfl
        have g2 := c12 0 _ rfl
        have g3 := c12 1 _ rfl
        have q12 : w5.heap.size ≠ w3.heap.size := by omega
        have E9 := Lib.hid e9
        have E12 := Lib.hid e12
        clear hb hm e9 e12 c9 c12 X9' N2' d0' d1' d2' d3'
        by_cases hf : f = 0
        · subst hf
          by_cases hg : g = 0
          · subst hg
            by_cases hh : h = 0
            · subst hh
              by_cases hi : i = 0
              · subst hi
                have HXY : Hid (X2 = Y2) := Lib.hid (HWT.out rfl rfl rfl rfl)
                go_wp2_with fail
                obtain ⟨wy, hwy⟩ : ∃ wy, wy = (w6.setCell ⟨w5.heap.size, 0, none⟩ (.slice ao9 Y2.length cap9)).setCell ⟨w5.heap.size, 1, none⟩ (.slice ao10 Y2.length cap10) := ⟨_, rfl⟩
                have B8 : Below w0.heap.size w0 wy := by rw [hwy]; exact (B7.setCell (show _ ≤ w5.heap.size by omega) _).setCell (show _ ≤ w5.heap.size by omega) _
                have N4 : MapuIs wy (.slice ao5 X2.length cap5) (.slice ao6 X2.length cap6) X2 := by rw [hwy]; exact (N3.out.set E12.out (by decide) (by decide) _ _).set (heap_setCell_cells E12.out) (by decide) (by decide) _ _
                have N5 : MapuIs wy (.slice ao9 Y2.length cap9) (.slice ao10 Y2.length cap10) Y2 := by rw [hwy]; exact (M5.out.set E12.out (by decide) (by decide) _ _).set (heap_setCell_cells E12.out) (by decide) (by decide) _ _
                rw [← hwy]
                clear hwy
                refine (same_any _ _ _ _ X2 Y2 _ N4 N5 (by omega) (by omega)).mono ?_
                rw [decide_eq_true HXY.out]
                rintro e w7 ⟨rfl, hb⟩
                have B9 := B8.trans (hb.mono B8.size)
                clear hb N4 N5
                go_wp2_with fail
                go_ret
                exact ⟨rfl, B0.trans (B9.mono Bz0)⟩
              · go_wp2_with fail
                go_ret
                exact ⟨rfl, B0.trans (Below.mono (B := w0.heap.size) (by repeat' (first | with_reducible exact Below.refl _ _ | with_reducible assumption | with_reducible apply below_drewN | with_reducible apply Below.drew | with_reducible refine Below.setCell ?_ ?_ _ | with_reducible refine Below.alloc ?_ ?_ _ | omega | (simp; done) | (simp; omega))) Bz0)⟩
            · go_wp2_with fail
              go_ret
              exact ⟨rfl, B0.trans (Below.mono (B := w0.heap.size) (by repeat' (first | with_reducible exact Below.refl _ _ | with_reducible assumption | with_reducible apply below_drewN | with_reducible apply Below.drew | with_reducible refine Below.setCell ?_ ?_ _ | with_reducible refine Below.alloc ?_ ?_ _ | omega | (simp; done) | (simp; omega))) Bz0)⟩
          · go_wp2_with fail
            go_ret
            exact ⟨rfl, B0.trans (Below.mono (B := w0.heap.size) (by repeat' (first | with_reducible exact Below.refl _ _ | with_reducible assumption | with_reducible apply below_drewN | with_reducible apply Below.drew | with_reducible refine Below.setCell ?_ ?_ _ | with_reducible refine Below.alloc ?_ ?_ _ | omega | (simp; done) | (simp; omega))) Bz0)⟩
        · go_wp2_with fail
          go_ret
          exact ⟨rfl, B0.trans (Below.mono (B := w0.heap.size) (by repeat' (first | with_reducible exact Below.refl _ _ | with_reducible assumption | with_reducible apply below_drewN | with_reducible apply Below.drew | with_reducible refine Below.setCell ?_ ?_ _ | with_reducible refine Below.alloc ?_ ?_ _ | omega | (simp; done) | (simp; omega))) Bz0)⟩
    · go_wp2_with fail
      go_ret
      exact ⟨rfl, B0.trans ((Below.trans (B := w0.heap.size) B2 (by repeat' (first | with_reducible exact Below.refl _ _ | with_reducible assumption | with_reducible apply below_drewN | with_reducible apply Below.drew | with_reducible refine Below.setCell ?_ ?_ _ | with_reducible refine Below.alloc ?_ ?_ _ | omega | (simp; done) | (simp; omega)))).mono Bz0)⟩

set_option maxRecDepth 100000
set_option maxRecDepth 100000 in
theorem storeTurns_lifted (os : Os) (started : os.Started) (H : Type) (enc : TypeId × Value → H) :
    ReturnsInHanded {} Try.checked os 8 .any (Rows.storeTurnsSpec.pre6 enc Try.prog Try.f8 Rows.storeTurnsRow.domain false) (Rows.storeTurnsSpec.post enc Try.prog Try.f8 false true false false) := by
  refine returnsInHanded_of_change (C := Try.checked) own started (by kernel_rfl) Try.func8
    (ChangeSpec.witness6 (enc := enc) (C := Try.checked) false ⟨#[], #[.slice none 0 0, .agg #[.int .u64 0, .int .u64 0], .agg #[.int .u64 0, .int .u64 0]], []⟩ 8 (by kernel_rfl) (by kernel_rfl) (by kernel_rfl) (by kernel_rfl)) ?_
  intro W base args ds gs before hval0 hW _ _
  have hval : ∀ (j : Nat) t v, Try.f8.params[j]? = some t → args[j]? = some v → Value.okWide Try.prog W .any base t v := hval0
  have hW' := hW
  obtain ⟨p, q, hA0, hV, rfl, hfz, hnd⟩ := hW
  have hA : DataW.TrodAll enc Try.prog W 0 (fun _ => true) true Try.f8.params.toList args.toList ds p := hA0
  rw [Try.params8] at hA hval
  obtain ⟨v0, vs0, d0, ds0, p0, q0, hargs, rfl, rfl, h0, r0⟩ := trodAll_cons hA
  obtain ⟨v1, vs1, d1, ds1, p1, q1, rfl, rfl, rfl, h1, r1⟩ := trodAll_cons r0
  obtain ⟨v2, vs2, d2, ds2, p2, q2, rfl, rfl, rfl, h2, r2⟩ := trodAll_cons r1
  obtain ⟨rfl, rfl, rfl⟩ := trodAll_nil r2
  obtain rfl : args = #[v0, v1, v2] := by cases args; simp_all
  obtain ⟨rfl, rfl⟩ := trodVars_none hV
  obtain ⟨o0, k0, l0, rfl, A0, c0, w0⟩ := arg_cells h0 (hval 0 51 v0 rfl rfl)
  obtain ⟨a1, b1, rfl, w1, x1⟩ := arg_cell (hval 1 73 v1 rfl rfl)
  obtain ⟨a2, b2, rfl, w2, x2⟩ := arg_cell (hval 2 73 v2 rfl rfl)
  refine (storeTurns_walk (w := W) o0 k0 l0 a1 b1 a2 b2 A0 c0 w0 w1 x1 w2 x2).mono fun e W' ⟨he, hb⟩ => ?_
  subst he
  exact ⟨_, rfl, post_law laid hW' rfl (by kernel_rfl) rfl Try.underlying4 rfl hb⟩

/-- The statement. -/
theorem storeTurns_holds : Rows.StoreTurnsSaid :=
  OpenClaim.holds_of_wide 8 Try.f8 rfl rfl rfl rfl rfl rfl rfl ⟨rfl, rfl, rfl, rfl, rfl⟩ rfl rfl rfl rfl rfl (by kernel_rfl) Try.func8 (by kernel_rfl)
    (of_decide_eq_true (by kernel_rfl)) (by unfold Func.isWrapper; first | (rw [if_pos (by decide +kernel)]; kernel_rfl) | (rw [if_neg (by decide +kernel)]; exact ⟨rfl, rfl⟩))
    (fun os started H enc _ => storeTurns_lifted os started H enc)
#print axioms storeTurns_holds
