/- The statement StoreKeeps: what is made of a map leaves it as it was. No conditions. -/
import Derived.Test.YtikkfkoaipenbaaAwake06
import Derived.Test.YtikkfkoaipenbaaPlayed
import Derived.Test.YtikkfkoaipenbaaIs
import Derived.Test.YtikkfkoaipenbaaRows
namespace Go.Proofs.Ytikkfkoaipenbaa
open Go.RowKit Go.ChangeShapes Go.WideShapes Go.ChangeAt

theorem lt_alloc (w : World) (o : Obj) : w.heap.size < (w.alloc o).heap.size := by simp

theorem lt_allocd (w : World) (o : Obj) : w.heap.size < (w.alloc o).drew.heap.size := by simp

theorem new_cell (w : World) (x y : Value) (t : TypeId) (o : Nat) (v : Value) (h : #[x, y][o]? = some v) : (w.alloc (.cells #[x, y] t)).drew.cell? ⟨w.heap.size, o, none⟩ = some v := by
  show (w.alloc (.cells #[x, y] t)).cell? ⟨w.heap.size, o, none⟩ = some v
  have := (block_cells (heap_new w (.cells #[x, y] t) w.heap.size rfl)).1 o v h
  exact this
theorem new_frozen (w : World) (cs : Array Value) (t : TypeId) (o : Nat) : (w.alloc (.cells cs t)).drew.frozen? ⟨w.heap.size, o, none⟩ = false :=
  (block_cells (heap_new w (.cells cs t) w.heap.size rfl)).2.1 o

theorem heap_newd (w : World) (o : Obj) : (w.alloc o).drew.heap[w.heap.size]? = some o := heap_new w o _ rfl
theorem heap_newp (w : World) (o : Obj) : (w.alloc o).heap[w.heap.size]? = some o := heap_new w o _ rfl

theorem with_here {L : List (Int × Int)} (hs : Sorted L) (k v : Int) : hasL (withL L k v) k = true ∧ getL (withL L k v) k = v := by
  have hm : (k, v) ∈ withL L k v := (mem_with L hs k v _).2 (.inl rfl)
  exact ⟨(has_mem _ k).2 ⟨v, hm⟩, get_mem (sorted_with hs k v) hm⟩
theorem without_here {L : List (Int × Int)} (hs : Sorted L) (k : Int) : hasL (withoutL L k) k = false := by
  rw [Bool.eq_false_iff, ne_eq, has_mem]
  rintro ⟨v, hv⟩
  exact ((mem_without L hs k _).1 hv).1 rfl

set_option maxRecDepth 100000 in
set_option maxHeartbeats 8000000 in
theorem storeKeeps_walk {w : World} (ao : Option Addr) (cap : Nat) (l : List (Bool × Int × Int)) (ob : Bool) (k v : Int) (hl : Ato w ao l) (_hc : ao = none → cap = 0) (_hu : ∀ p ∈ l, U64 p.2.1 ∧ I64 p.2.2) (_hk : U64 k) (_hv : I64 v) :
    Calls Try.prog 4 #[.slice ao l.length cap, .agg #[.bool ob, .int .u64 k, .int .i64 v]] w (RetB (.bool true) w) := by
  have HL := Lib.hid hl
  obtain ⟨n, hn⟩ : ∃ n, n = l.length := ⟨_, rfl⟩
  have HN := Lib.hid hn
  rw [← hn]
  clear hl hn
  have HAL := Lib.hid (play_alike (l.take 60))
  have cP : Hid (∀ W, Below w.heap.size w W → Calls Try.prog 11 #[.slice ao n cap] W (fun e w' => ∃ ks vs mo mc, e = .returned (.tuple #[.agg #[ks, vs], .slice mo (playM (l.take 60)).length mc]) ∧ MapiIs w' ks vs (playL (l.take 60)) ∧
      w'.ownsRow W.heap.size 49 2 (.slice mo (playM (l.take 60)).length mc) (playM (l.take 60)).length (flatp (playM (l.take 60))) ∧ Below W.heap.size W w' ∧ (playL (l.take 60)).length ≤ 60 ∧ (playM (l.take 60)).length ≤ 60)) := Lib.hid fun W h => played_any ao n cap l W (HL.out.below h) HN.out
  generalize playL (l.take 60) = L at HAL cP
  generalize playM (l.take 60) = M at HAL cP
  go_enter Try.func4, Try.ntmps4
  go_wp2_with fail
  obtain ⟨w0, hw0⟩ : ∃ w0, w0 = w.alloc (.cells #[.bool ob, .int .u64 k, .int .i64 v] 38) := ⟨_, rfl⟩
  have B0 : Below w.heap.size w w0 := by rw [hw0]; repeat' (first | with_reducible exact Below.refl _ _ | with_reducible assumption | with_reducible apply below_drewN | with_reducible apply Below.drew | with_reducible refine Below.setCell ?_ ?_ _ | with_reducible refine Below.alloc ?_ ?_ _ | omega | (simp; done) | (simp; omega))
  have Bz0 := B0.size
  have hs0 : w0.heap.size = w.heap.size + 1 := by rw [hw0]; simp
  have hb1 : w0.heap[w.heap.size]? = some (.cells #[.bool ob, .int .u64 k, .int .i64 v] 38) := by rw [hw0]; (repeat (first | assumption | (refine heap_new _ _ _ ?_; simp; done) | refine heap_old _ _ _ _ ?_))
  rw [← hw0]
  clear hw0
  have HOP : Hid (∀ W, Below w0.heap.size w0 W → W.cell? ⟨w.heap.size, 1, none⟩ = some (.int .u64 k) ∧ W.cell? ⟨w.heap.size, 2, none⟩ = some (.int .i64 v)) := Lib.hid fun W h => by
    obtain ⟨c0, -, l0, -⟩ := block_cells hb1
    exact ⟨(h.cell (p := ⟨w.heap.size, 1, none⟩) l0).trans (c0 1 _ rfl), (h.cell (p := ⟨w.heap.size, 2, none⟩) l0).trans (c0 2 _ rfl)⟩
  clear hb1
  refine (awake_any _).mono ?_
  rintro e w1 ⟨rfl, hb⟩
  have B1 : Below w0.heap.size w0 w1 := hb
  have Bz1 := B1.size
  clear hb
  go_wp2_with fail
  refine (cP.out _ (B0.trans (B1.mono Bz0))).mono ?_
  rintro e w2 ⟨ks, vs, mo, mc, rfl, hm, hr, hb, hL, hM⟩
  have B2 : Below w0.heap.size w0 w2 := B1.trans (hb.mono Bz1)
  have Bz2 := B2.size
  have M1 := Lib.hid hm
  have R1 := Lib.hid (Atp.of_row hr)
  obtain ⟨ao1, cap1, rfl⟩ := ownsRow_form hm.keys
  obtain ⟨ao2, cap2, rfl⟩ := ownsRow_form hm.vals
  clear hm hr hb
  obtain ⟨d1, d2⟩ := HOP.out _ B2
  have q1 : w.heap.size ≠ w2.heap.size := by omega
  have q2 : w.heap.size < w2.heap.size := by omega
  go_wp2_with fail
  -- a
  obtain ⟨x2, hx2⟩ : ∃ x2, x2 = w2.alloc (.cells #[.slice ao1 L.length cap1, .slice ao2 L.length cap2] 28) := ⟨_, rfl⟩
  have hs2 : x2.heap.size = w2.heap.size + 1 := by rw [hx2]; simp
  have BX2 : Below w2.heap.size w2 x2 := by rw [hx2]; repeat' (first | with_reducible exact Below.refl _ _ | with_reducible assumption | with_reducible apply below_drewN | with_reducible apply Below.drew | with_reducible refine Below.setCell ?_ ?_ _ | with_reducible refine Below.alloc ?_ ?_ _ | omega | (simp; done) | (simp; omega))
  have h5 : x2.heap[w2.heap.size]? = some (.cells #[.slice ao1 L.length cap1, .slice ao2 L.length cap2] 28) := by rw [hx2]; (repeat (first | assumption | (refine heap_new _ _ _ ?_; simp; done) | refine heap_old _ _ _ _ ?_))
  rw [← hx2]
  clear hx2 d1 d2 q1 q2
  obtain ⟨c5, -, l5, -⟩ := block_cells h5
  have H5 : Hid (∀ W, Below x2.heap.size x2 W → W.cell? ⟨w2.heap.size, 0, none⟩ = some (.slice ao1 L.length cap1) ∧ W.cell? ⟨w2.heap.size, 1, none⟩ = some (.slice ao2 L.length cap2)) := Lib.hid fun W h =>
    ⟨(h.cell (p := ⟨w2.heap.size, 0, none⟩) l5).trans (c5 0 _ rfl), (h.cell (p := ⟨w2.heap.size, 1, none⟩) l5).trans (c5 1 _ rfl)⟩
  clear c5 h5
  refine (withi_any _ _ L k v _ (M1.out.below BX2) HAL.out.rise (by omega)).mono ?_
  have hla := len_with L k v
  have hlb := len_without L k
  obtain ⟨ga1, ga2⟩ := with_here HAL.out.rise k v
  have gb := without_here HAL.out.rise k
  have HA2 := Lib.hid (HAL.out.with k v)
  have HB2 := Lib.hid (HAL.out.without k)
  obtain ⟨A, hA⟩ : ∃ A, A = withL L k v := ⟨_, rfl⟩
  obtain ⟨B, hBB⟩ : ∃ B, B = withoutL L k := ⟨_, rfl⟩
  rw [← hA] at ga1 ga2 HA2 hla ⊢
  rw [← hBB] at gb HB2 hlb
  have HBB := Lib.hid hBB
  have GA1 := Lib.hid ga1
  have GA2 := Lib.hid ga2
  have GB := Lib.hid gb
  clear hA hBB ga1 ga2 gb
  rintro e w3 ⟨ks3, vs3, rfl, hm, hb⟩
  have B3 : Below x2.heap.size x2 w3 := hb
  have Bz3 := B3.size
  have B03 : Below w0.heap.size w0 w3 := B2.trans (Below.mono (BX2.trans (B3.mono (by omega))) Bz2)
  have Bz03 := B03.size
  have M2 := Lib.hid hm
  obtain ⟨ao3, cap3, rfl⟩ := ownsRow_form hm.keys
  obtain ⟨ao4, cap4, rfl⟩ := ownsRow_form hm.vals
  clear hm hb
  obtain ⟨d1, d2⟩ := HOP.out _ B03
  obtain ⟨e1, e2⟩ := H5.out _ B3
  have q1 : w.heap.size ≠ w3.heap.size := by omega
  have q2 : w.heap.size < w3.heap.size := by omega
  have q3 : w2.heap.size ≠ w3.heap.size := by omega
  have q4 : w2.heap.size < w3.heap.size := by omega
  go_wp2_with fail
  -- b
  obtain ⟨x3, hx3⟩ : ∃ x3, x3 = w3.alloc (.cells #[.slice ao3 A.length cap3, .slice ao4 A.length cap4] 28) := ⟨_, rfl⟩
  have hs3 : x3.heap.size = w3.heap.size + 1 := by rw [hx3]; simp
  have BX3 : Below w3.heap.size w3 x3 := by rw [hx3]; repeat' (first | with_reducible exact Below.refl _ _ | with_reducible assumption | with_reducible apply below_drewN | with_reducible apply Below.drew | with_reducible refine Below.setCell ?_ ?_ _ | with_reducible refine Below.alloc ?_ ?_ _ | omega | (simp; done) | (simp; omega))
  have h7 : x3.heap[w3.heap.size]? = some (.cells #[.slice ao3 A.length cap3, .slice ao4 A.length cap4] 28) := by rw [hx3]; (repeat (first | assumption | (refine heap_new _ _ _ ?_; simp; done) | refine heap_old _ _ _ _ ?_))
  rw [← hx3]
  clear hx3 d1 d2 q1 q2 q3 q4 e1 e2
  obtain ⟨c7, -, l7, -⟩ := block_cells h7
  have H7 : Hid (∀ W, Below x3.heap.size x3 W → W.cell? ⟨w3.heap.size, 0, none⟩ = some (.slice ao3 A.length cap3) ∧ W.cell? ⟨w3.heap.size, 1, none⟩ = some (.slice ao4 A.length cap4)) := Lib.hid fun W h =>
    ⟨(h.cell (p := ⟨w3.heap.size, 0, none⟩) l7).trans (c7 0 _ rfl), (h.cell (p := ⟨w3.heap.size, 1, none⟩) l7).trans (c7 1 _ rfl)⟩
  clear c7 h7
  have BX23 : Below x2.heap.size x2 x3 := B3.trans (BX3.mono Bz3)
  refine (withouti_any _ _ L k _ ((M1.out.below BX2).below BX23) HAL.out.rise (by omega)).mono ?_
  rw [← HBB.out]
  rintro e w4 ⟨ks4, vs4, rfl, hm, hb⟩
  have B4 : Below x3.heap.size x3 w4 := hb
  have Bz4 := B4.size
  have B24 : Below x2.heap.size x2 w4 := BX23.trans (B4.mono BX23.size)
  have B04 : Below w0.heap.size w0 w4 := B2.trans (Below.mono (BX2.trans (B24.mono (by omega))) Bz2)
  have Bz04 := B04.size
  have M3 := Lib.hid hm
  obtain ⟨ao5, cap5, rfl⟩ := ownsRow_form hm.keys
  obtain ⟨ao6, cap6, rfl⟩ := ownsRow_form hm.vals
  clear hm hb
  obtain ⟨d1, d2⟩ := HOP.out _ B04
  obtain ⟨e1, e2⟩ := H7.out _ B4
  have q1 : w.heap.size ≠ w4.heap.size := by omega
  have q2 : w.heap.size < w4.heap.size := by omega
  have q3 : w3.heap.size ≠ w4.heap.size := by omega
  have q4 : w3.heap.size < w4.heap.size := by omega
  go_wp2_with fail
  -- c
  obtain ⟨x4, hx4⟩ : ∃ x4, x4 = w4.alloc (.cells #[.slice ao5 B.length cap5, .slice ao6 B.length cap6] 28) := ⟨_, rfl⟩
  have hs4 : x4.heap.size = w4.heap.size + 1 := by rw [hx4]; simp
  have BX4 : Below w4.heap.size w4 x4 := by rw [hx4]; repeat' (first | with_reducible exact Below.refl _ _ | with_reducible assumption | with_reducible apply below_drewN | with_reducible apply Below.drew | with_reducible refine Below.setCell ?_ ?_ _ | with_reducible refine Below.alloc ?_ ?_ _ | omega | (simp; done) | (simp; omega))
  have h8 : x4.heap[w4.heap.size]? = some (.cells #[.slice ao5 B.length cap5, .slice ao6 B.length cap6] 28) := by rw [hx4]; (repeat (first | assumption | (refine heap_new _ _ _ ?_; simp; done) | refine heap_old _ _ _ _ ?_))
  rw [← hx4]
  clear hx4 d1 d2 q1 q2 q3 q4 e1 e2
  obtain ⟨c8, -, l8, -⟩ := block_cells h8
  have BX04 : Below w0.heap.size w0 x4 := B04.trans (BX4.mono Bz04)
  have BX24 : Below x2.heap.size x2 x4 := B24.trans (BX4.mono B24.size)
  have BX34 : Below x3.heap.size x3 x4 := B4.trans (BX4.mono Bz4)
  have HS : Hid (∀ W, Below x4.heap.size x4 W → W.cell? ⟨w.heap.size, 1, none⟩ = some (.int .u64 k) ∧ W.cell? ⟨w.heap.size, 2, none⟩ = some (.int .i64 v) ∧ W.cell? ⟨w2.heap.size, 0, none⟩ = some (.slice ao1 L.length cap1) ∧ W.cell? ⟨w2.heap.size, 1, none⟩ = some (.slice ao2 L.length cap2) ∧
      W.cell? ⟨w3.heap.size, 0, none⟩ = some (.slice ao3 A.length cap3) ∧ W.cell? ⟨w3.heap.size, 1, none⟩ = some (.slice ao4 A.length cap4) ∧ W.cell? ⟨w4.heap.size, 0, none⟩ = some (.slice ao5 B.length cap5) ∧ W.cell? ⟨w4.heap.size, 1, none⟩ = some (.slice ao6 B.length cap6)) := Lib.hid fun W h =>
    have a1 := HOP.out W (BX04.trans (h.mono BX04.size))
    have a2 := H5.out W (BX24.trans (h.mono BX24.size))
    have a3 := H7.out W (BX34.trans (h.mono BX34.size))
    ⟨a1.1, a1.2, a2.1, a2.2, a3.1, a3.2, (h.cell (p := ⟨w4.heap.size, 0, none⟩) l8).trans (c8 0 _ rfl), (h.cell (p := ⟨w4.heap.size, 1, none⟩) l8).trans (c8 1 _ rfl)⟩
  have N1 : Hid (MapiIs x4 (.slice ao1 L.length cap1) (.slice ao2 L.length cap2) L) := Lib.hid ((M1.out.below BX2).below BX24)
  have N2 : Hid (MapiIs x4 (.slice ao3 A.length cap3) (.slice ao4 A.length cap4) A) := Lib.hid ((M2.out.below BX3).below BX34)
  have N3 : Hid (MapiIs x4 (.slice ao5 B.length cap5) (.slice ao6 B.length cap6) B) := Lib.hid (M3.out.below BX4)
  have N4 : Hid (Atp x4 mo M) := Lib.hid ((R1.out.below BX2).below BX24)
  have Bw : Below w.heap.size w x4 := B0.trans (BX04.mono Bz0)
  have Bwz := Bw.size
  clear c8 h8 H5 H7 HOP M1 M2 M3 R1
  have HXS : Hid (Sorted (withL A (IntKind.u64.wrap (k + 1)) 77)) := Lib.hid (sorted_with HA2.out.rise _ _)
  have hxl := len_with A (IntKind.u64.wrap (k + 1)) 77
  have cW : Hid (∀ W, Below x4.heap.size x4 W → Calls Try.prog 15 #[.agg #[.slice ao3 A.length cap3, .slice ao4 A.length cap4], .int .u64 (IntKind.u64.wrap (k + 1)), .int .i64 77] W (RetiMap (withL A (IntKind.u64.wrap (k + 1)) 77) W)) := Lib.hid fun W h => withi_any _ _ A _ 77 W (N2.out.below h) HA2.out.rise (by omega)
  generalize withL A (IntKind.u64.wrap (k + 1)) 77 = X at HXS hxl cW
  have GX : Hid (hasL (withoutL X k) k = false) := Lib.hid (without_here HXS.out k)
  have GXS : Hid (Sorted (withoutL X k)) := Lib.hid (sorted_without HXS.out k)
  have hyl := len_without X k
  have cWo : Hid (∀ (ks' vs' : Value) W, MapiIs W ks' vs' X → Calls Try.prog 16 #[.agg #[ks', vs'], .int .u64 k] W (RetiMap (withoutL X k) W)) := Lib.hid fun ks' vs' W h => withouti_any _ _ X k W h HXS.out (by omega)
  generalize withoutL X k = Y at GX GXS hyl cWo
  obtain ⟨e1, e2, e3, e4, e5, e6, e7, e8⟩ := HS.out _ (Below.refl _ _)
  have HS3 : Hid (∀ W, Below x4.heap.size x4 W → W.cell? ⟨w.heap.size, 1, none⟩ = some (.int .u64 k) ∧ W.cell? ⟨w3.heap.size, 0, none⟩ = some (.slice ao3 A.length cap3) ∧ W.cell? ⟨w3.heap.size, 1, none⟩ = some (.slice ao4 A.length cap4)) := Lib.hid fun W h => have hss := HS.out W h; ⟨hss.1, hss.2.2.2.2.1, hss.2.2.2.2.2.1⟩
  go_cut [9] (fun t wx => ∃ (Bk : Nat) (ks' vs' : Value), t = .pointer (some ⟨Bk, 0, none⟩) ∧ wx.heap[Bk]? = some (.cells #[ks', vs'] 28) ∧ MapiIs wx ks' vs' Y ∧ Below x4.heap.size x4 wx)
  case first =>
    clear hs4 hs3 hs2 hs0
    go_region_held3 (fun W => W.cell? ⟨w.heap.size, 1, none⟩ = some (.int .u64 k) ∧ W.cell? ⟨w3.heap.size, 0, none⟩ = some (.slice ao3 A.length cap3) ∧ W.cell? ⟨w3.heap.size, 1, none⟩ = some (.slice ao4 A.length cap4))
      (first | (refine HS3.out _ ?_; (repeat' (first | with_reducible exact Below.refl _ _ | with_reducible assumption | with_reducible apply below_drewN | with_reducible apply Below.drew | with_reducible refine Below.setCell ?_ ?_ _ | with_reducible refine Below.alloc ?_ ?_ _ | omega | (simp; done) | (simp; omega))); done))
      (first
      | (go_at_call 15; with_reducible refine (cW.out _ ?_).mono ?_; (focus repeat' (first | with_reducible exact Below.refl _ _ | with_reducible assumption | with_reducible apply below_drewN | with_reducible apply Below.drew | with_reducible refine Below.setCell ?_ ?_ _ | with_reducible refine Below.alloc ?_ ?_ _ | omega | (simp; done) | (simp; omega))); intro e w5 hx; obtain ⟨ks5, vs5, rfl, hm, hb⟩ := retiMap_out hx; have BL : Below x4.heap.size x4 w5 := Below.trans (by (repeat' (first | with_reducible exact Below.refl _ _ | with_reducible assumption | with_reducible apply below_drewN | with_reducible apply Below.drew | with_reducible refine Below.setCell ?_ ?_ _ | with_reducible refine Below.alloc ?_ ?_ _ | omega | (simp; done) | (simp; omega))); done) (hb.mono (by first | omega | (simp; done) | (simp; omega))); have BLs := BL.size; (first | (have ux := keepB hb x4.heap.size (lt_alloc x4.drew _); obtain ⟨u1, u2, u3, u4⟩ := ux) | (have ux := keepB hb x4.heap.size (lt_allocd x4 _); have u1 : w5.cell? ⟨x4.heap.size, 0, none⟩ = some (.slice none 0 0) := (ux.1 0).trans (new_cell x4 _ _ _ 0 _ rfl); have u1b : w5.cell? ⟨x4.heap.size, 1, none⟩ = some (.slice none 0 0) := (ux.1 1).trans (new_cell x4 _ _ _ 1 _ rfl); have u2 : w5.frozen? ⟨x4.heap.size, 0, none⟩ = false := (ux.2.1 0).trans (new_frozen x4 _ _ 0); have u2b : w5.frozen? ⟨x4.heap.size, 1, none⟩ = false := (ux.2.1 1).trans (new_frozen x4 _ _ 1); have u3 := ux.2.2.1; have UH1 := Lib.hid ((hb.block x4.heap.size (lt_allocd x4 _)).trans (heap_newd x4 _)); clear ux) | skip); have MW := Lib.hid hm; obtain ⟨ao7, cap7, rfl⟩ := ownsRow_form hm.keys; obtain ⟨ao8, cap8, rfl⟩ := ownsRow_form hm.vals; clear hx hm hb)
      | (go_at_call 16; with_reducible refine (cWo.out _ _ _ (MW.out.below ?_)).mono ?_; (focus repeat' (first | with_reducible exact Below.refl _ _ | with_reducible assumption | with_reducible apply below_drewN | with_reducible apply Below.drew | with_reducible refine Below.setCell ?_ ?_ _ | with_reducible refine Below.alloc ?_ ?_ _ | omega | (simp; done) | (simp; omega))); intro e w6 hx; obtain ⟨ks6, vs6, rfl, hm, hb⟩ := retiMap_out hx; have BK : Below x4.heap.size x4 w6 := Below.trans (by (repeat' (first | with_reducible exact Below.refl _ _ | with_reducible assumption | with_reducible apply below_drewN | with_reducible apply Below.drew | with_reducible refine Below.setCell ?_ ?_ _ | with_reducible refine Below.alloc ?_ ?_ _ | omega | (simp; done) | (simp; omega))); done) (hb.mono (by first | omega | (simp; done) | (simp; omega))); have BKs := BK.size; (try (have ux := keepB hb x4.heap.size u3; obtain ⟨u5, u6, u7, u8⟩ := ux; have UH := Lib.hid ((hb.block x4.heap.size u3).trans UH1.out))); (try (have ux := keepB hb w5.heap.size (lt_alloc w5 _); obtain ⟨u9, u10, u11, u12⟩ := ux; have UH := Lib.hid ((hb.block w5.heap.size (lt_alloc w5 _)).trans (heap_newp w5 _)))); have MK := Lib.hid hm; obtain ⟨ao9, cap9, rfl⟩ := ownsRow_form hm.keys; obtain ⟨ao10, cap10, rfl⟩ := ownsRow_form hm.vals; clear hx hm hb))
    all_goals
      go_wp2_with fail
      go_meet
      first
      | (refine ⟨_, _, _, rfl, block_set (block_set UH.out rfl) rfl, (MK.out.set UH.out (by decide) (by decide) _ _).set (heap_setCell_cells UH.out) (by decide) (by decide) _ _, ?_⟩; (repeat' (first | with_reducible exact Below.refl _ _ | with_reducible assumption | with_reducible apply below_drewN | with_reducible apply Below.drew | with_reducible refine Below.setCell ?_ ?_ _ | with_reducible refine Below.alloc ?_ ?_ _ | omega | (simp; done) | (simp; omega))); done)
      | (refine ⟨_, _, _, rfl, heap_new _ _ _ rfl, MK.out.below ((Below.refl _ _).alloc (Nat.le_refl _) _), ?_⟩; (repeat' (first | with_reducible exact Below.refl _ _ | with_reducible assumption | with_reducible apply below_drewN | with_reducible apply Below.drew | with_reducible refine Below.setCell ?_ ?_ _ | with_reducible refine Below.alloc ?_ ?_ _ | omega | (simp; done) | (simp; omega))); done)
  case rest =>
    obtain ⟨Bk, ks', vs', rfl, hk9, hm9, hb9⟩ := hcut
    have M9 := Lib.hid hm9
    obtain ⟨ao9, cap9, rfl⟩ := ownsRow_form hm9.keys
    obtain ⟨ao10, cap10, rfl⟩ := ownsRow_form hm9.vals
    have hbs9 := hb9.size
    clear hm9 e1 e2 e3 e4 e5 e6 e7 e8 cW cWo
    obtain ⟨e1, e2, e3, e4, e5, e6, e7, e8⟩ := HS.out _ hb9
    obtain ⟨c9, f9, l9, n9⟩ := block_cells hk9
    have H9 := Lib.hid hk9
    clear c9 f9 l9 n9 hk9
    go_wp2_with fail
    refine (geti_any _ _ A k _ (N2.out.below hb9) HA2.out.rise (by omega)).mono ?_
    rw [GA1.out, GA2.out]
    rintro e w5 ⟨rfl, hb⟩
    have B5 : Below wc.heap.size wc w5 := hb
    have B5' : Below x4.heap.size x4 w5 := hb9.trans (hb.mono hbs9)
    have h9 := (hb.block Bk (Array.getElem?_eq_some_iff.1 H9.out).1).trans H9.out
    clear hb e1 e2 e3 e4 e5 e6 e7 e8
    obtain ⟨e1, e2, e3, e4, e5, e6, e7, e8⟩ := HS.out _ B5'
    go_wp2_with fail
    refine (geti_any _ _ B k _ (N3.out.below B5') HB2.out.rise (by omega)).mono ?_
    rw [GB.out]
    obtain ⟨zb, hzb⟩ : ∃ z, z = getL B k := ⟨_, rfl⟩
    rw [← hzb]
    clear hzb
    rintro e w6 ⟨rfl, hb⟩
    have B6' : Below x4.heap.size x4 w6 := B5'.trans (hb.mono B5'.size)
    have h9' := (hb.block Bk (Array.getElem?_eq_some_iff.1 h9).1).trans h9
    have M9' := Lib.hid ((M9.out.below B5).below hb)
    clear hb e1 e2 e3 e4 e5 e6 e7 e8 B5 h9
    obtain ⟨e1, e2, e3, e4, e5, e6, e7, e8⟩ := HS.out _ B6'
    obtain ⟨c9, f9, l9, n9⟩ := block_cells h9'
    have i0 := c9 0 _ rfl
    have i1 := c9 1 _ rfl
    clear c9 h9'
    go_wp2_with fail
    refine (geti_any _ _ Y k _ M9'.out GXS.out (by omega)).mono ?_
    rw [GX.out]
    obtain ⟨zc, hzc⟩ : ∃ z, z = getL Y k := ⟨_, rfl⟩
    rw [← hzc]
    clear hzc
    rintro e w7 ⟨rfl, hb⟩
    have B7 : Below x4.heap.size x4 w7 := B6'.trans (hb.mono B6'.size)
    have B7s := B7.size
    clear hb e1 e2 e3 e4 e5 e6 e7 e8 i0 i1 f9 l9 n9
    obtain ⟨e1, e2, e3, e4, e5, e6, e7, e8⟩ := HS.out _ B7
    have hdl := dropL_len M k
    have cI : Hid (∀ W, Below x4.heap.size x4 W → Calls Try.prog 14 #[.agg #[.slice ao1 L.length cap1, .slice ao2 L.length cap2], .slice mo M.length mc] W (RetB (.bool true) W)) := Lib.hid fun W h => is_true _ _ L M mo mc W (N1.out.below h) (N4.out.below h) HAL.out.sorted (by omega) (by omega)
    have cWt : Hid (∀ W, Below x4.heap.size x4 W → Calls Try.prog 17 #[.slice mo M.length mc, .int .u64 k, .int .i64 v] W (RetRowp (dropL M k ++ [(k, v)]) W)) := Lib.hid fun W h => rwith_any mo M.length mc M k v W (N4.out.below h) rfl (by omega)
    have cWo : Hid (∀ W, Below x4.heap.size x4 W → Calls Try.prog 18 #[.slice mo M.length mc, .int .u64 k] W (RetRowp (dropL M k) W)) := Lib.hid fun W h => rwithout_any mo M.length mc M k W (N4.out.below h) rfl (by omega)
    have SA : sortL (dropL M k ++ [(k, v)]) = A := HA2.out.sorted
    have SB : sortL (dropL M k) = B := HB2.out.sorted
    have hpa : (dropL M k ++ [(k, v)]).length ≤ 900 := by simp; omega
    have hpb : (dropL M k).length ≤ 900 := by omega
    generalize dropL M k ++ [(k, v)] = PA at cWt SA hpa
    generalize dropL M k = PB at cWo SB hpb
    have cIA : Hid (∀ (so : Option Addr) (sc : Nat) W, Below x4.heap.size x4 W → Atp W so PA → Calls Try.prog 14 #[.agg #[.slice ao3 A.length cap3, .slice ao4 A.length cap4], .slice so PA.length sc] W (RetB (.bool true) W)) := Lib.hid fun so sc W h ha => is_true _ _ A PA so sc W (N2.out.below h) ha SA (by omega) hpa
    have cIB : Hid (∀ (so : Option Addr) (sc : Nat) W, Below x4.heap.size x4 W → Atp W so PB → Calls Try.prog 14 #[.agg #[.slice ao5 B.length cap5, .slice ao6 B.length cap6], .slice so PB.length sc] W (RetB (.bool true) W)) := Lib.hid fun so sc W h ha => is_true _ _ B PB so sc W (N3.out.below h) ha SB (by omega) hpb
    clear SA SB hpa hpb hdl hs4 hs3 hs2 hs0
    go_wp2_with fail
    go_region_held3 (fun W => W.cell? ⟨w.heap.size, 1, none⟩ = some (.int .u64 k) ∧ W.cell? ⟨w.heap.size, 2, none⟩ = some (.int .i64 v) ∧ W.cell? ⟨w2.heap.size, 0, none⟩ = some (.slice ao1 L.length cap1) ∧ W.cell? ⟨w2.heap.size, 1, none⟩ = some (.slice ao2 L.length cap2) ∧
      W.cell? ⟨w3.heap.size, 0, none⟩ = some (.slice ao3 A.length cap3) ∧ W.cell? ⟨w3.heap.size, 1, none⟩ = some (.slice ao4 A.length cap4) ∧ W.cell? ⟨w4.heap.size, 0, none⟩ = some (.slice ao5 B.length cap5) ∧ W.cell? ⟨w4.heap.size, 1, none⟩ = some (.slice ao6 B.length cap6))
      (first | (refine HS.out _ ?_; (repeat' (first | with_reducible exact Below.refl _ _ | with_reducible assumption | with_reducible apply below_drewN | with_reducible apply Below.drew | with_reducible refine Below.setCell ?_ ?_ _ | with_reducible refine Below.alloc ?_ ?_ _ | omega | (simp; done) | (simp; omega))); done))
      (first
      | (go_at_call 14; with_reducible refine (cI.out _ ?_).mono ?_; (focus (repeat' (first | with_reducible exact Below.refl _ _ | with_reducible assumption | with_reducible apply below_drewN | with_reducible apply Below.drew | with_reducible refine Below.setCell ?_ ?_ _ | with_reducible refine Below.alloc ?_ ?_ _ | omega | (simp; done) | (simp; omega)))); intro e w8 hx; obtain ⟨rfl, hb⟩ := retB_out hx; have C1 : Below x4.heap.size x4 w8 := Below.trans (by (repeat' (first | with_reducible exact Below.refl _ _ | with_reducible assumption | with_reducible apply below_drewN | with_reducible apply Below.drew | with_reducible refine Below.setCell ?_ ?_ _ | with_reducible refine Below.alloc ?_ ?_ _ | omega | (simp; done) | (simp; omega))); done) (hb.mono (by first | omega | (simp; done) | (simp; omega))); have C1s := C1.size; clear hx hb)
      | (go_at_call 17; with_reducible refine (cWt.out _ ?_).mono ?_; (focus (repeat' (first | with_reducible exact Below.refl _ _ | with_reducible assumption | with_reducible apply below_drewN | with_reducible apply Below.drew | with_reducible refine Below.setCell ?_ ?_ _ | with_reducible refine Below.alloc ?_ ?_ _ | omega | (simp; done) | (simp; omega)))); intro e w9 hx; obtain ⟨so1, sc1, rfl, hr, hb⟩ := retRowp_out hx; have C2 : Below x4.heap.size x4 w9 := Below.trans (by (repeat' (first | with_reducible exact Below.refl _ _ | with_reducible assumption | with_reducible apply below_drewN | with_reducible apply Below.drew | with_reducible refine Below.setCell ?_ ?_ _ | with_reducible refine Below.alloc ?_ ?_ _ | omega | (simp; done) | (simp; omega))); done) (hb.mono (by first | omega | (simp; done) | (simp; omega))); have C2s := C2.size; have RA := Lib.hid (Atp.of_row hr); clear hx hb hr)
      | (go_at_call 14; with_reducible refine (cIA.out _ _ _ ?_ (RA.out.below ?_)).mono ?_; (focus (repeat' (first | with_reducible exact Below.refl _ _ | with_reducible assumption | with_reducible apply below_drewN | with_reducible apply Below.drew | with_reducible refine Below.setCell ?_ ?_ _ | with_reducible refine Below.alloc ?_ ?_ _ | omega | (simp; done) | (simp; omega)))); (focus (repeat' (first | with_reducible exact Below.refl _ _ | with_reducible assumption | with_reducible apply below_drewN | with_reducible apply Below.drew | with_reducible refine Below.setCell ?_ ?_ _ | with_reducible refine Below.alloc ?_ ?_ _ | omega | (simp; done) | (simp; omega)))); intro e w10 hx; obtain ⟨rfl, hb⟩ := retB_out hx; have C3 : Below x4.heap.size x4 w10 := Below.trans (by (repeat' (first | with_reducible exact Below.refl _ _ | with_reducible assumption | with_reducible apply below_drewN | with_reducible apply Below.drew | with_reducible refine Below.setCell ?_ ?_ _ | with_reducible refine Below.alloc ?_ ?_ _ | omega | (simp; done) | (simp; omega))); done) (hb.mono (by first | omega | (simp; done) | (simp; omega))); have C3s := C3.size; clear hx hb)
      | (go_at_call 18; with_reducible refine (cWo.out _ ?_).mono ?_; (focus (repeat' (first | with_reducible exact Below.refl _ _ | with_reducible assumption | with_reducible apply below_drewN | with_reducible apply Below.drew | with_reducible refine Below.setCell ?_ ?_ _ | with_reducible refine Below.alloc ?_ ?_ _ | omega | (simp; done) | (simp; omega)))); intro e w11 hx; obtain ⟨so2, sc2, rfl, hr, hb⟩ := retRowp_out hx; have C4 : Below x4.heap.size x4 w11 := Below.trans (by (repeat' (first | with_reducible exact Below.refl _ _ | with_reducible assumption | with_reducible apply below_drewN | with_reducible apply Below.drew | with_reducible refine Below.setCell ?_ ?_ _ | with_reducible refine Below.alloc ?_ ?_ _ | omega | (simp; done) | (simp; omega))); done) (hb.mono (by first | omega | (simp; done) | (simp; omega))); have C4s := C4.size; have RB := Lib.hid (Atp.of_row hr); clear hx hb hr)
      | (go_at_call 14; with_reducible refine (cIB.out _ _ _ ?_ (RB.out.below ?_)).mono ?_; (focus (repeat' (first | with_reducible exact Below.refl _ _ | with_reducible assumption | with_reducible apply below_drewN | with_reducible apply Below.drew | with_reducible refine Below.setCell ?_ ?_ _ | with_reducible refine Below.alloc ?_ ?_ _ | omega | (simp; done) | (simp; omega)))); (focus (repeat' (first | with_reducible exact Below.refl _ _ | with_reducible assumption | with_reducible apply below_drewN | with_reducible apply Below.drew | with_reducible refine Below.setCell ?_ ?_ _ | with_reducible refine Below.alloc ?_ ?_ _ | omega | (simp; done) | (simp; omega)))); intro e w12 hx; obtain ⟨rfl, hb⟩ := retB_out hx; have C5 : Below x4.heap.size x4 w12 := Below.trans (by (repeat' (first | with_reducible exact Below.refl _ _ | with_reducible assumption | with_reducible apply below_drewN | with_reducible apply Below.drew | with_reducible refine Below.setCell ?_ ?_ _ | with_reducible refine Below.alloc ?_ ?_ _ | omega | (simp; done) | (simp; omega))); done) (hb.mono (by first | omega | (simp; done) | (simp; omega))); have C5s := C5.size; clear hx hb))
    go_wp2_with fail
    go_ret
    exact ⟨rfl, Bw.trans (C5.mono Bwz)⟩

set_option maxRecDepth 100000 in
theorem storeKeeps_lifted (os : Os) (started : os.Started) (H : Type) (enc : TypeId × Value → H) :
    ReturnsInHanded {} Try.checked os 4 .any (Rows.storeKeepsSpec.pre6 enc Try.prog Try.f4 Rows.storeKeepsRow.domain false) (Rows.storeKeepsSpec.post enc Try.prog Try.f4 false true false false) := by
  refine returnsInHanded_of_change (C := Try.checked) own started (by kernel_rfl) Try.func4
    (ChangeSpec.witness6 (enc := enc) (C := Try.checked) false ⟨#[], #[.slice none 0 0, .agg #[.bool false, .int .u64 0, .int .i64 0]], []⟩ 8 (by kernel_rfl) (by kernel_rfl) (by kernel_rfl) (by kernel_rfl)) ?_
  intro W base args ds gs before hval0 hW _ _
  have hval : ∀ (j : Nat) t v, Try.f4.params[j]? = some t → args[j]? = some v → Value.okWide Try.prog W .any base t v := hval0
  have hW' := hW
  obtain ⟨p, q, hA0, hV, rfl, hfz, hnd⟩ := hW
  have hA : DataW.TrodAll enc Try.prog W 0 (fun _ => true) true Try.f4.params.toList args.toList ds p := hA0
  rw [Try.params4] at hA hval
  obtain ⟨v0, vs0, d0, ds0, p0, q0, hargs, rfl, rfl, h0, r0⟩ := trodAll_cons hA
  obtain ⟨v1, vs1, d1, ds1, p1, q1, rfl, rfl, rfl, h1, r1⟩ := trodAll_cons r0
  obtain ⟨rfl, rfl, rfl⟩ := trodAll_nil r1
  obtain rfl : args = #[v0, v1] := by cases args; simp_all
  obtain ⟨rfl, rfl⟩ := trodVars_none hV
  obtain ⟨o0, k0, l0, rfl, A0, c0, w0⟩ := arg_ops h0 (hval 0 22 v0 rfl rfl)
  obtain ⟨a1, b1, c1, rfl, w1, x1⟩ := arg_op (hval 1 38 v1 rfl rfl)
  refine (storeKeeps_walk (w := W) o0 k0 l0 a1 b1 c1 A0 c0 w0 w1 x1).mono fun e W' ⟨he, hb⟩ => ?_
  subst he
  exact ⟨_, rfl, post_law laid hW' rfl (by kernel_rfl) rfl Try.underlying4 rfl hb⟩

/-- The statement. -/
theorem storeKeeps_holds : Rows.StoreKeepsSaid :=
  OpenClaim.holds_of_wide 4 Try.f4 rfl rfl rfl rfl rfl rfl rfl ⟨rfl, rfl, rfl, rfl, rfl⟩ rfl rfl rfl rfl rfl (by kernel_rfl) Try.func4 (by kernel_rfl)
    (of_decide_eq_true (by kernel_rfl)) (by unfold Func.isWrapper; first | (rw [if_pos (by decide +kernel)]; kernel_rfl) | (rw [if_neg (by decide +kernel)]; exact ⟨rfl, rfl⟩))
    (fun os started H enc _ => storeKeeps_lifted os started H enc)
#print axioms storeKeeps_holds
