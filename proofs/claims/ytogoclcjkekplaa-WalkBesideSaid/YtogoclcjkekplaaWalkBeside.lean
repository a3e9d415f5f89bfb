/- The statement WalkBeside: a write to a cell that a walk doesn't read changes nothing of it. No conditions. -/
import Derived.Test.YtogoclcjkekplaaAwake08
import Derived.Test.YtogoclcjkekplaaStored
import Derived.Test.YtogoclcjkekplaaRows
namespace Go.Proofs.Ytogoclcjkekplaa
open Go.RowKit Go.ChangeShapes Go.WideShapes Go.ChangeAt

/-- A walk hangs on the cells that it reads. -/
theorem walk_beside (rd rd' : Int → Int) (t va : Int) (wr : Bool) (h1 : rd' (entryZ t va 1) = rd (entryZ t va 1)) (h2 : tableB (walkF rd t va wr).first = true → rd' (secondZ (walkF rd t va wr).first va) = rd (secondZ (walkF rd t va wr).first va)) :
    walkF rd' t va wr = walkF rd t va wr := by
  unfold walkF at *
  by_cases hk : (beforeF va wr).kind = 0
  · simp only [if_pos hk] at h2 ⊢
    rw [h1]
    cases ht : tableB (rd (entryZ t va 1))
    · simp only [Bool.false_eq_true, if_false]
    · simp only [if_true]
      rw [h2 ht]
  · simp only [if_neg hk]

theorem walk_first_u64 (rd : Int → Int) (t va : Int) (wr : Bool) (hrd : ∀ k, U64 (rd k)) : U64 (walkF rd t va wr).first := by
  unfold walkF
  split
  · exact hrd _
  · show U64 0
    exact ⟨by decide, by decide⟩

set_option maxRecDepth 100000 in
set_option maxHeartbeats 4000000 in
theorem walkBeside_walk {w : World} (ao : Option Addr) (cap : Nat) (l : List (Int × Int)) (t va : Int) (wr : Bool) (c u : Int) (hl : Atc w ao l) (_hc : ao = none → cap = 0) (hu : ∀ p ∈ l, U64 p.1 ∧ U64 p.2) (ht : U64 t) (hva : U64 va) (hcc : U64 c) (huu : U64 u) :
    Calls Try.prog 7 #[.slice ao l.length cap, .agg #[.int .u64 t, .int .u64 va, .bool wr], .agg #[.int .u64 c, .int .u64 u]] w (RetB (.bool true) w) := by
  have HL := Lib.hid hl
  have HU := Lib.hid hu
  have HR : Hid (∀ k, U64 (readL l k)) := Lib.hid (read_u64 hu)
  have HV := Lib.hid hva
  have HT := Lib.hid ht
  have HC := Lib.hid hcc
  have HUU := Lib.hid huu
  obtain ⟨n, hn⟩ : ∃ n, n = l.length := ⟨_, rfl⟩
  have HN := Lib.hid hn
  rw [← hn]
  clear hl hu hva hn ht hcc huu
  go_enter Try.func7, Try.ntmps7
  go_wp2_with fail
  obtain ⟨w0, hw0⟩ : ∃ w0, w0 = (w.alloc (.cells #[.int .u64 t, .int .u64 va, .bool wr] 25)).alloc (.cells #[.int .u64 c, .int .u64 u] 59) := ⟨_, rfl⟩
  have B0 : Below w.heap.size w w0 := by rw [hw0]; repeat' (first | with_reducible exact Below.refl _ _ | with_reducible assumption | with_reducible apply below_drewN | with_reducible apply Below.drew | with_reducible refine Below.setCell ?_ ?_ _ | with_reducible refine Below.alloc ?_ ?_ _ | omega | (simp; done) | (simp; omega))
  have Bz0 := B0.size
  have hs0 : w0.heap.size = w.heap.size + 2 := by rw [hw0]; simp
  have hb1 : w0.heap[w.heap.size]? = some (.cells #[.int .u64 t, .int .u64 va, .bool wr] 25) := by rw [hw0]; (repeat (first | assumption | (refine heap_new _ _ _ ?_; simp; done) | refine heap_old _ _ _ _ ?_))
  have hb2 : w0.heap[w.heap.size + 1]? = some (.cells #[.int .u64 c, .int .u64 u] 59) := by rw [hw0]; (repeat (first | assumption | (refine heap_new _ _ _ ?_; simp; done) | refine heap_old _ _ _ _ ?_))
  rw [← hw0]
  clear hw0
  have HK4 : Hid (∀ W, Below w0.heap.size w0 W → W.cell? ⟨w.heap.size, 0, none⟩ = some (.int .u64 t) ∧ W.cell? ⟨w.heap.size, 1, none⟩ = some (.int .u64 va) ∧ W.cell? ⟨w.heap.size, 2, none⟩ = some (.bool wr) ∧ W.cell? ⟨w.heap.size + 1, 0, none⟩ = some (.int .u64 c) ∧ W.cell? ⟨w.heap.size + 1, 1, none⟩ = some (.int .u64 u)) := Lib.hid fun W h => by
    obtain ⟨c0, -, l0, -⟩ := block_cells hb1
    obtain ⟨c1, -, l1, -⟩ := block_cells hb2
    exact ⟨(h.cell (p := ⟨w.heap.size, 0, none⟩) l0).trans (c0 0 _ rfl), (h.cell (p := ⟨w.heap.size, 1, none⟩) l0).trans (c0 1 _ rfl), (h.cell (p := ⟨w.heap.size, 2, none⟩) l0).trans (c0 2 _ rfl), (h.cell (p := ⟨w.heap.size + 1, 0, none⟩) l1).trans (c1 0 _ rfl), (h.cell (p := ⟨w.heap.size + 1, 1, none⟩) l1).trans (c1 1 _ rfl)⟩
  clear hb1 hb2
  refine (awake_any _).mono ?_
  rintro e w1 ⟨rfl, hb⟩
  have B1 : Below w0.heap.size w0 w1 := hb
  have Bz1 := B1.size
  clear hb
  go_wp2_with fail
  cases htr : tryB l
  · refine (memory_no ao n cap l _ htr (HL.out.below (B0.trans (B1.mono Bz0))) HN.out HU.out).mono ?_
    rintro e w2 ⟨ks, vs, rfl, hm, hb⟩
    have B2 : Below w1.heap.size w1 w2 := hb
    have Bz2 := hb.size
    obtain ⟨ao1, cap1, rfl⟩ := ownsRow_form hm.keys
    obtain ⟨ao2, cap2, rfl⟩ := ownsRow_form hm.vals
    clear hm hb htr
    go_wp2_with fail
    go_ret
    exact ⟨rfl, B0.trans (Below.mono (B1.trans (Below.mono (B := w1.heap.size) (by repeat' (first | with_reducible exact Below.refl _ _ | with_reducible assumption | with_reducible apply below_drewN | with_reducible apply Below.drew | with_reducible refine Below.setCell ?_ ?_ _ | with_reducible refine Below.alloc ?_ ?_ _ | omega | (simp; done) | (simp; omega))) Bz1)) Bz0)⟩
  · refine (memory_yes ao n cap l _ htr (HL.out.below (B0.trans (B1.mono Bz0))) HN.out HU.out).mono ?_
    have hlen := try_len htr
    have hcl := cellsL_len l
    have HS := Lib.hid (cellsL_sorted l)
    have HG : Hid (∀ k, U64 (getL (cellsL l) k)) := Lib.hid (by rw [cells_getL l]; exact HR.out)
    have hlL : (cellsL l).length ≤ 200 := by omega
    generalize cellsL l = L at HS HG hlL
    clear hlen hcl htr
    rintro e w2 ⟨ks, vs, rfl, hm, hb⟩
    have B2 : Below w0.heap.size w0 w2 := B1.trans (hb.mono Bz1)
    have Bz2 := B2.size
    have M1 := Lib.hid hm
    obtain ⟨ao1, cap1, rfl⟩ := ownsRow_form hm.keys
    obtain ⟨ao2, cap2, rfl⟩ := ownsRow_form hm.vals
    clear hm hb
    obtain ⟨d0, d1, d2, d3, d4⟩ := HK4.out _ B2
    have q1 : w.heap.size < w2.heap.size := by omega
    have q2 : w.heap.size + 1 < w2.heap.size := by omega
    have q3 : w.heap.size ≠ w2.heap.size := by omega
    have q4 : w.heap.size + 1 ≠ w2.heap.size := by omega
    go_wp2_with fail
    -- the walk
    obtain ⟨wz, hwz⟩ : ∃ wz, wz = w2.alloc (.cells #[.slice ao1 L.length cap1, .slice ao2 L.length cap2] 31) := ⟨_, rfl⟩
    have B3 : Below w2.heap.size w2 wz := by rw [hwz]; repeat' (first | with_reducible exact Below.refl _ _ | with_reducible assumption | with_reducible apply below_drewN | with_reducible apply Below.drew | with_reducible refine Below.setCell ?_ ?_ _ | with_reducible refine Below.alloc ?_ ?_ _ | omega | (simp; done) | (simp; omega))
    have B3' : Below w0.heap.size w0 wz := B2.trans (B3.mono Bz2)
    have hsz : wz.heap.size = w2.heap.size + 1 := by rw [hwz]; simp
    have h7 : wz.heap[w2.heap.size]? = some (.cells #[.slice ao1 L.length cap1, .slice ao2 L.length cap2] 31) := by rw [hwz]; (repeat (first | assumption | (refine heap_new _ _ _ ?_; simp; done) | refine heap_old _ _ _ _ ?_))
    rw [← hwz]
    clear hwz q1 q2 q3 q4 d0 d1 d2 d3 d4
    have HW2 : Hid (∀ c', (c' = c → False)  → True) := Lib.hid fun _ _ => trivial
    refine (walk_any _ _ L t va wr _ (M1.out.below B3) HS.out (by omega) HG.out HV.out).mono ?_
    obtain ⟨r, hr⟩ : ∃ r, r = walkF (getL L) t va wr := ⟨_, rfl⟩
    have HF : Hid (U64 r.first) := Lib.hid (by rw [hr]; exact walk_first_u64 _ t va wr HG.out)
    have HWB : Hid (∀ rd', rd' (entryZ t va 1) = getL L (entryZ t va 1) → (tableB r.first = true → rd' (secondZ r.first va) = getL L (secondZ r.first va)) → walkF rd' t va wr = r) := Lib.hid (by rw [hr]; exact fun rd' h1 h2 => walk_beside _ rd' t va wr h1 h2)
    rw [← hr]
    clear hr HW2
    obtain ⟨⟨fk, fl, fw⟩, ad, fi, la, re⟩ := r
    simp only at HF HWB
    rintro e w3 ⟨rfl, hb⟩
    simp only [walkV]
    have B4 : Below w0.heap.size w0 w3 := B3'.trans (hb.mono (by omega))
    have Bz4 := B4.size
    have hs3 := hb.size
    have M2 := Lib.hid ((M1.out.below B3).below hb)
    have g7 := (hb.block w2.heap.size (by omega)).trans h7
    obtain ⟨d0, d1, d2, d3, d4⟩ := HK4.out _ B4
    obtain ⟨c7, f7, l7, n7⟩ := block_cells g7
    have i0 := c7 0 _ rfl
    have i1 := c7 1 _ rfl
    have q1 : w.heap.size < w3.heap.size := by omega
    have q2 : w.heap.size + 1 < w3.heap.size := by omega
    have q3 : w.heap.size ≠ w3.heap.size := by omega
    have q4 : w.heap.size + 1 ≠ w3.heap.size := by omega
    have G7 := Lib.hid g7
    clear hb h7 c7 g7 M1
    go_wp2_with fail
    -- the write
    obtain ⟨x3, hx3⟩ : ∃ x3, x3 = w3.alloc (.cells #[.int .i64 fk, .int .i64 fl, .bool fw, .int .u64 ad, .int .u64 fi, .int .u64 la, .int .i64 re] 38) := ⟨_, rfl⟩
    have hsx : x3.heap.size = w3.heap.size + 1 := by rw [hx3]; simp
    have BX : Below w3.heap.size w3 x3 := by rw [hx3]; repeat' (first | with_reducible exact Below.refl _ _ | with_reducible assumption | with_reducible apply below_drewN | with_reducible apply Below.drew | with_reducible refine Below.setCell ?_ ?_ _ | with_reducible refine Below.alloc ?_ ?_ _ | omega | (simp; done) | (simp; omega))
    have h9 : x3.heap[w3.heap.size]? = some (.cells #[.int .i64 fk, .int .i64 fl, .bool fw, .int .u64 ad, .int .u64 fi, .int .u64 la, .int .i64 re] 38) := by rw [hx3]; (repeat (first | assumption | (refine heap_new _ _ _ ?_; simp; done) | refine heap_old _ _ _ _ ?_))
    rw [← hx3]
    clear hx3 d0 d1 d2 d3 d4 q1 q2 q3 q4 i0 i1 f7 l7 n7
    refine (write_any _ _ L c u _ (M2.out.below BX) HS.out (by omega) HC.out).mono ?_
    have gw : (writeL L c u).2 = 0 → ∀ k, getL (writeL L c u).1 k = if k = c then u else getL L k := fun hz => get_write HS.out hz
    have s3 := sorted_write HS.out c u
    have s4 := len_write (L := L) (by omega) c u
    generalize writeL L c u = p at gw s3 s4
    obtain ⟨L', y⟩ := p
    simp only at gw s3 s4
    have GW := Lib.hid gw
    have S3 := Lib.hid s3
    clear gw s3
    rintro e w4 ⟨ks', vs', rfl, hm, hb⟩
    have B5 : Below w0.heap.size w0 w4 := B4.trans (Below.mono (BX.trans (hb.mono (by omega))) Bz4)
    have Bz5 := B5.size
    have hs4 := hb.size
    have g9 := (hb.block w3.heap.size (by omega)).trans h9
    have M3 := Lib.hid hm
    obtain ⟨ao3, cap3, rfl⟩ := ownsRow_form hm.keys
    obtain ⟨ao4, cap4, rfl⟩ := ownsRow_form hm.vals
    clear hb hm h9 BX M2 G7
    go_wp2_with fail
    obtain ⟨x4, hx4⟩ : ∃ x4, x4 = w4.alloc (.cells #[.slice ao3 L'.length cap3, .slice ao4 L'.length cap4] 31) := ⟨_, rfl⟩
    have hsy : x4.heap.size = w4.heap.size + 1 := by rw [hx4]; simp
    have BY : Below w4.heap.size w4 x4 := by rw [hx4]; repeat' (first | with_reducible exact Below.refl _ _ | with_reducible assumption | with_reducible apply below_drewN | with_reducible apply Below.drew | with_reducible refine Below.setCell ?_ ?_ _ | with_reducible refine Below.alloc ?_ ?_ _ | omega | (simp; done) | (simp; omega))
    have h10 : x4.heap[w4.heap.size]? = some (.cells #[.slice ao3 L'.length cap3, .slice ao4 L'.length cap4] 31) := by rw [hx4]; (repeat (first | assumption | (refine heap_new _ _ _ ?_; simp; done) | refine heap_old _ _ _ _ ?_))
    have h9 := (BY.block w3.heap.size (by omega)).trans g9
    have B6 : Below w0.heap.size w0 x4 := B5.trans (BY.mono Bz5)
    have M4 := Lib.hid (M3.out.below BY)
    rw [← hx4]
    clear hx4 g9 M3 BY
    obtain ⟨d0, d1, d2, d3, d4⟩ := HK4.out _ B6
    obtain ⟨c9, f9, l9, n9⟩ := block_cells h9
    have e0 := c9 0 _ rfl
    have e1 := c9 1 _ rfl
    have e2 := c9 2 _ rfl
    have e3 := c9 3 _ rfl
    have e4 := c9 4 _ rfl
    have e5 := c9 5 _ rfl
    have e6 := c9 6 _ rfl
    obtain ⟨c10, f10, l10, n10⟩ := block_cells h10
    have o0 := c10 0 _ rfl
    have o1 := c10 1 _ rfl
    have Bw : Below w.heap.size w x4 := B0.trans (B6.mono Bz0)
    have Bwz := Bw.size
    have H9 := Lib.hid h9
    have H10 := Lib.hid h10
    clear c9 c10 h9 h10
    by_cases hy : y = 0
    · subst hy
      obtain ⟨s, hs⟩ : ∃ s, s = entryZ t va 1 := ⟨_, rfl⟩
      have cS : Hid (∀ W, Calls Try.prog 26 #[.int .u64 t, .int .u64 va, .int .i64 1] W (RetB (.int .u64 s) W)) := Lib.hid fun W => by rw [hs]; exact refSlot_any t va 1 W HV.out HT.out
      have HSS := Lib.hid hs
      clear hs
      refine wp_region_qbn (by kernel_rfl) (by kernel_rfl) (fun kq => ?_); have kq0 := kq (w.heap.size) (by first | omega | (simp; done) | (simp; omega)); have kq1 := kq (w.heap.size + 1) (by first | omega | (simp; done) | (simp; omega)); clear kq; (repeat (go_big_quiet_step ((go_at_call 26; exact quietB (cS.out _))))); refine wpQuiet_nil ?_; clear kq0 kq1; intro wq hb
      have B7 : Below w0.heap.size w0 wq := B6.trans (hb.mono B6.size)
      have BQ := hb
      have hsq := hb.size
      have h9 := (hb.block w3.heap.size (by omega)).trans H9.out
      clear hb d0 d1 d2 d3 d4 e0 e1 e2 e3 e4 e5 e6 f9 l9 n9 f10 l10 n10 o0 o1
      obtain ⟨d0, d1, d2, d3, d4⟩ := HK4.out _ B7
      obtain ⟨c9, f9, l9, n9⟩ := block_cells h9
      have e4 := c9 4 _ rfl
      clear c9 h9
      by_cases hcs : c = s
      · go_wp2_with fail
        go_ret
        exact ⟨rfl, B0.trans (B7.mono Bz0)⟩
      · go_wp2_with fail
        refine (second_any fi va _ HF.out HV.out).mono ?_
        obtain ⟨z, hz⟩ : ∃ z, z = secondZ fi va := ⟨_, rfl⟩
        have HZ := Lib.hid hz
        rw [← hz]
        clear hz
        have HGW : Hid (s ≠ c) := Lib.hid fun h => hcs h.symm
        cases htb : tableB fi
        · have HTB := Lib.hid htb
          clear htb
          rintro e w5 ⟨rfl, hb⟩
          have BR : Below x4.heap.size x4 w5 := BQ.trans (hb.mono hsq)
          have BRz := BR.size
          clear hb d0 d1 d2 d3 d4 e4 f9 l9 n9
          go_wp2_with fail
          have B8 : Below w0.heap.size w0 w5 := B6.trans (BR.mono B6.size)
          have Bx : Below w.heap.size w w5 := B0.trans (B8.mono Bz0)
          have h9 := (BR.block w3.heap.size (by omega)).trans H9.out
          have h10 := (BR.block w4.heap.size (by omega)).trans H10.out
          obtain ⟨d0, d1, d2, d3, d4⟩ := HK4.out _ B8
          obtain ⟨c9, -, -, -⟩ := block_cells h9
          have e0 := c9 0 _ rfl
          have e1 := c9 1 _ rfl
          have e2 := c9 2 _ rfl
          have e3 := c9 3 _ rfl
          have e4 := c9 4 _ rfl
          have e5 := c9 5 _ rfl
          have e6 := c9 6 _ rfl
          obtain ⟨c10, -, -, -⟩ := block_cells h10
          have o0 := c10 0 _ rfl
          have o1 := c10 1 _ rfl
          clear c9 c10 h9 h10
          have cW : Hid (∀ W, Below w5.heap.size w5 W → Calls Try.prog 13 #[.agg #[.slice ao3 L'.length cap3, .slice ao4 L'.length cap4], .int .u64 t, .int .u64 va, .bool wr] W (RetB (walkV ⟨⟨fk, fl, fw⟩, ad, fi, la, re⟩) W)) := Lib.hid fun W h => by
            have gw := GW.out trivial
            have hw := HWB.out (getL L') (by rw [gw, ← HSS.out, if_neg HGW.out]) (fun h => by rw [HTB.out] at h; cases h)
            have := walk_any _ _ L' t va wr W ((M4.out.below BR).below h) S3.out (by omega) (fun k => by rw [gw]; split <;> first | exact HUU.out | exact HG.out _) HV.out
            rw [hw] at this
            exact this
          simp only [walkV] at cW
          refine wp_region_qbn (by kernel_rfl) (by kernel_rfl) (fun kq => ?_); have kq0 := kq (w.heap.size) (by first | omega | (simp; done) | (simp; omega)); have kq1 := kq (w3.heap.size) (by first | omega | (simp; done) | (simp; omega)); have kq2 := kq (w4.heap.size) (by first | omega | (simp; done) | (simp; omega)); clear kq; (repeat (go_big_quiet_step ((go_at_call 13; exact quietB (cW.out _ (below_regrown _ _ _)))))); refine wpQuiet_nil ?_; clear kq0 kq1 kq2; intro wq hb
          have Bq := Bx.trans (hb.mono Bx.size)
          clear hb
          go_wp2_with fail
          go_ret
          exact ⟨rfl, Bq⟩
        · have HTB := Lib.hid htb
          clear htb
          rintro e w5 ⟨rfl, hb⟩
          have BR : Below x4.heap.size x4 w5 := BQ.trans (hb.mono hsq)
          have BRz := BR.size
          have B8 : Below w0.heap.size w0 w5 := B7.trans (hb.mono B7.size)
          clear hb d0 d1 d2 d3 d4 e4 f9 l9 n9
          obtain ⟨d0, d1, d2, d3, d4⟩ := HK4.out _ B8
          by_cases hzc : z = c
          · go_wp2_with fail
            go_ret
            exact ⟨rfl, B0.trans (B8.mono Bz0)⟩
          · go_wp2_with fail
            clear d0 d1 d2 d3 d4 B8
            have HZC := Lib.hid hzc
            have B8 : Below w0.heap.size w0 w5 := B6.trans (BR.mono B6.size)
            have Bx : Below w.heap.size w w5 := B0.trans (B8.mono Bz0)
            have h9 := (BR.block w3.heap.size (by omega)).trans H9.out
            have h10 := (BR.block w4.heap.size (by omega)).trans H10.out
            obtain ⟨d0, d1, d2, d3, d4⟩ := HK4.out _ B8
            obtain ⟨c9, -, -, -⟩ := block_cells h9
            have e0 := c9 0 _ rfl
            have e1 := c9 1 _ rfl
            have e2 := c9 2 _ rfl
            have e3 := c9 3 _ rfl
            have e4 := c9 4 _ rfl
            have e5 := c9 5 _ rfl
            have e6 := c9 6 _ rfl
            obtain ⟨c10, -, -, -⟩ := block_cells h10
            have o0 := c10 0 _ rfl
            have o1 := c10 1 _ rfl
            clear c9 c10 h9 h10
            have cW : Hid (∀ W, Below w5.heap.size w5 W → Calls Try.prog 13 #[.agg #[.slice ao3 L'.length cap3, .slice ao4 L'.length cap4], .int .u64 t, .int .u64 va, .bool wr] W (RetB (walkV ⟨⟨fk, fl, fw⟩, ad, fi, la, re⟩) W)) := Lib.hid fun W h => by
              have gw := GW.out trivial
              have hw := HWB.out (getL L') (by rw [gw, ← HSS.out, if_neg HGW.out]) (fun _ => by rw [gw, ← HZ.out, if_neg HZC.out])
              have := walk_any _ _ L' t va wr W ((M4.out.below BR).below h) S3.out (by omega) (fun k => by rw [gw]; split <;> first | exact HUU.out | exact HG.out _) HV.out
              rw [hw] at this
              exact this
            simp only [walkV] at cW
            refine wp_region_qbn (by kernel_rfl) (by kernel_rfl) (fun kq => ?_); have kq0 := kq (w.heap.size) (by first | omega | (simp; done) | (simp; omega)); have kq1 := kq (w3.heap.size) (by first | omega | (simp; done) | (simp; omega)); have kq2 := kq (w4.heap.size) (by first | omega | (simp; done) | (simp; omega)); clear kq; (repeat (go_big_quiet_step ((go_at_call 13; exact quietB (cW.out _ (below_regrown _ _ _)))))); refine wpQuiet_nil ?_; clear kq0 kq1 kq2; intro wq hb
            have Bq := Bx.trans (hb.mono Bx.size)
            clear hb
            go_wp2_with fail
            go_ret
            exact ⟨rfl, Bq⟩
    · have hyd : (y != 0) = true := by simpa using hy
      refine wp_region_qbn (by kernel_rfl) (by kernel_rfl) (fun kq => ?_); have kq0 := kq (w.heap.size) (by first | omega | (simp; done) | (simp; omega)); have kq1 := kq (w.heap.size + 1) (by first | omega | (simp; done) | (simp; omega)); clear kq; (repeat (go_big_quiet_step (fail))); refine wpQuiet_nil ?_; clear kq0 kq1; intro wq hb
      have Bq := Bw.trans (hb.mono Bw.size)
      clear hb
      go_wp2_with fail
      go_ret
      exact ⟨rfl, Bq⟩

set_option maxRecDepth 100000 in
theorem walkBeside_lifted (os : Os) (started : os.Started) (H : Type) (enc : TypeId × Value → H) :
    ReturnsInHanded {} Try.checked os 7 .any (Rows.walkBesideSpec.pre6 enc Try.prog Try.f7 Rows.walkBesideRow.domain false) (Rows.walkBesideSpec.post enc Try.prog Try.f7 false true false false) := by
  refine returnsInHanded_of_change (C := Try.checked) own started (by kernel_rfl) Try.func7
    (ChangeSpec.witness6 (enc := enc) (C := Try.checked) false ⟨#[], #[.slice none 0 0, .agg #[.int .u64 0, .int .u64 0, .bool false], .agg #[.int .u64 0, .int .u64 0]], []⟩ 8 (by kernel_rfl) (by kernel_rfl) (by kernel_rfl) (by kernel_rfl)) ?_
  intro W base args ds gs before hval0 hW _ _
  have hval : ∀ (j : Nat) t v, Try.f7.params[j]? = some t → args[j]? = some v → Value.okWide Try.prog W .any base t v := hval0
  have hW' := hW
  obtain ⟨p, q, hA0, hV, rfl, hfz, hnd⟩ := hW
  have hA : DataW.TrodAll enc Try.prog W 0 (fun _ => true) true Try.f7.params.toList args.toList ds p := hA0
  rw [Try.params7] at hA hval
  obtain ⟨v0, vs0, d0, ds0, p0, q0, hargs, rfl, rfl, h0, r0⟩ := trodAll_cons hA
  obtain ⟨v1, vs1, d1, ds1, p1, q1, rfl, rfl, rfl, h1, r1⟩ := trodAll_cons r0
  obtain ⟨v2, vs2, d2, ds2, p2, q2, rfl, rfl, rfl, h2, r2⟩ := trodAll_cons r1
  obtain ⟨rfl, rfl, rfl⟩ := trodAll_nil r2
  obtain rfl : args = #[v0, v1, v2] := by cases args; simp_all
  obtain ⟨rfl, rfl⟩ := trodVars_none hV
  obtain ⟨o0, k0, l0, rfl, A0, c0, w0⟩ := arg_cells h0 (hval 0 22 v0 rfl rfl)
  obtain ⟨t1, v1, b1, rfl, w1, x1⟩ := arg_ask (hval 1 25 v1 rfl rfl)
  obtain ⟨a2, b2, rfl, w2, x2⟩ := arg_cell (hval 2 59 v2 rfl rfl)
  refine (walkBeside_walk (w := W) o0 k0 l0 t1 v1 b1 a2 b2 A0 c0 w0 w1 x1 w2 x2).mono fun e W' ⟨he, hb⟩ => ?_
  subst he
  exact ⟨_, rfl, post_law laid hW' rfl (by kernel_rfl) rfl Try.underlying4 rfl hb⟩

/-- The statement. -/
theorem walkBeside_holds : Rows.WalkBesideSaid :=
  OpenClaim.holds_of_wide 7 Try.f7 rfl rfl rfl rfl rfl rfl rfl ⟨rfl, rfl, rfl, rfl, rfl⟩ rfl rfl rfl rfl rfl (by kernel_rfl) Try.func7 (by kernel_rfl)
    (of_decide_eq_true (by kernel_rfl)) (by unfold Func.isWrapper; first | (rw [if_pos (by decide +kernel)]; kernel_rfl) | (rw [if_neg (by decide +kernel)]; exact ⟨rfl, rfl⟩))
    (fun os started H enc _ => walkBeside_lifted os started H enc)
#print axioms walkBeside_holds
