/- Slices of entries; the contract of slices.BinarySearchFunc with tlb.less. -/
import Derived.Test.YtcaggboeacgknaaEnt
namespace Go.Proofs.Ytcaggboeacgknaa
open Go.RowKit
set_option linter.unusedSimpArgs false
set_option linter.unusedVariables false

/-- Entries, laid flat. -/
def cellsE (e : E) : List Value := [.int .i64 e.space, .int .u64 e.page, .int .u64 e.first, .int .u64 e.last]
def flatE (L : List E) : List Value := L.flatMap cellsE
theorem flatE_len (L : List E) : (flatE L).length = L.length * 4 := by
  induction L with
  | nil => rfl
  | cons a L ih => simp only [flatE, cellsE, List.flatMap_cons, List.length_append, List.length_cons, List.length_nil] at ih ⊢; omega
theorem flatE_append (L M : List E) : flatE (L ++ M) = flatE L ++ flatE M := by simp [flatE]
theorem flatE_cons (x : E) (L : List E) : flatE (x :: L) = cellsE x ++ flatE L := by simp [flatE]
theorem flatE_snoc (L : List E) (x : E) : flatE (L ++ [x]) = flatE L ++ cellsE x := by simp [flatE]
theorem flatE_take (L : List E) (n : Nat) : (flatE L).take (n * 4) = flatE (L.take n) := by
  induction L generalizing n with
  | nil => simp [flatE]
  | cons a L ih =>
    cases n with
    | zero => simp [flatE]
    | succ n =>
      rw [show (n + 1) * 4 = n * 4 + 4 by omega]
      simp only [flatE, cellsE, List.flatMap_cons, List.cons_append, List.nil_append, List.take_succ_cons] at ih ⊢
      rw [ih]
theorem flatE_drop (L : List E) (n : Nat) : (flatE L).drop (n * 4) = flatE (L.drop n) := by
  induction L generalizing n with
  | nil => simp [flatE]
  | cons a L ih =>
    cases n with
    | zero => simp [flatE]
    | succ n =>
      rw [show (n + 1) * 4 = n * 4 + 4 by omega]
      simp only [flatE, cellsE, List.flatMap_cons, List.cons_append, List.nil_append, List.drop_succ_cons] at ih ⊢
      rw [ih]
theorem flatE_at (L : List E) (j : Nat) (h : j < L.length) : (flatE L)[j * 4]? = some (.int .i64 L[j].space) ∧ (flatE L)[j * 4 + 1]? = some (.int .u64 L[j].page) ∧ (flatE L)[j * 4 + 2]? = some (.int .u64 L[j].first) ∧ (flatE L)[j * 4 + 3]? = some (.int .u64 L[j].last) := by
  induction L generalizing j with
  | nil => simp at h
  | cons a L ih =>
    cases j with
    | zero => exact ⟨rfl, rfl, rfl, rfl⟩
    | succ j =>
      have := ih j (by simpa using h)
      rw [show (j + 1) * 4 = j * 4 + 4 by omega]
      simpa [flatE, cellsE] using this
theorem flatE_cells (L : List E) : ∀ u ∈ flatE L, u.oneCell' = true := by
  intro u hu
  unfold flatE at hu
  obtain ⟨p, _, hp⟩ := List.mem_flatMap.1 hu
  simp [cellsE] at hp
  rcases hp with rfl | rfl | rfl | rfl <;> rfl

theorem infoE : (Try.prog.info? 27).map (fun i => (i.zero, i.size, i.bytes)) = some (some (.agg #[.int .i64 0, .int .u64 0, .int .u64 0, .int .u64 0]), 4, 32) := by kernel_rfl

/-- A slice of entries that somebody owns. -/
def RowE (w : World) (base : Nat) (v : Value) (L : List E) : Prop := w.ownsRow base 27 4 v L.length (flatE L)

theorem RowE.cell {w : World} {base g n cap : Nat} {L : List E} (h : RowE w base (.slice (some ⟨g, 0, none⟩) n cap) L) (j : Nat) (hj : j < L.length) :
    w.cell? ⟨g, j * 4, none⟩ = some (.int .i64 L[j].space) ∧ w.cell? ⟨g, j * 4 + 1, none⟩ = some (.int .u64 L[j].page) ∧ w.cell? ⟨g, j * 4 + 2, none⟩ = some (.int .u64 L[j].first) ∧ w.cell? ⟨g, j * 4 + 3, none⟩ = some (.int .u64 L[j].last) := by
  have h1 := h
  unfold RowE at h1
  rcases h1.2 with ⟨hv, _⟩ | ⟨g', cap', cur, hv, _⟩
  · cases hv
  · simp only [Value.slice.injEq, Option.some.injEq, Addr.mk.injEq, and_true, true_and] at hv
    obtain ⟨rfl, rfl, rfl⟩ := hv
    obtain ⟨e0, e1, e2, e3⟩ := flatE_at L j hj
    exact ⟨by rw [h1.cellAt (j * 4) (by omega), e0], by rw [h1.cellAt (j * 4 + 1) (by omega), e1], by rw [h1.cellAt (j * 4 + 2) (by omega), e2], by rw [h1.cellAt (j * 4 + 3) (by omega), e3]⟩

theorem bs_nil (e : E) (w : World) : Calls Try.prog 48 #[.slice none 0 0, entV e, .func (.func 49) #[] #[]] w (RetB (.tuple #[.int .i64 0, .bool false]) w) := by
  obtain ⟨s, p, f, l⟩ := e
  simp only [entV]
  go_enter Try.func48, Try.ntmps48
  go_wp2_with fail
  go_loopw [9, 10] (fun lo hi V => lo = .int .i64 0 ∧ hi = .int .i64 0 ∧ Below w.heap.size w V) (fun _ _ _ => 0)
  case atStart => exact ⟨rfl, rfl, by repeat' (first | with_reducible exact Below.refl _ _ | with_reducible assumption | with_reducible apply below_drewN | with_reducible apply Below.drew | with_reducible refine Below.setCell ?_ ?_ _ | with_reducible refine Below.alloc ?_ ?_ _ | omega | (simp; done) | (simp; omega))⟩
  case round =>
    obtain ⟨rfl, rfl, hB⟩ := hrel
    go_wp2_with fail
    refine wp_region_qb (by kernel_rfl) (by kernel_rfl) ?_; (repeat (go_big_quiet_step (fail))); refine wpQuiet_nil ?_; intro wq hb
    go_wp2_with fail
    go_ret2
    exact ⟨rfl, hB.trans (hb.mono hB.size)⟩

set_option maxRecDepth 100000 in
set_option maxHeartbeats 4000000 in
theorem bs_some (g cap : Nat) (L : List E) (e : E) (w : World) (hg : g < w.heap.size) (hL : ∀ (j : Nat) (hj : j < L.length), w.cell? ⟨g, j * 4, none⟩ = some (.int .i64 L[j].space) ∧ w.cell? ⟨g, j * 4 + 1, none⟩ = some (.int .u64 L[j].page) ∧ w.cell? ⟨g, j * 4 + 2, none⟩ = some (.int .u64 L[j].first) ∧ w.cell? ⟨g, j * 4 + 3, none⟩ = some (.int .u64 L[j].last))
    (hs : SortedE L) (hlen : L.length ≤ 1000) :
    Calls Try.prog 48 #[.slice (some ⟨g, 0, none⟩) L.length cap, entV e, .func (.func 49) #[] #[]] w (RetB (.tuple #[.int .i64 (posE L e : Nat), .bool (hasE L e)]) w) := by
  have HL := Lib.hid hL
  have HP := Lib.hid (posE_iff L e hs)
  have HH := Lib.hid (hasE_iff (e := e) hs)
  have hpl := posE_le L e
  have hne : g ≠ w.heap.size := Nat.ne_of_lt hg
  obtain ⟨n, hn⟩ : ∃ n, n = L.length := ⟨_, rfl⟩
  have HN := Lib.hid hn
  rw [← hn] at hlen hpl ⊢
  obtain ⟨ps, hps⟩ : ∃ ps, posE L e = ps := ⟨_, rfl⟩
  obtain ⟨hs2, hhs⟩ : ∃ b, hasE L e = b := ⟨_, rfl⟩
  rw [hps] at hpl HP HH ⊢
  rw [hhs] at HH ⊢
  have HPS := Lib.hid hps
  clear hn hs hL hps hhs
  obtain ⟨s, p, f, l⟩ := e
  simp only [entV]
  go_enter Try.func48, Try.ntmps48
  go_wp2_with fail
  go_loopw [9, 10] (fun lo hi V => ∃ a b : Nat, a ≤ ps ∧ ps ≤ b ∧ b ≤ n ∧ lo = .int .i64 (a : Nat) ∧ hi = .int .i64 (b : Nat) ∧ V.heap[w.heap.size]? = some (.cells #[.int .i64 s, .int .u64 p, .int .u64 f, .int .u64 l] 27) ∧ Below w.heap.size w V) (fun lo hi _ => (intOf hi - intOf lo).toNat)
  case atStart => exact ⟨0, n, by omega, by omega, by omega, rfl, rfl, (by (repeat (first | assumption | (refine heap_new _ _ _ ?_; simp; done) | refine heap_old _ _ _ _ ?_))), by repeat' (first | with_reducible exact Below.refl _ _ | with_reducible assumption | with_reducible apply below_drewN | with_reducible apply Below.drew | with_reducible refine Below.setCell ?_ ?_ _ | with_reducible refine Below.alloc ?_ ?_ _ | omega | (simp; done) | (simp; omega))⟩
  case round =>
    obtain ⟨a, b, h1, h2, h3, rfl, rfl, hblk, hB⟩ := hrel
    have hBs := hB.size
    obtain ⟨c4, f4, l4, n4⟩ := block_cells hblk
    have d0 := c4 0 _ rfl
    have d1 := c4 1 _ rfl
    have d2 := c4 2 _ rfl
    have d3 := c4 3 _ rfl
    have hgV : g < wr.heap.size := by omega
    have HBK := Lib.hid hblk
    clear c4 hblk
    by_cases hlt : a < b
    · have hmid : (a + b) / 2 < L.length := by have := HN.out; omega
      obtain ⟨e0, e1, e2, e3⟩ := HL.out ((a + b) / 2) hmid
      have hp := HP.out ((a + b) / 2) hmid
      have g0 := (hB.cell (p := ⟨g, (a + b) / 2 * 4, none⟩) hg).trans e0
      have g1 := (hB.cell (p := ⟨g, (a + b) / 2 * 4 + 1, none⟩) hg).trans e1
      have g2 := (hB.cell (p := ⟨g, (a + b) / 2 * 4 + 2, none⟩) hg).trans e2
      have g3 := (hB.cell (p := ⟨g, (a + b) / 2 * 4 + 3, none⟩) hg).trans e3
      clear e0 e1 e2 e3
      generalize L[(a + b) / 2]'hmid = x at g0 g1 g2 g3 hp
      obtain ⟨xs, xp, xf, xl⟩ := x
      simp only at g0 g1 g2 g3
      obtain ⟨cz, hcz⟩ : ∃ cz, cmpE ⟨xs, xp, xf, xl⟩ ⟨s, p, f, l⟩ = cz := ⟨_, rfl⟩
      have cL : Hid (∀ V, Calls Try.prog 49 #[.agg #[.int .i64 xs, .int .u64 xp, .int .u64 xf, .int .u64 xl], .agg #[.int .i64 s, .int .u64 p, .int .u64 f, .int .u64 l]] V (RetB (.int .i64 cz) V)) := Lib.hid fun V => by
        have := less_any ⟨xs, xp, xf, xl⟩ ⟨s, p, f, l⟩ V
        rw [hcz] at this
        exact this
      unfold ltE at hp
      rw [hcz, decide_eq_true_iff] at hp
      clear hcz hmid
      by_cases hk : cz < 0
      · have h4 := hp.1 hk
        clear hp
        go_wp2_with fail
        refine wp_region_qbn (by kernel_rfl) (by kernel_rfl) (fun kq => ?_); have kq0 := kq (w.heap.size) (by first | omega | (simp; done) | (simp; omega)); have kq1 := kq (g) (by first | omega | (simp; done) | (simp; omega)); clear kq; (repeat (go_big_quiet_step ((go_at_call 49; exact quietB (cL.out _))))); refine wpQuiet_nil ?_; clear kq0 kq1; intro wq hb
        go_wp2_with fail
        go_roundw
        case rel => exact ⟨(a + b) / 2 + 1, b, by omega, h2, h3, by go_num, rfl, (hb.block _ l4).trans HBK.out, hB.trans (hb.mono hBs)⟩
        case measure => simp [intOf]; omega
      · have h4 : ps ≤ (a + b) / 2 := Nat.not_lt.1 (fun h => hk (hp.2 h))
        clear hp
        go_wp2_with fail
        refine wp_region_qbn (by kernel_rfl) (by kernel_rfl) (fun kq => ?_); have kq0 := kq (w.heap.size) (by first | omega | (simp; done) | (simp; omega)); have kq1 := kq (g) (by first | omega | (simp; done) | (simp; omega)); clear kq; (repeat (go_big_quiet_step ((go_at_call 49; exact quietB (cL.out _))))); refine wpQuiet_nil ?_; clear kq0 kq1; intro wq hb
        go_wp2_with fail
        go_roundw
        case rel => exact ⟨a, (a + b) / 2, h1, h4, by omega, rfl, by go_num, (hb.block _ l4).trans HBK.out, hB.trans (hb.mono hBs)⟩
        case measure => simp [intOf]; omega
    · obtain rfl : a = b := by omega
      obtain rfl : a = ps := by omega
      by_cases hp : a < n
      · have hmid : a < L.length := by have := HN.out; omega
        obtain ⟨e0, e1, e2, e3⟩ := HL.out a hmid
        have g0 := (hB.cell (p := ⟨g, a * 4, none⟩) hg).trans e0
        have g1 := (hB.cell (p := ⟨g, a * 4 + 1, none⟩) hg).trans e1
        have g2 := (hB.cell (p := ⟨g, a * 4 + 2, none⟩) hg).trans e2
        have g3 := (hB.cell (p := ⟨g, a * 4 + 3, none⟩) hg).trans e3
        have hbq : hs2 = true ↔ L[a]'hmid = ⟨s, p, f, l⟩ := by
          rw [HH.out]
          exact ⟨fun ⟨_, h⟩ => h, fun h => ⟨hmid, h⟩⟩
        clear e0 e1 e2 e3
        generalize L[a]'hmid = x at g0 g1 g2 g3 hbq
        obtain ⟨xs, xp, xf, xl⟩ := x
        simp only at g0 g1 g2 g3
        obtain ⟨cz, hcz⟩ : ∃ cz, cmpE ⟨xs, xp, xf, xl⟩ ⟨s, p, f, l⟩ = cz := ⟨_, rfl⟩
        have cL : Hid (∀ V, Calls Try.prog 49 #[.agg #[.int .i64 xs, .int .u64 xp, .int .u64 xf, .int .u64 xl], .agg #[.int .i64 s, .int .u64 p, .int .u64 f, .int .u64 l]] V (RetB (.int .i64 cz) V)) := Lib.hid fun V => by
          have := less_any ⟨xs, xp, xf, xl⟩ ⟨s, p, f, l⟩ V
          rw [hcz] at this
          exact this
        have hbz : hs2 = (cz == 0) := by
          rw [Bool.eq_iff_iff, hbq, ← cmp_zero, hcz, beq_iff_eq]
        have HB := Lib.hid hbz
        clear hcz hbz hbq hmid
        go_wp2_with fail
        refine wp_region_qbn (by kernel_rfl) (by kernel_rfl) (fun kq => ?_); have kq0 := kq (w.heap.size) (by first | omega | (simp; done) | (simp; omega)); have kq1 := kq (g) (by first | omega | (simp; done) | (simp; omega)); clear kq; (repeat (go_big_quiet_step ((go_at_call 49; exact quietB (cL.out _))))); refine wpQuiet_nil ?_; clear kq0 kq1; intro wq hb
        go_wp2_with fail
        go_ret2
        exact ⟨by rw [HB.out]; rfl, hB.trans (hb.mono hBs)⟩
      · have hbf : hs2 = false := by
          rw [Bool.eq_false_iff, ne_eq, HH.out]
          rintro ⟨h, _⟩
          have := HN.out
          have := HPS.out
          omega
        have HB := Lib.hid hbf
        have hd : decide (((a : Nat) : Int) < (n : Int)) = false := by simpa using hp
        clear hbf
        go_wp2_with fail
        refine wp_region_qbn (by kernel_rfl) (by kernel_rfl) (fun kq => ?_); have kq0 := kq (w.heap.size) (by first | omega | (simp; done) | (simp; omega)); have kq1 := kq (g) (by first | omega | (simp; done) | (simp; omega)); clear kq; (repeat (go_big_quiet_step (fail))); refine wpQuiet_nil ?_; clear kq0 kq1; intro wq hb
        go_wp2_with fail
        go_ret2
        exact ⟨by rw [HB.out]; rfl, hB.trans (hb.mono hBs)⟩

end Go.Proofs.Ytcaggboeacgknaa
