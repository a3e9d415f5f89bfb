/- The reference's Before, With. -/
import Derived.Test.YtcaggboeacgknaaWith
namespace Go.Proofs.Ytcaggboeacgknaa
open Go.RowKit
set_option linter.unusedSimpArgs false
set_option linter.unusedVariables false

theorem eqlE (x y : E) (w : World) : (binOp .eql 27 (entV x) (entV y)).run Try.prog w = .ok (.bool (decide (x = y))) w := by
  obtain ⟨a, b, c, d⟩ := x
  obtain ⟨a', b', c', d'⟩ := y
  by_cases h1 : a = a'
  · subst h1
    by_cases h2 : b = b'
    · subst h2
      by_cases h3 : c = c'
      · subst h3
        by_cases h4 : d = d'
        · subst h4
          rw [decide_eq_true rfl]
          simp only [entV]
          go_simp
        · rw [decide_eq_false (by simp [E.mk.injEq, h4])]
          simp only [entV]
          go_simp
      · rw [decide_eq_false (by simp [E.mk.injEq, h3])]
        simp only [entV]
        go_simp
    · rw [decide_eq_false (by simp [E.mk.injEq, h2])]
      simp only [entV]
      go_simp
  · rw [decide_eq_false (by simp [E.mk.injEq, h1])]
    simp only [entV]
    go_simp
theorem neqE (x y : E) (w : World) : (binOp .neq 27 (entV x) (entV y)).run Try.prog w = .ok (.bool (!decide (x = y))) w := by
  obtain ⟨a, b, c, d⟩ := x
  obtain ⟨a', b', c', d'⟩ := y
  by_cases h1 : a = a'
  · subst h1
    by_cases h2 : b = b'
    · subst h2
      by_cases h3 : c = c'
      · subst h3
        by_cases h4 : d = d'
        · subst h4
          rw [decide_eq_true rfl]
          simp only [entV]
          go_simp
        · rw [decide_eq_false (by simp [E.mk.injEq, h4])]
          simp only [entV]
          go_simp
      · rw [decide_eq_false (by simp [E.mk.injEq, h3])]
        simp only [entV]
        go_simp
    · rw [decide_eq_false (by simp [E.mk.injEq, h2])]
      simp only [entV]
      go_simp
  · rw [decide_eq_false (by simp [E.mk.injEq, h1])]
    simp only [entV]
    go_simp
theorem before_any (x y : E) (w : World) : Calls Try.prog 52 #[entV x, entV y] w (RetB (.bool (ltE x y)) w) := by
  obtain ⟨a, b, c, d⟩ := x
  obtain ⟨a', b', c', d'⟩ := y
  simp only [entV]
  by_cases h1 : a = a'
  · subst h1
    by_cases h2 : b = b'
    · subst h2
      by_cases h3 : c = c'
      · subst h3
        have HC : Hid (ltE ⟨a, b, c, d⟩ ⟨a, b, c, d'⟩ = decide (d < d')) := Lib.hid (by simp [ltE, cmpE, ordZ]; split <;> (try split) <;> simp_all)
        go_enter Try.func52, Try.ntmps52
        go_wp2
        go_ret
        exact ⟨by rw [HC.out]; rfl, by repeat' (first | with_reducible exact Below.refl _ _ | with_reducible assumption | with_reducible apply below_drewN | with_reducible apply Below.drew | with_reducible refine Below.setCell ?_ ?_ _ | with_reducible refine Below.alloc ?_ ?_ _ | omega | (simp; done) | (simp; omega))⟩
      · have HC : Hid (ltE ⟨a, b, c, d⟩ ⟨a, b, c', d'⟩ = decide (c < c')) := Lib.hid (by simp [ltE, cmpE, ordZ, h3]; split <;> (try split) <;> simp_all)
        have h5 : (c != c') = true := by simpa using h3
        go_enter Try.func52, Try.ntmps52
        go_wp2
        go_ret
        exact ⟨by rw [HC.out]; rfl, by repeat' (first | with_reducible exact Below.refl _ _ | with_reducible assumption | with_reducible apply below_drewN | with_reducible apply Below.drew | with_reducible refine Below.setCell ?_ ?_ _ | with_reducible refine Below.alloc ?_ ?_ _ | omega | (simp; done) | (simp; omega))⟩
    · have HC : Hid (ltE ⟨a, b, c, d⟩ ⟨a, b', c', d'⟩ = decide (b < b')) := Lib.hid (by simp [ltE, cmpE, ordZ, h2]; split <;> (try split) <;> simp_all)
      have h5 : (b != b') = true := by simpa using h2
      go_enter Try.func52, Try.ntmps52
      go_wp2
      go_ret
      exact ⟨by rw [HC.out]; rfl, by repeat' (first | with_reducible exact Below.refl _ _ | with_reducible assumption | with_reducible apply below_drewN | with_reducible apply Below.drew | with_reducible refine Below.setCell ?_ ?_ _ | with_reducible refine Below.alloc ?_ ?_ _ | omega | (simp; done) | (simp; omega))⟩
  · have HC : Hid (ltE ⟨a, b, c, d⟩ ⟨a', b', c', d'⟩ = decide (a < a')) := Lib.hid (by
      have : ltE ⟨a, b, c, d⟩ ⟨a', b', c', d'⟩ = true ↔ a < a' := by rw [ltE_iff]; simp only; omega
      rw [Bool.eq_iff_iff, this, decide_eq_true_iff])
    have h5 : (a != a') = true := by simpa using h1
    go_enter Try.func52, Try.ntmps52
    go_wp2
    go_ret
    exact ⟨by rw [HC.out]; rfl, by repeat' (first | with_reducible exact Below.refl _ _ | with_reducible assumption | with_reducible apply below_drewN | with_reducible apply Below.drew | with_reducible refine Below.setCell ?_ ?_ _ | with_reducible refine Below.alloc ?_ ?_ _ | omega | (simp; done) | (simp; omega))⟩

theorem posE_lt : ∀ (L : List E) (e : E) (j : Nat) (h : j < L.length), j < posE L e → ltE L[j] e = true
  | x :: L, e, 0, h, hj => by
    unfold posE at hj
    split at hj
    · assumption
    · omega
  | x :: L, e, j + 1, h, hj => by
    unfold posE at hj
    split at hj
    · exact posE_lt L e j (by simpa using h) (by omega)
    · omega
theorem posE_stop : ∀ (L : List E) (e : E) (h : posE L e < L.length), ltE L[posE L e] e = false
  | x :: L, e, h => by
    by_cases hx : ltE x e = true
    · have hp : posE (x :: L) e = posE L e + 1 := by rw [posE, if_pos hx]
      have := posE_stop L e (by rw [hp] at h; simpa using h)
      simp only [hp, List.getElem_cons_succ]
      exact this
    · have hp : posE (x :: L) e = 0 := by rw [posE, if_neg hx]
      simp only [hp, List.getElem_cons_zero]
      simpa using hx

/-- The call returns a list. -/
def RetLst (base : Nat) (L : List E) (w : World) (e : Ending) (w' : World) : Prop := ∃ v', e = .returned v' ∧ RowE w' base v' L ∧ Below w.heap.size w w'

theorem new_cells (W : World) (cs : Array Value) (t : TypeId) : ∀ ad, some (⟨W.heap.size, 0, none⟩ : Addr) = some ad → ∀ (j : Nat) u, cs.toList[j]? = some u → (W.alloc (.cells cs t)).cell? (ad.add j) = some u := by
  intro ad h j u hj
  cases h
  rw [Addr.add_lit, Nat.zero_add]
  have : (W.alloc (.cells cs t)).cell? ⟨W.heap.size, j, none⟩ = cs[j]? := World.cell?_alloc_at (w := W) cs _ W.heap.size j rfl
  rw [this]
  simpa using hj
theorem cellsE_one (e : E) : ∀ u ∈ cellsE e, u.oneCell' = true := by
  have := flatE_cells [e]
  simpa [flatE] using this
theorem rowcells {w : World} {g : Nat} {L : List E} (hF : ∀ (j : Nat) u, (flatE L)[j]? = some u → w.cell? ⟨g, j, none⟩ = some u) (j : Nat) (hj : j < L.length) : w.cell? ⟨g, j * 4, none⟩ = some (.int .i64 L[j].space) ∧ w.cell? ⟨g, j * 4 + 1, none⟩ = some (.int .u64 L[j].page) ∧ w.cell? ⟨g, j * 4 + 2, none⟩ = some (.int .u64 L[j].first) ∧ w.cell? ⟨g, j * 4 + 3, none⟩ = some (.int .u64 L[j].last) := by
  obtain ⟨h0, h1, h2, h3⟩ := flatE_at L j hj
  exact ⟨hF _ _ h0, hF _ _ h1, hF _ _ h2, hF _ _ h3⟩
theorem flat_take {w V : World} {g : Nat} {L : List E} (hF : ∀ (j : Nat) u, (flatE L)[j]? = some u → w.cell? ⟨g, j, none⟩ = some u) (hg : g < w.heap.size) (hb : Below w.heap.size w V) (p : Nat) : ∀ ad, some (⟨g, 0, none⟩ : Addr) = some ad → ∀ (j : Nat) u, ((flatE L).take p)[j]? = some u → V.cell? (ad.add j) = some u := by
  intro ad h j u hj
  cases h
  rw [Addr.add_lit, Nat.zero_add, hb.cell (p := ⟨g, j, none⟩) hg]
  refine hF j u ?_
  rw [List.getElem?_take] at hj
  split at hj
  · exact hj
  · cases hj
theorem flat_drop {w V : World} {g : Nat} {L : List E} (hF : ∀ (j : Nat) u, (flatE L)[j]? = some u → w.cell? ⟨g, j, none⟩ = some u) (hg : g < w.heap.size) (hb : Below w.heap.size w V) (p : Nat) : ∀ ad, some (⟨g, p, none⟩ : Addr) = some ad → ∀ (j : Nat) u, ((flatE L).drop p)[j]? = some u → V.cell? (ad.add j) = some u := by
  intro ad h j u hj
  cases h
  rw [Addr.add_lit, hb.cell (p := ⟨g, p + j, none⟩) hg]
  refine hF _ u ?_
  rw [List.getElem?_drop] at hj
  exact hj
set_option maxHeartbeats 2000000 in
theorem rwith_nil (e : E) (w : World) (base : Nat) (hb0 : base ≤ w.heap.size) : Calls Try.prog 24 #[.slice none 0 0, entV e] w (RetLst base [e] w) := by
  obtain ⟨i0, hi0, hz0, hz1, hz2⟩ := info_parts infoE
  have HB := Lib.hid hb0
  clear hb0
  obtain ⟨s, p, f, l⟩ := e
  simp only [entV]
  go_enter Try.func24, Try.ntmps24
  go_wp2_with fail
  go_loopw [5] (fun i V => i = .int .i64 0 ∧ V.heap[w.heap.size]? = some (.cells #[.int .i64 s, .int .u64 p, .int .u64 f, .int .u64 l] 27) ∧ Below w.heap.size w V) (fun _ _ => 0)
  case atStart => exact ⟨rfl, (by (repeat (first | assumption | (refine heap_new _ _ _ ?_; simp; done) | refine heap_old _ _ _ _ ?_))), by repeat' (first | with_reducible exact Below.refl _ _ | with_reducible assumption | with_reducible apply below_drewN | with_reducible apply Below.drew | with_reducible refine Below.setCell ?_ ?_ _ | with_reducible refine Below.alloc ?_ ?_ _ | omega | (simp; done) | (simp; omega))⟩
  case round =>
    obtain ⟨rfl, hblk, hB⟩ := hrel
    have hBs := hB.size
    obtain ⟨c4, f4, l4, n4⟩ := block_cells hblk
    have HBK := Lib.hid hblk
    clear c4 hblk
    go_wp2_with fail
    refine wp_region_qb1 w.heap.size (by kernel_rfl) (by kernel_rfl) (by first | omega | (simp; done) | (simp; omega)) (fun kq => ?_); (repeat (go_big_quiet_step (fail))); refine wpQuiet_nil ?_; clear kq; intro wq hb
    have hB2 := hB.trans (hb.mono hBs); have hBs2 := hB2.size; have hblk2 := (hb.block w.heap.size l4).trans HBK.out; clear hBs hB HBK l4 f4 n4; try clear hb; obtain ⟨wr, rfl⟩ : ∃ wr, wr = wq := ⟨_, rfl⟩; have hB := hB2; have hBs := hBs2; obtain ⟨c4, f4, l4, n4⟩ := block_cells hblk2; have HBK := Lib.hid hblk2; have d0 := c4 0 _ rfl; have d1 := c4 1 _ rfl; have d2 := c4 2 _ rfl; have d3 := c4 3 _ rfl; clear c4 hblk2 hB2 hBs2
    go_wp2_with fail
    refine wp_region_qb1 w.heap.size (by kernel_rfl) (by kernel_rfl) (by first | omega | (simp; done) | (simp; omega)) (fun kq => ?_); (repeat (go_big_quiet_step (fail))); refine wpQuiet_nil ?_; clear kq; intro wq hb
    have hB2 := hB.trans (hb.mono hBs); have hBs2 := hB2.size; have hblk2 := (hb.block w.heap.size l4).trans HBK.out; clear hBs hB HBK l4 f4 n4; try clear hb; obtain ⟨wr, rfl⟩ : ∃ wr, wr = wq := ⟨_, rfl⟩; have hB := hB2; have hBs := hBs2; obtain ⟨c4, f4, l4, n4⟩ := block_cells hblk2; have HBK := Lib.hid hblk2; have d0 := c4 0 _ rfl; have d1 := c4 1 _ rfl; have d2 := c4 2 _ rfl; have d3 := c4 3 _ rfl; clear c4 hblk2 hB2 hBs2
    have HM : Hid ((wr.alloc (.cells #[] 27)).ownsRow wr.heap.size 27 4 (.slice (some ⟨wr.heap.size, 0, none⟩) 0 0) 0 []) := Lib.hid (World.ownsRow_made wr #[] 0 (Nat.le_refl _) (Nat.zero_le _) (by simp))
    go_wp2_with (first
      | (at_builtin; refine wpList_append_gen rfl (.tmp 34) (.tmp 37) 40 rfl wr.heap.size 27 i0 (.agg #[.int .i64 0, .int .u64 0, .int .u64 0, .int .u64 0]) 4 32 Try.underlying40 hi0 hz0 hz1 hz2 rfl (by decide) _ 0 [] rfl HM.out none 0 0 [] rfl (fun _ => ⟨rfl, rfl⟩) rfl (fun ad h => by cases h) (by simp) (by decide) (by decide) (by simp) ?_; intro a2 c2 w2 ho hg2 _; (have B2 : Below wr.heap.size wr w2 := (((Below.refl _ wr).alloc (Nat.le_refl _) _).grown hg2 (by simp) (fun k hk => (HM.out.lt k hk).1))); have G2 := Lib.hid ho; obtain ⟨x2, y2, z2, t2⟩ := block_cells ((B2.block w.heap.size l4).trans HBK.out); have x20 := x2 0 _ rfl; have x21 := x2 1 _ rfl; have x22 := x2 2 _ rfl; have x23 := x2 3 _ rfl; have Bz2 := B2.size; clear x2; clear ho hg2)
      | (at_builtin; refine wpList_append_gen rfl (.tmp 39) (.tmp 41) 40 rfl wr.heap.size 27 i0 (.agg #[.int .i64 0, .int .u64 0, .int .u64 0, .int .u64 0]) 4 32 Try.underlying40 hi0 hz0 hz1 hz2 rfl (by decide) _ _ _ rfl (G2.out.alloc _) (some ⟨w2.heap.size, 0, none⟩) 1 1 (cellsE ⟨s, p, f, l⟩) rfl (fun h => by cases h) rfl (new_cells w2 #[.int .i64 s, .int .u64 p, .int .u64 f, .int .u64 l] _) (cellsE_one _) (by decide) (by decide) (by simp; omega) ?_; intro a3 c3 w3 ho hg2 _; (have B3 : Below wr.heap.size wr w3 := ((B2.alloc Bz2 _).grown hg2 (by simp; omega) (fun k hk => (G2.out.lt k hk).1))); have G3 := Lib.hid ho; have Bz3 := B3.size; clear ho hg2)
      | (at_builtin; refine wpList_append_gen rfl (.tmp 43) (.tmp 46) 40 rfl wr.heap.size 27 i0 (.agg #[.int .i64 0, .int .u64 0, .int .u64 0, .int .u64 0]) 4 32 Try.underlying40 hi0 hz0 hz1 hz2 rfl (by decide) _ _ _ rfl G3.out none 0 0 [] rfl (fun _ => ⟨rfl, rfl⟩) rfl (fun ad h => by cases h) (by simp) (by decide) (by decide) (by omega) ?_; intro a4 c4 w4 ho hg2 _; (have B4 : Below wr.heap.size wr w4 := (B3.grown hg2 Bz3 (fun k hk => (G3.out.lt k hk).1))); have G4 := Lib.hid ho; have Bz4 := B4.size; clear ho hg2))
    go_ret
    refine ⟨_, rfl, ?_, hB.trans (B4.mono hBs)⟩
    have h4 := G4.out
    unfold RowE
    refine ownsRow_base ?_ (Nat.le_trans HB.out hBs)
    simpa [flatE] using h4

set_option maxRecDepth 100000 in
set_option maxHeartbeats 4000000 in
theorem rwith_mid (g cap : Nat) (L : List E) (e : E) (w : World) (base : Nat) (hb0 : base ≤ w.heap.size) (hg : g < w.heap.size) (hF : ∀ (j : Nat) u, (flatE L)[j]? = some u → w.cell? ⟨g, j, none⟩ = some u)
    (hlen : L.length ≤ 1000) (hcap : L.length ≤ cap) (hps : posE L e < L.length) (hx : ¬ L[posE L e] = e) :
    Calls Try.prog 24 #[.slice (some ⟨g, 0, none⟩) L.length cap, entV e] w (RetLst base (L.take (posE L e) ++ e :: L.drop (posE L e)) w) := by
  obtain ⟨i0, hi0, hz0, hz1, hz2⟩ := info_parts infoE
  have HB := Lib.hid hb0
  have HL : Hid (∀ (j : Nat) (hj : j < L.length), w.cell? ⟨g, j * 4, none⟩ = some (.int .i64 L[j].space) ∧ w.cell? ⟨g, j * 4 + 1, none⟩ = some (.int .u64 L[j].page) ∧ w.cell? ⟨g, j * 4 + 2, none⟩ = some (.int .u64 L[j].first) ∧ w.cell? ⟨g, j * 4 + 3, none⟩ = some (.int .u64 L[j].last)) := Lib.hid (rowcells hF)
  have HF := Lib.hid hF
  have HP := Lib.hid (posE_lt L e)
  have HQ := Lib.hid (posE_stop L e)
  have hne : g ≠ w.heap.size := Nat.ne_of_lt hg
  obtain ⟨n, hn⟩ : ∃ n, n = L.length := ⟨_, rfl⟩
  have HN := Lib.hid hn
  rw [← hn] at hlen hps hcap ⊢
  obtain ⟨ps, hps2⟩ : ∃ ps, posE L e = ps := ⟨_, rfl⟩
  have HX : Hid (∀ h : ps < L.length, ¬ L[ps] = e) := Lib.hid (by subst hps2; exact fun _ => hx)
  clear hx
  rw [hps2] at HP HQ hps ⊢
  have HPS := Lib.hid hps2
  clear hn hF hps2 hb0
  obtain ⟨R, hR⟩ : ∃ R, R = L.take ps ++ e :: L.drop ps := ⟨_, rfl⟩
  have HR := Lib.hid hR
  rw [← hR]
  clear hR
  obtain ⟨s, p, f, l⟩ := e
  simp only [entV]
  go_enter Try.func24, Try.ntmps24
  go_wp2_with fail
  go_loopw [5] (fun i V => ∃ a : Nat, a ≤ ps ∧ i = .int .i64 (a : Nat) ∧ V.heap[w.heap.size]? = some (.cells #[.int .i64 s, .int .u64 p, .int .u64 f, .int .u64 l] 27) ∧ Below w.heap.size w V) (fun i _ => (ps - (intOf i)).toNat)
  case atStart => exact ⟨0, by omega, rfl, (by (repeat (first | assumption | (refine heap_new _ _ _ ?_; simp; done) | refine heap_old _ _ _ _ ?_))), by repeat' (first | with_reducible exact Below.refl _ _ | with_reducible assumption | with_reducible apply below_drewN | with_reducible apply Below.drew | with_reducible refine Below.setCell ?_ ?_ _ | with_reducible refine Below.alloc ?_ ?_ _ | omega | (simp; done) | (simp; omega))⟩
  case round =>
    obtain ⟨a, ha, rfl, hblk, hB⟩ := hrel
    have hBs := hB.size
    have han : a < L.length := by have := HN.out; omega
    obtain ⟨c4, f4, l4, n4⟩ := block_cells hblk
    have d0 := c4 0 _ rfl
    have d1 := c4 1 _ rfl
    have d2 := c4 2 _ rfl
    have d3 := c4 3 _ rfl
    have hgV : g < wr.heap.size := by omega
    have HBK := Lib.hid hblk
    clear c4 hblk
    have hlt : a < n := by omega
    by_cases hap : a < ps
    · have hcmp := HP.out a han hap
      obtain ⟨e0, e1, e2, e3⟩ := HL.out a han
      have g0 := (hB.cell (p := ⟨g, a * 4, none⟩) hg).trans e0
      have g1 := (hB.cell (p := ⟨g, a * 4 + 1, none⟩) hg).trans e1
      have g2 := (hB.cell (p := ⟨g, a * 4 + 2, none⟩) hg).trans e2
      have g3 := (hB.cell (p := ⟨g, a * 4 + 3, none⟩) hg).trans e3
      clear e0 e1 e2 e3
      generalize L[a]'han = x at g0 g1 g2 g3 hcmp
      obtain ⟨xs, xp, xf, xl⟩ := x
      simp only at g0 g1 g2 g3
      have cL : Hid (∀ V, Calls Try.prog 52 #[.agg #[.int .i64 xs, .int .u64 xp, .int .u64 xf, .int .u64 xl], .agg #[.int .i64 s, .int .u64 p, .int .u64 f, .int .u64 l]] V (RetB (.bool true) V)) := Lib.hid fun V => by
        have := before_any ⟨xs, xp, xf, xl⟩ ⟨s, p, f, l⟩ V
        rw [hcmp] at this
        exact this
      clear hcmp han
      go_wp2_with fail
      refine wp_region_qbn (by kernel_rfl) (by kernel_rfl) (fun kq => ?_); have kq0 := kq (w.heap.size) (by first | omega | (simp; done) | (simp; omega)); have kq1 := kq (g) (by first | omega | (simp; done) | (simp; omega)); clear kq; (repeat (go_big_quiet_step ((go_at_call 52; exact quietB (cL.out _))))); refine wpQuiet_nil ?_; clear kq0 kq1; intro wq hb
      go_wp2_with fail
      go_roundw
      case rel => exact ⟨a + 1, by omega, by go_num, (hb.block _ l4).trans HBK.out, hB.trans (hb.mono hBs)⟩
      case measure => simp [intOf]; omega
    · obtain rfl : a = ps := by omega
      have hcmp := HQ.out han
      have hxe := HX.out han
      obtain ⟨e0, e1, e2, e3⟩ := HL.out a han
      have g0 := (hB.cell (p := ⟨g, a * 4, none⟩) hg).trans e0
      have g1 := (hB.cell (p := ⟨g, a * 4 + 1, none⟩) hg).trans e1
      have g2 := (hB.cell (p := ⟨g, a * 4 + 2, none⟩) hg).trans e2
      have g3 := (hB.cell (p := ⟨g, a * 4 + 3, none⟩) hg).trans e3
      clear e0 e1 e2 e3
      generalize L[a]'han = x at g0 g1 g2 g3 hcmp hxe
      obtain ⟨xs, xp, xf, xl⟩ := x
      simp only at g0 g1 g2 g3
      have cL : Hid (∀ V, Calls Try.prog 52 #[.agg #[.int .i64 xs, .int .u64 xp, .int .u64 xf, .int .u64 xl], .agg #[.int .i64 s, .int .u64 p, .int .u64 f, .int .u64 l]] V (RetB (.bool false) V)) := Lib.hid fun V => by
        have := before_any ⟨xs, xp, xf, xl⟩ ⟨s, p, f, l⟩ V
        rw [hcmp] at this
        exact this
      have hq : ∀ w, (binOp .eql 27 (.agg #[.int .i64 xs, .int .u64 xp, .int .u64 xf, .int .u64 xl]) (.agg #[.int .i64 s, .int .u64 p, .int .u64 f, .int .u64 l])).run Try.prog w = .ok (.bool false) w := fun w => by
        have := eqlE ⟨xs, xp, xf, xl⟩ ⟨s, p, f, l⟩ w
        rw [decide_eq_false hxe] at this
        exact this
      clear hcmp han hxe
      go_wp2_with fail
      refine wp_region_qbn (by kernel_rfl) (by kernel_rfl) (fun kq => ?_); have kq0 := kq (w.heap.size) (by first | omega | (simp; done) | (simp; omega)); have kq1 := kq (g) (by first | omega | (simp; done) | (simp; omega)); clear kq; (repeat (go_big_quiet_step ((go_at_call 52; exact quietB (cL.out _))))); refine wpQuiet_nil ?_; clear kq0 kq1; intro wq hb
      have gk0 := (hb.cell (p := ⟨g, a * 4, none⟩) hgV).trans g0; have gk1 := (hb.cell (p := ⟨g, a * 4 + 1, none⟩) hgV).trans g1; have gk2 := (hb.cell (p := ⟨g, a * 4 + 2, none⟩) hgV).trans g2; have gk3 := (hb.cell (p := ⟨g, a * 4 + 3, none⟩) hgV).trans g3; clear g0 g1 g2 g3; have g0 := gk0; have g1 := gk1; have g2 := gk2; have g3 := gk3; clear gk0 gk1 gk2 gk3; have hB2 := hB.trans (hb.mono hBs); have hBs2 := hB2.size; have hblk2 := (hb.block w.heap.size l4).trans HBK.out; clear hBs hB HBK l4 f4 n4; try clear hb; obtain ⟨wr, rfl⟩ : ∃ wr, wr = wq := ⟨_, rfl⟩; have hB := hB2; have hBs := hBs2; obtain ⟨c4, f4, l4, n4⟩ := block_cells hblk2; have HBK := Lib.hid hblk2; have d0 := c4 0 _ rfl; have d1 := c4 1 _ rfl; have d2 := c4 2 _ rfl; have d3 := c4 3 _ rfl; clear c4 hblk2 hB2 hBs2; have hgV : g < wr.heap.size := by omega
      go_wp2_with fail
      refine wp_region_qbn (by kernel_rfl) (by kernel_rfl) (fun kq => ?_); have kq0 := kq (w.heap.size) (by first | omega | (simp; done) | (simp; omega)); have kq1 := kq (g) (by first | omega | (simp; done) | (simp; omega)); clear kq; (repeat (go_big_quiet_step (fail))); refine wpQuiet_nil ?_; clear kq0 kq1; intro wq hb
      have gk0 := (hb.cell (p := ⟨g, a * 4, none⟩) hgV).trans g0; have gk1 := (hb.cell (p := ⟨g, a * 4 + 1, none⟩) hgV).trans g1; have gk2 := (hb.cell (p := ⟨g, a * 4 + 2, none⟩) hgV).trans g2; have gk3 := (hb.cell (p := ⟨g, a * 4 + 3, none⟩) hgV).trans g3; clear g0 g1 g2 g3; have g0 := gk0; have g1 := gk1; have g2 := gk2; have g3 := gk3; clear gk0 gk1 gk2 gk3; have hB2 := hB.trans (hb.mono hBs); have hBs2 := hB2.size; have hblk2 := (hb.block w.heap.size l4).trans HBK.out; clear hBs hB HBK l4 f4 n4; try clear hb; obtain ⟨wr, rfl⟩ : ∃ wr, wr = wq := ⟨_, rfl⟩; have hB := hB2; have hBs := hBs2; obtain ⟨c4, f4, l4, n4⟩ := block_cells hblk2; have HBK := Lib.hid hblk2; have d0 := c4 0 _ rfl; have d1 := c4 1 _ rfl; have d2 := c4 2 _ rfl; have d3 := c4 3 _ rfl; clear c4 hblk2 hB2 hBs2; have hgV : g < wr.heap.size := by omega
      have HM : Hid ((wr.alloc (.cells #[] 27)).ownsRow wr.heap.size 27 4 (.slice (some ⟨wr.heap.size, 0, none⟩) 0 0) 0 []) := Lib.hid (World.ownsRow_made wr #[] 0 (Nat.le_refl _) (Nat.zero_le _) (by simp))
      have HFL := Lib.hid (flatE_len L)
      clear hq cL HL HP HQ
      go_wp2_with (first
        | (at_builtin; (refine wpList_append_gen rfl (.tmp 34) (.tmp 37) 40 rfl wr.heap.size 27 i0 (.agg #[.int .i64 0, .int .u64 0, .int .u64 0, .int .u64 0]) 4 32 Try.underlying40 hi0 hz0 hz1 hz2 rfl (by decide) _ 0 [] rfl HM.out (some ⟨g, 0, none⟩) a cap ((flatE L).take (a * 4)) rfl (fun h => by cases h) (by rw [List.length_take, HFL.out]; have := HN.out; omega) (flat_take HF.out hg (hB.alloc hBs _) _) (fun u hu => flatE_cells L u (List.mem_of_mem_take hu)) (by unfold maxLen; omega) (by omega) (by simp) ?_); intro a2 c2 w2 ho hg2 _; (have B2 : Below wr.heap.size wr w2 := (((Below.refl _ wr).alloc (Nat.le_refl _) _).grown hg2 (by simp) (fun k hk => (HM.out.lt k hk).1))); have G2 : Hid (w2.ownsRow wr.heap.size 27 4 (.slice a2 a c2) a ((flatE L).take (a * 4))) := Lib.hid (by rw [Nat.zero_add] at ho; exact ho); obtain ⟨x2, y2, z2, t2⟩ := block_cells ((B2.block w.heap.size l4).trans HBK.out); have x20 := x2 0 _ rfl; have x21 := x2 1 _ rfl; have x22 := x2 2 _ rfl; have x23 := x2 3 _ rfl; have Bz2 := B2.size; clear x2; clear ho hg2)
        | (at_builtin; (refine wpList_append_gen rfl (.tmp 39) (.tmp 41) 40 rfl wr.heap.size 27 i0 (.agg #[.int .i64 0, .int .u64 0, .int .u64 0, .int .u64 0]) 4 32 Try.underlying40 hi0 hz0 hz1 hz2 rfl (by decide) _ a _ rfl (G2.out.alloc _) (some ⟨w2.heap.size, 0, none⟩) 1 1 (cellsE ⟨s, p, f, l⟩) rfl (fun h => by cases h) rfl (new_cells w2 #[.int .i64 s, .int .u64 p, .int .u64 f, .int .u64 l] _) (cellsE_one _) (by unfold maxLen; omega) (by omega) (by simp; omega) ?_); intro a3 c3 w3 ho hg2 _; (have B3 : Below wr.heap.size wr w3 := ((B2.alloc Bz2 _).grown hg2 (by simp; omega) (fun k hk => (G2.out.lt k hk).1))); have G3 := Lib.hid ho; have Bz3 := B3.size; clear ho hg2)
        | (at_builtin; (refine wpList_append_gen rfl (.tmp 43) (.tmp 46) 40 rfl wr.heap.size 27 i0 (.agg #[.int .i64 0, .int .u64 0, .int .u64 0, .int .u64 0]) 4 32 Try.underlying40 hi0 hz0 hz1 hz2 rfl (by decide) _ (a + 1) _ rfl G3.out (some ⟨g, a * 4, none⟩) (n - a) (cap - a) ((flatE L).drop (a * 4)) rfl (fun h => by cases h) (by rw [List.length_drop, HFL.out]; have := HN.out; omega) (flat_drop HF.out hg (hB.trans (B3.mono hBs)) _) (fun u hu => flatE_cells L u (List.mem_of_mem_drop hu)) (by unfold maxLen; omega) (by omega) (by omega) ?_); intro a4 c4 w4 ho hg2 _; (have B4 : Below wr.heap.size wr w4 := (B3.grown hg2 Bz3 (fun k hk => (G3.out.lt k hk).1))); have G4 := Lib.hid ho; have Bz4 := B4.size; clear ho hg2))
      go_ret
      refine ⟨_, rfl, ?_, hB.trans (B4.mono hBs)⟩
      have h4 := G4.out
      unfold RowE
      refine ownsRow_base ?_ (Nat.le_trans HB.out hBs)
      have hrl : R.length = a + 1 + (n - a) := by have := HN.out; rw [HR.out]; simp; omega
      have hrf : flatE R = (flatE L).take (a * 4) ++ cellsE ⟨s, p, f, l⟩ ++ (flatE L).drop (a * 4) := by rw [HR.out, flatE_ins]
      rw [hrl, hrf]
      exact h4

set_option maxRecDepth 100000 in
set_option maxHeartbeats 4000000 in
theorem rwith_old (g cap : Nat) (L : List E) (e : E) (w : World) (base : Nat) (hO : RowE w base (.slice (some ⟨g, 0, none⟩) L.length cap) L) (hg : g < w.heap.size) (hF : ∀ (j : Nat) u, (flatE L)[j]? = some u → w.cell? ⟨g, j, none⟩ = some u)
    (hlen : L.length ≤ 1000) (hcap : L.length ≤ cap) (hps : posE L e < L.length) (hx : L[posE L e] = e) :
    Calls Try.prog 24 #[.slice (some ⟨g, 0, none⟩) L.length cap, entV e] w (RetLst base L w) := by
  obtain ⟨i0, hi0, hz0, hz1, hz2⟩ := info_parts infoE
  have HB := Lib.hid hO
  have HL : Hid (∀ (j : Nat) (hj : j < L.length), w.cell? ⟨g, j * 4, none⟩ = some (.int .i64 L[j].space) ∧ w.cell? ⟨g, j * 4 + 1, none⟩ = some (.int .u64 L[j].page) ∧ w.cell? ⟨g, j * 4 + 2, none⟩ = some (.int .u64 L[j].first) ∧ w.cell? ⟨g, j * 4 + 3, none⟩ = some (.int .u64 L[j].last)) := Lib.hid (rowcells hF)
  have HF := Lib.hid hF
  have HP := Lib.hid (posE_lt L e)
  have HQ := Lib.hid (posE_stop L e)
  have hne : g ≠ w.heap.size := Nat.ne_of_lt hg
  obtain ⟨n, hn⟩ : ∃ n, n = L.length := ⟨_, rfl⟩
  have HN := Lib.hid hn
  have HB2 : Hid (RowE w base (.slice (some ⟨g, 0, none⟩) n cap) L) := Lib.hid (by rw [hn]; exact hO)
  rw [← hn] at hlen hps hcap ⊢
  obtain ⟨ps, hps2⟩ : ∃ ps, posE L e = ps := ⟨_, rfl⟩
  have HX : Hid (∀ h : ps < L.length, L[ps] = e) := Lib.hid (by subst hps2; exact fun _ => hx)
  clear hx
  rw [hps2] at HP HQ hps
  have HPS := Lib.hid hps2
  clear hn hF hps2 hO
  obtain ⟨s, p, f, l⟩ := e
  simp only [entV]
  go_enter Try.func24, Try.ntmps24
  go_wp2_with fail
  go_loopw [5] (fun i V => ∃ a : Nat, a ≤ ps ∧ i = .int .i64 (a : Nat) ∧ V.heap[w.heap.size]? = some (.cells #[.int .i64 s, .int .u64 p, .int .u64 f, .int .u64 l] 27) ∧ Below w.heap.size w V) (fun i _ => (ps - (intOf i)).toNat)
  case atStart => exact ⟨0, by omega, rfl, (by (repeat (first | assumption | (refine heap_new _ _ _ ?_; simp; done) | refine heap_old _ _ _ _ ?_))), by repeat' (first | with_reducible exact Below.refl _ _ | with_reducible assumption | with_reducible apply below_drewN | with_reducible apply Below.drew | with_reducible refine Below.setCell ?_ ?_ _ | with_reducible refine Below.alloc ?_ ?_ _ | omega | (simp; done) | (simp; omega))⟩
  case round =>
    obtain ⟨a, ha, rfl, hblk, hB⟩ := hrel
    have hBs := hB.size
    have han : a < L.length := by have := HN.out; omega
    obtain ⟨c4, f4, l4, n4⟩ := block_cells hblk
    have d0 := c4 0 _ rfl
    have d1 := c4 1 _ rfl
    have d2 := c4 2 _ rfl
    have d3 := c4 3 _ rfl
    have hgV : g < wr.heap.size := by omega
    have HBK := Lib.hid hblk
    clear c4 hblk
    have hlt : a < n := by omega
    by_cases hap : a < ps
    · have hcmp := HP.out a han hap
      obtain ⟨e0, e1, e2, e3⟩ := HL.out a han
      have g0 := (hB.cell (p := ⟨g, a * 4, none⟩) hg).trans e0
      have g1 := (hB.cell (p := ⟨g, a * 4 + 1, none⟩) hg).trans e1
      have g2 := (hB.cell (p := ⟨g, a * 4 + 2, none⟩) hg).trans e2
      have g3 := (hB.cell (p := ⟨g, a * 4 + 3, none⟩) hg).trans e3
      clear e0 e1 e2 e3
      generalize L[a]'han = x at g0 g1 g2 g3 hcmp
      obtain ⟨xs, xp, xf, xl⟩ := x
      simp only at g0 g1 g2 g3
      have cL : Hid (∀ V, Calls Try.prog 52 #[.agg #[.int .i64 xs, .int .u64 xp, .int .u64 xf, .int .u64 xl], .agg #[.int .i64 s, .int .u64 p, .int .u64 f, .int .u64 l]] V (RetB (.bool true) V)) := Lib.hid fun V => by
        have := before_any ⟨xs, xp, xf, xl⟩ ⟨s, p, f, l⟩ V
        rw [hcmp] at this
        exact this
      clear hcmp han
      go_wp2_with fail
      refine wp_region_qbn (by kernel_rfl) (by kernel_rfl) (fun kq => ?_); have kq0 := kq (w.heap.size) (by first | omega | (simp; done) | (simp; omega)); have kq1 := kq (g) (by first | omega | (simp; done) | (simp; omega)); clear kq; (repeat (go_big_quiet_step ((go_at_call 52; exact quietB (cL.out _))))); refine wpQuiet_nil ?_; clear kq0 kq1; intro wq hb
      go_wp2_with fail
      go_roundw
      case rel => exact ⟨a + 1, by omega, by go_num, (hb.block _ l4).trans HBK.out, hB.trans (hb.mono hBs)⟩
      case measure => simp [intOf]; omega
    · obtain rfl : a = ps := by omega
      have hcmp := HQ.out han
      have hxe := HX.out han
      obtain ⟨e0, e1, e2, e3⟩ := HL.out a han
      have g0 := (hB.cell (p := ⟨g, a * 4, none⟩) hg).trans e0
      have g1 := (hB.cell (p := ⟨g, a * 4 + 1, none⟩) hg).trans e1
      have g2 := (hB.cell (p := ⟨g, a * 4 + 2, none⟩) hg).trans e2
      have g3 := (hB.cell (p := ⟨g, a * 4 + 3, none⟩) hg).trans e3
      clear e0 e1 e2 e3
      generalize L[a]'han = x at g0 g1 g2 g3 hcmp hxe
      obtain ⟨xs, xp, xf, xl⟩ := x
      simp only at g0 g1 g2 g3
      have cL : Hid (∀ V, Calls Try.prog 52 #[.agg #[.int .i64 xs, .int .u64 xp, .int .u64 xf, .int .u64 xl], .agg #[.int .i64 s, .int .u64 p, .int .u64 f, .int .u64 l]] V (RetB (.bool false) V)) := Lib.hid fun V => by
        have := before_any ⟨xs, xp, xf, xl⟩ ⟨s, p, f, l⟩ V
        rw [hcmp] at this
        exact this
      have hq : ∀ w, (binOp .eql 27 (.agg #[.int .i64 xs, .int .u64 xp, .int .u64 xf, .int .u64 xl]) (.agg #[.int .i64 s, .int .u64 p, .int .u64 f, .int .u64 l])).run Try.prog w = .ok (.bool true) w := fun w => by
        have := eqlE ⟨xs, xp, xf, xl⟩ ⟨s, p, f, l⟩ w
        rw [decide_eq_true hxe] at this
        exact this
      clear hcmp han hxe
      go_wp2_with fail
      refine wp_region_qbn (by kernel_rfl) (by kernel_rfl) (fun kq => ?_); have kq0 := kq (w.heap.size) (by first | omega | (simp; done) | (simp; omega)); have kq1 := kq (g) (by first | omega | (simp; done) | (simp; omega)); clear kq; (repeat (go_big_quiet_step ((go_at_call 52; exact quietB (cL.out _))))); refine wpQuiet_nil ?_; clear kq0 kq1; intro wq hb
      have gk0 := (hb.cell (p := ⟨g, a * 4, none⟩) hgV).trans g0; have gk1 := (hb.cell (p := ⟨g, a * 4 + 1, none⟩) hgV).trans g1; have gk2 := (hb.cell (p := ⟨g, a * 4 + 2, none⟩) hgV).trans g2; have gk3 := (hb.cell (p := ⟨g, a * 4 + 3, none⟩) hgV).trans g3; clear g0 g1 g2 g3; have g0 := gk0; have g1 := gk1; have g2 := gk2; have g3 := gk3; clear gk0 gk1 gk2 gk3; have hB2 := hB.trans (hb.mono hBs); have hBs2 := hB2.size; have hblk2 := (hb.block w.heap.size l4).trans HBK.out; clear hBs hB HBK l4 f4 n4; try clear hb; obtain ⟨wr, rfl⟩ : ∃ wr, wr = wq := ⟨_, rfl⟩; have hB := hB2; have hBs := hBs2; obtain ⟨c4, f4, l4, n4⟩ := block_cells hblk2; have HBK := Lib.hid hblk2; have d0 := c4 0 _ rfl; have d1 := c4 1 _ rfl; have d2 := c4 2 _ rfl; have d3 := c4 3 _ rfl; clear c4 hblk2 hB2 hBs2; have hgV : g < wr.heap.size := by omega
      go_wp2_with fail
      refine wp_region_qbn (by kernel_rfl) (by kernel_rfl) (fun kq => ?_); have kq0 := kq (w.heap.size) (by first | omega | (simp; done) | (simp; omega)); have kq1 := kq (g) (by first | omega | (simp; done) | (simp; omega)); clear kq; (repeat (go_big_quiet_step (fail))); refine wpQuiet_nil ?_; clear kq0 kq1; intro wq hb
      have gk0 := (hb.cell (p := ⟨g, a * 4, none⟩) hgV).trans g0; have gk1 := (hb.cell (p := ⟨g, a * 4 + 1, none⟩) hgV).trans g1; have gk2 := (hb.cell (p := ⟨g, a * 4 + 2, none⟩) hgV).trans g2; have gk3 := (hb.cell (p := ⟨g, a * 4 + 3, none⟩) hgV).trans g3; clear g0 g1 g2 g3; have g0 := gk0; have g1 := gk1; have g2 := gk2; have g3 := gk3; clear gk0 gk1 gk2 gk3; have hB2 := hB.trans (hb.mono hBs); have hBs2 := hB2.size; have hblk2 := (hb.block w.heap.size l4).trans HBK.out; clear hBs hB HBK l4 f4 n4; try clear hb; obtain ⟨wr, rfl⟩ : ∃ wr, wr = wq := ⟨_, rfl⟩; have hB := hB2; have hBs := hBs2; obtain ⟨c4, f4, l4, n4⟩ := block_cells hblk2; have HBK := Lib.hid hblk2; have d0 := c4 0 _ rfl; have d1 := c4 1 _ rfl; have d2 := c4 2 _ rfl; have d3 := c4 3 _ rfl; clear c4 hblk2 hB2 hBs2; have hgV : g < wr.heap.size := by omega
      clear hq cL HL HP HQ
      go_wp2_with fail
      go_ret
      exact ⟨_, rfl, HB2.out.below hB, hB⟩

set_option maxRecDepth 100000 in
set_option maxHeartbeats 4000000 in
theorem rwith_end (g cap : Nat) (L : List E) (e : E) (w : World) (base : Nat) (hb0 : base ≤ w.heap.size) (hg : g < w.heap.size) (hF : ∀ (j : Nat) u, (flatE L)[j]? = some u → w.cell? ⟨g, j, none⟩ = some u)
    (hlen : L.length ≤ 1000) (hcap : L.length ≤ cap) (hps : posE L e = L.length) :
    Calls Try.prog 24 #[.slice (some ⟨g, 0, none⟩) L.length cap, entV e] w (RetLst base (L ++ [e]) w) := by
  obtain ⟨i0, hi0, hz0, hz1, hz2⟩ := info_parts infoE
  have HB := Lib.hid hb0
  have HL : Hid (∀ (j : Nat) (hj : j < L.length), w.cell? ⟨g, j * 4, none⟩ = some (.int .i64 L[j].space) ∧ w.cell? ⟨g, j * 4 + 1, none⟩ = some (.int .u64 L[j].page) ∧ w.cell? ⟨g, j * 4 + 2, none⟩ = some (.int .u64 L[j].first) ∧ w.cell? ⟨g, j * 4 + 3, none⟩ = some (.int .u64 L[j].last)) := Lib.hid (rowcells hF)
  have HF := Lib.hid hF
  have HP := Lib.hid (posE_lt L e)
  have hne : g ≠ w.heap.size := Nat.ne_of_lt hg
  obtain ⟨n, hn⟩ : ∃ n, n = L.length := ⟨_, rfl⟩
  have HN := Lib.hid hn
  rw [← hn] at hlen hps hcap ⊢
  obtain ⟨ps, hps2⟩ : ∃ ps, posE L e = ps := ⟨_, rfl⟩
  rw [hps2] at HP hps
  have HPS := Lib.hid hps2
  clear hn hF hps2 hb0
  obtain ⟨R, hR⟩ : ∃ R, R = L ++ [e] := ⟨_, rfl⟩
  have HR := Lib.hid hR
  rw [← hR]
  clear hR
  obtain ⟨s, p, f, l⟩ := e
  simp only [entV]
  go_enter Try.func24, Try.ntmps24
  go_wp2_with fail
  go_loopw [5] (fun i V => ∃ a : Nat, a ≤ ps ∧ i = .int .i64 (a : Nat) ∧ V.heap[w.heap.size]? = some (.cells #[.int .i64 s, .int .u64 p, .int .u64 f, .int .u64 l] 27) ∧ Below w.heap.size w V) (fun i _ => (ps - (intOf i)).toNat)
  case atStart => exact ⟨0, by omega, rfl, (by (repeat (first | assumption | (refine heap_new _ _ _ ?_; simp; done) | refine heap_old _ _ _ _ ?_))), by repeat' (first | with_reducible exact Below.refl _ _ | with_reducible assumption | with_reducible apply below_drewN | with_reducible apply Below.drew | with_reducible refine Below.setCell ?_ ?_ _ | with_reducible refine Below.alloc ?_ ?_ _ | omega | (simp; done) | (simp; omega))⟩
  case round =>
    obtain ⟨a, ha, rfl, hblk, hB⟩ := hrel
    have hBs := hB.size
    obtain ⟨c4, f4, l4, n4⟩ := block_cells hblk
    have d0 := c4 0 _ rfl
    have d1 := c4 1 _ rfl
    have d2 := c4 2 _ rfl
    have d3 := c4 3 _ rfl
    have hgV : g < wr.heap.size := by omega
    have HBK := Lib.hid hblk
    clear c4 hblk
    by_cases hap : a < ps
    · have han : a < L.length := by have := HN.out; omega
      have hlt : a < n := by omega
      have hcmp := HP.out a han hap
      obtain ⟨e0, e1, e2, e3⟩ := HL.out a han
      have g0 := (hB.cell (p := ⟨g, a * 4, none⟩) hg).trans e0
      have g1 := (hB.cell (p := ⟨g, a * 4 + 1, none⟩) hg).trans e1
      have g2 := (hB.cell (p := ⟨g, a * 4 + 2, none⟩) hg).trans e2
      have g3 := (hB.cell (p := ⟨g, a * 4 + 3, none⟩) hg).trans e3
      clear e0 e1 e2 e3
      generalize L[a]'han = x at g0 g1 g2 g3 hcmp
      obtain ⟨xs, xp, xf, xl⟩ := x
      simp only at g0 g1 g2 g3
      have cL : Hid (∀ V, Calls Try.prog 52 #[.agg #[.int .i64 xs, .int .u64 xp, .int .u64 xf, .int .u64 xl], .agg #[.int .i64 s, .int .u64 p, .int .u64 f, .int .u64 l]] V (RetB (.bool true) V)) := Lib.hid fun V => by
        have := before_any ⟨xs, xp, xf, xl⟩ ⟨s, p, f, l⟩ V
        rw [hcmp] at this
        exact this
      clear hcmp han
      go_wp2_with fail
      refine wp_region_qbn (by kernel_rfl) (by kernel_rfl) (fun kq => ?_); have kq0 := kq (w.heap.size) (by first | omega | (simp; done) | (simp; omega)); have kq1 := kq (g) (by first | omega | (simp; done) | (simp; omega)); clear kq; (repeat (go_big_quiet_step ((go_at_call 52; exact quietB (cL.out _))))); refine wpQuiet_nil ?_; clear kq0 kq1; intro wq hb
      go_wp2_with fail
      go_roundw
      case rel => exact ⟨a + 1, by omega, by go_num, (hb.block _ l4).trans HBK.out, hB.trans (hb.mono hBs)⟩
      case measure => simp [intOf]; omega
    · obtain rfl : a = ps := by omega
      have hd : decide (((a : Nat) : Int) < (n : Int)) = false := by simp; omega
      have hge : n ≤ a := by omega
      obtain rfl : a = n := by omega
      clear hap
      go_wp2_with fail
      refine wp_region_qbn (by kernel_rfl) (by kernel_rfl) (fun kq => ?_); have kq0 := kq (w.heap.size) (by first | omega | (simp; done) | (simp; omega)); have kq1 := kq (g) (by first | omega | (simp; done) | (simp; omega)); clear kq; (repeat (go_big_quiet_step (fail))); refine wpQuiet_nil ?_; clear kq0 kq1; intro wq hb
      have hB2 := hB.trans (hb.mono hBs); have hBs2 := hB2.size; have hblk2 := (hb.block w.heap.size l4).trans HBK.out; clear hBs hB HBK l4 f4 n4; try clear hb; obtain ⟨wr, rfl⟩ : ∃ wr, wr = wq := ⟨_, rfl⟩; have hB := hB2; have hBs := hBs2; obtain ⟨c4, f4, l4, n4⟩ := block_cells hblk2; have HBK := Lib.hid hblk2; have d0 := c4 0 _ rfl; have d1 := c4 1 _ rfl; have d2 := c4 2 _ rfl; have d3 := c4 3 _ rfl; clear c4 hblk2 hB2 hBs2; have hgV : g < wr.heap.size := by omega
      go_wp2_with fail
      refine wp_region_qbn (by kernel_rfl) (by kernel_rfl) (fun kq => ?_); have kq0 := kq (w.heap.size) (by first | omega | (simp; done) | (simp; omega)); have kq1 := kq (g) (by first | omega | (simp; done) | (simp; omega)); clear kq; (repeat (go_big_quiet_step (fail))); refine wpQuiet_nil ?_; clear kq0 kq1; intro wq hb
      have hB2 := hB.trans (hb.mono hBs); have hBs2 := hB2.size; have hblk2 := (hb.block w.heap.size l4).trans HBK.out; clear hBs hB HBK l4 f4 n4; try clear hb; obtain ⟨wr, rfl⟩ : ∃ wr, wr = wq := ⟨_, rfl⟩; have hB := hB2; have hBs := hBs2; obtain ⟨c4, f4, l4, n4⟩ := block_cells hblk2; have HBK := Lib.hid hblk2; have d0 := c4 0 _ rfl; have d1 := c4 1 _ rfl; have d2 := c4 2 _ rfl; have d3 := c4 3 _ rfl; clear c4 hblk2 hB2 hBs2; have hgV : g < wr.heap.size := by omega
      by_cases hcn : cap = a
      · have hcz : cap - a = 0 := by omega
        have HM : Hid ((wr.alloc (.cells #[] 27)).ownsRow wr.heap.size 27 4 (.slice (some ⟨wr.heap.size, 0, none⟩) 0 0) 0 []) := Lib.hid (World.ownsRow_made wr #[] 0 (Nat.le_refl _) (Nat.zero_le _) (by simp))
        have HFL := Lib.hid (flatE_len L)
        clear HL HP
        go_wp2_with (first
          | (at_builtin; (refine wpList_append_gen rfl (.tmp 34) (.tmp 37) 40 rfl wr.heap.size 27 i0 (.agg #[.int .i64 0, .int .u64 0, .int .u64 0, .int .u64 0]) 4 32 Try.underlying40 hi0 hz0 hz1 hz2 rfl (by decide) _ 0 [] rfl HM.out (some ⟨g, 0, none⟩) a _ (flatE L) rfl (fun h => by cases h) (by rw [HFL.out, ← HN.out]) (fun ad h j u hj => by cases h; rw [Addr.add_lit, Nat.zero_add, (hB.alloc hBs _).cell (p := ⟨g, j, none⟩) hg]; exact HF.out j u hj) (flatE_cells L) (by unfold maxLen; omega) (by omega) (by simp) ?_); intro a2 c2 w2 ho hg2 _; (have B2 : Below wr.heap.size wr w2 := (((Below.refl _ wr).alloc (Nat.le_refl _) _).grown hg2 (by simp) (fun k hk => (HM.out.lt k hk).1))); have G2 : Hid (w2.ownsRow wr.heap.size 27 4 (.slice a2 a c2) a (flatE L)) := Lib.hid (by rw [Nat.zero_add] at ho; exact ho); obtain ⟨x2, y2, z2, t2⟩ := block_cells ((B2.block w.heap.size l4).trans HBK.out); have x20 := x2 0 _ rfl; have x21 := x2 1 _ rfl; have x22 := x2 2 _ rfl; have x23 := x2 3 _ rfl; have Bz2 := B2.size; clear x2; clear ho hg2)
          | (at_builtin; (refine wpList_append_gen rfl (.tmp 39) (.tmp 41) 40 rfl wr.heap.size 27 i0 (.agg #[.int .i64 0, .int .u64 0, .int .u64 0, .int .u64 0]) 4 32 Try.underlying40 hi0 hz0 hz1 hz2 rfl (by decide) _ a _ rfl (G2.out.alloc _) (some ⟨w2.heap.size, 0, none⟩) 1 1 (cellsE ⟨s, p, f, l⟩) rfl (fun h => by cases h) rfl (new_cells w2 #[.int .i64 s, .int .u64 p, .int .u64 f, .int .u64 l] _) (cellsE_one _) (by unfold maxLen; omega) (by omega) (by simp; omega) ?_); intro a3 c3 w3 ho hg2 _; (have B3 : Below wr.heap.size wr w3 := ((B2.alloc Bz2 _).grown hg2 (by simp; omega) (fun k hk => (G2.out.lt k hk).1))); have G3 := Lib.hid ho; have Bz3 := B3.size; clear ho hg2)
          | (at_builtin; (refine wpList_append_gen rfl (.tmp 43) (.tmp 46) 40 rfl wr.heap.size 27 i0 (.agg #[.int .i64 0, .int .u64 0, .int .u64 0, .int .u64 0]) 4 32 Try.underlying40 hi0 hz0 hz1 hz2 rfl (by decide) _ (a + 1) _ rfl G3.out _ _ _ [] rfl (fun h => by cases h) (by simp) (fun ad h j u hj => by cases hj) (by simp) (by unfold maxLen; omega) (by omega) (by omega) ?_); intro a4 c4 w4 ho hg2 _; (have B4 : Below wr.heap.size wr w4 := (B3.grown hg2 Bz3 (fun k hk => (G3.out.lt k hk).1))); have G4 := Lib.hid ho; have Bz4 := B4.size; clear ho hg2))
        all_goals
          go_ret
          refine ⟨_, rfl, ?_, hB.trans (B4.mono hBs)⟩
          have h4 := G4.out
          unfold RowE
          refine ownsRow_base ?_ (Nat.le_trans HB.out hBs)
          have hrl : R.length = a + 1 := by have := HN.out; rw [HR.out]; simp; omega
          have hrf : flatE R = flatE L ++ cellsE ⟨s, p, f, l⟩ := by rw [HR.out, flatE_snoc]
          rw [hrl, hrf]
          simpa using h4
      · have HM : Hid ((wr.alloc (.cells #[] 27)).ownsRow wr.heap.size 27 4 (.slice (some ⟨wr.heap.size, 0, none⟩) 0 0) 0 []) := Lib.hid (World.ownsRow_made wr #[] 0 (Nat.le_refl _) (Nat.zero_le _) (by simp))
        have HFL := Lib.hid (flatE_len L)
        clear HL HP
        go_wp2_with (first
          | (at_builtin; (refine wpList_append_gen rfl (.tmp 34) (.tmp 37) 40 rfl wr.heap.size 27 i0 (.agg #[.int .i64 0, .int .u64 0, .int .u64 0, .int .u64 0]) 4 32 Try.underlying40 hi0 hz0 hz1 hz2 rfl (by decide) _ 0 [] rfl HM.out (some ⟨g, 0, none⟩) a _ (flatE L) rfl (fun h => by cases h) (by rw [HFL.out, ← HN.out]) (fun ad h j u hj => by cases h; rw [Addr.add_lit, Nat.zero_add, (hB.alloc hBs _).cell (p := ⟨g, j, none⟩) hg]; exact HF.out j u hj) (flatE_cells L) (by unfold maxLen; omega) (by omega) (by simp) ?_); intro a2 c2 w2 ho hg2 _; (have B2 : Below wr.heap.size wr w2 := (((Below.refl _ wr).alloc (Nat.le_refl _) _).grown hg2 (by simp) (fun k hk => (HM.out.lt k hk).1))); have G2 : Hid (w2.ownsRow wr.heap.size 27 4 (.slice a2 a c2) a (flatE L)) := Lib.hid (by rw [Nat.zero_add] at ho; exact ho); obtain ⟨x2, y2, z2, t2⟩ := block_cells ((B2.block w.heap.size l4).trans HBK.out); have x20 := x2 0 _ rfl; have x21 := x2 1 _ rfl; have x22 := x2 2 _ rfl; have x23 := x2 3 _ rfl; have Bz2 := B2.size; clear x2; clear ho hg2)
          | (at_builtin; (refine wpList_append_gen rfl (.tmp 39) (.tmp 41) 40 rfl wr.heap.size 27 i0 (.agg #[.int .i64 0, .int .u64 0, .int .u64 0, .int .u64 0]) 4 32 Try.underlying40 hi0 hz0 hz1 hz2 rfl (by decide) _ a _ rfl (G2.out.alloc _) (some ⟨w2.heap.size, 0, none⟩) 1 1 (cellsE ⟨s, p, f, l⟩) rfl (fun h => by cases h) rfl (new_cells w2 #[.int .i64 s, .int .u64 p, .int .u64 f, .int .u64 l] _) (cellsE_one _) (by unfold maxLen; omega) (by omega) (by simp; omega) ?_); intro a3 c3 w3 ho hg2 _; (have B3 : Below wr.heap.size wr w3 := ((B2.alloc Bz2 _).grown hg2 (by simp; omega) (fun k hk => (G2.out.lt k hk).1))); have G3 := Lib.hid ho; have Bz3 := B3.size; clear ho hg2)
          | (at_builtin; (refine wpList_append_gen rfl (.tmp 43) (.tmp 46) 40 rfl wr.heap.size 27 i0 (.agg #[.int .i64 0, .int .u64 0, .int .u64 0, .int .u64 0]) 4 32 Try.underlying40 hi0 hz0 hz1 hz2 rfl (by decide) _ (a + 1) _ rfl G3.out _ _ _ [] rfl (fun h => by cases h) (by simp) (fun ad h j u hj => by cases hj) (by simp) (by unfold maxLen; omega) (by omega) (by omega) ?_); intro a4 c4 w4 ho hg2 _; (have B4 : Below wr.heap.size wr w4 := (B3.grown hg2 Bz3 (fun k hk => (G3.out.lt k hk).1))); have G4 := Lib.hid ho; have Bz4 := B4.size; clear ho hg2))
        all_goals
          go_ret
          refine ⟨_, rfl, ?_, hB.trans (B4.mono hBs)⟩
          have h4 := G4.out
          unfold RowE
          refine ownsRow_base ?_ (Nat.le_trans HB.out hBs)
          have hrl : R.length = a + 1 := by have := HN.out; rw [HR.out]; simp; omega
          have hrf : flatE R = flatE L ++ cellsE ⟨s, p, f, l⟩ := by rw [HR.out, flatE_snoc]
          rw [hrl, hrf]
          simpa using h4
/-- THE CONTRACT OF THE REFERENCE's With. -/
theorem rwith_any (base : Nat) (v : Value) (L : List E) (e : E) (w : World) (h : RowE w base v L) (hbase : base ≤ w.heap.size) (hs : SortedE L) (hlen : L.length ≤ 1000) : Calls Try.prog 24 #[v, entV e] w (RetLst base (withE L e) w) := by
  rcases h.form with ⟨rfl, rfl⟩ | ⟨g, cap, rfl, hg, _⟩
  · exact rwith_nil e w base hbase
  · have hcap : L.length ≤ cap := (ownsRow_cap h).1
    have hF : ∀ (j : Nat) u, (flatE L)[j]? = some u → w.cell? ⟨g, j, none⟩ = some u := fun j u hj => by
      have h1 := h
      unfold RowE at h1
      have hj' := (List.getElem?_eq_some_iff.1 hj).1
      rw [flatE_len] at hj'
      rw [h1.cellAt j hj', hj]
    unfold withE
    cases hh : hasE L e with
    | true =>
      obtain ⟨h1, h2⟩ := (hasE_iff hs).1 hh
      rw [if_pos rfl]
      exact rwith_old g cap L e w base h hg hF hlen hcap h1 h2
    | false =>
      rw [if_neg (by decide)]
      by_cases h1 : posE L e < L.length
      · refine rwith_mid g cap L e w base hbase hg hF hlen hcap h1 ?_
        intro h2
        rw [(hasE_iff hs).2 ⟨h1, h2⟩] at hh
        cases hh
      · have h2 : posE L e = L.length := by have := posE_le L e; omega
        rw [h2, List.take_length, List.drop_length]
        exact rwith_end g cap L e w base hbase hg hF hlen hcap h2

end Go.Proofs.Ytcaggboeacgknaa
