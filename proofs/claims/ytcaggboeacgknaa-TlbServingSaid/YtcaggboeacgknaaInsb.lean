/- slices.Insert of one entry into a row of one's own: its contract. -/
import Derived.Test.YtcaggboeacgknaaIns
namespace Go.Proofs.Ytcaggboeacgknaa
open Go.RowKit
set_option linter.unusedSimpArgs false
set_option linter.unusedVariables false

theorem heap_setC {w : World} {b : Nat} {t : TypeId} : ∀ (vs : List Value) (o : Nat) (w : World) (cur : Array Value), w.heap[b]? = some (.cells cur t) → ∃ cur', (w.setCells b o vs).heap[b]? = some (.cells cur' t) ∧ cur'.size = cur.size
  | [], o, w, cur, h => ⟨cur, h, rfl⟩
  | v :: vs, o, w, cur, h => by
    obtain ⟨cur', h1, h2⟩ := heap_setC (w := w) vs (o + 1) (w.setCell ⟨b, o, none⟩ v) _ (heap_setCell_cells h)
    exact ⟨cur', h1, by rw [h2]; simp⟩
theorem below_setC {B b : Nat} (hb : B ≤ b) : ∀ (vs : List Value) (o : Nat) {a w : World}, Below B a w → Below B a (w.setCells b o vs)
  | [], o, a, w, h => h
  | v :: vs, o, a, w, h => below_setC hb vs (o + 1) (h.setCell (p := ⟨b, o, none⟩) hb v)

theorem own_of_cells {w : World} {base g n cap : Nat} {e : TypeId} {size : Nat} {xs : List Value} {cur : Array Value} (h : w.heap[g]? = some (.cells cur e)) (hs : cur.size = cap * size) (hx : xs.length = n * size) (hc : ∀ j, j < n * size → w.cell? ⟨g, j, none⟩ = xs[j]?)
    (hn : n ≤ cap) (hm : cap ≤ maxLen) (hb : base ≤ g) : w.ownsRow base e size (.slice (some ⟨g, 0, none⟩) n cap) n xs := by
  refine ⟨hx, .inr ⟨g, cap, cur, rfl, hb, h, hn, hm, hs, ?_⟩⟩
  have hle : n * size ≤ cap * size := Nat.mul_le_mul_right _ hn
  apply List.ext_getElem?
  intro j
  by_cases hj : j < n * size
  · rw [List.getElem?_take_of_lt hj, ← hc j hj]
    have : w.cell? ⟨g, j, none⟩ = cur[j]? := by simp [World.cell?, h]
    rw [this]
    simp
  · rw [List.getElem?_eq_none (by rw [List.length_take]; omega), List.getElem?_eq_none (by omega)]

/-- What two stores of runs leave, from place to place. -/
theorem two_runs {W : World} {b i n : Nat} {cs vs : List Value} (hi : i ≤ n) (hcl : cs.length = n * 4) (hvl : vs.length = 4) (hsp : ∀ j, j < (n + 1) * 4 → (W.cell? ⟨b, j, none⟩).isSome = true)
    (hc : ∀ j, j < i * 4 → W.cell? ⟨b, j, none⟩ = cs[j]?) : ∀ j, j < (n + 1) * 4 → ((W.setCells b ((i + 1) * 4) (cs.drop (i * 4))).setCells b (i * 4) vs).cell? ⟨b, j, none⟩ = (cs.take (i * 4) ++ vs ++ cs.drop (i * 4))[j]? := by
  intro j hj
  have hdl : (cs.drop (i * 4)).length = (n - i) * 4 := by rw [List.length_drop, hcl]; omega
  have htl : (cs.take (i * 4)).length = i * 4 := by rw [List.length_take, hcl]; omega
  have hsp1 : ∀ k, k < (n + 1) * 4 → ((W.setCells b ((i + 1) * 4) (cs.drop (i * 4))).cell? ⟨b, k, none⟩).isSome = true := fun k hk => isSome_setC b (cs.drop (i * 4)) ((i + 1) * 4) W (fun j hj => hsp _ (by omega)) k (hsp k hk)
  by_cases h1 : j < i * 4
  · rw [World.cell?_setCells_out b vs _ _ ⟨b, j, none⟩ (fun _ _ => by show j < i * 4 ∨ _; omega), World.cell?_setCells_out b _ _ _ ⟨b, j, none⟩ (fun _ _ => by show j < (i + 1) * 4 ∨ _; omega), hc j h1,
      List.append_assoc, List.getElem?_append_left (by omega), List.getElem?_take_of_lt h1]
  · by_cases h2 : j < (i + 1) * 4
    · have := World.cell?_setCells_in b vs (i * 4) (W.setCells b ((i + 1) * 4) (cs.drop (i * 4))) (fun k hk => hsp1 _ (by omega)) (j - i * 4) (by omega)
      rw [show i * 4 + (j - i * 4) = j by omega] at this
      rw [this, List.getElem?_append_left (by rw [List.length_append]; omega), List.getElem?_append_right (by omega), htl]
      rw [List.getElem?_eq_getElem (by omega)]
    · rw [World.cell?_setCells_out b vs _ _ ⟨b, j, none⟩ (fun _ _ => by show _ ∨ i * 4 + vs.length ≤ j; omega)]
      have := World.cell?_setCells_in b (cs.drop (i * 4)) ((i + 1) * 4) W (fun k hk => hsp _ (by omega)) (j - (i + 1) * 4) (by omega)
      rw [show (i + 1) * 4 + (j - (i + 1) * 4) = j by omega] at this
      rw [this, List.getElem?_append_right (by rw [List.length_append]; omega), List.length_append, htl, hvl, show j - (i * 4 + 4) = j - (i + 1) * 4 by omega, List.getElem?_eq_getElem (by omega)]

theorem two_runs2 {W : World} {b i n : Nat} {cs vs : List Value} (hi : i ≤ n) (hcl : cs.length = n * 4) (hvl : vs.length = 4) (hsp : ∀ j, j < (n + 1) * 4 → (W.cell? ⟨b, j, none⟩).isSome = true)
    (hc : ∀ j, j < i * 4 → W.cell? ⟨b, j, none⟩ = cs[j]?) : ∀ j, j < (n + 1) * 4 → (((W.setCells b (i * 4) vs).drew).setCells b ((i + 1) * 4) (cs.drop (i * 4))).cell? ⟨b, j, none⟩ = (cs.take (i * 4) ++ vs ++ cs.drop (i * 4))[j]? := by
  intro j hj
  have hdl : (cs.drop (i * 4)).length = (n - i) * 4 := by rw [List.length_drop, hcl]; omega
  have htl : (cs.take (i * 4)).length = i * 4 := by rw [List.length_take, hcl]; omega
  have hsp1 : ∀ k, k < (n + 1) * 4 → (((W.setCells b (i * 4) vs).drew).cell? ⟨b, k, none⟩).isSome = true := fun k hk => isSome_setC b vs (i * 4) W (fun j hj => hsp _ (by omega)) k (hsp k hk)
  by_cases h2 : (i + 1) * 4 ≤ j
  · have := World.cell?_setCells_in b (cs.drop (i * 4)) ((i + 1) * 4) ((W.setCells b (i * 4) vs).drew) (fun k hk => hsp1 _ (by omega)) (j - (i + 1) * 4) (by omega)
    rw [show (i + 1) * 4 + (j - (i + 1) * 4) = j by omega] at this
    rw [this, List.getElem?_append_right (by rw [List.length_append]; omega), List.length_append, htl, hvl, show j - (i * 4 + 4) = j - (i + 1) * 4 by omega, List.getElem?_eq_getElem (by omega)]
  · rw [World.cell?_setCells_out b _ _ _ ⟨b, j, none⟩ (fun _ _ => by show j < (i + 1) * 4 ∨ _; omega)]
    show (W.setCells b (i * 4) vs).cell? ⟨b, j, none⟩ = _
    by_cases h1 : j < i * 4
    · rw [World.cell?_setCells_out b vs _ _ ⟨b, j, none⟩ (fun _ _ => by show j < i * 4 ∨ _; omega), hc j h1,
        List.append_assoc, List.getElem?_append_left (by omega), List.getElem?_take_of_lt h1]
    · have := World.cell?_setCells_in b vs (i * 4) W (fun k hk => hsp _ (by omega)) (j - i * 4) (by omega)
      rw [show i * 4 + (j - i * 4) = j by omega] at this
      rw [this, List.getElem?_append_left (by rw [List.length_append]; omega), List.getElem?_append_right (by omega), htl, List.getElem?_eq_getElem (by omega)]

/-- The call returns a row of its own, on what was owned from 'base' on. -/
def RetIns (base : Nat) (L : List E) (w : World) (e : Ending) (w' : World) : Prop := ∃ v', e = .returned v' ∧ RowE w' base v' L ∧ Below base w w' ∧ w.heap.size ≤ w'.heap.size

theorem flatE_ins (L : List E) (i : Nat) (e : E) : (flatE L).take (i * 4) ++ cellsE e ++ (flatE L).drop (i * 4) = flatE (L.take i ++ e :: L.drop i) := by
  rw [flatE_take, flatE_drop, flatE_append, flatE_cons, List.append_assoc]

theorem ins_len (L : List E) (i : Nat) (e : E) (hi : i ≤ L.length) : (L.take i ++ e :: L.drop i).length = L.length + 1 := by simp; omega

set_option maxRecDepth 100000 in
set_option maxHeartbeats 4000000 in
theorem ins_end (base : Nat) (v : Value) (L : List E) (e : E) (w : World) (hown : RowE w base v L) (hbase : base ≤ w.heap.size) (hlen : L.length ≤ 1000) (vb : Nat)
    (hvb : w.heap[vb]? = some (.cells (cellsE e).toArray 27)) :
    Calls Try.prog 50 #[v, .int .i64 (L.length : Nat), .slice (some ⟨vb, 0, none⟩) 1 1] w (RetIns base (L ++ [e]) w) := by
  obtain ⟨i0, hi0, hz0, hz1, hz2⟩ := info_parts infoE
  have HO := Lib.hid hown
  have HV : Hid (∀ j u, (cellsE e)[j]? = some u → w.cell? ((⟨vb, 0, none⟩ : Addr).add j) = some u) := Lib.hid fun j u hj => by
    rw [Addr.add_lit, Nat.zero_add]
    simp [World.cell?, hvb, hj]
  unfold RowE at hown
  obtain ⟨ao, cap, rfl⟩ := ownsRow_form hown
  have hcp := ownsRow_cap hown
  have hno : ao = none → L.length = 0 ∧ cap = 0 := fun h => by subst h; exact ownsRow_none hown
  clear hown hvb
  cases ao with
  | none =>
    obtain ⟨h0, rfl⟩ := hno rfl
    rw [h0]
    obtain rfl := List.eq_nil_of_length_eq_zero h0
    go_enter Try.func50, Try.ntmps50
    go_wp2_with (at_builtin; refine wpList_append_gen rfl (.tmp 23) (.tmp 24) 40 rfl base 27 i0 (.agg #[.int .i64 0, .int .u64 0, .int .u64 0, .int .u64 0]) 4 32 Try.underlying40 hi0 hz0 hz1 hz2 rfl (by decide) _ _ _ rfl HO.out (some ⟨vb, 0, none⟩) 1 1 (cellsE e) rfl (fun h => (by cases h)) rfl (fun ad h => (by cases h; exact HV.out)) (by have := flatE_cells [e]; simpa [flatE] using this) (by unfold maxLen; simp) (by simp) hbase ?_; intro a2 c2 w2 ho hg _; have G2 := Lib.hid ho; have B2 := Lib.hid ((Below.refl base w).grown hg hbase (fun k h => (HO.out.lt k h).1)); have hgs := hg.size; clear ho hg)
    go_ret
    exact ⟨_, rfl, by have := G2.out; simpa [RowE, flatE] using this, B2.out, hgs⟩
  | some ad =>
    obtain ⟨g, rfl⟩ : ∃ g, ad = ⟨g, 0, none⟩ := by
      have := HO.out
      unfold RowE at this
      rcases this.2 with ⟨hv, _⟩ | ⟨g, c, cur, hv, _⟩
      · cases hv
      · simp only [Value.slice.injEq, Option.some.injEq] at hv
        exact ⟨g, hv.1⟩
    obtain ⟨n, hn⟩ : ∃ n, n = L.length := ⟨_, rfl⟩
    have HN := Lib.hid hn
    rw [← hn] at hlen hcp HO ⊢
    have HO2 : Hid (w.ownsRow base 27 4 (.slice (some ⟨g, 0, none⟩) n cap) n (flatE L)) := Lib.hid (by have := HO.out; unfold RowE at this; rw [← hn] at this; exact this)
    clear hn hno HO
    go_enter Try.func50, Try.ntmps50
    go_wp2_with (at_builtin; refine wpList_append_gen rfl (.tmp 23) (.tmp 24) 40 rfl base 27 i0 (.agg #[.int .i64 0, .int .u64 0, .int .u64 0, .int .u64 0]) 4 32 Try.underlying40 hi0 hz0 hz1 hz2 rfl (by decide) _ _ _ rfl HO2.out (some ⟨vb, 0, none⟩) 1 1 (cellsE e) rfl (fun h => (by cases h)) rfl (fun ad h => (by cases h; exact HV.out)) (by have := flatE_cells [e]; simpa [flatE] using this) (by unfold maxLen; omega) (by omega) hbase ?_; intro a2 c2 w2 ho hg _; have G2 := Lib.hid ho; have B2 := Lib.hid ((Below.refl base w).grown hg hbase (fun k h => (HO2.out.lt k h).1)); have hgs := hg.size; clear ho hg)
    all_goals
      go_ret
      exact ⟨_, rfl, by have := G2.out; unfold RowE; rw [flatE_snoc, List.length_append, ← HN.out]; exact this, B2.out, hgs⟩

theorem ins_mid (base : Nat) (v : Value) (L : List E) (i : Nat) (e : E) (w : World) (hown : RowE w base v L) (hbase : base ≤ w.heap.size) (hi : i < L.length) (hlen : L.length ≤ 1000) (vb : Nat)
    (hvb : w.heap[vb]? = some (.cells (cellsE e).toArray 27)) (hvn : some vb ≠ v.ownBlock) :
    Calls Try.prog 50 #[v, .int .i64 (i : Nat), .slice (some ⟨vb, 0, none⟩) 1 1] w (RetIns base (L.take i ++ e :: L.drop i) w) := by
  have h1 := hown
  unfold RowE at h1
  obtain ⟨g, cap, rfl, hnc, hcm, hbg, hgs, hcell⟩ := ownsRow_shape h1 (by omega)
  obtain ⟨cur, hcur, hcs⟩ : ∃ cur, w.heap[g]? = some (.cells cur 27) ∧ cur.size = cap * 4 := by
    rcases h1.2 with ⟨hv, _⟩ | ⟨g', cap', cur, hv, _, hg, _, _, hs, _⟩
    · cases hv
    · simp only [Value.slice.injEq, Option.some.injEq, Addr.mk.injEq, and_true, true_and] at hv
      obtain ⟨rfl, rfl⟩ := hv
      exact ⟨cur, hg, hs⟩
  have hgv : vb ≠ g := fun h => hvn (by rw [h]; rfl)
  have hfl := flatE_len L
  have hvs : ∀ j u, (cellsE e)[j]? = some u → w.cell? ⟨vb, j, none⟩ = some u := fun j u hj => by simp [World.cell?, hvb, hj]
  have hcs' : ∀ j u, (flatE L)[j]? = some u → w.cell? ⟨g, j, none⟩ = some u := fun j u hj => by
    have hj' := (List.getElem?_eq_some_iff.1 hj).1
    rw [hcell j (by omega), hj]
  have h1v : ∀ u ∈ cellsE e, u.oneCell' = true := by have := flatE_cells [e]; simpa [flatE] using this
  by_cases hroom : L.length + 1 ≤ cap
  · have hsp : ∀ j, j < (L.length + 1) * 4 → (w.cell? ⟨g, j, none⟩).isSome = true := fun j hj => by
      have : j < cur.size := by omega
      simp [World.cell?, hcur, this]
    refine (ins_shift g L.length cap i vb (flatE L) (cellsE e) w hi hroom (by unfold maxLen at hcm; omega) hgv hfl rfl hcs' hsp (fun j _ => by simp [World.frozen?, hcur]) hvs (flatE_cells L) h1v 27 27 4 cur.size
      (by simp [World.shape?, hvb, cellsE]) (by simp [World.shape?, hcur]) (by omega) (by simp [World.frozen?, hvb]) (by simp [World.frozen?, hvb])).mono ?_
    rintro x w' ⟨rfl, rfl⟩
    obtain ⟨c1, k1, k2⟩ := heap_setC (w := w) ((flatE L).drop (i * 4)) ((i + 1) * 4) w.drew cur hcur
    obtain ⟨c2, k3, k4⟩ := heap_setC (w := w) (cellsE e) (i * 4) _ c1 k1
    have BB : Below base w ((w.drew.setCells g ((i + 1) * 4) ((flatE L).drop (i * 4))).setCells g (i * 4) (cellsE e)) := below_setC hbg _ _ (below_setC hbg _ _ (by repeat' (first | with_reducible exact Below.refl _ _ | with_reducible assumption | with_reducible apply below_drewN | with_reducible apply Below.drew | with_reducible refine Below.setCell ?_ ?_ _ | with_reducible refine Below.alloc ?_ ?_ _ | omega | (simp; done) | (simp; omega))))
    refine ⟨_, rfl, ?_, BB, ?_⟩
    · unfold RowE
      rw [← flatE_ins, ins_len L i e (by omega)]
      exact own_of_cells k3 (by omega) (by simp [hfl, cellsE]; omega) (two_runs (W := w.drew) (by omega) hfl rfl hsp (fun j hj => by show w.cell? _ = _; rw [hcell j (by omega)])) hroom hcm hbg
    · exact BB.size
  · refine (ins_grow g L.length cap i vb (flatE L) (cellsE e) w hi hnc (by omega) hlen hfl rfl hcs' hvs (flatE_cells L) h1v).mono ?_
    rintro x w' ⟨rfl, rfl⟩
    have hGn : L.length + 1 ≤ grownCap w (L.length + 1) cap 27 := grownCap_ge w _ _ _
    have hGm : grownCap w (L.length + 1) cap 27 ≤ maxLen := grownCap_le_maxLen w (L.length + 1) cap 27 (by unfold maxLen; omega)
    generalize grownCap w (L.length + 1) cap 27 = G at hGn hGm ⊢
    obtain ⟨ROW, hROW⟩ : ∃ ROW : Array Value, ROW = ((flatE L).take (i * 4)).toArray ++ Builtin.zeroCells (Value.agg #[.int .i64 0, .int .u64 0, .int .u64 0, .int .u64 0]).cells (L.length + 1 - i) ++ Builtin.zeroCells (Value.agg #[.int .i64 0, .int .u64 0, .int .u64 0, .int .u64 0]).cells (G - (L.length + 1)) := ⟨_, rfl⟩
    have h4 : (Value.agg #[.int .i64 0, .int .u64 0, .int .u64 0, .int .u64 0]).cells.size = 4 := rfl
    have hRs : ROW.size = G * 4 := by
      rw [hROW]
      simp only [Array.size_append, List.size_toArray, List.length_take, size_zeroCells, h4, hfl]
      omega
    have hRc : ∀ j, j < i * 4 → ROW[j]? = (flatE L)[j]? := fun j hj => by
      rw [hROW, Array.append_assoc, Array.getElem?_append_left (by simp; omega)]
      simp [hj]
    rw [← hROW]
    have hk0 : ((w.alloc (.cells ROW 27)).drew).heap[w.heap.size]? = some (.cells ROW 27) := heap_new w _ _ rfl
    obtain ⟨c1, k1, k2⟩ := heap_setC (w := w) (cellsE e) (i * 4) _ ROW hk0
    obtain ⟨c2, k3, k4⟩ := heap_setC (w := w) ((flatE L).drop (i * 4)) ((i + 1) * 4) (((w.alloc (.cells ROW 27)).drew.setCells w.heap.size (i * 4) (cellsE e)).drew) c1 k1
    have hcl : ∀ j, ((w.alloc (.cells ROW 27)).drew).cell? ⟨w.heap.size, j, none⟩ = ROW[j]? := fun j => World.cell?_alloc_at (w := w) ROW _ w.heap.size j rfl
    have hsp : ∀ j, j < (L.length + 1) * 4 → (((w.alloc (.cells ROW 27)).drew).cell? ⟨w.heap.size, j, none⟩).isSome = true := fun j hj => by
      rw [hcl, Array.getElem?_eq_getElem (by omega)]
      rfl
    have B0 : Below base w ((w.alloc (.cells ROW 27)).drew) := by repeat' (first | with_reducible exact Below.refl _ _ | with_reducible assumption | with_reducible apply below_drewN | with_reducible apply Below.drew | with_reducible refine Below.setCell ?_ ?_ _ | with_reducible refine Below.alloc ?_ ?_ _ | omega | (simp; done) | (simp; omega))
    have B1 : Below base w (((w.alloc (.cells ROW 27)).drew.setCells w.heap.size (i * 4) (cellsE e)).drew) := (below_setC hbase _ _ B0).drew
    have BB := below_setC hbase ((flatE L).drop (i * 4)) ((i + 1) * 4) B1
    refine ⟨_, rfl, ?_, BB, BB.size⟩
    unfold RowE
    rw [← flatE_ins, ins_len L i e (by omega)]
    exact own_of_cells k3 (by omega) (by simp [hfl, cellsE]; omega) (two_runs2 (W := (w.alloc (.cells ROW 27)).drew) (by omega) hfl rfl hsp (fun j hj => by rw [← hRc j hj]; exact hcl j)) hGn hGm hbase

/-- THE CONTRACT OF slices.Insert AT ONE ENTRY. -/
theorem insert_any (base : Nat) (v : Value) (L : List E) (i : Nat) (e : E) (w : World) (hown : RowE w base v L) (hbase : base ≤ w.heap.size) (hi : i ≤ L.length) (hlen : L.length ≤ 1000) (vb : Nat)
    (hvb : w.heap[vb]? = some (.cells (cellsE e).toArray 27)) (hvn : some vb ≠ v.ownBlock) :
    Calls Try.prog 50 #[v, .int .i64 (i : Nat), .slice (some ⟨vb, 0, none⟩) 1 1] w (RetIns base (L.take i ++ e :: L.drop i) w) := by
  by_cases h : i < L.length
  · exact ins_mid base v L i e w hown hbase h hlen vb hvb hvn
  · obtain rfl : i = L.length := by omega
    have := ins_end base v L e w hown hbase hlen vb hvb
    rw [List.take_length, List.drop_length]
    exact this

end Go.Proofs.Ytcaggboeacgknaa
