/- Contract of the law's played: a buffer and the document's list hold the same entries. (Written by gen_playw.py.) -/
import Derived.Test.YtcaggboeacgknaaOpw
import Derived.Test.YtcaggboeacgknaaSorts
import Derived.Test.YtcaggboeacgknaaFiltb
import Derived.Test.YtcaggboeacgknaaWout
import Derived.Deep.RegionHeld3
import Derived.Deep.DeepCutAuto
namespace Go.Proofs.Ytcaggboeacgknaa
open Go.RowKit
set_option linter.unusedSimpArgs false
set_option linter.unusedVariables false

/-- A change of a list. -/
def stepE (L : List E) (p : P9) : List E :=
  if p.1 = 0 then withE L p.2.1 else if p.1 = 1 then L.filter (fun x => !decide (x = p.2.1)) else if p.1 = 2 then L.filter (fun x => !takesB p.2.2 x) else L
def playE (l : List P9) : List E := l.foldl stepE []
theorem playE_take (l : List P9) (j : Nat) (h : j < l.length) : playE (l.take (j + 1)) = stepE (playE (l.take j)) l[j] := by
  unfold playE
  rw [List.take_succ_eq_append_getElem h, List.foldl_append]
  rfl
theorem stepE_sorted {L : List E} (h : SortedE L) (p : P9) : SortedE (stepE L p) := by
  unfold stepE
  repeat' split
  · exact sorted_with h _
  · exact sorted_filter h _
  · exact sorted_filter h _
  · exact h
theorem stepE_ok {L : List E} (h : ∀ x ∈ L, x.ok) (p : P9) (hp : okP p) : ∀ x ∈ stepE L p, x.ok := by
  unfold stepE
  repeat' split
  · intro x hx
    rcases mem_with.1 hx with hx | rfl
    · exact h x hx
    · exact hp.2.1
  · exact fun x hx => h x (List.mem_filter.1 hx).1
  · exact fun x hx => h x (List.mem_filter.1 hx).1
  · exact h
theorem stepE_len (L : List E) (p : P9) : (stepE L p).length ≤ L.length + 1 := by
  unfold stepE
  repeat' split
  · exact len_withE _ _
  · exact Nat.le_succ_of_le (List.length_filter_le _ _)
  · exact Nat.le_succ_of_le (List.length_filter_le _ _)
  · omega
theorem playE_facts (l : List P9) (h : ∀ p ∈ l, okP p) : ∀ j, j ≤ l.length → SortedE (playE (l.take j)) ∧ (∀ x ∈ playE (l.take j), x.ok) ∧ (playE (l.take j)).length ≤ j
  | 0, _ => by simp [playE, sorted_nil]
  | j + 1, hj => by
    obtain ⟨a, b, c⟩ := playE_facts l h j (by omega)
    rw [playE_take l j hj]
    exact ⟨stepE_sorted a _, stepE_ok b _ (h _ (List.getElem_mem hj)), by have := stepE_len (playE (l.take j)) l[j]; omega⟩
theorem playE_all (l : List P9) (h : ∀ p ∈ l, okP p) : SortedE (playE (l.take 50)) ∧ (∀ x ∈ playE (l.take 50), x.ok) ∧ (playE (l.take 50)).length ≤ 50 := by
  rcases Nat.le_total 50 l.length with h5 | h5
  · exact playE_facts l h 50 h5
  · have := playE_facts l h l.length (Nat.le_refl _)
    rw [List.take_length] at this
    rw [List.take_of_length_le h5]
    exact ⟨this.1, this.2.1, by omega⟩

/-- The call returns a buffer and a list, both of the entries L. -/
def RetPlay (L : List E) (w : World) (e : Ending) (w' : World) : Prop :=
  ∃ ao cap ao' cap', e = .returned (.tuple #[.agg #[.slice ao L.length cap], .slice ao' L.length cap']) ∧ RowE w' w.heap.size (.slice ao L.length cap) L ∧ RowE w' w.heap.size (.slice ao' L.length cap') L ∧ Below w.heap.size w w'

theorem RowE.put {w : World} {base : Nat} {v : Value} {L : List E} (h : RowE w base v L) {B : Nat} {cs : Array Value} {fz : Nat × Nat} (hB : w.heap[B]? = some (.cells cs 42 fz)) (o : Nat) (u : Value) : RowE (w.setCell ⟨B, o, none⟩ u) base v L :=
  ownsRow_set_type h hB (by decide) o u
theorem retBuf_out {base : Nat} {L : List E} {w w' : World} {e : Ending} (h : RetBuf base L w e w') : ∃ ao cap, e = .returned (.agg #[.slice ao L.length cap]) ∧ RowE w' base (.slice ao L.length cap) L ∧ Below w.heap.size w w' := by
  obtain ⟨v, rfl, hr, hb⟩ := h
  obtain ⟨ao, cap, rfl⟩ := ownsRow_form hr
  exact ⟨ao, cap, rfl, hr, hb⟩
theorem retLst_out {base : Nat} {L : List E} {w w' : World} {e : Ending} (h : RetLst base L w e w') : ∃ ao cap, e = .returned (.slice ao L.length cap) ∧ RowE w' base (.slice ao L.length cap) L ∧ Below w.heap.size w w' := by
  obtain ⟨v, rfl, hr, hb⟩ := h
  obtain ⟨ao, cap, rfl⟩ := ownsRow_form hr
  exact ⟨ao, cap, rfl, hr, hb⟩
set_option maxRecDepth 100000 in
set_option maxHeartbeats 4000000 in
theorem play9_any (ao : Option Addr) (n cap : Nat) (l : List P9) (w : World) (hl : Atr cellsP w ao l) (hn : n = l.length) (hok : ∀ p ∈ l, okP p) :
    Calls Try.prog 27 #[.slice ao n cap] w (RetPlay (playE (l.take 50)) w) := by
  have HL := Lib.hid hl
  have HN := Lib.hid hn
  have HK := Lib.hid hok
  have HF := Lib.hid (playE_facts l hok)
  clear hl hn hok
  go_enter Try.func27, Try.ntmps27
  go_wp2_with fail
  go_loopw [5, 6] (fun o i wr => ∃ (j : Nat) (L : List E) (a1 a2 : Option Addr) (p1 p2 : Nat), i = .int .i64 j ∧ j ≤ n ∧ j ≤ 50 ∧ L = playE (l.take j) ∧ o = .slice a2 L.length p2 ∧
    RowE wr w.heap.size (.slice a1 L.length p1) L ∧ RowE wr w.heap.size (.slice a2 L.length p2) L ∧ Below w.heap.size w wr ∧
    wr.heap[w.heap.size]? = some (.cells #[.slice none 0 0] 42) ∧ wr.heap[w.heap.size + 1]? = some (.cells #[.slice a1 L.length p1] 42)) (fun _ i _ => 50 - (intOf i).toNat)
  case atStart => exact ⟨0, [], none, none, 0, 0, rfl, by omega, by omega, rfl, rfl, RowE.nil _ _, RowE.nil _ _, by repeat' (first | with_reducible exact Below.refl _ _ | with_reducible assumption | with_reducible apply below_drewN | with_reducible apply Below.drew | with_reducible refine Below.setCell ?_ ?_ _ | with_reducible refine Below.alloc ?_ ?_ _ | omega | (simp; done) | (simp; omega)), by (repeat (first | assumption | (refine heap_new _ _ _ ?_; simp; done) | refine heap_old _ _ _ _ ?_)), by (repeat (first | assumption | (refine heap_new _ _ _ ?_; simp; done) | refine heap_old _ _ _ _ ?_))⟩
  case round =>
    obtain ⟨j, L, a1, a2, p1, p2, rfl, hj, hj5, hL, rfl, h1, h2, hB, hb1, hb2⟩ := hrel
    have hjl : j ≤ l.length := by have := HN.out; omega
    obtain ⟨hs, hxo, hlen⟩ := HF.out j hjl
    rw [← hL] at hs hxo hlen
    have HO := Lib.hid h2
    have HM := Lib.hid h1
    have HL1 := Lib.hid hL
    have HS := Lib.hid hs
    have HXO := Lib.hid hxo
    have G1 := Lib.hid hb1
    have G2 := Lib.hid hb2
    have hBs := hB.size
    obtain ⟨c1, f1, l1, n1⟩ := block_cells hb1
    obtain ⟨c2, f2, l2, n2⟩ := block_cells hb2
    have d0 := c2 0 _ rfl
    have d2 := c1 0 _ rfl
    clear h1 h2 hL hb1 hb2 c1 c2 hs hxo hjl
    by_cases hlt : j < n ∧ j < 50
    · obtain ⟨hlt1, hlt2⟩ := hlt
      have hj1 : j < l.length := by rw [← HN.out]; exact hlt1
      obtain ⟨ad, rfl⟩ : ∃ ad, ao = some ad := by
        cases ao with
        | some ad => exact ⟨ad, rfl⟩
        | none => have := HL.out.1 rfl; rw [this] at hj1; simp at hj1
      have T1 := Lib.hid (playE_take l j hj1)
      rw [← HL1.out] at T1
      have HP := Lib.hid (HK.out _ (List.getElem_mem hj1))
      have HPR : Hid (∀ W, Below w.heap.size w W → ∀ (i : Nat) (u : Value), (cellsP (l[j]'hj1))[i]? = some u → W.cell? ((ad.add (j * 8)).add i) = some u) := Lib.hid fun W h i u hu => Atr.at (f := cellsP) (fun _ => rfl) (HL.out.below h) j hj1 i u hu
      generalize l[j]'hj1 = p at T1 HP HPR
      obtain ⟨k, ⟨s, p, f, l'⟩, ⟨fk, fp, fs⟩⟩ := p
      have e0 : wr.cell? (ad.add (j * 8)) = some (.int .i64 k) := HPR.out _ hB 0 _ rfl
      simp only [stepE] at T1
      clear hj1
      by_cases k0 : k = 0
      · subst k0
        simp only [if_true, if_false] at T1
        go_wp2_with fail
        have cA : Hid (∀ W, RowE W w.heap.size (.slice a1 L.length p1) L → w.heap.size ≤ W.heap.size → Calls Try.prog 23 #[.agg #[.slice a1 L.length p1], .agg #[.int .i64 s, .int .u64 p, .int .u64 f, .int .u64 l']] W (RetBuf w.heap.size (withE L ⟨s, p, f, l'⟩) W)) := Lib.hid fun W h hz => bwith_any _ _ L ⟨s, p, f, l'⟩ W h hz HS.out (by omega)
        have cB : Hid (∀ W, RowE W w.heap.size (.slice a2 L.length p2) L → w.heap.size ≤ W.heap.size → Calls Try.prog 24 #[.slice a2 L.length p2, .agg #[.int .i64 s, .int .u64 p, .int .u64 f, .int .u64 l']] W (RetLst w.heap.size (withE L ⟨s, p, f, l'⟩) W)) := Lib.hid fun W h hz => rwith_any _ _ L ⟨s, p, f, l'⟩ W h hz HS.out (by omega)
        generalize (withE L ⟨s, p, f, l'⟩) = K at cA cB T1
        clear HP HL1 e0 HN HF HK HXO HS
        have z0 : wr.cell? ⟨(ad.add (j * 8)).block, (ad.add (j * 8)).off + 1, none⟩ = some (.int .i64 s) := HPR.out _ hB 1 _ rfl; have z1 : wr.cell? ⟨(ad.add (j * 8)).block, (ad.add (j * 8)).off + 2, none⟩ = some (.int .u64 p) := HPR.out _ hB 2 _ rfl; have z2 : wr.cell? ⟨(ad.add (j * 8)).block, (ad.add (j * 8)).off + 3, none⟩ = some (.int .u64 f) := HPR.out _ hB 3 _ rfl; have z3 : wr.cell? ⟨(ad.add (j * 8)).block, (ad.add (j * 8)).off + 4, none⟩ = some (.int .u64 l') := HPR.out _ hB 4 _ rfl
        have hne : ¬ w.heap.size + 1 = (ad.add (j * 8)).block := by have := cell_lt (HPR.out _ (Below.refl _ _) 0 _ rfl); intro h; rw [show ((ad.add (j * 8)).add 0).block = (ad.add (j * 8)).block from rfl, ← h] at this; omega
        go_region_with
          (first
          | (go_at_call 23; (with_reducible refine (cA.out _ (HM.out.below ?_) ?_).mono ?_); (focus ((repeat' (first | with_reducible exact Below.refl _ _ | with_reducible assumption | with_reducible apply below_drewN | with_reducible apply Below.drew | with_reducible refine Below.setCell ?_ ?_ _ | with_reducible refine Below.alloc ?_ ?_ _ | omega | (simp; done) | (simp; omega))); done)); (focus (exact (by first | omega | (simp; done) | (simp; omega)))); intro e w1 hx; obtain ⟨b1, q1, rfl, hr, hb⟩ := retBuf_out hx; have BW : Below wr.heap.size wr w1 := Below.trans (by repeat' (first | with_reducible exact Below.refl _ _ | with_reducible assumption | with_reducible apply below_drewN | with_reducible apply Below.drew | with_reducible refine Below.setCell ?_ ?_ _ | with_reducible refine Below.alloc ?_ ?_ _ | omega | (simp; done) | (simp; omega))) (hb.mono (by first | omega | (simp; done) | (simp; omega))); have BWs := BW.size; have BWw := hB.trans (BW.mono hBs); have y0 : w1.cell? ⟨(ad.add (j * 8)).block, (ad.add (j * 8)).off + 1, none⟩ = some (.int .i64 s) := HPR.out _ BWw 1 _ rfl; have y1 : w1.cell? ⟨(ad.add (j * 8)).block, (ad.add (j * 8)).off + 2, none⟩ = some (.int .u64 p) := HPR.out _ BWw 2 _ rfl; have y2 : w1.cell? ⟨(ad.add (j * 8)).block, (ad.add (j * 8)).off + 3, none⟩ = some (.int .u64 f) := HPR.out _ BWw 3 _ rfl; have y3 : w1.cell? ⟨(ad.add (j * 8)).block, (ad.add (j * 8)).off + 4, none⟩ = some (.int .u64 l') := HPR.out _ BWw 4 _ rfl; have RA := Lib.hid hr; have G1a := Lib.hid ((BW.block w.heap.size l1).trans G1.out); have g2a := (BW.block (w.heap.size + 1) l2).trans G2.out; have G2a := Lib.hid g2a; obtain ⟨c2, f2a, l2a, n2a⟩ := block_cells g2a; have i0 := c2 0 _ rfl; (try (have RBa := Lib.hid (RB.out.below hb))); (try (have HOa := Lib.hid (HO.out.below BW))); clear hx hr hb g2a c2)
          | (go_at_call 24; (with_reducible refine (cB.out _ (HO.out.below ?_) ?_).mono ?_); (focus ((repeat' (first | with_reducible exact Below.refl _ _ | with_reducible assumption | with_reducible apply below_drewN | with_reducible apply Below.drew | with_reducible refine Below.setCell ?_ ?_ _ | with_reducible refine Below.alloc ?_ ?_ _ | omega | (simp; done) | (simp; omega))); done)); (focus (exact (by first | omega | (simp; done) | (simp; omega)))); intro e w2 hx; obtain ⟨b2, q2, rfl, hr, hb⟩ := retLst_out hx; have BV : Below wr.heap.size wr w2 := Below.trans (by repeat' (first | with_reducible exact Below.refl _ _ | with_reducible assumption | with_reducible apply below_drewN | with_reducible apply Below.drew | with_reducible refine Below.setCell ?_ ?_ _ | with_reducible refine Below.alloc ?_ ?_ _ | omega | (simp; done) | (simp; omega))) (hb.mono (by first | omega | (simp; done) | (simp; omega))); have BVs := BV.size; have BVw := hB.trans (BV.mono hBs); have x0 : w2.cell? ⟨(ad.add (j * 8)).block, (ad.add (j * 8)).off + 1, none⟩ = some (.int .i64 s) := HPR.out _ BVw 1 _ rfl; have x1 : w2.cell? ⟨(ad.add (j * 8)).block, (ad.add (j * 8)).off + 2, none⟩ = some (.int .u64 p) := HPR.out _ BVw 2 _ rfl; have x2 : w2.cell? ⟨(ad.add (j * 8)).block, (ad.add (j * 8)).off + 3, none⟩ = some (.int .u64 f) := HPR.out _ BVw 3 _ rfl; have x3 : w2.cell? ⟨(ad.add (j * 8)).block, (ad.add (j * 8)).off + 4, none⟩ = some (.int .u64 l') := HPR.out _ BVw 4 _ rfl; have RB := Lib.hid hr; have G1b := Lib.hid ((BV.block w.heap.size l1).trans G1.out); have g2b := (BV.block (w.heap.size + 1) l2).trans G2.out; have G2b := Lib.hid g2b; obtain ⟨c2, f2b, l2b, n2b⟩ := block_cells g2b; have j0 := c2 0 _ rfl; (try (have RAb := Lib.hid (RA.out.below hb))); clear hx hr hb g2b c2)
          | (go_at_call 24; (with_reducible refine (cB.out _ (HOa.out.put G2a.out _ _) ?_).mono ?_); (focus (exact (by first | omega | (simp; done) | (simp; omega)))); intro e w2 hx; obtain ⟨b2, q2, rfl, hr, hb⟩ := retLst_out hx; have BV : Below w.heap.size w w2 := Below.trans (by repeat' (first | with_reducible exact Below.refl _ _ | with_reducible assumption | with_reducible apply below_drewN | with_reducible apply Below.drew | with_reducible refine Below.setCell ?_ ?_ _ | with_reducible refine Below.alloc ?_ ?_ _ | omega | (simp; done) | (simp; omega))) (hb.mono (by first | omega | (simp; done) | (simp; omega))); have BVs := BV.size; have RB := Lib.hid hr; have hb3 := hb; clear hx hr hb))
        all_goals
          go_wp2_with fail
          go_roundw
          case rel =>
            first
            | exact ⟨j + 1, K, _, _, _, _, by go_num, by omega, by omega, T1.out.symm, rfl, RAb.out.put G2b.out _ _, RB.out.put G2b.out _ _, BVw.setCell (Nat.le_succ _) _, block_else G1b.out (Nat.succ_ne_self _), block_set G2b.out rfl⟩
            | exact ⟨j + 1, K, _, _, _, _, by go_num, by omega, by omega, T1.out.symm, rfl, RA.out.put G2a.out _ _, RBa.out.put G2a.out _ _, BWw.setCell (Nat.le_succ _) _, block_else G1a.out (Nat.succ_ne_self _), block_set G2a.out rfl⟩
            | exact ⟨j + 1, K, _, _, _, _, by go_num, by omega, by omega, T1.out.symm, rfl, (RA.out.put G2a.out _ _).below hb3, RB.out, BV, (hb3.block _ (by first | omega | (simp; done) | (simp; omega))).trans (block_else G1a.out (Nat.succ_ne_self _)), (hb3.block _ (by first | omega | (simp; done) | (simp; omega))).trans (block_set G2a.out rfl)⟩
          case measure => first | (simp [intOf]; done) | (simp [intOf]; omega)
      by_cases k1 : k = 1
      · subst k1
        simp only [if_true, show ¬ ((1 : Int) = 0) by decide, if_false] at T1
        go_wp2_with fail
        have cA : Hid (∀ W, RowE W w.heap.size (.slice a1 L.length p1) L → w.heap.size ≤ W.heap.size → Calls Try.prog 29 #[.agg #[.slice a1 L.length p1], .agg #[.int .i64 s, .int .u64 p, .int .u64 f, .int .u64 l']] W (RetBuf w.heap.size (L.filter fun x => !decide (x = ⟨s, p, f, l'⟩)) W)) := Lib.hid fun W h hz => by have := bwout_any _ _ L ⟨s, p, f, l'⟩ W h hz HS.out (by omega); rw [without_filter HS.out] at this; exact this
        have cB : Hid (∀ W, RowE W w.heap.size (.slice a2 L.length p2) L → w.heap.size ≤ W.heap.size → Calls Try.prog 54 #[.slice a2 L.length p2, .agg #[.int .i64 s, .int .u64 p, .int .u64 f, .int .u64 l']] W (RetLst w.heap.size (L.filter fun x => !decide (x = ⟨s, p, f, l'⟩)) W)) := Lib.hid fun W h hz => rwout_any _ _ L ⟨s, p, f, l'⟩ W h hz (fun x hx => ⟨(HXO.out x hx).2.2.1, (HXO.out x hx).2.2.2⟩) (by omega)
        generalize (L.filter fun x => !decide (x = ⟨s, p, f, l'⟩)) = K at cA cB T1
        clear HP HL1 e0 HN HF HK HXO HS
        have z0 : wr.cell? ⟨(ad.add (j * 8)).block, (ad.add (j * 8)).off + 1, none⟩ = some (.int .i64 s) := HPR.out _ hB 1 _ rfl; have z1 : wr.cell? ⟨(ad.add (j * 8)).block, (ad.add (j * 8)).off + 2, none⟩ = some (.int .u64 p) := HPR.out _ hB 2 _ rfl; have z2 : wr.cell? ⟨(ad.add (j * 8)).block, (ad.add (j * 8)).off + 3, none⟩ = some (.int .u64 f) := HPR.out _ hB 3 _ rfl; have z3 : wr.cell? ⟨(ad.add (j * 8)).block, (ad.add (j * 8)).off + 4, none⟩ = some (.int .u64 l') := HPR.out _ hB 4 _ rfl
        have hne : ¬ w.heap.size + 1 = (ad.add (j * 8)).block := by have := cell_lt (HPR.out _ (Below.refl _ _) 0 _ rfl); intro h; rw [show ((ad.add (j * 8)).add 0).block = (ad.add (j * 8)).block from rfl, ← h] at this; omega
        go_region_with
          (first
          | (go_at_call 29; (with_reducible refine (cA.out _ (HM.out.below ?_) ?_).mono ?_); (focus ((repeat' (first | with_reducible exact Below.refl _ _ | with_reducible assumption | with_reducible apply below_drewN | with_reducible apply Below.drew | with_reducible refine Below.setCell ?_ ?_ _ | with_reducible refine Below.alloc ?_ ?_ _ | omega | (simp; done) | (simp; omega))); done)); (focus (exact (by first | omega | (simp; done) | (simp; omega)))); intro e w1 hx; obtain ⟨b1, q1, rfl, hr, hb⟩ := retBuf_out hx; have BW : Below wr.heap.size wr w1 := Below.trans (by repeat' (first | with_reducible exact Below.refl _ _ | with_reducible assumption | with_reducible apply below_drewN | with_reducible apply Below.drew | with_reducible refine Below.setCell ?_ ?_ _ | with_reducible refine Below.alloc ?_ ?_ _ | omega | (simp; done) | (simp; omega))) (hb.mono (by first | omega | (simp; done) | (simp; omega))); have BWs := BW.size; have BWw := hB.trans (BW.mono hBs); have y0 : w1.cell? ⟨(ad.add (j * 8)).block, (ad.add (j * 8)).off + 1, none⟩ = some (.int .i64 s) := HPR.out _ BWw 1 _ rfl; have y1 : w1.cell? ⟨(ad.add (j * 8)).block, (ad.add (j * 8)).off + 2, none⟩ = some (.int .u64 p) := HPR.out _ BWw 2 _ rfl; have y2 : w1.cell? ⟨(ad.add (j * 8)).block, (ad.add (j * 8)).off + 3, none⟩ = some (.int .u64 f) := HPR.out _ BWw 3 _ rfl; have y3 : w1.cell? ⟨(ad.add (j * 8)).block, (ad.add (j * 8)).off + 4, none⟩ = some (.int .u64 l') := HPR.out _ BWw 4 _ rfl; have RA := Lib.hid hr; have G1a := Lib.hid ((BW.block w.heap.size l1).trans G1.out); have g2a := (BW.block (w.heap.size + 1) l2).trans G2.out; have G2a := Lib.hid g2a; obtain ⟨c2, f2a, l2a, n2a⟩ := block_cells g2a; have i0 := c2 0 _ rfl; (try (have RBa := Lib.hid (RB.out.below hb))); (try (have HOa := Lib.hid (HO.out.below BW))); clear hx hr hb g2a c2)
          | (go_at_call 54; (with_reducible refine (cB.out _ (HO.out.below ?_) ?_).mono ?_); (focus ((repeat' (first | with_reducible exact Below.refl _ _ | with_reducible assumption | with_reducible apply below_drewN | with_reducible apply Below.drew | with_reducible refine Below.setCell ?_ ?_ _ | with_reducible refine Below.alloc ?_ ?_ _ | omega | (simp; done) | (simp; omega))); done)); (focus (exact (by first | omega | (simp; done) | (simp; omega)))); intro e w2 hx; obtain ⟨b2, q2, rfl, hr, hb⟩ := retLst_out hx; have BV : Below wr.heap.size wr w2 := Below.trans (by repeat' (first | with_reducible exact Below.refl _ _ | with_reducible assumption | with_reducible apply below_drewN | with_reducible apply Below.drew | with_reducible refine Below.setCell ?_ ?_ _ | with_reducible refine Below.alloc ?_ ?_ _ | omega | (simp; done) | (simp; omega))) (hb.mono (by first | omega | (simp; done) | (simp; omega))); have BVs := BV.size; have BVw := hB.trans (BV.mono hBs); have x0 : w2.cell? ⟨(ad.add (j * 8)).block, (ad.add (j * 8)).off + 1, none⟩ = some (.int .i64 s) := HPR.out _ BVw 1 _ rfl; have x1 : w2.cell? ⟨(ad.add (j * 8)).block, (ad.add (j * 8)).off + 2, none⟩ = some (.int .u64 p) := HPR.out _ BVw 2 _ rfl; have x2 : w2.cell? ⟨(ad.add (j * 8)).block, (ad.add (j * 8)).off + 3, none⟩ = some (.int .u64 f) := HPR.out _ BVw 3 _ rfl; have x3 : w2.cell? ⟨(ad.add (j * 8)).block, (ad.add (j * 8)).off + 4, none⟩ = some (.int .u64 l') := HPR.out _ BVw 4 _ rfl; have RB := Lib.hid hr; have G1b := Lib.hid ((BV.block w.heap.size l1).trans G1.out); have g2b := (BV.block (w.heap.size + 1) l2).trans G2.out; have G2b := Lib.hid g2b; obtain ⟨c2, f2b, l2b, n2b⟩ := block_cells g2b; have j0 := c2 0 _ rfl; (try (have RAb := Lib.hid (RA.out.below hb))); clear hx hr hb g2b c2)
          | (go_at_call 54; (with_reducible refine (cB.out _ (HOa.out.put G2a.out _ _) ?_).mono ?_); (focus (exact (by first | omega | (simp; done) | (simp; omega)))); intro e w2 hx; obtain ⟨b2, q2, rfl, hr, hb⟩ := retLst_out hx; have BV : Below w.heap.size w w2 := Below.trans (by repeat' (first | with_reducible exact Below.refl _ _ | with_reducible assumption | with_reducible apply below_drewN | with_reducible apply Below.drew | with_reducible refine Below.setCell ?_ ?_ _ | with_reducible refine Below.alloc ?_ ?_ _ | omega | (simp; done) | (simp; omega))) (hb.mono (by first | omega | (simp; done) | (simp; omega))); have BVs := BV.size; have RB := Lib.hid hr; have hb3 := hb; clear hx hr hb))
        all_goals
          go_wp2_with fail
          go_roundw
          case rel =>
            first
            | exact ⟨j + 1, K, _, _, _, _, by go_num, by omega, by omega, T1.out.symm, rfl, RAb.out.put G2b.out _ _, RB.out.put G2b.out _ _, BVw.setCell (Nat.le_succ _) _, block_else G1b.out (Nat.succ_ne_self _), block_set G2b.out rfl⟩
            | exact ⟨j + 1, K, _, _, _, _, by go_num, by omega, by omega, T1.out.symm, rfl, RA.out.put G2a.out _ _, RBa.out.put G2a.out _ _, BWw.setCell (Nat.le_succ _) _, block_else G1a.out (Nat.succ_ne_self _), block_set G2a.out rfl⟩
            | exact ⟨j + 1, K, _, _, _, _, by go_num, by omega, by omega, T1.out.symm, rfl, (RA.out.put G2a.out _ _).below hb3, RB.out, BV, (hb3.block _ (by first | omega | (simp; done) | (simp; omega))).trans (block_else G1a.out (Nat.succ_ne_self _)), (hb3.block _ (by first | omega | (simp; done) | (simp; omega))).trans (block_set G2a.out rfl)⟩
          case measure => first | (simp [intOf]; done) | (simp [intOf]; omega)
      by_cases k2 : k = 2
      · subst k2
        simp only [if_true, show ¬ ((2 : Int) = 0) by decide, show ¬ ((2 : Int) = 1) by decide, if_false] at T1
        go_wp2_with fail
        have cA : Hid (∀ W, RowE W w.heap.size (.slice a1 L.length p1) L → w.heap.size ≤ W.heap.size → Calls Try.prog 30 #[.agg #[.slice a1 L.length p1], .agg #[.int .i64 fk, .int .u64 fp, .int .i64 fs]] W (RetBuf w.heap.size (L.filter fun x => !takesB ⟨fk, fp, fs⟩ x) W)) := Lib.hid fun W h hz => bdrop_any _ _ L ⟨fk, fp, fs⟩ HP.out.2.2.2.1 W h hz (fun x hx => ⟨(HXO.out x hx).2.2.1, (HXO.out x hx).2.2.2⟩) (by omega)
        have cB : Hid (∀ W, RowE W w.heap.size (.slice a2 L.length p2) L → w.heap.size ≤ W.heap.size → Calls Try.prog 55 #[.slice a2 L.length p2, .agg #[.int .i64 fk, .int .u64 fp, .int .i64 fs]] W (RetLst w.heap.size (L.filter fun x => !takesB ⟨fk, fp, fs⟩ x) W)) := Lib.hid fun W h hz => rdrop_any _ _ L ⟨fk, fp, fs⟩ HP.out.2.2.2.1 W h hz (fun x hx => ⟨(HXO.out x hx).2.2.1, (HXO.out x hx).2.2.2⟩) (by omega)
        generalize (L.filter fun x => !takesB ⟨fk, fp, fs⟩ x) = K at cA cB T1
        clear HP HL1 e0 HN HF HK HXO HS
        have z0 : wr.cell? ⟨(ad.add (j * 8)).block, (ad.add (j * 8)).off + 5, none⟩ = some (.int .i64 fk) := HPR.out _ hB 5 _ rfl; have z1 : wr.cell? ⟨(ad.add (j * 8)).block, (ad.add (j * 8)).off + 6, none⟩ = some (.int .u64 fp) := HPR.out _ hB 6 _ rfl; have z2 : wr.cell? ⟨(ad.add (j * 8)).block, (ad.add (j * 8)).off + 7, none⟩ = some (.int .i64 fs) := HPR.out _ hB 7 _ rfl
        have hne : ¬ w.heap.size + 1 = (ad.add (j * 8)).block := by have := cell_lt (HPR.out _ (Below.refl _ _) 0 _ rfl); intro h; rw [show ((ad.add (j * 8)).add 0).block = (ad.add (j * 8)).block from rfl, ← h] at this; omega
        go_region_with
          (first
          | (go_at_call 30; (with_reducible refine (cA.out _ (HM.out.below ?_) ?_).mono ?_); (focus ((repeat' (first | with_reducible exact Below.refl _ _ | with_reducible assumption | with_reducible apply below_drewN | with_reducible apply Below.drew | with_reducible refine Below.setCell ?_ ?_ _ | with_reducible refine Below.alloc ?_ ?_ _ | omega | (simp; done) | (simp; omega))); done)); (focus (exact (by first | omega | (simp; done) | (simp; omega)))); intro e w1 hx; obtain ⟨b1, q1, rfl, hr, hb⟩ := retBuf_out hx; have BW : Below wr.heap.size wr w1 := Below.trans (by repeat' (first | with_reducible exact Below.refl _ _ | with_reducible assumption | with_reducible apply below_drewN | with_reducible apply Below.drew | with_reducible refine Below.setCell ?_ ?_ _ | with_reducible refine Below.alloc ?_ ?_ _ | omega | (simp; done) | (simp; omega))) (hb.mono (by first | omega | (simp; done) | (simp; omega))); have BWs := BW.size; have BWw := hB.trans (BW.mono hBs); have y0 : w1.cell? ⟨(ad.add (j * 8)).block, (ad.add (j * 8)).off + 5, none⟩ = some (.int .i64 fk) := HPR.out _ BWw 5 _ rfl; have y1 : w1.cell? ⟨(ad.add (j * 8)).block, (ad.add (j * 8)).off + 6, none⟩ = some (.int .u64 fp) := HPR.out _ BWw 6 _ rfl; have y2 : w1.cell? ⟨(ad.add (j * 8)).block, (ad.add (j * 8)).off + 7, none⟩ = some (.int .i64 fs) := HPR.out _ BWw 7 _ rfl; have RA := Lib.hid hr; have G1a := Lib.hid ((BW.block w.heap.size l1).trans G1.out); have g2a := (BW.block (w.heap.size + 1) l2).trans G2.out; have G2a := Lib.hid g2a; obtain ⟨c2, f2a, l2a, n2a⟩ := block_cells g2a; have i0 := c2 0 _ rfl; (try (have RBa := Lib.hid (RB.out.below hb))); (try (have HOa := Lib.hid (HO.out.below BW))); clear hx hr hb g2a c2)
          | (go_at_call 55; (with_reducible refine (cB.out _ (HO.out.below ?_) ?_).mono ?_); (focus ((repeat' (first | with_reducible exact Below.refl _ _ | with_reducible assumption | with_reducible apply below_drewN | with_reducible apply Below.drew | with_reducible refine Below.setCell ?_ ?_ _ | with_reducible refine Below.alloc ?_ ?_ _ | omega | (simp; done) | (simp; omega))); done)); (focus (exact (by first | omega | (simp; done) | (simp; omega)))); intro e w2 hx; obtain ⟨b2, q2, rfl, hr, hb⟩ := retLst_out hx; have BV : Below wr.heap.size wr w2 := Below.trans (by repeat' (first | with_reducible exact Below.refl _ _ | with_reducible assumption | with_reducible apply below_drewN | with_reducible apply Below.drew | with_reducible refine Below.setCell ?_ ?_ _ | with_reducible refine Below.alloc ?_ ?_ _ | omega | (simp; done) | (simp; omega))) (hb.mono (by first | omega | (simp; done) | (simp; omega))); have BVs := BV.size; have BVw := hB.trans (BV.mono hBs); have x0 : w2.cell? ⟨(ad.add (j * 8)).block, (ad.add (j * 8)).off + 5, none⟩ = some (.int .i64 fk) := HPR.out _ BVw 5 _ rfl; have x1 : w2.cell? ⟨(ad.add (j * 8)).block, (ad.add (j * 8)).off + 6, none⟩ = some (.int .u64 fp) := HPR.out _ BVw 6 _ rfl; have x2 : w2.cell? ⟨(ad.add (j * 8)).block, (ad.add (j * 8)).off + 7, none⟩ = some (.int .i64 fs) := HPR.out _ BVw 7 _ rfl; have RB := Lib.hid hr; have G1b := Lib.hid ((BV.block w.heap.size l1).trans G1.out); have g2b := (BV.block (w.heap.size + 1) l2).trans G2.out; have G2b := Lib.hid g2b; obtain ⟨c2, f2b, l2b, n2b⟩ := block_cells g2b; have j0 := c2 0 _ rfl; (try (have RAb := Lib.hid (RA.out.below hb))); clear hx hr hb g2b c2)
          | (go_at_call 55; (with_reducible refine (cB.out _ (HOa.out.put G2a.out _ _) ?_).mono ?_); (focus (exact (by first | omega | (simp; done) | (simp; omega)))); intro e w2 hx; obtain ⟨b2, q2, rfl, hr, hb⟩ := retLst_out hx; have BV : Below w.heap.size w w2 := Below.trans (by repeat' (first | with_reducible exact Below.refl _ _ | with_reducible assumption | with_reducible apply below_drewN | with_reducible apply Below.drew | with_reducible refine Below.setCell ?_ ?_ _ | with_reducible refine Below.alloc ?_ ?_ _ | omega | (simp; done) | (simp; omega))) (hb.mono (by first | omega | (simp; done) | (simp; omega))); have BVs := BV.size; have RB := Lib.hid hr; have hb3 := hb; clear hx hr hb))
        all_goals
          go_wp2_with fail
          go_roundw
          case rel =>
            first
            | exact ⟨j + 1, K, _, _, _, _, by go_num, by omega, by omega, T1.out.symm, rfl, RAb.out.put G2b.out _ _, RB.out.put G2b.out _ _, BVw.setCell (Nat.le_succ _) _, block_else G1b.out (Nat.succ_ne_self _), block_set G2b.out rfl⟩
            | exact ⟨j + 1, K, _, _, _, _, by go_num, by omega, by omega, T1.out.symm, rfl, RA.out.put G2a.out _ _, RBa.out.put G2a.out _ _, BWw.setCell (Nat.le_succ _) _, block_else G1a.out (Nat.succ_ne_self _), block_set G2a.out rfl⟩
            | exact ⟨j + 1, K, _, _, _, _, by go_num, by omega, by omega, T1.out.symm, rfl, (RA.out.put G2a.out _ _).below hb3, RB.out, BV, (hb3.block _ (by first | omega | (simp; done) | (simp; omega))).trans (block_else G1a.out (Nat.succ_ne_self _)), (hb3.block _ (by first | omega | (simp; done) | (simp; omega))).trans (block_set G2a.out rfl)⟩
          case measure => first | (simp [intOf]; done) | (simp [intOf]; omega)
      simp only [k0, k1, k2, if_false] at T1
      go_wp2_with fail
      go_roundw
      case rel => exact ⟨j + 1, L, a1, a2, p1, p2, by go_num, by omega, by omega, T1.out.symm, rfl, HM.out, HO.out, hB, G1.out, G2.out⟩
      case measure => first | (simp [intOf]; done) | (simp [intOf]; omega)
    · have e : l.take 50 = l.take j := by
        rcases Nat.lt_or_ge j n with h | h
        · have : j = 50 := by
            rcases Nat.lt_or_ge j 50 with h6 | h6
            · exact absurd ⟨h, h6⟩ hlt
            · omega
          rw [this]
        · have hjn : j = l.length := by have := HN.out; omega
          rw [hjn, List.take_length, List.take_of_length_le (by omega)]
      have HPL : Hid (playE (l.take 50) = L) := Lib.hid (by rw [e, ← HL1.out])
      clear e
      have hlt' : j < n → ¬ j < 50 := fun h h6 => hlt ⟨h, h6⟩
      clear hlt
      by_cases h1 : j < n
      · have h2 := hlt' h1
        clear hlt'
        go_wp2_with fail
        refine bodyPost_ret (v := .tuple #[.agg #[.slice a1 L.length p1], .slice a2 L.length p2]) (by simp [results, Try.results27, go_sem, *]) rfl ?_
        rw [HPL.out]
        exact ⟨_, _, _, _, rfl, HM.out.put G1.out _ _, HO.out.put G1.out _ _, by repeat' (first | with_reducible exact Below.refl _ _ | with_reducible assumption | with_reducible apply below_drewN | with_reducible apply Below.drew | with_reducible refine Below.setCell ?_ ?_ _ | with_reducible refine Below.alloc ?_ ?_ _ | omega | (simp; done) | (simp; omega))⟩
      · clear hlt'
        go_wp2_with fail
        refine bodyPost_ret (v := .tuple #[.agg #[.slice a1 L.length p1], .slice a2 L.length p2]) (by simp [results, Try.results27, go_sem, *]) rfl ?_
        rw [HPL.out]
        exact ⟨_, _, _, _, rfl, HM.out.put G1.out _ _, HO.out.put G1.out _ _, by repeat' (first | with_reducible exact Below.refl _ _ | with_reducible assumption | with_reducible apply below_drewN | with_reducible apply Below.drew | with_reducible refine Below.setCell ?_ ?_ _ | with_reducible refine Below.alloc ?_ ?_ _ | omega | (simp; done) | (simp; omega))⟩

end Go.Proofs.Ytcaggboeacgknaa
