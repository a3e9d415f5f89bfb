/- Buffer.With. -/
import Derived.Test.YtcaggboeacgknaaBuf
import Derived.Deep.RegionWith
namespace Go.Proofs.Ytcaggboeacgknaa
open Go.RowKit
set_option linter.unusedSimpArgs false
set_option linter.unusedVariables false

/-- With an entry more. -/
def withE (L : List E) (e : E) : List E := if hasE L e = true then L else L.take (posE L e) ++ e :: L.drop (posE L e)

/-- The call returns a buffer. -/
def RetBuf (base : Nat) (L : List E) (w : World) (e : Ending) (w' : World) : Prop := ∃ v', e = .returned (bufV v') ∧ RowE w' base v' L ∧ Below w.heap.size w w'

theorem below_row {base : Nat} {v : Value} {L : List E} {w w' : World} {B : Nat} (h : RowE w base v L) (hb : Below B w w') (hB : B = w.heap.size) : RowE w' base v L := by
  subst hB
  exact h.below hb

set_option maxHeartbeats 2000000 in
theorem bwith_old (base : Nat) (v : Value) (L : List E) (e : E) (w : World) (h : RowE w base v L) (hs : SortedE L) (hlen : L.length ≤ 1000) (hh : hasE L e = true) : Calls Try.prog 23 #[bufV v, entV e] w (RetBuf base L w) := by
  have HO := Lib.hid h
  have c1 : Hid (∀ V, Below w.heap.size w V → Calls Try.prog 48 #[v, entV e, .func (.func 49) #[] #[]] V (RetB (.tuple #[.int .i64 (posE L e : Nat), .bool true]) V)) := Lib.hid fun V hb => by rw [← hh]; exact bs_any base v L e V (h.below hb) hs hlen
  obtain ⟨s, p, f, l⟩ := e
  simp only [bufV, entV] at c1 ⊢
  obtain ⟨ps, hps⟩ : ∃ ps, (posE L ⟨s, p, f, l⟩ : Nat) = ps := ⟨_, rfl⟩
  rw [hps] at c1
  clear hps hh
  have HW : Hid (∀ v', v' = v → ∀ w', Below w.heap.size w w' → RetBuf base L w (.returned (.agg #[v'])) w') := Lib.hid fun v' hv _ hb => ⟨v, by rw [hv]; rfl, HO.out.below hb, hb⟩
  rcases h.form with ⟨rfl, hl⟩ | ⟨g, cap, rfl, hg, _⟩
  all_goals
    clear h hs
    try clear hl
    go_enter Try.func23, Try.ntmps23
    go_wp2_with fail
    refine (c1.out _ (by repeat' (first | with_reducible exact Below.refl _ _ | with_reducible assumption | with_reducible apply below_drewN | with_reducible apply Below.drew | with_reducible refine Below.setCell ?_ ?_ _ | with_reducible refine Below.alloc ?_ ?_ _ | omega | (simp; done) | (simp; omega)))).mono ?_
    rintro e w1 ⟨rfl, hb⟩
    have hs1 := hb.size
    obtain ⟨k1, k2, k3, k4⟩ := keepB hb w.heap.size (by first | omega | (simp; done) | (simp; omega))
    obtain ⟨m1, m2, m3, m4⟩ := keepB hb (w.heap.size + 2) (by first | omega | (simp; done) | (simp; omega))
    have BW : Below w.heap.size w w1 := Below.trans (by repeat' (first | with_reducible exact Below.refl _ _ | with_reducible assumption | with_reducible apply below_drewN | with_reducible apply Below.drew | with_reducible refine Below.setCell ?_ ?_ _ | with_reducible refine Below.alloc ?_ ?_ _ | omega | (simp; done) | (simp; omega))) (hb.mono (by first | omega | (simp; done) | (simp; omega)))
    clear hb
    go_wp2_with fail
    refine bodyPost_ret (by simp [results, Try.results23, go_sem, *]; rfl) rfl ?_
    exact HW.out _ rfl _ (Below.trans BW (by repeat' (first | with_reducible exact Below.refl _ _ | with_reducible assumption | with_reducible apply below_drewN | with_reducible apply Below.drew | with_reducible refine Below.setCell ?_ ?_ _ | with_reducible refine Below.alloc ?_ ?_ _ | omega | (simp; done) | (simp; omega))))

set_option maxHeartbeats 8000000 in
theorem bwith_new (base : Nat) (v : Value) (L : List E) (e : E) (w : World) (h : RowE w base v L) (hbase : base ≤ w.heap.size) (hs : SortedE L) (hlen : L.length ≤ 1000) (hh : hasE L e = false) : Calls Try.prog 23 #[bufV v, entV e] w (RetBuf base (L.take (posE L e) ++ e :: L.drop (posE L e)) w) := by
  have HO := Lib.hid h
  have c1 : Hid (∀ V, Below w.heap.size w V → Calls Try.prog 48 #[v, entV e, .func (.func 49) #[] #[]] V (RetB (.tuple #[.int .i64 (posE L e : Nat), .bool false]) V)) := Lib.hid fun V hb => by rw [← hh]; exact bs_any base v L e V (h.below hb) hs hlen
  have c2 : Hid (∀ V, Below w.heap.size w V → Calls Try.prog 51 #[v] V (RetE L V)) := Lib.hid fun V hb => clone_any base v L V (h.below hb) hlen
  have hpl := posE_le L e
  obtain ⟨R, hR⟩ : ∃ R, R = L.take (posE L e) ++ e :: L.drop (posE L e) := ⟨_, rfl⟩
  have c3 : Hid (∀ B v' V vb, RowE V B v' L → B ≤ V.heap.size → V.heap[vb]? = some (.cells (cellsE e).toArray 27) → some vb ≠ v'.ownBlock → Calls Try.prog 50 #[v', .int .i64 (posE L e : Nat), .slice (some ⟨vb, 0, none⟩) 1 1] V (RetIns B R V)) := Lib.hid fun B v' V vb h1 h2 h3 h4 => by rw [hR]; exact insert_any B v' L _ e V h1 h2 hpl hlen vb h3 h4
  rw [← hR]
  clear hR
  obtain ⟨s, p, f, l⟩ := e
  simp only [bufV, entV, cellsE] at c1 c3 ⊢
  obtain ⟨ps, hps⟩ : ∃ ps, (posE L ⟨s, p, f, l⟩ : Nat) = ps := ⟨_, rfl⟩
  rw [hps] at c1 c3 hpl
  obtain ⟨n, hn⟩ : ∃ n, n = L.length := ⟨_, rfl⟩
  have HN := Lib.hid hn
  rw [← hn] at hlen hpl
  have HB := Lib.hid hbase
  have HW : Hid (∀ v' V, RowE V base v' R → Below w.heap.size w V → RetBuf base R w (.returned (.agg #[v'])) V) := Lib.hid fun v' V h1 h2 => ⟨_, rfl, h1, h2⟩
  have hf := h.form
  rw [← hn] at hf
  clear hps hh
  rcases hf with ⟨rfl, hl⟩ | ⟨g, cap, rfl, hg, _⟩
  all_goals
    clear h hs hn hbase
    try clear hl
    go_enter Try.func23, Try.ntmps23
    go_wp2_with fail
    refine (c1.out _ (by repeat' (first | with_reducible exact Below.refl _ _ | with_reducible assumption | with_reducible apply below_drewN | with_reducible apply Below.drew | with_reducible refine Below.setCell ?_ ?_ _ | with_reducible refine Below.alloc ?_ ?_ _ | omega | (simp; done) | (simp; omega)))).mono ?_
    rintro e w1 ⟨rfl, hb⟩
    have hs1 := hb.size
    have hz1 : w.heap.size + 3 ≤ w1.heap.size := by simpa using hs1
    obtain ⟨k1, k2, k3, k4⟩ := keepB hb w.heap.size (by first | omega | (simp; done) | (simp; omega))
    obtain ⟨l1, l2, l3, l4⟩ := keepB hb (w.heap.size + 1) (by first | omega | (simp; done) | (simp; omega))
    obtain ⟨m1, m2, m3, m4⟩ := keepB hb (w.heap.size + 2) (by first | omega | (simp; done) | (simp; omega))
    have BW : Below w.heap.size w w1 := Below.trans (by repeat' (first | with_reducible exact Below.refl _ _ | with_reducible assumption | with_reducible apply below_drewN | with_reducible apply Below.drew | with_reducible refine Below.setCell ?_ ?_ _ | with_reducible refine Below.alloc ?_ ?_ _ | omega | (simp; done) | (simp; omega))) (hb.mono (by first | omega | (simp; done) | (simp; omega)))
    have HG2 := Lib.hid ((hb.block (w.heap.size + 2) (by first | omega | (simp; done) | (simp; omega))).trans (by (repeat (first | assumption | (refine heap_new _ _ _ ?_; simp; done) | refine heap_old _ _ _ _ ?_)) : _ = some (.cells #[.slice none 0 0] 42)))
    have HG1 := Lib.hid ((hb.block (w.heap.size + 1) (by first | omega | (simp; done) | (simp; omega))).trans (by (repeat (first | assumption | (refine heap_new _ _ _ ?_; simp; done) | refine heap_old _ _ _ _ ?_)) : _ = some (.cells #[.int .i64 s, .int .u64 p, .int .u64 f, .int .u64 l] 27)))
    clear hb
    go_wp2_with fail
    go_region_with (first
      | (go_at_call 51; (with_reducible refine (c2.out _ ?_).mono ?_); (focus repeat' (first | with_reducible exact Below.refl _ _ | with_reducible assumption | with_reducible apply below_drewN | with_reducible apply Below.drew | with_reducible refine Below.setCell ?_ ?_ _ | with_reducible refine Below.alloc ?_ ?_ _ | omega | (simp; done) | (simp; omega))); rintro e w2 ⟨v', rfl, h1, hb⟩; have hs2 := hb.size; have hz2 : w1.heap.size ≤ w2.heap.size := (by first | exact hs2 | (simp at hs2; omega)); have H1 := Lib.hid h1; obtain ⟨ao, cp, rfl⟩ := ownsRow_form h1; have HLT := Lib.hid h1.lt; have HK := Lib.hid hb; have BX : Below w.heap.size w w2 := Below.trans (by repeat' (first | with_reducible exact Below.refl _ _ | with_reducible assumption | with_reducible apply below_drewN | with_reducible apply Below.drew | with_reducible refine Below.setCell ?_ ?_ _ | with_reducible refine Below.alloc ?_ ?_ _ | omega | (simp; done) | (simp; omega))) (hb.mono (by first | omega | (simp; done) | (simp; omega))); obtain ⟨x2, y2, z2, t2⟩ := block_cells ((hb.block (w.heap.size + 1) (by first | omega | (simp; done) | (simp; omega))).trans (by first | exact HG1.out | exact heap_old _ _ _ _ HG1.out)); have x20 := x2 0 _ rfl; have x21 := x2 1 _ rfl; have x22 := x2 2 _ rfl; have x23 := x2 3 _ rfl; clear x2; have HG3 := Lib.hid ((hb.block (w.heap.size + 2) (by first | omega | (simp; done) | (simp; omega))).trans (by first | exact HG2.out | exact heap_old _ _ _ _ HG2.out)); clear h1 hb)
      | (go_at_call 50; (with_reducible refine (c3.out (w.heap.size + 3) _ _ _ ?_ ?_ ?_ ?_).mono ?_); (focus (exact (H1.out.low (by first | omega | (simp; done) | (simp; omega))).below (by repeat' (first | with_reducible exact Below.refl _ _ | with_reducible assumption | with_reducible apply below_drewN | with_reducible apply Below.drew | with_reducible refine Below.setCell ?_ ?_ _ | with_reducible refine Below.alloc ?_ ?_ _ | omega | (simp; done) | (simp; omega))))); (focus (exact (by first | omega | (simp; done) | (simp; omega)))); (focus (first | ((repeat (first | assumption | (refine heap_new _ _ _ ?_; simp; done) | refine heap_old _ _ _ _ ?_)); done) | exact (HK.out.block _ (by first | omega | (simp; done) | (simp; omega))).trans (heap_new w1 _ _ rfl))); (focus (intro h; have := HLT.out _ h.symm; first | (simp at this; done) | (simp at this; omega))); rintro e w3 ⟨v', rfl, h1, hb, hs3⟩; have H2 := Lib.hid h1; obtain ⟨ao', cp', rfl⟩ := ownsRow_form h1; (have HG4 := Lib.hid ((hb.block (w.heap.size + 2) (by first | omega | (simp; done) | (simp; omega))).trans ((by first | exact HG3.out | exact heap_old _ _ _ _ HG3.out)))); obtain ⟨x4, y4, z4, t4⟩ := block_cells HG4.out; have x40 := x4 0 _ rfl; (have BY : Below w.heap.size w w3 := Below.trans (Below.trans BX (by repeat' (first | with_reducible exact Below.refl _ _ | with_reducible assumption | with_reducible apply below_drewN | with_reducible apply Below.drew | with_reducible refine Below.setCell ?_ ?_ _ | with_reducible refine Below.alloc ?_ ?_ _ | omega | (simp; done) | (simp; omega)))) (hb.mono (by first | omega | (simp; done) | (simp; omega)))); clear h1 hb))
    all_goals
      go_wp2_with fail
      refine bodyPost_ret (by simp [results, Try.results23, go_sem, *]; rfl) rfl ?_
      refine HW.out _ _ ?_ (BY.setCell (by simp; omega) _)
      exact ownsRow_set_type (H2.out.low (by have := HB.out; omega)) HG4.out (by decide) _ _

/-- THE CONTRACT OF With. -/
theorem bwith_any (base : Nat) (v : Value) (L : List E) (e : E) (w : World) (h : RowE w base v L) (hbase : base ≤ w.heap.size) (hs : SortedE L) (hlen : L.length ≤ 1000) : Calls Try.prog 23 #[bufV v, entV e] w (RetBuf base (withE L e) w) := by
  unfold withE
  cases hh : hasE L e with
  | true => rw [if_pos rfl]; exact bwith_old base v L e w h hs hlen hh
  | false => rw [if_neg (by decide)]; exact bwith_new base v L e w h hbase hs hlen hh

end Go.Proofs.Ytcaggboeacgknaa
