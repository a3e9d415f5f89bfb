/- Buffer.Without. -/
import Derived.Test.YtcaggboeacgknaaWith
import Derived.Test.YtcaggboeacgknaaDel
namespace Go.Proofs.Ytcaggboeacgknaa
open Go.RowKit
set_option linter.unusedSimpArgs false
set_option linter.unusedVariables false

/-- Without an entry. -/
def withoutE (L : List E) (e : E) : List E := if hasE L e = true then L.take (posE L e) ++ L.drop (posE L e + 1) else L

set_option maxHeartbeats 2000000 in
theorem bwout_old (base : Nat) (v : Value) (L : List E) (e : E) (w : World) (h : RowE w base v L) (hs : SortedE L) (hlen : L.length ≤ 1000) (hh : hasE L e = false) : Calls Try.prog 29 #[bufV v, entV e] w (RetBuf base L w) := by
  have HO := Lib.hid h
  have c1 : Hid (∀ V, Below w.heap.size w V → Calls Try.prog 48 #[v, entV e, .func (.func 49) #[] #[]] V (RetB (.tuple #[.int .i64 (posE L e : Nat), .bool false]) V)) := Lib.hid fun V hb => by rw [← hh]; exact bs_any base v L e V (h.below hb) hs hlen
  obtain ⟨s, p, f, l⟩ := e
  simp only [bufV, entV] at c1 ⊢
  obtain ⟨ps, hps⟩ : ∃ ps, (posE L ⟨s, p, f, l⟩ : Nat) = ps := ⟨_, rfl⟩
  rw [hps] at c1
  clear hps hh
  have HW : Hid (∀ v', v' = v → ∀ w', Below w.heap.size w w' → RetBuf base L w (.returned (.agg #[v'])) w') := Lib.hid fun v' hv _ hb => ⟨v, by rw [hv]; rfl, HO.out.below hb, hb⟩
  rcases h.form with ⟨rfl, hl⟩ | ⟨g, cap, rfl, hg, _⟩
  all_goals
    clear h hs
    try clear hl
    go_enter Try.func29, Try.ntmps29
    go_wp2_with fail
    refine (c1.out _ (by repeat' (first | with_reducible exact Below.refl _ _ | with_reducible assumption | with_reducible apply below_drewN | with_reducible apply Below.drew | with_reducible refine Below.setCell ?_ ?_ _ | with_reducible refine Below.alloc ?_ ?_ _ | omega | (simp; done) | (simp; omega)))).mono ?_
    rintro e w1 ⟨rfl, hb⟩
    have hs1 := hb.size
    obtain ⟨k1, k2, k3, k4⟩ := keepB hb w.heap.size (by first | omega | (simp; done) | (simp; omega))
    obtain ⟨m1, m2, m3, m4⟩ := keepB hb (w.heap.size + 2) (by first | omega | (simp; done) | (simp; omega))
    have BW : Below w.heap.size w w1 := Below.trans (by repeat' (first | with_reducible exact Below.refl _ _ | with_reducible assumption | with_reducible apply below_drewN | with_reducible apply Below.drew | with_reducible refine Below.setCell ?_ ?_ _ | with_reducible refine Below.alloc ?_ ?_ _ | omega | (simp; done) | (simp; omega))) (hb.mono (by first | omega | (simp; done) | (simp; omega)))
    clear hb
    go_wp2_with fail
    refine bodyPost_ret (by simp [results, Try.results29, go_sem, *]; rfl) rfl ?_
    exact HW.out _ rfl _ (Below.trans BW (by repeat' (first | with_reducible exact Below.refl _ _ | with_reducible assumption | with_reducible apply below_drewN | with_reducible apply Below.drew | with_reducible refine Below.setCell ?_ ?_ _ | with_reducible refine Below.alloc ?_ ?_ _ | omega | (simp; done) | (simp; omega))))

set_option maxHeartbeats 8000000 in
theorem bwout_new (base : Nat) (v : Value) (L : List E) (e : E) (w : World) (h : RowE w base v L) (hbase : base ≤ w.heap.size) (hs : SortedE L) (hlen : L.length ≤ 1000) (hh : hasE L e = true) : Calls Try.prog 29 #[bufV v, entV e] w (RetBuf base (L.take (posE L e) ++ L.drop (posE L e + 1)) w) := by
  have HO := Lib.hid h
  have c1 : Hid (∀ V, Below w.heap.size w V → Calls Try.prog 48 #[v, entV e, .func (.func 49) #[] #[]] V (RetB (.tuple #[.int .i64 (posE L e : Nat), .bool true]) V)) := Lib.hid fun V hb => by rw [← hh]; exact bs_any base v L e V (h.below hb) hs hlen
  have c2 : Hid (∀ V, Below w.heap.size w V → Calls Try.prog 51 #[v] V (RetE L V)) := Lib.hid fun V hb => clone_any base v L V (h.below hb) hlen
  have hpl : posE L e < L.length := ((hasE_iff hs).1 hh).1
  obtain ⟨R, hR⟩ : ∃ R, R = L.take (posE L e) ++ L.drop (posE L e + 1) := ⟨_, rfl⟩
  have c3 : Hid (∀ B v' V, RowE V B v' L → Calls Try.prog 56 #[v', .int .i64 (posE L e : Nat), .int .i64 ((posE L e : Nat) + 1)] V (RetIns B R V)) := Lib.hid fun B v' V h1 => by rw [hR]; exact delete_any B v' L _ V h1 hpl hlen
  rw [← hR]
  clear hR
  obtain ⟨s, p, f, l⟩ := e
  simp only [bufV, entV] at c1 c3 ⊢
  obtain ⟨ps, hps⟩ : ∃ ps, (posE L ⟨s, p, f, l⟩ : Nat) = ps := ⟨_, rfl⟩
  rw [hps] at c1 c3 hpl
  obtain ⟨n, hn⟩ : ∃ n, n = L.length := ⟨_, rfl⟩
  have HN := Lib.hid hn
  rw [← hn] at hlen hpl
  have HB := Lib.hid hbase
  have HW : Hid (∀ v' V, RowE V base v' R → Below w.heap.size w V → RetBuf base R w (.returned (.agg #[v'])) V) := Lib.hid fun v' V h1 h2 => ⟨_, rfl, h1, h2⟩
  have hf := h.form
  rw [← hn] at hf
  clear hps hh
  rcases hf with ⟨rfl, hl⟩ | ⟨g, cap, rfl, hg, _⟩
  all_goals
    clear h hs hn hbase
    try clear hl
    go_enter Try.func29, Try.ntmps29
    go_wp2_with fail
    refine (c1.out _ (by repeat' (first | with_reducible exact Below.refl _ _ | with_reducible assumption | with_reducible apply below_drewN | with_reducible apply Below.drew | with_reducible refine Below.setCell ?_ ?_ _ | with_reducible refine Below.alloc ?_ ?_ _ | omega | (simp; done) | (simp; omega)))).mono ?_
    rintro e w1 ⟨rfl, hb⟩
    have hs1 := hb.size
    have hz1 : w.heap.size + 3 ≤ w1.heap.size := by simpa using hs1
    obtain ⟨k1, k2, k3, k4⟩ := keepB hb w.heap.size (by first | omega | (simp; done) | (simp; omega))
    obtain ⟨l1, l2, l3, l4⟩ := keepB hb (w.heap.size + 1) (by first | omega | (simp; done) | (simp; omega))
    obtain ⟨m1, m2, m3, m4⟩ := keepB hb (w.heap.size + 2) (by first | omega | (simp; done) | (simp; omega))
    have BW : Below w.heap.size w w1 := Below.trans (by repeat' (first | with_reducible exact Below.refl _ _ | with_reducible assumption | with_reducible apply below_drewN | with_reducible apply Below.drew | with_reducible refine Below.setCell ?_ ?_ _ | with_reducible refine Below.alloc ?_ ?_ _ | omega | (simp; done) | (simp; omega))) (hb.mono (by first | omega | (simp; done) | (simp; omega)))
    have HG2 := Lib.hid ((hb.block (w.heap.size + 2) (by first | omega | (simp; done) | (simp; omega))).trans (by (repeat (first | assumption | (refine heap_new _ _ _ ?_; simp; done) | refine heap_old _ _ _ _ ?_)) : _ = some (.cells #[.slice none 0 0] 42)))
    have HG1 := Lib.hid ((hb.block (w.heap.size + 1) (by first | omega | (simp; done) | (simp; omega))).trans (by (repeat (first | assumption | (refine heap_new _ _ _ ?_; simp; done) | refine heap_old _ _ _ _ ?_)) : _ = some (.cells #[.int .i64 s, .int .u64 p, .int .u64 f, .int .u64 l] 27)))
    clear hb
    go_wp2_with (first
      | (go_at_call 51; (with_reducible refine (c2.out _ ?_).mono ?_); (focus repeat' (first | with_reducible exact Below.refl _ _ | with_reducible assumption | with_reducible apply below_drewN | with_reducible apply Below.drew | with_reducible refine Below.setCell ?_ ?_ _ | with_reducible refine Below.alloc ?_ ?_ _ | omega | (simp; done) | (simp; omega))); rintro e w2 ⟨v', rfl, h1, hb⟩; have hs2 := hb.size; have H1 := Lib.hid h1; obtain ⟨ao, cp, rfl⟩ := ownsRow_form h1; have HK := Lib.hid hb; have BX : Below w.heap.size w w2 := Below.trans BW (hb.mono (by omega)); have HG3 := Lib.hid ((hb.block (w.heap.size + 2) (by omega)).trans HG2.out); clear h1 hb)
      | (go_at_call 56; (with_reducible refine (c3.out (w.heap.size + 3) _ _ ?_).mono ?_); (focus (exact H1.out.low (by omega))); rintro e w3 ⟨v', rfl, h1, hb, hs3⟩; have H2 := Lib.hid h1; obtain ⟨ao', cp', rfl⟩ := ownsRow_form h1; (have HG4 := Lib.hid ((hb.block (w.heap.size + 2) (by omega)).trans HG3.out)); obtain ⟨x4, y4, z4, t4⟩ := block_cells HG4.out; have x40 := x4 0 _ rfl; (have BY : Below w.heap.size w w3 := Below.trans BX (hb.mono (by omega))); clear h1 hb))
    refine bodyPost_ret (by simp [results, Try.results29, go_sem, *]; rfl) rfl ?_
    refine HW.out _ _ ?_ (BY.setCell (by simp; omega) _)
    exact ownsRow_set_type (H2.out.low (by have := HB.out; omega)) HG4.out (by decide) _ _

/-- THE CONTRACT OF Without. -/
theorem bwout_any (base : Nat) (v : Value) (L : List E) (e : E) (w : World) (h : RowE w base v L) (hbase : base ≤ w.heap.size) (hs : SortedE L) (hlen : L.length ≤ 1000) : Calls Try.prog 29 #[bufV v, entV e] w (RetBuf base (withoutE L e) w) := by
  unfold withoutE
  cases hh : hasE L e with
  | true => rw [if_pos rfl]; exact bwout_new base v L e w h hbase hs hlen hh
  | false => rw [if_neg (by decide)]; exact bwout_old base v L e w h hs hlen hh

end Go.Proofs.Ytcaggboeacgknaa
