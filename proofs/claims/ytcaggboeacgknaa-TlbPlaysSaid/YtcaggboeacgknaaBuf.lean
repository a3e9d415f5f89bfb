/- Buffers of package tlb: Clone, Has, Len, Entries, With. -/
import Derived.Test.YtcaggboeacgknaaInsb
import Derived.Lib.SliceRun
namespace Go.Proofs.Ytcaggboeacgknaa
open Go.RowKit
set_option linter.unusedSimpArgs false
set_option linter.unusedVariables false

theorem RowE.below {w w' : World} {base : Nat} {v : Value} {L : List E} (h : RowE w base v L) (hb : Below w.heap.size w w') : RowE w' base v L := ownsRow_below h hb
theorem RowE.low {w : World} {base base' : Nat} {v : Value} {L : List E} (h : RowE w base v L) (hb : base' ≤ base) : RowE w base' v L := ownsRow_base h hb
theorem RowE.nil (w : World) (base : Nat) : RowE w base (.slice none 0 0) [] := World.ownsRow_nil _ _ _ _
theorem RowE.form {w : World} {base : Nat} {v : Value} {L : List E} (h : RowE w base v L) : (v = .slice none 0 0 ∧ L = []) ∨ ∃ g cap, v = .slice (some ⟨g, 0, none⟩) L.length cap ∧ g < w.heap.size ∧ base ≤ g := by
  unfold RowE at h
  rcases h.2 with ⟨hv, h0⟩ | ⟨g, cap, cur, hv, hb, hg, _⟩
  · exact .inl ⟨hv, List.eq_nil_of_length_eq_zero h0⟩
  · exact .inr ⟨g, cap, hv, (Array.getElem?_eq_some_iff.1 hg).1, hb⟩

/-- The call returns a row of its own. -/
def RetE (L : List E) (w : World) (e : Ending) (w' : World) : Prop := ∃ v', e = .returned v' ∧ RowE w' w.heap.size v' L ∧ Below w.heap.size w w'

set_option maxHeartbeats 1000000 in
theorem clone_any (base : Nat) (v : Value) (L : List E) (w : World) (h : RowE w base v L) (hlen : L.length ≤ 1000) : Calls Try.prog 51 #[v] w (RetE L w) := by
  obtain ⟨i0, hi0, hz0, hz1, hz2⟩ := info_parts infoE
  have q40 : ∀ (w : World) (a : Option Addr) (n c n' c' : Nat), (binOp .eql 40 (.slice a n c) (.slice none n' c')).run Try.prog w = .ok (.bool a.isNone) w := fun w a n c n' c' => Lib.run_eql_slice_nil w _ _ a n c n' c' Try.underlying40
  rcases h.form with ⟨rfl, rfl⟩ | ⟨g, cap, rfl, hg, _⟩
  · clear h
    go_enter Try.func51, Try.ntmps51
    go_wp2
    go_ret
    exact ⟨_, rfl, RowE.nil _ _, Below.refl _ _⟩
  · have hsrc : Hid (∀ j u, (flatE L)[j]? = some u → (w.alloc (.cells #[] 27)).cell? ((⟨g, 0, none⟩ : Addr).add j) = some u) := Lib.hid fun j u hj => by
      rw [Addr.add_lit, Nat.zero_add]
      have h1 := h
      unfold RowE at h1
      have hj' := (List.getElem?_eq_some_iff.1 hj).1
      rw [flatE_len] at hj'
      rw [((Below.refl w.heap.size w).alloc (Nat.le_refl _) _).cell (p := ⟨g, j, none⟩) hg, h1.cellAt j hj', hj]
    have hfl := Lib.hid (flatE_len L)
    have HM : Hid ((w.alloc (.cells #[] 27)).ownsRow w.heap.size 27 4 (.slice (some ⟨w.heap.size, 0, none⟩) 0 0) 0 []) := Lib.hid (World.ownsRow_made w #[] 0 (Nat.le_refl _) (Nat.zero_le _) (by simp))
    obtain ⟨n, hn⟩ : ∃ n, n = L.length := ⟨_, rfl⟩
    have HN := Lib.hid hn
    rw [← hn] at hlen hfl ⊢
    clear h hn
    go_enter Try.func51, Try.ntmps51
    go_wp2_with (at_builtin; (refine wpList_append_gen rfl (.tmp 5) (.tmp 6) 40 rfl w.heap.size 27 i0 (.agg #[.int .i64 0, .int .u64 0, .int .u64 0, .int .u64 0]) 4 32 Try.underlying40 hi0 hz0 hz1 hz2 rfl (by decide) _ 0 [] rfl HM.out (some ⟨g, 0, none⟩) n cap (flatE L) rfl (fun h => (by cases h)) hfl.out (fun ad h => (by cases h; exact hsrc.out)) (flatE_cells L) (by unfold maxLen; omega) (by omega) (by simp) ?_; intro a2 c2 w2 ho hg2 _; have G2 := Lib.hid ho; have B2 := Lib.hid (((Below.refl _ w).alloc (Nat.le_refl _) _).grown hg2 (by simp) (fun k hk => (HM.out.lt k hk).1)); clear ho hg2))
    go_ret
    exact ⟨_, rfl, by have := G2.out; unfold RowE; rw [← HN.out]; simpa using this, B2.out⟩

/-- A buffer's value. -/
@[go_sem] def bufV (v : Value) : Value := .agg #[v]

theorem blen_any (base : Nat) (v : Value) (L : List E) (w : World) (h : RowE w base v L) : Calls Try.prog 33 #[bufV v] w (RetB (.int .i64 (L.length : Nat)) w) := by
  simp only [bufV]
  rcases h.form with ⟨rfl, rfl⟩ | ⟨g, cap, rfl, hg, _⟩
  · go_enter Try.func33, Try.ntmps33
    go_wp2
    go_ret
    exact ⟨rfl, by repeat' (first | with_reducible exact Below.refl _ _ | with_reducible assumption | with_reducible apply below_drewN | with_reducible apply Below.drew | with_reducible refine Below.setCell ?_ ?_ _ | with_reducible refine Below.alloc ?_ ?_ _ | omega | (simp; done) | (simp; omega))⟩
  · go_enter Try.func33, Try.ntmps33
    go_wp2
    go_ret
    exact ⟨rfl, by repeat' (first | with_reducible exact Below.refl _ _ | with_reducible assumption | with_reducible apply below_drewN | with_reducible apply Below.drew | with_reducible refine Below.setCell ?_ ?_ _ | with_reducible refine Below.alloc ?_ ?_ _ | omega | (simp; done) | (simp; omega))⟩

theorem bentries_any (base : Nat) (v : Value) (L : List E) (w : World) (h : RowE w base v L) (hlen : L.length ≤ 1000) : Calls Try.prog 28 #[bufV v] w (RetE L w) := by
  have H := Lib.hid h
  simp only [bufV]
  rcases h.form with ⟨rfl, hl⟩ | ⟨g, cap, rfl, hg, _⟩
  · subst hl
    clear h
    go_enter Try.func28, Try.ntmps28
    go_wp2_with fail
    refine (clone_any base _ _ _ (H.out.below (by repeat' (first | with_reducible exact Below.refl _ _ | with_reducible assumption | with_reducible apply below_drewN | with_reducible apply Below.drew | with_reducible refine Below.setCell ?_ ?_ _ | with_reducible refine Below.alloc ?_ ?_ _ | omega | (simp; done) | (simp; omega)))) hlen).mono ?_
    rintro e w1 ⟨v', rfl, h1, hb⟩
    have h2 := Lib.hid (h1.low (base' := w.heap.size) (by simp))
    obtain ⟨ao, cp, rfl⟩ : ∃ ao cp, v' = .slice ao ([] : List E).length cp := ownsRow_form h1
    clear h1
    go_wp2_with fail
    go_ret
    exact ⟨_, rfl, h2.out, Below.trans (by repeat' (first | with_reducible exact Below.refl _ _ | with_reducible assumption | with_reducible apply below_drewN | with_reducible apply Below.drew | with_reducible refine Below.setCell ?_ ?_ _ | with_reducible refine Below.alloc ?_ ?_ _ | omega | (simp; done) | (simp; omega))) (hb.mono (by first | omega | (simp; done) | (simp; omega)))⟩
  · clear h
    go_enter Try.func28, Try.ntmps28
    go_wp2_with fail
    refine (clone_any base _ _ _ (H.out.below (by repeat' (first | with_reducible exact Below.refl _ _ | with_reducible assumption | with_reducible apply below_drewN | with_reducible apply Below.drew | with_reducible refine Below.setCell ?_ ?_ _ | with_reducible refine Below.alloc ?_ ?_ _ | omega | (simp; done) | (simp; omega)))) hlen).mono ?_
    rintro e w1 ⟨v', rfl, h1, hb⟩
    have h2 := Lib.hid (h1.low (base' := w.heap.size) (by simp))
    obtain ⟨ao, cp, rfl⟩ : ∃ ao cp, v' = .slice ao L.length cp := ownsRow_form h1
    clear h1
    go_wp2_with fail
    go_ret
    exact ⟨_, rfl, h2.out, Below.trans (by repeat' (first | with_reducible exact Below.refl _ _ | with_reducible assumption | with_reducible apply below_drewN | with_reducible apply Below.drew | with_reducible refine Below.setCell ?_ ?_ _ | with_reducible refine Below.alloc ?_ ?_ _ | omega | (simp; done) | (simp; omega))) (hb.mono (by first | omega | (simp; done) | (simp; omega)))⟩

theorem bs_any (base : Nat) (v : Value) (L : List E) (e : E) (w : World) (h : RowE w base v L) (hs : SortedE L) (hlen : L.length ≤ 1000) :
    Calls Try.prog 48 #[v, entV e, .func (.func 49) #[] #[]] w (RetB (.tuple #[.int .i64 (posE L e : Nat), .bool (hasE L e)]) w) := by
  rcases h.form with ⟨rfl, rfl⟩ | ⟨g, cap, rfl, hg, _⟩
  · exact bs_nil e w
  · exact bs_some g cap L e w hg (fun j hj => h.cell j hj) hs hlen

theorem bhas_any (base : Nat) (v : Value) (L : List E) (e : E) (w : World) (h : RowE w base v L) (hs : SortedE L) (hlen : L.length ≤ 1000) : Calls Try.prog 31 #[bufV v, entV e] w (RetB (.bool (hasE L e)) w) := by
  have c1 : Hid (∀ V, Below w.heap.size w V → Calls Try.prog 48 #[v, entV e, .func (.func 49) #[] #[]] V (RetB (.tuple #[.int .i64 (posE L e : Nat), .bool (hasE L e)]) V)) := Lib.hid fun V hb => bs_any base v L e V (h.below hb) hs hlen
  obtain ⟨s, p, f, l⟩ := e
  simp only [bufV, entV] at c1 ⊢
  obtain ⟨ps, hps⟩ : ∃ ps, (.int .i64 (posE L ⟨s, p, f, l⟩ : Nat) : Value) = ps := ⟨_, rfl⟩
  obtain ⟨hq, hhq⟩ : ∃ hq, hasE L ⟨s, p, f, l⟩ = hq := ⟨_, rfl⟩
  rw [hps, hhq] at c1
  rw [hhq]
  clear hps hhq
  rcases h.form with ⟨rfl, hl⟩ | ⟨g, cap, rfl, hg, _⟩
  all_goals
    clear h hs
    try clear hl
    go_enter Try.func31, Try.ntmps31
    go_wp2_with fail
    refine (c1.out _ (by repeat' (first | with_reducible exact Below.refl _ _ | with_reducible assumption | with_reducible apply below_drewN | with_reducible apply Below.drew | with_reducible refine Below.setCell ?_ ?_ _ | with_reducible refine Below.alloc ?_ ?_ _ | omega | (simp; done) | (simp; omega)))).mono ?_
    rintro e w1 ⟨rfl, hb⟩
    go_wp2_with fail
    go_ret
    exact ⟨rfl, Below.trans (by repeat' (first | with_reducible exact Below.refl _ _ | with_reducible assumption | with_reducible apply below_drewN | with_reducible apply Below.drew | with_reducible refine Below.setCell ?_ ?_ _ | with_reducible refine Below.alloc ?_ ?_ _ | omega | (simp; done) | (simp; omega))) (hb.mono (by first | omega | (simp; done) | (simp; omega)))⟩

end Go.Proofs.Ytcaggboeacgknaa
