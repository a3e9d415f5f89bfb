/- Contracts of package tlb's questions on one entry, and of their reference. -/
import Derived.Test.YtcaggboeacgknaaTlb
namespace Go.Proofs.Ytcaggboeacgknaa
set_option linter.unusedSimpArgs false
set_option linter.unusedVariables false
open Go.RowKit

set_option maxHeartbeats 1000000 in
theorem covers_any (e : E) (va : Int) (w : World) (he : U64 e.first) (ha : U64 va) : Calls Try.prog 15 #[entV e, .int .u64 va] w (RetB (.bool (coversB e va)) w) := by
  obtain ⟨s, p, f, l⟩ := e
  simp only at he
  have He := Lib.hid he
  have Ha := Lib.hid ha
  clear he ha
  simp only [entV]
  go_enter Try.func15, Try.ntmps15
  go_wp2_with fail
  refine wp_region_qb1 w.heap.size (by kernel_rfl) (by kernel_rfl) (by first | omega | (simp; done) | (simp; omega)) (fun kq => ?_); (repeat (go_big_quiet_step (first | (go_at_call 43; exact quietB (size_any ⟨s, p, f, l⟩ _ He.out)) | (go_at_call 39; exact quietBR (down_any _ _ _ Ha.out))))); refine wpQuiet_nil ?_; clear kq; intro wq hb
  go_wp2
  go_ret
  exact ⟨rfl, Below.trans (by repeat' (first | with_reducible exact Below.refl _ _ | with_reducible assumption | with_reducible apply below_drewN | with_reducible apply Below.drew | with_reducible refine Below.setCell ?_ ?_ _ | with_reducible refine Below.alloc ?_ ?_ _ | omega | (simp; done) | (simp; omega))) (hb.mono (by first | omega | (simp; done) | (simp; omega)))⟩

set_option maxHeartbeats 1000000 in
theorem refCovers_any (e : E) (va : Int) (w : World) (he : U64 e.first) (ha : U64 va) : Calls Try.prog 16 #[entV e, .int .u64 va] w (RetB (.bool (coversB e va)) w) := by
  obtain ⟨s, p, f, l⟩ := e
  simp only at he
  have He := Lib.hid he
  have Ha := Lib.hid ha
  clear he ha
  cases hk : blockB f
  all_goals
    have HK := Lib.hid hk
    have HB := Lib.hid (show bitsZ ⟨s, p, f, l⟩ = _ by unfold bitsZ; simp only [hk]; rfl)
    clear hk
    simp only [entV]
    go_enter Try.func16, Try.ntmps16
    go_wp2_with (go_at_call 41; refine (refBlock_any _ _ He.out).mono ?_; rintro e w1 ⟨rfl, hb⟩; have B : Below w.heap.size w w1 := Below.trans (by repeat' (first | with_reducible exact Below.refl _ _ | with_reducible assumption | with_reducible apply below_drewN | with_reducible apply Below.drew | with_reducible refine Below.setCell ?_ ?_ _ | with_reducible refine Below.alloc ?_ ?_ _ | omega | (simp; done) | (simp; omega))) (hb.mono (by first | omega | (simp; done) | (simp; omega))); have Bz := B.size; obtain ⟨k1, k2, k3, k4⟩ := keepB hb w.heap.size (by first | omega | (simp; done) | (simp; omega)); clear hb; rw [HK.out])
    refine wp_region_qb1 w.heap.size (by kernel_rfl) (by kernel_rfl) (by first | omega | (simp; done) | (simp; omega)) (fun kq => ?_); (repeat (go_big_quiet_step ((go_at_call 42; exact quietB (refDown_any _ _ _ Ha.out (by decide) (by decide)))))); refine wpQuiet_nil ?_; clear kq; intro wq hb
    go_wp2
    go_ret
    exact ⟨by unfold coversB; rw [HB.out]; rfl, Below.trans B (hb.mono (by first | omega | (simp; done) | (simp; omega)))⟩

set_option maxHeartbeats 1000000 in
theorem serves_any (e : E) (sp va : Int) (w : World) (hf : U64 e.first) (hl : U64 e.last) (ha : U64 va) : Calls Try.prog 17 #[entV e, .int .i64 sp, .int .u64 va] w (RetB (.bool (servesB e sp va)) w) := by
  obtain ⟨s, p, f, l⟩ := e
  simp only at hf hl
  have Hf := Lib.hid hf
  have Hl := Lib.hid hl
  have Ha := Lib.hid ha
  clear hf hl ha
  simp only [entV]
  cases hc : coversB ⟨s, p, f, l⟩ va <;> cases hs : (s == sp) <;> cases ho : ownB ⟨s, p, f, l⟩
  all_goals
    have HV := Lib.hid (show servesB ⟨s, p, f, l⟩ sp va = _ by unfold servesB; rw [hc, hs, ho])
    have HC := Lib.hid hc
    have HO := Lib.hid ho
    clear hc ho
    go_enter Try.func17, Try.ntmps17
    go_wp2_with (first | (go_at_call 15; refine (covers_any ⟨s, p, f, l⟩ _ _ Hf.out Ha.out).mono ?_; rintro e w1 ⟨rfl, hb⟩; have B : Below w.heap.size w w1 := Below.trans (by repeat' (first | with_reducible exact Below.refl _ _ | with_reducible assumption | with_reducible apply below_drewN | with_reducible apply Below.drew | with_reducible refine Below.setCell ?_ ?_ _ | with_reducible refine Below.alloc ?_ ?_ _ | omega | (simp; done) | (simp; omega))) (hb.mono (by first | omega | (simp; done) | (simp; omega))); have Bz := B.size; obtain ⟨k1, k2, k3, k4⟩ := keepB hb w.heap.size (by first | omega | (simp; done) | (simp; omega)); clear hb; rw [HC.out]) | (go_at_call 44; refine (own_any ⟨s, p, f, l⟩ _ Hf.out Hl.out).mono ?_; rintro e w2 ⟨rfl, hb⟩; have B : Below w.heap.size w w2 := Below.trans (by repeat' (first | with_reducible exact Below.refl _ _ | with_reducible assumption | with_reducible apply below_drewN | with_reducible apply Below.drew | with_reducible refine Below.setCell ?_ ?_ _ | with_reducible refine Below.alloc ?_ ?_ _ | omega | (simp; done) | (simp; omega))) (hb.mono (by first | omega | (simp; done) | (simp; omega))); have Bz := B.size; clear hb; rw [HO.out]))
    go_ret
    exact ⟨by rw [HV.out]; rfl, by repeat' (first | with_reducible exact Below.refl _ _ | with_reducible assumption | with_reducible apply below_drewN | with_reducible apply Below.drew | with_reducible refine Below.setCell ?_ ?_ _ | with_reducible refine Below.alloc ?_ ?_ _ | omega | (simp; done) | (simp; omega))⟩

set_option maxHeartbeats 1000000 in
theorem refServes_any (e : E) (sp va : Int) (w : World) (hf : U64 e.first) (hl : U64 e.last) (ha : U64 va) : Calls Try.prog 18 #[entV e, .int .i64 sp, .int .u64 va] w (RetB (.bool (servesB e sp va)) w) := by
  obtain ⟨s, p, f, l⟩ := e
  simp only at hf hl
  have Hf := Lib.hid hf
  have Hl := Lib.hid hl
  have Ha := Lib.hid ha
  clear hf hl ha
  simp only [entV]
  cases hc : coversB ⟨s, p, f, l⟩ va <;> cases hs : (s == sp) <;> cases ho : ownB ⟨s, p, f, l⟩
  all_goals
    have HV := Lib.hid (show servesB ⟨s, p, f, l⟩ sp va = _ by unfold servesB; rw [hc, hs, ho])
    have HC := Lib.hid hc
    have HO := Lib.hid ho
    clear hc ho
    go_enter Try.func18, Try.ntmps18
    go_wp2_with (first | (go_at_call 16; refine (refCovers_any ⟨s, p, f, l⟩ _ _ Hf.out Ha.out).mono ?_; rintro e w1 ⟨rfl, hb⟩; have B : Below w.heap.size w w1 := Below.trans (by repeat' (first | with_reducible exact Below.refl _ _ | with_reducible assumption | with_reducible apply below_drewN | with_reducible apply Below.drew | with_reducible refine Below.setCell ?_ ?_ _ | with_reducible refine Below.alloc ?_ ?_ _ | omega | (simp; done) | (simp; omega))) (hb.mono (by first | omega | (simp; done) | (simp; omega))); have Bz := B.size; obtain ⟨k1, k2, k3, k4⟩ := keepB hb w.heap.size (by first | omega | (simp; done) | (simp; omega)); clear hb; rw [HC.out]) | (go_at_call 45; refine (refOwn_any ⟨s, p, f, l⟩ _ Hf.out Hl.out).mono ?_; rintro e w2 ⟨rfl, hb⟩; have B : Below w.heap.size w w2 := Below.trans (by repeat' (first | with_reducible exact Below.refl _ _ | with_reducible assumption | with_reducible apply below_drewN | with_reducible apply Below.drew | with_reducible refine Below.setCell ?_ ?_ _ | with_reducible refine Below.alloc ?_ ?_ _ | omega | (simp; done) | (simp; omega))) (hb.mono (by first | omega | (simp; done) | (simp; omega))); have Bz := B.size; obtain ⟨k1, k2, k3, k4⟩ := keepB hb w.heap.size (by first | omega | (simp; done) | (simp; omega)); clear hb; rw [HO.out]))
    go_ret
    exact ⟨by rw [HV.out]; rfl, by repeat' (first | with_reducible exact Below.refl _ _ | with_reducible assumption | with_reducible apply below_drewN | with_reducible apply Below.drew | with_reducible refine Below.setCell ?_ ?_ _ | with_reducible refine Below.alloc ?_ ?_ _ | omega | (simp; done) | (simp; omega))⟩

/-- An invalidation. -/
structure F where
  kind : Int
  page : Int
  space : Int
  deriving DecidableEq
@[go_sem] def flushV (f : F) : Value := .agg #[.int .i64 f.kind, .int .u64 f.page, .int .i64 f.space]
def F.ok (f : F) : Prop := I64 f.kind ∧ U64 f.page ∧ I64 f.space

def takesB (f : F) (e : E) : Bool :=
  if (f.kind == 0) = true then true else if (f.kind == 1) = true then servesB e f.space f.page else if (f.kind == 2) = true then coversB e f.page else if (f.kind == 3) = true then ownB e && e.space == f.space else false

set_option maxHeartbeats 1000000 in
theorem takes_any (f : F) (e : E) (w : World) (hp : U64 f.page) (hf : U64 e.first) (hl : U64 e.last) : Calls Try.prog 19 #[flushV f, entV e] w (RetB (.bool (takesB f e)) w) := by
  obtain ⟨k, pg, sp⟩ := f
  obtain ⟨s, p, fi, la⟩ := e
  simp only at hp hf hl
  have Hf := Lib.hid hf
  have Hl := Lib.hid hl
  have Hp := Lib.hid hp
  clear hf hl hp
  simp only [entV, flushV]
  go_enter Try.func19, Try.ntmps19
  go_wp2_with (first | (go_at_call 17; refine (serves_any ⟨s, p, fi, la⟩ _ _ _ Hf.out Hl.out Hp.out).mono ?_; rintro e w1 ⟨rfl, hb⟩; have B : Below w.heap.size w w1 := Below.trans (by repeat' (first | with_reducible exact Below.refl _ _ | with_reducible assumption | with_reducible apply below_drewN | with_reducible apply Below.drew | with_reducible refine Below.setCell ?_ ?_ _ | with_reducible refine Below.alloc ?_ ?_ _ | omega | (simp; done) | (simp; omega))) (hb.mono (by first | omega | (simp; done) | (simp; omega))); have Bz := B.size; clear hb) | (go_at_call 15; refine (covers_any ⟨s, p, fi, la⟩ _ _ Hf.out Hp.out).mono ?_; rintro e w1 ⟨rfl, hb⟩; have B : Below w.heap.size w w1 := Below.trans (by repeat' (first | with_reducible exact Below.refl _ _ | with_reducible assumption | with_reducible apply below_drewN | with_reducible apply Below.drew | with_reducible refine Below.setCell ?_ ?_ _ | with_reducible refine Below.alloc ?_ ?_ _ | omega | (simp; done) | (simp; omega))) (hb.mono (by first | omega | (simp; done) | (simp; omega))); have Bz := B.size; clear hb) | (go_at_call 44; refine (own_any ⟨s, p, fi, la⟩ _ Hf.out Hl.out).mono ?_; rintro e w1 ⟨rfl, hb⟩; have B : Below w.heap.size w w1 := Below.trans (by repeat' (first | with_reducible exact Below.refl _ _ | with_reducible assumption | with_reducible apply below_drewN | with_reducible apply Below.drew | with_reducible refine Below.setCell ?_ ?_ _ | with_reducible refine Below.alloc ?_ ?_ _ | omega | (simp; done) | (simp; omega))) (hb.mono (by first | omega | (simp; done) | (simp; omega))); have Bz := B.size; obtain ⟨k1, k2, k3, k4⟩ := keepB hb w.heap.size (by first | omega | (simp; done) | (simp; omega)); obtain ⟨j1, j2, j3, j4⟩ := keepB hb (w.heap.size + 1) (by first | omega | (simp; done) | (simp; omega)); clear hb))
  all_goals
    go_ret
    refine ⟨?_, by repeat' (first | with_reducible exact Below.refl _ _ | with_reducible assumption | with_reducible apply below_drewN | with_reducible apply Below.drew | with_reducible refine Below.setCell ?_ ?_ _ | with_reducible refine Below.alloc ?_ ?_ _ | omega | (simp; done) | (simp; omega))⟩
    go_tidy
    simp [takesB, *]

set_option maxHeartbeats 1000000 in
theorem refTakes_any (f : F) (e : E) (w : World) (hp : U64 f.page) (hf : U64 e.first) (hl : U64 e.last) : Calls Try.prog 20 #[flushV f, entV e] w (RetB (.bool (takesB f e)) w) := by
  obtain ⟨k, pg, sp⟩ := f
  obtain ⟨s, p, fi, la⟩ := e
  simp only at hp hf hl
  have Hf := Lib.hid hf
  have Hl := Lib.hid hl
  have Hp := Lib.hid hp
  clear hf hl hp
  simp only [entV, flushV]
  go_enter Try.func20, Try.ntmps20
  go_wp2_with (first | (go_at_call 18; refine (refServes_any ⟨s, p, fi, la⟩ _ _ _ Hf.out Hl.out Hp.out).mono ?_; rintro e w1 ⟨rfl, hb⟩; have B : Below w.heap.size w w1 := Below.trans (by repeat' (first | with_reducible exact Below.refl _ _ | with_reducible assumption | with_reducible apply below_drewN | with_reducible apply Below.drew | with_reducible refine Below.setCell ?_ ?_ _ | with_reducible refine Below.alloc ?_ ?_ _ | omega | (simp; done) | (simp; omega))) (hb.mono (by first | omega | (simp; done) | (simp; omega))); have Bz := B.size; clear hb) | (go_at_call 16; refine (refCovers_any ⟨s, p, fi, la⟩ _ _ Hf.out Hp.out).mono ?_; rintro e w1 ⟨rfl, hb⟩; have B : Below w.heap.size w w1 := Below.trans (by repeat' (first | with_reducible exact Below.refl _ _ | with_reducible assumption | with_reducible apply below_drewN | with_reducible apply Below.drew | with_reducible refine Below.setCell ?_ ?_ _ | with_reducible refine Below.alloc ?_ ?_ _ | omega | (simp; done) | (simp; omega))) (hb.mono (by first | omega | (simp; done) | (simp; omega))); have Bz := B.size; clear hb) | (go_at_call 45; refine (refOwn_any ⟨s, p, fi, la⟩ _ Hf.out Hl.out).mono ?_; rintro e w1 ⟨rfl, hb⟩; have B : Below w.heap.size w w1 := Below.trans (by repeat' (first | with_reducible exact Below.refl _ _ | with_reducible assumption | with_reducible apply below_drewN | with_reducible apply Below.drew | with_reducible refine Below.setCell ?_ ?_ _ | with_reducible refine Below.alloc ?_ ?_ _ | omega | (simp; done) | (simp; omega))) (hb.mono (by first | omega | (simp; done) | (simp; omega))); have Bz := B.size; obtain ⟨k1, k2, k3, k4⟩ := keepB hb w.heap.size (by first | omega | (simp; done) | (simp; omega)); obtain ⟨j1, j2, j3, j4⟩ := keepB hb (w.heap.size + 1) (by first | omega | (simp; done) | (simp; omega)); clear hb))
  all_goals
    go_ret
    refine ⟨?_, by repeat' (first | with_reducible exact Below.refl _ _ | with_reducible assumption | with_reducible apply below_drewN | with_reducible apply Below.drew | with_reducible refine Below.setCell ?_ ?_ _ | with_reducible refine Below.alloc ?_ ?_ _ | omega | (simp; done) | (simp; omega))⟩
    go_tidy
    simp [takesB, *]

end Go.Proofs.Ytcaggboeacgknaa
