/- The statement TlbTakes: proved of every input, without condition. -/
import Derived.Test.YtcaggboeacgknaaRows
import Derived.Test.YtcaggboeacgknaaAwake09
namespace Go.Proofs.Ytcaggboeacgknaa
open Go.ChangeShapes Go.WideShapes Go.ChangeAt Go.RowKit
set_option linter.unusedVariables false

/-- A region that reads two old blocks. -/
theorem wp_region_qb2 {P : Program} {id : Nat} {Q : Exit → Act → World → Prop} {a : Act} {w : World} {l : List Oper} (b c : Nat) (hm : P.follows .mixedOrders = true) (hB : Region.lexB .any l.toArray = true) (hb : b < w.heap.size) (hc : c < w.heap.size)
    (h : (∀ d os o, (Sort.grow (redrawn w d) os).cell? ⟨b, o, none⟩ = w.cell? ⟨b, o, none⟩) → (∀ d os o, (Sort.grow (redrawn w d) os).cell? ⟨c, o, none⟩ = w.cell? ⟨c, o, none⟩) →
      wpQuiet P l.toArray (fun w' => ∃ p : Regrown, w' = Sort.grow (redrawn w p.d) p.os) (fun a' => ∀ w', Below w.heap.size w w' → Q .normal a' w') l a) : (Code.region id l.toArray true).wp P Q a w :=
  wp_region_qb hm hB (h (fun d os o => (below_regrown w d os).cell (p := ⟨b, o, none⟩) hb) (fun d os o => (below_regrown w d os).cell (p := ⟨c, o, none⟩) hc))

set_option maxHeartbeats 2000000 in
theorem tlbTakes_walk (fl : F) (e : E) (a : Int) (hfl : fl.ok) (he : e.ok) (ha : U64 a) (w : World) : Calls Try.prog 6 #[flushV fl, entV e, .int .u64 a] w (RetB (.bool true) w) := by
  obtain ⟨s, p, f, l⟩ := e
  obtain ⟨k, pg, sp⟩ := fl
  obtain ⟨-, -, hf, hl⟩ := he
  obtain ⟨-, hpg, -⟩ := hfl
  simp only at hf hl hpg
  have Hf := Lib.hid hf
  have Hl := Lib.hid hl
  have Hp := Lib.hid hpg
  have Ha := Lib.hid ha
  clear hf hl hpg ha
  simp only [entV, flushV]
  by_cases hk : k < 0
  · go_enter Try.func6, Try.ntmps6
    go_wp2_with (go_at_call 12; refine (awake_any _).mono ?_; rintro e w1 ⟨rfl, hb⟩; have B : Below w.heap.size w w1 := Below.trans (by repeat' (first | with_reducible exact Below.refl _ _ | with_reducible assumption | with_reducible apply below_drewN | with_reducible apply Below.drew | with_reducible refine Below.setCell ?_ ?_ _ | with_reducible refine Below.alloc ?_ ?_ _ | omega | (simp; done) | (simp; omega))) (hb.mono (by first | omega | (simp; done) | (simp; omega))); have Bz := B.size; obtain ⟨k1, k2, k3, k4⟩ := keepB hb w.heap.size (by first | omega | (simp; done) | (simp; omega)); obtain ⟨j1, j2, j3, j4⟩ := keepB hb (w.heap.size + 1) (by first | omega | (simp; done) | (simp; omega)); clear hb)
    refine wp_region_qb2 w.heap.size (w.heap.size + 1) (by kernel_rfl) (by kernel_rfl) (by first | omega | (simp; done) | (simp; omega)) (by first | omega | (simp; done) | (simp; omega)) (fun kq kr => ?_)
    (repeat (go_big_quiet_step (first | (go_at_call 19; exact quietB (takes_any ⟨k, pg, sp⟩ ⟨s, p, f, l⟩ _ Hp.out Hf.out Hl.out)) | (go_at_call 20; exact quietB (refTakes_any ⟨k, pg, sp⟩ ⟨s, p, f, l⟩ _ Hp.out Hf.out Hl.out)))))
    refine wpQuiet_nil ?_
    clear kq kr
    intro w2 hb
    have B : Below w.heap.size w w2 := Below.trans (by repeat' (first | with_reducible exact Below.refl _ _ | with_reducible assumption | with_reducible apply below_drewN | with_reducible apply Below.drew | with_reducible refine Below.setCell ?_ ?_ _ | with_reducible refine Below.alloc ?_ ?_ _ | omega | (simp; done) | (simp; omega))) (hb.mono (by first | omega | (simp; done) | (simp; omega))); have Bz := B.size
    obtain ⟨k1, k2, k3, k4⟩ := keepB hb w.heap.size (by first | omega | (simp; done) | (simp; omega))
    clear hb
    go_wp2_with fail
    refine wp_region_qb1 w.heap.size (by kernel_rfl) (by kernel_rfl) (by first | omega | (simp; done) | (simp; omega)) (fun kq => ?_); (repeat (go_big_quiet_step (fail))); refine wpQuiet_nil ?_; clear kq; intro wq hb
    go_wp2
    go_ret
    exact ⟨rfl, Below.trans (by repeat' (first | with_reducible exact Below.refl _ _ | with_reducible assumption | with_reducible apply below_drewN | with_reducible apply Below.drew | with_reducible refine Below.setCell ?_ ?_ _ | with_reducible refine Below.alloc ?_ ?_ _ | omega | (simp; done) | (simp; omega))) (hb.mono (by first | omega | (simp; done) | (simp; omega)))⟩
  · have hk' : 0 ≤ k := by omega
    have HK := Lib.hid hk'
    have hd : decide (k < 0) = false := by simpa using hk'
    clear hk'
    go_enter Try.func6, Try.ntmps6
    go_wp2_with (go_at_call 12; refine (awake_any _).mono ?_; rintro e w1 ⟨rfl, hb⟩; have B : Below w.heap.size w w1 := Below.trans (by repeat' (first | with_reducible exact Below.refl _ _ | with_reducible assumption | with_reducible apply below_drewN | with_reducible apply Below.drew | with_reducible refine Below.setCell ?_ ?_ _ | with_reducible refine Below.alloc ?_ ?_ _ | omega | (simp; done) | (simp; omega))) (hb.mono (by first | omega | (simp; done) | (simp; omega))); have Bz := B.size; obtain ⟨k1, k2, k3, k4⟩ := keepB hb w.heap.size (by first | omega | (simp; done) | (simp; omega)); obtain ⟨j1, j2, j3, j4⟩ := keepB hb (w.heap.size + 1) (by first | omega | (simp; done) | (simp; omega)); clear hb)
    refine wp_region_qb2 w.heap.size (w.heap.size + 1) (by kernel_rfl) (by kernel_rfl) (by first | omega | (simp; done) | (simp; omega)) (by first | omega | (simp; done) | (simp; omega)) (fun kq kr => ?_)
    (repeat (go_big_quiet_step (first | (go_at_call 19; exact quietB (takes_any ⟨k, pg, sp⟩ ⟨s, p, f, l⟩ _ Hp.out Hf.out Hl.out)) | (go_at_call 20; exact quietB (refTakes_any ⟨k, pg, sp⟩ ⟨s, p, f, l⟩ _ Hp.out Hf.out Hl.out)))))
    refine wpQuiet_nil ?_
    clear kq kr
    intro w2 hb
    have B : Below w.heap.size w w2 := Below.trans (by repeat' (first | with_reducible exact Below.refl _ _ | with_reducible assumption | with_reducible apply below_drewN | with_reducible apply Below.drew | with_reducible refine Below.setCell ?_ ?_ _ | with_reducible refine Below.alloc ?_ ?_ _ | omega | (simp; done) | (simp; omega))) (hb.mono (by first | omega | (simp; done) | (simp; omega))); have Bz := B.size
    obtain ⟨k1, k2, k3, k4⟩ := keepB hb w.heap.size (by first | omega | (simp; done) | (simp; omega))
    clear hb
    go_wp2_with fail
    refine wp_region_qb1 w.heap.size (by kernel_rfl) (by kernel_rfl) (by first | omega | (simp; done) | (simp; omega)) (fun kq => ?_); (repeat (go_big_quiet_step (first | (go_at_call 21; exact quietB (flushOf_any _ _ _ HK.out Ha.out)) | (go_at_call 22; exact quietB (refFlushOf_any _ _ _ HK.out Ha.out))))); refine wpQuiet_nil ?_; clear kq; intro wq hb
    go_wp2
    go_ret
    exact ⟨rfl, Below.trans (by repeat' (first | with_reducible exact Below.refl _ _ | with_reducible assumption | with_reducible apply below_drewN | with_reducible apply Below.drew | with_reducible refine Below.setCell ?_ ?_ _ | with_reducible refine Below.alloc ?_ ?_ _ | omega | (simp; done) | (simp; omega))) (hb.mono (by first | omega | (simp; done) | (simp; omega)))⟩

set_option maxRecDepth 100000 in
theorem tlbTakes_lifted (os : Os) (started : os.Started) (H : Type) (enc : TypeId × Value → H) :
    ReturnsInHanded {} Try.checked os 6 .any (Rows.tlbTakesSpec.pre6 enc Try.prog Try.f6 Rows.tlbTakesRow.domain false) (Rows.tlbTakesSpec.post enc Try.prog Try.f6 false true false false) := by
  refine returnsInHanded_of_change (C := Try.checked) own started (by kernel_rfl) Try.func6
    (ChangeSpec.witness6 (enc := enc) (C := Try.checked) false ⟨#[], #[flushV ⟨0, 0, 0⟩, entV E.zero, .int .u64 0], []⟩ 8 (by kernel_rfl) (by kernel_rfl) (by kernel_rfl) (by kernel_rfl)) ?_
  intro W base args ds gs before hval0 hW _ _
  have hval : ∀ (j : Nat) t v, Try.f6.params[j]? = some t → args[j]? = some v → Value.okWide Try.prog W .any base t v := hval0
  have hW' := hW
  obtain ⟨p, q, hA0, hV, rfl, hfz, hnd⟩ := hW
  have hA : DataW.TrodAll enc Try.prog W 0 (fun _ => true) true Try.f6.params.toList args.toList ds p := hA0
  rw [Try.params6] at hA hval
  obtain ⟨v0, vs0, d0, ds0, p0, q0, hargs, rfl, rfl, h0, r0⟩ := trodAll_cons hA
  obtain ⟨v1, vs1, d1, ds1, p1, q1, rfl, rfl, rfl, h1, r1⟩ := trodAll_cons r0
  obtain ⟨v2, vs2, d2, ds2, p2, q2, rfl, rfl, rfl, h2, r2⟩ := trodAll_cons r1
  obtain ⟨rfl, rfl, rfl⟩ := trodAll_nil r2
  obtain rfl : args = #[v0, v1, v2] := by cases args; simp_all
  obtain ⟨rfl, rfl⟩ := trodVars_none hV
  obtain ⟨a0, rfl, w0⟩ := arg_flush (hval 0 35 v0 rfl rfl)
  obtain ⟨a1, rfl, w1⟩ := arg_ent (hval 1 27 v1 rfl rfl)
  obtain ⟨a2, rfl, w2⟩ := arg_u64 Try.underlying22 (hval 2 22 v2 rfl rfl)
  refine (tlbTakes_walk a0 a1 a2 w0 w1 w2 W).mono fun e W' ⟨he, hb⟩ => ?_
  subst he
  exact ⟨_, rfl, post_law laid hW' rfl (by kernel_rfl) rfl Try.underlying4 rfl hb⟩

/-- The statement. -/
theorem tlbTakes_holds : Rows.TlbTakesSaid :=
  OpenClaim.holds_of_wide 6 Try.f6 rfl rfl rfl rfl rfl rfl rfl ⟨rfl, rfl, rfl, rfl, rfl⟩ rfl rfl rfl rfl rfl (by kernel_rfl) Try.func6 (by kernel_rfl)
    (of_decide_eq_true (by kernel_rfl)) (by unfold Func.isWrapper; first | (rw [if_pos (by decide +kernel)]; kernel_rfl) | (rw [if_neg (by decide +kernel)]; exact ⟨rfl, rfl⟩))
    (fun os started H enc _ => tlbTakes_lifted os started H enc)
#print axioms tlbTakes_holds

end Go.Proofs.Ytcaggboeacgknaa
