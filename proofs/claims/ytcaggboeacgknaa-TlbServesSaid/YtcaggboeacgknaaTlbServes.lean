/- The statement TlbServes: proved of every input, without condition. -/
import Derived.Test.YtcaggboeacgknaaRows
import Derived.Test.YtcaggboeacgknaaAwake09
namespace Go.Proofs.Ytcaggboeacgknaa
open Go.ChangeShapes Go.WideShapes Go.ChangeAt Go.RowKit
set_option linter.unusedVariables false

set_option maxHeartbeats 1000000 in
theorem tlbServes_walk (e : E) (sp va : Int) (he : e.ok) (hs : I64 sp) (hv : U64 va) (w : World) : Calls Try.prog 4 #[entV e, .int .i64 sp, .int .u64 va] w (RetB (.bool true) w) := by
  obtain ⟨s, p, f, l⟩ := e
  obtain ⟨-, -, hf, hl⟩ := he
  simp only at hf hl
  have Hf := Lib.hid hf
  have Hl := Lib.hid hl
  have Hv := Lib.hid hv
  clear hf hl hs hv
  simp only [entV]
  go_enter Try.func4, Try.ntmps4
  go_wp2_with fail
  refine wp_region_qb1 w.heap.size (by kernel_rfl) (by kernel_rfl) (by first | omega | (simp; done) | (simp; omega)) (fun kq => ?_); (repeat (go_big_quiet_step (first | (go_at_call 12; exact quietB (awake_any _)) | (go_at_call 15; exact quietB (covers_any ⟨s, p, f, l⟩ _ _ Hf.out Hv.out)) | (go_at_call 16; exact quietB (refCovers_any ⟨s, p, f, l⟩ _ _ Hf.out Hv.out)) | (go_at_call 17; exact quietB (serves_any ⟨s, p, f, l⟩ _ _ _ Hf.out Hl.out Hv.out)) | (go_at_call 18; exact quietB (refServes_any ⟨s, p, f, l⟩ _ _ _ Hf.out Hl.out Hv.out))))); refine wpQuiet_nil ?_; clear kq; intro wq hb
  go_wp2
  go_ret
  exact ⟨rfl, Below.trans (by repeat' (first | with_reducible exact Below.refl _ _ | with_reducible assumption | with_reducible apply below_drewN | with_reducible apply Below.drew | with_reducible refine Below.setCell ?_ ?_ _ | with_reducible refine Below.alloc ?_ ?_ _ | omega | (simp; done) | (simp; omega))) (hb.mono (by first | omega | (simp; done) | (simp; omega)))⟩

set_option maxRecDepth 100000 in
theorem tlbServes_lifted (os : Os) (started : os.Started) (H : Type) (enc : TypeId × Value → H) :
    ReturnsInHanded {} Try.checked os 4 .any (Rows.tlbServesSpec.pre6 enc Try.prog Try.f4 Rows.tlbServesRow.domain false) (Rows.tlbServesSpec.post enc Try.prog Try.f4 false true false false) := by
  refine returnsInHanded_of_change (C := Try.checked) own started (by kernel_rfl) Try.func4
    (ChangeSpec.witness6 (enc := enc) (C := Try.checked) false ⟨#[], #[entV E.zero, .int .i64 0, .int .u64 0], []⟩ 8 (by kernel_rfl) (by kernel_rfl) (by kernel_rfl) (by kernel_rfl)) ?_
  intro W base args ds gs before hval0 hW _ _
  have hval : ∀ (j : Nat) t v, Try.f4.params[j]? = some t → args[j]? = some v → Value.okWide Try.prog W .any base t v := hval0
  have hW' := hW
  obtain ⟨p, q, hA0, hV, rfl, hfz, hnd⟩ := hW
  have hA : DataW.TrodAll enc Try.prog W 0 (fun _ => true) true Try.f4.params.toList args.toList ds p := hA0
  rw [Try.params4] at hA hval
  obtain ⟨v0, vs0, d0, ds0, p0, q0, hargs, rfl, rfl, h0, r0⟩ := trodAll_cons hA
  obtain ⟨v1, vs1, d1, ds1, p1, q1, rfl, rfl, rfl, h1, r1⟩ := trodAll_cons r0
  obtain ⟨v2, vs2, d2, ds2, p2, q2, rfl, rfl, rfl, h2, r2⟩ := trodAll_cons r1
  obtain ⟨rfl, rfl, rfl⟩ := trodAll_nil r2
  obtain rfl : args = #[v0, v1, v2] := by cases args; simp_all
  obtain ⟨rfl, rfl⟩ := trodVars_none hV
  obtain ⟨a0, rfl, w0⟩ := arg_ent (hval 0 27 v0 rfl rfl)
  obtain ⟨a1, rfl, w1⟩ := arg_i64 Try.underlying3 (hval 1 3 v1 rfl rfl)
  obtain ⟨a2, rfl, w2⟩ := arg_u64 Try.underlying22 (hval 2 22 v2 rfl rfl)
  refine (tlbServes_walk a0 a1 a2 w0 w1 w2 W).mono fun e W' ⟨he, hb⟩ => ?_
  subst he
  exact ⟨_, rfl, post_law laid hW' rfl (by kernel_rfl) rfl Try.underlying4 rfl hb⟩

/-- The statement. -/
theorem tlbServes_holds : Rows.TlbServesSaid :=
  OpenClaim.holds_of_wide 4 Try.f4 rfl rfl rfl rfl rfl rfl rfl ⟨rfl, rfl, rfl, rfl, rfl⟩ rfl rfl rfl rfl rfl (by kernel_rfl) Try.func4 (by kernel_rfl)
    (of_decide_eq_true (by kernel_rfl)) (by unfold Func.isWrapper; first | (rw [if_pos (by decide +kernel)]; kernel_rfl) | (rw [if_neg (by decide +kernel)]; exact ⟨rfl, rfl⟩))
    (fun os started H enc _ => tlbServes_lifted os started H enc)
#print axioms tlbServes_holds

end Go.Proofs.Ytcaggboeacgknaa
