/- The statement WalkSyndromes: any fault has the page's word. No conditions. -/
import Derived.Test.YtogoclcjkekplaaAwake08
import Derived.Test.YtogoclcjkekplaaSyn
import Derived.Test.YtogoclcjkekplaaRows
namespace Go.Proofs.Ytogoclcjkekplaa
open Go.RowKit Go.ChangeShapes Go.WideShapes Go.ChangeAt

theorem arg_fault {w : World} {base : Nat} {v : Value} (h : Value.okWide Try.prog w .any base 36 v) : ∃ f : Fa, v = faultV f ∧ I64 f.level := by
  obtain ⟨l, rfl, hl, hc⟩ := agg_cells Try.underlying36 (by kernel_rfl) (show Try.prog.cellTypes Try.prog.depth 36 = some [3, 3, 4] by kernel_rfl) rfl h
  obtain ⟨c0, h0, k0⟩ := hc 0 _ rfl
  obtain ⟨c1, h1, k1⟩ := hc 1 _ rfl
  obtain ⟨c2, h2, k2⟩ := hc 2 _ rfl
  obtain ⟨a, rfl, _⟩ := cell_i64 Try.underlying3 k0
  obtain ⟨b, rfl, hb⟩ := cell_i64 Try.underlying3 k1
  obtain ⟨c, rfl⟩ := cell_bool Try.underlying4 k2
  match l, hl with
  | [x, y, z], _ =>
    simp at h0 h1 h2
    subst h0 h1 h2
    exact ⟨⟨a, b, c⟩, rfl, hb⟩

set_option maxRecDepth 100000 in
set_option maxHeartbeats 2000000 in
theorem walkSyndromes_walk (f : Fa) (_h : I64 f.level) (w : World) : Calls Try.prog 8 #[faultV f] w (RetB (.bool true) w) := by
  obtain ⟨k, l, b⟩ := f
  simp only [faultV]
  go_enter Try.func8, Try.ntmps8
  go_wp2_with fail
  refine wp_region_qbn (by kernel_rfl) (by kernel_rfl) (fun kq => ?_); have kq0 := kq (w.heap.size) (by first | omega | (simp; done) | (simp; omega)); clear kq; (repeat (go_big_quiet_step (first | (go_at_call 10; exact quietB (awake_any _)) | (go_at_call 27; exact quietB (syn_any k l b _)) | (go_at_call 28; exact quietB (rsyn_any k l b _))))); refine wpQuiet_nil ?_; clear kq0; intro wq hb
  have Bq : Below w.heap.size w wq := Below.trans (by repeat' (first | with_reducible exact Below.refl _ _ | with_reducible assumption | with_reducible apply below_drewN | with_reducible apply Below.drew | with_reducible refine Below.setCell ?_ ?_ _ | with_reducible refine Below.alloc ?_ ?_ _ | omega | (simp; done) | (simp; omega))) (hb.mono (by first | omega | (simp; done) | (simp; omega)))
  clear hb
  go_wp2_with fail
  go_ret
  exact ⟨rfl, Bq⟩

set_option maxRecDepth 100000 in
theorem walkSyndromes_lifted (os : Os) (started : os.Started) (H : Type) (enc : TypeId × Value → H) :
    ReturnsInHanded {} Try.checked os 8 .any (Rows.walkSyndromesSpec.pre6 enc Try.prog Try.f8 Rows.walkSyndromesRow.domain false) (Rows.walkSyndromesSpec.post enc Try.prog Try.f8 false true false false) := by
  refine returnsInHanded_of_change (C := Try.checked) own started (by kernel_rfl) Try.func8
    (ChangeSpec.witness6 (enc := enc) (C := Try.checked) false ⟨#[], #[faultV Fa.zero], []⟩ 8 (by kernel_rfl) (by kernel_rfl) (by kernel_rfl) (by kernel_rfl)) ?_
  intro W base args ds gs before hval0 hW _ _
  have hval : ∀ (j : Nat) t v, Try.f8.params[j]? = some t → args[j]? = some v → Value.okWide Try.prog W .any base t v := hval0
  have hW' := hW
  obtain ⟨p, q, hA0, hV, rfl, hfz, hnd⟩ := hW
  have hA : DataW.TrodAll enc Try.prog W 0 (fun _ => true) true Try.f8.params.toList args.toList ds p := hA0
  rw [Try.params8] at hA hval
  obtain ⟨v0, vs0, d0, ds0, p0, q0, hargs, rfl, rfl, h0, r0⟩ := trodAll_cons hA
  obtain ⟨rfl, rfl, rfl⟩ := trodAll_nil r0
  obtain rfl : args = #[v0] := by cases args; simp_all
  obtain ⟨rfl, rfl⟩ := trodVars_none hV
  obtain ⟨a0, rfl, w0⟩ := arg_fault (hval 0 36 v0 rfl rfl)
  refine (walkSyndromes_walk a0 w0 W).mono fun e W' ⟨he, hb⟩ => ?_
  subst he
  exact ⟨_, rfl, post_law laid hW' rfl (by kernel_rfl) rfl Try.underlying4 rfl hb⟩

/-- The statement. -/
theorem walkSyndromes_holds : Rows.WalkSyndromesSaid :=
  OpenClaim.holds_of_wide 8 Try.f8 rfl rfl rfl rfl rfl rfl rfl ⟨rfl, rfl, rfl, rfl, rfl⟩ rfl rfl rfl rfl rfl (by kernel_rfl) Try.func8 (by kernel_rfl)
    (of_decide_eq_true (by kernel_rfl)) (by unfold Func.isWrapper; first | (rw [if_pos (by decide +kernel)]; kernel_rfl) | (rw [if_neg (by decide +kernel)]; exact ⟨rfl, rfl⟩))
    (fun os started H enc _ => walkSyndromes_lifted os started H enc)
#print axioms walkSyndromes_holds
