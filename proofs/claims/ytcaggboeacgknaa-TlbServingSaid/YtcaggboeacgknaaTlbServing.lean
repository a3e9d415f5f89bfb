/- The statement TlbServing: the entries by which any access may go are told. No conditions. -/
import Derived.Test.YtcaggboeacgknaaPlayw
import Derived.Test.YtcaggboeacgknaaSamee
import Derived.Test.YtcaggboeacgknaaRows
namespace Go.Proofs.Ytcaggboeacgknaa
open Go.RowKit Go.ChangeShapes Go.WideShapes Go.ChangeAt
set_option linter.unusedSimpArgs false
set_option linter.unusedVariables false

set_option maxRecDepth 100000 in
set_option maxHeartbeats 4000000 in
theorem tlbServing_walk {w : World} (ao : Option Addr) (cap : Nat) (l : List P9) (sp va : Int) (hl : Atr cellsP w ao l) (_hc : ao = none → cap = 0) (hok : ∀ p ∈ l, okP p) (hsp : I64 sp) (hva : U64 va) :
    Calls Try.prog 11 #[.slice ao l.length cap, .int .i64 sp, .int .u64 va] w (RetB (.bool true) w) := by
  have HL := Lib.hid hl
  obtain ⟨n, hn⟩ : ∃ n, n = l.length := ⟨_, rfl⟩
  have HN := Lib.hid hn
  have HK := Lib.hid hok
  rw [← hn]
  obtain ⟨hs, hx, hlen⟩ := playE_all l hok
  have HS := Lib.hid hs
  have HX : Hid (∀ x ∈ playE (l.take 50), U64 x.first ∧ U64 x.last) := Lib.hid fun x h => ⟨(hx x h).2.2.1, (hx x h).2.2.2⟩
  have cP : Hid (∀ W, Below w.heap.size w W → Calls Try.prog 27 #[.slice ao n cap] W (RetPlay (playE (l.take 50)) W)) := Lib.hid fun W h => play9_any ao n cap l W (HL.out.below h) HN.out HK.out
  clear hl hn hok hs hx HL HN HK
  generalize playE (l.take 50) = L at HS HX hlen cP
  go_enter Try.func11, Try.ntmps11
  go_wp2_with fail
  refine (awake_any _).mono ?_
  rintro e w1 ⟨rfl, hb⟩
  have B1 : Below w.heap.size w w1 := hb
  have Bz1 := B1.size
  clear hb
  go_wp2_with fail
  refine (cP.out _ B1).mono ?_
  rintro e w2 ⟨a1, p1, a2, p2, rfl, hr1, hr2, hb⟩
  have B2 : Below w.heap.size w w2 := B1.trans (hb.mono Bz1)
  have Bz2 := B2.size
  have R1 := Lib.hid hr1
  have R2 := Lib.hid hr2
  have Bz3 := hb.size
  clear hr1 hr2 hb
  go_wp2_with fail
  refine (bserv_any _ _ L sp va hva _ (R1.out.below (by repeat' (first | with_reducible exact Below.refl _ _ | with_reducible assumption | with_reducible apply below_drewN | with_reducible apply Below.drew | with_reducible refine Below.setCell ?_ ?_ _ | with_reducible refine Below.alloc ?_ ?_ _ | omega | (simp; done) | (simp; omega)))) (by first | omega | (simp; done) | (simp; omega)) HX.out (by omega)).mono ?_
  rintro e w3 ⟨v3, rfl, hr, hb⟩
  have B3 : Below w2.heap.size w2 w3 := Below.trans (by repeat' (first | with_reducible exact Below.refl _ _ | with_reducible assumption | with_reducible apply below_drewN | with_reducible apply Below.drew | with_reducible refine Below.setCell ?_ ?_ _ | with_reducible refine Below.alloc ?_ ?_ _ | omega | (simp; done) | (simp; omega))) (hb.mono (by first | omega | (simp; done) | (simp; omega)))
  have Bz4 := B3.size
  have R3 := Lib.hid hr
  clear hr hb
  go_wp2_with fail
  refine (rserv_any _ _ L sp va hva _ (R2.out.below B3) (by first | omega | (simp; done) | (simp; omega)) HX.out (by omega)).mono ?_
  rintro e w4 ⟨v4, rfl, hr, hb⟩
  have B4 : Below w2.heap.size w2 w4 := B3.trans (hb.mono Bz4)
  have Bz5 := B4.size
  have R4 := Lib.hid hr
  have R3' := Lib.hid (R3.out.below hb)
  clear hr hb
  have hfl : (L.filter fun x => servesB x sp va).length ≤ 1000 := by have := List.length_filter_le (fun x => servesB x sp va) L; omega
  have cS : Hid (∀ W, Below w4.heap.size w4 W → Calls Try.prog 32 #[v3, v4] W (RetB (.bool true) W)) := Lib.hid fun W h => by
    have := rsame_any _ _ _ _ _ _ W (R3'.out.below h) (R4.out.below h) hfl
    rw [decide_eq_true rfl] at this
    exact this
  go_wp2_with fail
  refine (cS.out _ (by repeat' (first | with_reducible exact Below.refl _ _ | with_reducible assumption | with_reducible apply below_drewN | with_reducible apply Below.drew | with_reducible refine Below.setCell ?_ ?_ _ | with_reducible refine Below.alloc ?_ ?_ _ | omega | (simp; done) | (simp; omega)))).mono ?_
  rintro e w5 ⟨rfl, hb⟩
  have B5 : Below w2.heap.size w2 w5 := B4.trans (hb.mono Bz5)
  clear hb
  go_wp2_with fail
  go_ret
  exact ⟨rfl, B2.trans (B5.mono Bz2)⟩

set_option maxRecDepth 100000 in
theorem tlbServing_lifted (os : Os) (started : os.Started) (H : Type) (enc : TypeId × Value → H) :
    ReturnsInHanded {} Try.checked os 11 .any (Rows.tlbServingSpec.pre6 enc Try.prog Try.f11 Rows.tlbServingRow.domain false) (Rows.tlbServingSpec.post enc Try.prog Try.f11 false true false false) := by
  refine returnsInHanded_of_change (C := Try.checked) own started (by kernel_rfl) Try.func11
    (ChangeSpec.witness6 (enc := enc) (C := Try.checked) false ⟨#[], #[.slice none 0 0, .int .i64 0, .int .u64 0], []⟩ 8 (by kernel_rfl) (by kernel_rfl) (by kernel_rfl) (by kernel_rfl)) ?_
  intro W base args ds gs before hval0 hW _ _
  have hval : ∀ (j : Nat) t v, Try.f11.params[j]? = some t → args[j]? = some v → Value.okWide Try.prog W .any base t v := hval0
  have hW' := hW
  obtain ⟨p, q, hA0, hV, rfl, hfz, hnd⟩ := hW
  have hA : DataW.TrodAll enc Try.prog W 0 (fun _ => true) true Try.f11.params.toList args.toList ds p := hA0
  rw [Try.params11] at hA hval
  obtain ⟨v0, vs0, d0, ds0, p0, q0, hargs, rfl, rfl, h0, r0⟩ := trodAll_cons hA
  obtain ⟨v1, vs1, d1, ds1, p1, q1, rfl, rfl, rfl, h1, r1⟩ := trodAll_cons r0
  obtain ⟨v2, vs2, d2, ds2, p2, q2, rfl, rfl, rfl, h2, r2⟩ := trodAll_cons r1
  obtain ⟨rfl, rfl, rfl⟩ := trodAll_nil r2
  obtain rfl : args = #[v0, v1, v2] := by cases args; simp_all
  obtain ⟨rfl, rfl⟩ := trodVars_none hV
  obtain ⟨o0, k0, l0, rfl, A0, c0, w0⟩ := arg_op9s h0 (hval 0 47 v0 rfl rfl)
  obtain ⟨a1, rfl, w1⟩ := arg_i64 Try.underlying3 (hval 1 3 v1 rfl rfl)
  obtain ⟨a2, rfl, w2⟩ := arg_u64 Try.underlying22 (hval 2 22 v2 rfl rfl)
  refine (tlbServing_walk (w := W) o0 k0 l0 a1 a2 A0 c0 w0 w1 w2).mono fun e W' ⟨he, hb⟩ => ?_
  subst he
  exact ⟨_, rfl, post_law laid hW' rfl (by kernel_rfl) rfl Try.underlying4 rfl hb⟩

/-- The statement. -/
theorem tlbServing_holds : Rows.TlbServingSaid :=
  OpenClaim.holds_of_wide 11 Try.f11 rfl rfl rfl rfl rfl rfl rfl ⟨rfl, rfl, rfl, rfl, rfl⟩ rfl rfl rfl rfl rfl (by kernel_rfl) Try.func11 (by kernel_rfl)
    (of_decide_eq_true (by kernel_rfl)) (by unfold Func.isWrapper; first | (rw [if_pos (by decide +kernel)]; kernel_rfl) | (rw [if_neg (by decide +kernel)]; exact ⟨rfl, rfl⟩))
    (fun os started H enc _ => tlbServing_lifted os started H enc)
#print axioms tlbServing_holds

end Go.Proofs.Ytcaggboeacgknaa
