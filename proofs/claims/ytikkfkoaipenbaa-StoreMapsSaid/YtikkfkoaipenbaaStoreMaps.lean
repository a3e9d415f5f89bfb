/- The statement StoreMaps: any changes in any order leave each number its thing, rising. No conditions. -/
import Derived.Test.YtikkfkoaipenbaaAwake06
import Derived.Test.YtikkfkoaipenbaaPlayed
import Derived.Test.YtikkfkoaipenbaaIs
import Derived.Test.YtikkfkoaipenbaaRows
namespace Go.Proofs.Ytikkfkoaipenbaa
open Go.RowKit Go.ChangeShapes Go.WideShapes Go.ChangeAt

set_option maxRecDepth 100000 in
set_option maxHeartbeats 4000000 in
theorem storeMaps_walk {w : World} (ao : Option Addr) (cap : Nat) (l : List (Bool × Int × Int)) (k : Int) (hl : Ato w ao l) (_hc : ao = none → cap = 0) (_hu : ∀ p ∈ l, U64 p.2.1 ∧ I64 p.2.2) (_hk : U64 k) :
    Calls Try.prog 3 #[.slice ao l.length cap, .int .u64 k] w (RetB (.bool true) w) := by
  have HL := Lib.hid hl
  obtain ⟨n, hn⟩ : ∃ n, n = l.length := ⟨_, rfl⟩
  have HN := Lib.hid hn
  rw [← hn]
  clear hl hn
  have HAL := Lib.hid (play_alike (l.take 60))
  have cP : Hid (∀ W, Below w.heap.size w W → Calls Try.prog 11 #[.slice ao n cap] W (fun e w' => ∃ ks vs mo mc, e = .returned (.tuple #[.agg #[ks, vs], .slice mo (playM (l.take 60)).length mc]) ∧ MapiIs w' ks vs (playL (l.take 60)) ∧
      w'.ownsRow W.heap.size 49 2 (.slice mo (playM (l.take 60)).length mc) (playM (l.take 60)).length (flatp (playM (l.take 60))) ∧ Below W.heap.size W w' ∧ (playL (l.take 60)).length ≤ 60 ∧ (playM (l.take 60)).length ≤ 60)) := Lib.hid fun W h => played_any ao n cap l W (HL.out.below h) HN.out
  generalize playL (l.take 60) = L at HAL cP
  generalize playM (l.take 60) = M at HAL cP
  obtain ⟨gv, go⟩ := HAL.out.get k
  have GV := Lib.hid gv
  have GO := Lib.hid go
  clear gv go
  go_enter Try.func3, Try.ntmps3
  go_wp2_with fail
  refine (awake_any _).mono ?_
  rintro e w1 ⟨rfl, hb⟩
  have B1 : Below w.heap.size w w1 := Below.trans (by repeat' (first | with_reducible exact Below.refl _ _ | with_reducible assumption | with_reducible apply below_drewN | with_reducible apply Below.drew | with_reducible refine Below.setCell ?_ ?_ _ | with_reducible refine Below.alloc ?_ ?_ _ | omega | (simp; done) | (simp; omega))) (hb.mono (by first | omega | (simp; done) | (simp; omega)))
  have Bz1 := B1.size
  clear hb
  go_wp2_with fail
  refine (cP.out _ B1).mono ?_
  rintro e w2 ⟨ks, vs, mo, mc, rfl, hm, hr, hb, hL, hM⟩
  have B2 : Below w1.heap.size w1 w2 := hb
  have Bz2 := B2.size
  have M1 := Lib.hid hm
  have R1 := Lib.hid (Atp.of_row hr)
  obtain ⟨ao1, cap1, rfl⟩ := ownsRow_form hm.keys
  obtain ⟨ao2, cap2, rfl⟩ := ownsRow_form hm.vals
  clear hm hr hb
  go_wp2_with fail
  refine (geti_any _ _ L k _ (M1.out.below (by repeat' (first | with_reducible exact Below.refl _ _ | with_reducible assumption | with_reducible apply below_drewN | with_reducible apply Below.drew | with_reducible refine Below.setCell ?_ ?_ _ | with_reducible refine Below.alloc ?_ ?_ _ | omega | (simp; done) | (simp; omega)))) HAL.out.rise (by omega)).mono ?_
  rw [GV.out, GO.out]
  rintro e w3 ⟨rfl, hb⟩
  have B3 : Below w2.heap.size w2 w3 := Below.trans (by repeat' (first | with_reducible exact Below.refl _ _ | with_reducible assumption | with_reducible apply below_drewN | with_reducible apply Below.drew | with_reducible refine Below.setCell ?_ ?_ _ | with_reducible refine Below.alloc ?_ ?_ _ | omega | (simp; done) | (simp; omega))) (hb.mono (by first | omega | (simp; done) | (simp; omega)))
  have Bz3 := B3.size
  obtain ⟨k1, k2, k3, k4⟩ := keepB hb w2.heap.size (by first | omega | (simp; done) | (simp; omega))
  clear hb
  go_wp2_with fail
  refine (rget_any mo M.length mc M k _ (R1.out.below B3) rfl (by omega)).mono ?_
  rintro e w4 ⟨rfl, rfl⟩
  go_wp2_with fail
  refine (is_true _ _ L M mo mc _ (M1.out.below B3) (R1.out.below B3) HAL.out.sorted (by omega) (by omega)).mono ?_
  rintro e w5 ⟨rfl, hb⟩
  have B4 : Below w3.heap.size w3 w5 := hb
  clear hb
  go_wp2_with fail
  go_ret
  exact ⟨rfl, B1.trans (Below.mono (B2.trans (Below.mono (B3.trans (B4.mono Bz3)) Bz2)) Bz1)⟩

set_option maxRecDepth 100000 in
theorem storeMaps_lifted (os : Os) (started : os.Started) (H : Type) (enc : TypeId × Value → H) :
    ReturnsInHanded {} Try.checked os 3 .any (Rows.storeMapsSpec.pre6 enc Try.prog Try.f3 Rows.storeMapsRow.domain false) (Rows.storeMapsSpec.post enc Try.prog Try.f3 false true false false) := by
  refine returnsInHanded_of_change (C := Try.checked) own started (by kernel_rfl) Try.func3
    (ChangeSpec.witness6 (enc := enc) (C := Try.checked) false ⟨#[], #[.slice none 0 0, .int .u64 0], []⟩ 8 (by kernel_rfl) (by kernel_rfl) (by kernel_rfl) (by kernel_rfl)) ?_
  intro W base args ds gs before hval0 hW _ _
  have hval : ∀ (j : Nat) t v, Try.f3.params[j]? = some t → args[j]? = some v → Value.okWide Try.prog W .any base t v := hval0
  have hW' := hW
  obtain ⟨p, q, hA0, hV, rfl, hfz, hnd⟩ := hW
  have hA : DataW.TrodAll enc Try.prog W 0 (fun _ => true) true Try.f3.params.toList args.toList ds p := hA0
  rw [Try.params3] at hA hval
  obtain ⟨v0, vs0, d0, ds0, p0, q0, hargs, rfl, rfl, h0, r0⟩ := trodAll_cons hA
  obtain ⟨v1, vs1, d1, ds1, p1, q1, rfl, rfl, rfl, h1, r1⟩ := trodAll_cons r0
  obtain ⟨rfl, rfl, rfl⟩ := trodAll_nil r1
  obtain rfl : args = #[v0, v1] := by cases args; simp_all
  obtain ⟨rfl, rfl⟩ := trodVars_none hV
  obtain ⟨o0, k0, l0, rfl, A0, c0, w0⟩ := arg_ops h0 (hval 0 22 v0 rfl rfl)
  obtain ⟨a1, rfl, w1⟩ := arg_u64 Try.underlying23 (hval 1 23 v1 rfl rfl)
  refine (storeMaps_walk (w := W) o0 k0 l0 a1 A0 c0 w0 w1).mono fun e W' ⟨he, hb⟩ => ?_
  subst he
  exact ⟨_, rfl, post_law laid hW' rfl (by kernel_rfl) rfl Try.underlying4 rfl hb⟩

/-- The statement. -/
theorem storeMaps_holds : Rows.StoreMapsSaid :=
  OpenClaim.holds_of_wide 3 Try.f3 rfl rfl rfl rfl rfl rfl rfl ⟨rfl, rfl, rfl, rfl, rfl⟩ rfl rfl rfl rfl rfl (by kernel_rfl) Try.func3 (by kernel_rfl)
    (of_decide_eq_true (by kernel_rfl)) (by unfold Func.isWrapper; first | (rw [if_pos (by decide +kernel)]; kernel_rfl) | (rw [if_neg (by decide +kernel)]; exact ⟨rfl, rfl⟩))
    (fun os started H enc _ => storeMaps_lifted os started H enc)
#print axioms storeMaps_holds
