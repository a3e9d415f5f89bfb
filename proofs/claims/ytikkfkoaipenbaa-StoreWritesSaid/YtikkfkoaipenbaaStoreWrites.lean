/- The statement StoreWrites: a write changes just its cell, or is refused; the memory that it is done to stays. No conditions. -/
import Derived.Test.YtikkfkoaipenbaaAwake06
import Derived.Test.YtikkfkoaipenbaaStorec
import Derived.Test.YtikkfkoaipenbaaRefs
import Derived.Test.YtikkfkoaipenbaaArgc
import Derived.Test.YtikkfkoaipenbaaRows
namespace Go.Proofs.Ytikkfkoaipenbaa
open Go.RowKit Go.ChangeShapes Go.WideShapes Go.ChangeAt

set_option maxHeartbeats 4000000 in
theorem storeWrites_walk {w : World} (ao : Option Addr) (cap : Nat) (l : List (Int × Int)) (a v : Int) (hl : Atc w ao l) (hc : ao = none → cap = 0) (hu : ∀ p ∈ l, U64 p.1 ∧ U64 p.2) (ha : U64 a) (_hv : U64 v) :
    Calls Try.prog 7 #[.slice ao l.length cap, .int .u64 a, .int .u64 v] w (RetB (.bool true) w) := by
  have HL := Lib.hid hl
  have HC := Lib.hid hc
  have HU : Hid (∀ p ∈ l, U64 p.1) := Lib.hid fun p hp => (hu p hp).1
  have HA := Lib.hid ha
  obtain ⟨n, hn⟩ : ∃ n, n = l.length := ⟨_, rfl⟩
  have HN := Lib.hid hn
  rw [← hn]
  clear hl hc hu ha hn
  go_enter Try.func7, Try.ntmps7
  go_wp2_with fail
  refine (awake_any _).mono ?_
  rintro e w1 ⟨rfl, hb⟩
  have B1 : Below w.heap.size w w1 := Below.trans (by repeat' (first | with_reducible exact Below.refl _ _ | with_reducible assumption | with_reducible apply below_drewN | with_reducible apply Below.drew | with_reducible refine Below.setCell ?_ ?_ _ | with_reducible refine Below.alloc ?_ ?_ _ | omega | (simp; done) | (simp; omega))) (hb.mono (by first | omega | (simp; done) | (simp; omega)))
  have Bz1 := B1.size
  clear hb
  by_cases hbig : 300 < n
  · go_wp2_with fail
    go_ret
    exact ⟨rfl, by repeat' (first | with_reducible exact Below.refl _ _ | with_reducible assumption | with_reducible apply below_drewN | with_reducible apply Below.drew | with_reducible refine Below.setCell ?_ ?_ _ | with_reducible refine Below.alloc ?_ ?_ _ | omega | (simp; done) | (simp; omega))⟩
  · have hbig' : n ≤ 300 := by omega
    go_wp2_with fail
    refine (of_any ao n cap l _ (HL.out.below (by repeat' (first | with_reducible exact Below.refl _ _ | with_reducible assumption | with_reducible apply below_drewN | with_reducible apply Below.drew | with_reducible refine Below.setCell ?_ ?_ _ | with_reducible refine Below.alloc ?_ ?_ _ | omega | (simp; done) | (simp; omega)))) HN.out (by have := HN.out; omega) HU.out).mono ?_
    obtain ⟨r1, r2, r3, r4⟩ := of_ref l (L := []) (M := []) rfl (by simp)
    have r5 := ofL_sorted l
    generalize ofL [] l = p at r1 r2 r3 r5
    generalize hq : rofL [] l = q at r1 r2 r4
    obtain ⟨L, z⟩ := p
    obtain ⟨M, z'⟩ := q
    simp only [List.length_nil, Nat.zero_add] at r1 r2 r3 r4 r5
    subst r1
    have HQ := Lib.hid hq
    have R2 := Lib.hid r2
    have R5 := Lib.hid r5
    have hM : M.length ≤ 300 := by have := HN.out; omega
    clear hq r2 r5 r4
    rintro e w2 ⟨ks, vs, rfl, hm, hb⟩
    have B2 : Below w.heap.size w w2 := B1.trans (Below.trans (by repeat' (first | with_reducible exact Below.refl _ _ | with_reducible assumption | with_reducible apply below_drewN | with_reducible apply Below.drew | with_reducible refine Below.setCell ?_ ?_ _ | with_reducible refine Below.alloc ?_ ?_ _ | omega | (simp; done) | (simp; omega))) (hb.mono (by first | omega | (simp; done) | (simp; omega))))
    have Bz2 := B2.size
    have M1 := Lib.hid hm
    obtain ⟨ao1, cap1, rfl⟩ := ownsRow_form hm.keys
    obtain ⟨ao2, cap2, rfl⟩ := ownsRow_form hm.vals
    clear hb hm
    go_wp2_with fail
    refine (rof_any ao n cap l _ (HL.out.below (by repeat' (first | with_reducible exact Below.refl _ _ | with_reducible assumption | with_reducible apply below_drewN | with_reducible apply Below.drew | with_reducible refine Below.setCell ?_ ?_ _ | with_reducible refine Below.alloc ?_ ?_ _ | omega | (simp; done) | (simp; omega)))) HN.out (by have := HN.out; omega) HU.out).mono ?_
    rw [HQ.out]
    rintro e w3 ⟨mo, mc, rfl, hM1, hmc, hb⟩
    have B3 : Below w2.heap.size w2 w3 := Below.trans (by repeat' (first | with_reducible exact Below.refl _ _ | with_reducible assumption | with_reducible apply below_drewN | with_reducible apply Below.drew | with_reducible refine Below.setCell ?_ ?_ _ | with_reducible refine Below.alloc ?_ ?_ _ | omega | (simp; done) | (simp; omega))) (hb.mono (by first | omega | (simp; done) | (simp; omega)))
    have Bz3 := B3.size
    obtain ⟨k1, k2, k3, k4⟩ := keepB hb w2.heap.size (by first | omega | (simp; done) | (simp; omega))
    have HM := Lib.hid hM1
    have HMC := Lib.hid hmc
    clear hb hM1 hmc
    by_cases hz : z = 0
    · subst hz
      go_wp2_with fail
      obtain ⟨s1, s2⟩ := write_ref a v R2.out r3
      have s3 := sorted_write R5.out a v
      have s4 := len_write r3 a v
      have s5 := rwrite_len M a v
      refine (write_any _ _ L a v _ (M1.out.below (by repeat' (first | with_reducible exact Below.refl _ _ | with_reducible assumption | with_reducible apply below_drewN | with_reducible apply Below.drew | with_reducible refine Below.setCell ?_ ?_ _ | with_reducible refine Below.alloc ?_ ?_ _ | omega | (simp; done) | (simp; omega)))) R5.out (by omega) HA.out).mono ?_
      generalize writeL L a v = p at s1 s2 s3 s4
      generalize hq : rwriteL M a v = q at s1 s2 s5
      obtain ⟨L', y⟩ := p
      obtain ⟨M', y'⟩ := q
      simp only at s1 s2 s3 s4 s5
      subst s1
      have HQ' := Lib.hid hq
      have S2 := Lib.hid s2
      clear hq s2 s3
      rintro e w4 ⟨ks', vs', rfl, hm, hb⟩
      have B4 : Below w3.heap.size w3 w4 := Below.trans (by repeat' (first | with_reducible exact Below.refl _ _ | with_reducible assumption | with_reducible apply below_drewN | with_reducible apply Below.drew | with_reducible refine Below.setCell ?_ ?_ _ | with_reducible refine Below.alloc ?_ ?_ _ | omega | (simp; done) | (simp; omega))) (hb.mono (by first | omega | (simp; done) | (simp; omega)))
      have Bz4 := B4.size
      obtain ⟨m1, m2, m3, m4⟩ := keepB B4 w2.heap.size k3
      have M2 := Lib.hid hm
      obtain ⟨ao3, cap3, rfl⟩ := ownsRow_form hm.keys
      obtain ⟨ao4, cap4, rfl⟩ := ownsRow_form hm.vals
      clear hb hm
      go_wp2_with fail
      refine (rwrite_any mo M.length mc M a v _ (HM.out.below (by repeat' (first | with_reducible exact Below.refl _ _ | with_reducible assumption | with_reducible apply below_drewN | with_reducible apply Below.drew | with_reducible refine Below.setCell ?_ ?_ _ | with_reducible refine Below.alloc ?_ ?_ _ | omega | (simp; done) | (simp; omega)))) HMC.out rfl (by omega) HA.out).mono ?_
      rw [HQ'.out]
      rintro e w5 ⟨mo', mc', rfl, hM1, _, hb⟩
      have B5 : Below w4.heap.size w4 w5 := Below.trans (by repeat' (first | with_reducible exact Below.refl _ _ | with_reducible assumption | with_reducible apply below_drewN | with_reducible apply Below.drew | with_reducible refine Below.setCell ?_ ?_ _ | with_reducible refine Below.alloc ?_ ?_ _ | omega | (simp; done) | (simp; omega))) (hb.mono (by first | omega | (simp; done) | (simp; omega)))
      have Bz5 := B5.size
      obtain ⟨n1, n2, n3, n4⟩ := keepB B5 w2.heap.size m3
      obtain ⟨p1, p2, p3, p4⟩ := keepB hb w4.heap.size (by first | omega | (simp; done) | (simp; omega))
      have HM' := Lib.hid hM1
      clear hb hM1
      go_wp2_with fail
      refine (cells_any _ _ L' _ (M2.out.below (by repeat' (first | with_reducible exact Below.refl _ _ | with_reducible assumption | with_reducible apply below_drewN | with_reducible apply Below.drew | with_reducible refine Below.setCell ?_ ?_ _ | with_reducible refine Below.alloc ?_ ?_ _ | omega | (simp; done) | (simp; omega)))) (by omega)).mono ?_
      rintro e w6 ⟨co, cc, rfl, hr, hb⟩
      have B6 : Below w5.heap.size w5 w6 := Below.trans (by repeat' (first | with_reducible exact Below.refl _ _ | with_reducible assumption | with_reducible apply below_drewN | with_reducible apply Below.drew | with_reducible refine Below.setCell ?_ ?_ _ | with_reducible refine Below.alloc ?_ ?_ _ | omega | (simp; done) | (simp; omega))) (hb.mono (by first | omega | (simp; done) | (simp; omega)))
      have Bz6 := B6.size
      obtain ⟨g1, g2, g3, g4⟩ := keepB B6 w2.heap.size n3
      have C1 := Lib.hid (Atc.of_row hr)
      clear hb hr
      go_wp2_with fail
      refine (rcells_any mo' M'.length mc' M' _ (HM'.out.below (by repeat' (first | with_reducible exact Below.refl _ _ | with_reducible assumption | with_reducible apply below_drewN | with_reducible apply Below.drew | with_reducible refine Below.setCell ?_ ?_ _ | with_reducible refine Below.alloc ?_ ?_ _ | omega | (simp; done) | (simp; omega)))) rfl (by omega)).mono ?_
      rintro e w7 ⟨co', cc', rfl, hr, hb⟩
      have B7 : Below w6.heap.size w6 w7 := Below.trans (by repeat' (first | with_reducible exact Below.refl _ _ | with_reducible assumption | with_reducible apply below_drewN | with_reducible apply Below.drew | with_reducible refine Below.setCell ?_ ?_ _ | with_reducible refine Below.alloc ?_ ?_ _ | omega | (simp; done) | (simp; omega))) (hb.mono (by first | omega | (simp; done) | (simp; omega)))
      have Bz7 := B7.size
      obtain ⟨i1, i2, i3, i4⟩ := keepB B7 w2.heap.size g3
      have C2 := Lib.hid (Atc.of_row hr)
      clear hb hr
      go_wp2_with fail
      refine (rsame_any co co' L'.length (cellsL M').length cc cc' L' (cellsL M') _ (C1.out.below (by repeat' (first | with_reducible exact Below.refl _ _ | with_reducible assumption | with_reducible apply below_drewN | with_reducible apply Below.drew | with_reducible refine Below.setCell ?_ ?_ _ | with_reducible refine Below.alloc ?_ ?_ _ | omega | (simp; done) | (simp; omega)))) C2.out rfl rfl (by omega)).mono ?_
      rw [show decide (L' = cellsL M') = true by simpa using S2.out]
      rintro e w8 ⟨rfl, hb⟩
      have B8 : Below w7.heap.size w7 w8 := Below.trans (by repeat' (first | with_reducible exact Below.refl _ _ | with_reducible assumption | with_reducible apply below_drewN | with_reducible apply Below.drew | with_reducible refine Below.setCell ?_ ?_ _ | with_reducible refine Below.alloc ?_ ?_ _ | omega | (simp; done) | (simp; omega))) (hb.mono (by first | omega | (simp; done) | (simp; omega)))
      have Bz8 := B8.size
      obtain ⟨j1, j2, j3, j4⟩ := keepB B8 w2.heap.size i3
      clear hb C1 C2
      have D5 : Below w5.heap.size w5 w8 := B6.trans ((B7.trans (B8.mono Bz7)).mono Bz6)
      have D4 : Below w4.heap.size w4 w8 := B5.trans (D5.mono Bz5)
      have D3 : Below w3.heap.size w3 w8 := B4.trans (D4.mono Bz4)
      have D2 : Below w2.heap.size w2 w8 := B3.trans (D3.mono Bz3)
      go_wp2_with fail
      refine (cells_any _ _ L _ (M1.out.below (by repeat' (first | with_reducible exact Below.refl _ _ | with_reducible assumption | with_reducible apply below_drewN | with_reducible apply Below.drew | with_reducible refine Below.setCell ?_ ?_ _ | with_reducible refine Below.alloc ?_ ?_ _ | omega | (simp; done) | (simp; omega)))) (by omega)).mono ?_
      rintro e w9 ⟨co, cc, rfl, hr, hb⟩
      have B9 : Below w8.heap.size w8 w9 := Below.trans (by repeat' (first | with_reducible exact Below.refl _ _ | with_reducible assumption | with_reducible apply below_drewN | with_reducible apply Below.drew | with_reducible refine Below.setCell ?_ ?_ _ | with_reducible refine Below.alloc ?_ ?_ _ | omega | (simp; done) | (simp; omega))) (hb.mono (by first | omega | (simp; done) | (simp; omega)))
      have Bz9 := B9.size
      have C1 := Lib.hid (Atc.of_row hr)
      clear hb hr
      go_wp2_with fail
      refine (rcells_any mo M.length mc M _ (HM.out.below (D3.trans (B9.mono D3.size))) rfl (by omega)).mono ?_
      rintro e w10 ⟨co', cc', rfl, hr, hb⟩
      have B10 : Below w9.heap.size w9 w10 := Below.trans (by repeat' (first | with_reducible exact Below.refl _ _ | with_reducible assumption | with_reducible apply below_drewN | with_reducible apply Below.drew | with_reducible refine Below.setCell ?_ ?_ _ | with_reducible refine Below.alloc ?_ ?_ _ | omega | (simp; done) | (simp; omega))) (hb.mono (by first | omega | (simp; done) | (simp; omega)))
      have Bz10 := B10.size
      have C2 := Lib.hid (Atc.of_row hr)
      clear hb hr
      go_wp2_with fail
      refine (rsame_any co co' L.length (cellsL M).length cc cc' L (cellsL M) _ (C1.out.below (by repeat' (first | with_reducible exact Below.refl _ _ | with_reducible assumption | with_reducible apply below_drewN | with_reducible apply Below.drew | with_reducible refine Below.setCell ?_ ?_ _ | with_reducible refine Below.alloc ?_ ?_ _ | omega | (simp; done) | (simp; omega)))) C2.out rfl rfl (by omega)).mono ?_
      rw [show decide (L = cellsL M) = true by simpa using R2.out]
      rintro e w11 ⟨rfl, hb⟩
      have B11 : Below w10.heap.size w10 w11 := Below.trans (by repeat' (first | with_reducible exact Below.refl _ _ | with_reducible assumption | with_reducible apply below_drewN | with_reducible apply Below.drew | with_reducible refine Below.setCell ?_ ?_ _ | with_reducible refine Below.alloc ?_ ?_ _ | omega | (simp; done) | (simp; omega))) (hb.mono (by first | omega | (simp; done) | (simp; omega)))
      clear hb
      go_wp2_with fail
      go_ret
      exact ⟨rfl, B2.trans ((D2.trans ((B9.trans ((B10.trans (B11.mono Bz10)).mono Bz9)).mono D2.size)).mono Bz2)⟩
    · go_wp2_with fail
      go_ret
      exact ⟨rfl, B2.trans ((B3.mono Bz2))⟩

set_option maxRecDepth 100000
set_option maxRecDepth 100000 in
theorem storeWrites_lifted (os : Os) (started : os.Started) (H : Type) (enc : TypeId × Value → H) :
    ReturnsInHanded {} Try.checked os 7 .any (Rows.storeWritesSpec.pre6 enc Try.prog Try.f7 Rows.storeWritesRow.domain false) (Rows.storeWritesSpec.post enc Try.prog Try.f7 false true false false) := by
  refine returnsInHanded_of_change (C := Try.checked) own started (by kernel_rfl) Try.func7
    (ChangeSpec.witness6 (enc := enc) (C := Try.checked) false ⟨#[], #[.slice none 0 0, .int .u64 0, .int .u64 0], []⟩ 8 (by kernel_rfl) (by kernel_rfl) (by kernel_rfl) (by kernel_rfl)) ?_
  intro W base args ds gs before hval0 hW _ _
  have hval : ∀ (j : Nat) t v, Try.f7.params[j]? = some t → args[j]? = some v → Value.okWide Try.prog W .any base t v := hval0
  have hW' := hW
  obtain ⟨p, q, hA0, hV, rfl, hfz, hnd⟩ := hW
  have hA : DataW.TrodAll enc Try.prog W 0 (fun _ => true) true Try.f7.params.toList args.toList ds p := hA0
  rw [Try.params7] at hA hval
  obtain ⟨v0, vs0, d0, ds0, p0, q0, hargs, rfl, rfl, h0, r0⟩ := trodAll_cons hA
  obtain ⟨v1, vs1, d1, ds1, p1, q1, rfl, rfl, rfl, h1, r1⟩ := trodAll_cons r0
  obtain ⟨v2, vs2, d2, ds2, p2, q2, rfl, rfl, rfl, h2, r2⟩ := trodAll_cons r1
  obtain ⟨rfl, rfl, rfl⟩ := trodAll_nil r2
  obtain rfl : args = #[v0, v1, v2] := by cases args; simp_all
  obtain ⟨rfl, rfl⟩ := trodVars_none hV
  obtain ⟨o0, k0, l0, rfl, A0, c0, w0⟩ := arg_cells h0 (hval 0 51 v0 rfl rfl)
  obtain ⟨a1, rfl, w1⟩ := arg_u64 Try.underlying23 (hval 1 23 v1 rfl rfl)
  obtain ⟨a2, rfl, w2⟩ := arg_u64 Try.underlying23 (hval 2 23 v2 rfl rfl)
  refine (storeWrites_walk (w := W) o0 k0 l0 a1 a2 A0 c0 w0 w1 w2).mono fun e W' ⟨he, hb⟩ => ?_
  subst he
  exact ⟨_, rfl, post_law laid hW' rfl (by kernel_rfl) rfl Try.underlying4 rfl hb⟩

/-- The statement. -/
theorem storeWrites_holds : Rows.StoreWritesSaid :=
  OpenClaim.holds_of_wide 7 Try.f7 rfl rfl rfl rfl rfl rfl rfl ⟨rfl, rfl, rfl, rfl, rfl⟩ rfl rfl rfl rfl rfl (by kernel_rfl) Try.func7 (by kernel_rfl)
    (of_decide_eq_true (by kernel_rfl)) (by unfold Func.isWrapper; first | (rw [if_pos (by decide +kernel)]; kernel_rfl) | (rw [if_neg (by decide +kernel)]; exact ⟨rfl, rfl⟩))
    (fun os started H enc _ => storeWrites_lifted os started H enc)
#print axioms storeWrites_holds
