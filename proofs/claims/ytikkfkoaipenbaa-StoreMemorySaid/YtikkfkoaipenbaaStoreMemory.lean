/- The statement StoreMemory: any cells, written in order, are a memory that holds the last values, or are refused for the first one that may not be. No conditions. -/
import Derived.Test.YtikkfkoaipenbaaAwake06
import Derived.Test.YtikkfkoaipenbaaStorec
import Derived.Test.YtikkfkoaipenbaaRefs
import Derived.Test.YtikkfkoaipenbaaArgc
import Derived.Test.YtikkfkoaipenbaaRows
namespace Go.Proofs.Ytikkfkoaipenbaa
open Go.RowKit Go.ChangeShapes Go.WideShapes Go.ChangeAt

set_option maxHeartbeats 2000000 in
theorem storeMemory_walk {w : World} (ao : Option Addr) (cap : Nat) (l : List (Int × Int)) (a : Int) (hl : Atc w ao l) (hc : ao = none → cap = 0) (hu : ∀ p ∈ l, U64 p.1 ∧ U64 p.2) (ha : U64 a) :
    Calls Try.prog 6 #[.slice ao l.length cap, .int .u64 a] w (RetB (.bool true) w) := by
  have HL := Lib.hid hl
  have HC := Lib.hid hc
  have HU : Hid (∀ p ∈ l, U64 p.1) := Lib.hid fun p hp => (hu p hp).1
  have HA := Lib.hid ha
  obtain ⟨n, hn⟩ : ∃ n, n = l.length := ⟨_, rfl⟩
  have HN := Lib.hid hn
  rw [← hn]
  clear hl hc hu ha hn
  go_enter Try.func6, Try.ntmps6
  go_wp2_with fail
  refine (awake_any _).mono ?_
  rintro e w1 ⟨rfl, hb⟩
  have B1 : Below w.heap.size w w1 := Below.trans (by repeat' (first | with_reducible exact Below.refl _ _ | with_reducible assumption | with_reducible apply below_drewN | with_reducible apply Below.drew | with_reducible refine Below.setCell ?_ ?_ _ | with_reducible refine Below.alloc ?_ ?_ _ | omega | (simp; done) | (simp; omega))) (hb.mono (by first | omega | (simp; done) | (simp; omega)))
  have Bz1 := B1.size
  clear hb
  by_cases hbig : 300 < n
  · go_wp2_with fail
    go_ret
    exact ⟨rfl, by repeat' (first | with_reducible exact Below.refl _ _ | with_reducible assumption | with_reducible apply below_drewN | with_reducible apply Below.drew | with_reducible refine Below.setCell ?_ ?_ _ | with_reducible refine Below.alloc ?_ ?_ _ | omega | (simp; done) | (simp; omega))⟩
  · have hbig' : n ≤ 300 := by omega
    go_wp2_with fail
    refine (of_any ao n cap l _ (HL.out.below (by repeat' (first | with_reducible exact Below.refl _ _ | with_reducible assumption | with_reducible apply below_drewN | with_reducible apply Below.drew | with_reducible refine Below.setCell ?_ ?_ _ | with_reducible refine Below.alloc ?_ ?_ _ | omega | (simp; done) | (simp; omega)))) HN.out (by have := HN.out; omega) HU.out).mono ?_
    obtain ⟨r1, r2, r3, r4⟩ := of_ref l (L := []) (M := []) rfl (by simp)
    have r5 := ofL_sorted l
    generalize ofL [] l = p at r1 r2 r3 r5
    generalize hq : rofL [] l = q at r1 r2 r4
    obtain ⟨L, z⟩ := p
    obtain ⟨M, z'⟩ := q
    simp only [List.length_nil, Nat.zero_add] at r1 r2 r3 r4 r5
    subst r1
    have HQ := Lib.hid hq
    have R2 := Lib.hid r2
    have R5 := Lib.hid r5
    have hM : M.length ≤ 300 := by have := HN.out; omega
    clear hq r2 r5 r4
    rintro e w2 ⟨ks, vs, rfl, hm, hb⟩
    have B2 : Below w.heap.size w w2 := B1.trans (Below.trans (by repeat' (first | with_reducible exact Below.refl _ _ | with_reducible assumption | with_reducible apply below_drewN | with_reducible apply Below.drew | with_reducible refine Below.setCell ?_ ?_ _ | with_reducible refine Below.alloc ?_ ?_ _ | omega | (simp; done) | (simp; omega))) (hb.mono (by first | omega | (simp; done) | (simp; omega))))
    have Bz2 := B2.size
    have M1 := Lib.hid hm
    obtain ⟨ao1, cap1, rfl⟩ := ownsRow_form hm.keys
    obtain ⟨ao2, cap2, rfl⟩ := ownsRow_form hm.vals
    clear hb hm
    go_wp2_with fail
    refine (rof_any ao n cap l _ (HL.out.below (by repeat' (first | with_reducible exact Below.refl _ _ | with_reducible assumption | with_reducible apply below_drewN | with_reducible apply Below.drew | with_reducible refine Below.setCell ?_ ?_ _ | with_reducible refine Below.alloc ?_ ?_ _ | omega | (simp; done) | (simp; omega)))) HN.out (by have := HN.out; omega) HU.out).mono ?_
    rw [HQ.out]
    rintro e w3 ⟨mo, mc, rfl, hM1, hmc, hb⟩
    have B3 : Below w2.heap.size w2 w3 := Below.trans (by repeat' (first | with_reducible exact Below.refl _ _ | with_reducible assumption | with_reducible apply below_drewN | with_reducible apply Below.drew | with_reducible refine Below.setCell ?_ ?_ _ | with_reducible refine Below.alloc ?_ ?_ _ | omega | (simp; done) | (simp; omega))) (hb.mono (by first | omega | (simp; done) | (simp; omega)))
    have Bz3 := B3.size
    obtain ⟨k1, k2, k3, k4⟩ := keepB hb w2.heap.size (by first | omega | (simp; done) | (simp; omega))
    have HM := Lib.hid hM1
    clear hb hM1 hmc
    go_wp2_with (first | (go_at_call 23; refine (check_any a _ HA.out).mono ?_; rintro e w4 ⟨rfl, rfl⟩) | (go_at_call 24; refine (rcheck_any a _ HA.out).mono ?_; rintro e w4 ⟨rfl, rfl⟩))
    refine (cells_any _ _ L _ (M1.out.below (by repeat' (first | with_reducible exact Below.refl _ _ | with_reducible assumption | with_reducible apply below_drewN | with_reducible apply Below.drew | with_reducible refine Below.setCell ?_ ?_ _ | with_reducible refine Below.alloc ?_ ?_ _ | omega | (simp; done) | (simp; omega)))) (by omega)).mono ?_
    rintro e w4 ⟨co, cc, rfl, hr, hb⟩
    have B4 : Below w3.heap.size w3 w4 := Below.trans (by repeat' (first | with_reducible exact Below.refl _ _ | with_reducible assumption | with_reducible apply below_drewN | with_reducible apply Below.drew | with_reducible refine Below.setCell ?_ ?_ _ | with_reducible refine Below.alloc ?_ ?_ _ | omega | (simp; done) | (simp; omega))) (hb.mono (by first | omega | (simp; done) | (simp; omega)))
    have Bz4 := B4.size
    obtain ⟨m1, m2, m3, m4⟩ := keepB B4 w2.heap.size k3
    have C1 := Lib.hid (Atc.of_row hr)
    clear hb hr
    go_wp2_with fail
    refine (rcells_any mo M.length mc M _ (HM.out.below (by repeat' (first | with_reducible exact Below.refl _ _ | with_reducible assumption | with_reducible apply below_drewN | with_reducible apply Below.drew | with_reducible refine Below.setCell ?_ ?_ _ | with_reducible refine Below.alloc ?_ ?_ _ | omega | (simp; done) | (simp; omega)))) rfl (by omega)).mono ?_
    rintro e w5 ⟨co', cc', rfl, hr, hb⟩
    have B5 : Below w4.heap.size w4 w5 := Below.trans (by repeat' (first | with_reducible exact Below.refl _ _ | with_reducible assumption | with_reducible apply below_drewN | with_reducible apply Below.drew | with_reducible refine Below.setCell ?_ ?_ _ | with_reducible refine Below.alloc ?_ ?_ _ | omega | (simp; done) | (simp; omega))) (hb.mono (by first | omega | (simp; done) | (simp; omega)))
    have Bz5 := B5.size
    obtain ⟨n1, n2, n3, n4⟩ := keepB B5 w2.heap.size m3
    have C2 := Lib.hid (Atc.of_row hr)
    clear hb hr
    go_wp2_with fail
    refine (rsame_any co co' L.length (cellsL M).length cc cc' L (cellsL M) _ (C1.out.below (by repeat' (first | with_reducible exact Below.refl _ _ | with_reducible assumption | with_reducible apply below_drewN | with_reducible apply Below.drew | with_reducible refine Below.setCell ?_ ?_ _ | with_reducible refine Below.alloc ?_ ?_ _ | omega | (simp; done) | (simp; omega)))) C2.out rfl rfl (by omega)).mono ?_
    rw [show decide (L = cellsL M) = true by simpa using R2.out]
    rintro e w6 ⟨rfl, hb⟩
    have B6 : Below w5.heap.size w5 w6 := Below.trans (by repeat' (first | with_reducible exact Below.refl _ _ | with_reducible assumption | with_reducible apply below_drewN | with_reducible apply Below.drew | with_reducible refine Below.setCell ?_ ?_ _ | with_reducible refine Below.alloc ?_ ?_ _ | omega | (simp; done) | (simp; omega))) (hb.mono (by first | omega | (simp; done) | (simp; omega)))
    have Bz6 := B6.size
    obtain ⟨p1, p2, p3, p4⟩ := keepB B6 w2.heap.size n3
    clear hb
    have D1 : Below w2.heap.size w2 w6 := B3.trans ((B4.trans ((B5.trans (B6.mono Bz5)).mono Bz4)).mono Bz3)
    have D2 : Below w3.heap.size w3 w6 := B4.trans ((B5.trans (B6.mono Bz5)).mono Bz4)
    go_wp2_with fail
    refine (read_any _ _ L a _ (M1.out.below (by repeat' (first | with_reducible exact Below.refl _ _ | with_reducible assumption | with_reducible apply below_drewN | with_reducible apply Below.drew | with_reducible refine Below.setCell ?_ ?_ _ | with_reducible refine Below.alloc ?_ ?_ _ | omega | (simp; done) | (simp; omega)))) R5.out (by omega)).mono ?_
    rintro e w7 ⟨rfl, hb⟩
    have B7 : Below w6.heap.size w6 w7 := Below.trans (by repeat' (first | with_reducible exact Below.refl _ _ | with_reducible assumption | with_reducible apply below_drewN | with_reducible apply Below.drew | with_reducible refine Below.setCell ?_ ?_ _ | with_reducible refine Below.alloc ?_ ?_ _ | omega | (simp; done) | (simp; omega))) (hb.mono (by first | omega | (simp; done) | (simp; omega)))
    clear hb
    go_wp2_with fail
    refine (rread_any mo M.length mc M a _ (HM.out.below (D2.trans (B7.mono D2.size))) rfl (by omega)).mono ?_
    rw [show readL M a = getL L a by rw [R2.out, cellsL_read]]
    rintro e w8 ⟨rfl, rfl⟩
    go_wp2_with fail
    go_ret
    exact ⟨rfl, B2.trans ((D1.trans (B7.mono D1.size)).mono Bz2)⟩

set_option maxRecDepth 100000
set_option maxRecDepth 100000 in
theorem storeMemory_lifted (os : Os) (started : os.Started) (H : Type) (enc : TypeId × Value → H) :
    ReturnsInHanded {} Try.checked os 6 .any (Rows.storeMemorySpec.pre6 enc Try.prog Try.f6 Rows.storeMemoryRow.domain false) (Rows.storeMemorySpec.post enc Try.prog Try.f6 false true false false) := by
  refine returnsInHanded_of_change (C := Try.checked) own started (by kernel_rfl) Try.func6
    (ChangeSpec.witness6 (enc := enc) (C := Try.checked) false ⟨#[], #[.slice none 0 0, .int .u64 0], []⟩ 8 (by kernel_rfl) (by kernel_rfl) (by kernel_rfl) (by kernel_rfl)) ?_
  intro W base args ds gs before hval0 hW _ _
  have hval : ∀ (j : Nat) t v, Try.f6.params[j]? = some t → args[j]? = some v → Value.okWide Try.prog W .any base t v := hval0
  have hW' := hW
  obtain ⟨p, q, hA0, hV, rfl, hfz, hnd⟩ := hW
  have hA : DataW.TrodAll enc Try.prog W 0 (fun _ => true) true Try.f6.params.toList args.toList ds p := hA0
  rw [Try.params6] at hA hval
  obtain ⟨v0, vs0, d0, ds0, p0, q0, hargs, rfl, rfl, h0, r0⟩ := trodAll_cons hA
  obtain ⟨v1, vs1, d1, ds1, p1, q1, rfl, rfl, rfl, h1, r1⟩ := trodAll_cons r0
  obtain ⟨rfl, rfl, rfl⟩ := trodAll_nil r1
  obtain rfl : args = #[v0, v1] := by cases args; simp_all
  obtain ⟨rfl, rfl⟩ := trodVars_none hV
  obtain ⟨o0, k0, l0, rfl, A0, c0, w0⟩ := arg_cells h0 (hval 0 51 v0 rfl rfl)
  obtain ⟨a1, rfl, w1⟩ := arg_u64 Try.underlying23 (hval 1 23 v1 rfl rfl)
  refine (storeMemory_walk (w := W) o0 k0 l0 a1 A0 c0 w0 w1).mono fun e W' ⟨he, hb⟩ => ?_
  subst he
  exact ⟨_, rfl, post_law laid hW' rfl (by kernel_rfl) rfl Try.underlying4 rfl hb⟩

/-- The statement. -/
theorem storeMemory_holds : Rows.StoreMemorySaid :=
  OpenClaim.holds_of_wide 6 Try.f6 rfl rfl rfl rfl rfl rfl rfl ⟨rfl, rfl, rfl, rfl, rfl⟩ rfl rfl rfl rfl rfl (by kernel_rfl) Try.func6 (by kernel_rfl)
    (of_decide_eq_true (by kernel_rfl)) (by unfold Func.isWrapper; first | (rw [if_pos (by decide +kernel)]; kernel_rfl) | (rw [if_neg (by decide +kernel)]; exact ⟨rfl, rfl⟩))
    (fun os started H enc _ => storeMemory_lifted os started H enc)
#print axioms storeMemory_holds

end Go.Proofs.Ytikkfkoaipenbaa
