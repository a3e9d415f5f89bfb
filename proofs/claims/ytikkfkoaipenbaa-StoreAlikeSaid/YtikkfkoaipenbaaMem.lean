/- Memories of package store: Check, Read, Write. -/
import Derived.Test.YtikkfkoaipenbaaField
import Derived.Test.YtikkfkoaipenbaaMapue
namespace Go.Proofs.Ytikkfkoaipenbaa
open Go.RowKit

/-- May there be a cell? 0: yes; the error's number. -/
def chkZ (a : Int) : Int := if alignedB a 3 = true then (if a < 4294967296 then 0 else 1) else 60

/-- A memory in which a cell holds something, and the error's number. -/
def writeL (L : List (Int × Int)) (a v : Int) : List (Int × Int) × Int :=
  if chkZ a = 0 then (if v = 0 then (withoutL L a, 0) else if (withL L a v).length ≤ 256 then (withL L a v, 0) else (L, 2)) else (L, chkZ a)

theorem check_any (a : Int) (w : World) (ha : U64 a) : Calls Try.prog 23 #[.int .u64 a] w (Ret (.int .i64 (chkZ a)) w) := by
  have HA := Lib.hid ha
  clear ha
  cases h : alignedB a 3
  · have HH := Lib.hid h
    have HC := Lib.hid (show chkZ a = 60 by unfold chkZ; rw [if_neg (by simp [h])])
    clear h
    go_enter Try.func23, Try.ntmps23
    go_wp2_with (go_at_call 37; refine (aligned_any a 3 _ HA.out).mono ?_; rintro e w1 ⟨rfl, rfl⟩; rw [HH.out])
    go_ret
    exact ⟨by rw [HC.out]; rfl, rfl⟩
  · have HH := Lib.hid h
    by_cases h2 : a < 4294967296
    · have HC := Lib.hid (show chkZ a = 0 by unfold chkZ; rw [if_pos h, if_pos h2])
      clear h
      go_enter Try.func23, Try.ntmps23
      go_wp2_with (go_at_call 37; refine (aligned_any a 3 _ HA.out).mono ?_; rintro e w1 ⟨rfl, rfl⟩; rw [HH.out])
      go_ret
      exact ⟨by rw [HC.out]; rfl, rfl⟩
    · have HC := Lib.hid (show chkZ a = 1 by unfold chkZ; rw [if_pos h, if_neg h2])
      clear h
      go_enter Try.func23, Try.ntmps23
      go_wp2_with (go_at_call 37; refine (aligned_any a 3 _ HA.out).mono ?_; rintro e w1 ⟨rfl, rfl⟩; rw [HH.out])
      go_ret
      exact ⟨by rw [HC.out]; rfl, rfl⟩

theorem read_any (ks vs : Value) (L : List (Int × Int)) (a : Int) (w : World) (hm : MapuIs w ks vs L) (hs : Sorted L) (hlen : L.length ≤ 900) :
    Calls Try.prog 28 #[.agg #[ks, vs], .int .u64 a] w (RetB (.int .u64 (getL L a)) w) := by
  have HM := Lib.hid hm
  have HS := Lib.hid hs
  obtain ⟨ao, cap, rfl⟩ := ownsRow_form hm.keys
  obtain ⟨bo, cap2, rfl⟩ := ownsRow_form hm.vals
  clear hm hs
  go_enter Try.func28, Try.ntmps28
  go_wp2_with fail
  refine (getu_any _ _ L a _ (HM.out.below (by repeat' (first | with_reducible exact Below.refl _ _ | with_reducible assumption | with_reducible apply below_drewN | with_reducible apply Below.drew | with_reducible refine Below.setCell ?_ ?_ _ | with_reducible refine Below.alloc ?_ ?_ _ | omega | (simp; done) | (simp; omega)))) HS.out (by omega)).mono ?_
  rintro e w1 ⟨rfl, hb⟩
  have B : Below w.heap.size w w1 := Below.trans (by repeat' (first | with_reducible exact Below.refl _ _ | with_reducible assumption | with_reducible apply below_drewN | with_reducible apply Below.drew | with_reducible refine Below.setCell ?_ ?_ _ | with_reducible refine Below.alloc ?_ ?_ _ | omega | (simp; done) | (simp; omega))) (hb.mono (by first | omega | (simp; done) | (simp; omega))); have Bz := B.size
  clear hb
  go_wp2_with fail
  go_ret
  exact ⟨rfl, by repeat' (first | with_reducible exact Below.refl _ _ | with_reducible assumption | with_reducible apply below_drewN | with_reducible apply Below.drew | with_reducible refine Below.setCell ?_ ?_ _ | with_reducible refine Below.alloc ?_ ?_ _ | omega | (simp; done) | (simp; omega))⟩

/-- The call returns a memory that holds these cells, and an error's number. -/
def RetMem (r : List (Int × Int) × Int) (w : World) (e : Ending) (w' : World) : Prop :=
  ∃ ks vs, e = .returned (.tuple #[.agg #[ks, vs], .int .i64 r.2]) ∧ MapuIs w' ks vs r.1 ∧ Below w.heap.size w w'

set_option maxHeartbeats 1000000 in
theorem write_any (ks vs : Value) (L : List (Int × Int)) (a v : Int) (w : World) (hm : MapuIs w ks vs L) (hs : Sorted L) (hlen : L.length ≤ 900) (ha : U64 a) :
    Calls Try.prog 30 #[.agg #[ks, vs], .int .u64 a, .int .u64 v] w (RetMem (writeL L a v) w) := by
  have HM := Lib.hid hm
  have HS := Lib.hid hs
  have HA := Lib.hid ha
  obtain ⟨ao, cap, rfl⟩ := ownsRow_form hm.keys
  obtain ⟨bo, cap2, rfl⟩ := ownsRow_form hm.vals
  clear hm hs ha
  by_cases h1 : chkZ a = 0
  · have H1 := Lib.hid h1
    by_cases h2 : v = 0
    · subst h2
      have HW := Lib.hid (show writeL L a 0 = (withoutL L a, 0) by unfold writeL; rw [if_pos h1, if_pos rfl])
      clear h1
      go_enter Try.func30, Try.ntmps30
      go_wp2_with (go_at_call 23; refine (check_any a _ HA.out).mono ?_; rintro e w1 ⟨rfl, rfl⟩; rw [H1.out])
      refine (withoutu_any _ _ L a _ (HM.out.below (by repeat' (first | with_reducible exact Below.refl _ _ | with_reducible assumption | with_reducible apply below_drewN | with_reducible apply Below.drew | with_reducible refine Below.setCell ?_ ?_ _ | with_reducible refine Below.alloc ?_ ?_ _ | omega | (simp; done) | (simp; omega)))) HS.out (by omega)).mono ?_
      rintro e w1 ⟨ks', vs', rfl, hm', hb⟩
      have B : Below w.heap.size w w1 := Below.trans (by repeat' (first | with_reducible exact Below.refl _ _ | with_reducible assumption | with_reducible apply below_drewN | with_reducible apply Below.drew | with_reducible refine Below.setCell ?_ ?_ _ | with_reducible refine Below.alloc ?_ ?_ _ | omega | (simp; done) | (simp; omega))) (hb.mono (by first | omega | (simp; done) | (simp; omega))); have Bz := B.size
      obtain ⟨k1, k2, k3, k4⟩ := keepB hb w.heap.size (by first | omega | (simp; done) | (simp; omega))
      obtain ⟨m1, m2, m3, m4⟩ := keepB hb (w.heap.size + 1) (by first | omega | (simp; done) | (simp; omega))
      have m5 : w1.heap[w.heap.size + 1]? = some (.cells #[.slice none 0 0, .slice none 0 0] 55) := by rw [hb.block _ (by first | omega | (simp; done) | (simp; omega))]; (repeat (first | assumption | (refine heap_new _ _ _ ?_; simp; done) | refine heap_old _ _ _ _ ?_))
      have HB := Lib.hid B
      clear hb
      have HM' := Lib.hid hm'
      obtain ⟨ao', cap', rfl⟩ := ownsRow_form hm'.keys
      obtain ⟨bo', cap2', rfl⟩ := ownsRow_form hm'.vals
      clear hm'
      go_wp2_with fail
      refine bodyPost_ret (v := .tuple #[.agg #[.slice ao' (withoutL L a).length cap', .slice bo' (withoutL L a).length cap2'], .int .i64 0]) (by simp [results, Try.results30, go_sem, *]) rfl ⟨_, _, by rw [HW.out], ?_, ?_⟩
      · rw [HW.out]
        refine (HM'.out.set m5 (by decide) (by decide) _ _).set (heap_setCell_cells m5) (by decide) (by decide) _ _
      · repeat' (first | with_reducible exact Below.refl _ _ | with_reducible assumption | with_reducible apply below_drewN | with_reducible apply Below.drew | with_reducible refine Below.setCell ?_ ?_ _ | with_reducible refine Below.alloc ?_ ?_ _ | omega | (simp; done) | (simp; omega))
    · have hv : (v == 0) = false := by simpa using h2
      have hwl : (withL L a v).length ≤ 901 := by
        have := posL_le L a
        unfold withL
        simp only [List.length_append, List.length_take, List.length_cons, List.length_drop]
        split <;> omega
      obtain ⟨M, hM⟩ : ∃ M, M = withL L a v := ⟨_, rfl⟩
      have hw : writeL L a v = if M.length ≤ 256 then (M, 0) else (L, 2) := by unfold writeL; rw [if_pos h1, if_neg h2, ← hM]
      rw [hw]
      rw [← hM] at hwl
      have HMM := Lib.hid hM
      clear h1 hw hM
      by_cases h3 : M.length ≤ 256
      · rw [if_pos h3]
        go_enter Try.func30, Try.ntmps30
        go_wp2_with (go_at_call 23; refine (check_any a _ HA.out).mono ?_; rintro e w1 ⟨rfl, rfl⟩; rw [H1.out])
        refine (withu_any _ _ L a v _ (HM.out.below (by repeat' (first | with_reducible exact Below.refl _ _ | with_reducible assumption | with_reducible apply below_drewN | with_reducible apply Below.drew | with_reducible refine Below.setCell ?_ ?_ _ | with_reducible refine Below.alloc ?_ ?_ _ | omega | (simp; done) | (simp; omega)))) HS.out (by omega)).mono ?_
        rw [← HMM.out]
        rintro e w1 ⟨ks', vs', rfl, hm', hb⟩
        have B : Below w.heap.size w w1 := Below.trans (by repeat' (first | with_reducible exact Below.refl _ _ | with_reducible assumption | with_reducible apply below_drewN | with_reducible apply Below.drew | with_reducible refine Below.setCell ?_ ?_ _ | with_reducible refine Below.alloc ?_ ?_ _ | omega | (simp; done) | (simp; omega))) (hb.mono (by first | omega | (simp; done) | (simp; omega))); have Bz := B.size
        obtain ⟨k1, k2, k3, k4⟩ := keepB hb w.heap.size (by first | omega | (simp; done) | (simp; omega))
        obtain ⟨m1, m2, m3, m4⟩ := keepB hb (w.heap.size + 1) (by first | omega | (simp; done) | (simp; omega))
        have m5 : w1.heap[w.heap.size + 1]? = some (.cells #[.slice none 0 0, .slice none 0 0] 55) := by rw [hb.block _ (by first | omega | (simp; done) | (simp; omega))]; (repeat (first | assumption | (refine heap_new _ _ _ ?_; simp; done) | refine heap_old _ _ _ _ ?_))
        have HB := Lib.hid B
        clear hb
        have HM' := Lib.hid hm'
        obtain ⟨ao', cap', rfl⟩ := ownsRow_form hm'.keys
        obtain ⟨bo', cap2', rfl⟩ := ownsRow_form hm'.vals
        clear hm'
        go_wp2_with fail
        refine (lenu_any _ _ M _ (HM'.out.below (by repeat' (first | with_reducible exact Below.refl _ _ | with_reducible assumption | with_reducible apply below_drewN | with_reducible apply Below.drew | with_reducible refine Below.setCell ?_ ?_ _ | with_reducible refine Below.alloc ?_ ?_ _ | omega | (simp; done) | (simp; omega))))).mono ?_
        rintro e w2 ⟨rfl, hb⟩
        have B : Below w.heap.size w w2 := Below.trans (by repeat' (first | with_reducible exact Below.refl _ _ | with_reducible assumption | with_reducible apply below_drewN | with_reducible apply Below.drew | with_reducible refine Below.setCell ?_ ?_ _ | with_reducible refine Below.alloc ?_ ?_ _ | omega | (simp; done) | (simp; omega))) (hb.mono (by first | omega | (simp; done) | (simp; omega))); have Bz := B.size
        obtain ⟨k1, k2, k3, k4⟩ := keepB hb w1.heap.size (by first | omega | (simp; done) | (simp; omega))
        obtain ⟨q1, q2, q3, q4⟩ := keepB hb (w.heap.size + 1) (by first | omega | (simp; done) | (simp; omega))
        have q5 : w2.heap[w.heap.size + 1]? = some (.cells #[.slice none 0 0, .slice none 0 0] 55) := by rw [hb.block _ (by first | omega | (simp; done) | (simp; omega))]; (repeat (first | assumption | (refine heap_new _ _ _ ?_; simp; done) | refine heap_old _ _ _ _ ?_))
        have HM2 := Lib.hid ((HM'.out.below (by repeat' (first | with_reducible exact Below.refl _ _ | with_reducible assumption | with_reducible apply below_drewN | with_reducible apply Below.drew | with_reducible refine Below.setCell ?_ ?_ _ | with_reducible refine Below.alloc ?_ ?_ _ | omega | (simp; done) | (simp; omega)))).below hb)
        have HB2 := Lib.hid B
        clear hb
        go_wp2_with fail
        refine bodyPost_ret (v := .tuple #[.agg #[.slice ao' M.length cap', .slice bo' M.length cap2'], .int .i64 0]) (by simp [results, Try.results30, go_sem, *]) rfl ⟨_, _, rfl, ?_, ?_⟩
        · refine (HM2.out.set q5 (by decide) (by decide) _ _).set (heap_setCell_cells q5) (by decide) (by decide) _ _
        · repeat' (first | with_reducible exact Below.refl _ _ | with_reducible assumption | with_reducible apply below_drewN | with_reducible apply Below.drew | with_reducible refine Below.setCell ?_ ?_ _ | with_reducible refine Below.alloc ?_ ?_ _ | omega | (simp; done) | (simp; omega))
      · rw [if_neg h3]
        go_enter Try.func30, Try.ntmps30
        go_wp2_with (go_at_call 23; refine (check_any a _ HA.out).mono ?_; rintro e w1 ⟨rfl, rfl⟩; rw [H1.out])
        refine (withu_any _ _ L a v _ (HM.out.below (by repeat' (first | with_reducible exact Below.refl _ _ | with_reducible assumption | with_reducible apply below_drewN | with_reducible apply Below.drew | with_reducible refine Below.setCell ?_ ?_ _ | with_reducible refine Below.alloc ?_ ?_ _ | omega | (simp; done) | (simp; omega)))) HS.out (by omega)).mono ?_
        rw [← HMM.out]
        rintro e w1 ⟨ks', vs', rfl, hm', hb⟩
        have B : Below w.heap.size w w1 := Below.trans (by repeat' (first | with_reducible exact Below.refl _ _ | with_reducible assumption | with_reducible apply below_drewN | with_reducible apply Below.drew | with_reducible refine Below.setCell ?_ ?_ _ | with_reducible refine Below.alloc ?_ ?_ _ | omega | (simp; done) | (simp; omega))) (hb.mono (by first | omega | (simp; done) | (simp; omega))); have Bz := B.size
        obtain ⟨k1, k2, k3, k4⟩ := keepB hb w.heap.size (by first | omega | (simp; done) | (simp; omega))
        obtain ⟨m1, m2, m3, m4⟩ := keepB hb (w.heap.size + 1) (by first | omega | (simp; done) | (simp; omega))
        have m5 : w1.heap[w.heap.size + 1]? = some (.cells #[.slice none 0 0, .slice none 0 0] 55) := by rw [hb.block _ (by first | omega | (simp; done) | (simp; omega))]; (repeat (first | assumption | (refine heap_new _ _ _ ?_; simp; done) | refine heap_old _ _ _ _ ?_))
        have HB := Lib.hid B
        clear hb
        have HM' := Lib.hid hm'
        obtain ⟨ao', cap', rfl⟩ := ownsRow_form hm'.keys
        obtain ⟨bo', cap2', rfl⟩ := ownsRow_form hm'.vals
        clear hm'
        go_wp2_with fail
        refine (lenu_any _ _ M _ (HM'.out.below (by repeat' (first | with_reducible exact Below.refl _ _ | with_reducible assumption | with_reducible apply below_drewN | with_reducible apply Below.drew | with_reducible refine Below.setCell ?_ ?_ _ | with_reducible refine Below.alloc ?_ ?_ _ | omega | (simp; done) | (simp; omega))))).mono ?_
        rintro e w2 ⟨rfl, hb⟩
        have B : Below w.heap.size w w2 := Below.trans (by repeat' (first | with_reducible exact Below.refl _ _ | with_reducible assumption | with_reducible apply below_drewN | with_reducible apply Below.drew | with_reducible refine Below.setCell ?_ ?_ _ | with_reducible refine Below.alloc ?_ ?_ _ | omega | (simp; done) | (simp; omega))) (hb.mono (by first | omega | (simp; done) | (simp; omega))); have Bz := B.size
        obtain ⟨k1, k2, k3, k4⟩ := keepB hb w.heap.size (by first | omega | (simp; done) | (simp; omega))
        obtain ⟨q1, q2, q3, q4⟩ := keepB hb (w.heap.size + 1) (by first | omega | (simp; done) | (simp; omega))
        have q5 : w2.heap[w.heap.size + 1]? = some (.cells #[.slice none 0 0, .slice none 0 0] 55) := by rw [hb.block _ (by first | omega | (simp; done) | (simp; omega))]; (repeat (first | assumption | (refine heap_new _ _ _ ?_; simp; done) | refine heap_old _ _ _ _ ?_))
        have HB2 := Lib.hid B
        have HM2 := Lib.hid (HM.out.below HB2.out)
        clear hb
        go_wp2_with fail
        refine bodyPost_ret (v := .tuple #[.agg #[.slice ao L.length cap, .slice bo L.length cap2], .int .i64 2]) (by simp [results, Try.results30, go_sem, *]) rfl ⟨_, _, rfl, ?_, ?_⟩
        · refine (HM2.out.set q5 (by decide) (by decide) _ _).set (heap_setCell_cells q5) (by decide) (by decide) _ _
        · repeat' (first | with_reducible exact Below.refl _ _ | with_reducible assumption | with_reducible apply below_drewN | with_reducible apply Below.drew | with_reducible refine Below.setCell ?_ ?_ _ | with_reducible refine Below.alloc ?_ ?_ _ | omega | (simp; done) | (simp; omega))
  · have hd : (chkZ a != 0) = true := by simpa using h1
    have HW := Lib.hid (show writeL L a v = (L, chkZ a) by unfold writeL; rw [if_neg h1])
    have HC := Lib.hid (fun W => check_any a W HA.out)
    rw [HW.out]
    generalize chkZ a = z at *
    clear HW
    go_enter Try.func30, Try.ntmps30
    go_wp2_with (go_at_call 23; refine (HC.out _).mono ?_; rintro e w1 ⟨rfl, rfl⟩)
    refine bodyPost_ret (v := .tuple #[.agg #[.slice ao L.length cap, .slice bo L.length cap2], .int .i64 z]) (by simp [results, Try.results30, go_sem, *]) rfl ⟨_, _, rfl, ?_, ?_⟩
    · exact HM.out.below (by repeat' (first | with_reducible exact Below.refl _ _ | with_reducible assumption | with_reducible apply below_drewN | with_reducible apply Below.drew | with_reducible refine Below.setCell ?_ ?_ _ | with_reducible refine Below.alloc ?_ ?_ _ | omega | (simp; done) | (simp; omega)))
    · repeat' (first | with_reducible exact Below.refl _ _ | with_reducible assumption | with_reducible apply below_drewN | with_reducible apply Below.drew | with_reducible refine Below.setCell ?_ ?_ _ | with_reducible refine Below.alloc ?_ ?_ _ | omega | (simp; done) | (simp; omega))

end Go.Proofs.Ytikkfkoaipenbaa
