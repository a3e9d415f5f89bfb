/- The page's examples for the store. -/
import Derived.Test.YtikkfkoaipenbaaCells
import Derived.Test.YtikkfkoaipenbaaMemb
import Derived.Test.YtikkfkoaipenbaaRow
namespace Go.Proofs.Ytikkfkoaipenbaa
open Go.RowKit

theorem own : ownKnob Try.prog.godebug = none := by kernel_rfl
theorem laid : laidOutB Try.prog = true := by kernel_rfl

theorem ex_of : ofL [] [(8, 1), (16, 0)] = ([(8, 1)], 0) := by decide +kernel
theorem ex_write : writeL [(8, 1)] 4 1 = ([(8, 1)], 60) := by decide +kernel
theorem ex_read : getL [(8, 1)] 8 = 1 := by decide +kernel
theorem ex_sorted : Sorted [(8, 1)] := List.pairwise_singleton _ _
theorem u64_lit (n : Int) (h : (decide (0 ≤ n) && decide (n < 18446744073709551616)) = true) : U64 n := by
  simp at h
  exact ⟨h.1, h.2⟩

theorem four_new (w : World) (x y z u : Value) (e : TypeId) : ∀ (j : Nat) (v : Value), [x, y, z, u][j]? = some v → (w.alloc (.cells #[x, y, z, u] e)).cell? ((⟨w.heap.size, 0, none⟩ : Addr).add j) = some v := by
  intro j v hj
  match j, hj with
  | 0, hj => simp at hj; subst hj; simp [Addr.add]
  | 1, hj => simp at hj; subst hj; simp [Addr.add]
  | 2, hj => simp at hj; subst hj; simp [Addr.add]
  | 3, hj => simp at hj; subst hj; simp [Addr.add]

set_option maxHeartbeats 1000000 in
theorem awake_any (w : World) : Calls Try.prog 10 #[] w (RetB (.bool true) w) := by
  have A0 : Hid (Atc (w.alloc (.cells #[.int .u64 8, .int .u64 1, .int .u64 16, .int .u64 0] 73)) (some ⟨w.heap.size, 0, none⟩) [(8, 1), (16, 0)]) := Lib.hid ⟨fun h => (by cases h), fun ad h => (by cases h; exact four_new _ _ _ _ _ _)⟩
  have S := Lib.hid ex_sorted
  go_enter Try.func10, Try.ntmps10
  go_wp2_with (go_at_call 21; refine (of_any _ 2 2 [(8, 1), (16, 0)] _ A0.out rfl (by decide) (by intro p hp; simp at hp; rcases hp with rfl | rfl <;> exact u64_lit _ (by decide))).mono ?_; rw [ex_of]; rintro e w1 ⟨ks, vs, rfl, hm, hb⟩; have B1 : Below w.heap.size w w1 := Below.trans (by repeat' (first | with_reducible exact Below.refl _ _ | with_reducible assumption | with_reducible apply below_drewN | with_reducible apply Below.drew | with_reducible refine Below.setCell ?_ ?_ _ | with_reducible refine Below.alloc ?_ ?_ _ | omega | (simp; done) | (simp; omega))) (hb.mono (by first | omega | (simp; done) | (simp; omega))); have Bz1 := B1.size; have M1 := Lib.hid hm; obtain ⟨ao1, cap1, rfl⟩ := ownsRow_form hm.keys; obtain ⟨ao2, cap2, rfl⟩ := ownsRow_form hm.vals; clear hb hm)
  refine (write_any _ _ [(8, 1)] 4 1 _ (M1.out.below (by repeat' (first | with_reducible exact Below.refl _ _ | with_reducible assumption | with_reducible apply below_drewN | with_reducible apply Below.drew | with_reducible refine Below.setCell ?_ ?_ _ | with_reducible refine Below.alloc ?_ ?_ _ | omega | (simp; done) | (simp; omega)))) S.out (by decide) (u64_lit _ (by decide))).mono ?_
  rw [ex_write]
  rintro e w2 ⟨ks2, vs2, rfl, hm, hb⟩
  have B2 : Below w1.heap.size w1 w2 := Below.trans (by repeat' (first | with_reducible exact Below.refl _ _ | with_reducible assumption | with_reducible apply below_drewN | with_reducible apply Below.drew | with_reducible refine Below.setCell ?_ ?_ _ | with_reducible refine Below.alloc ?_ ?_ _ | omega | (simp; done) | (simp; omega))) (hb.mono (by first | omega | (simp; done) | (simp; omega)))
  have Bz2 := B2.size
  obtain ⟨k1, k2, k3, k4⟩ := keepB hb w1.heap.size (by first | omega | (simp; done) | (simp; omega))
  have M2 := Lib.hid hm
  obtain ⟨ao3, cap3, rfl⟩ := ownsRow_form hm.keys
  obtain ⟨ao4, cap4, rfl⟩ := ownsRow_form hm.vals
  clear hb hm
  go_wp2_with fail
  refine (cells_any _ _ [(8, 1)] _ (M1.out.below (by repeat' (first | with_reducible exact Below.refl _ _ | with_reducible assumption | with_reducible apply below_drewN | with_reducible apply Below.drew | with_reducible refine Below.setCell ?_ ?_ _ | with_reducible refine Below.alloc ?_ ?_ _ | omega | (simp; done) | (simp; omega)))) (by decide)).mono ?_
  rintro e w3 ⟨ao5, cap5, rfl, -, hb⟩
  have B3 : Below w2.heap.size w2 w3 := Below.trans (by repeat' (first | with_reducible exact Below.refl _ _ | with_reducible assumption | with_reducible apply below_drewN | with_reducible apply Below.drew | with_reducible refine Below.setCell ?_ ?_ _ | with_reducible refine Below.alloc ?_ ?_ _ | omega | (simp; done) | (simp; omega))) (hb.mono (by first | omega | (simp; done) | (simp; omega)))
  have Bz3 := B3.size
  have C3 : Below w1.heap.size w1 w3 := B2.trans (B3.mono Bz2)
  obtain ⟨m1, m2, m3, m4⟩ := keepB B3 w1.heap.size k3
  clear hb
  go_wp2_with fail
  refine (read_any _ _ [(8, 1)] 8 _ (M1.out.below (by repeat' (first | with_reducible exact Below.refl _ _ | with_reducible assumption | with_reducible apply below_drewN | with_reducible apply Below.drew | with_reducible refine Below.setCell ?_ ?_ _ | with_reducible refine Below.alloc ?_ ?_ _ | omega | (simp; done) | (simp; omega)))) S.out (by decide)).mono ?_
  rintro e w4 ⟨rfl, hb⟩
  have B4 : Below w3.heap.size w3 w4 := Below.trans (by repeat' (first | with_reducible exact Below.refl _ _ | with_reducible assumption | with_reducible apply below_drewN | with_reducible apply Below.drew | with_reducible refine Below.setCell ?_ ?_ _ | with_reducible refine Below.alloc ?_ ?_ _ | omega | (simp; done) | (simp; omega))) (hb.mono (by first | omega | (simp; done) | (simp; omega)))
  clear hb
  rw [ex_read]
  go_wp2_with fail
  go_ret
  exact ⟨rfl, B1.trans ((C3.trans (B4.mono (Nat.le_trans Bz2 Bz3))).mono Bz1)⟩

end Go.Proofs.Ytikkfkoaipenbaa
