/- The page's example for walks. -/
import Derived.Test.YtogoclcjkekplaaWalkd
namespace Go.Proofs.Ytogoclcjkekplaa
open Go.RowKit

theorem ex_of : ofL [] [(4096, 8195), (8200, 21507)] = ([(4096, 8195), (8200, 21507)], 0) := by decide +kernel
theorem ex_walk : walkF (getL [(4096, 8195), (8200, 21507)]) 4096 4112 true = ⟨⟨0, 0, false⟩, 20496, 8195, 21507, 2⟩ := by decide +kernel
theorem ex_sorted : Sorted [(4096, 8195), (8200, 21507)] := by
  refine List.pairwise_cons.2 ⟨?_, List.pairwise_singleton _ _⟩
  intro a h
  simp at h
  subst h
  decide
theorem ex_u64 (k : Int) : U64 (getL [(4096, 8195), (8200, 21507)] k) := by
  unfold getL
  split
  · simp only [posL]
    generalize (List.takeWhile _ _).length = j
    match j with
    | 0 => exact u64_lit _ rfl
    | 1 => exact u64_lit _ rfl
    | j + 2 => exact u64_lit _ rfl
  · exact u64_lit _ rfl

theorem four_new (w : World) (x y z u : Value) (e : TypeId) : ∀ (j : Nat) (v : Value), [x, y, z, u][j]? = some v → (w.alloc (.cells #[x, y, z, u] e)).cell? ((⟨w.heap.size, 0, none⟩ : Addr).add j) = some v := by
  intro j v hj
  match j, hj with
  | 0, hj => simp at hj; subst hj; simp [Addr.add]
  | 1, hj => simp at hj; subst hj; simp [Addr.add]
  | 2, hj => simp at hj; subst hj; simp [Addr.add]
  | 3, hj => simp at hj; subst hj; simp [Addr.add]

set_option maxHeartbeats 1000000 in
theorem awake_any (w : World) : Calls Try.prog 10 #[] w (RetB (.bool true) w) := by
  have A0 : Hid (Atc (w.alloc (.cells #[.int .u64 4096, .int .u64 8195, .int .u64 8200, .int .u64 21507] 59)) (some ⟨w.heap.size, 0, none⟩) [(4096, 8195), (8200, 21507)]) := Lib.hid ⟨fun h => (by cases h), fun ad h => (by cases h; exact four_new _ _ _ _ _ _)⟩
  have S := Lib.hid ex_sorted
  have U := Lib.hid ex_u64
  go_enter Try.func10, Try.ntmps10
  go_wp2_with fail
  refine (of_any _ 2 2 [(4096, 8195), (8200, 21507)] _ A0.out rfl (by decide) (by intro p hp; simp at hp; rcases hp with rfl | rfl <;> exact u64_lit _ rfl)).mono ?_
  rw [ex_of]
  rintro e w1 ⟨ks, vs, rfl, hm, hb⟩
  have B1 : Below w.heap.size w w1 := Below.trans (by repeat' (first | with_reducible exact Below.refl _ _ | with_reducible assumption | with_reducible apply below_drewN | with_reducible apply Below.drew | with_reducible refine Below.setCell ?_ ?_ _ | with_reducible refine Below.alloc ?_ ?_ _ | omega | (simp; done) | (simp; omega))) (hb.mono (by first | omega | (simp; done) | (simp; omega)))
  have Bz1 := B1.size
  have M1 := Lib.hid hm
  obtain ⟨ao1, cap1, rfl⟩ := ownsRow_form hm.keys
  obtain ⟨ao2, cap2, rfl⟩ := ownsRow_form hm.vals
  clear hb hm
  go_wp2_with fail
  refine (walk_any _ _ [(4096, 8195), (8200, 21507)] 4096 4112 true _ (M1.out.below (by repeat' (first | with_reducible exact Below.refl _ _ | with_reducible assumption | with_reducible apply below_drewN | with_reducible apply Below.drew | with_reducible refine Below.setCell ?_ ?_ _ | with_reducible refine Below.alloc ?_ ?_ _ | omega | (simp; done) | (simp; omega)))) S.out (by decide) U.out (u64_lit _ rfl)).mono ?_
  rw [ex_walk]
  rintro e w2 ⟨rfl, hb⟩
  simp only [walkV]
  have B2 : Below w1.heap.size w1 w2 := Below.trans (by repeat' (first | with_reducible exact Below.refl _ _ | with_reducible assumption | with_reducible apply below_drewN | with_reducible apply Below.drew | with_reducible refine Below.setCell ?_ ?_ _ | with_reducible refine Below.alloc ?_ ?_ _ | omega | (simp; done) | (simp; omega))) (hb.mono (by first | omega | (simp; done) | (simp; omega)))
  have Bz2 := B2.size
  clear hb
  go_wp2_with fail
  go_ret
  exact ⟨rfl, B1.trans (Below.mono (B := w1.heap.size) (by repeat' (first | with_reducible exact Below.refl _ _ | with_reducible assumption | with_reducible apply below_drewN | with_reducible apply Below.drew | with_reducible refine Below.setCell ?_ ?_ _ | with_reducible refine Below.alloc ?_ ?_ _ | omega | (simp; done) | (simp; omega))) Bz1)⟩

end Go.Proofs.Ytogoclcjkekplaa
