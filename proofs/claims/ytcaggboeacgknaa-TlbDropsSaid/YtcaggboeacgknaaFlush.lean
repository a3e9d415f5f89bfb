/- Contracts of tlb.FlushOf and of its reference. -/
import Derived.Test.YtcaggboeacgknaaTlbb
namespace Go.Proofs.Ytcaggboeacgknaa
set_option linter.unusedSimpArgs false
set_option linter.unusedVariables false
open Go.RowKit

/-- The invalidation that an instruction asks for. -/
def flushF (kind a : Int) : F :=
  ⟨kind % 4, if (kind % 4 == 1 || kind % 4 == 2) = true then IntKind.u64.wrap (getZ a 43 0 * 4096) else 0, if (kind % 4 == 1 || kind % 4 == 3) = true then getZ a 63 48 else 0⟩

theorem getZ_16 (a : Int) : 0 ≤ getZ a 63 48 ∧ getZ a 63 48 < 65536 := by
  unfold getZ
  rw [if_pos (by decide)]
  have e : (2 : Int) ^ ((63 : Int) - 48 + 1).toNat = 65536 := rfl
  rw [e]
  omega

theorem four (k : Int) (h : 0 ≤ k) : k % 4 = 0 ∨ k % 4 = 1 ∨ k % 4 = 2 ∨ k % 4 = 3 := by omega

set_option maxHeartbeats 1000000 in
theorem flushOf_any (k a : Int) (w : World) (hk : 0 ≤ k) (ha : U64 a) : Calls Try.prog 21 #[.int .i64 k, .int .u64 a] w (RetB (flushV (flushF k a)) w) := by
  obtain ⟨g0, g1⟩ := getZ_16 a
  rcases four k hk with h | h | h | h
  all_goals
    have E := Lib.hid (show flushF k a = _ by unfold flushF; rw [h])
    go_enter Try.func21, Try.ntmps21
    go_wp2_with (first | (go_at_call 46; refine (get_any _ _ _ _ ha).mono ?_; rintro e w' ⟨rfl, n, rfl⟩))
    refine bodyPost_ret (v := flushV (flushF k a)) (by rw [E.out]; simp [results, Try.results21, go_sem, flushV, *]) rfl ⟨rfl, by repeat' (first | with_reducible exact Below.refl _ _ | with_reducible assumption | with_reducible apply below_drewN | with_reducible apply Below.drew | with_reducible refine Below.setCell ?_ ?_ _ | with_reducible refine Below.alloc ?_ ?_ _ | omega | (simp; done) | (simp; omega))⟩

set_option maxHeartbeats 1000000 in
theorem refFlushOf_any (k a : Int) (w : World) (hk : 0 ≤ k) (ha : U64 a) : Calls Try.prog 22 #[.int .i64 k, .int .u64 a] w (RetB (flushV (flushF k a)) w) := by
  obtain ⟨g0, g1⟩ := getZ_16 a
  rcases four k hk with h | h | h | h
  all_goals
    have E := Lib.hid (show flushF k a = _ by unfold flushF; rw [h])
    go_enter Try.func22, Try.ntmps22
    go_wp2_with (first | (go_at_call_of 47 (Value.int IntKind.i64 43); refine (refGet_any _ _ _ _ ha).mono ?_; rintro e w1 ⟨rfl, hb⟩; have B : Below w.heap.size w w1 := Below.trans (by repeat' (first | with_reducible exact Below.refl _ _ | with_reducible assumption | with_reducible apply below_drewN | with_reducible apply Below.drew | with_reducible refine Below.setCell ?_ ?_ _ | with_reducible refine Below.alloc ?_ ?_ _ | omega | (simp; done) | (simp; omega))) (hb.mono (by first | omega | (simp; done) | (simp; omega))); have Bz := B.size; obtain ⟨k1, k2, k3, k4⟩ := keepB hb w.heap.size (by first | omega | (simp; done) | (simp; omega)); obtain ⟨j1, j2, j3, j4⟩ := keepB hb (w.heap.size + 1) (by first | omega | (simp; done) | (simp; omega)); clear hb) | (go_at_call_of 47 (Value.int IntKind.i64 63); refine (refGet_any _ _ _ _ ha).mono ?_; rintro e w2 ⟨rfl, hb⟩; have B : Below w.heap.size w w2 := Below.trans (by repeat' (first | with_reducible exact Below.refl _ _ | with_reducible assumption | with_reducible apply below_drewN | with_reducible apply Below.drew | with_reducible refine Below.setCell ?_ ?_ _ | with_reducible refine Below.alloc ?_ ?_ _ | omega | (simp; done) | (simp; omega))) (hb.mono (by first | omega | (simp; done) | (simp; omega))); have Bz := B.size; obtain ⟨k1, k2, k3, k4⟩ := keepB hb w.heap.size (by first | omega | (simp; done) | (simp; omega)); obtain ⟨j1, j2, j3, j4⟩ := keepB hb (w.heap.size + 1) (by first | omega | (simp; done) | (simp; omega)); clear hb))
    refine bodyPost_ret (v := flushV (flushF k a)) (by rw [E.out]; simp [results, Try.results22, go_sem, flushV, *]) rfl ⟨rfl, by repeat' (first | with_reducible exact Below.refl _ _ | with_reducible assumption | with_reducible apply below_drewN | with_reducible apply Below.drew | with_reducible refine Below.setCell ?_ ?_ _ | with_reducible refine Below.alloc ?_ ?_ _ | omega | (simp; done) | (simp; omega))⟩

end Go.Proofs.Ytcaggboeacgknaa
