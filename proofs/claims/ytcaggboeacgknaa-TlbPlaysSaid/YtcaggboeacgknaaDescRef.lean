/- Contracts of the reference of layer 7. -/
import Derived.Test.YtcaggboeacgknaaDescb
import Derived.Deep.RegionWith
namespace Go.Proofs.Ytcaggboeacgknaa
set_option linter.unusedSimpArgs false
set_option linter.unusedVariables false
open Go.RowKit

theorem refBit_any (a n : Int) (w : World) (ha : U64 a) : Calls Try.prog 70 #[.int .u64 a, .int .i64 n] w (RetB (.bool (bitB a n)) w) := by
  go_enter Try.func70, Try.ntmps70
  go_wp2_with (go_at_call 47; refine (refGet_any _ _ _ _ ha).mono ?_; rintro e w' ⟨rfl, hb⟩)
  go_ret
  exact ⟨rfl, hb⟩






theorem getZ_mul12 (a : Int) : IntKind.u64.wrap (getZ a 31 12 * 4096) = downZ (getZ a 31 0) 12 := by
  have e1 : (2 : Int) ^ (12 : Nat) = 4096 := rfl
  have e2 : (2 : Int) ^ (20 : Nat) = 1048576 := rfl
  have e3 : (2 : Int) ^ (32 : Nat) = 4294967296 := rfl
  rw [IntKind.wrap_u64]
  simp [getZ, downZ, rightB, e1, e2, e3]
  omega

theorem getZ_mul21 (a : Int) : IntKind.u64.wrap (getZ a 31 21 * 2097152) = downZ (getZ a 31 0) 21 := by
  have e1 : (2 : Int) ^ (21 : Nat) = 2097152 := rfl
  have e2 : (2 : Int) ^ (11 : Nat) = 2048 := rfl
  have e3 : (2 : Int) ^ (32 : Nat) = 4294967296 := rfl
  rw [IntKind.wrap_u64]
  simp [getZ, downZ, rightB, e1, e2, e3]
  omega

set_option maxHeartbeats 4000000 in
theorem refDecode_any (a level : Int) (w : World) (ha : U64 a) : Calls Try.prog 60 #[.int .u64 a, .int .i64 level] w (RetB (descV (decD a level)) w) := by
  go_enter Try.func60, Try.ntmps60
  go_wp2_with (first | (go_at_call_of 70 (Value.int IntKind.i64 1); refine (refBit_any _ _ _ ha).mono ?_; rintro e w' ⟨rfl, hb⟩; have B : Below w.heap.size w w' := Below.trans (by repeat' (first | with_reducible exact Below.refl _ _ | with_reducible assumption | with_reducible apply below_drewN | with_reducible apply Below.drew | with_reducible refine Below.setCell ?_ ?_ _ | with_reducible refine Below.alloc ?_ ?_ _ | omega | (simp; done) | (simp; omega))) (hb.mono (by first | omega | (simp; done) | (simp; omega))); have Bz := B.size; obtain ⟨k1, k2, k3, k4⟩ := keepB hb w.heap.size (by first | omega | (simp; done) | (simp; omega)); obtain ⟨k1, k2, k3, k4⟩ := keepB hb w4.heap.size (by first | omega | (simp; done) | (simp; omega))) | (go_at_call_of 70 (Value.int IntKind.i64 11); refine (refBit_any _ _ _ ha).mono ?_; rintro e w4 ⟨rfl, hb⟩; have B : Below w.heap.size w w4 := Below.trans (by repeat' (first | with_reducible exact Below.refl _ _ | with_reducible assumption | with_reducible apply below_drewN | with_reducible apply Below.drew | with_reducible refine Below.setCell ?_ ?_ _ | with_reducible refine Below.alloc ?_ ?_ _ | omega | (simp; done) | (simp; omega))) (hb.mono (by first | omega | (simp; done) | (simp; omega))); have Bz := B.size; obtain ⟨k1, k2, k3, k4⟩ := keepB hb w.heap.size (by first | omega | (simp; done) | (simp; omega))) | (go_at_call 70; refine (refBit_any _ _ _ ha).mono ?_; rintro e w' ⟨rfl, hb⟩; have B : Below w.heap.size w w' := Below.trans (by repeat' (first | with_reducible exact Below.refl _ _ | with_reducible assumption | with_reducible apply below_drewN | with_reducible apply Below.drew | with_reducible refine Below.setCell ?_ ?_ _ | with_reducible refine Below.alloc ?_ ?_ _ | omega | (simp; done) | (simp; omega))) (hb.mono (by first | omega | (simp; done) | (simp; omega))); have Bz := B.size; obtain ⟨k1, k2, k3, k4⟩ := keepB hb w.heap.size (by first | omega | (simp; done) | (simp; omega))) | (go_at_call_of 47 (Value.int IntKind.i64 31); refine (refGet_any _ _ _ _ ha).mono ?_; rintro e w' ⟨rfl, hb⟩; have B : Below w.heap.size w w' := Below.trans (by repeat' (first | with_reducible exact Below.refl _ _ | with_reducible assumption | with_reducible apply below_drewN | with_reducible apply Below.drew | with_reducible refine Below.setCell ?_ ?_ _ | with_reducible refine Below.alloc ?_ ?_ _ | omega | (simp; done) | (simp; omega))) (hb.mono (by first | omega | (simp; done) | (simp; omega))); have Bz := B.size; obtain ⟨k1, k2, k3, k4⟩ := keepB hb w.heap.size (by first | omega | (simp; done) | (simp; omega)); obtain ⟨k1, k2, k3, k4⟩ := keepB hb w4.heap.size (by first | omega | (simp; done) | (simp; omega))) | (go_at_call 47; refine (refGet_any _ _ _ _ ha).mono ?_; rintro e w' ⟨rfl, hb⟩; have B : Below w.heap.size w w' := Below.trans (by repeat' (first | with_reducible exact Below.refl _ _ | with_reducible assumption | with_reducible apply below_drewN | with_reducible apply Below.drew | with_reducible refine Below.setCell ?_ ?_ _ | with_reducible refine Below.alloc ?_ ?_ _ | omega | (simp; done) | (simp; omega))) (hb.mono (by first | omega | (simp; done) | (simp; omega))); have Bz := B.size; obtain ⟨k1, k2, k3, k4⟩ := keepB hb w.heap.size (by first | omega | (simp; done) | (simp; omega))))
  all_goals
    refine bodyPost_ret (v := descV (decD a level)) ?_ rfl ⟨rfl, ?_⟩
    · have m12 := getZ_mul12 a
      have m21 := getZ_mul21 a
      first | (have hne := bne_iff_ne.1 ‹(getZ a 47 32 != 0) = true›; simp [results, Try.results60, go_sem, descV, decD, D.zero, hne, *]; done) | (have hez : getZ a 47 32 = 0 := bne_eq_false_iff_eq.1 ‹(getZ a 47 32 != 0) = false›; simp [results, Try.results60, go_sem, descV, decD, hez, shiftZ, *]; done) | (have hez : getZ a 47 32 = 0 := bne_eq_false_iff_eq.1 ‹(getZ a 47 32 != 0) = false›; simp [results, Try.results60, go_sem, descV, decD, hez, D.zero, *]; done) | (simp [results, Try.results60, go_sem, descV, decD, D.zero, *]; done)
    · go_tidy
      repeat' (first | with_reducible exact Below.refl _ _ | with_reducible assumption | with_reducible apply below_drewN | with_reducible apply Below.drew | with_reducible refine Below.setCell ?_ ?_ _ | with_reducible refine Below.alloc ?_ ?_ _ | omega | (simp; done) | (simp; omega))

end Go.Proofs.Ytcaggboeacgknaa
