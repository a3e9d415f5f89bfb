/- Contracts of the reference of layer 7. -/
import Derived.Test.YtogoclcjkekplaaDescb
import Derived.Deep.RegionWith
namespace Go.Proofs.Ytogoclcjkekplaa
open Go.RowKit

theorem refBit_any (a n : Int) (w : World) (ha : U64 a) : Calls Try.prog 42 #[.int .u64 a, .int .i64 n] w (RetB (.bool (bitB a n)) w) := by
  go_enter Try.func42, Try.ntmps42
  go_wp2_with (go_at_call 43; refine (refGet_any _ _ _ _ ha).mono ?_; rintro e w' ⟨rfl, hb⟩)
  go_ret
  exact ⟨rfl, hb⟩

theorem refAllowed_any (d : D) (wr : Bool) (w : World) : Calls Try.prog 37 #[descV d, .bool wr] w (RetB (.int .i64 (allowZ d wr)) w) := by
  obtain ⟨v, t, o, u, r, s, n⟩ := d
  simp only [descV]
  cases v <;> cases u <;> cases wr <;> cases r
  all_goals
    go_enter Try.func37, Try.ntmps37
    go_wp2
    go_ret
    exact ⟨rfl, by repeat' (first | with_reducible exact Below.refl _ _ | with_reducible assumption | with_reducible apply below_drewN | with_reducible apply Below.drew | with_reducible refine Below.setCell ?_ ?_ _ | with_reducible refine Below.alloc ?_ ?_ _ | omega | (simp; done) | (simp; omega))⟩

theorem mul8 (x : Int) (h0 : 0 ≤ x) (h1 : x < 512) : IntKind.u64.wrap x = x := by rw [IntKind.wrap_u64]; omega

theorem getZ_nine {a hi lo : Int} (hl : hi - lo + 1 = 9) (h0 : 0 ≤ lo) (h1 : hi < 64) : 0 ≤ getZ a hi lo ∧ getZ a hi lo < 512 := by
  unfold getZ
  rw [if_pos (rightB_yes h0 (by omega) h1), hl]
  have e : (2 : Int) ^ (9 : Int).toNat = 512 := rfl
  rw [e]
  omega

theorem refSlot_any (t a level : Int) (w : World) (ha : U64 a) (ht : U64 t) : Calls Try.prog 26 #[.int .u64 t, .int .u64 a, .int .i64 level] w (RetB (.int .u64 (entryZ t a level)) w) := by
  have T0 := Lib.hid ht
  clear ht
  by_cases h1 : level = 1
  · subst h1
    have E := Lib.hid (show slotZ a 1 = getZ a 29 21 from rfl)
    go_enter Try.func26, Try.ntmps26
    go_wp2_with (go_at_call 43; refine (refGet_any _ _ _ _ ha).mono ?_; rintro e w' ⟨rfl, hb⟩)
    go_ret
    refine ⟨?_, hb⟩
    go_tidy
    simp [entryZ, E.out]
  · by_cases h2 : level = 2
    · subst h2
      have E := Lib.hid (show slotZ a 2 = getZ a 20 12 from rfl)
      go_enter Try.func26, Try.ntmps26
      go_wp2_with (go_at_call 43; refine (refGet_any _ _ _ _ ha).mono ?_; rintro e w' ⟨rfl, hb⟩)
      go_ret
      refine ⟨?_, hb⟩
      go_tidy
      simp [entryZ, E.out]
    · have E := Lib.hid (show entryZ t a level = t by unfold entryZ slotZ; rw [if_neg h1, if_neg h2, IntKind.wrap_u64, IntKind.wrap_u64]; have := T0.out.1; have := T0.out.2; omega)
      go_enter Try.func26, Try.ntmps26
      go_wp2
      go_ret
      exact ⟨by rw [E.out]; rfl, Below.refl _ _⟩

theorem refAddress_any (d : D) (level va : Int) (w : World) (ho : U64 d.out) (ha : U64 va) : Calls Try.prog 38 #[descV d, .int .i64 level, .int .u64 va] w (RetB (.int .u64 (addrZ d level va)) w) := by
  obtain ⟨v, t, o, u, r, s, n⟩ := d
  obtain ⟨o0, o1⟩ := ho
  obtain ⟨a0, a1⟩ := ha
  simp only at o0 o1
  simp only [descV]
  cases h1 : (level == 1) <;> cases t
  all_goals
    go_enter Try.func38, Try.ntmps38
    go_wp2
    go_quiet (fail)
    go_wp2
    go_ret
    refine ⟨?_, by repeat' (first | with_reducible exact Below.refl _ _ | with_reducible assumption | with_reducible apply below_drewN | with_reducible apply Below.drew | with_reducible refine Below.setCell ?_ ?_ _ | with_reducible refine Below.alloc ?_ ?_ _ | omega | (simp; done) | (simp; omega))⟩
    go_tidy
    simp [addrZ, sizeZ, h1]

theorem getZ_mul12 (a : Int) : IntKind.u64.wrap (getZ a 31 12 * 4096) = downZ (getZ a 31 0) 12 := by
  have e1 : (2 : Int) ^ (12 : Nat) = 4096 := rfl
  have e2 : (2 : Int) ^ (20 : Nat) = 1048576 := rfl
  have e3 : (2 : Int) ^ (32 : Nat) = 4294967296 := rfl
  rw [IntKind.wrap_u64]
  simp [getZ, downZ, rightB, e1, e2, e3]
  omega

theorem getZ_mul21 (a : Int) : IntKind.u64.wrap (getZ a 31 21 * 2097152) = downZ (getZ a 31 0) 21 := by
  have e1 : (2 : Int) ^ (21 : Nat) = 2097152 := rfl
  have e2 : (2 : Int) ^ (11 : Nat) = 2048 := rfl
  have e3 : (2 : Int) ^ (32 : Nat) = 4294967296 := rfl
  rw [IntKind.wrap_u64]
  simp [getZ, downZ, rightB, e1, e2, e3]
  omega

set_option maxHeartbeats 4000000 in
theorem refDecode_any (a level : Int) (w : World) (ha : U64 a) : Calls Try.prog 23 #[.int .u64 a, .int .i64 level] w (RetB (descV (decD a level)) w) := by
  go_enter Try.func23, Try.ntmps23
  go_wp2_with (first | (go_at_call_of 42 (Value.int IntKind.i64 1); refine (refBit_any _ _ _ ha).mono ?_; rintro e w' ⟨rfl, hb⟩; have B : Below w.heap.size w w' := Below.trans (by repeat' (first | with_reducible exact Below.refl _ _ | with_reducible assumption | with_reducible apply below_drewN | with_reducible apply Below.drew | with_reducible refine Below.setCell ?_ ?_ _ | with_reducible refine Below.alloc ?_ ?_ _ | omega | (simp; done) | (simp; omega))) (hb.mono (by first | omega | (simp; done) | (simp; omega))); have Bz := B.size; obtain ⟨k1, k2, k3, k4⟩ := keepB hb w.heap.size (by first | omega | (simp; done) | (simp; omega)); obtain ⟨k1, k2, k3, k4⟩ := keepB hb w4.heap.size (by first | omega | (simp; done) | (simp; omega))) | (go_at_call_of 42 (Value.int IntKind.i64 11); refine (refBit_any _ _ _ ha).mono ?_; rintro e w4 ⟨rfl, hb⟩; have B : Below w.heap.size w w4 := Below.trans (by repeat' (first | with_reducible exact Below.refl _ _ | with_reducible assumption | with_reducible apply below_drewN | with_reducible apply Below.drew | with_reducible refine Below.setCell ?_ ?_ _ | with_reducible refine Below.alloc ?_ ?_ _ | omega | (simp; done) | (simp; omega))) (hb.mono (by first | omega | (simp; done) | (simp; omega))); have Bz := B.size; obtain ⟨k1, k2, k3, k4⟩ := keepB hb w.heap.size (by first | omega | (simp; done) | (simp; omega))) | (go_at_call 42; refine (refBit_any _ _ _ ha).mono ?_; rintro e w' ⟨rfl, hb⟩; have B : Below w.heap.size w w' := Below.trans (by repeat' (first | with_reducible exact Below.refl _ _ | with_reducible assumption | with_reducible apply below_drewN | with_reducible apply Below.drew | with_reducible refine Below.setCell ?_ ?_ _ | with_reducible refine Below.alloc ?_ ?_ _ | omega | (simp; done) | (simp; omega))) (hb.mono (by first | omega | (simp; done) | (simp; omega))); have Bz := B.size; obtain ⟨k1, k2, k3, k4⟩ := keepB hb w.heap.size (by first | omega | (simp; done) | (simp; omega))) | (go_at_call_of 43 (Value.int IntKind.i64 31); refine (refGet_any _ _ _ _ ha).mono ?_; rintro e w' ⟨rfl, hb⟩; have B : Below w.heap.size w w' := Below.trans (by repeat' (first | with_reducible exact Below.refl _ _ | with_reducible assumption | with_reducible apply below_drewN | with_reducible apply Below.drew | with_reducible refine Below.setCell ?_ ?_ _ | with_reducible refine Below.alloc ?_ ?_ _ | omega | (simp; done) | (simp; omega))) (hb.mono (by first | omega | (simp; done) | (simp; omega))); have Bz := B.size; obtain ⟨k1, k2, k3, k4⟩ := keepB hb w.heap.size (by first | omega | (simp; done) | (simp; omega)); obtain ⟨k1, k2, k3, k4⟩ := keepB hb w4.heap.size (by first | omega | (simp; done) | (simp; omega))) | (go_at_call 43; refine (refGet_any _ _ _ _ ha).mono ?_; rintro e w' ⟨rfl, hb⟩; have B : Below w.heap.size w w' := Below.trans (by repeat' (first | with_reducible exact Below.refl _ _ | with_reducible assumption | with_reducible apply below_drewN | with_reducible apply Below.drew | with_reducible refine Below.setCell ?_ ?_ _ | with_reducible refine Below.alloc ?_ ?_ _ | omega | (simp; done) | (simp; omega))) (hb.mono (by first | omega | (simp; done) | (simp; omega))); have Bz := B.size; obtain ⟨k1, k2, k3, k4⟩ := keepB hb w.heap.size (by first | omega | (simp; done) | (simp; omega))))
  all_goals
    refine bodyPost_ret (v := descV (decD a level)) ?_ rfl ⟨rfl, ?_⟩
    · have m12 := getZ_mul12 a
      have m21 := getZ_mul21 a
      first | (have hne := bne_iff_ne.1 ‹(getZ a 47 32 != 0) = true›; simp [results, Try.results23, go_sem, descV, decD, D.zero, hne, *]; done) | (have hez : getZ a 47 32 = 0 := bne_eq_false_iff_eq.1 ‹(getZ a 47 32 != 0) = false›; simp [results, Try.results23, go_sem, descV, decD, hez, shiftZ, *]; done) | (have hez : getZ a 47 32 = 0 := bne_eq_false_iff_eq.1 ‹(getZ a 47 32 != 0) = false›; simp [results, Try.results23, go_sem, descV, decD, hez, D.zero, *]; done) | (simp [results, Try.results23, go_sem, descV, decD, D.zero, *]; done)
    · go_tidy
      repeat' (first | with_reducible exact Below.refl _ _ | with_reducible assumption | with_reducible apply below_drewN | with_reducible apply Below.drew | with_reducible refine Below.setCell ?_ ?_ _ | with_reducible refine Below.alloc ?_ ?_ _ | omega | (simp; done) | (simp; omega))

end Go.Proofs.Ytogoclcjkekplaa
