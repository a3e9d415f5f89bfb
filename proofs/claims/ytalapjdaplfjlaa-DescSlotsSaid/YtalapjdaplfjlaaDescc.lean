/- The contract of desc.Encode: a descriptor's word. -/
import Derived.Test.YtalapjdaplfjlaaDescb
import Derived.Test.YtalapjdaplfjlaaDescd
namespace Go.Proofs.Ytalapjdaplfjlaa
open Go.RowKit

def flagZ (b : Bool) (n : Int) : Int := if b = true then 2 ^ n.toNat else 0

theorem flag_any (b : Bool) (n : Int) (w : World) (h0 : 0 ≤ n) (h1 : n < 64) : Calls Try.prog 33 #[.bool b, .int .i64 n] w (Ret (.int .u64 (flagZ b n)) w) := by
  have e : IntKind.u64.wrap (2 ^ n.toNat) = 2 ^ n.toNat := by
    obtain ⟨k, rfl⟩ := Int.eq_ofNat_of_zero_le h0
    have := two_pow_lt64 (n := k) (by omega)
    rw [IntKind.wrap_u64, Int.toNat_natCast, ← cast_pow]
    generalize (2 : Nat) ^ k = y at *
    exact Int.emod_eq_of_lt (by omega) (by omega)
  have E := Lib.hid e
  clear e
  cases b
  all_goals
    go_enter Try.func33, Try.ntmps33
    go_wp2
    go_ret
    first | exact ⟨rfl, rfl⟩ | exact ⟨by go_tidy; simp [flagZ, E.out], rfl⟩

/-- The word of a descriptor that may be. -/
def wordD (d : D) (level : Int) : Int :=
  d.out + 1 + (if (d.table || level == 2) = true then 2 else 0) + (if d.user = true then 64 else 0) + (if d.readOnly = true then 128 else 0) + (if d.used = true then 1024 else 0) + (if d.own = true then 2048 else 0)

theorem or_low (q c : Nat) (hc : c < 4096) : 4096 * q ||| c = 4096 * q + c := (Nat.two_pow_add_eq_or_of_lt (i := 12) hc q).symm

theorem flagN (b : Bool) (k : Nat) : flagZ b k = ((if b = true then 2 ^ k else 0 : Nat) : Int) := by
  unfold flagZ
  cases b <;> simp

theorem word_nat (q : Nat) (t u r s n : Bool) :
    (4096 * q ||| 1 ||| (if t = true then 2 ^ 1 else 0)) ||| ((((if u = true then 2 ^ 10 else 0) ||| (if r = true then 2 ^ 7 else 0)) ||| (if s = true then 2 ^ 6 else 0)) ||| (if n = true then 2 ^ 11 else 0))
      = 4096 * q + 1 + (if t = true then 2 else 0) + (if s = true then 64 else 0) + (if r = true then 128 else 0) + (if u = true then 1024 else 0) + (if n = true then 2048 else 0) := by
  rw [Nat.or_assoc, Nat.or_assoc]
  cases t <;> cases u <;> cases r <;> cases s <;> cases n <;>
    (simp only [if_true, if_false, Bool.false_eq_true]
     rw [or_low _ _ (by decide)]
     simp only [Nat.add_assoc]
     rfl)

theorem aligned_low {o : Int} {t : Bool} {level : Int} (h : alignedB o (shiftZ t level) = true) : o % 4096 = 0 := by
  unfold alignedB shiftZ at h
  have e1 : (2 : Int) ^ (21 : Nat) = 2097152 := rfl
  have e2 : (2 : Int) ^ (12 : Nat) = 4096 := rfl
  by_cases hb : (level == 1 && !t) = true
  · rw [if_pos hb] at h
    simp [e1] at h
    omega
  · rw [if_neg hb] at h
    simp [e2] at h
    omega

theorem chk_ok {d : D} {level : Int} (hv : d.valid = true) (h : chkZ d level = 0) : d.out < 4294967296 ∧ d.out % 4096 = 0 := by
  unfold chkZ at h
  rw [if_pos hv] at h
  split at h
  · rename_i hc
    simp only [Bool.and_eq_true, decide_eq_true_eq] at hc
    exact ⟨hc.1.1.2, aligned_low hc.1.2⟩
  · simp at h

theorem word_eq {d : D} {level : Int} (ho : U64 d.out) (hv : d.valid = true) (h : chkZ d level = 0) :
    bits .or .u64 (bits .or .u64 (bits .or .u64 d.out 1) (flagZ (d.table || level == 2) 1)) (bits .or .u64 (bits .or .u64 (bits .or .u64 (flagZ d.used 10) (flagZ d.readOnly 7)) (flagZ d.user 6)) (flagZ d.own 11)) = wordD d level := by
  obtain ⟨h1, h2⟩ := chk_ok hv h
  obtain ⟨x, hx, hx'⟩ := ho.nat
  obtain ⟨q, rfl⟩ : ∃ q, x = 4096 * q := ⟨x / 4096, by omega⟩
  unfold wordD
  rw [hx]
  have f1 := flagN (d.table || level == 2) 1
  have f2 := flagN d.used 10
  have f3 := flagN d.readOnly 7
  have f4 := flagN d.user 6
  have f5 := flagN d.own 11
  rw [show ((1 : Nat) : Int) = 1 from rfl] at f1
  rw [show ((10 : Nat) : Int) = 10 from rfl] at f2
  rw [show ((7 : Nat) : Int) = 7 from rfl] at f3
  rw [show ((6 : Nat) : Int) = 6 from rfl] at f4
  rw [show ((11 : Nat) : Int) = 11 from rfl] at f5
  rw [f1, f2, f3, f4, f5]
  have w := word_nat q (d.table || level == 2) d.used d.readOnly d.user d.own
  have hq : 4096 * q < 4294967296 := by omega
  have small : ∀ a b : Nat, a < 2 ^ 60 → b < 2 ^ 60 → a ||| b < 2 ^ 60 := fun a b ha hb => Nat.or_lt_two_pow ha hb
  have e60 : (2 : Nat) ^ 60 = 1152921504606846976 := by decide
  have big : ∀ a : Nat, a < 2 ^ 60 → a < 18446744073709551616 := fun a h => by omega
  have fl : ∀ (b : Bool) (k : Nat), k < 60 → (if b = true then 2 ^ k else 0) < 2 ^ 60 := fun b k hk => by
    cases b
    · simp
    · simpa using Nat.pow_lt_pow_right (a := 2) (by decide) hk
  have q60 : 4096 * q < 2 ^ 60 := by omega
  have o1 := small _ _ q60 (show 1 < 2 ^ 60 by decide)
  have o2 := small _ _ o1 (fl (d.table || level == 2) 1 (by decide))
  have o3 := small _ _ (fl d.used 10 (by decide)) (fl d.readOnly 7 (by decide))
  have o4 := small _ _ o3 (fl d.user 6 (by decide))
  have o5 := small _ _ o4 (fl d.own 11 (by decide))
  rw [show (1 : Int) = ((1 : Nat) : Int) from rfl, u64_or_nat _ _ (big _ q60) (by decide), u64_or_nat _ _ (big _ o1) (big _ (fl _ 1 (by decide))),
    u64_or_nat _ _ (big _ (fl _ 10 (by decide))) (big _ (fl _ 7 (by decide))), u64_or_nat _ _ (big _ o3) (big _ (fl _ 6 (by decide))), u64_or_nat _ _ (big _ o4) (big _ (fl _ 11 (by decide))), u64_or_nat _ _ (big _ o2) (big _ o5), w]
  simp only [Int.natCast_add]
  cases d.table || level == 2 <;> cases d.user <;> cases d.readOnly <;> cases d.used <;> cases d.own <;> rfl

/-- What Encode answers. -/
def encW (d : D) (level : Int) : Int := if d.valid = true ∧ chkZ d level = 0 then wordD d level else 0

set_option maxHeartbeats 2000000 in
theorem encode_any (d : D) (level : Int) (w : World) (ho : U64 d.out) : Calls Try.prog 21 #[descV d, .int .i64 level] w (RetB (.tuple #[.int .u64 (encW d level), .int .i64 (chkZ d level)]) w) := by
  by_cases hc : chkZ d level = 0
  · cases hv : d.valid
    · have E := Lib.hid (show encW d level = 0 by unfold encW; rw [if_neg (by simp [hv])])
      have HC := Lib.hid hc
      have Ho := Lib.hid ho
      clear hc ho
      obtain ⟨v, t, o, u, r, s, n⟩ := d
      simp only at hv
      subst hv
      simp only [descV]
      go_enter Try.func21, Try.ntmps21
      go_wp2_with (go_at_call 23; refine (check_any ⟨false, t, o, u, r, s, n⟩ level _ Ho.out).mono ?_; rintro e w1 ⟨rfl, hb⟩; rw [HC.out]; obtain ⟨k1, k2, k3, k4⟩ := keepB hb w.heap.size (by simp); have hz := hb.size)
      go_ret2
      exact ⟨by rw [E.out, HC.out]; rfl, ((Below.refl _ _).alloc (Nat.le_refl _) _).trans (hb.mono (by simp))⟩
    · have E := Lib.hid (show encW d level = wordD d level by unfold encW; rw [if_pos ⟨hv, hc⟩])
      have w0 := word_eq ho hv hc
      have HC := Lib.hid hc
      have Ho := Lib.hid ho
      clear hc ho
      obtain ⟨v, t, o, u, r, s, n⟩ := d
      simp only at hv
      subst hv
      simp only [descV]
      cases t
      all_goals
        simp only [Bool.true_or, Bool.false_or] at w0
        have W := Lib.hid w0
        clear w0
        go_enter Try.func21, Try.ntmps21
        go_wp2_with (first | (go_at_call 23; refine (check_any ⟨true, _, o, u, r, s, n⟩ level _ Ho.out).mono ?_; rintro e w1 ⟨rfl, hb⟩; rw [HC.out]; obtain ⟨k1, k2, k3, k4⟩ := keepB hb w.heap.size (by simp); have hz := hb.size) | (go_at_call 33; refine (flag_any _ _ _ (by decide) (by decide)).mono ?_; rintro e w' ⟨rfl, rfl⟩))
        go_quiet ((go_at_call 33; exact quietR (flag_any _ _ _ (by decide) (by decide))))
        go_wp2
        go_ret2
        exact ⟨by rw [E.out, HC.out, ← W.out]; rfl, below_drewN (((Below.refl _ _).alloc (Nat.le_refl _) _).trans (hb.mono (by simp))) _⟩
  · have E := Lib.hid (show encW d level = 0 by unfold encW; rw [if_neg (by simp [hc])])
    have HC := Lib.hid (show (chkZ d level == 0) = false by simpa using hc)
    have HD := Lib.hid (show (chkZ d level != 0) = true by simpa using hc)
    have Ho := Lib.hid ho
    clear hc ho
    obtain ⟨v, t, o, u, r, s, n⟩ := d
    simp only [descV]
    go_enter Try.func21, Try.ntmps21
    go_wp2_with (go_at_call 23; refine (check_any ⟨v, t, o, u, r, s, n⟩ level _ Ho.out).mono ?_; rintro e w1 ⟨rfl, hb⟩; have hd := HD.out; obtain ⟨k1, k2, k3, k4⟩ := keepB hb w.heap.size (by simp); have hz := hb.size)
    all_goals
      go_ret2
      exact ⟨by rw [E.out]; rfl, ((Below.refl _ _).alloc (Nat.le_refl _) _).trans (hb.mono (by simp))⟩

end Go.Proofs.Ytalapjdaplfjlaa
