/- Plain arithmetic of parts of words: no program in sight. -/
import Derived.WalkKit
import Derived.Lib.Hide
import Derived.Lib.QuietBelow
namespace Go.Proofs.Ytdlodacogldinaa
set_option linter.unusedSimpArgs false
set_option linter.unusedVariables false
open Go.RowKit

/-- A number that 64 bits hold. -/
def U64 (a : Int) : Prop := 0 ≤ a ∧ a < 18446744073709551616
/-- A number that int holds. -/
def I64 (a : Int) : Prop := -9223372036854775808 ≤ a ∧ a ≤ 9223372036854775807

theorem U64.nat {a : Int} (h : U64 a) : ∃ n : Nat, a = n ∧ n < 18446744073709551616 := by
  obtain ⟨h0, h1⟩ := h
  exact ⟨a.toNat, by omega, by omega⟩

/-- May these be a part's ends? -/
def rightB (hi lo : Int) : Bool := decide (0 ≤ lo) && decide (lo ≤ hi) && decide (hi < 64)
theorem rightB_iff {hi lo : Int} : rightB hi lo = true ↔ 0 ≤ lo ∧ lo ≤ hi ∧ hi < 64 := by simp [rightB, and_assoc]
theorem rightB_yes {hi lo : Int} (h0 : 0 ≤ lo) (h1 : lo ≤ hi) (h2 : hi < 64) : rightB hi lo = true := rightB_iff.2 ⟨h0, h1, h2⟩

/-- So many low bits. -/
def maskZ (n : Int) : Int := if 64 ≤ n then 18446744073709551615 else 2 ^ n.toNat - 1
/-- A part of a word. -/
def getZ (a hi lo : Int) : Int := if rightB hi lo then a / 2 ^ lo.toNat % 2 ^ (hi - lo + 1).toNat else 0
/-- A word with low bits 0. -/
def downZ (a n : Int) : Int := if n ≤ 0 then a else if 64 ≤ n then 0 else a / 2 ^ n.toNat * 2 ^ n.toNat
/-- Are low bits 0? -/
def alignedB (a n : Int) : Bool := decide (n ≤ 0) || (if 64 ≤ n then a == 0 else a % 2 ^ n.toNat == 0)
/-- A word with another part. -/
def putZ (a hi lo v : Int) : Int := if rightB hi lo then a % 2 ^ lo.toNat + (v % 2 ^ (hi - lo + 1).toNat) * 2 ^ lo.toNat + a / 2 ^ (hi + 1).toNat * 2 ^ (hi + 1).toNat else a
/-- Is a bit set? -/
def bitB (a n : Int) : Bool := getZ a n n == 1

theorem two_pow_pos (n : Nat) : (0 : Int) < 2 ^ n := Int.pow_pos (by decide)
theorem two_pow_lt64 {n : Nat} (h : n < 64) : 2 ^ n < 18446744073709551616 := by
  have := Nat.pow_lt_pow_right (a := 2) (by decide) h
  simpa using this
theorem two_pow_le64 {n : Nat} (h : n ≤ 64) : 2 ^ n ≤ 18446744073709551616 := by
  have := Nat.pow_le_pow_right (n := 2) (by decide) h
  simpa using this
theorem cast_pow (n : Nat) : ((2 ^ n : Nat) : Int) = 2 ^ n := by simp

theorem mask_small {n : Int} (h0 : 0 ≤ n) (h1 : n < 64) : IntKind.u64.wrap (IntKind.u64.wrap (2 ^ n.toNat) - 1) = maskZ n := by
  obtain ⟨k, rfl⟩ := Int.eq_ofNat_of_zero_le h0
  have hk : k < 64 := by omega
  have h2 := two_pow_lt64 hk
  have h3 : 0 < 2 ^ k := Nat.pow_pos (by decide)
  unfold maskZ
  rw [if_neg (by omega), IntKind.wrap_u64, IntKind.wrap_u64]
  simp only [Int.toNat_natCast]
  rw [← cast_pow]
  omega

theorem mask_nat (n : Nat) (h : n ≤ 64) : maskZ n = ((2 ^ n - 1 : Nat) : Int) := by
  unfold maskZ
  have h3 : 0 < 2 ^ n := Nat.pow_pos (by decide)
  by_cases h64 : n = 64
  · subst h64; rfl
  · rw [if_neg (by omega), Int.toNat_natCast, ← cast_pow]; omega

theorem and_mask {a n : Int} (ha : U64 a) (h0 : 0 ≤ n) (h1 : n ≤ 64) : bits .and .u64 a (maskZ n) = a % 2 ^ n.toNat := by
  obtain ⟨x, rfl, hx⟩ := ha.nat
  obtain ⟨k, rfl⟩ := Int.eq_ofNat_of_zero_le h0
  have hk : k ≤ 64 := by omega
  have h2 := two_pow_le64 hk
  have h3 : 0 < 2 ^ k := Nat.pow_pos (by decide)
  rw [mask_nat k hk, u64_and _ _ (by omega) (by omega) (by omega) (by omega)]
  simp only [Int.toNat_natCast]
  rw [Nat.and_two_pow_sub_one_eq_mod, ← cast_pow]
  rfl

theorem and_not_mask {a n : Int} (ha : U64 a) (h0 : 0 ≤ n) (h1 : n ≤ 64) : bits .andNot .u64 a (maskZ n) = a / 2 ^ n.toNat * 2 ^ n.toNat := by
  obtain ⟨x, rfl, hx⟩ := ha.nat
  obtain ⟨k, rfl⟩ := Int.eq_ofNat_of_zero_le h0
  have hk : k ≤ 64 := by omega
  have h2 := two_pow_le64 hk
  have h3 : 0 < 2 ^ k := Nat.pow_pos (by decide)
  rw [mask_nat k hk, u64_andNot _ _ (by omega) (by omega) (by omega) (by omega)]
  simp only [Int.toNat_natCast]
  rw [← cast_pow]
  have e : x &&& (18446744073709551615 - (2 ^ k - 1)) = x / 2 ^ k * 2 ^ k := by
    apply Nat.eq_of_testBit_eq
    intro i
    have e1 : 18446744073709551615 - (2 ^ k - 1) = 2 ^ 64 - ((2 ^ k - 1) + 1) := by
      have : (2 : Nat) ^ 64 = 18446744073709551616 := by decide
      omega
    rw [Nat.testBit_and, e1, Nat.testBit_two_pow_sub_succ (by have : (2 : Nat) ^ 64 = 18446744073709551616 := by decide
                                                              omega)]
    rw [Nat.testBit_mul_two_pow, Nat.testBit_div_two_pow, Nat.testBit_two_pow_sub_one]
    by_cases hi : k ≤ i
    · by_cases h64 : i < 64
      · simp [hi, h64, Nat.not_lt.2 hi]
      · have hx0 : x.testBit i = false := Nat.testBit_lt_two_pow (Nat.lt_of_lt_of_le hx (by
          have := Nat.pow_le_pow_right (n := 2) (by decide) (Nat.not_lt.1 h64)
          simpa using this))
        have : i - k + k = i := by omega
        simp [hx0, this]
    · simp [hi, Nat.lt_of_not_le hi]
  rw [e]
  simp

theorem u64_div {a : Int} (h : U64 a) (n : Nat) : U64 (a / 2 ^ n) := by
  obtain ⟨x, rfl, hx⟩ := h.nat
  rw [← cast_pow, ← Int.natCast_ediv]
  have := Nat.div_le_self x (2 ^ n)
  generalize x / 2 ^ n = y at *
  exact ⟨by omega, by omega⟩

theorem u64_mod {a : Int} (h : U64 a) (n : Nat) : U64 (a % 2 ^ n) := by
  obtain ⟨x, rfl, hx⟩ := h.nat
  rw [← cast_pow, ← Int.natCast_emod]
  have := Nat.mod_le x (2 ^ n)
  generalize x % 2 ^ n = y at *
  exact ⟨by omega, by omega⟩

theorem u64_getZ {a : Int} (h : U64 a) (hi lo : Int) : U64 (getZ a hi lo) := by
  unfold getZ
  split
  · exact u64_mod (u64_div h _) _
  · exact ⟨by decide, by decide⟩

/-- What field.Get computes. -/
theorem get_eq {a hi lo : Int} (h : U64 a) (h0 : 0 ≤ lo) (h1 : lo ≤ hi) (h2 : hi < 64) : bits .and .u64 (a / 2 ^ lo.toNat) (maskZ (hi - lo + 1)) = getZ a hi lo := by
  rw [and_mask (u64_div h _) (by omega) (by omega)]
  unfold getZ
  rw [if_pos (rightB_yes h0 h1 h2)]

theorem getZ_no {a hi lo : Int} (h : rightB hi lo = false) : getZ a hi lo = 0 := by unfold getZ; rw [h]; rfl

theorem downZ_eq {a n : Int} (ha : U64 a) (h : 0 < n) : bits .andNot .u64 a (maskZ n) = downZ a n := by
  unfold downZ
  rw [if_neg (by omega)]
  by_cases h6 : 64 ≤ n
  · rw [if_pos h6]
    have e : maskZ n = maskZ 64 := by unfold maskZ; rw [if_pos h6, if_pos (by decide)]
    rw [e, and_not_mask ha (by decide) (by decide)]
    obtain ⟨x, rfl, hx⟩ := ha.nat
    have : (x : Int) / 2 ^ (64 : Int).toNat = 0 := Int.ediv_eq_zero_of_lt (by omega) (by simpa using (by omega : (x : Int) < 18446744073709551616))
    rw [this]; simp
  · rw [if_neg h6, and_not_mask ha (by omega) (by omega)]

theorem u64_downZ {a : Int} (h : U64 a) (n : Int) : U64 (downZ a n) := by
  unfold downZ
  split
  · exact h
  · split
    · exact ⟨by decide, by decide⟩
    · obtain ⟨x, rfl, hx⟩ := h.nat
      rw [← cast_pow, ← Int.natCast_ediv, ← Int.natCast_mul]
      have := Nat.div_mul_le_self x (2 ^ n.toNat)
      generalize x / 2 ^ n.toNat * 2 ^ n.toNat = y at *
      exact ⟨by omega, by omega⟩

theorem alignedB_eq {a n : Int} (ha : U64 a) (h : 0 < n) : (bits .and .u64 a (maskZ n) == 0) = alignedB a n := by
  unfold alignedB
  rw [show decide (n ≤ 0) = false by simpa using h, Bool.false_or]
  by_cases h6 : 64 ≤ n
  · rw [if_pos h6]
    have e : maskZ n = maskZ 64 := by unfold maskZ; rw [if_pos h6, if_pos (by decide)]
    rw [e, and_mask ha (by decide) (by decide)]
    have : a % 2 ^ (64 : Int).toNat = a := Int.emod_eq_of_lt ha.1 (by simpa using ha.2)
    rw [this]
  · rw [if_neg h6, and_mask ha (by omega) (by omega)]

/-! ### A word's bits as a list -/
def bitsN : Nat → Int → List Int
  | 0, _ => []
  | n + 1, a => a % 2 :: bitsN n (a / 2)

theorem bitsN_len (n : Nat) : ∀ a, (bitsN n a).length = n := by
  induction n with
  | zero => intro a; rfl
  | succ n ih => intro a; simp [bitsN, ih]

theorem div_pow_succ (a : Int) (n : Nat) : a / 2 / 2 ^ n = a / 2 ^ (n + 1) := by
  rw [Int.ediv_ediv_of_nonneg (by decide), Int.pow_succ, Int.mul_comm]

theorem bitsN_snoc (n : Nat) : ∀ a, bitsN (n + 1) a = bitsN n a ++ [a / 2 ^ n % 2] := by
  induction n with
  | zero => intro a; simp [bitsN]
  | succ n ih =>
    intro a
    rw [bitsN, ih, ← div_pow_succ]
    rfl

theorem bitsN_drop (j : Nat) : ∀ (n : Nat) (a : Int), (bitsN n a).drop j = bitsN (n - j) (a / 2 ^ j) := by
  induction j with
  | zero => intro n a; simp
  | succ j ih =>
    intro n a
    cases n with
    | zero => simp [bitsN]
    | succ n => rw [bitsN, List.drop_succ_cons, ih, div_pow_succ]; simp

theorem bitsN_take (j : Nat) : ∀ (n : Nat) (a : Int), j ≤ n → (bitsN n a).take j = bitsN j a := by
  induction j with
  | zero => intro n a _; simp [bitsN]
  | succ j ih =>
    intro n a h
    cases n with
    | zero => omega
    | succ n => rw [bitsN, List.take_succ_cons, ih _ _ (by omega)]; rfl

/-- The word of bits, as the loop computes it. -/
def wordL : List Int → Int
  | [] => 0
  | b :: l => IntKind.u64.wrap (IntKind.u64.wrap (wordL l * 2) + IntKind.u64.wrap b)

theorem wordL_bits (n : Nat) : ∀ a : Int, n ≤ 64 → wordL (bitsN n a) = a % 2 ^ n := by
  induction n with
  | zero => intro a _; simp [bitsN, wordL, Int.emod_one]
  | succ n ih =>
    intro a hn
    have h2 := two_pow_le64 hn
    rw [bitsN, wordL, ih _ (by omega)]
    simp only [IntKind.wrap_u64]
    rw [← cast_pow, ← cast_pow]
    have hp : (2 : Nat) ^ (n + 1) = 2 * 2 ^ n := by rw [Nat.pow_succ, Nat.mul_comm]
    have h3 : 0 < (2 : Nat) ^ n := Nat.pow_pos (by decide)
    rw [hp]
    generalize (2 : Nat) ^ n = p at *
    have e : a % ((2 * p : Nat) : Int) = a / 2 % (p : Int) * 2 + a % 2 := by
      have h4 := Int.mul_ediv_add_emod a 2
      have h5 := Int.mul_ediv_add_emod (a / 2) p
      have h6 := Int.emod_nonneg (a / 2) (show (p : Int) ≠ 0 by omega)
      have h7 := Int.emod_lt_of_pos (a / 2) (show (0 : Int) < p by omega)
      have h8 := Int.emod_nonneg a (show (2 : Int) ≠ 0 by decide)
      have h9 := Int.emod_lt_of_pos a (show (0 : Int) < 2 by decide)
      have e1 : a = ((2 * p : Nat) : Int) * (a / 2 / p) + (a / 2 % p * 2 + a % 2) := by
        have : ((2 * p : Nat) : Int) * (a / 2 / p) = 2 * (p * (a / 2 / p)) := by rw [Int.natCast_mul, Int.mul_assoc]; rfl
        rw [this]
        omega
      generalize a / 2 / (p : Int) = q at *
      generalize a / 2 % (p : Int) = r at *
      generalize a % 2 = s at *
      rw [e1, Int.mul_add_emod_self_left, Int.emod_eq_of_lt (by omega) (by omega)]
    rw [e]
    have h6 := Int.emod_nonneg (a / 2) (show (p : Int) ≠ 0 by omega)
    have h7 := Int.emod_lt_of_pos (a / 2) (show (0 : Int) < p by omega)
    have h8 := Int.emod_nonneg a (show (2 : Int) ≠ 0 by decide)
    have h9 := Int.emod_lt_of_pos a (show (0 : Int) < 2 by decide)
    generalize a / 2 % (p : Int) = r at *
    generalize a % 2 = s at *
    omega

theorem wordL_drop (l : List Int) (m : Nat) (h : m < l.length) : wordL (l.drop m) = IntKind.u64.wrap (IntKind.u64.wrap (wordL (l.drop (m + 1)) * 2) + IntKind.u64.wrap (l[m]?.getD 0)) := by
  rw [List.drop_eq_getElem_cons h, wordL]
  simp [h]

theorem half_bits {a : Int} (ha : U64 a) (k : Nat) : IntKind.u64.wrap ((a / 2 ^ k).tdiv 2) = a / 2 ^ (k + 1) := by
  have h1 := u64_div ha k
  have h2 := u64_div ha (k + 1)
  have e1 : a / 2 ^ k / 2 = a / 2 ^ (k + 1) := by rw [Int.ediv_ediv_of_nonneg (Int.le_of_lt (two_pow_pos k)), Int.pow_succ]
  rw [Int.tdiv_eq_ediv_of_nonneg h1.1, e1, IntKind.wrap_u64]
  exact Int.emod_eq_of_lt h2.1 h2.2

/-- What the reference's Get computes. -/
theorem wordL_part {a hi lo : Int} (h0 : 0 ≤ lo) (h1 : lo ≤ hi) (h2 : hi < 64) :
    wordL (((bitsN 64 a).drop lo.toNat).take (hi - lo + 1).toNat) = getZ a hi lo := by
  unfold getZ
  rw [if_pos (rightB_yes h0 h1 h2), bitsN_drop, bitsN_take _ _ _ (by omega), wordL_bits _ _ (by omega)]

/-! ### A word with another part -/
theorem put_nat (w v lo n : Nat) (hw : w < 2 ^ 64) (hn : lo + n ≤ 64) :
    (w &&& (2 ^ 64 - 1 - (2 ^ n - 1) * 2 ^ lo)) ||| (v % 2 ^ n * 2 ^ lo) = w % 2 ^ lo + v % 2 ^ n * 2 ^ lo + w / 2 ^ (lo + n) * 2 ^ (lo + n) := by
  have hlo : w % 2 ^ lo < 2 ^ lo := Nat.mod_lt _ (Nat.pow_pos (by decide))
  have hv : v % 2 ^ n < 2 ^ n := Nat.mod_lt _ (Nat.pow_pos (by decide))
  have e1 : w % 2 ^ lo + v % 2 ^ n * 2 ^ lo + w / 2 ^ (lo + n) * 2 ^ (lo + n) = 2 ^ lo * (2 ^ n * (w / 2 ^ (lo + n)) + v % 2 ^ n) + w % 2 ^ lo := by
    have : 2 ^ lo * (2 ^ n * (w / 2 ^ (lo + n)) + v % 2 ^ n) = w / 2 ^ (lo + n) * 2 ^ (lo + n) + v % 2 ^ n * 2 ^ lo := by
      rw [Nat.mul_add, ← Nat.mul_assoc, ← Nat.pow_add, Nat.mul_comm (2 ^ (lo + n)), Nat.mul_comm (2 ^ lo) (v % 2 ^ n)]
    omega
  have hmask : (2 ^ n - 1) * 2 ^ lo < 2 ^ 64 := by
    have h1 : (2 ^ n - 1) * 2 ^ lo < 2 ^ n * 2 ^ lo := Nat.mul_lt_mul_of_pos_right (by have := Nat.pow_pos (a := 2) (n := n) (by decide); omega) (Nat.pow_pos (by decide))
    rw [← Nat.pow_add] at h1
    exact Nat.lt_of_lt_of_le h1 (Nat.pow_le_pow_right (by decide) (by omega))
  have e2 : 2 ^ 64 - 1 - (2 ^ n - 1) * 2 ^ lo = 2 ^ 64 - ((2 ^ n - 1) * 2 ^ lo + 1) := by omega
  rw [e1, e2]
  apply Nat.eq_of_testBit_eq
  intro j
  rw [Nat.testBit_or, Nat.testBit_and, Nat.testBit_two_pow_sub_succ hmask, Nat.testBit_mul_two_pow, Nat.testBit_mul_two_pow, Nat.testBit_two_pow_sub_one, Nat.testBit_two_pow_mul_add _ hlo]
  by_cases hj : j < lo
  · have h64 : j < 64 := by omega
    simp [hj, h64, Nat.not_le.2 hj, Nat.testBit_mod_two_pow]
  · rw [if_neg hj]
    have hj' : lo ≤ j := by omega
    rw [Nat.testBit_two_pow_mul_add _ hv, Nat.testBit_mod_two_pow]
    by_cases hk : j - lo < n
    · have h64 : j < 64 := by omega
      simp [hj', hk, h64]
    · rw [if_neg hk]
      simp only [hk, decide_false, Bool.and_false, Bool.not_false, Bool.and_true, Bool.false_and, Bool.or_false, Nat.testBit_div_two_pow]
      have e3 : j - lo - n + (lo + n) = j := by omega
      rw [e3]
      by_cases h64 : j < 64
      · simp [h64]
      · have : w.testBit j = false := Nat.testBit_lt_two_pow (Nat.lt_of_lt_of_le hw (Nat.pow_le_pow_right (by decide) (by omega)))
        simp [this]

theorem u64_lt_pow {x : Nat} (h : x < 18446744073709551616) : x < 2 ^ 64 := by
  have : (2 : Nat) ^ 64 = 18446744073709551616 := by decide
  omega

/-- What field.Put computes. -/
theorem put_eq {a hi lo v : Int} (ha : U64 a) (hv : U64 v) (h0 : 0 ≤ lo) (h1 : lo ≤ hi) (h2 : hi < 64) :
    bits .or .u64 (bits .andNot .u64 a (IntKind.u64.wrap (maskZ (hi - lo + 1) * 2 ^ lo.toNat))) (IntKind.u64.wrap (bits .and .u64 v (maskZ (hi - lo + 1)) * 2 ^ lo.toNat)) = putZ a hi lo v := by
  rw [and_mask hv (by omega) (by omega)]
  obtain ⟨x, rfl, hx⟩ := ha.nat
  obtain ⟨y, rfl, hy⟩ := hv.nat
  obtain ⟨l, rfl⟩ := Int.eq_ofNat_of_zero_le h0
  obtain ⟨n, hn⟩ := Int.eq_ofNat_of_zero_le (a := hi - l + 1) (by omega)
  have hhi : hi + 1 = ((l + n : Nat) : Int) := by omega
  unfold putZ
  rw [if_pos (rightB_yes h0 h1 h2), hn, hhi]
  simp only [Int.toNat_natCast]
  have hln : l + n ≤ 64 := by omega
  have hp := put_nat x y l n (u64_lt_pow hx) hln
  have p1 := two_pow_le64 hln
  rw [mask_nat n (by omega)]
  have b1 : (2 ^ n - 1) * 2 ^ l < 18446744073709551616 := by
    have h1 : (2 ^ n - 1) * 2 ^ l < 2 ^ n * 2 ^ l := Nat.mul_lt_mul_of_pos_right (by have := Nat.pow_pos (a := 2) (n := n) (by decide); omega) (Nat.pow_pos (by decide))
    rw [← Nat.pow_add, Nat.add_comm] at h1
    omega
  have b2 : y % 2 ^ n * 2 ^ l < 18446744073709551616 := by
    have h1 : y % 2 ^ n * 2 ^ l < 2 ^ n * 2 ^ l := Nat.mul_lt_mul_of_pos_right (Nat.mod_lt _ (Nat.pow_pos (by decide))) (Nat.pow_pos (by decide))
    rw [← Nat.pow_add, Nat.add_comm] at h1
    omega
  have c1 : ((2 ^ n - 1 : Nat) : Int) * 2 ^ l = (((2 ^ n - 1) * 2 ^ l : Nat) : Int) := by rw [Int.natCast_mul, cast_pow]
  have c2 : (y : Int) % 2 ^ n * 2 ^ l = ((y % 2 ^ n * 2 ^ l : Nat) : Int) := by rw [Int.natCast_mul, Int.natCast_emod, cast_pow, cast_pow]
  have c3 : (x : Int) % 2 ^ l = ((x % 2 ^ l : Nat) : Int) := by rw [Int.natCast_emod, cast_pow]
  have c4 : (x : Int) / 2 ^ (l + n) * 2 ^ (l + n) = ((x / 2 ^ (l + n) * 2 ^ (l + n) : Nat) : Int) := by rw [Int.natCast_mul, Int.natCast_ediv, cast_pow]
  rw [c1, c2, c3, c4, IntKind.wrap_u64, IntKind.wrap_u64]
  have d1 : (((2 ^ n - 1) * 2 ^ l : Nat) : Int) % 18446744073709551616 = (((2 ^ n - 1) * 2 ^ l : Nat) : Int) := Int.emod_eq_of_lt (by omega) (by omega)
  have d2 : ((y % 2 ^ n * 2 ^ l : Nat) : Int) % 18446744073709551616 = ((y % 2 ^ n * 2 ^ l : Nat) : Int) := Int.emod_eq_of_lt (by omega) (by omega)
  rw [d1, d2, u64_andNot_nat _ _ hx b1]
  have e64 : (2 : Nat) ^ 64 - 1 = 18446744073709551615 := by decide
  rw [e64] at hp
  rw [u64_or_nat _ _ (Nat.lt_of_le_of_lt Nat.and_le_left hx) b2, hp]
  simp only [Int.natCast_add]

theorem putZ_no {a hi lo v : Int} (h : rightB hi lo = false) : putZ a hi lo v = a := by unfold putZ; rw [h]; rfl

end Go.Proofs.Ytdlodacogldinaa
