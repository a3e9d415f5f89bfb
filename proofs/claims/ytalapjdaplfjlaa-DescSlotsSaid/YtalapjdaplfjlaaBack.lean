/- Plain laws of descriptors: each is read from its own word. -/
import Derived.Test.YtalapjdaplfjlaaDescc
namespace Go.Proofs.Ytalapjdaplfjlaa
open Go.RowKit

theorem getZ_one (a : Int) (n : Nat) (h : n < 64) : getZ a n n = a / 2 ^ n % 2 := by
  unfold getZ
  rw [if_pos (rightB_yes (by omega) (by omega) (by omega))]
  have e : ((n : Int) - n + 1).toNat = 1 := by omega
  rw [e, Int.toNat_natCast]
  rfl

theorem bitB_eq (a : Int) (n : Nat) (h : n < 64) : bitB a n = (a / 2 ^ n % 2 == 1) := by unfold bitB; rw [getZ_one a n h]

theorem bit0 (a : Int) : bitB a 0 = (a % 2 == 1) := by have := bitB_eq a 0 (by decide); simpa using this
theorem bit1 (a : Int) : bitB a 1 = (a / 2 % 2 == 1) := by have := bitB_eq a 1 (by decide); simpa using this
theorem bit6 (a : Int) : bitB a 6 = (a / 64 % 2 == 1) := by have := bitB_eq a 6 (by decide); simpa using this
theorem bit7 (a : Int) : bitB a 7 = (a / 128 % 2 == 1) := by have := bitB_eq a 7 (by decide); simpa using this
theorem bit10 (a : Int) : bitB a 10 = (a / 1024 % 2 == 1) := by have := bitB_eq a 10 (by decide); simpa using this
theorem bit11 (a : Int) : bitB a 11 = (a / 2048 % 2 == 1) := by have := bitB_eq a 11 (by decide); simpa using this
theorem high16 (a : Int) : getZ a 47 32 = a / 4294967296 % 65536 := by
  have e1 : (2 : Int) ^ (32 : Nat) = 4294967296 := rfl
  have e2 : (2 : Int) ^ (16 : Nat) = 65536 := rfl
  simp [getZ, rightB, e1, e2]
theorem low32 (a : Int) : getZ a 31 0 = a % 4294967296 := by
  have e1 : (2 : Int) ^ (32 : Nat) = 4294967296 := rfl
  simp [getZ, rightB, e1]
theorem down12 (a : Int) : downZ a 12 = a / 4096 * 4096 := by
  have e1 : (2 : Int) ^ (12 : Nat) = 4096 := rfl
  simp [downZ, e1]
theorem down21 (a : Int) : downZ a 21 = a / 2097152 * 2097152 := by
  have e1 : (2 : Int) ^ (21 : Nat) = 2097152 := rfl
  simp [downZ, e1]

theorem chk_parts {d : D} {level : Int} (hv : d.valid = true) (h : chkZ d level = 0) :
    (level = 1 ∨ level = 2) ∧ ¬ (level = 2 ∧ d.table = true) ∧ d.out < 4294967296 ∧ alignedB d.out (shiftZ d.table level) = true ∧ (d.table = true → d.used = false ∧ d.readOnly = false ∧ d.user = false ∧ d.own = false) := by
  unfold chkZ at h
  rw [if_pos hv] at h
  split at h
  · rename_i hc
    simp only [Bool.and_eq_true, decide_eq_true_eq, Bool.or_eq_true, beq_iff_eq, Bool.not_eq_true', Bool.and_eq_false_iff, Bool.or_eq_false_iff] at hc
    obtain ⟨⟨⟨⟨h1, h2⟩, h3⟩, h4⟩, h5⟩ := hc
    refine ⟨h1, ?_, h3, h4, ?_⟩
    · rintro ⟨e1, e2⟩
      rcases h2 with h2 | h2
      · simp [e1] at h2
      · rw [e2] at h2; cases h2
    · intro ht
      rcases h5 with h5 | h5
      · rw [ht] at h5; cases h5
      · exact ⟨h5.1.1.1, h5.1.1.2, h5.1.2, h5.2⟩
  · simp at h

theorem al12' (o : Int) : alignedB o 12 = (o % 4096 == 0) := by
  have e2 : (2 : Int) ^ (12 : Nat) = 4096 := rfl
  simp [alignedB, e2]
theorem al21' (o : Int) : alignedB o 21 = (o % 2097152 == 0) := by
  have e2 : (2 : Int) ^ (21 : Nat) = 2097152 := rfl
  simp [alignedB, e2]

/-- The parts of a word that is put together. -/
theorem word_parts (x o : Int) (t u r s n : Bool) (o0 : 0 ≤ o) (o1 : o < 4294967296) (o2 : o % 4096 = 0)
    (hx : x = o + 1 + (if t = true then 2 else 0) + (if s = true then 64 else 0) + (if r = true then 128 else 0) + (if u = true then 1024 else 0) + (if n = true then 2048 else 0)) :
    (x % 2 == 1) = true ∧ (x / 2 % 2 == 1) = t ∧ (x / 64 % 2 == 1) = s ∧ (x / 128 % 2 == 1) = r ∧ (x / 1024 % 2 == 1) = u ∧ (x / 2048 % 2 == 1) = n ∧ x / 4294967296 % 65536 = 0 ∧
      x % 4294967296 / 4096 = o / 4096 ∧ x % 4294967296 / 2097152 = o / 2097152 := by
  obtain ⟨q, hq⟩ : ∃ q, o = 4096 * q := ⟨o / 4096, by omega⟩
  clear o2
  subst hq
  cases t <;> cases u <;> cases r <;> cases s <;> cases n <;>
    (simp only [if_true, if_false, Bool.false_eq_true] at hx
     refine ⟨?_, ?_, ?_, ?_, ?_, ?_, ?_, ?_, ?_⟩
     all_goals first | omega | (simp; omega))

theorem decD_word {d : D} {level : Int} (ho : U64 d.out) (hv : d.valid = true) (h : chkZ d level = 0) : decD (wordD d level) level = d := by
  obtain ⟨h1, h2, h3, h4, h5⟩ := chk_parts hv h
  obtain ⟨o0, _⟩ := ho
  have h6 := aligned_low h4
  obtain ⟨p0, p1, p6, p7, p10, p11, p16, p12, p21⟩ := word_parts (wordD d level) d.out (d.table || level == 2) d.used d.readOnly d.user d.own o0 h3 h6 rfl
  obtain ⟨v, t, o, u, r, s, n⟩ := d
  simp only at *
  subst hv
  rcases h1 with rfl | rfl
  · cases t
    · have h4' : o % 2097152 = 0 := by simpa [shiftZ, al21'] using h4
      unfold decD
      rw [bit0, bit1, bit6, bit7, bit10, bit11, high16, low32, p0, p1, p6, p7, p10, p11, p16]
      simp [shiftZ, down21, p21]
      omega
    · have h4' : o % 4096 = 0 := by simpa [shiftZ, al12'] using h4
      obtain ⟨rfl, rfl, rfl, rfl⟩ := h5 rfl
      unfold decD
      rw [bit0, bit1, high16, low32, p0, p1, p16]
      simp [down12, p12]
      omega
  · obtain rfl : t = false := by simpa using h2
    have h4' : o % 4096 = 0 := by simpa [shiftZ, al12'] using h4
    unfold decD
    rw [bit0, bit1, bit6, bit7, bit10, bit11, high16, low32, p0, p1, p6, p7, p10, p11, p16]
    simp [shiftZ, down12, p12]
    omega

/-- What is read from a word may be. -/
theorem chk_decD (w level : Int) (hw : U64 w) : chkZ (decD w level) level = 0 ∧ U64 (decD w level).out := by
  unfold decD
  by_cases hc : (bitB w 0 && getZ w 47 32 == 0 && (level == 1 || level == 2) && !(level == 2 && !bitB w 1)) = true
  · rw [if_pos hc]
    simp only [Bool.and_eq_true, Bool.or_eq_true, beq_iff_eq, Bool.not_eq_true', Bool.and_eq_false_iff, Bool.not_eq_false'] at hc
    obtain ⟨⟨⟨h0, h16⟩, hl⟩, h2⟩ := hc
    obtain ⟨w0, w1⟩ := hw
    by_cases ht : (level == 1 && bitB w 1) = true
    · rw [if_pos ht]
      simp only [Bool.and_eq_true, beq_iff_eq] at ht
      obtain ⟨rfl, hb⟩ := ht
      rw [low32, down12]
      exact ⟨by simp [chkZ, shiftZ, al12']; omega, by constructor <;> simp <;> omega⟩
    · rw [if_neg ht]
      rcases hl with rfl | rfl
      · have hb : bitB w 1 = false := by simpa using ht
        rw [hb, low32, show shiftZ false 1 = 21 from rfl, down21]
        exact ⟨by simp [chkZ, shiftZ, al21']; omega, by constructor <;> simp <;> omega⟩
      · have hb : bitB w 1 = true := by rcases h2 with h2 | h2 <;> simp_all
        rw [hb, low32, show shiftZ true 2 = 12 from rfl, down12]
        exact ⟨by simp [chkZ, shiftZ, al12']; omega, by constructor <;> simp <;> omega⟩
  · rw [if_neg hc]
    exact ⟨rfl, by constructor <;> decide⟩

theorem decD_zero (level : Int) : decD 0 level = D.zero := by
  unfold decD
  rw [bit0]
  rfl

/-- Decode of Encode. -/
theorem decD_enc {d : D} {level : Int} (ho : U64 d.out) (h : chkZ d level = 0) : decD (encW d level) level = d := by
  unfold encW
  cases hv : d.valid
  · rw [if_neg (by simp), decD_zero]
    unfold chkZ at h
    rw [hv] at h
    simp at h
    exact h.symm
  · rw [if_pos ⟨rfl, h⟩]
    exact decD_word ho hv h

theorem u64_encW {d : D} {level : Int} (ho : U64 d.out) : U64 (encW d level) := by
  unfold encW
  split
  · rename_i hc
    obtain ⟨h1, h2⟩ := chk_ok hc.1 hc.2
    obtain ⟨o0, _⟩ := ho
    unfold wordD
    constructor
    · split <;> split <;> split <;> split <;> split <;> omega
    · split <;> split <;> split <;> split <;> split <;> omega
  · exact ⟨by decide, by decide⟩

theorem chk_two (d : D) (level : Int) : chkZ d level = 0 ∨ chkZ d level = 70 := by
  unfold chkZ
  repeat' split
  all_goals simp

end Go.Proofs.Ytalapjdaplfjlaa
