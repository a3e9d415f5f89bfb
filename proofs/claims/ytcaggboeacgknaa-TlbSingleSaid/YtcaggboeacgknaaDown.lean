/- The contract of the reference's Down. -/
import Derived.Test.YtcaggboeacgknaaRefa
namespace Go.Proofs.Ytcaggboeacgknaa
set_option linter.unusedSimpArgs false
set_option linter.unusedVariables false
open Go.RowKit

/-- The bits with the lowest k put to 0. -/
def lowZero (k : Nat) (a : Int) : List Int := List.replicate k 0 ++ (bitsN 64 a).drop k

theorem lowZero_len (k : Nat) (a : Int) (h : k ≤ 64) : (lowZero k a).length = 64 := by simp [lowZero, bitsN_len]; omega

theorem lowZero_succ (k : Nat) (a : Int) (h : k < 64) : (lowZero k a).set k 0 = lowZero (k + 1) a := by
  unfold lowZero
  have hl : k < (bitsN 64 a).length := by rw [bitsN_len]; exact h
  rw [List.drop_eq_getElem_cons hl, List.set_append_right _ _ (by simp)]
  simp only [List.length_replicate, Nat.sub_self, List.set_cons_zero]
  rw [List.replicate_succ', List.append_assoc]
  rfl

theorem wordL_zeros (k : Nat) : ∀ (l : List Int), wordL (List.replicate k 0 ++ l) = if k = 0 then wordL l else IntKind.u64.wrap (wordL l * 2 ^ k) := by
  induction k with
  | zero => intro l; simp
  | succ k ih =>
    intro l
    rw [List.replicate_succ, List.cons_append, wordL, ih, if_neg (Nat.succ_ne_zero k)]
    simp only [IntKind.wrap_u64]
    by_cases hk : k = 0
    · subst hk; simp
    · rw [if_neg hk, Int.pow_succ, ← Int.mul_assoc]
      generalize wordL l * 2 ^ k = y
      omega

theorem wordL_low {a : Int} (ha : U64 a) (k : Nat) (h : k ≤ 64) : wordL (lowZero k a) = downZ a k := by
  unfold lowZero
  rw [wordL_zeros, bitsN_drop]
  have hu := u64_div ha k
  obtain ⟨x, rfl, hx⟩ := ha.nat
  have hw := wordL_bits (64 - k) ((x : Int) / 2 ^ k) (by omega)
  have hlt : (x : Int) / 2 ^ k < 2 ^ (64 - k) := by
    have : x / 2 ^ k < 2 ^ (64 - k) := by
      apply Nat.div_lt_of_lt_mul
      rw [← Nat.pow_add, show k + (64 - k) = 64 by omega]
      exact u64_lt_pow hx
    rw [← cast_pow, ← cast_pow, ← Int.natCast_ediv]
    exact Int.ofNat_lt.2 this
  rw [Int.emod_eq_of_lt hu.1 hlt] at hw
  rw [hw]
  unfold downZ
  by_cases h0 : k = 0
  · subst h0; simp
  · rw [if_neg h0, if_neg (by omega), IntKind.wrap_u64]
    by_cases h6 : k = 64
    · subst h6
      rw [if_pos (by decide)]
      have : (x : Int) / 2 ^ 64 = 0 := by
        have e : (2 : Int) ^ 64 = 18446744073709551616 := rfl
        rw [e]; omega
      rw [this]; rfl
    · rw [if_neg (by omega), Int.toNat_natCast]
      have h1 : x / 2 ^ k * 2 ^ k ≤ x := Nat.div_mul_le_self _ _
      rw [← cast_pow, ← Int.natCast_ediv, ← Int.natCast_mul]
      generalize x / 2 ^ k * 2 ^ k = y at *
      exact Int.emod_eq_of_lt (by omega) (by omega)

theorem map_set (l : List Int) (k : Nat) (x : Int) : (l.map (Value.int .i64)).set k (.int .i64 x) = (l.set k x).map (Value.int .i64) := by rw [List.map_set]

theorem refDown_any (a n : Int) (w : World) (ha : U64 a) (h0 : 0 ≤ n) (h1 : n ≤ 64) : Calls Try.prog 42 #[.int .u64 a, .int .i64 n] w (RetB (.int .u64 (downZ a n)) w) := by
  obtain ⟨m, rfl⟩ := Int.eq_ofNat_of_zero_le h0
  have H := Lib.hid (wordL_low ha m (by omega))
  go_enter Try.func42, Try.ntmps42
  go_wp2_with fail
  refine (bits_any a w ha).mono ?_
  rintro e w1 ⟨v, rfl, hown, hb⟩
  obtain ⟨g, cap, rfl, hnc, hcm, hg, hgs, -⟩ := ownsRow_shape hown (by rw [bitsN_len]; decide)
  rw [bitsN_len] at hnc hown
  unfold maxLen at hcm
  have hL := Lib.hid (bitsN_len 64 a)
  go_wp2_with fail
  rw [hL.out]
  go_loopw [6] (fun i wr => ∃ k : Nat, k ≤ m ∧ i = .int .i64 k ∧ wr.ownsRow w.heap.size 3 1 (.slice (some ⟨g, 0, none⟩) 64 cap) 64 ((lowZero k a).map (Value.int .i64)) ∧ Below w.heap.size w wr) (fun i _ => m - (intOf i).toNat)
  case atStart => exact ⟨0, by omega, rfl, by simpa [lowZero] using hown, hb⟩
  case round =>
    obtain ⟨k, hk, rfl, hownr, hbr⟩ := hrel
    by_cases hlt : k < m
    · have hk64 : k < 64 := by omega
      have hlen := lowZero_len k a (by omega)
      have hc := hownr.cellAt k (by omega)
      have hc' : wr.cell? ⟨g, k, none⟩ = some (.int .i64 ((lowZero k a).getD k 0)) := by rw [hc]; simp [hlen, hk64]
      have hf := hownr.frozenAt k
      have hst := (hownr.stored k (.int .i64 0)).1
      rw [map_set, lowZero_succ k a hk64] at hst
      have hbr' : Below w.heap.size w (wr.setCell ⟨g, k, none⟩ (.int .i64 0)) := hbr.setCell hg _
      have HO := Lib.hid hst
      have HB := Lib.hid hbr'
      clear hc hst hownr hlen
      go_wp2
      go_roundw
      case rel => exact ⟨k + 1, by omega, by go_num, HO.out, HB.out⟩
      case measure => simp [intOf]; omega
    · obtain rfl : k = m := by omega
      have hlen := lowZero_len k a (by omega)
      obtain ⟨g', cap', hv, _, _, _, _, hcell⟩ := ownsRow_shape hownr (by decide)
      obtain ⟨rfl, rfl⟩ : g' = g ∧ cap' = cap := by simpa [eq_comm] using hv
      go_wp2_with fail
      refine (word_any _ (lowZero k a) _ _ ?_ (by omega) _ hlen.symm).mono ?_
      · intro j hj
        rw [Addr.add_lit, Nat.zero_add, hcell j (by omega)]
        simp [List.getD, hj]
      · rintro e w2 ⟨rfl, rfl⟩
        go_wp2
        go_ret
        exact ⟨by rw [← H.out]; rfl, hbr⟩

end Go.Proofs.Ytcaggboeacgknaa
