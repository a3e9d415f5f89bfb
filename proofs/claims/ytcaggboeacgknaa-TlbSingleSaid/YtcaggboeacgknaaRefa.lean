/- Contracts of the reference's Bits, Word, Get, Down. -/
import Derived.Test.YtcaggboeacgknaaField
namespace Go.Proofs.Ytcaggboeacgknaa
set_option linter.unusedSimpArgs false
set_option linter.unusedVariables false
open Go.RowKit

theorem may_any (hi lo : Int) (w : World) : Calls Try.prog 64 #[.int .i64 hi, .int .i64 lo] w (Ret (.bool (rightB hi lo)) w) := by
  have e : rightB hi lo = (decide (0 ≤ lo) && (decide (lo ≤ hi) && decide (hi ≤ 63))) := by
    unfold rightB; rw [Bool.and_assoc, show decide (hi < 64) = decide (hi ≤ 63) by apply decide_eq_decide.2; omega]
  rw [e]
  clear e
  go_enter Try.func64, Try.ntmps64
  go_wp2
  all_goals (go_ret; refine ⟨?_, rfl⟩; simp [*]; try (intros; omega))

theorem infoInt : (Try.prog.info? 3).map (fun i => (i.zero, i.size, i.bytes)) = some (some (.int .i64 0), 1, 8) := by kernel_rfl

/-- The call returns a slice of its own that holds these numbers. -/
def RetInts (l : List Int) (w : World) (e : Ending) (w' : World) : Prop :=
  ∃ v, e = .returned v ∧ w'.ownsRow w.heap.size 3 1 v l.length (l.map (Value.int .i64)) ∧ Below w.heap.size w w'

theorem wrap_bit (a : Int) : IntKind.i64.wrap (a % 2) = a % 2 := IntWalk.i64_in _ (by omega)

set_option maxRecDepth 100000 in
theorem bits_any (a : Int) (w : World) (ha : U64 a) : Calls Try.prog 61 #[.int .u64 a] w (RetInts (bitsN 64 a) w) := by
  obtain ⟨i0, hi, hz0, hz1, hz2⟩ := info_parts infoInt
  have ha0 := ha.1
  have Ha := Lib.hid ha
  clear ha
  go_enter Try.func61, Try.ntmps61
  go_wp2
  go_loopw [0, 3, 4] (fun x v i wr => ∃ k : Nat, k ≤ 64 ∧ i = .int .i64 k ∧ x = .int .u64 (a / 2 ^ k) ∧ wr.ownsRow w.heap.size 3 1 v k ((bitsN k a).map (Value.int .i64)) ∧ Below w.heap.size w wr) (fun _ _ i _ => 64 - (intOf i).toNat)
  case atStart => exact ⟨0, by omega, rfl, by simp, World.ownsRow_nil _ _ _ _, Below.refl _ _⟩
  case round =>
    obtain ⟨k, hk, rfl, rfl, hown, hnx⟩ := hrel
    have hpos : 0 ≤ a / 2 ^ k := Int.ediv_nonneg ha0 (Int.le_of_lt (two_pow_pos k))
    have hW : IntKind.i64.wrap (a / 2 ^ k % 2) = a / 2 ^ k % 2 := wrap_bit _
    by_cases hlt : k < 64
    · go_wp2_with (at_builtin; refine wpList_append_own _ rfl _ _ 85 rfl w.heap.size 3 i0 (.int .i64 0) 1 8 Try.underlying85 hi hz0 hz1 hz2 rfl (by decide) _ _ _ rfl (hown.alloc _) ⟨wr.heap.size, 0, none⟩ 1 1 [.int .i64 (a / 2 ^ k % 2)] rfl rfl ?c1 ?c2 ?c3 ?c4 ?c5 ?_)
      case c1 => exact one_new _ _ _
      case c2 => intro u hu; simp at hu; subst hu; rfl
      case c3 => unfold maxLen; omega
      case c4 => omega
      case c5 => have := hnx.size; simp; omega
      intro v' w1 hown' hgrow _
      have hnx' : Below w.heap.size w w1 := (hnx.alloc hnx.size _).grown hgrow (by have := hnx.size; simp; omega) (fun k hk => (hown.lt k hk).1)
      clear hgrow hown hnx hW
      rw [show List.map (Value.int IntKind.i64) (bitsN k a) ++ [Value.int .i64 (a / 2 ^ k % 2)] = (bitsN (k + 1) a).map (Value.int .i64) by rw [bitsN_snoc]; simp] at hown'
      have E1 := Lib.hid (half_bits Ha.out k)
      go_wp2
      go_roundw
      case rel => exact ⟨k + 1, by omega, by go_num, by rw [E1.out], hown', hnx'⟩
      case measure => simp [intOf]; omega
    · obtain rfl : k = 64 := by omega
      go_wp2
      go_ret
      exact ⟨_, rfl, by rw [bitsN_len]; exact hown, hnx⟩

/-- What a slice of ints holds, wherever it lies. -/
def IntsAt (w : World) (ad : Addr) (l : List Int) : Prop := ∀ j, j < l.length → w.cell? (ad.add j) = some (.int .i64 (l.getD j 0))

theorem word_any (ad : Addr) (l : List Int) (cap : Nat) (w : World) (hl : IntsAt w ad l) (hlen : l.length ≤ 64) (n : Nat) (hn : n = l.length) :
    Calls Try.prog 62 #[.slice (some ad) n cap] w (Ret (.int .u64 (wordL l)) w) := by
  subst hn
  go_enter Try.func62, Try.ntmps62
  go_wp2
  go_loop [3, 4] (fun x i => ∃ k : Nat, k ≤ l.length ∧ i = .int .i64 ((k : Int) - 1) ∧ x = .int .u64 (wordL (l.drop k))) (fun _ i => (intOf i + 1).toNat)
  case atStart => exact ⟨l.length, by omega, rfl, by simp [wordL]⟩
  case round =>
    obtain ⟨k, hk, rfl, rfl⟩ := hrel
    by_cases hlt : 0 < k
    · obtain ⟨m, rfl⟩ : ∃ m, k = m + 1 := ⟨k - 1, by omega⟩
      have hc := hl m (by omega)
      have E := Lib.hid (wordL_drop l m (by omega))
      go_wp2
      go_round
      case rel => exact ⟨m, by omega, rfl, by rw [E.out]⟩
      case measure => simp [intOf]
    · obtain rfl : k = 0 := by omega
      go_wp2
      go_ret
      exact ⟨by simp, rfl⟩

theorem refGet_any (a hi lo : Int) (w : World) (ha : U64 a) : Calls Try.prog 47 #[.int .u64 a, .int .i64 hi, .int .i64 lo] w (RetB (.int .u64 (getZ a hi lo)) w) := by
  cases hr : rightB hi lo
  · have H := Lib.hid (getZ_no (a := a) hr)
    have Hr := Lib.hid hr
    clear hr
    go_enter Try.func47, Try.ntmps47
    go_wp2_with (go_at_call 64; refine (may_any _ _ _).mono ?_; rintro e w' ⟨rfl, rfl⟩; rw [Hr.out])
    go_ret
    exact ⟨by rw [H.out]; rfl, Below.refl _ _⟩
  · obtain ⟨h1, h2, h3⟩ := rightB_iff.1 hr
    obtain ⟨l, rfl⟩ := Int.eq_ofNat_of_zero_le h1
    obtain ⟨h, rfl⟩ := Int.eq_ofNat_of_zero_le (a := hi) (by omega)
    have H := Lib.hid (wordL_part (a := a) h1 h2 h3)
    have Hr := Lib.hid hr
    clear hr
    go_enter Try.func47, Try.ntmps47
    go_wp2_with (go_at_call 64; refine (may_any _ _ _).mono ?_; rintro e w' ⟨rfl, rfl⟩; rw [Hr.out])
    refine (bits_any a w ha).mono ?_
    rintro e w1 ⟨v, rfl, hown, hb⟩
    obtain ⟨g, cap, rfl, hnc, hcm, hg, hgs, hcell⟩ := ownsRow_shape hown (by rw [bitsN_len]; decide)
    rw [bitsN_len] at hnc hcell
    unfold maxLen at hcm
    go_wp2_with fail
    have hlen : (((bitsN 64 a).drop l).take (h + 1 - l)).length = h + 1 - l := by rw [List.length_take, List.length_drop, bitsN_len]; omega
    refine (word_any _ (((bitsN 64 a).drop l).take (h + 1 - l)) _ _ ?_ (by omega) _ hlen.symm).mono ?_
    · intro j hj
      rw [hlen] at hj
      rw [Addr.add_lit, hcell (l + j) (by omega)]
      have hb : l + j < (bitsN 64 a).length := by rw [bitsN_len]; omega
      simp [List.getD, hj, hb]
    · rintro e w2 ⟨rfl, rfl⟩
      go_wp2
      go_ret
      have e1 : ((h : Int) - l + 1).toNat = h + 1 - l := by omega
      rw [e1, Int.toNat_natCast] at H
      exact ⟨by rw [← H.out]; rfl, hb⟩
end Go.Proofs.Ytcaggboeacgknaa
