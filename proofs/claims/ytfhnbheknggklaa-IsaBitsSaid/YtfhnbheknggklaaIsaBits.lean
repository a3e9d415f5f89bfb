/- The statement IsaBits: proved of every input, without condition. -/
import Derived.Test.YtfhnbheknggklaaRows
import Derived.Test.YtfhnbheknggklaaAwake03
namespace Go.Proofs.Ytfhnbheknggklaa
open Go.ChangeShapes Go.WideShapes Go.ChangeAt Go.RowKit
set_option linter.unusedSimpArgs false
set_option linter.unusedVariables false


theorem xor_ne {a b : Int} (ha : U32 a) (hb : U32 b) (h0 : ¬ b = 0) : U32 (bits .xor .u32 a b) ∧ ¬ bits .xor .u32 a b = a := by
  obtain ⟨x, rfl⟩ := Int.eq_ofNat_of_zero_le ha.1
  obtain ⟨y, rfl⟩ := Int.eq_ofNat_of_zero_le hb.1
  have h1 := ha.2
  have h2 := hb.2
  rw [u32_xor_nat x y (by omega) (by omega)]
  have e : (2 : Nat) ^ 32 = 4294967296 := by decide
  have hl : x ^^^ y < 2 ^ 32 := Nat.xor_lt_two_pow (by omega) (by omega)
  refine ⟨⟨by omega, by omega⟩, fun h => h0 ?_⟩
  have h3 : x ^^^ y = x := by omega
  have h4 : x ^^^ (x ^^^ y) = x ^^^ x := by rw [h3]
  rw [← Nat.xor_assoc, Nat.xor_self, Nat.zero_xor] at h4
  rw [h4]
  rfl

theorem pow_u32 {k : Int} (h0 : 0 ≤ k) (h1 : k ≤ 31) : U32 (2 ^ k.toNat) ∧ ¬ (2 : Int) ^ k.toNat = 0 ∧ IntKind.u32.wrap (2 ^ k.toNat) = 2 ^ k.toNat := by
  obtain ⟨j, rfl⟩ := Int.eq_ofNat_of_zero_le h0
  have h2 : (2 : Nat) ^ j ≤ 2 ^ 31 := Nat.pow_le_pow_right (by decide) (by omega)
  have h3 : 0 < (2 : Nat) ^ j := Nat.pow_pos (by decide)
  have e : (2 : Nat) ^ 31 = 2147483648 := by decide
  rw [Int.toNat_natCast, ← cast_pow]
  generalize (2 : Nat) ^ j = y at *
  exact ⟨⟨by omega, by omega⟩, by omega, wrap32 (by omega) (by omega)⟩

set_option maxHeartbeats 2000000 in
theorem isaBits_walk (x : X) (bit : Int) (hx : X64 x) (hbit : I64 bit) (w : World) : Calls Try.prog 8 #[instrV x, .int .i64 bit] w (RetB (.bool true) w) := by
  clear hx hbit
  by_cases hr : rightP x
  · by_cases hk : 0 ≤ bit ∧ bit ≤ 31
    · have HE := Lib.hid (errX_yes hr)
      obtain ⟨p1, p2, p3⟩ := pow_u32 hk.1 hk.2
      obtain ⟨q1, q2⟩ := xor_ne (word_u32 hr) p1 p2
      have HU := Lib.hid q1
      have hy : ∀ y, decX (bits .xor .u32 (wordX x) (2 ^ bit.toNat)) = some y → ¬ y = x := fun y hd e => by
        have := (dec_some q1 hd).2
        rw [e] at this
        exact q2 this.symm
      have HW : Hid (encW x = wordX x) := Lib.hid (if_pos hr)
      have HY := Lib.hid hy
      obtain ⟨hk0, hk1⟩ := hk
      have P3 := Lib.hid p3
      clear hr p1 p2 q1 q2 hy
      obtain ⟨op, d, n, m, imm, kind⟩ := x
      generalize wordX ⟨op, d, n, m, imm, kind⟩ = v at HU HY HW
      obtain ⟨pw, hpw⟩ : ∃ pw, (2 : Int) ^ bit.toNat = pw := ⟨_, rfl⟩
      rw [hpw] at HU HY P3
      have P4 := P3.out
      simp only [instrV]
      rcases hd : decX (bits .xor .u32 v pw) with _ | y
      · have HD := Lib.hid hd
        clear hd
        go_enter Try.func8, Try.ntmps8
        go_wp2_with (first | (go_at_call 9; refine (awake_any _).mono ?_; rintro e w1 ⟨rfl, hb⟩; have B1 : Below w.heap.size w w1 := Below.trans (by repeat' (first | with_reducible exact Below.refl _ _ | with_reducible assumption | with_reducible apply below_drewN | with_reducible apply Below.drew | with_reducible refine Below.setCell ?_ ?_ _ | with_reducible refine Below.alloc ?_ ?_ _ | omega | (simp; done) | (simp; omega))) (hb.mono (by first | omega | (simp; done) | (simp; omega))); have Bz1 := B1.size; obtain ⟨k1, k2, k3, k4⟩ := keepB hb w.heap.size (by first | omega | (simp; done) | (simp; omega)); clear hb) | (go_at_call 10; refine (encode_any ⟨_, _, _, _, _, _⟩ _).mono ?_; rintro e w' ⟨rfl, hb⟩; rw [HE.out, HW.out]; have B : Below w.heap.size w w' := Below.trans (by repeat' (first | with_reducible exact Below.refl _ _ | with_reducible assumption | with_reducible apply below_drewN | with_reducible apply Below.drew | with_reducible refine Below.setCell ?_ ?_ _ | with_reducible refine Below.alloc ?_ ?_ _ | omega | (simp; done) | (simp; omega))) (hb.mono (by first | omega | (simp; done) | (simp; omega))); have Bz := B.size; obtain ⟨k1, k2, k3, k4⟩ := keepB hb w.heap.size (by first | omega | (simp; done) | (simp; omega)); clear hb) | (go_at_call 14; refine (decode_any _ HU.out _).mono ?_; rintro e w2 ⟨rfl, hb⟩; rw [HD.out]; simp only [Option.getD_none, decE, Option.isSome_none, X.zero, instrV]; have B : Below w.heap.size w w2 := Below.trans (by repeat' (first | with_reducible exact Below.refl _ _ | with_reducible assumption | with_reducible apply below_drewN | with_reducible apply Below.drew | with_reducible refine Below.setCell ?_ ?_ _ | with_reducible refine Below.alloc ?_ ?_ _ | omega | (simp; done) | (simp; omega))) (hb.mono (by first | omega | (simp; done) | (simp; omega))); have Bz := B.size; obtain ⟨k1, k2, k3, k4⟩ := keepB hb w.heap.size (by first | omega | (simp; done) | (simp; omega)); clear hb))
        go_ret
        exact ⟨by simp, by repeat' (first | with_reducible exact Below.refl _ _ | with_reducible assumption | with_reducible apply below_drewN | with_reducible apply Below.drew | with_reducible refine Below.setCell ?_ ?_ _ | with_reducible refine Below.alloc ?_ ?_ _ | omega | (simp; done) | (simp; omega))⟩
      · have HD := Lib.hid hd
        have HN := Lib.hid (HY.out y hd)
        clear hd
        obtain ⟨op2, d2, n2, m2, imm2, kind2⟩ := y
        go_enter Try.func8, Try.ntmps8
        go_wp2_with (first | (go_at_call 9; refine (awake_any _).mono ?_; rintro e w1 ⟨rfl, hb⟩; have B1 : Below w.heap.size w w1 := Below.trans (by repeat' (first | with_reducible exact Below.refl _ _ | with_reducible assumption | with_reducible apply below_drewN | with_reducible apply Below.drew | with_reducible refine Below.setCell ?_ ?_ _ | with_reducible refine Below.alloc ?_ ?_ _ | omega | (simp; done) | (simp; omega))) (hb.mono (by first | omega | (simp; done) | (simp; omega))); have Bz1 := B1.size; obtain ⟨k1, k2, k3, k4⟩ := keepB hb w.heap.size (by first | omega | (simp; done) | (simp; omega)); clear hb) | (go_at_call 10; refine (encode_any ⟨_, _, _, _, _, _⟩ _).mono ?_; rintro e w' ⟨rfl, hb⟩; rw [HE.out, HW.out]; have B : Below w.heap.size w w' := Below.trans (by repeat' (first | with_reducible exact Below.refl _ _ | with_reducible assumption | with_reducible apply below_drewN | with_reducible apply Below.drew | with_reducible refine Below.setCell ?_ ?_ _ | with_reducible refine Below.alloc ?_ ?_ _ | omega | (simp; done) | (simp; omega))) (hb.mono (by first | omega | (simp; done) | (simp; omega))); have Bz := B.size; obtain ⟨k1, k2, k3, k4⟩ := keepB hb w.heap.size (by first | omega | (simp; done) | (simp; omega)); clear hb) | (go_at_call 14; refine (decode_any _ HU.out _).mono ?_; rintro e w2 ⟨rfl, hb⟩; rw [HD.out]; simp only [Option.getD_some, decE, Option.isSome_some, instrV]; have B : Below w.heap.size w w2 := Below.trans (by repeat' (first | with_reducible exact Below.refl _ _ | with_reducible assumption | with_reducible apply below_drewN | with_reducible apply Below.drew | with_reducible refine Below.setCell ?_ ?_ _ | with_reducible refine Below.alloc ?_ ?_ _ | omega | (simp; done) | (simp; omega))) (hb.mono (by first | omega | (simp; done) | (simp; omega))); have Bz := B.size; obtain ⟨k1, k2, k3, k4⟩ := keepB hb w.heap.size (by first | omega | (simp; done) | (simp; omega)); clear hb))
        all_goals
          go_ret
          refine ⟨?_, by repeat' (first | with_reducible exact Below.refl _ _ | with_reducible assumption | with_reducible apply below_drewN | with_reducible apply Below.drew | with_reducible refine Below.setCell ?_ ?_ _ | with_reducible refine Below.alloc ?_ ?_ _ | omega | (simp; done) | (simp; omega))⟩
          first | rfl | (have hq := HN.out; simp only [X.mk.injEq] at hq; simp_all)
    · have HE := Lib.hid (errX_yes hr)
      have HW : Hid (encW x = wordX x) := Lib.hid (if_pos hr)
      clear hr
      obtain ⟨op, d, n, m, imm, kind⟩ := x
      simp only [instrV]
      by_cases hk0 : bit < 0
      · clear hk
        go_enter Try.func8, Try.ntmps8
        go_wp2_with (first | (go_at_call 9; refine (awake_any _).mono ?_; rintro e w1 ⟨rfl, hb⟩; have B1 : Below w.heap.size w w1 := Below.trans (by repeat' (first | with_reducible exact Below.refl _ _ | with_reducible assumption | with_reducible apply below_drewN | with_reducible apply Below.drew | with_reducible refine Below.setCell ?_ ?_ _ | with_reducible refine Below.alloc ?_ ?_ _ | omega | (simp; done) | (simp; omega))) (hb.mono (by first | omega | (simp; done) | (simp; omega))); have Bz1 := B1.size; obtain ⟨k1, k2, k3, k4⟩ := keepB hb w.heap.size (by first | omega | (simp; done) | (simp; omega)); clear hb) | (go_at_call 10; refine (encode_any ⟨_, _, _, _, _, _⟩ _).mono ?_; rintro e w' ⟨rfl, hb⟩; rw [HE.out, HW.out]; have B : Below w.heap.size w w' := Below.trans (by repeat' (first | with_reducible exact Below.refl _ _ | with_reducible assumption | with_reducible apply below_drewN | with_reducible apply Below.drew | with_reducible refine Below.setCell ?_ ?_ _ | with_reducible refine Below.alloc ?_ ?_ _ | omega | (simp; done) | (simp; omega))) (hb.mono (by first | omega | (simp; done) | (simp; omega))); have Bz := B.size; obtain ⟨k1, k2, k3, k4⟩ := keepB hb w.heap.size (by first | omega | (simp; done) | (simp; omega)); clear hb))
        go_ret
        exact ⟨rfl, by repeat' (first | with_reducible exact Below.refl _ _ | with_reducible assumption | with_reducible apply below_drewN | with_reducible apply Below.drew | with_reducible refine Below.setCell ?_ ?_ _ | with_reducible refine Below.alloc ?_ ?_ _ | omega | (simp; done) | (simp; omega))⟩
      · have hk1 : 31 < bit := by omega
        clear hk
        go_enter Try.func8, Try.ntmps8
        go_wp2_with (first | (go_at_call 9; refine (awake_any _).mono ?_; rintro e w1 ⟨rfl, hb⟩; have B1 : Below w.heap.size w w1 := Below.trans (by repeat' (first | with_reducible exact Below.refl _ _ | with_reducible assumption | with_reducible apply below_drewN | with_reducible apply Below.drew | with_reducible refine Below.setCell ?_ ?_ _ | with_reducible refine Below.alloc ?_ ?_ _ | omega | (simp; done) | (simp; omega))) (hb.mono (by first | omega | (simp; done) | (simp; omega))); have Bz1 := B1.size; obtain ⟨k1, k2, k3, k4⟩ := keepB hb w.heap.size (by first | omega | (simp; done) | (simp; omega)); clear hb) | (go_at_call 10; refine (encode_any ⟨_, _, _, _, _, _⟩ _).mono ?_; rintro e w' ⟨rfl, hb⟩; rw [HE.out, HW.out]; have B : Below w.heap.size w w' := Below.trans (by repeat' (first | with_reducible exact Below.refl _ _ | with_reducible assumption | with_reducible apply below_drewN | with_reducible apply Below.drew | with_reducible refine Below.setCell ?_ ?_ _ | with_reducible refine Below.alloc ?_ ?_ _ | omega | (simp; done) | (simp; omega))) (hb.mono (by first | omega | (simp; done) | (simp; omega))); have Bz := B.size; obtain ⟨k1, k2, k3, k4⟩ := keepB hb w.heap.size (by first | omega | (simp; done) | (simp; omega)); clear hb))
        go_ret
        exact ⟨rfl, by repeat' (first | with_reducible exact Below.refl _ _ | with_reducible assumption | with_reducible apply below_drewN | with_reducible apply Below.drew | with_reducible refine Below.setCell ?_ ?_ _ | with_reducible refine Below.alloc ?_ ?_ _ | omega | (simp; done) | (simp; omega))⟩
  · have HE := Lib.hid (errX_no hr)
    have HW : Hid (encW x = 0) := Lib.hid (if_neg hr)
    clear hr
    obtain ⟨op, d, n, m, imm, kind⟩ := x
    simp only [instrV]
    go_enter Try.func8, Try.ntmps8
    go_wp2_with (first | (go_at_call 9; refine (awake_any _).mono ?_; rintro e w1 ⟨rfl, hb⟩; have B1 : Below w.heap.size w w1 := Below.trans (by repeat' (first | with_reducible exact Below.refl _ _ | with_reducible assumption | with_reducible apply below_drewN | with_reducible apply Below.drew | with_reducible refine Below.setCell ?_ ?_ _ | with_reducible refine Below.alloc ?_ ?_ _ | omega | (simp; done) | (simp; omega))) (hb.mono (by first | omega | (simp; done) | (simp; omega))); have Bz1 := B1.size; obtain ⟨k1, k2, k3, k4⟩ := keepB hb w.heap.size (by first | omega | (simp; done) | (simp; omega)); clear hb) | (go_at_call 10; refine (encode_any ⟨_, _, _, _, _, _⟩ _).mono ?_; rintro e w' ⟨rfl, hb⟩; rw [HE.out, HW.out]; have B : Below w.heap.size w w' := Below.trans (by repeat' (first | with_reducible exact Below.refl _ _ | with_reducible assumption | with_reducible apply below_drewN | with_reducible apply Below.drew | with_reducible refine Below.setCell ?_ ?_ _ | with_reducible refine Below.alloc ?_ ?_ _ | omega | (simp; done) | (simp; omega))) (hb.mono (by first | omega | (simp; done) | (simp; omega))); have Bz := B.size; obtain ⟨k1, k2, k3, k4⟩ := keepB hb w.heap.size (by first | omega | (simp; done) | (simp; omega)); clear hb))
    go_ret
    exact ⟨rfl, by repeat' (first | with_reducible exact Below.refl _ _ | with_reducible assumption | with_reducible apply below_drewN | with_reducible apply Below.drew | with_reducible refine Below.setCell ?_ ?_ _ | with_reducible refine Below.alloc ?_ ?_ _ | omega | (simp; done) | (simp; omega))⟩

set_option maxRecDepth 100000 in
theorem isaBits_lifted (os : Os) (started : os.Started) (H : Type) (enc : TypeId × Value → H) :
    ReturnsInHanded {} Try.checked os 8 .any (Rows.isaBitsSpec.pre6 enc Try.prog Try.f8 Rows.isaBitsRow.domain false) (Rows.isaBitsSpec.post enc Try.prog Try.f8 false true false false) := by
  refine returnsInHanded_of_change (C := Try.checked) own started (by kernel_rfl) Try.func8
    (ChangeSpec.witness6 (enc := enc) (C := Try.checked) false ⟨#[], #[instrV X.zero, .int .i64 0], []⟩ 8 (by kernel_rfl) (by kernel_rfl) (by kernel_rfl) (by kernel_rfl)) ?_
  intro W base args ds gs before hval0 hW _ _
  have hval : ∀ (j : Nat) t v, Try.f8.params[j]? = some t → args[j]? = some v → Value.okWide Try.prog W .any base t v := hval0
  have hW' := hW
  obtain ⟨p, q, hA0, hV, rfl, hfz, hnd⟩ := hW
  have hA : DataW.TrodAll enc Try.prog W 0 (fun _ => true) true Try.f8.params.toList args.toList ds p := hA0
  rw [Try.params8] at hA hval
  obtain ⟨v0, vs0, d0, ds0, p0, q0, hargs, rfl, rfl, h0, r0⟩ := trodAll_cons hA
  obtain ⟨v1, vs1, d1, ds1, p1, q1, rfl, rfl, rfl, h1, r1⟩ := trodAll_cons r0
  obtain ⟨rfl, rfl, rfl⟩ := trodAll_nil r1
  obtain rfl : args = #[v0, v1] := by cases args; simp_all
  obtain ⟨rfl, rfl⟩ := trodVars_none hV
  obtain ⟨a0, rfl, w0⟩ := arg_instr (hval 0 23 v0 rfl rfl)
  obtain ⟨a1, rfl, w1⟩ := arg_i64 Try.underlying3 (hval 1 3 v1 rfl rfl)
  refine (isaBits_walk a0 a1 w0 w1 W).mono fun e W' ⟨he, hb⟩ => ?_
  subst he
  exact ⟨_, rfl, post_law laid hW' rfl (by kernel_rfl) rfl Try.underlying4 rfl hb⟩

/-- The statement. -/
theorem isaBits_holds : Rows.IsaBitsSaid :=
  OpenClaim.holds_of_wide 8 Try.f8 rfl rfl rfl rfl rfl rfl rfl ⟨rfl, rfl, rfl, rfl, rfl⟩ rfl rfl rfl rfl rfl (by kernel_rfl) Try.func8 (by kernel_rfl)
    (of_decide_eq_true (by kernel_rfl)) (by unfold Func.isWrapper; first | (rw [if_pos (by decide +kernel)]; kernel_rfl) | (rw [if_neg (by decide +kernel)]; exact ⟨rfl, rfl⟩))
    (fun os started H enc _ => isaBits_lifted os started H enc)
#print axioms isaBits_holds

end Go.Proofs.Ytfhnbheknggklaa