/- The statements of layer 3: arguments, the page's examples. -/
import Derived.Test.YtfhnbheknggklaaRows
import Derived.Test.YtfhnbheknggklaaRow
import Derived.Test.YtfhnbheknggklaaIsal
import Derived.Test.YtfhnbheknggklaaIsap
namespace Go.Proofs.Ytfhnbheknggklaa
open Go.ChangeShapes Go.WideShapes Go.ChangeAt Go.RowKit
set_option linter.unusedSimpArgs false
set_option linter.unusedVariables false

theorem own : ownKnob Try.prog.godebug = none := by kernel_rfl
theorem laid : laidOutB Try.prog = true := by kernel_rfl

theorem cell_u32 {P : Program} {w : World} {base : Nat} {t : TypeId} {c : Value} (ht : P.underlying t = some (.int .u32)) (h : Cell.okWide P w .any base t c) : ∃ n, c = .int .u32 n ∧ U32 n := by
  obtain ⟨n, rfl, h1, h2⟩ := cell_int ht h
  refine ⟨n, rfl, ?_, ?_⟩
  · simpa [IntKind.min, IntKind.signed] using h1
  · simp [IntKind.max, IntKind.signed, IntKind.bits] at h2; omega

theorem arg_u32 {P : Program} {w : World} {base : Nat} {t : TypeId} {c : Value} (ht : P.underlying t = some (.int .u32)) (h : Value.okWide P w .any base t c) : ∃ n, c = .int .u32 n ∧ U32 n := cell_u32 ht (by simpa [Value.okWide, ht] using h)

def X64 (x : X) : Prop := I64 x.op ∧ I64 x.d ∧ I64 x.n ∧ I64 x.m ∧ I64 x.imm ∧ I64 x.kind

theorem arg_instr {w : World} {base : Nat} {v : Value} (h : Value.okWide Try.prog w .any base 23 v) : ∃ x : X, v = instrV x ∧ X64 x := by
  obtain ⟨l, rfl, hlen, hall⟩ := agg_cells (ts := [3, 3, 3, 3, 3, 3]) Try.underlying23 (n := 6) (by kernel_rfl) (by kernel_rfl) rfl h
  match l, hlen with
  | [c0, c1, c2, c3, c4, c5], _ =>
    obtain ⟨_, e0, k0⟩ := hall 0 _ rfl
    obtain ⟨_, e1, k1⟩ := hall 1 _ rfl
    obtain ⟨_, e2, k2⟩ := hall 2 _ rfl
    obtain ⟨_, e3, k3⟩ := hall 3 _ rfl
    obtain ⟨_, e4, k4⟩ := hall 4 _ rfl
    obtain ⟨_, e5, k5⟩ := hall 5 _ rfl
    simp only [List.getElem?_cons_zero, List.getElem?_cons_succ, Option.some.injEq] at e0 e1 e2 e3 e4 e5
    subst e0 e1 e2 e3 e4 e5
    obtain ⟨n0, rfl, h0⟩ := cell_i64 Try.underlying3 k0
    obtain ⟨n1, rfl, h1⟩ := cell_i64 Try.underlying3 k1
    obtain ⟨n2, rfl, h2⟩ := cell_i64 Try.underlying3 k2
    obtain ⟨n3, rfl, h3⟩ := cell_i64 Try.underlying3 k3
    obtain ⟨n4, rfl, h4⟩ := cell_i64 Try.underlying3 k4
    obtain ⟨n5, rfl, h5⟩ := cell_i64 Try.underlying3 k5
    exact ⟨⟨n0, n1, n2, n3, n4, n5⟩, rfl, h0, h1, h2, h3, h4, h5⟩

theorem aw1 : rightP ⟨2, 1, 2, 0, 8, 0⟩ := by simp [rightP]
theorem aw2 : rightP ⟨21, 3, 0, 0, 0, 1⟩ := by simp [rightP]
theorem aw3 : wordX ⟨2, 1, 2, 0, 8, 0⟩ = 4181722177 := by simp [wordX]
theorem aw4 : wordX ⟨21, 3, 0, 0, 0, 1⟩ = 3574104867 := by simp [wordX, flushZ]
theorem tz_pos : ∀ j, j < 11 → ¬ tz j = 0 := by decide +kernel
theorem aw5 : decX 0 = none := by
  have h : tailX 0 = none := tail_none fun j hj => by
    rcases hg : goodX 0 (cand 0 j) with _ | _
    · rfl
    · obtain ⟨h1, h2⟩ := tz_good hj hg
      exact absurd h2.symm (tz_pos j h1)
  unfold decX
  rw [show memX 0 = none from rfl, show movX 0 = none from rfl, show brX 0 = none from rfl]
  simp only [Option.none_or]
  unfold othX
  rw [if_neg (by decide), if_neg (by decide), if_neg (by decide), if_neg (by decide), h]

theorem awake_any (w : World) : Calls Try.prog 9 #[] w (RetB (.bool true) w) := by
  have A1 := Lib.hid (errX_yes aw1)
  have A2 := Lib.hid (errX_yes aw2)
  have A3 : Hid (encW ⟨2, 1, 2, 0, 8, 0⟩ = 4181722177) := Lib.hid (by unfold encW; rw [if_pos aw1, aw3])
  have A4 : Hid (encW ⟨21, 3, 0, 0, 0, 1⟩ = 3574104867) := Lib.hid (by unfold encW; rw [if_pos aw2, aw4])
  have A5 := Lib.hid aw5
  go_enter Try.func9, Try.ntmps9
  go_wp2_with fail
  refine (encode_any ⟨2, 1, 2, 0, 8, 0⟩ _).mono ?_
  rintro e w1 ⟨rfl, hb1⟩
  rw [A1.out, A3.out]
  go_wp2_with fail
  refine (encode_any ⟨21, 3, 0, 0, 0, 1⟩ _).mono ?_
  rintro e w2 ⟨rfl, hb2⟩
  rw [A2.out, A4.out]
  go_wp2_with fail
  refine (decode_any 0 (u32_lit _ rfl) _).mono ?_
  rintro e w3 ⟨rfl, hb3⟩
  rw [A5.out]
  simp only [Option.getD_none, decE, Option.isSome_none, X.zero, instrV]
  go_wp2_with fail
  go_ret
  have B2 := hb1.trans (hb2.mono hb1.size)
  have B3 := B2.trans (hb3.mono B2.size)
  have B3s := B3.size
  exact ⟨rfl, by repeat' (first | with_reducible exact Below.refl _ _ | with_reducible assumption | with_reducible apply below_drewN | with_reducible apply Below.drew | with_reducible refine Below.setCell ?_ ?_ _ | with_reducible refine Below.alloc ?_ ?_ _ | omega | (simp; done) | (simp; omega))⟩

end Go.Proofs.Ytfhnbheknggklaa
