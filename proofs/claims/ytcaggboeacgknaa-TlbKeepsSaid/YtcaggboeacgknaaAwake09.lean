/- The statements of layer 9: the page's example, arguments opened. -/
import Derived.Test.YtcaggboeacgknaaRows
import Derived.Test.YtcaggboeacgknaaRow
import Derived.Test.YtcaggboeacgknaaFlush
namespace Go.Proofs.Ytcaggboeacgknaa
set_option linter.unusedSimpArgs false
open Go.ChangeShapes Go.WideShapes Go.ChangeAt Go.RowKit
set_option linter.unusedVariables false

theorem own : ownKnob Try.prog.godebug = none := by kernel_rfl
theorem laid : laidOutB Try.prog = true := by kernel_rfl

theorem u64_lit (n : Int) (h : (decide (0 ≤ n) && decide (n < 18446744073709551616)) = true) : U64 n := by
  simp only [Bool.and_eq_true, decide_eq_true_eq] at h
  exact h

/-- A struct of an int and three words. -/
theorem open_four {w : World} {base : Nat} {t : TypeId} {fs : Array Field} {v : Value} (hs : Try.prog.underlying t = some (.struct fs)) (hc : Try.prog.cellsOf t = 4) (hts : Try.prog.cellTypes Try.prog.depth t = some [3, 22, 22, 22])
    (h : Value.okWide Try.prog w .any base t v) : ∃ e : E, v = entV e ∧ e.ok := by
  obtain ⟨l, rfl, hlen, hall⟩ := agg_cells hs hc hts rfl h
  match l, hlen with
  | [c0, c1, c2, c3], _ =>
    obtain ⟨_, e0, k0⟩ := hall 0 _ rfl
    obtain ⟨_, e1, k1⟩ := hall 1 _ rfl
    obtain ⟨_, e2, k2⟩ := hall 2 _ rfl
    obtain ⟨_, e3, k3⟩ := hall 3 _ rfl
    simp only [List.getElem?_cons_zero, List.getElem?_cons_succ, Option.some.injEq] at e0 e1 e2 e3
    subst e0 e1 e2 e3
    obtain ⟨n0, rfl, h0⟩ := cell_i64 Try.underlying3 k0
    obtain ⟨n1, rfl, h1⟩ := cell_u64 Try.underlying22 k1
    obtain ⟨n2, rfl, h2⟩ := cell_u64 Try.underlying22 k2
    obtain ⟨n3, rfl, h3⟩ := cell_u64 Try.underlying22 k3
    exact ⟨⟨n0, n1, n2, n3⟩, rfl, h0, h1, h2, h3⟩

theorem arg_ent {w : World} {base : Nat} {v : Value} (h : Value.okWide Try.prog w .any base 27 v) : ∃ e : E, v = entV e ∧ e.ok :=
  open_four Try.underlying27 (by kernel_rfl) (by kernel_rfl) h

theorem arg_way {w : World} {base : Nat} {v : Value} (h : Value.okWide Try.prog w .any base 24 v) : ∃ e : E, v = entV e ∧ e.ok :=
  open_four Try.underlying24 (by kernel_rfl) (by kernel_rfl) h

theorem arg_flush {w : World} {base : Nat} {v : Value} (h : Value.okWide Try.prog w .any base 35 v) : ∃ f : F, v = flushV f ∧ f.ok := by
  obtain ⟨l, rfl, hlen, hall⟩ := agg_cells (ts := [3, 22, 3]) Try.underlying35 (n := 3) (by kernel_rfl) (by kernel_rfl) rfl h
  match l, hlen with
  | [c0, c1, c2], _ =>
    obtain ⟨_, e0, k0⟩ := hall 0 _ rfl
    obtain ⟨_, e1, k1⟩ := hall 1 _ rfl
    obtain ⟨_, e2, k2⟩ := hall 2 _ rfl
    simp only [List.getElem?_cons_zero, List.getElem?_cons_succ, Option.some.injEq] at e0 e1 e2
    subst e0 e1 e2
    obtain ⟨n0, rfl, h0⟩ := cell_i64 Try.underlying3 k0
    obtain ⟨n1, rfl, h1⟩ := cell_u64 Try.underlying22 k1
    obtain ⟨n2, rfl, h2⟩ := cell_i64 Try.underlying3 k2
    exact ⟨⟨n0, n1, n2⟩, rfl, h0, h1, h2⟩

theorem ex1 : fillE 1 4112 8195 21507 = ⟨1, 4096, 8195, 21507⟩ := by decide +kernel
theorem ex2 : keptB (leafD 8195 21507) = true := by decide +kernel
theorem ex3 : takesB ⟨3, 0, 1⟩ ⟨1, 4096, 8195, 21507⟩ = false := by decide +kernel
theorem ex4 : takesB ⟨1, 4096, 9⟩ ⟨1, 4096, 8195, 21507⟩ = true := by decide +kernel

theorem awake_any (w : World) : Calls Try.prog 12 #[] w (RetB (.bool true) w) := by
  have X1 := Lib.hid ex1
  have X2 := Lib.hid ex2
  have X3 := Lib.hid ex3
  have X4 := Lib.hid ex4
  go_enter Try.func12, Try.ntmps12
  go_wp2_with fail
  refine (fill_any 1 4112 8195 21507 _ (u64_lit _ rfl) (u64_lit _ rfl) (u64_lit _ rfl)).mono ?_
  rintro e w1 ⟨rfl, hb⟩
  have B : Below w.heap.size w w1 := Below.trans (by repeat' (first | with_reducible exact Below.refl _ _ | with_reducible assumption | with_reducible apply below_drewN | with_reducible apply Below.drew | with_reducible refine Below.setCell ?_ ?_ _ | with_reducible refine Below.alloc ?_ ?_ _ | omega | (simp; done) | (simp; omega))) (hb.mono (by first | omega | (simp; done) | (simp; omega))); have Bz := B.size
  clear hb
  rw [X1.out, X2.out]
  go_wp2_with fail
  refine (takes_any ⟨3, 0, 1⟩ ⟨1, 4096, 8195, 21507⟩ _ (u64_lit 0 rfl) (u64_lit 8195 rfl) (u64_lit 21507 rfl)).mono ?_
  rintro e w2 ⟨rfl, hb⟩
  have B : Below w.heap.size w w2 := Below.trans (by repeat' (first | with_reducible exact Below.refl _ _ | with_reducible assumption | with_reducible apply below_drewN | with_reducible apply Below.drew | with_reducible refine Below.setCell ?_ ?_ _ | with_reducible refine Below.alloc ?_ ?_ _ | omega | (simp; done) | (simp; omega))) (hb.mono (by first | omega | (simp; done) | (simp; omega))); have Bz := B.size
  obtain ⟨k1, k2, k3, k4⟩ := keepB hb w1.heap.size (by first | omega | (simp; done) | (simp; omega))
  clear hb
  rw [X3.out]
  go_wp2_with fail
  refine (takes_any ⟨1, 4096, 9⟩ ⟨1, 4096, 8195, 21507⟩ _ (u64_lit 4096 rfl) (u64_lit 8195 rfl) (u64_lit 21507 rfl)).mono ?_
  rintro e w3 ⟨rfl, hb⟩
  have B : Below w.heap.size w w3 := Below.trans (by repeat' (first | with_reducible exact Below.refl _ _ | with_reducible assumption | with_reducible apply below_drewN | with_reducible apply Below.drew | with_reducible refine Below.setCell ?_ ?_ _ | with_reducible refine Below.alloc ?_ ?_ _ | omega | (simp; done) | (simp; omega))) (hb.mono (by first | omega | (simp; done) | (simp; omega))); have Bz := B.size
  clear hb
  rw [X4.out]
  go_wp2_with fail
  go_ret
  exact ⟨rfl, by repeat' (first | with_reducible exact Below.refl _ _ | with_reducible assumption | with_reducible apply below_drewN | with_reducible apply Below.drew | with_reducible refine Below.setCell ?_ ?_ _ | with_reducible refine Below.alloc ?_ ?_ _ | omega | (simp; done) | (simp; omega))⟩

end Go.Proofs.Ytcaggboeacgknaa
