/- The statement of the top: words as arguments; Print of no instruction. -/
import Derived.Test.YtdlodacogldinaaRows
import Derived.Test.YtdlodacogldinaaArgs
import Derived.Test.YtdlodacogldinaaIsal
import Derived.Test.YtdlodacogldinaaIsae
import Derived.Test.YtdlodacogldinaaOwn
namespace Go.Proofs.Ytdlodacogldinaa
open Go.ChangeShapes Go.WideShapes Go.ChangeAt Go.RowKit
set_option linter.unusedSimpArgs false
set_option linter.unusedVariables false

theorem own : ownKnob Try.prog.godebug = none := by kernel_rfl
theorem laid : laidOutB Try.prog = true := by kernel_rfl

/-- Words, wherever they lie. -/
def At32 (w : World) (ao : Option Addr) (l : List Int) : Prop := (ao = none → l = []) ∧ ∀ ad, ao = some ad → ∀ (k : Nat) (h : k < l.length), w.cell? (ad.add k) = some (.int .u32 l[k])
theorem At32.below {w w' : World} {ao : Option Addr} {l : List Int} (h : At32 w ao l) (hb : Below w.heap.size w w') : At32 w' ao l := by
  refine ⟨h.1, fun ad e k hk => ?_⟩
  have := h.2 ad e k hk
  rw [hb.cell (cell_lt this)]
  exact this

section
variable {H : Type} {enc : TypeId × Value → H} {P : Program} {w : World} {base : Nat} {spare : Nat → Bool} {held : Bool}
theorem trod_u32 {t : TypeId} {fuel : Nat} {cs : List Value} {x : DataW H × List MemPlace} (ht : P.underlying t = some (.int .u32)) (h : DataW.trod enc P w base spare held fuel t cs = some x) : ∃ n, cs = [.int .u32 n] ∧ U32 n := by
  obtain ⟨n, rfl, _, hw⟩ := DataW.trod_int ht h
  refine ⟨n, rfl, ?_⟩
  simp [Lit.wf, IntKind.min, IntKind.max, IntKind.signed, IntKind.bits] at hw
  exact ⟨by omega, by omega⟩
end
section
variable {H : Type} {enc : TypeId × Value → H} {w : World} {base : Nat} {spare : Nat → Bool} {held : Bool}
theorem flat_map (l : List Int) : (l.map fun n => [Value.int .u32 n]).flatten = l.map fun n => Value.int .u32 n := by
  induction l with
  | nil => rfl
  | cons a l ih => rw [List.map_cons, List.flatten_cons, ih]; rfl
theorem flat_one (l : List Int) (k : Nat) (h : k < l.length) : (l.map fun n => [Value.int .u32 n]).flatten[k]? = some (.int .u32 l[k]) := by
  rw [flat_map]
  simp [h]
theorem arg_u32s {v : Value} {d : DataW H} {ps : List MemPlace} (h : DataW.Trod enc Try.prog w base spare held 22 v d ps) (hv : Value.okWide Try.prog w .any base 22 v) :
    ∃ (ao : Option Addr) (cap : Nat) (l : List Int), v = .slice ao l.length cap ∧ At32 w ao l ∧ (ao = none → cap = 0) ∧ ∀ p ∈ l, U32 p := by
  obtain ⟨_, _, _, rfl⟩ := okWide_slice Try.underlying22 hv
  obtain ⟨ao, cap, l, hvv, hR, hn, _, _, hc⟩ := open_recs (fun n : Int => [.int .u32 n]) U32 Try.underlying22 (show Try.prog.cellsOf 28 = 1 by kernel_rfl) (fun _ _ _ h => trod_u32 Try.underlying28 h) h rfl
  exact ⟨ao, cap, l, hvv, ⟨fun e => (hn e).1, fun ad e k hk => hc ad e k _ (flat_one l k hk)⟩, fun e => (hn e).2, hR⟩
end

theorem zero_wrong : errX X.zero = 30 := by
  unfold errX
  rw [if_neg]
  intro h
  unfold rightP at h
  rcases h with h | h | h | h | h | h | h | h | h | h | h | h | h | h | h | h | h | h | h | h | h | h | h
  all_goals exact absurd h.1 (by decide)
set_option maxRecDepth 100000 in
theorem print_zero (w : World) : Calls Try.prog 5 #[instrV X.zero] w (RetB (.string ⟨#[]⟩) w) := by
  have cX : Hid (∀ V, Calls Try.prog 6 #[.agg #[.int .i64 0, .int .i64 0, .int .i64 0, .int .i64 0, .int .i64 0, .int .i64 0]] V (RetB (.int .i64 30) V)) := Lib.hid fun V => by
    have := iright_any X.zero V
    rw [zero_wrong] at this
    exact this
  simp only [instrV, X.zero]
  go_enter Try.func5, Try.ntmps5
  go_wp2_with fail
  refine (cX.out _).mono ?_
  rintro e w1 ⟨rfl, hb⟩
  have B1 : Below w.heap.size w w1 := Below.trans (by repeat' (first | with_reducible exact Below.refl _ _ | with_reducible assumption | with_reducible apply below_drewN | with_reducible apply Below.drew | with_reducible refine Below.setCell ?_ ?_ _ | with_reducible refine Below.alloc ?_ ?_ _ | omega | (simp; done) | (simp; omega))) (hb.mono (by first | omega | (simp; done) | (simp; omega)))
  clear hb
  go_wp2_with fail
  go_ret
  exact ⟨rfl, B1⟩

end Go.Proofs.Ytdlodacogldinaa
