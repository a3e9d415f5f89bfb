/- From a walk that returns true, below which nothing turns, to the statement; arguments opened by their cells. Of whatever program. -/
import Derived.Test.YtdlodacogldinaaBase
import Derived.ProofKit
import Derived.OpenShut
import Derived.Deep.Slices
import Derived.Carry
namespace Go.Proofs.Ytdlodacogldinaa
set_option linter.unusedSimpArgs false
set_option linter.unusedVariables false
open Go.ChangeShapes Go.WideShapes Go.ChangeAt Go.RowKit

section
variable {H : Type} {enc : TypeId × Value → H} {P : Program}

/-- Every argument reads behind the call as it did. -/
theorem trodAll_below (hl : laidOutB P = true) {W W' : World} (hb : Below W.heap.size W W') : ∀ {ts : List TypeId} {vs : List Value} {ds : List (DataW H)} {ps : List MemPlace},
    (∀ t ∈ ts, P.readableRec t = true ∧ t < P.types.size) → DataW.TrodAll enc P W 0 (fun _ => true) true ts vs ds ps → (∀ x ∈ ps, x.block < W.heap.size) →
    DataW.TrodAll enc P W' 0 (fun b => decide (b < W.heap.size)) true ts vs ds ps
  | [], vs, ds, ps, _, h, _ => by
    obtain ⟨rfl, rfl, rfl⟩ := trodAll_nil h
    exact trodAll_mk0
  | t :: ts, vs, ds, ps, hr, h, hlt => by
    obtain ⟨v, vs', d, ds', p, q, rfl, rfl, rfl, h1, h2⟩ := trodAll_cons h
    exact trodAll_cons_mk (Below.trod hl (hr t (by simp)).1 (hr t (by simp)).2 h1 hb (fun x hx => hlt x (by simp [hx]))) (trodAll_below hl hb (fun t' h' => hr t' (by simp [h'])) h2 (fun x hx => hlt x (by simp [hx])))

/-- WHAT A LAW's ROW ASKS BEHIND THE CALL. -/
theorem post_law (hl : laidOutB P = true) {f : Func} {s : ChangeSpec} {W W' : World} {args : Array Value} {ds gs : List (DataW H)} {before : List MemPlace} {tb : TypeId}
    (hW : DataW.Whole enc P f.params.toList s.vars false W args.toList ds gs before) (hv : s.vars = [])
    (hr : f.params.toList.all (fun t => P.readableRec t && decide (t < P.types.size)) = true)
    (hres : f.resultTypes = #[tb]) (htb : P.underlying tb = some .bool)
    (hfn : s.fn H ds = { results := [.lit (.bool true)], args := ds }) (hb : Below W.heap.size W W') :
    s.post enc P f false true false false W args (.bool true) W' := by
  have hW0 := hW
  obtain ⟨p, q, hA, hV, rfl, _, _⟩ := hW
  rw [hv] at hV
  obtain ⟨rfl, rfl⟩ := trodVars_none hV
  have hlt : ∀ x ∈ p, x.block < W.heap.size := fun x hx => hW0.lt x (by simp [hx])
  have hrd : ∀ t ∈ f.params.toList, P.readableRec t = true ∧ t < P.types.size := fun t ht => by
    have := List.all_eq_true.1 hr t ht
    simpa using this
  refine ⟨ds, [], _, [], p, [], hW0, ?_, ?_, ?_, hb.frame _, fun h => by cases h⟩
  · rw [List.append_nil, hfn, hres]
    exact trodAll_mk1 (shut_bool htb true)
  · rw [List.append_nil, hfn]
    exact trodAll_below hl hb hrd hA hlt
  · rw [hv, List.append_nil, hfn]
    exact hV

variable {w : World} {base : Nat}

/-- A struct by value: its cells, each of its kind. -/
theorem agg_cells {t : TypeId} {fs : Array Field} {n : Nat} {ts : List TypeId} {v : Value} (hs : P.underlying t = some (.struct fs)) (hc : P.cellsOf t = n) (hts : P.cellTypes P.depth t = some ts) (hn : ts.length = n)
    (hv : Value.okWide P w .any base t v) : ∃ l : List Value, v = .agg l.toArray ∧ l.length = n ∧ ∀ (i : Nat) (u : TypeId), ts[i]? = some u → ∃ c : Value, l[i]? = some c ∧ Cell.okWide P w .any base u c := by
  simp only [Value.okWide, hs] at hv
  obtain ⟨cs, rfl, hsz, ts', hts', _, hall⟩ := hv
  rw [hts] at hts'
  obtain rfl := Option.some.inj hts'
  refine ⟨cs.toList, by simp, by rw [Array.length_toList, hsz, hc], fun i u hi => ?_⟩
  have hin : i < ts.length := (List.getElem?_eq_some_iff.1 hi).1
  have hic : i < cs.size := by omega
  obtain ⟨u', hu', hok⟩ := hall i cs[i] (by simp [hic])
  rw [Nat.mod_eq_of_lt hin, hi] at hu'
  obtain rfl := Option.some.inj hu'
  exact ⟨cs[i], by simp [hic], hok⟩

theorem cell_int {t : TypeId} {k : IntKind} {c : Value} (ht : P.underlying t = some (.int k)) (h : Cell.okWide P w .any base t c) : ∃ n, c = .int k n ∧ k.min ≤ n ∧ n ≤ k.max := by
  cases c <;> simp [Cell.okWide, Cell.ok, ht, IntKind.has] at h
  obtain ⟨rfl, h1, h2⟩ := h
  exact ⟨_, rfl, h1, h2⟩

theorem cell_u64 {t : TypeId} {c : Value} (ht : P.underlying t = some (.int .u64)) (h : Cell.okWide P w .any base t c) : ∃ n, c = .int .u64 n ∧ U64 n := by
  obtain ⟨n, rfl, h1, h2⟩ := cell_int ht h
  refine ⟨n, rfl, ?_, ?_⟩
  · simpa [IntKind.min, IntKind.signed] using h1
  · simp [IntKind.max, IntKind.signed, IntKind.bits] at h2; omega

theorem cell_i64 {t : TypeId} {c : Value} (ht : P.underlying t = some (.int .i64)) (h : Cell.okWide P w .any base t c) : ∃ n, c = .int .i64 n ∧ I64 n := by
  obtain ⟨n, rfl, h1, h2⟩ := cell_int ht h
  simp [IntKind.min, IntKind.max, IntKind.signed, IntKind.bits] at h1 h2
  exact ⟨n, rfl, by omega, by omega⟩

theorem cell_bool {t : TypeId} {c : Value} (ht : P.underlying t = some .bool) (h : Cell.okWide P w .any base t c) : ∃ b, c = .bool b := by
  cases c <;> simp [Cell.okWide, Cell.ok, ht] at h
  exact ⟨_, rfl⟩

theorem arg_u64 {t : TypeId} {c : Value} (ht : P.underlying t = some (.int .u64)) (h : Value.okWide P w .any base t c) : ∃ n, c = .int .u64 n ∧ U64 n := cell_u64 ht (by simpa [Value.okWide, ht] using h)
theorem arg_i64 {t : TypeId} {c : Value} (ht : P.underlying t = some (.int .i64)) (h : Value.okWide P w .any base t c) : ∃ n, c = .int .i64 n ∧ I64 n := cell_i64 ht (by simpa [Value.okWide, ht] using h)
theorem arg_bool {t : TypeId} {c : Value} (ht : P.underlying t = some .bool) (h : Value.okWide P w .any base t c) : ∃ b, c = .bool b := cell_bool ht (by simpa [Value.okWide, ht] using h)
end

end Go.Proofs.Ytdlodacogldinaa
