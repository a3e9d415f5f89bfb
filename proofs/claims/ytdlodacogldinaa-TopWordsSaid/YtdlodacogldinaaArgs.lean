/- Arguments that are slices of records, opened. Of whatever program. -/
import Derived.Test.YtdlodacogldinaaRow
namespace Go.Proofs.Ytdlodacogldinaa
set_option linter.unusedSimpArgs false
set_option linter.unusedVariables false
open Go.ChangeShapes Go.WideShapes Go.RowKit

theorem list_choose {α β : Type} (f : β → α) (R : β → Prop) : ∀ (rs : List α), (∀ c ∈ rs, ∃ p, c = f p ∧ R p) → ∃ l : List β, rs = l.map f ∧ ∀ p ∈ l, R p
  | [], _ => ⟨[], rfl, by simp⟩
  | c :: rs, h => by
    obtain ⟨p, rfl, hp⟩ := h c (by simp)
    obtain ⟨l, rfl, hl⟩ := list_choose f R rs (fun c hc => h c (by simp [hc]))
    refine ⟨p :: l, rfl, fun q hq => ?_⟩
    rcases List.mem_cons.1 hq with rfl | h
    · exact hp
    · exact hl q h

/-- The cells of records of one size, laid flat. -/
theorem flat_at {α : Type} (size : Nat) : ∀ (rs : List (List α)), (∀ c ∈ rs, c.length = size) → ∀ (k : Nat) (u : α), rs.flatten[k]? = some u → ∃ i j, k = i * size + j ∧ ∃ h : i < rs.length, (rs[i])[j]? = some u
  | [], _, k, u, h => by simp at h
  | c :: rs, hs, k, u, h => by
    have hc := hs c (by simp)
    rw [List.flatten_cons, List.getElem?_append] at h
    split at h
    · exact ⟨0, k, by simp, by simp, by simpa using h⟩
    · rename_i hk
      obtain ⟨i, j, e, hi, hj⟩ := flat_at size rs (fun c hc => hs c (by simp [hc])) _ u h
      refine ⟨i + 1, j, by rw [Nat.add_mul]; omega, by simpa using hi, by simpa using hj⟩

section
variable {H : Type} {enc : TypeId × Value → H} {P : Program} {w : World} {base : Nat} {spare : Nat → Bool} {held : Bool}

theorem open_recs {t e : TypeId} {size : Nat} {β : Type} (f : β → List Value) (R : β → Prop) (ht : P.underlying t = some (.slice e)) (hc : P.cellsOf e = size)
    (hQ : ∀ n cs x, DataW.trod enc P w base spare held n e cs = some x → ∃ p, cs = f p ∧ R p) {v : Value} {d : DataW H} {ps : List MemPlace} (h : DataW.Trod enc P w base spare held t v d ps) (hv : v.cells = #[v]) :
    ∃ (ao : Option Addr) (cap : Nat) (l : List β), v = .slice ao l.length cap ∧ (∀ p ∈ l, R p) ∧ (ao = none → l = [] ∧ cap = 0) ∧ l.length ≤ cap ∧ cap ≤ maxLen ∧
      ∀ ad, ao = some ad → ∀ (k : Nat) (u : Value), (l.map f).flatten[k]? = some u → w.cell? (ad.add k) = some u := by
  obtain ⟨fuel, h⟩ := h
  rw [hv] at h
  rcases DataW.trod_slice ht h with ⟨h0, _⟩ | ⟨a, len, cap, elems, rest, n, _, hcs, _, hb, hl, hm, hlen, hel, _, _⟩
  · refine ⟨none, 0, [], by simpa using h0, by simp, fun _ => ⟨rfl, rfl⟩, by simp, by simp, fun ad e => by cases e⟩
  · have hx : ∀ i, i < len → ∃ cs, w.cells? base (a.add (i * size)) size = some cs ∧ ∃ p, cs = f p ∧ R p := by
      intro i hi
      have := hel i hi
      rw [hc, List.getElem?_eq_getElem (by omega)] at this
      obtain ⟨cs, h1, h2⟩ := Option.bind_eq_some_iff.1 this
      exact ⟨cs, h1, hQ _ _ _ h2⟩
    obtain ⟨D, hD⟩ := Go.Deep.choose_lt hx
    obtain ⟨l, hl', hR⟩ := list_choose f R ((List.range len).map D) (by
      intro c hc'
      obtain ⟨i, hi, rfl⟩ := List.mem_map.1 hc'
      exact (hD i (by simpa using hi)).2)
    have hll : l.length = len := by
      have := congrArg List.length hl'
      simpa using this.symm
    refine ⟨some a, cap, l, ?_, hR, (fun e => by cases e), by omega, hm, ?_⟩
    · rw [hll]
      simpa using hcs
    · rintro ad e k u hk
      cases e
      rw [← hl'] at hk
      obtain ⟨i, j, rfl, hi, hj⟩ := flat_at size ((List.range len).map D) (by
        intro c hc'
        obtain ⟨i, hi, rfl⟩ := List.mem_map.1 hc'
        exact (World.cells?_some (hD i (by simpa using hi)).1).2.1) k u hk
      simp only [List.getElem_map, List.getElem_range] at hj
      simp only [List.length_map, List.length_range] at hi
      obtain ⟨_, hsz, hcell⟩ := World.cells?_some (hD i hi).1
      have hjl : j < size := by rw [← hsz]; exact (List.getElem?_eq_some_iff.1 hj).1
      have := hcell j hjl
      rw [Go.Deep.add_add] at this
      rw [this]
      exact hj

theorem trod_u64 {t : TypeId} {fuel : Nat} {cs : List Value} {x : DataW H × List MemPlace} (ht : P.underlying t = some (.int .u64)) (h : DataW.trod enc P w base spare held fuel t cs = some x) : ∃ n, cs = [.int .u64 n] ∧ U64 n := by
  obtain ⟨n, rfl, _, hw⟩ := DataW.trod_int ht h
  refine ⟨n, rfl, ?_⟩
  simp [Lit.wf, IntKind.min, IntKind.max, IntKind.signed, IntKind.bits] at hw
  exact ⟨by omega, by omega⟩
theorem trod_i64 {t : TypeId} {fuel : Nat} {cs : List Value} {x : DataW H × List MemPlace} (ht : P.underlying t = some (.int .i64)) (h : DataW.trod enc P w base spare held fuel t cs = some x) : ∃ n, cs = [.int .i64 n] ∧ I64 n := by
  obtain ⟨n, rfl, _, hw⟩ := DataW.trod_int ht h
  refine ⟨n, rfl, ?_⟩
  simp [Lit.wf, IntKind.min, IntKind.max, IntKind.signed, IntKind.bits] at hw
  exact ⟨by omega, by omega⟩
end

end Go.Proofs.Ytdlodacogldinaa
