/- What a memory holds behind a write: in plain Lean. -/
import Derived.Test.YtogoclcjkekplaaMemb
namespace Go.Proofs.Ytogoclcjkekplaa

theorem write_mems {L : List (Int × Int)} {a v : Int} (hs : Sorted L) (hz : (writeL L a v).2 = 0) (p : Int × Int) : p ∈ (writeL L a v).1 ↔ (p = (a, v) ∧ v ≠ 0) ∨ (p.1 ≠ a ∧ p ∈ L) := by
  unfold writeL at hz ⊢
  split at hz
  · rename_i hc
    rw [if_pos hc]
    split at hz
    · rename_i hv
      rw [if_pos hv]
      simp only [mem_without L hs a p]
      constructor
      · exact .inr
      · rintro (⟨_, h⟩ | h)
        · exact absurd hv h
        · exact h
    · rename_i hv
      rw [if_neg hv]
      split at hz
      · rename_i hl
        rw [if_pos hl]
        simp only [mem_with L hs a v p]
        constructor
        · rintro (h | h)
          · exact .inl ⟨h, hv⟩
          · exact .inr h
        · rintro (⟨h, _⟩ | h)
          · exact .inl h
          · exact .inr h
      · simp at hz
  · rename_i hc
    exact absurd hz hc

theorem get_write {L : List (Int × Int)} {a v : Int} (hs : Sorted L) (hz : (writeL L a v).2 = 0) (k : Int) : getL (writeL L a v).1 k = if k = a then v else getL L k := by
  have hs' := sorted_write hs a v
  have hm := write_mems hs hz
  generalize (writeL L a v).1 = M at hs' hm
  by_cases hk : k = a
  · subst hk
    rw [if_pos rfl]
    by_cases hv : v = 0
    · subst hv
      refine get_no ?_
      rw [Bool.eq_false_iff, ne_eq, has_mem]
      rintro ⟨u, hu⟩
      rcases (hm _).1 hu with ⟨_, h⟩ | ⟨h, _⟩
      · exact h rfl
      · exact h rfl
    · exact get_mem hs' ((hm _).2 (.inl ⟨rfl, hv⟩))
  · rw [if_neg hk]
    cases h : hasL L k
    · rw [get_no h]
      refine get_no ?_
      rw [Bool.eq_false_iff, ne_eq, has_mem]
      rintro ⟨u, hu⟩
      rcases (hm _).1 hu with ⟨h', _⟩ | ⟨_, h'⟩
      · exact hk (congrArg Prod.fst h')
      · have := (has_mem L k).2 ⟨u, h'⟩
        rw [h] at this
        cases this
    · obtain ⟨u, hu⟩ := (has_mem L k).1 h
      rw [get_mem hs hu]
      exact get_mem hs' ((hm _).2 (.inr ⟨hk, hu⟩))

end Go.Proofs.Ytogoclcjkekplaa
