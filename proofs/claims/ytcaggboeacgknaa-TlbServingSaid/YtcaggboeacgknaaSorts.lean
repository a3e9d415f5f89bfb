/- With, Without, Drop of lists in order: plainly. -/
import Derived.Test.YtcaggboeacgknaaWout
import Derived.Test.YtcaggboeacgknaaFilt
namespace Go.Proofs.Ytcaggboeacgknaa
open Go.RowKit
set_option linter.unusedSimpArgs false
set_option linter.unusedVariables false

theorem sorted_nil : SortedE [] := List.Pairwise.nil
theorem sorted_filter {L : List E} (h : SortedE L) (p : E → Bool) : SortedE (L.filter p) := List.Pairwise.filter p h

theorem mem_take_lt {L : List E} {e x : E} (hx : x ∈ L.take (posE L e)) : ltE x e = true := by
  obtain ⟨j, hj, rfl⟩ := List.getElem_of_mem hx
  rw [List.length_take] at hj
  rw [List.getElem_take]
  exact posE_lt L e j (by omega) (by omega)
theorem mem_drop_ge {L : List E} {e x : E} (hs : SortedE L) (hx : x ∈ L.drop (posE L e)) : ltE x e = false := by
  obtain ⟨j, hj, rfl⟩ := List.getElem_of_mem hx
  rw [List.length_drop] at hj
  rw [List.getElem_drop]
  have := posE_iff L e hs (posE L e + j) (by omega)
  rw [Bool.eq_false_iff, ne_eq, this]
  omega
theorem mem_with {L : List E} {e x : E} : x ∈ withE L e ↔ x ∈ L ∨ x = e := by
  unfold withE
  split
  · rename_i h
    unfold hasE at h
    rw [decide_eq_true_iff] at h
    exact ⟨.inl, fun h2 => h2.elim id fun h3 => h3 ▸ h⟩
  · have h : x ∈ L ↔ x ∈ L.take (posE L e) ∨ x ∈ L.drop (posE L e) := by
      rw [← List.mem_append, List.take_append_drop]
    rw [List.mem_append, List.mem_cons, h]
    constructor
    · rintro (h | h | h)
      · exact .inl (.inl h)
      · exact .inr h
      · exact .inl (.inr h)
    · rintro ((h | h) | h)
      · exact .inl h
      · exact .inr (.inr h)
      · exact .inr (.inl h)
theorem sorted_with {L : List E} (h : SortedE L) (e : E) : SortedE (withE L e) := by
  unfold withE
  split
  · exact h
  · rename_i hn
    have h1 : SortedE (L.take (posE L e) ++ L.drop (posE L e)) := by rw [List.take_append_drop]; exact h
    have h2 := List.pairwise_append.1 h1
    refine List.pairwise_append.2 ⟨h2.1, List.pairwise_cons.2 ⟨?_, h2.2.1⟩, ?_⟩
    · intro x hx
      refine ltE_total (mem_drop_ge h hx) ?_
      rintro rfl
      exact hn (by unfold hasE; rw [decide_eq_true_iff]; exact List.mem_of_mem_drop hx)
    · intro x hx y hy
      rcases List.mem_cons.1 hy with rfl | hy
      · exact mem_take_lt hx
      · exact h2.2.2 x hx y hy
theorem len_withE (L : List E) (e : E) : (withE L e).length ≤ L.length + 1 := by
  unfold withE
  split
  · omega
  · exact Nat.le_of_eq (ins_len L _ e (posE_le L e))
theorem without_filter {L : List E} (h : SortedE L) (e : E) : withoutE L e = L.filter fun x => !decide (x = e) := by
  unfold withoutE
  split
  · rename_i hh
    obtain ⟨hk, he⟩ := (hasE_iff h).1 hh
    have hd : L.drop (posE L e) = e :: L.drop (posE L e + 1) := by rw [List.drop_eq_getElem_cons hk, he]
    have h1 : SortedE (L.take (posE L e) ++ L.drop (posE L e)) := by rw [List.take_append_drop]; exact h
    rw [hd] at h1
    have h2 := List.pairwise_append.1 h1
    have h3 := List.pairwise_cons.1 h2.2.1
    conv => rhs; rw [← List.take_append_drop (posE L e) L, hd]
    rw [List.filter_append, List.filter_cons]
    have ha : (L.take (posE L e)).filter (fun x => !decide (x = e)) = L.take (posE L e) := by
      rw [List.filter_eq_self]
      intro x hx
      have := mem_take_lt hx
      simp only [Bool.not_eq_true', decide_eq_false_iff_not]
      rintro rfl
      rw [ltE_irrefl] at this
      cases this
    have hb : (L.drop (posE L e + 1)).filter (fun x => !decide (x = e)) = L.drop (posE L e + 1) := by
      rw [List.filter_eq_self]
      intro x hx
      have := h3.1 x hx
      simp only [Bool.not_eq_true', decide_eq_false_iff_not]
      rintro rfl
      rw [ltE_irrefl] at this
      cases this
    rw [ha, hb]
    simp
  · rename_i hh
    symm
    rw [List.filter_eq_self]
    intro x hx
    simp only [Bool.not_eq_true', decide_eq_false_iff_not]
    rintro rfl
    exact hh (by unfold hasE; rw [decide_eq_true_iff]; exact hx)

end Go.Proofs.Ytcaggboeacgknaa
