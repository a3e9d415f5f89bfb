/- Plainly: of entries that were filled no two meet just if no access goes by two. -/
import Derived.Test.YtcaggboeacgknaaSorts
namespace Go.Proofs.Ytcaggboeacgknaa
open Go.RowKit
set_option linter.unusedSimpArgs false
set_option linter.unusedVariables false

/-- May an access go by either of two? -/
def meetB (x y : E) : Bool :=
  if (!decide (x.space = y.space) && (ownB x && ownB y)) = true then false else downZ x.page (max (bitsZ x) (bitsZ y)) == downZ y.page (max (bitsZ x) (bitsZ y))
/-- No two meet. -/
def SingleP (L : List E) : Prop := ∀ (i j : Nat) (hj : j < i) (hi : i < L.length), meetB L[i] L[j] = false
/-- No access goes by two. -/
def SingleR (L : List E) : Prop := ∀ (i k : Nat) (hi : i < L.length) (hk : k < L.length), (L.filter fun x => servesB x L[i].space L[k].page).length ≤ 1
/-- An entry's page is as its size says. -/
def Filled (x : E) : Prop := downZ x.page (bitsZ x) = x.page

theorem bits_two (x : E) : bitsZ x = 21 ∨ bitsZ x = 12 := by
  unfold bitsZ
  split
  · exact .inl rfl
  · exact .inr rfl
theorem downZ_12 (a : Int) : downZ a 12 = a / 4096 * 4096 := by
  unfold downZ
  rw [if_neg (by decide), if_neg (by decide)]
  rfl
theorem downZ_21 (a : Int) : downZ a 21 = a / 2097152 * 2097152 := by
  unfold downZ
  rw [if_neg (by decide), if_neg (by decide)]
  rfl
theorem down_down (a : Int) (x : E) : downZ (downZ a (bitsZ x)) (bitsZ x) = downZ a (bitsZ x) := by
  rcases bits_two x with h | h
  · rw [h]; simp only [downZ_21]; omega
  · rw [h]; simp only [downZ_12]; omega
theorem down_max_left (a : Int) (x y : E) : downZ (downZ a (bitsZ x)) (max (bitsZ x) (bitsZ y)) = downZ a (max (bitsZ x) (bitsZ y)) := by
  rcases bits_two x with h | h <;> rcases bits_two y with k | k <;> rw [h, k]
  · rw [show max (21 : Int) 21 = 21 from rfl]; simp only [downZ_21]; omega
  · rw [show max (21 : Int) 12 = 21 from rfl]; simp only [downZ_21]; omega
  · rw [show max (12 : Int) 21 = 21 from rfl]; simp only [downZ_21, downZ_12]; omega
  · rw [show max (12 : Int) 12 = 12 from rfl]; simp only [downZ_12]; omega
theorem meet_comm (x y : E) : meetB x y = meetB y x := by
  unfold meetB
  rw [Int.max_comm (bitsZ x) (bitsZ y), Bool.and_comm (ownB x) (ownB y), show decide (x.space = y.space) = decide (y.space = x.space) from decide_eq_decide.2 eq_comm]
  split
  · rfl
  · rw [Bool.eq_iff_iff, beq_iff_eq, beq_iff_eq]
    exact eq_comm

theorem meet_of_serves {x y : E} {s a : Int} (hx : servesB x s a = true) (hy : servesB y s a = true) : meetB x y = true := by
  unfold servesB coversB at hx hy
  simp only [Bool.and_eq_true, Bool.or_eq_true, beq_iff_eq, Bool.not_eq_true'] at hx hy
  unfold meetB
  rw [if_neg, beq_iff_eq, ← hx.1, ← hy.1, down_max_left, Int.max_comm, down_max_left, Int.max_comm]
  simp only [Bool.and_eq_true, Bool.not_eq_true', decide_eq_false_iff_not, not_and]
  intro hs ox
  rcases hx.2 with h | h
  · rcases hy.2 with k | k
    · exact absurd (h.trans k.symm) hs
    · rw [k]; decide
  · rw [h] at ox; cases ox

theorem serves_of_meet {x y : E} (fx : Filled x) (fy : Filled y) (h : meetB x y = true) : ∃ s a, (s = x.space ∨ s = y.space) ∧ (a = x.page ∨ a = y.page) ∧ servesB x s a = true ∧ servesB y s a = true := by
  unfold Filled at fx fy
  unfold meetB at h
  split at h
  · cases h
  rename_i ho
  rw [beq_iff_eq] at h
  have hs : ∃ s, (s = x.space ∨ s = y.space) ∧ (x.space = s ∨ ownB x = false) ∧ (y.space = s ∨ ownB y = false) := by
    cases ox : ownB x
    · exact ⟨y.space, .inr rfl, .inr rfl, .inl rfl⟩
    · cases oy : ownB y
      · exact ⟨x.space, .inl rfl, .inl rfl, .inr rfl⟩
      · refine ⟨x.space, .inl rfl, .inl rfl, .inl ?_⟩
        rw [ox, oy] at ho
        simp at ho
        exact ho.symm
  have ha : ∃ a, (a = x.page ∨ a = y.page) ∧ downZ a (bitsZ x) = x.page ∧ downZ a (bitsZ y) = y.page := by
    rcases bits_two x with hx | hx <;> rcases bits_two y with hy | hy <;> rw [hx] at fx h <;> rw [hy] at fy h <;> rw [hx, hy]
    · exact ⟨x.page, .inl rfl, fx, by rw [show max (21 : Int) 21 = 21 from rfl] at h; rw [h, fy]⟩
    · exact ⟨y.page, .inr rfl, by rw [show max (21 : Int) 12 = 21 from rfl] at h; rw [← h, fx], fy⟩
    · exact ⟨x.page, .inl rfl, fx, by rw [show max (12 : Int) 21 = 21 from rfl] at h; rw [h, fy]⟩
    · exact ⟨x.page, .inl rfl, fx, by rw [show max (12 : Int) 12 = 12 from rfl] at h; rw [h, fy]⟩
  obtain ⟨s, h1, h2, h3⟩ := hs
  obtain ⟨a, k1, k2, k3⟩ := ha
  refine ⟨s, a, h1, k1, ?_, ?_⟩
  · unfold servesB coversB
    rw [k2, beq_self_eq_true, Bool.true_and, Bool.or_eq_true, beq_iff_eq, Bool.not_eq_true']
    exact h2
  · unfold servesB coversB
    rw [k3, beq_self_eq_true, Bool.true_and, Bool.or_eq_true, beq_iff_eq, Bool.not_eq_true']
    exact h3

theorem sorted_ne {L : List E} (hs : SortedE L) {i j : Nat} (hj : j < i) (hi : i < L.length) : L[i] ≠ L[j] := by
  intro e
  have h := List.pairwise_iff_getElem.1 hs j i (by omega) hi hj
  rw [e, ltE_irrefl] at h
  cases h
theorem single_mem {L : List E} (hs : SortedE L) : SingleP L ↔ ∀ x ∈ L, ∀ y ∈ L, x ≠ y → meetB x y = false := by
  constructor
  · intro h x hx y hy hne
    obtain ⟨i, hi, rfl⟩ := List.getElem_of_mem hx
    obtain ⟨j, hj, rfl⟩ := List.getElem_of_mem hy
    rcases Nat.lt_trichotomy i j with k | k | k
    · rw [meet_comm]; exact h j i k hj
    · subst k; exact absurd rfl hne
    · exact h i j k hi
  · intro h i j hj hi
    exact h _ (List.getElem_mem hi) _ (List.getElem_mem _) (sorted_ne hs hj hi)
theorem two_of_mem {L : List E} {x y : E} (hx : x ∈ L) (hy : y ∈ L) (hne : x ≠ y) : 1 < L.length := by
  match L, hx, hy with
  | [z], hx, hy =>
    rw [List.mem_singleton] at hx hy
    exact absurd (hx.trans hy.symm) hne
  | _ :: _ :: _, _, _ => simp

theorem single_iff {L : List E} (hs : SortedE L) (hf : ∀ x ∈ L, Filled x) : SingleP L ↔ SingleR L := by
  rw [single_mem hs]
  constructor
  · intro h i k hi hk
    rcases Nat.lt_or_ge 1 (L.filter fun x => servesB x L[i].space L[k].page).length with h1 | h1
    · exfalso
      have hsf : SortedE (L.filter fun x => servesB x L[i].space L[k].page) := sorted_filter hs _
      generalize hM : (L.filter fun x => servesB x L[i].space L[k].page) = M at h1 hsf
      match M, h1, hsf, hM with
      | x :: y :: M, _, hsf, hM =>
        have hx : x ∈ L.filter fun x => servesB x L[i].space L[k].page := by rw [hM]; simp
        have hy : y ∈ L.filter fun x => servesB x L[i].space L[k].page := by rw [hM]; simp
        have hx := List.mem_filter.1 hx
        have hy := List.mem_filter.1 hy
        have hne : x ≠ y := by
          rintro rfl
          have := (List.pairwise_cons.1 hsf).1 x (by simp)
          rw [ltE_irrefl] at this
          cases this
        have := h x hx.1 y hy.1 hne
        rw [meet_of_serves hx.2 hy.2] at this
        cases this
    · exact h1
  · intro h x hx y hy hne
    cases hm : meetB x y
    · rfl
    · exfalso
      obtain ⟨s, a, h1, h2, h3, h4⟩ := serves_of_meet (hf x hx) (hf y hy) hm
      have hss : ∃ (i : Nat) (hi : i < L.length), L[i].space = s := by
        rcases h1 with rfl | rfl
        · obtain ⟨i, hi, e⟩ := List.getElem_of_mem hx
          exact ⟨i, hi, by rw [e]⟩
        · obtain ⟨i, hi, e⟩ := List.getElem_of_mem hy
          exact ⟨i, hi, by rw [e]⟩
      have haa : ∃ (k : Nat) (hk : k < L.length), L[k].page = a := by
        rcases h2 with rfl | rfl
        · obtain ⟨i, hi, e⟩ := List.getElem_of_mem hx
          exact ⟨i, hi, by rw [e]⟩
        · obtain ⟨i, hi, e⟩ := List.getElem_of_mem hy
          exact ⟨i, hi, by rw [e]⟩
      obtain ⟨i, hi, rfl⟩ := hss
      obtain ⟨k, hk, rfl⟩ := haa
      have h5 := h i k hi hk
      have h6 := two_of_mem (L := L.filter fun x => servesB x L[i].space L[k].page) (List.mem_filter.2 ⟨hx, h3⟩) (List.mem_filter.2 ⟨hy, h4⟩) hne
      omega

/-- What is filled is filled. -/
theorem fill_filled (s va f l : Int) (hk : keptB (leafD f l) = true) : Filled (fillE s va f l) := by
  have hb := kept_block f l hk
  unfold Filled fillE
  rw [if_pos hk]
  by_cases h1 : leafL f = 1
  · rw [if_pos h1]
    have : bitsZ ⟨s, downZ va 21, f, 0⟩ = 21 := by
      unfold bitsZ
      rw [if_pos]
      rw [hb, h1]
      rfl
    have h2 := down_down va ⟨s, downZ va 21, f, 0⟩
    rw [this] at h2 ⊢
    exact h2
  · rw [if_neg h1]
    have : bitsZ ⟨s, downZ va 12, f, l⟩ = 12 := by
      unfold bitsZ
      rw [if_neg]
      rw [hb, beq_iff_eq]
      exact h1
    have h2 := down_down va ⟨s, downZ va 12, f, l⟩
    rw [this] at h2 ⊢
    exact h2
theorem fill_ok (s va f l : Int) (hk : keptB (leafD f l) = true) (hs : I64 s) (hv : U64 va) (hf : U64 f) (hl : U64 l) : (fillE s va f l).ok := by
  unfold fillE
  rw [if_pos hk]
  split
  · exact ⟨hs, u64_downZ hv 21, hf, ⟨Int.le_refl 0, (by decide : (0 : Int) < 18446744073709551616)⟩⟩
  · exact ⟨hs, u64_downZ hv 12, hf, hl⟩

end Go.Proofs.Ytcaggboeacgknaa
