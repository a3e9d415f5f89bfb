/- Sorted lists of pairs: what With, Without and a write leave. -/
import Derived.Test.YtikkfkoaipenbaaPairs
namespace Go.Proofs.Ytikkfkoaipenbaa

theorem posL_nil (k : Int) : posL [] k = 0 := rfl
theorem hasL_nil (k : Int) : hasL [] k = false := rfl
theorem posL_cons (a : Int × Int) (L : List (Int × Int)) (k : Int) : posL (a :: L) k = if a.1 < k then posL L k + 1 else 0 := by
  unfold posL
  rw [List.takeWhile_cons]
  by_cases h : a.1 < k
  · simp [h]
  · simp [h]
theorem hasL_cons (a : Int × Int) (L : List (Int × Int)) (k : Int) : hasL (a :: L) k = (a.1 == k || hasL L k) := by
  unfold hasL
  rw [List.any_cons]

theorem has_mem (L : List (Int × Int)) (k : Int) : hasL L k = true ↔ ∃ v, (k, v) ∈ L := by
  unfold hasL
  rw [List.any_eq_true]
  constructor
  · rintro ⟨⟨a, v⟩, hp, h⟩
    have : a = k := by simpa using h
    subst this
    exact ⟨v, hp⟩
  · rintro ⟨v, h⟩
    exact ⟨_, h, by simp⟩

theorem has_big {a : Int × Int} {L : List (Int × Int)} {k : Int} (hs : Sorted (a :: L)) (h : k ≤ a.1) : hasL L k = false := by
  rw [Bool.eq_false_iff, ne_eq, has_mem]
  rintro ⟨v, hm⟩
  have := (List.pairwise_cons.1 hs).1 _ hm
  simp only at this
  omega

theorem withL_nil (k v : Int) : withL [] k v = [(k, v)] := rfl
theorem withL_cons {a : Int × Int} {L : List (Int × Int)} (hs : Sorted (a :: L)) (k v : Int) :
    withL (a :: L) k v = if a.1 < k then a :: withL L k v else if a.1 = k then (k, v) :: L else (k, v) :: a :: L := by
  unfold withL
  rw [posL_cons, hasL_cons]
  by_cases h : a.1 < k
  · have hne : (a.1 == k) = false := by simp; omega
    simp only [if_pos h, hne, Bool.false_or, List.take_succ_cons, List.cons_append]
    split <;> simp
  · simp only [if_neg h]
    by_cases h2 : a.1 = k
    · simp [h2]
    · have hf := has_big hs (k := k) (by omega)
      have hne : (a.1 == k) = false := by simpa using h2
      simp [hf, hne, h2]

theorem withoutL_nil (k : Int) : withoutL [] k = [] := rfl
theorem withoutL_cons {a : Int × Int} {L : List (Int × Int)} (hs : Sorted (a :: L)) (k : Int) :
    withoutL (a :: L) k = if a.1 < k then a :: withoutL L k else if a.1 = k then L else a :: L := by
  unfold withoutL
  rw [posL_cons, hasL_cons]
  by_cases h : a.1 < k
  · have hne : (a.1 == k) = false := by simp; omega
    simp only [if_pos h, hne, Bool.false_or]
    split <;> simp
  · simp only [if_neg h]
    by_cases h2 : a.1 = k
    · simp [h2]
    · have hf := has_big hs (k := k) (by omega)
      have hne : (a.1 == k) = false := by simpa using h2
      simp [hf, hne, h2]

theorem mem_with (L : List (Int × Int)) (hs : Sorted L) (k v : Int) (p : Int × Int) : p ∈ withL L k v ↔ p = (k, v) ∨ (p.1 ≠ k ∧ p ∈ L) := by
  induction L with
  | nil => simp [withL_nil]
  | cons a L ih =>
    have h2 := (List.pairwise_cons.1 hs).2
    have h1 := (List.pairwise_cons.1 hs).1
    rw [withL_cons hs]
    split
    · rename_i h
      rw [List.mem_cons, ih h2, List.mem_cons]
      constructor
      · rintro (rfl | rfl | ⟨x, y⟩)
        · exact .inr ⟨by omega, .inl rfl⟩
        · exact .inl rfl
        · exact .inr ⟨x, .inr y⟩
      · rintro (rfl | ⟨x, rfl | y⟩)
        · exact .inr (.inl rfl)
        · exact .inl rfl
        · exact .inr (.inr ⟨x, y⟩)
    · rename_i h
      split
      · rename_i h3
        rw [List.mem_cons, List.mem_cons]
        constructor
        · rintro (rfl | y)
          · exact .inl rfl
          · have := h1 p y
            exact .inr ⟨by omega, .inr y⟩
        · rintro (rfl | ⟨x, rfl | y⟩)
          · exact .inl rfl
          · exact absurd h3 x
          · exact .inr y
      · rename_i h3
        rw [List.mem_cons, List.mem_cons]
        constructor
        · rintro (rfl | rfl | y)
          · exact .inl rfl
          · exact .inr ⟨h3, .inl rfl⟩
          · have := h1 p y
            exact .inr ⟨by omega, .inr y⟩
        · rintro (rfl | ⟨x, rfl | y⟩)
          · exact .inl rfl
          · exact .inr (.inl rfl)
          · exact .inr (.inr y)

theorem mem_without (L : List (Int × Int)) (hs : Sorted L) (k : Int) (p : Int × Int) : p ∈ withoutL L k ↔ p.1 ≠ k ∧ p ∈ L := by
  induction L with
  | nil => simp [withoutL_nil]
  | cons a L ih =>
    have h2 := (List.pairwise_cons.1 hs).2
    have h1 := (List.pairwise_cons.1 hs).1
    rw [withoutL_cons hs]
    split
    · rename_i h
      rw [List.mem_cons, ih h2, List.mem_cons]
      constructor
      · rintro (rfl | ⟨x, y⟩)
        · exact ⟨by omega, .inl rfl⟩
        · exact ⟨x, .inr y⟩
      · rintro ⟨x, rfl | y⟩
        · exact .inl rfl
        · exact .inr ⟨x, y⟩
    · rename_i h
      split
      · rename_i h3
        rw [List.mem_cons]
        constructor
        · intro y
          have := h1 p y
          exact ⟨by omega, .inr y⟩
        · rintro ⟨x, rfl | y⟩
          · exact absurd h3 x
          · exact y
      · rename_i h3
        rw [List.mem_cons]
        constructor
        · rintro (rfl | y)
          · exact ⟨h3, .inl rfl⟩
          · have := h1 p y
            exact ⟨by omega, .inr y⟩
        · rintro ⟨x, y⟩
          exact y

theorem sorted_without {L : List (Int × Int)} (hs : Sorted L) (k : Int) : Sorted (withoutL L k) := by
  unfold withoutL
  split
  · unfold Sorted
    rw [← List.eraseIdx_eq_take_drop_succ]
    exact List.Pairwise.sublist (List.eraseIdx_sublist _ _) hs
  · exact hs

theorem sorted_with {L : List (Int × Int)} (hs : Sorted L) (k v : Int) : Sorted (withL L k v) := by
  induction L with
  | nil => exact List.pairwise_singleton _ _
  | cons a L ih =>
    have h2 := (List.pairwise_cons.1 hs).2
    have h1 := (List.pairwise_cons.1 hs).1
    rw [withL_cons hs]
    split
    · rename_i h
      refine List.pairwise_cons.2 ⟨?_, ih h2⟩
      intro p hp
      rcases (mem_with L h2 k v p).1 hp with rfl | ⟨_, y⟩
      · exact h
      · exact h1 p y
    · split
      · rename_i h3
        refine List.pairwise_cons.2 ⟨fun p hp => ?_, h2⟩
        have := h1 p hp
        simp only
        omega
      · rename_i h h3
        refine List.pairwise_cons.2 ⟨fun p hp => ?_, hs⟩
        rcases List.mem_cons.1 hp with rfl | y
        · simp only; omega
        · have := h1 p y
          simp only; omega

theorem len_with (L : List (Int × Int)) (k v : Int) : (withL L k v).length ≤ L.length + 1 := by
  have := posL_le L k
  unfold withL
  simp only [List.length_append, List.length_take, List.length_cons, List.length_drop]
  split <;> omega
theorem len_without (L : List (Int × Int)) (k : Int) : (withoutL L k).length ≤ L.length := by
  unfold withoutL
  split
  · simp only [List.length_append, List.length_take, List.length_drop]
    omega
  · exact Nat.le_refl _

/-- Two rising lists with the same things are one. -/
theorem sorted_ext : ∀ {L M : List (Int × Int)}, Sorted L → Sorted M → (∀ p, p ∈ L ↔ p ∈ M) → L = M
  | [], [], _, _, _ => rfl
  | [], b :: M, _, _, h => absurd ((h b).2 (by simp)) (by simp)
  | a :: L, [], _, _, h => absurd ((h a).1 (by simp)) (by simp)
  | a :: L, b :: M, hL, hM, h => by
    have a1 := (List.pairwise_cons.1 hL).1
    have b1 := (List.pairwise_cons.1 hM).1
    have hab : a = b := by
      rcases List.mem_cons.1 ((h a).1 (by simp)) with e | ha
      · exact e
      · rcases List.mem_cons.1 ((h b).2 (by simp)) with e | hb
        · exact e.symm
        · have x := a1 b hb
          have y := b1 a ha
          omega
    subst hab
    refine congrArg (a :: ·) (sorted_ext (List.pairwise_cons.1 hL).2 (List.pairwise_cons.1 hM).2 fun p => ?_)
    constructor
    · intro hp
      rcases List.mem_cons.1 ((h p).1 (List.mem_cons_of_mem _ hp)) with rfl | hq
      · exact absurd (a1 p hp) (by omega)
      · exact hq
    · intro hp
      rcases List.mem_cons.1 ((h p).2 (List.mem_cons_of_mem _ hp)) with rfl | hq
      · exact absurd (b1 p hp) (by omega)
      · exact hq

/-- A number has one thing. -/
theorem sorted_one {L : List (Int × Int)} (hs : Sorted L) {k v u : Int} (h1 : (k, v) ∈ L) (h2 : (k, u) ∈ L) : v = u := by
  induction L with
  | nil => simp at h1
  | cons a L ih =>
    have a1 := (List.pairwise_cons.1 hs).1
    rcases List.mem_cons.1 h1 with rfl | g1
    · rcases List.mem_cons.1 h2 with e | g2
      · exact (Prod.mk.inj e).2.symm
      · have := a1 _ g2
        simp only at this
        omega
    · rcases List.mem_cons.1 h2 with rfl | g2
      · have := a1 _ g1
        simp only at this
        omega
      · exact ih (List.pairwise_cons.1 hs).2 g1 g2

theorem get_mem {L : List (Int × Int)} (hs : Sorted L) {k v : Int} (h : (k, v) ∈ L) : getL L k = v := by
  have hh := (has_mem L k).2 ⟨v, h⟩
  obtain ⟨hp, hk⟩ := (has_iff L k hs).1 hh
  unfold getL
  rw [if_pos hh]
  have hm : (L[posL L k]) ∈ L := List.getElem_mem hp
  have : L.getD (posL L k) (0, 0) = L[posL L k] := by simp [hp]
  rw [this]
  have e : L[posL L k] = (k, L[posL L k].2) := Prod.ext hk rfl
  rw [e] at hm
  exact sorted_one hs hm h
theorem get_no {L : List (Int × Int)} {k : Int} (h : hasL L k = false) : getL L k = 0 := by
  unfold getL
  rw [if_neg (by simp [h])]

end Go.Proofs.Ytikkfkoaipenbaa
