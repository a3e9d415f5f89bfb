/- The reference's lists of writes: what they say, in plain Lean. -/
import Derived.Test.YtikkfkoaipenbaaPairsb
namespace Go.Proofs.Ytikkfkoaipenbaa

/-- The last thing of a number. -/
def lastL : List (Int × Int) → Int → Option Int
  | [], _ => none
  | p :: l, k => match lastL l k with
    | some v => some v
    | none => if p.1 = k then some p.2 else none

theorem lastL_append (l m : List (Int × Int)) (k : Int) : lastL (l ++ m) k = match lastL m k with | some v => some v | none => lastL l k := by
  induction l with
  | nil => simp only [List.nil_append, lastL]; cases lastL m k <;> rfl
  | cons p l ih =>
    simp only [List.cons_append, lastL, ih]
    cases lastL m k <;> rfl
theorem lastL_snoc (l : List (Int × Int)) (a v k : Int) : lastL (l ++ [(a, v)]) k = if a = k then some v else lastL l k := by
  rw [lastL_append]
  simp only [lastL]
  by_cases h : a = k
  · simp [h]
  · simp [h]
theorem lastL_drop (l : List (Int × Int)) (k : Int) (j : Nat) (h : j < l.length) (hn : lastL (l.drop (j + 1)) k = none) : lastL (l.drop j) k = if l[j].1 = k then some l[j].2 else none := by
  rw [List.drop_eq_getElem_cons h]
  simp only [lastL, hn]
theorem lastL_some (l : List (Int × Int)) (k v : Int) (j : Nat) (h : lastL (l.drop j) k = some v) : lastL l k = some v := by
  have e := lastL_append (l.take j) (l.drop j) k
  rw [List.take_append_drop, h] at e
  exact e
theorem lastL_mem (l : List (Int × Int)) (k v : Int) (h : lastL l k = some v) : (k, v) ∈ l := by
  induction l with
  | nil => simp [lastL] at h
  | cons p l ih =>
    simp only [lastL] at h
    cases e : lastL l k with
    | some u =>
      rw [e] at h
      simp only [Option.some.injEq] at h
      subst h
      exact List.mem_cons_of_mem _ (ih e)
    | none =>
      rw [e] at h
      simp only at h
      split at h
      · rename_i hk
        simp only [Option.some.injEq] at h
        subst h hk
        simp
      · cases h
theorem lastL_none (l : List (Int × Int)) (k : Int) : lastL l k = none ↔ ∀ p ∈ l, p.1 ≠ k := by
  induction l with
  | nil => simp [lastL]
  | cons p l ih =>
    simp only [lastL]
    cases e : lastL l k with
    | some u =>
      simp only [reduceCtorEq, false_iff]
      intro h
      have := ih.2 (fun q hq => h q (List.mem_cons_of_mem _ hq))
      rw [e] at this
      cases this
    | none =>
      have h1 := ih.1 e
      simp only
      by_cases hp : p.1 = k
      · rw [if_pos hp]
        simp only [reduceCtorEq, false_iff]
        intro h
        exact h p (by simp) hp
      · rw [if_neg hp]
        simp only [true_iff]
        intro q hq
        rcases List.mem_cons.1 hq with rfl | h
        · exact hp
        · exact h1 q h

def readL (l : List (Int × Int)) (k : Int) : Int := (lastL l k).getD 0

/-- A thing, put ahead of the first number that is not below it. -/
def insL (out : List (Int × Int)) (p : Int × Int) : List (Int × Int) := out.take (posL out p.1) ++ p :: out.drop (posL out p.1)
theorem insL_with (out : List (Int × Int)) (p : Int × Int) (h : hasL out p.1 = false) : insL out p = withL out p.1 p.2 := by
  unfold insL withL
  rw [if_neg (by simp [h])]
theorem len_ins (out : List (Int × Int)) (p : Int × Int) : (insL out p).length = out.length + 1 := by
  have := posL_le out p.1
  simp [insL]; omega

theorem pos_below (L : List (Int × Int)) (k : Int) : ∀ (j : Nat) (h : j < L.length), j < posL L k → L[j].1 < k := by
  induction L with
  | nil => intro j h; simp at h
  | cons a L ih =>
    intro j h hj
    rw [posL_cons] at hj
    split at hj
    · rename_i ha
      cases j with
      | zero => simpa using ha
      | succ j => simpa using ih j (by simpa using h) (by omega)
    · omega
theorem pos_at (L : List (Int × Int)) (k : Int) (h : posL L k < L.length) : ¬ L[posL L k].1 < k := by
  induction L with
  | nil => simp at h
  | cons a L ih =>
    by_cases ha : a.1 < k
    · have e : posL (a :: L) k = posL L k + 1 := by rw [posL_cons, if_pos ha]
      have h' : posL L k < L.length := by rw [e] at h; simpa using h
      have := ih h'
      simpa [e] using this
    · have e : posL (a :: L) k = 0 := by rw [posL_cons, if_neg ha]
      simpa [e] using ha

/-- One write, taken into what holds something. -/
def cellStep (l out : List (Int × Int)) (p : Int × Int) : List (Int × Int) := if readL l p.1 = 0 ∨ hasL out p.1 = true then out else insL out (p.1, readL l p.1)
def cellsL (l : List (Int × Int)) : List (Int × Int) := l.foldl (cellStep l) []

theorem cellStep_props (l : List (Int × Int)) (out : List (Int × Int)) (p : Int × Int) (hs : Sorted out) :
    Sorted (cellStep l out p) ∧ (cellStep l out p).length ≤ out.length + 1 := by
  unfold cellStep
  split
  · exact ⟨hs, by omega⟩
  · rename_i h
    have hf : hasL out p.1 = false := by
      cases e : hasL out p.1
      · rfl
      · exact absurd (.inr e) h
    rw [insL_with out (p.1, readL l p.1) hf]
    exact ⟨sorted_with hs _ _, len_with _ _ _⟩

theorem cellsL_gen (l : List (Int × Int)) : ∀ (m out : List (Int × Int)), Sorted out → (∀ q ∈ out, q.2 ≠ 0 ∧ readL l q.1 = q.2) →
    Sorted (m.foldl (cellStep l) out) ∧ (m.foldl (cellStep l) out).length ≤ out.length + m.length ∧
    ∀ q, q ∈ m.foldl (cellStep l) out ↔ q ∈ out ∨ (q.2 ≠ 0 ∧ readL l q.1 = q.2 ∧ ∃ p ∈ m, p.1 = q.1)
  | [], out, hs, _ => ⟨hs, by simp, fun q => by simp⟩
  | p :: m, out, hs, ho => by
    have hp := cellStep_props l out p hs
    have hmem : ∀ q, q ∈ cellStep l out p ↔ q ∈ out ∨ (q.2 ≠ 0 ∧ readL l q.1 = q.2 ∧ p.1 = q.1) := by
      intro q
      unfold cellStep
      split
      · rename_i h
        constructor
        · exact .inl
        · rintro (h1 | ⟨h1, h2, h3⟩)
          · exact h1
          · rcases h with h | h
            · rw [h3, h2] at h
              exact absurd h h1
            · obtain ⟨v, hv⟩ := (has_mem out p.1).1 h
              have := ho _ hv
              simp only at this
              rw [h3, h2] at this
              have hq : q = (p.1, v) := Prod.ext h3.symm this.2
              rw [hq]
              exact hv
      · rename_i h
        have hf : hasL out p.1 = false := by
          cases e : hasL out p.1
          · rfl
          · exact absurd (.inr e) h
        have hz : readL l p.1 ≠ 0 := fun e => h (.inl e)
        rw [insL_with out (p.1, readL l p.1) hf, mem_with out hs]
        constructor
        · rintro (rfl | ⟨_, h1⟩)
          · exact .inr ⟨hz, rfl, rfl⟩
          · exact .inl h1
        · rintro (h1 | ⟨h1, h2, h3⟩)
          · right
            refine ⟨fun e => ?_, h1⟩
            have : hasL out p.1 = true := (has_mem out p.1).2 ⟨q.2, by
              have : q = (p.1, q.2) := Prod.ext e rfl
              rwa [← this]⟩
            rw [hf] at this
            cases this
          · left
            exact Prod.ext h3.symm (by simp only; rw [h3, h2])
    have hgen := cellsL_gen l m (cellStep l out p) hp.1 (fun q hq => by
      rcases (hmem q).1 hq with h1 | ⟨h1, h2, _⟩
      · exact ho q h1
      · exact ⟨h1, h2⟩)
    refine ⟨hgen.1, ?_, ?_⟩
    · have := hgen.2.1
      simp only [List.foldl_cons, List.length_cons]
      omega
    · intro q
      rw [List.foldl_cons, hgen.2.2 q, hmem q]
      constructor
      · rintro ((h1 | ⟨h1, h2, h3⟩) | ⟨h1, h2, p', h3, h4⟩)
        · exact .inl h1
        · exact .inr ⟨h1, h2, p, by simp, h3⟩
        · exact .inr ⟨h1, h2, p', by simp [h3], h4⟩
      · rintro (h1 | ⟨h1, h2, p', h3, h4⟩)
        · exact .inl (.inl h1)
        · rcases List.mem_cons.1 h3 with rfl | h5
          · exact .inl (.inr ⟨h1, h2, h4⟩)
          · exact .inr ⟨h1, h2, p', h5, h4⟩

theorem cellsL_sorted (l : List (Int × Int)) : Sorted (cellsL l) := (cellsL_gen l l [] List.Pairwise.nil (by simp)).1
theorem cellsL_len (l : List (Int × Int)) : (cellsL l).length ≤ l.length := by
  have := (cellsL_gen l l [] List.Pairwise.nil (by simp)).2.1
  unfold cellsL
  simpa using this
theorem cellsL_mem (l : List (Int × Int)) (q : Int × Int) : q ∈ cellsL l ↔ q.2 ≠ 0 ∧ lastL l q.1 = some q.2 := by
  rw [cellsL, (cellsL_gen l l [] List.Pairwise.nil (by simp)).2.2 q]
  simp only [List.not_mem_nil, false_or]
  constructor
  · rintro ⟨h1, h2, p, h3, h4⟩
    refine ⟨h1, ?_⟩
    unfold readL at h2
    cases e : lastL l q.1 with
    | none => exact absurd h4 ((lastL_none l q.1).1 e p h3)
    | some u => rw [e] at h2; simp only [Option.getD_some] at h2; rw [h2]
  · rintro ⟨h1, h2⟩
    exact ⟨h1, by unfold readL; rw [h2]; rfl, _, lastL_mem l _ _ h2, rfl⟩

/-- What is read is what the cells say. -/
theorem cellsL_read (l : List (Int × Int)) (a : Int) : getL (cellsL l) a = readL l a := by
  unfold readL
  cases e : lastL l a with
  | none =>
    refine get_no ?_
    rw [Bool.eq_false_iff, ne_eq, has_mem]
    rintro ⟨v, hv⟩
    have := ((cellsL_mem l _).1 hv).2
    simp only at this
    rw [e] at this
    cases this
  | some v =>
    by_cases hv : v = 0
    · subst hv
      refine get_no ?_
      rw [Bool.eq_false_iff, ne_eq, has_mem]
      rintro ⟨u, hu⟩
      have := (cellsL_mem l _).1 hu
      simp only at this
      rw [e] at this
      simp only [Option.some.injEq] at this
      exact this.1 this.2.symm
    · exact get_mem (cellsL_sorted l) ((cellsL_mem l (a, v)).2 ⟨hv, e⟩)

/-- A write, taken into the cells. -/
theorem cellsL_snoc (l : List (Int × Int)) (a v : Int) : cellsL (l ++ [(a, v)]) = if v = 0 then withoutL (cellsL l) a else withL (cellsL l) a v := by
  by_cases hv : v = 0
  · rw [if_pos hv]
    refine sorted_ext (cellsL_sorted _) (sorted_without (cellsL_sorted l) a) fun p => ?_
    rw [mem_without _ (cellsL_sorted l), cellsL_mem, cellsL_mem, lastL_snoc]
    by_cases ha : a = p.1
    · simp only [ha, if_true, Option.some.injEq]
      constructor
      · rintro ⟨h1, h2⟩; exact absurd (by rw [← h2]; exact hv) h1
      · rintro ⟨h1, _⟩; exact absurd rfl h1
    · rw [if_neg ha]
      constructor
      · rintro ⟨h1, h2⟩; exact ⟨fun e => ha e.symm, h1, h2⟩
      · rintro ⟨_, h1, h2⟩; exact ⟨h1, h2⟩
  · rw [if_neg hv]
    refine sorted_ext (cellsL_sorted _) (sorted_with (cellsL_sorted l) a v) fun p => ?_
    rw [mem_with _ (cellsL_sorted l), cellsL_mem, cellsL_mem, lastL_snoc]
    by_cases ha : a = p.1
    · simp only [ha, if_true, Option.some.injEq]
      constructor
      · rintro ⟨_, h2⟩; exact .inl (Prod.ext rfl h2.symm)
      · rintro (h1 | ⟨h1, _⟩)
        · have := congrArg Prod.snd h1
          simp only at this
          exact ⟨by rw [this]; exact hv, this.symm⟩
        · exact absurd rfl h1
    · rw [if_neg ha]
      constructor
      · rintro ⟨h1, h2⟩; exact .inr ⟨fun e => ha e.symm, h1, h2⟩
      · rintro (h1 | ⟨_, h1, h2⟩)
        · exact absurd (congrArg Prod.fst h1).symm ha
        · exact ⟨h1, h2⟩

end Go.Proofs.Ytikkfkoaipenbaa
