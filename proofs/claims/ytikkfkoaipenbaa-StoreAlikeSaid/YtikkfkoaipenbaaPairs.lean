/- Plain lists of pairs, rising by their first parts. -/
import Derived.Test.YtikkfkoaipenbaaPlain
namespace Go.Proofs.Ytikkfkoaipenbaa

def Sorted (L : List (Int × Int)) : Prop := L.Pairwise fun a b => a.1 < b.1
/-- How many are below a number. -/
def posL (L : List (Int × Int)) (k : Int) : Nat := (L.takeWhile fun p => decide (p.1 < k)).length
/-- Is a number there? -/
def hasL (L : List (Int × Int)) (k : Int) : Bool := L.any fun p => p.1 == k

theorem posL_le (L : List (Int × Int)) (k : Int) : posL L k ≤ L.length := by
  unfold posL
  exact List.Sublist.length_le (List.takeWhile_sublist _)

theorem pos_iff : ∀ (L : List (Int × Int)) (k : Int), Sorted L → ∀ j (h : j < L.length), (L[j].1 < k ↔ j < posL L k)
  | [], _, _, j, h => by simp at h
  | a :: L, k, hs, j, h => by
    unfold posL
    obtain ⟨h1, h2⟩ := List.pairwise_cons.1 hs
    by_cases ha : a.1 < k
    · rw [List.takeWhile_cons_of_pos (by simpa using ha), List.length_cons]
      cases j with
      | zero => simp [ha]
      | succ j =>
        have := pos_iff L k h2 j (by simpa using h)
        unfold posL at this
        simp only [List.getElem_cons_succ]
        rw [this]
        omega
    · rw [List.takeWhile_cons_of_neg (by simpa using ha)]
      constructor
      · intro hj
        exfalso
        cases j with
        | zero => exact ha hj
        | succ j =>
          have hj2 : j < L.length := by simpa using h
          have := h1 (L[j]) (List.getElem_mem hj2)
          simp only [List.getElem_cons_succ] at hj
          omega
      · intro hj
        simp at hj

theorem has_iff (L : List (Int × Int)) (k : Int) (hs : Sorted L) : hasL L k = true ↔ ∃ h : posL L k < L.length, L[posL L k].1 = k := by
  unfold hasL
  rw [List.any_eq_true]
  constructor
  · rintro ⟨p, hp, hk⟩
    obtain ⟨j, hj, rfl⟩ := List.getElem_of_mem hp
    have hk' : L[j].1 = k := by simpa using hk
    have h1 : ¬ j < posL L k := by rw [← pos_iff L k hs j hj]; omega
    have h2 : posL L k = j := by
      rcases Nat.lt_or_ge (posL L k) j with h | h
      · exfalso
        have hlt : L[posL L k].1 < L[j].1 := List.pairwise_iff_getElem.1 hs _ _ (by omega) hj h
        have := (pos_iff L k hs (posL L k) (by omega)).1 (by omega)
        omega
      · omega
    subst h2
    exact ⟨hj, hk'⟩
  · rintro ⟨h, hk⟩
    exact ⟨_, List.getElem_mem h, by simpa using hk⟩

/-- What a number has; 0: nothing. -/
def getL (L : List (Int × Int)) (k : Int) : Int := if hasL L k = true then (L.getD (posL L k) (0, 0)).2 else 0

/-- A map in which a number has a thing. -/
def withL (L : List (Int × Int)) (k v : Int) : List (Int × Int) := L.take (posL L k) ++ (k, v) :: L.drop (if hasL L k = true then posL L k + 1 else posL L k)

/-- A map in which a number has nothing. -/
def withoutL (L : List (Int × Int)) (k : Int) : List (Int × Int) := if hasL L k = true then L.take (posL L k) ++ L.drop (posL L k + 1) else L

end Go.Proofs.Ytikkfkoaipenbaa
