/- The store's cells and the reference's: in plain Lean. -/
import Derived.Test.YtikkfkoaipenbaaMemb
import Derived.Test.YtikkfkoaipenbaaRefo
namespace Go.Proofs.Ytikkfkoaipenbaa

theorem write_ref {L M : List (Int × Int)} (a v : Int) (h : L = cellsL M) (hl : L.length ≤ 256) : (writeL L a v).2 = (rwriteL M a v).2 ∧ (writeL L a v).1 = cellsL (rwriteL M a v).1 := by
  subst h
  unfold writeL rwriteL
  by_cases hc : chkZ a = 0
  · simp only [if_pos hc]
    by_cases hv : v = 0
    · have e : cellsL (M ++ [(a, v)]) = withoutL (cellsL M) a := by rw [cellsL_snoc, if_pos hv]
      have := len_without (cellsL M) a
      rw [if_pos hv, if_pos (by rw [e]; omega)]
      exact ⟨rfl, e.symm⟩
    · have e : cellsL (M ++ [(a, v)]) = withL (cellsL M) a v := by rw [cellsL_snoc, if_neg hv]
      rw [if_neg hv, e]
      split
      · exact ⟨rfl, e.symm⟩
      · exact ⟨rfl, rfl⟩
  · simp only [if_neg hc]
    exact ⟨trivial, trivial⟩

theorem of_ref : ∀ (l : List (Int × Int)) {L M : List (Int × Int)}, L = cellsL M → L.length ≤ 256 → (ofL L l).2 = (rofL M l).2 ∧ (ofL L l).1 = cellsL (rofL M l).1 ∧ (ofL L l).1.length ≤ 256 ∧ (rofL M l).1.length ≤ M.length + l.length
  | [], L, M, h, hl => ⟨rfl, h, hl, by simp [rofL]⟩
  | c :: l, L, M, h, hl => by
    obtain ⟨h1, h2⟩ := write_ref c.1 c.2 h hl
    simp only [ofL, rofL, ← h1]
    split
    · rename_i hz
      obtain ⟨g1, g2, g3, g4⟩ := of_ref l h2 (len_write hl c.1 c.2)
      refine ⟨g1, g2, g3, ?_⟩
      have := rwrite_len M c.1 c.2
      simp only [List.length_cons]
      omega
    · exact ⟨rfl, rfl, by simp, by simp⟩

theorem ofL_sorted (l : List (Int × Int)) : Sorted (ofL [] l).1 := by
  obtain ⟨_, h, _⟩ := of_ref l (L := []) (M := []) rfl (by simp)
  rw [h]
  exact cellsL_sorted _

end Go.Proofs.Ytikkfkoaipenbaa
