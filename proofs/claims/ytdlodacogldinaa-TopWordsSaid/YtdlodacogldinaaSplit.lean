/- Texts and their words, plainly: no program in sight. -/
import Derived.Test.YtdlodacogldinaaDec
import Derived.Lib.IndexAny
namespace Go.Proofs.Ytdlodacogldinaa
open Go.RowKit
set_option linter.unusedSimpArgs false
set_option linter.unusedVariables false

def sepC (c : UInt8) : Bool := c == 32 || c == 9 || c == 44 || c == 91 || c == 93
/-- A text's words: what lies between blanks, and the signs. -/
def wordsL : List UInt8 → List (List UInt8)
  | [] => []
  | c :: l =>
    if c == 32 || c == 9 then wordsL l else
    if c == 44 || c == 91 || c == 93 then [c] :: wordsL l else
    (c :: l.takeWhile (fun b => !sepC b)) :: wordsL (l.dropWhile (fun b => !sepC b))
termination_by l => l.length
decreasing_by
  · simp
  · simp
  · have := (List.dropWhile_sublist (fun b => !sepC b) (l := l)).length_le
    simp; omega

theorem wordsL_nil : wordsL [] = [] := by rw [wordsL]
theorem wordsL_blank (c : UInt8) (l : List UInt8) (h : (c == 32 || c == 9) = true) : wordsL (c :: l) = wordsL l := by rw [wordsL, if_pos h]
theorem wordsL_sign (c : UInt8) (l : List UInt8) (h0 : (c == 32 || c == 9) = false) (h : (c == 44 || c == 91 || c == 93) = true) : wordsL (c :: l) = [c] :: wordsL l := by
  rw [wordsL, if_neg (by rw [h0]; decide), if_pos h]
theorem wordsL_word (c : UInt8) (l : List UInt8) (h : sepC c = false) : wordsL (c :: l) = (c :: l.takeWhile (fun b => !sepC b)) :: wordsL (l.dropWhile (fun b => !sepC b)) := by
  unfold sepC at h
  simp only [Bool.or_eq_false_iff] at h
  rw [wordsL, if_neg (by simp [h]), if_neg (by simp [h])]

/-- No sign in it, and something. -/
def isWord (t : List UInt8) : Prop := t ≠ [] ∧ ∀ b ∈ t, sepC b = false
theorem takeW {t r : List UInt8} (h : ∀ b ∈ t, sepC b = false) (hr : r = [] ∨ ∃ c r', r = c :: r' ∧ sepC c = true) : (t ++ r).takeWhile (fun b => !sepC b) = t ∧ (t ++ r).dropWhile (fun b => !sepC b) = r := by
  induction t with
  | nil =>
    rcases hr with rfl | ⟨c, r', rfl, hc⟩
    · simp
    · simp [hc]
  | cons a t ih =>
    have := ih fun b hb => h b (by simp [hb])
    have ha := h a (by simp)
    simp only [List.cons_append, List.takeWhile_cons, List.dropWhile_cons, ha, Bool.not_false, if_true]
    exact ⟨by rw [this.1], this.2⟩
/-- A word at a text's head. -/
theorem wordsL_cons {t r : List UInt8} (h : isWord t) (hr : r = [] ∨ ∃ c r', r = c :: r' ∧ sepC c = true) : wordsL (t ++ r) = t :: wordsL r := by
  obtain ⟨h0, h1⟩ := h
  match t, h0 with
  | c :: t, _ =>
    obtain ⟨e1, e2⟩ := takeW (t := t) (r := r) (fun b hb => h1 b (by simp [hb])) hr
    rw [List.cons_append, wordsL_word c _ (h1 c (by simp)), e1, e2]

theorem indexAny_take : ∀ (l : List UInt8), Lib.indexAny l [32, 9, 44, 91, 93] = if l.dropWhile (fun b => !sepC b) = [] then -1 else ((l.takeWhile (fun b => !sepC b)).length : Int)
  | [] => rfl
  | c :: l => by
    have hc : ([32, 9, 44, 91, 93] : List UInt8).contains c = sepC c := by simp [List.contains, List.elem, sepC, Bool.or_assoc]; grind
    rw [Lib.indexAny, hc]
    cases h : sepC c
    · simp only [Bool.false_eq_true, if_false, List.dropWhile_cons, List.takeWhile_cons, h, Bool.not_false, if_true]
      rw [indexAny_take l]
      split
      · rfl
      · rename_i hne
        rw [if_neg (by simp)]
        simp
    · simp [List.dropWhile_cons, List.takeWhile_cons, h]

theorem split_at {a b L : List UInt8} (h : a ++ b = L) : L.take a.length = a ∧ L.drop a.length = b := by subst h; simp
/-- Behind so many bytes. -/
theorem words_drop_blank {l : List UInt8} {i : Nat} (hi : i < l.length) (h : (l[i] == 32 || l[i] == 9) = true) : wordsL (l.drop i) = wordsL (l.drop (i + 1)) := by
  rw [List.drop_eq_getElem_cons hi, wordsL_blank _ _ h]
theorem words_drop_sign {l : List UInt8} {i : Nat} (hi : i < l.length) (h0 : (l[i] == 32 || l[i] == 9) = false) (h : (l[i] == 44 || l[i] == 91 || l[i] == 93) = true) : wordsL (l.drop i) = [l[i]] :: wordsL (l.drop (i + 1)) := by
  rw [List.drop_eq_getElem_cons hi, wordsL_sign _ _ h0 h]
theorem words_drop_word {l : List UInt8} {i : Nat} (hi : i < l.length) (h : sepC l[i] = false) :
    ∃ n, 0 < n ∧ i + n ≤ l.length ∧ wordsL (l.drop i) = ((l.drop i).take n) :: wordsL (l.drop (i + n)) ∧ ((Lib.indexAny (l.drop i) [32, 9, 44, 91, 93] = (n : Int)) ∨ (Lib.indexAny (l.drop i) [32, 9, 44, 91, 93] = -1 ∧ n = l.length - i)) := by
  have e := List.drop_eq_getElem_cons hi
  have hlen : (l.drop i).length = l.length - i := by simp
  have hw := wordsL_word l[i] (l.drop (i + 1)) h
  rw [← e] at hw
  have htk : (l.drop i).takeWhile (fun b => !sepC b) = l[i] :: (l.drop (i + 1)).takeWhile (fun b => !sepC b) := by rw [e, List.takeWhile_cons, h]; rfl
  have hdk : (l.drop i).dropWhile (fun b => !sepC b) = (l.drop (i + 1)).dropWhile (fun b => !sepC b) := by rw [e, List.dropWhile_cons, h]; rfl
  have hall := List.takeWhile_append_dropWhile (p := fun b => !sepC b) (l := l.drop i)
  have hn0 : 0 < ((l.drop i).takeWhile (fun b => !sepC b)).length := by rw [htk]; simp
  have hsum := congrArg List.length hall
  rw [List.length_append, hlen] at hsum
  refine ⟨((l.drop i).takeWhile (fun b => !sepC b)).length, hn0, by omega, ?_, ?_⟩
  · rw [hw, ← htk, ← hdk]
    obtain ⟨h1, h2⟩ := split_at hall
    rw [List.drop_drop] at h2
    rw [h1, h2]
  · rw [indexAny_take]
    split
    · rename_i hd
      rw [hd] at hsum
      exact .inr ⟨rfl, by simpa using hsum⟩
    · exact .inl rfl

end Go.Proofs.Ytdlodacogldinaa
