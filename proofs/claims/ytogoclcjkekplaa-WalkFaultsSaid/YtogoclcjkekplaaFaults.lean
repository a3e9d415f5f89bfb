/- Faults by their words: plain Lean. -/
import Derived.Test.YtogoclcjkekplaaSyn
namespace Go.Proofs.Ytogoclcjkekplaa
open Go.RowKit

/-- The candidates, in the order in which they are tried. -/
def cnd (p : Nat) : Fa := ⟨(p / 6 : Nat) + 1, ((p % 6) / 2 : Nat), decide (p % 2 = 1)⟩
def rightF (f : Fa) : Bool := if f.kind = 1 ∨ f.kind = 2 then decide (f.level = 0) else decide (0 < f.level)
def matchB (w : Int) (p : Nat) : Bool := rightF (cnd p) && (synZ (cnd p) == w)
/-- The fault that has a word, and whether there is one. -/
def foF (w : Int) : Fa × Bool := match (List.range 30).find? (matchB w) with
  | some p => (cnd p, true)
  | none => (Fa.zero, false)

theorem fo_some {w : Int} {p : Nat} (hp : p < 30) (h : matchB w p = true) (hn : ∀ q, q < p → matchB w q = false) : foF w = (cnd p, true) := by
  have : (List.range 30).find? (matchB w) = some p := by
    rw [List.find?_range_eq_some]
    exact ⟨h, by simpa using hp, fun j hj => by simp [hn j hj]⟩
  unfold foF
  rw [this]
theorem fo_none {w : Int} (hn : ∀ q, q < 30 → matchB w q = false) : foF w = (Fa.zero, false) := by
  have : (List.range 30).find? (matchB w) = none := by
    rw [List.find?_range_eq_none]
    exact fun j hj => by simp [hn j hj]
  unfold foF
  rw [this]

/-- The right ones. -/
def rights : List Nat := (List.range 30).filter fun p => rightF (cnd p)
theorem rights_one : ∀ p, p < 30 → ∀ q, q < 30 → rightF (cnd p) = true → rightF (cnd q) = true → synZ (cnd p) = synZ (cnd q) → p = q := by decide +kernel
theorem rights_no0 : ∀ p, p < 30 → rightF (cnd p) = true → synZ (cnd p) ≠ 0 := by decide +kernel

/-- What has a right one's word is it. -/
theorem fo_right {p : Nat} (hp : p < 30) (hr : rightF (cnd p) = true) : foF (synZ (cnd p)) = (cnd p, true) := by
  refine fo_some hp (by simp [matchB, hr]) fun q hq => ?_
  rw [Bool.eq_false_iff]
  intro h
  simp only [matchB, Bool.and_eq_true, beq_iff_eq] at h
  have := rights_one q (by omega) p hp h.1 hr h.2
  omega
theorem fo_zero : foF 0 = (Fa.zero, false) := by
  refine fo_none fun q hq => ?_
  rw [Bool.eq_false_iff]
  intro h
  simp only [matchB, Bool.and_eq_true, beq_iff_eq] at h
  exact rights_no0 q hq h.1 h.2

/-- A walk's fault is none, or a right one. -/
theorem through_right (a b va : Int) (wr : Bool) : throughF a b va wr = Fa.zero ∨ ∃ p, p < 30 ∧ rightF (cnd p) = true ∧ throughF a b va wr = cnd p := by
  unfold throughF
  split
  · split
    · exact .inl rfl
    · rename_i h
      right
      have hk : allowZ (leafD a b) wr = 3 ∨ allowZ (leafD a b) wr = 4 ∨ allowZ (leafD a b) wr = 5 := by
        unfold allowZ at h ⊢
        split <;> first | (exact .inl rfl) | skip
        split <;> first | (exact .inr (.inl rfl)) | skip
        split <;> first | (exact .inr (.inr rfl)) | skip
        rename_i h1 h2 h3
        simp [h1, h2, h3] at h
      have hl : leafL a = 1 ∨ leafL a = 2 := by
        unfold leafL
        split
        · exact .inr rfl
        · exact .inl rfl
      rcases hk with hk | hk | hk <;> rcases hl with hl | hl <;> cases wr <;> rw [hk, hl]
      · exact ⟨14, by decide, by decide, by decide⟩
      · exact ⟨15, by decide, by decide, by decide⟩
      · exact ⟨16, by decide, by decide, by decide⟩
      · exact ⟨17, by decide, by decide, by decide⟩
      · exact ⟨20, by decide, by decide, by decide⟩
      · exact ⟨21, by decide, by decide, by decide⟩
      · exact ⟨22, by decide, by decide, by decide⟩
      · exact ⟨23, by decide, by decide, by decide⟩
      · exact ⟨26, by decide, by decide, by decide⟩
      · exact ⟨27, by decide, by decide, by decide⟩
      · exact ⟨28, by decide, by decide, by decide⟩
      · exact ⟨29, by decide, by decide, by decide⟩
  · rename_i h
    right
    unfold beforeF at h ⊢
    split at h
    · rename_i h1
      rw [if_pos h1]
      split at h
      · simp [Fa.zero] at h
      · rename_i h2
        rw [if_neg h2]
        cases wr
        · exact ⟨6, by decide, by decide, by decide⟩
        · exact ⟨7, by decide, by decide, by decide⟩
    · rename_i h1
      rw [if_neg h1]
      cases wr
      · exact ⟨0, by decide, by decide, by decide⟩
      · exact ⟨1, by decide, by decide, by decide⟩

end Go.Proofs.Ytogoclcjkekplaa
