/- Lists of entries, in order: plainly; the order's contracts. -/
import Derived.Test.YtcaggboeacgknaaTlbb
import Derived.Test.YtcaggboeacgknaaOwn
namespace Go.Proofs.Ytcaggboeacgknaa
open Go.RowKit
set_option linter.unusedSimpArgs false
set_option linter.unusedVariables false

def ordZ (a b : Int) : Int := if a < b then -1 else if b < a then 1 else 0
/-- The order of entries. -/
def cmpE (x y : E) : Int :=
  if x.space < y.space then -1 else if y.space < x.space then 1 else
  if x.page ≠ y.page then ordZ x.page y.page else if x.first ≠ y.first then ordZ x.first y.first else ordZ x.last y.last
def ltE (x y : E) : Bool := decide (cmpE x y < 0)

theorem ltE_iff {x y : E} : ltE x y = true ↔ (x.space < y.space ∨ (x.space = y.space ∧ (x.page < y.page ∨ (x.page = y.page ∧ (x.first < y.first ∨ (x.first = y.first ∧ x.last < y.last)))))) := by
  unfold ltE cmpE ordZ
  rw [decide_eq_true_iff]
  repeat' split
  all_goals omega
theorem cmp_zero {x y : E} : cmpE x y = 0 ↔ x = y := by
  obtain ⟨a, b, c, d⟩ := x
  obtain ⟨a', b', c', d'⟩ := y
  unfold cmpE ordZ
  simp only [E.mk.injEq]
  repeat' split
  all_goals omega
theorem ltE_trans {x y z : E} (h : ltE x y = true) (k : ltE y z = true) : ltE x z = true := by
  rw [ltE_iff] at *
  omega
theorem ltE_irrefl (x : E) : ltE x x = false := by
  rw [Bool.eq_false_iff, ne_eq, ltE_iff]
  omega
theorem ltE_total {x y : E} (h : ltE x y = false) (k : ¬ x = y) : ltE y x = true := by
  obtain ⟨a, b, c, d⟩ := x
  obtain ⟨a', b', c', d'⟩ := y
  rw [Bool.eq_false_iff, ne_eq, ltE_iff] at h
  rw [ltE_iff]
  simp only [E.mk.injEq] at *
  omega

/-- Rising, each once. -/
def SortedE (L : List E) : Prop := L.Pairwise fun x y => ltE x y = true
/-- How many come ahead of it. -/
def posE : List E → E → Nat
  | [], _ => 0
  | x :: L, e => if ltE x e = true then posE L e + 1 else 0
def hasE (L : List E) (e : E) : Bool := decide (e ∈ L)
theorem posE_le : ∀ (L : List E) (e : E), posE L e ≤ L.length
  | [], _ => Nat.le_refl _
  | x :: L, e => by
    unfold posE
    split
    · have := posE_le L e
      simp
      omega
    · simp
theorem posE_iff : ∀ (L : List E) (e : E), SortedE L → ∀ (j : Nat) (h : j < L.length), ltE L[j] e = true ↔ j < posE L e
  | x :: L, e, hs, 0, _ => by
    unfold posE
    split
    · rename_i h; simp [h]
    · rename_i h; simp [h]
  | x :: L, e, hs, j + 1, h => by
    unfold posE
    have hs' := List.pairwise_cons.1 hs
    split
    · rename_i hx
      have := posE_iff L e hs'.2 j (by simpa using h)
      simp only [List.getElem_cons_succ]
      rw [this]
      omega
    · rename_i hx
      simp only [List.getElem_cons_succ, Nat.not_lt_zero, iff_false]
      intro hl
      exact hx (ltE_trans (hs'.1 _ (List.getElem_mem (by simpa using h))) hl)
theorem hasE_iff {L : List E} {e : E} (hs : SortedE L) : hasE L e = true ↔ ∃ h : posE L e < L.length, L[posE L e] = e := by
  unfold hasE
  rw [decide_eq_true_iff]
  constructor
  · intro h
    obtain ⟨j, hj, rfl⟩ := List.getElem_of_mem h
    have h1 : ¬ j < posE L L[j] := by
      rw [← posE_iff L _ hs j hj, ltE_irrefl]
      simp
    have h2 : ¬ posE L L[j] < j := by
      intro h2
      have h3 : ltE L[posE L L[j]] L[j] = true := List.pairwise_iff_getElem.1 hs _ _ (by omega) hj h2
      rw [posE_iff L _ hs _ (by omega)] at h3
      omega
    have h4 : posE L L[j] = j := by omega
    exact ⟨by omega, by simp only [h4]⟩
  · rintro ⟨h, he⟩
    rw [← he]
    exact List.getElem_mem h

theorem order_any (a b : Int) (w : World) : Calls Try.prog 65 #[.int .u64 a, .int .u64 b] w (Ret (.int .i64 (ordZ a b)) w) := by
  by_cases h1 : a < b
  · go_enter Try.func65, Try.ntmps65
    go_wp2
    go_ret
    exact ⟨by simp [ordZ, h1], rfl⟩
  · by_cases h2 : b < a
    · go_enter Try.func65, Try.ntmps65
      go_wp2
      go_ret
      exact ⟨by simp [ordZ, h1, h2], rfl⟩
    · have HC : Hid (ordZ a b = 0) := Lib.hid (by simp [ordZ, h1, h2])
      go_enter Try.func65, Try.ntmps65
      go_wp2
      go_ret
      exact ⟨by rw [HC.out]; rfl, rfl⟩

theorem less_any (x y : E) (w : World) : Calls Try.prog 49 #[entV x, entV y] w (RetB (.int .i64 (cmpE x y)) w) := by
  have E0 : cmpE x y = cmpE x y := rfl
  obtain ⟨a, b, c, d⟩ := x
  obtain ⟨a', b', c', d'⟩ := y
  clear E0
  simp only [entV]
  by_cases h1 : a < a'
  · have HC : Hid (cmpE ⟨a, b, c, d⟩ ⟨a', b', c', d'⟩ = -1) := Lib.hid (by simp [cmpE, h1])
    go_enter Try.func49, Try.ntmps49
    go_wp2
    go_ret
    exact ⟨by rw [HC.out]; rfl, by repeat' (first | with_reducible exact Below.refl _ _ | with_reducible assumption | with_reducible apply below_drewN | with_reducible apply Below.drew | with_reducible refine Below.setCell ?_ ?_ _ | with_reducible refine Below.alloc ?_ ?_ _ | omega | (simp; done) | (simp; omega))⟩
  · by_cases h2 : a' < a
    · have HC : Hid (cmpE ⟨a, b, c, d⟩ ⟨a', b', c', d'⟩ = 1) := Lib.hid (by simp [cmpE, h1, h2])
      go_enter Try.func49, Try.ntmps49
      go_wp2
      go_ret
      exact ⟨by rw [HC.out]; rfl, by repeat' (first | with_reducible exact Below.refl _ _ | with_reducible assumption | with_reducible apply below_drewN | with_reducible apply Below.drew | with_reducible refine Below.setCell ?_ ?_ _ | with_reducible refine Below.alloc ?_ ?_ _ | omega | (simp; done) | (simp; omega))⟩
    · by_cases h3 : b = b'
      · subst h3
        by_cases h4 : c = c'
        · subst h4
          have HC : Hid (cmpE ⟨a, b, c, d⟩ ⟨a', b, c, d'⟩ = ordZ d d') := Lib.hid (by simp [cmpE, h1, h2])
          go_enter Try.func49, Try.ntmps49
          go_wp2_with (go_at_call 65; refine (order_any _ _ _).mono ?_; rintro e w' ⟨rfl, rfl⟩)
          go_ret
          exact ⟨by rw [HC.out]; rfl, by repeat' (first | with_reducible exact Below.refl _ _ | with_reducible assumption | with_reducible apply below_drewN | with_reducible apply Below.drew | with_reducible refine Below.setCell ?_ ?_ _ | with_reducible refine Below.alloc ?_ ?_ _ | omega | (simp; done) | (simp; omega))⟩
        · have HC : Hid (cmpE ⟨a, b, c, d⟩ ⟨a', b, c', d'⟩ = ordZ c c') := Lib.hid (by simp [cmpE, h1, h2, h4])
          have h5 : (c != c') = true := by simpa using h4
          go_enter Try.func49, Try.ntmps49
          go_wp2_with (go_at_call 65; refine (order_any _ _ _).mono ?_; rintro e w' ⟨rfl, rfl⟩)
          go_ret
          exact ⟨by rw [HC.out]; rfl, by repeat' (first | with_reducible exact Below.refl _ _ | with_reducible assumption | with_reducible apply below_drewN | with_reducible apply Below.drew | with_reducible refine Below.setCell ?_ ?_ _ | with_reducible refine Below.alloc ?_ ?_ _ | omega | (simp; done) | (simp; omega))⟩
      · have HC : Hid (cmpE ⟨a, b, c, d⟩ ⟨a', b', c', d'⟩ = ordZ b b') := Lib.hid (by simp [cmpE, h1, h2, h3])
        have h5 : (b != b') = true := by simpa using h3
        go_enter Try.func49, Try.ntmps49
        go_wp2_with (go_at_call 65; refine (order_any _ _ _).mono ?_; rintro e w' ⟨rfl, rfl⟩)
        go_ret
        exact ⟨by rw [HC.out]; rfl, by repeat' (first | with_reducible exact Below.refl _ _ | with_reducible assumption | with_reducible apply below_drewN | with_reducible apply Below.drew | with_reducible refine Below.setCell ?_ ?_ _ | with_reducible refine Below.alloc ?_ ?_ _ | omega | (simp; done) | (simp; omega))⟩

end Go.Proofs.Ytcaggboeacgknaa
