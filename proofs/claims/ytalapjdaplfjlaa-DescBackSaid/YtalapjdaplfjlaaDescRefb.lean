/- Contracts of the reference of layer 7: Right, Word. -/
import Derived.Test.YtalapjdaplfjlaaDescc
namespace Go.Proofs.Ytalapjdaplfjlaa
open Go.RowKit

theorem al12 (o : Int) : alignedB o 12 = (o % 4096 == 0) := by
  have e2 : (2 : Int) ^ (12 : Nat) = 4096 := rfl
  simp [alignedB, e2]
theorem al21 (o : Int) : alignedB o 21 = (o % 2097152 == 0) := by
  have e2 : (2 : Int) ^ (21 : Nat) = 2097152 := rfl
  simp [alignedB, e2]

set_option maxHeartbeats 4000000 in
theorem refRight_any (d : D) (level : Int) (w : World) (ho : U64 d.out) : Calls Try.prog 22 #[descV d, .int .i64 level] w (RetB (.bool (chkZ d level == 0)) w) := by
  obtain ⟨v, t, o, u, r, s, n⟩ := d
  obtain ⟨o0, o1⟩ := ho
  simp only at o0 o1
  have HO := Lib.hid o1
  clear o1
  simp only [descV]
  cases v
  · go_enter Try.func22, Try.ntmps22
    go_wp2
    all_goals
      go_ret
      refine ⟨?_, by repeat' (first | with_reducible exact Below.refl _ _ | with_reducible assumption | with_reducible apply below_drewN | with_reducible apply Below.drew | with_reducible refine Below.setCell ?_ ?_ _ | with_reducible refine Below.alloc ?_ ?_ _ | omega | (simp; done) | (simp; omega))⟩
      go_tidy
      simp_all [chkZ, D.zero]
  · by_cases h1 : level = 1
    · subst h1
      cases t
      all_goals
        go_enter Try.func22, Try.ntmps22
        go_wp2
        all_goals
          go_ret
          refine ⟨?_, by repeat' (first | with_reducible exact Below.refl _ _ | with_reducible assumption | with_reducible apply below_drewN | with_reducible apply Below.drew | with_reducible refine Below.setCell ?_ ?_ _ | with_reducible refine Below.alloc ?_ ?_ _ | omega | (simp; done) | (simp; omega))⟩
          go_tidy
          simp_all [chkZ, shiftZ, al12, al21]
          try (first | (split <;> simp_all <;> omega) | (intros; omega))
    · by_cases h2 : level = 2
      · subst h2
        cases t
        all_goals
          go_enter Try.func22, Try.ntmps22
          go_wp2
          all_goals
            go_ret
            refine ⟨?_, by repeat' (first | with_reducible exact Below.refl _ _ | with_reducible assumption | with_reducible apply below_drewN | with_reducible apply Below.drew | with_reducible refine Below.setCell ?_ ?_ _ | with_reducible refine Below.alloc ?_ ?_ _ | omega | (simp; done) | (simp; omega))⟩
            go_tidy
            simp_all [chkZ, shiftZ, al12]
            try (first | (split <;> simp_all <;> omega) | (intros; omega))
      · have g1 : (level == 1) = false := by simpa using h1
        have g2 : (level == 2) = false := by simpa using h2
        have G := Lib.hid (show (chkZ ⟨true, t, o, u, r, s, n⟩ level == 0) = false by simp [chkZ, g1, g2])
        rcases (show level < 1 ∨ 2 < level from by omega) with h | h
        all_goals
          clear h1 h2 g1 g2
          go_enter Try.func22, Try.ntmps22
          go_wp2
          go_ret
          exact ⟨by rw [G.out]; rfl, by repeat' (first | with_reducible exact Below.refl _ _ | with_reducible assumption | with_reducible apply below_drewN | with_reducible apply Below.drew | with_reducible refine Below.setCell ?_ ?_ _ | with_reducible refine Below.alloc ?_ ?_ _ | omega | (simp; done) | (simp; omega))⟩

set_option maxHeartbeats 4000000 in
theorem refWord_any (d : D) (level : Int) (w : World) (ho : U64 d.out) (hs : d.out < 4294967296) (hv : d.valid = true) : Calls Try.prog 24 #[descV d, .int .i64 level] w (RetB (.int .u64 (wordD d level)) w) := by
  obtain ⟨v, t, o, u, r, s, n⟩ := d
  obtain ⟨o0, o1⟩ := ho
  simp only at o0 o1 hs hv
  subst hv
  clear o1
  simp only [descV]
  cases t <;> cases h2 : (level == 2) <;> cases u <;> cases r <;> cases s <;> cases n
  all_goals
    go_enter Try.func24, Try.ntmps24
    go_wp2
    go_ret
    exact ⟨by simp [wordD, h2], by repeat' (first | with_reducible exact Below.refl _ _ | with_reducible assumption | with_reducible apply below_drewN | with_reducible apply Below.drew | with_reducible refine Below.setCell ?_ ?_ _ | with_reducible refine Below.alloc ?_ ?_ _ | omega | (simp; done) | (simp; omega))⟩

theorem refWord_no (d : D) (level : Int) (w : World) (hv : d.valid = false) : Calls Try.prog 24 #[descV d, .int .i64 level] w (RetB (.int .u64 0) w) := by
  obtain ⟨v, t, o, u, r, s, n⟩ := d
  simp only at hv
  subst hv
  simp only [descV]
  go_enter Try.func24, Try.ntmps24
  go_wp2
  go_ret
  exact ⟨rfl, by repeat' (first | with_reducible exact Below.refl _ _ | with_reducible assumption | with_reducible apply below_drewN | with_reducible apply Below.drew | with_reducible refine Below.setCell ?_ ?_ _ | with_reducible refine Below.alloc ?_ ?_ _ | omega | (simp; done) | (simp; omega))⟩

end Go.Proofs.Ytalapjdaplfjlaa
