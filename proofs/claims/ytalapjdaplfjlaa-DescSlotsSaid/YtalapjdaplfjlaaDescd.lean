/- The contract of desc.Check. -/
import Derived.Test.YtalapjdaplfjlaaDesc
namespace Go.Proofs.Ytalapjdaplfjlaa
open Go.RowKit

/-- May a descriptor of a level be? The error's number. -/
def chkZ (d : D) (level : Int) : Int :=
  if d.valid = true then
    (if ((level == 1 || level == 2) && !(level == 2 && d.table) && decide (d.out < 4294967296) && alignedB d.out (shiftZ d.table level) && !(d.table && (d.used || d.readOnly || d.user || d.own))) = true then 0 else 70)
  else if d = D.zero then 0 else 70

set_option maxHeartbeats 2000000 in
theorem check_no (d : D) (level : Int) (w : World) (hv : d.valid = false) : Calls Try.prog 23 #[descV d, .int .i64 level] w (RetB (.int .i64 (chkZ d level)) w) := by
  obtain ⟨v, t, o, u, r, s, n⟩ := d
  simp only at hv
  subst hv
  simp only [descV]
  go_enter Try.func23, Try.ntmps23
  go_wp2
  all_goals (go_ret; refine ⟨?_, by repeat' (first | with_reducible exact Below.refl _ _ | with_reducible assumption | with_reducible apply below_drewN | with_reducible apply Below.drew | with_reducible refine Below.setCell ?_ ?_ _ | with_reducible refine Below.alloc ?_ ?_ _ | omega | (simp; done) | (simp; omega))⟩; simp [chkZ, D.zero, *])

set_option maxHeartbeats 4000000 in
theorem check_yes (d : D) (level : Int) (w : World) (ho : U64 d.out) (hv : d.valid = true) : Calls Try.prog 23 #[descV d, .int .i64 level] w (RetB (.int .i64 (chkZ d level)) w) := by
  obtain ⟨v, t, o, u, r, s, n⟩ := d
  simp only at hv ho
  subst hv
  simp only [descV]
  have Ho := Lib.hid ho
  clear ho
  by_cases h1 : level = 1 ∨ level = 2
  · by_cases h2 : level = 2 ∧ t = true
    · obtain ⟨rfl, rfl⟩ := h2
      clear h1
      go_enter Try.func23, Try.ntmps23
      go_wp2_with fail
      go_quiet (first | (go_at_call 28; exact quietR (shift_any _ _ _)) | (go_at_call 34; exact quietR (aligned_any _ _ _ (Ho.out))))
      go_wp2
      go_ret
      exact ⟨by simp [chkZ], by repeat' (first | with_reducible exact Below.refl _ _ | with_reducible assumption | with_reducible apply below_drewN | with_reducible apply Below.drew | with_reducible refine Below.setCell ?_ ?_ _ | with_reducible refine Below.alloc ?_ ?_ _ | omega | (simp; done) | (simp; omega))⟩
    · by_cases h3 : 4294967296 ≤ o
      · have H3 := Lib.hid (show decide (o < 4294967296) = false by simpa using h3)
        rcases h1 with rfl | rfl
        · clear h2
          go_enter Try.func23, Try.ntmps23
          go_wp2_with fail
          go_quiet (first | (go_at_call 28; exact quietR (shift_any _ _ _)) | (go_at_call 34; exact quietR (aligned_any _ _ _ (Ho.out))))
          go_wp2
          go_ret
          exact ⟨by go_tidy; simp [chkZ, H3.out], by repeat' (first | with_reducible exact Below.refl _ _ | with_reducible assumption | with_reducible apply below_drewN | with_reducible apply Below.drew | with_reducible refine Below.setCell ?_ ?_ _ | with_reducible refine Below.alloc ?_ ?_ _ | omega | (simp; done) | (simp; omega))⟩
        · obtain rfl : t = false := by simpa using h2
          clear h2
          go_enter Try.func23, Try.ntmps23
          go_wp2_with fail
          go_quiet (first | (go_at_call 28; exact quietR (shift_any _ _ _)) | (go_at_call 34; exact quietR (aligned_any _ _ _ (Ho.out))))
          go_wp2
          go_ret
          exact ⟨by go_tidy; simp [chkZ, H3.out], by repeat' (first | with_reducible exact Below.refl _ _ | with_reducible assumption | with_reducible apply below_drewN | with_reducible apply Below.drew | with_reducible refine Below.setCell ?_ ?_ _ | with_reducible refine Below.alloc ?_ ?_ _ | omega | (simp; done) | (simp; omega))⟩
      · have H3 := Lib.hid (show decide (o < 4294967296) = true by simpa using h3)
        rcases h1 with rfl | rfl
        · clear h2
          go_enter Try.func23, Try.ntmps23
          go_wp2_with fail
          go_quiet (first | (go_at_call 28; exact quietR (shift_any _ _ _)) | (go_at_call 34; exact quietR (aligned_any _ _ _ (Ho.out))))
          go_wp2
          all_goals (go_ret; refine ⟨?_, by repeat' (first | with_reducible exact Below.refl _ _ | with_reducible assumption | with_reducible apply below_drewN | with_reducible apply Below.drew | with_reducible refine Below.setCell ?_ ?_ _ | with_reducible refine Below.alloc ?_ ?_ _ | omega | (simp; done) | (simp; omega))⟩; go_tidy; have h3' := Int.not_le.2 h3; simp_all [chkZ])
        · obtain rfl : t = false := by simpa using h2
          clear h2
          go_enter Try.func23, Try.ntmps23
          go_wp2_with fail
          go_quiet (first | (go_at_call 28; exact quietR (shift_any _ _ _)) | (go_at_call 34; exact quietR (aligned_any _ _ _ (Ho.out))))
          go_wp2
          all_goals (go_ret; refine ⟨?_, by repeat' (first | with_reducible exact Below.refl _ _ | with_reducible assumption | with_reducible apply below_drewN | with_reducible apply Below.drew | with_reducible refine Below.setCell ?_ ?_ _ | with_reducible refine Below.alloc ?_ ?_ _ | omega | (simp; done) | (simp; omega))⟩; go_tidy; have h3' := Int.not_le.2 h3; simp_all [chkZ])
  · have h4 : (level == 1) = false := by simpa using fun h => h1 (.inl h)
    have h5 : (level == 2) = false := by simpa using fun h => h1 (.inr h)
    have h6 : (level != 1) = true := by rw [bne, h4]; rfl
    have h7 : (level != 2) = true := by rw [bne, h5]; rfl
    clear h1
    go_enter Try.func23, Try.ntmps23
    go_wp2_with fail
    go_quiet (first | (go_at_call 28; exact quietR (shift_any _ _ _)) | (go_at_call 34; exact quietR (aligned_any _ _ _ (Ho.out))))
    go_wp2
    go_ret
    exact ⟨by simp [chkZ, h4, h5], by repeat' (first | with_reducible exact Below.refl _ _ | with_reducible assumption | with_reducible apply below_drewN | with_reducible apply Below.drew | with_reducible refine Below.setCell ?_ ?_ _ | with_reducible refine Below.alloc ?_ ?_ _ | omega | (simp; done) | (simp; omega))⟩

theorem check_any (d : D) (level : Int) (w : World) (ho : U64 d.out) : Calls Try.prog 23 #[descV d, .int .i64 level] w (RetB (.int .i64 (chkZ d level)) w) := by
  cases hv : d.valid
  · exact check_no d level w hv
  · exact check_yes d level w ho hv

end Go.Proofs.Ytalapjdaplfjlaa
