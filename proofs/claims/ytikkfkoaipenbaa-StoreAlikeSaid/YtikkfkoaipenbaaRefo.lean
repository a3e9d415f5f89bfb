/- The reference's Of. -/
import Derived.Test.YtikkfkoaipenbaaRefw
import Derived.BigQuiet
import Derived.Deep.QuietTactic
namespace Go.Proofs.Ytikkfkoaipenbaa
open Go.RowKit

/-- Cells, written in order. -/
def rofL : List (Int × Int) → List (Int × Int) → List (Int × Int) × Int
  | L, [] => (L, 0)
  | L, c :: cs => if (rwriteL L c.1 c.2).2 = 0 then rofL (rwriteL L c.1 c.2).1 cs else ([], (rwriteL L c.1 c.2).2)

theorem rofL_step (L l : List (Int × Int)) (j : Nat) (h : j < l.length) :
    rofL L (l.drop j) = if (rwriteL L l[j].1 l[j].2).2 = 0 then rofL (rwriteL L l[j].1 l[j].2).1 (l.drop (j + 1)) else ([], (rwriteL L l[j].1 l[j].2).2) := by
  rw [List.drop_eq_getElem_cons h]
  rfl

theorem rwrite_len (L : List (Int × Int)) (a v : Int) : (rwriteL L a v).1.length ≤ L.length + 1 := by
  unfold rwriteL
  split
  · split <;> simp
  · simp

set_option maxRecDepth 100000 in
set_option maxHeartbeats 1000000 in
theorem rof_any (ao : Option Addr) (n cap : Nat) (l : List (Int × Int)) (w : World) (hl : Atc w ao l) (hn : n = l.length) (hlen : l.length ≤ 900) (hu : ∀ p ∈ l, U64 p.1) :
    Calls Try.prog 22 #[.slice ao n cap] w (RetSlc (rofL [] l) w) := by
  have HL := Lib.hid hl
  have HN := Lib.hid hn
  have HU := Lib.hid hu
  rw [← hn] at hlen
  clear hl hn hu
  go_enter Try.func22, Try.ntmps22
  go_wp2_with fail
  go_loopw [4, 5] (fun o i wr => ∃ (j : Nat) (M : List (Int × Int)) (mo : Option Addr) (mc : Nat), i = .int .i64 j ∧ j ≤ n ∧ o = .slice mo M.length mc ∧ Atc wr mo M ∧ (mo = none → mc = 0) ∧ M.length ≤ j ∧ rofL [] l = rofL M (l.drop j) ∧ Below w.heap.size w wr) (fun _ i _ => n - (intOf i).toNat)
  case atStart => exact ⟨0, [], none, 0, rfl, by omega, rfl, ⟨fun _ => rfl, fun ad h => by cases h⟩, fun _ => rfl, by simp, rfl, Below.refl _ _⟩
  case round =>
    obtain ⟨j, M, mo, mc, rfl, hj, rfl, hM, hmc, hlM, hof, hB⟩ := hrel
    have HM := Lib.hid hM
    have HMC := Lib.hid hmc
    have HOF := Lib.hid hof
    clear hM hmc hof
    by_cases hlt : j < n
    · have hj1 : j < l.length := by rw [← HN.out]; omega
      obtain ⟨ad, rfl⟩ : ∃ ad, ao = some ad := by
        cases ao with
        | some ad => exact ⟨ad, rfl⟩
        | none => have := HL.out.1 rfl; rw [this] at hj1; simp at hj1
      obtain ⟨hc1, hc2⟩ := (HL.out.below hB).pair j hj1
      have HT := Lib.hid (rofL_step M l j hj1)
      have HCA := Lib.hid (HU.out _ (List.getElem_mem hj1))
      generalize l[j]'hj1 = c at hc1 hc2 HT HCA
      obtain ⟨a, cv⟩ := c
      simp only at hc1 hc2 HT HCA
      clear hj1
      go_wp2_with fail
      obtain ⟨r, hr⟩ : ∃ r, r = rwriteL M a cv := ⟨_, rfl⟩
      go_cut [6, 7] (fun x y wx => ∃ (mo' : Option Addr) (mc' : Nat), x = .slice mo' r.1.length mc' ∧ y = .int .i64 r.2 ∧ Atc wx mo' r.1 ∧ (mo' = none → mc' = 0) ∧ Below wr.heap.size wr wx)
      case first =>
        have HR := Lib.hid hr
        clear hr
        go_region_with (go_at_call 31; refine (rwrite_any _ _ _ M a cv _ (HM.out.below (by repeat' (first | with_reducible exact Below.refl _ _ | with_reducible assumption | with_reducible apply below_drewN | with_reducible apply Below.drew | with_reducible refine Below.setCell ?_ ?_ _ | with_reducible refine Below.alloc ?_ ?_ _ | omega | (simp; done) | (simp; omega)))) HMC.out rfl (by omega) HCA.out).mono ?_; rintro e w1 ⟨mo', mc', rfl, h1, h2, h3⟩; rw [← HR.out] at h1 ⊢; have B1 : Below wr.heap.size wr w1 := Below.trans (by repeat' (first | with_reducible exact Below.refl _ _ | with_reducible assumption | with_reducible apply below_drewN | with_reducible apply Below.drew | with_reducible refine Below.setCell ?_ ?_ _ | with_reducible refine Below.alloc ?_ ?_ _ | omega | (simp; done) | (simp; omega))) (h3.mono (by first | omega | (simp; done) | (simp; omega))); have H1 := Lib.hid h1; have H2 := Lib.hid h2; clear h1 h2 h3)
        all_goals
          go_wp2_with fail
          go_meet
          exact ⟨_, _, rfl, rfl, H1.out.below (by repeat' (first | with_reducible exact Below.refl _ _ | with_reducible assumption | with_reducible apply below_drewN | with_reducible apply Below.drew | with_reducible refine Below.setCell ?_ ?_ _ | with_reducible refine Below.alloc ?_ ?_ _ | omega | (simp; done) | (simp; omega))), H2.out, by repeat' (first | with_reducible exact Below.refl _ _ | with_reducible assumption | with_reducible apply below_drewN | with_reducible apply Below.drew | with_reducible refine Below.setCell ?_ ?_ _ | with_reducible refine Below.alloc ?_ ?_ _ | omega | (simp; done) | (simp; omega))⟩
      case rest =>
        obtain ⟨mo', mc', rfl, rfl, h1, h2, hb⟩ := hcut
        have H1 := Lib.hid h1
        have H2 := Lib.hid h2
        have HR := Lib.hid hr
        have hrl : r.1.length ≤ M.length + 1 := by rw [hr]; exact rwrite_len M a cv
        rw [← hr] at HT
        have hBB := hB.trans (hb.mono hB.size)
        clear h1 h2 hr hb
        by_cases hz : r.2 = 0
        · have HZ := Lib.hid hz
          rw [HZ.out]
          go_wp2_with fail
          go_roundw
          case rel => exact ⟨j + 1, r.1, mo', mc', by go_num, by omega, rfl, H1.out, H2.out, by omega, by rw [HOF.out, HT.out, if_pos HZ.out], hBB⟩
          case measure => first | (simp [intOf]; done) | (simp [intOf]; omega)
        · have HZ := Lib.hid hz
          have hzd : (r.2 != 0) = true := by simpa using hz
          go_wp2_with fail
          refine bodyPost_ret (v := .tuple #[.slice none 0 0, .int .i64 r.2]) (by simp [results, Try.results22, go_sem, *]) rfl ⟨none, 0, ?_, ?_, fun _ => rfl, hBB⟩
          · rw [HOF.out, HT.out, if_neg HZ.out]; rfl
          · rw [HOF.out, HT.out, if_neg HZ.out]; exact ⟨fun _ => rfl, fun ad h => by cases h⟩
    · obtain rfl : j = n := by omega
      go_wp2_with fail
      refine bodyPost_ret (v := .tuple #[.slice mo M.length mc, .int .i64 0]) (by simp [results, Try.results22, go_sem, *]) rfl ⟨mo, mc, ?_, ?_, HMC.out, hB⟩
      · rw [HOF.out, HN.out, List.drop_length]; rfl
      · rw [HOF.out, HN.out, List.drop_length]; exact HM.out

end Go.Proofs.Ytikkfkoaipenbaa
