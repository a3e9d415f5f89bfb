/- The reference's Same: two lists of cells. -/
import Derived.Test.YtikkfkoaipenbaaRecc
import Derived.BigQuiet
import Derived.Deep.QuietTactic
namespace Go.Proofs.Ytikkfkoaipenbaa
open Go.RowKit

theorem rsame_any (ao bo : Option Addr) (n m cap cap2 : Nat) (l k : List (Int × Int)) (w : World) (hl : Atc w ao l) (hk : Atc w bo k) (hn : n = l.length) (hm : m = k.length) (hlen : l.length ≤ 1000000) :
    Calls Try.prog 25 #[.slice ao n cap, .slice bo m cap2] w (RetB (.bool (decide (l = k))) w) := by
  have HL := Lib.hid hl
  have HK := Lib.hid hk
  have HN := Lib.hid hn
  have HM := Lib.hid hm
  rw [← hn] at hlen
  by_cases hnm : n = m
  · subst hnm
    clear hl hk hn hm
    go_enter Try.func25, Try.ntmps25
    go_wp2_with fail
    go_loopw [5] (fun i wr => ∃ j : Nat, i = .int .i64 j ∧ j ≤ n ∧ l.take j = k.take j ∧ Below w.heap.size w wr) (fun i _ => n - (intOf i).toNat)
    case atStart => exact ⟨0, rfl, by omega, rfl, Below.refl _ _⟩
    case round =>
      obtain ⟨j, rfl, hj, hd, hB⟩ := hrel
      by_cases hlt : j < n
      · have hj1 : j < l.length := by rw [← HN.out]; omega
        have hj2 : j < k.length := by rw [← HM.out]; omega
        obtain ⟨ad, rfl⟩ : ∃ ad, ao = some ad := by
          cases ao with
          | some ad => exact ⟨ad, rfl⟩
          | none => have := HL.out.1 rfl; rw [this] at hj1; simp at hj1
        obtain ⟨bd, rfl⟩ : ∃ ad, bo = some ad := by
          cases bo with
          | some ad => exact ⟨ad, rfl⟩
          | none => have := HK.out.1 rfl; rw [this] at hj2; simp at hj2
        obtain ⟨hc1, hc2⟩ := (HL.out.below hB).pair j hj1
        obtain ⟨hd1, hd2⟩ := (HK.out.below hB).pair j hj2
        have HT : Hid (l.take (j + 1) = l.take j ++ [l[j]]) := Lib.hid (List.take_succ_eq_append_getElem hj1)
        have HU : Hid (k.take (j + 1) = k.take j ++ [k[j]]) := Lib.hid (List.take_succ_eq_append_getElem hj2)
        generalize l[j]'hj1 = c at hc1 hc2 HT
        generalize k[j]'hj2 = d at hd1 hd2 HU
        obtain ⟨ca, cv⟩ := c
        obtain ⟨da, dv⟩ := d
        simp only at hc1 hc2 hd1 hd2
        clear hj1 hj2
        have HD := Lib.hid hd
        clear hd
        by_cases e : ca = da ∧ cv = dv
        · obtain ⟨rfl, rfl⟩ := e
          go_wp2_with fail
          go_quiet (fail)
          go_wp2_with fail
          go_roundw
          case rel => exact ⟨j + 1, by go_num, by omega, by rw [HT.out, HU.out, HD.out], by repeat' (first | with_reducible exact Below.refl _ _ | with_reducible assumption | with_reducible apply below_drewN | with_reducible apply Below.drew | with_reducible refine Below.setCell ?_ ?_ _ | with_reducible refine Below.alloc ?_ ?_ _ | omega | (simp; done) | (simp; omega))⟩
          case measure => first | (simp [intOf]; done) | (simp [intOf]; omega)
        · by_cases e1 : ca = da
          · have e2 : ¬ cv = dv := fun h => e ⟨e1, h⟩
            clear e
            subst e1
            go_wp2_with fail
            go_quiet (fail)
            go_wp2_with fail
            go_ret
            refine ⟨?_, by repeat' (first | with_reducible exact Below.refl _ _ | with_reducible assumption | with_reducible apply below_drewN | with_reducible apply Below.drew | with_reducible refine Below.setCell ?_ ?_ _ | with_reducible refine Below.alloc ?_ ?_ _ | omega | (simp; done) | (simp; omega))⟩
            rw [decide_eq_false]
            · rfl
            · intro e'
              have h1 := HT.out
              have h2 := HU.out
              rw [e', h2] at h1
              have h3 := List.append_inj_right' h1 rfl
              simp at h3
              omega
          · clear e
            go_wp2_with fail
            go_quiet (fail)
            go_wp2_with fail
            go_ret
            refine ⟨?_, by repeat' (first | with_reducible exact Below.refl _ _ | with_reducible assumption | with_reducible apply below_drewN | with_reducible apply Below.drew | with_reducible refine Below.setCell ?_ ?_ _ | with_reducible refine Below.alloc ?_ ?_ _ | omega | (simp; done) | (simp; omega))⟩
            rw [decide_eq_false]
            · rfl
            · intro e'
              have h1 := HT.out
              have h2 := HU.out
              rw [e', h2] at h1
              have h3 := List.append_inj_right' h1 rfl
              simp at h3
              omega
      · obtain rfl : j = n := by omega
        have HD := Lib.hid hd
        clear hd
        go_wp2_with fail
        go_ret
        refine ⟨?_, by repeat' (first | with_reducible exact Below.refl _ _ | with_reducible assumption | with_reducible apply below_drewN | with_reducible apply Below.drew | with_reducible refine Below.setCell ?_ ?_ _ | with_reducible refine Below.alloc ?_ ?_ _ | omega | (simp; done) | (simp; omega))⟩
        have := HD.out
        rw [HN.out, List.take_length, ← HN.out, HM.out, List.take_length] at this
        subst this
        simp
  · clear hl hk hn hm
    go_enter Try.func25, Try.ntmps25
    go_wp2_with fail
    go_ret
    refine ⟨?_, by repeat' (first | with_reducible exact Below.refl _ _ | with_reducible assumption | with_reducible apply below_drewN | with_reducible apply Below.drew | with_reducible refine Below.setCell ?_ ?_ _ | with_reducible refine Below.alloc ?_ ?_ _ | omega | (simp; done) | (simp; omega))⟩
    rw [decide_eq_false]
    · rfl
    · intro e
      rw [HN.out, HM.out, e] at hnm
      exact hnm rfl

end Go.Proofs.Ytikkfkoaipenbaa
