/- The reference's Sorted. -/
import Derived.Test.YtikkfkoaipenbaaRefp
namespace Go.Proofs.Ytikkfkoaipenbaa
open Go.RowKit

theorem insL_flatp (M : List (Int × Int)) (p : Int × Int) : flatp (insL M p) = (flatp M).take (posL M p.1 * 2) ++ [.int .u64 p.1, .int .i64 p.2] ++ (flatp M).drop (posL M p.1 * 2) := by
  unfold insL
  rw [flatp_append, flatp_take, flatp_drop, List.append_assoc]
  rfl

set_option maxRecDepth 100000 in
set_option maxHeartbeats 4000000 in
theorem rsorted_any (ao : Option Addr) (n cap : Nat) (l : List (Int × Int)) (w : World) (hl : Atp w ao l) (hn : n = l.length) (hlen : l.length ≤ 1000) :
    Calls Try.prog 19 #[.slice ao n cap] w (RetRowp (sortL l) w) := by
  obtain ⟨i0, hi, hz0, hz1, hz2⟩ := info_parts infopR
  have HL := Lib.hid hl
  have HN := Lib.hid hn
  rw [← hn] at hlen
  clear hl hn
  go_enter Try.func19, Try.ntmps19
  go_wp2_with fail
  go_loopw [3, 4] (fun o i wr => ∃ (j : Nat) (M : List (Int × Int)), i = .int .i64 j ∧ j ≤ n ∧ wr.ownsRow w.heap.size 49 2 o M.length (flatp M) ∧ M = sortL (l.take j) ∧ M.length ≤ j ∧ Below w.heap.size w wr) (fun _ i _ => n - (intOf i).toNat)
  case atStart => exact ⟨0, [], rfl, by omega, World.ownsRow_nil _ _ _ _, rfl, by simp, Below.refl _ _⟩
  case round =>
    obtain ⟨j, M, rfl, hj, hown, hM, hlM, hB⟩ := hrel
    obtain ⟨o, oc, rfl⟩ := ownsRow_form hown
    have HO := Lib.hid hown
    have HM := Lib.hid hM
    clear hown hM
    by_cases hlt : j < n
    · have hj1 : j < l.length := by rw [← HN.out]; omega
      obtain ⟨ad, rfl⟩ : ∃ ad, ao = some ad := by
        cases ao with
        | some ad => exact ⟨ad, rfl⟩
        | none => have := HL.out.1 rfl; rw [this] at hj1; simp at hj1
      have HPR : Hid (∀ W, Below w.heap.size w W → W.cell? (ad.add (j * 2)) = some (.int .u64 (l[j]'hj1).1) ∧ W.cell? ⟨(ad.add (j * 2)).block, (ad.add (j * 2)).off + 1, none⟩ = some (.int .i64 (l[j]'hj1).2)) := Lib.hid fun W h => (HL.out.below h).pair j hj1
      have HT := Lib.hid (sortL_take l j hj1)
      rw [← HM.out] at HT
      generalize l[j]'hj1 = c at HPR HT
      obtain ⟨a, v⟩ := c
      simp only at HPR
      clear hj1
      have hpl := posL_le M a
      have hcap := ownsRow_capN HO.out
      obtain ⟨q1, q2⟩ := hcap
      have HPB := Lib.hid (pos_below M a)
      have HPA := Lib.hid (pos_at M a)
      go_wp2_with fail
      go_loopw [5] (fun nn W => ∃ q : Nat, nn = .int .i64 q ∧ q ≤ posL M a ∧ W.ownsRow w.heap.size 49 2 (.slice o M.length oc) M.length (flatp M) ∧ Below w.heap.size w W) (fun nn _ => M.length - (intOf nn).toNat)
      case atStart => exact ⟨0, rfl, by omega, HO.out, hB⟩
      case round =>
        obtain ⟨q, rfl, hq, hwo, hwb⟩ := hrel
        have HW := Lib.hid hwo
        have HA := Lib.hid (Atp.of_row hwo)
        have hwbs := hwb.size
        obtain ⟨e1, e2⟩ := HPR.out _ hwb
        clear hwo
        by_cases hql : q < posL M a
        · have hq1 : q < M.length := by omega
          obtain ⟨od, rfl⟩ : ∃ ad, o = some ad := by
            cases o with
            | some ad => exact ⟨ad, rfl⟩
            | none => have := HA.out.1 rfl; rw [this] at hq1; simp at hq1
          obtain ⟨hd1, hd2⟩ := HA.out.pair q hq1
          have hlt2 := HPB.out q hq1 hql
          generalize M[q]'hq1 = d at hd1 hd2 hlt2
          obtain ⟨da, dv⟩ := d
          simp only at hd1 hd2 hlt2
          go_wp2_with fail
          go_quiet (fail)
          go_wp2_with fail
          go_roundw
          case rel => exact ⟨q + 1, by go_num, by omega, ownsRow_below HW.out (by repeat' (first | with_reducible exact Below.refl _ _ | with_reducible assumption | with_reducible apply below_drewN | with_reducible apply Below.drew | with_reducible refine Below.setCell ?_ ?_ _ | with_reducible refine Below.alloc ?_ ?_ _ | omega | (simp; done) | (simp; omega))), by repeat' (first | with_reducible exact Below.refl _ _ | with_reducible assumption | with_reducible apply below_drewN | with_reducible apply Below.drew | with_reducible refine Below.setCell ?_ ?_ _ | with_reducible refine Below.alloc ?_ ?_ _ | omega | (simp; done) | (simp; omega))⟩
          case measure => first | (simp [intOf]; done) | (simp [intOf]; omega)
        · obtain rfl : q = posL M a := by omega
          clear hql hq
          have HEQ : Hid (posL M a + 1 + (M.length - posL M a) = M.length + 1) := Lib.hid (by omega)
          by_cases hA : posL M a = M.length
          · have hge : M.length ≤ posL M a := by omega
            have HPE := Lib.hid hA
            clear hA HPA HA
            cases o with
            | none =>
              obtain ⟨hz0', hz1'⟩ := ownsRow_none' HW.out
              obtain rfl : M = [] := List.eq_nil_of_length_eq_zero hz0'
              subst hz1'
              rw [show posL [] a = 0 from rfl, show ([] : List (Int × Int)).length = 0 from rfl]
              clear hz0' hge hpl q1
              go_wp2_with fail
              go_quiet (fail)
              obtain ⟨wx, hwx⟩ : ∃ wx, wx = wr.drewN nq := ⟨_, rfl⟩
              have BX : Below w.heap.size w wx := by rw [hwx]; repeat' (first | with_reducible exact Below.refl _ _ | with_reducible assumption | with_reducible apply below_drewN | with_reducible apply Below.drew | with_reducible refine Below.setCell ?_ ?_ _ | with_reducible refine Below.alloc ?_ ?_ _ | omega | (simp; done) | (simp; omega))
              have HX : Hid (wx.ownsRow w.heap.size 49 2 (.slice none 0 0) 0 (flatp [])) := Lib.hid (by rw [hwx]; exact ownsRow_below HW.out (by repeat' (first | with_reducible exact Below.refl _ _ | with_reducible assumption | with_reducible apply below_drewN | with_reducible apply Below.drew | with_reducible refine Below.setCell ?_ ?_ _ | with_reducible refine Below.alloc ?_ ?_ _ | omega | (simp; done) | (simp; omega))))
              have BXs := BX.size
              rw [← hwx]
              clear hwx e1 e2 HW HO
              go_wp2_with fail
              obtain ⟨wa, hwa⟩ : ∃ wa, wa = wx.alloc (.cells #[] 49) := ⟨_, rfl⟩
              have g2 : Below w.heap.size w wa := by rw [hwa]; repeat' (first | with_reducible exact Below.refl _ _ | with_reducible assumption | with_reducible apply below_drewN | with_reducible apply Below.drew | with_reducible refine Below.setCell ?_ ?_ _ | with_reducible refine Below.alloc ?_ ?_ _ | omega | (simp; done) | (simp; omega))
              have g3 : wa.heap.size = wx.heap.size + 1 := by rw [hwa]; simp
              rw [← hwa]
              clear hwa
              obtain ⟨z1, z2⟩ := HPR.out _ g2
              obtain ⟨o', ho'⟩ : ∃ o' : Option Addr, o' = none := ⟨_, rfl⟩
              have HN' : Hid (wa.ownsRow w.heap.size 49 2 (.slice o' 0 0) 0 []) := Lib.hid (by rw [ho']; exact World.ownsRow_nil _ _ _ _)
              rw [← ho']
              have HO' := Lib.hid ho'
              clear ho'
              go_region_held3 (fun W => W.cell? (ad.add (j * 2)) = some (.int .u64 a) ∧ W.cell? ⟨(ad.add (j * 2)).block, (ad.add (j * 2)).off + 1, none⟩ = some (.int .i64 v))
                (first | exact HPR.out _ (by repeat' (first | with_reducible exact Below.refl _ _ | with_reducible assumption | with_reducible apply below_drewN | with_reducible apply Below.drew | with_reducible refine Below.setCell ?_ ?_ _ | with_reducible refine Below.alloc ?_ ?_ _ | omega | (simp; done) | (simp; omega))))
                (first | (refine step_append_gen rfl (.tmp 39) (.tmp 44) 29 rfl w.heap.size 49 i0 (.agg #[.int .u64 0, .int .i64 0]) 2 16 Try.underlying29 hi hz0 hz1 hz2 rfl (by decide) _ 0 [] rfl (HN'.out.drew.alloc _) (some ⟨wx.heap.size + 1, 0, none⟩) 1 1 [.int .u64 a, .int .i64 v] rfl (fun h => (by cases h)) rfl (fun ad h => (by cases h; exact two_new' _ _ _ _ _ (by first | omega | (simp; omega) | (show _ = wa.heap.size; omega)))) (flatp_cells [(a, v)]) (by unfold maxLen; omega) (by omega) (by simp; omega) ?_; intro a2 c2 wb ho hg _; have k2 : Below w.heap.size w wb := ((g2.drew.alloc (show w.heap.size ≤ wa.drew.heap.size from (by simp; omega)) _).grown hg (by simp; omega) (fun k h => (HN'.out.lt k h).1)); have G4 := Lib.hid ho; clear ho hg))
              go_wp2_with (at_builtin; refine wpList_append_gen rfl (.tmp 46) (.tmp 47) 29 rfl w.heap.size 49 i0 (.agg #[.int .u64 0, .int .i64 0]) 2 16 Try.underlying29 hi hz0 hz1 hz2 rfl (by decide) _ _ _ rfl G4.out (some ⟨wx.heap.size, 0, none⟩) 0 0 [] rfl (fun h => (by cases h)) rfl (fun ad h u hu hj => (by simp at hj)) (fun u hu => (by simp at hu)) (by unfold maxLen; omega) (by omega) k2.size ?_; intro a3 c3 wc ho hg _; have G5 := Lib.hid ho; have G6 := Lib.hid (k2.grown hg k2.size (fun k h => (G4.out.lt k h).1)); clear ho hg)
              obtain rfl := HO'.out
              go_roundw
              case rel => exact ⟨j + 1, insL [] (a, v), by go_num, by omega, G5.out, HT.out.symm, by rw [len_ins]; first | (simp; done) | (simp; omega), G6.out⟩
              case measure => first | (simp [intOf]; done) | (simp [intOf]; omega)
            | some od =>
              have HIN : Hid (flatp (insL M (a, v)) = flatp M ++ [.int .u64 a, .int .i64 v] ++ []) := Lib.hid (by rw [insL_flatp, HPE.out, List.take_of_length_le (by rw [flatp_len]; omega), List.drop_of_length_le (by rw [flatp_len]; omega)])
              rw [HPE.out]
              have hpo : ((M.length : Nat) : Int) ≤ (oc : Nat) := by omega
              have hp0 : (0 : Int) ≤ (M.length : Nat) := by omega
              clear hge hpl HEQ
              by_cases hcq : oc = M.length
              · subst hcq
                go_wp2_with fail
                go_quiet (fail)
                obtain ⟨wx, hwx⟩ : ∃ wx, wx = wr.drewN nq := ⟨_, rfl⟩
                have BX : Below w.heap.size w wx := by rw [hwx]; repeat' (first | with_reducible exact Below.refl _ _ | with_reducible assumption | with_reducible apply below_drewN | with_reducible apply Below.drew | with_reducible refine Below.setCell ?_ ?_ _ | with_reducible refine Below.alloc ?_ ?_ _ | omega | (simp; done) | (simp; omega))
                have HX : Hid (wx.ownsRow w.heap.size 49 2 (.slice (some od) M.length M.length) M.length (flatp M)) := Lib.hid (by rw [hwx]; exact ownsRow_below HW.out (by repeat' (first | with_reducible exact Below.refl _ _ | with_reducible assumption | with_reducible apply below_drewN | with_reducible apply Below.drew | with_reducible refine Below.setCell ?_ ?_ _ | with_reducible refine Below.alloc ?_ ?_ _ | omega | (simp; done) | (simp; omega))))
                have BXs := BX.size
                rw [← hwx]
                clear hwx e1 e2 HW HO
                go_wp2_with fail
                obtain ⟨wa, hwa⟩ : ∃ wa, wa = wx.alloc (.cells #[] 49) := ⟨_, rfl⟩
                have g2 : Below w.heap.size w wa := by rw [hwa]; repeat' (first | with_reducible exact Below.refl _ _ | with_reducible assumption | with_reducible apply below_drewN | with_reducible apply Below.drew | with_reducible refine Below.setCell ?_ ?_ _ | with_reducible refine Below.alloc ?_ ?_ _ | omega | (simp; done) | (simp; omega))
                have g3 : wa.heap.size = wx.heap.size + 1 := by rw [hwa]; simp
                have GA : Hid (wa.ownsRow w.heap.size 49 2 (.slice (some od) M.length M.length) M.length (flatp M)) := Lib.hid (by rw [hwa]; exact HX.out.alloc _)
                rw [← hwa]
                clear hwa
                obtain ⟨z1, z2⟩ := HPR.out _ g2
                go_region_held3 (fun W => W.cell? (ad.add (j * 2)) = some (.int .u64 a) ∧ W.cell? ⟨(ad.add (j * 2)).block, (ad.add (j * 2)).off + 1, none⟩ = some (.int .i64 v))
                  (first | exact HPR.out _ (by repeat' (first | with_reducible exact Below.refl _ _ | with_reducible assumption | with_reducible apply below_drewN | with_reducible apply Below.drew | with_reducible refine Below.setCell ?_ ?_ _ | with_reducible refine Below.alloc ?_ ?_ _ | omega | (simp; done) | (simp; omega))))
                  (first | (refine step_append_gen rfl (.tmp 39) (.tmp 44) 29 rfl w.heap.size 49 i0 (.agg #[.int .u64 0, .int .i64 0]) 2 16 Try.underlying29 hi hz0 hz1 hz2 rfl (by decide) _ _ _ rfl (GA.out.drew.alloc _) (some ⟨wx.heap.size + 1, 0, none⟩) 1 1 [.int .u64 a, .int .i64 v] rfl (fun h => (by cases h)) rfl (fun ad h => (by cases h; exact two_new' _ _ _ _ _ (by first | omega | (simp; omega) | (show _ = wa.heap.size; omega)))) (flatp_cells [(a, v)]) (by unfold maxLen; omega) (by omega) (by simp; omega) ?_; intro a2 c2 wb ho hg _; have k2 : Below w.heap.size w wb := ((g2.drew.alloc (show w.heap.size ≤ wa.drew.heap.size from (by simp; omega)) _).grown hg (by simp; omega) (fun k h => (HX.out.lt k h).1)); have G4 := Lib.hid ho; clear ho hg))
                go_wp2_with (at_builtin; refine wpList_append_gen rfl (.tmp 46) (.tmp 47) 29 rfl w.heap.size 49 i0 (.agg #[.int .u64 0, .int .i64 0]) 2 16 Try.underlying29 hi hz0 hz1 hz2 rfl (by decide) _ _ _ rfl G4.out (some ⟨wx.heap.size, 0, none⟩) 0 0 [] rfl (fun h => (by cases h)) rfl (fun ad h u hu hj => (by simp at hj)) (fun u hu => (by simp at hu)) (by unfold maxLen; omega) (by omega) k2.size ?_; intro a3 c3 wc ho hg _; have G5 := Lib.hid ho; have G6 := Lib.hid (k2.grown hg k2.size (fun k h => (G4.out.lt k h).1)); clear ho hg)
                go_roundw
                case rel => exact ⟨j + 1, insL M (a, v), by go_num, by omega, by rw [len_ins, HIN.out]; exact ownsRow_len G5.out (by omega), HT.out.symm, by rw [len_ins]; first | (simp; done) | (simp; omega), G6.out⟩
                case measure => first | (simp [intOf]; done) | (simp [intOf]; omega)
              · go_wp2_with fail
                go_quiet (fail)
                obtain ⟨wx, hwx⟩ : ∃ wx, wx = wr.drewN nq := ⟨_, rfl⟩
                have BX : Below w.heap.size w wx := by rw [hwx]; repeat' (first | with_reducible exact Below.refl _ _ | with_reducible assumption | with_reducible apply below_drewN | with_reducible apply Below.drew | with_reducible refine Below.setCell ?_ ?_ _ | with_reducible refine Below.alloc ?_ ?_ _ | omega | (simp; done) | (simp; omega))
                have HX : Hid (wx.ownsRow w.heap.size 49 2 (.slice (some od) M.length oc) M.length (flatp M)) := Lib.hid (by rw [hwx]; exact ownsRow_below HW.out (by repeat' (first | with_reducible exact Below.refl _ _ | with_reducible assumption | with_reducible apply below_drewN | with_reducible apply Below.drew | with_reducible refine Below.setCell ?_ ?_ _ | with_reducible refine Below.alloc ?_ ?_ _ | omega | (simp; done) | (simp; omega))))
                have BXs := BX.size
                rw [← hwx]
                clear hwx e1 e2 HW HO
                go_wp2_with fail
                obtain ⟨wa, hwa⟩ : ∃ wa, wa = wx.alloc (.cells #[] 49) := ⟨_, rfl⟩
                have g2 : Below w.heap.size w wa := by rw [hwa]; repeat' (first | with_reducible exact Below.refl _ _ | with_reducible assumption | with_reducible apply below_drewN | with_reducible apply Below.drew | with_reducible refine Below.setCell ?_ ?_ _ | with_reducible refine Below.alloc ?_ ?_ _ | omega | (simp; done) | (simp; omega))
                have g3 : wa.heap.size = wx.heap.size + 1 := by rw [hwa]; simp
                have GA : Hid (wa.ownsRow w.heap.size 49 2 (.slice (some od) M.length oc) M.length (flatp M)) := Lib.hid (by rw [hwa]; exact HX.out.alloc _)
                rw [← hwa]
                clear hwa
                obtain ⟨z1, z2⟩ := HPR.out _ g2
                go_region_held3 (fun W => W.cell? (ad.add (j * 2)) = some (.int .u64 a) ∧ W.cell? ⟨(ad.add (j * 2)).block, (ad.add (j * 2)).off + 1, none⟩ = some (.int .i64 v))
                  (first | exact HPR.out _ (by repeat' (first | with_reducible exact Below.refl _ _ | with_reducible assumption | with_reducible apply below_drewN | with_reducible apply Below.drew | with_reducible refine Below.setCell ?_ ?_ _ | with_reducible refine Below.alloc ?_ ?_ _ | omega | (simp; done) | (simp; omega))))
                  (first | (refine step_append_gen rfl (.tmp 39) (.tmp 44) 29 rfl w.heap.size 49 i0 (.agg #[.int .u64 0, .int .i64 0]) 2 16 Try.underlying29 hi hz0 hz1 hz2 rfl (by decide) _ _ _ rfl (GA.out.drew.alloc _) (some ⟨wx.heap.size + 1, 0, none⟩) 1 1 [.int .u64 a, .int .i64 v] rfl (fun h => (by cases h)) rfl (fun ad h => (by cases h; exact two_new' _ _ _ _ _ (by first | omega | (simp; omega) | (show _ = wa.heap.size; omega)))) (flatp_cells [(a, v)]) (by unfold maxLen; omega) (by omega) (by simp; omega) ?_; intro a2 c2 wb ho hg _; have k2 : Below w.heap.size w wb := ((g2.drew.alloc (show w.heap.size ≤ wa.drew.heap.size from (by simp; omega)) _).grown hg (by simp; omega) (fun k h => (HX.out.lt k h).1)); have G4 := Lib.hid ho; clear ho hg))
                go_wp2_with (at_builtin; refine wpList_append_gen rfl (.tmp 46) (.tmp 47) 29 rfl w.heap.size 49 i0 (.agg #[.int .u64 0, .int .i64 0]) 2 16 Try.underlying29 hi hz0 hz1 hz2 rfl (by decide) _ _ _ rfl G4.out (some ⟨wx.heap.size, 0, none⟩) 0 0 [] rfl (fun h => (by cases h)) rfl (fun ad h u hu hj => (by simp at hj)) (fun u hu => (by simp at hu)) (by unfold maxLen; omega) (by omega) k2.size ?_; intro a3 c3 wc ho hg _; have G5 := Lib.hid ho; have G6 := Lib.hid (k2.grown hg k2.size (fun k h => (G4.out.lt k h).1)); clear ho hg)
                go_roundw
                case rel => exact ⟨j + 1, insL M (a, v), by go_num, by omega, by rw [len_ins, HIN.out]; exact ownsRow_len G5.out (by omega), HT.out.symm, by rw [len_ins]; first | (simp; done) | (simp; omega), G6.out⟩
                case measure => first | (simp [intOf]; done) | (simp [intOf]; omega)
          · have hq1 : posL M a < M.length := by omega
            obtain ⟨od, rfl⟩ : ∃ ad, o = some ad := by
              cases o with
              | some ad => exact ⟨ad, rfl⟩
              | none => have := HA.out.1 rfl; rw [this] at hq1; simp at hq1
            obtain ⟨hd1, hd2⟩ := HA.out.pair _ hq1
            have hge := HPA.out hq1
            generalize M[posL M a]'hq1 = d at hd1 hd2 hge
            obtain ⟨da, dv⟩ := d
            simp only at hd1 hd2 hge
            have hgd : decide (da < a) = false := decide_eq_false (by omega)
            have hcq : ¬ oc = posL M a := by omega
            clear HPA HA
            go_wp2_with fail
            go_quiet (fail)
            obtain ⟨wx, hwx⟩ : ∃ wx, wx = wr.drewN nq := ⟨_, rfl⟩
            have BX : Below w.heap.size w wx := by rw [hwx]; repeat' (first | with_reducible exact Below.refl _ _ | with_reducible assumption | with_reducible apply below_drewN | with_reducible apply Below.drew | with_reducible refine Below.setCell ?_ ?_ _ | with_reducible refine Below.alloc ?_ ?_ _ | omega | (simp; done) | (simp; omega))
            have HX : Hid (wx.ownsRow w.heap.size 49 2 (.slice (some od) M.length oc) M.length (flatp M)) := Lib.hid (by rw [hwx]; exact ownsRow_below HW.out (by repeat' (first | with_reducible exact Below.refl _ _ | with_reducible assumption | with_reducible apply below_drewN | with_reducible apply Below.drew | with_reducible refine Below.setCell ?_ ?_ _ | with_reducible refine Below.alloc ?_ ?_ _ | omega | (simp; done) | (simp; omega))))
            have BXs := BX.size
            rw [← hwx]
            clear hwx e1 e2 hd1 hd2 HW HO
            go_wp2_with (at_builtin; refine wpList_append_gen rfl (.tmp 32) (.tmp 35) 29 rfl wx.heap.size 49 i0 (.agg #[.int .u64 0, .int .i64 0]) 2 16 Try.underlying29 hi hz0 hz1 hz2 rfl (by decide) _ 0 [] rfl (World.ownsRow_made wx #[] 0 (Nat.le_refl _) (by unfold maxLen; omega) rfl) _ (M.length - posL M a) _ ((flatp M).drop (posL M a * 2)) rfl (src_dropN (HX.out.alloc (.cells #[] 49)) hpl _ _ (by first | exact .inl ⟨rfl, hcq⟩ | exact .inr ⟨rfl, hcq⟩) (by omega)).1 (src_dropN (HX.out.alloc (.cells #[] 49)) hpl _ _ (by first | exact .inl ⟨rfl, hcq⟩ | exact .inr ⟨rfl, hcq⟩) rfl).2.1 (src_dropN (HX.out.alloc (.cells #[] 49)) hpl _ _ (by first | exact .inl ⟨rfl, hcq⟩ | exact .inr ⟨rfl, hcq⟩) rfl).2.2 (fun u hu => flatp_cells M u (List.mem_of_mem_drop hu)) (by unfold maxLen; omega) (by omega) (by simp) ?_; intro ar cr wa ho hg _; rw [Nat.zero_add, List.nil_append] at ho; rw [Nat.zero_add]; obtain ⟨g1, g2, g3, g4⟩ := ins_rest HX.out BX.size BX hg; have G1 := Lib.hid (ownsRow_take g1 hpl); have G2 := Lib.hid ho; clear ho g1 hg)
            obtain ⟨z1, z2⟩ := HPR.out _ g2
            have hpo : ((posL M a : Nat) : Int) ≤ (oc : Nat) := by omega
            have hpo2 : posL M a ≤ oc := by omega
            have hp0 : (0 : Int) ≤ (posL M a : Nat) := by omega
            go_region_held3 (fun W => W.cell? (ad.add (j * 2)) = some (.int .u64 a) ∧ W.cell? ⟨(ad.add (j * 2)).block, (ad.add (j * 2)).off + 1, none⟩ = some (.int .i64 v))
              (first | exact HPR.out _ (by repeat' (first | with_reducible exact Below.refl _ _ | with_reducible assumption | with_reducible apply below_drewN | with_reducible apply Below.drew | with_reducible refine Below.setCell ?_ ?_ _ | with_reducible refine Below.alloc ?_ ?_ _ | omega | (simp; done) | (simp; omega))))
              (first | (refine step_append_gen rfl (.tmp 39) (.tmp 44) 29 rfl w.heap.size 49 i0 (.agg #[.int .u64 0, .int .i64 0]) 2 16 Try.underlying29 hi hz0 hz1 hz2 rfl (by decide) _ _ _ rfl (G1.out.drew.alloc _) (some ⟨wa.heap.size, 0, none⟩) 1 1 [.int .u64 a, .int .i64 v] rfl (fun h => (by cases h)) rfl (fun ad h => (by cases h; exact two_new' _ _ _ _ _ rfl)) (flatp_cells [(a, v)]) (by unfold maxLen; omega) (by omega) (by simp; omega) ?_; intro a2 c2 wb ho hg _; obtain ⟨k1, k2, k3⟩ := ins_put G2.out.drew (show w.heap.size ≤ wa.drew.heap.size from (by simp; omega)) g2.drew g4 hg; have G3 := Lib.hid k1; have G4 := Lib.hid ho; clear ho hg k1))
            go_wp2_with (at_builtin; refine wpList_append_gen rfl (.tmp 46) (.tmp 47) 29 rfl w.heap.size 49 i0 (.agg #[.int .u64 0, .int .i64 0]) 2 16 Try.underlying29 hi hz0 hz1 hz2 rfl (by decide) _ _ _ rfl G4.out ar (M.length - posL M a) cr _ rfl (fun h => (by subst h; exact ownsRow_none' G3.out)) G3.out.1 (fun ad h => (by subst h; exact ownsRow_atN G3.out)) (fun u hu => flatp_cells M u (List.mem_of_mem_drop hu)) (by unfold maxLen; omega) (by omega) k2.size ?_; intro a3 c3 wc ho hg _; have G5 := Lib.hid ho; have G6 := Lib.hid (k2.grown hg k2.size (fun k h => (G4.out.lt k h).1)); clear ho hg)
            go_roundw
            case rel => exact ⟨j + 1, insL M (a, v), by go_num, by omega, by rw [len_ins, insL_flatp]; exact ownsRow_len G5.out HEQ.out, HT.out.symm, by rw [len_ins]; omega, G6.out⟩
            case measure => first | (simp [intOf]; done) | (simp [intOf]; omega)
    · obtain rfl : j = n := by omega
      go_wp2_with fail
      go_ret
      have e : M = sortL l := by rw [HM.out, HN.out, List.take_length]
      rw [← e]
      exact ⟨_, _, rfl, HO.out, hB⟩

end Go.Proofs.Ytikkfkoaipenbaa
