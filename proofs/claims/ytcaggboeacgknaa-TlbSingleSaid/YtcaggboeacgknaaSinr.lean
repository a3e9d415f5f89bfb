/- Contract of the reference's Single. -/
import Derived.Test.YtcaggboeacgknaaSing
import Derived.Test.YtcaggboeacgknaaFilt
import Derived.Deep.RegionHeld3
namespace Go.Proofs.Ytcaggboeacgknaa
open Go.RowKit
set_option linter.unusedSimpArgs false
set_option linter.unusedVariables false

theorem retLst_o {base : Nat} {L : List E} {w w' : World} {e : Ending} (h : RetLst base L w e w') : ∃ ao cap, e = .returned (.slice ao L.length cap) ∧ Below w.heap.size w w' := by
  obtain ⟨v, rfl, hr, hb⟩ := h
  obtain ⟨ao, cap, rfl⟩ := ownsRow_form hr
  exact ⟨ao, cap, rfl, hb⟩

set_option maxRecDepth 100000 in
set_option maxHeartbeats 8000000 in
theorem rsingle_some (base g cap : Nat) (L : List E) (R : Bool) (w : World) (h : RowE w base (.slice (some ⟨g, 0, none⟩) L.length cap) L) (hbase : base ≤ w.heap.size) (hg : g < w.heap.size)
    (hok : ∀ x ∈ L, x.ok) (hlen : L.length ≤ 1000) (hR : R = true ↔ SingleR L) : Calls Try.prog 26 #[.slice (some ⟨g, 0, none⟩) L.length cap] w (RetB (.bool R) w) := by
  have HL : Hid (∀ W, Below w.heap.size w W → ∀ (j : Nat) (hj : j < L.length), W.cell? ⟨g, j * 4, none⟩ = some (.int .i64 L[j].space) ∧ W.cell? ⟨g, j * 4 + 1, none⟩ = some (.int .u64 L[j].page)) := Lib.hid fun W hb j hj => ⟨((h.below hb).cell j hj).1, ((h.below hb).cell j hj).2.1⟩
  have HOK := Lib.hid hok
  have HR := Lib.hid hR
  obtain ⟨n, hn⟩ : ∃ n, n = L.length := ⟨_, rfl⟩
  have HN := Lib.hid hn
  rw [← hn] at hlen ⊢
  have cS : Hid (∀ (i k : Nat) (hi : i < L.length) (hk : k < L.length) W, Below w.heap.size w W → Calls Try.prog 35 #[.slice (some ⟨g, 0, none⟩) n cap, .int .i64 L[i].space, .int .u64 L[k].page] W (RetLst base (L.filter fun x => servesB x L[i].space L[k].page) W)) := Lib.hid fun i k hi hk W hb => by
    rw [hn]
    exact rserv_any base _ L L[i].space L[k].page (hok _ (List.getElem_mem hk)).2.1 W (h.below hb) (Nat.le_trans hbase hb.size) (fun x hx => ⟨(hok x hx).2.2.1, (hok x hx).2.2.2⟩) (by omega)
  have HNR : Hid (∀ (i k : Nat) (hi : i < L.length) (hk : k < L.length), 1 < (L.filter fun x => servesB x L[i].space L[k].page).length → R = false) := Lib.hid fun i k hi hk h1 => by
    rw [Bool.eq_false_iff, ne_eq, HR.out]
    intro hs
    have := hs i k hi hk
    omega
  clear hn hok hR h hbase
  go_enter Try.func26, Try.ntmps26
  go_wp2_with fail
  go_loopw [3] (fun i V => ∃ a : Nat, a ≤ n ∧ i = .int .i64 (a : Nat) ∧ (∀ (i k : Nat) (hi : i < L.length) (hk : k < L.length), i < a → (L.filter fun x => servesB x L[i].space L[k].page).length ≤ 1) ∧ Below w.heap.size w V) (fun i _ => (n - (intOf i)).toNat)
  case atStart => exact ⟨0, by omega, rfl, fun _ _ _ _ h => by omega, Below.refl _ _⟩
  case round =>
    obtain ⟨a, ha, rfl, hall, hB⟩ := hrel
    have hBs := hB.size
    have HA := Lib.hid hall
    clear hall
    obtain ⟨wo, rfl⟩ : ∃ wo, wo = wr := ⟨_, rfl⟩
    by_cases han : a < n
    · have hal : a < L.length := by have := HN.out; omega
      go_wp2_with fail
      go_loopw [4] (fun k V => ∃ b : Nat, b ≤ n ∧ k = .int .i64 (b : Nat) ∧ (∀ (k : Nat) (hk : k < L.length), k < b → a ≠ k → (L.filter fun x => servesB x L[a].space L[k].page).length ≤ 1) ∧ Below w.heap.size w V) (fun k _ => (n - (intOf k)).toNat)
      case atStart => exact ⟨0, by omega, rfl, fun _ _ h => by omega, hB⟩
      case round =>
        obtain ⟨b, hb', rfl, hin, hC⟩ := hrel
        have hCs := hC.size
        have HI := Lib.hid hin
        clear hin
        have hgW : g < wr.heap.size := by omega
        by_cases hbn : b < n
        · have hbl : b < L.length := by have := HN.out; omega
          by_cases hab : a = b
          · have hne : ((a : Int) != (b : Int)) = false := by rw [hab]; simp
            have HI2 : Hid (∀ (k : Nat) (hk : k < L.length), k < b + 1 → a ≠ k → (L.filter fun x => servesB x L[a].space L[k].page).length ≤ 1) := Lib.hid fun k hk h1 h2 => HI.out k hk (by omega) h2
            have HAB := Lib.hid hab
            clear hab
            go_wp2_with fail
            refine wp_region_qb (by kernel_rfl) (by kernel_rfl) ?_; (repeat (go_big_quiet_step (fail))); refine wpQuiet_nil ?_; intro wq hb
            go_wp2_with fail
            go_roundw
            case rel => exact ⟨b + 1, by omega, by go_num, HI2.out, hC.trans (hb.mono hCs)⟩
            case measure => first | (simp [intOf]; done) | (simp [intOf]; omega)
          · have hne : ((a : Int) != (b : Int)) = true := by simp only [bne_iff_ne, ne_eq]; omega
            have HCE : Hid (∀ W, Below w.heap.size w W → W.cell? ⟨g, a * 4, none⟩ = some (.int .i64 L[a].space) ∧ W.cell? ⟨g, b * 4 + 1, none⟩ = some (.int .u64 L[b].page)) := Lib.hid fun W h => ⟨(HL.out W h a hal).1, (HL.out W h b hbl).2⟩
            have cC := Lib.hid (cS.out a b hal hbl)
            have HNB := Lib.hid (HNR.out a b hal hbl)
            have HI2 : Hid ((L.filter fun x => servesB x (L[a]'hal).space (L[b]'hbl).page).length ≤ 1 → ∀ (k : Nat) (hk : k < L.length), k < b + 1 → a ≠ k → (L.filter fun x => servesB x L[a].space L[k].page).length ≤ 1) := Lib.hid fun h0 k hk h1 h2 => by
              by_cases e : k = b
              · subst e; exact h0
              · exact HI.out k hk (by omega) h2
            generalize (L.filter fun x => servesB x (L[a]'hal).space (L[b]'hbl).page) = K at cC HNB HI2
            obtain ⟨va, hva⟩ : ∃ va, va = (L[a]'hal).space := ⟨_, rfl⟩
            obtain ⟨vb, hvb⟩ : ∃ vb, vb = (L[b]'hbl).page := ⟨_, rfl⟩
            rw [← hva, ← hvb] at cC HCE
            clear hva hvb hab
            go_wp2_with fail
            go_region_held3 (fun W => W.cell? ⟨g, a * 4, none⟩ = some (.int .i64 va) ∧ W.cell? ⟨g, b * 4 + 1, none⟩ = some (.int .u64 vb))
              (first | (refine HCE.out _ ?_; (repeat' (first | with_reducible exact Below.refl _ _ | with_reducible assumption | with_reducible apply below_drewN | with_reducible apply Below.drew | with_reducible refine Below.setCell ?_ ?_ _ | with_reducible refine Below.alloc ?_ ?_ _ | omega | (simp; done) | (simp; omega))); done))
              (first | (go_at_call 35; (with_reducible refine (cC.out _ ?_).mono ?_); (focus ((repeat' (first | with_reducible exact Below.refl _ _ | with_reducible assumption | with_reducible apply below_drewN | with_reducible apply Below.drew | with_reducible refine Below.setCell ?_ ?_ _ | with_reducible refine Below.alloc ?_ ?_ _ | omega | (simp; done) | (simp; omega))); done)); intro e t1 hx; obtain ⟨ao, c1, rfl, hb⟩ := retLst_o hx; have D1 : Below w.heap.size w t1 := Below.trans (by (repeat' (first | with_reducible exact Below.refl _ _ | with_reducible assumption | with_reducible apply below_drewN | with_reducible apply Below.drew | with_reducible refine Below.setCell ?_ ?_ _ | with_reducible refine Below.alloc ?_ ?_ _ | omega | (simp; done) | (simp; omega))); done) (hb.mono (by first | omega | (simp; done) | (simp; omega))); clear hx hb))
            by_cases hc : 1 < K.length
            · have HRF := Lib.hid (HNB.out hc)
              have hd : decide ((1 : Int) < (K.length : Int)) = true := by simp; omega
              have hi1 : (1 : Int) < (K.length : Int) := by omega
              go_wp2_with fail
              go_ret
              exact ⟨by rw [HRF.out]; rfl, D1⟩
            · have HIN := Lib.hid (HI2.out (Nat.not_lt.1 hc))
              have hd : decide ((1 : Int) < (K.length : Int)) = false := by simp; omega
              have hi1 : ¬ (1 : Int) < (K.length : Int) := by omega
              go_wp2_with fail
              go_roundw
              case rel => exact ⟨b + 1, by omega, by go_num, HIN.out, D1⟩
              case measure => first | (simp [intOf]; done) | (simp [intOf]; omega)
        · obtain rfl : b = n := by omega
          have HCE : Hid (∀ W, Below w.heap.size w W → W.cell? ⟨g, a * 4, none⟩ = some (.int .i64 L[a].space) ∧ W.cell? ⟨g, a * 4 + 1, none⟩ = some (.int .u64 L[a].page)) := Lib.hid fun W h => HL.out W h a hal
          have cC := Lib.hid (cS.out a a hal hal)
          have HNB := Lib.hid (HNR.out a a hal hal)
          have HA2 : Hid ((L.filter fun x => servesB x (L[a]'hal).space (L[a]'hal).page).length ≤ 1 → ∀ (i k : Nat) (hi : i < L.length) (hk : k < L.length), i < a + 1 → (L.filter fun x => servesB x L[i].space L[k].page).length ≤ 1) := Lib.hid fun h0 i k hi hk h1 => by
            by_cases e : i = a
            · subst e
              by_cases e2 : i = k
              · subst e2; exact h0
              · exact HI.out k hk (by rw [HN.out]; exact hk) e2
            · exact HA.out i k hi hk (by omega)
          generalize (L.filter fun x => servesB x (L[a]'hal).space (L[a]'hal).page) = K at cC HNB HA2
          obtain ⟨va, hva⟩ : ∃ va, va = (L[a]'hal).space := ⟨_, rfl⟩
          obtain ⟨vb, hvb⟩ : ∃ vb, vb = (L[a]'hal).page := ⟨_, rfl⟩
          rw [← hva, ← hvb] at cC HCE
          clear hva hvb
          go_wp2_with fail
          go_region_held3 (fun W => W.cell? ⟨g, a * 4, none⟩ = some (.int .i64 va) ∧ W.cell? ⟨g, a * 4 + 1, none⟩ = some (.int .u64 vb))
            (first | (refine HCE.out _ ?_; (repeat' (first | with_reducible exact Below.refl _ _ | with_reducible assumption | with_reducible apply below_drewN | with_reducible apply Below.drew | with_reducible refine Below.setCell ?_ ?_ _ | with_reducible refine Below.alloc ?_ ?_ _ | omega | (simp; done) | (simp; omega))); done))
            (first | (go_at_call 35; (with_reducible refine (cC.out _ ?_).mono ?_); (focus ((repeat' (first | with_reducible exact Below.refl _ _ | with_reducible assumption | with_reducible apply below_drewN | with_reducible apply Below.drew | with_reducible refine Below.setCell ?_ ?_ _ | with_reducible refine Below.alloc ?_ ?_ _ | omega | (simp; done) | (simp; omega))); done)); intro e t1 hx; obtain ⟨ao, c1, rfl, hb⟩ := retLst_o hx; have D1 : Below w.heap.size w t1 := Below.trans (by (repeat' (first | with_reducible exact Below.refl _ _ | with_reducible assumption | with_reducible apply below_drewN | with_reducible apply Below.drew | with_reducible refine Below.setCell ?_ ?_ _ | with_reducible refine Below.alloc ?_ ?_ _ | omega | (simp; done) | (simp; omega))); done) (hb.mono (by first | omega | (simp; done) | (simp; omega))); clear hx hb))
          by_cases hc : 1 < K.length
          · have HRF := Lib.hid (HNB.out hc)
            have hd : decide ((1 : Int) < (K.length : Int)) = true := by simp; omega
            have hi1 : (1 : Int) < (K.length : Int) := by omega
            go_wp2_with fail
            go_ret
            exact ⟨by rw [HRF.out]; rfl, D1⟩
          · have HIN := Lib.hid (HA2.out (Nat.not_lt.1 hc))
            have hd : decide ((1 : Int) < (K.length : Int)) = false := by simp; omega
            have hi1 : ¬ (1 : Int) < (K.length : Int) := by omega
            go_wp2_with fail
            go_roundw
            case rel => exact ⟨a + 1, by omega, by go_num, HIN.out, D1⟩
            case measure => first | (simp [intOf]; done) | (simp [intOf]; omega)
    · obtain rfl : a = n := by omega
      have HT : Hid (R = true) := Lib.hid (HR.out.2 fun i k hi hk => HA.out i k hi hk (by rw [HN.out]; exact hi))
      go_wp2_with fail
      go_ret
      exact ⟨by rw [HT.out]; rfl, hB⟩

theorem rsingle_nil (R : Bool) (w : World) (hR : R = true ↔ SingleR []) : Calls Try.prog 26 #[.slice none 0 0] w (RetB (.bool R) w) := by
  have HR : Hid (R = true) := Lib.hid (hR.2 fun i k hi hk => by simp at hi)
  clear hR
  go_enter Try.func26, Try.ntmps26
  go_wp2_with fail
  go_loopw [3] (fun i V => i = .int .i64 0 ∧ Below w.heap.size w V) (fun _ _ => 0)
  case atStart => exact ⟨rfl, by repeat' (first | with_reducible exact Below.refl _ _ | with_reducible assumption | with_reducible apply below_drewN | with_reducible apply Below.drew | with_reducible refine Below.setCell ?_ ?_ _ | with_reducible refine Below.alloc ?_ ?_ _ | omega | (simp; done) | (simp; omega))⟩
  case round =>
    obtain ⟨rfl, hB⟩ := hrel
    go_wp2_with fail
    go_ret
    exact ⟨by rw [HR.out]; rfl, hB⟩

theorem rsingle_any (base : Nat) (v : Value) (L : List E) (R : Bool) (w : World) (h : RowE w base v L) (hbase : base ≤ w.heap.size) (hok : ∀ x ∈ L, x.ok) (hlen : L.length ≤ 1000) (hR : R = true ↔ SingleR L) :
    Calls Try.prog 26 #[v] w (RetB (.bool R) w) := by
  rcases h.form with ⟨rfl, rfl⟩ | ⟨g, cap, rfl, hg, _⟩
  · exact rsingle_nil R w hR
  · exact rsingle_some base g cap L R w h hbase hg hok hlen hR

end Go.Proofs.Ytcaggboeacgknaa
