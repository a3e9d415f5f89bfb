/- Maps of package store: Without. -/
import Derived.Test.YtikkfkoaipenbaaMapuc
namespace Go.Proofs.Ytikkfkoaipenbaa
open Go.RowKit

theorem withoutu_keys (L : List (Int × Int)) (k : Int) (h : hasL L k = true) :
    (L.map fun p => Value.int .u64 p.1).take (posL L k) ++ (L.map fun p => Value.int .u64 p.1).drop (posL L k + 1) = (withoutL L k).map fun p => .int .u64 p.1 := by
  simp [withoutL, h]
theorem withoutu_vals (L : List (Int × Int)) (k : Int) (h : hasL L k = true) :
    (L.map fun p => Value.int .u64 p.2).take (posL L k) ++ (L.map fun p => Value.int .u64 p.2).drop (posL L k + 1) = (withoutL L k).map fun p => .int .u64 p.2 := by
  simp [withoutL, h]
theorem withoutu_len (L : List (Int × Int)) (k : Int) (h : hasL L k = true) : (withoutL L k).length = posL L k + (L.length - (posL L k + 1)) := by
  have := posL_le L k
  simp [withoutL, h]; omega

set_option maxHeartbeats 4000000 in
theorem withoutu_any (ks vs : Value) (L : List (Int × Int)) (k : Int) (w : World) (hm : MapuIs w ks vs L) (hs : Sorted L) (hlen : L.length ≤ 900) :
    Calls Try.prog 40 #[.agg #[ks, vs], .int .u64 k] w (RetuMap (withoutL L k) w) := by
  obtain ⟨i0, hi, hz0, hz1, hz2⟩ := info_parts infoKu
  obtain ⟨j0, hj, hy0, hy1, hy2⟩ := info_parts infou
  have hpl := posL_le L k
  cases hh : hasL L k
  · have HH := Lib.hid hh
    have HE := Lib.hid (show withoutL L k = L by unfold withoutL; rw [if_neg (by simp [hh])])
    have HM := Lib.hid hm
    have HS := Lib.hid hs
    obtain ⟨ao, cap, rfl⟩ := ownsRow_form hm.keys
    obtain ⟨bo, cap2, rfl⟩ := ownsRow_form hm.vals
    clear hm hs hh
    go_enter Try.func40, Try.ntmps40
    go_wp2_with fail
    refine (findu_any _ _ L k _ ((HM.out.below (by repeat' (first | with_reducible exact Below.refl _ _ | with_reducible assumption | with_reducible apply below_drewN | with_reducible apply Below.drew | with_reducible refine Below.setCell ?_ ?_ _ | with_reducible refine Below.alloc ?_ ?_ _ | omega | (simp; done) | (simp; omega)))).below (by repeat' (first | with_reducible exact Below.refl _ _ | with_reducible assumption | with_reducible apply below_drewN | with_reducible apply Below.drew | with_reducible refine Below.setCell ?_ ?_ _ | with_reducible refine Below.alloc ?_ ?_ _ | omega | (simp; done) | (simp; omega)))) HS.out (by omega)).mono ?_
    rintro e w1 ⟨rfl, hb⟩
    have B : Below w.heap.size w w1 := Below.trans (by repeat' (first | with_reducible exact Below.refl _ _ | with_reducible assumption | with_reducible apply below_drewN | with_reducible apply Below.drew | with_reducible refine Below.setCell ?_ ?_ _ | with_reducible refine Below.alloc ?_ ?_ _ | omega | (simp; done) | (simp; omega))) (hb.mono (by first | omega | (simp; done) | (simp; omega))); have Bz := B.size
    obtain ⟨k1, k2, k3, k4⟩ := keepB hb w.heap.size (by first | omega | (simp; done) | (simp; omega))
    obtain ⟨m1, m2, m3, m4⟩ := keepB hb (w.heap.size + 1) (by first | omega | (simp; done) | (simp; omega))
    clear hb
    rw [HH.out]
    go_wp2_with fail
    refine bodyPost_ret (v := .agg #[.slice ao L.length cap, .slice bo L.length cap2]) (by simp [results, Try.results40, go_sem, *]) rfl ⟨_, _, rfl, ?_, by repeat' (first | with_reducible exact Below.refl _ _ | with_reducible assumption | with_reducible apply below_drewN | with_reducible apply Below.drew | with_reducible refine Below.setCell ?_ ?_ _ | with_reducible refine Below.alloc ?_ ?_ _ | omega | (simp; done) | (simp; omega))⟩
    rw [HE.out]
    exact HM.out.below (by repeat' (first | with_reducible exact Below.refl _ _ | with_reducible assumption | with_reducible apply below_drewN | with_reducible apply Below.drew | with_reducible refine Below.setCell ?_ ?_ _ | with_reducible refine Below.alloc ?_ ?_ _ | omega | (simp; done) | (simp; omega)))
  · have hq := ((has_iff L k hs).1 hh).1
    have HH := Lib.hid hh
    have HM := Lib.hid hm
    have HS := Lib.hid hs
    obtain ⟨ao, cap, rfl⟩ := ownsRow_form hm.keys
    obtain ⟨bo, cap2, rfl⟩ := ownsRow_form hm.vals
    clear hm hs hh
    go_enter Try.func40, Try.ntmps40
    go_wp2_with fail
    refine (findu_any _ _ L k _ ((HM.out.below (by repeat' (first | with_reducible exact Below.refl _ _ | with_reducible assumption | with_reducible apply below_drewN | with_reducible apply Below.drew | with_reducible refine Below.setCell ?_ ?_ _ | with_reducible refine Below.alloc ?_ ?_ _ | omega | (simp; done) | (simp; omega)))).below (by repeat' (first | with_reducible exact Below.refl _ _ | with_reducible assumption | with_reducible apply below_drewN | with_reducible apply Below.drew | with_reducible refine Below.setCell ?_ ?_ _ | with_reducible refine Below.alloc ?_ ?_ _ | omega | (simp; done) | (simp; omega)))) HS.out (by omega)).mono ?_
    rintro e w1 ⟨rfl, hb⟩
    have B : Below w.heap.size w w1 := Below.trans (by repeat' (first | with_reducible exact Below.refl _ _ | with_reducible assumption | with_reducible apply below_drewN | with_reducible apply Below.drew | with_reducible refine Below.setCell ?_ ?_ _ | with_reducible refine Below.alloc ?_ ?_ _ | omega | (simp; done) | (simp; omega))) (hb.mono (by first | omega | (simp; done) | (simp; omega))); have Bz := B.size
    obtain ⟨k1, k2, k3, k4⟩ := keepB hb w.heap.size (by first | omega | (simp; done) | (simp; omega))
    obtain ⟨m1, m2, m3, m4⟩ := keepB hb (w.heap.size + 1) (by first | omega | (simp; done) | (simp; omega))
    clear hb
    rw [HH.out]
    go_wp2_with fail
    have T0 : Two w1 w1.heap.size w1.heap.size (w1.heap.size + 1) 23 23 (w1.alloc (.cells #[.slice none 0 0, .slice none 0 0] 53)) (.slice none 0 0) (.slice none 0 0) 0 0 [] [] :=
      ⟨(Below.refl _ _).alloc (Nat.le_refl _) _, Nat.le_refl _, Nat.lt_succ_self _, by simp, World.ownsRow_nil _ _ _ _, World.ownsRow_nil _ _ _ _, fun k h => by simp [Value.ownBlock] at h, by simp, by simp, by simp, by simp⟩
    have HB := Lib.hid B
    have hcap := (ownsRow_cap HM.out.keys)
    have hcap2 := (ownsRow_cap HM.out.vals)
    obtain ⟨hc1, hc2⟩ := hcap
    obtain ⟨hd1, hd2⟩ := hcap2
    obtain ⟨wr, hwr⟩ : ∃ wr, wr = w1.alloc (.cells #[.slice none 0 0, .slice none 0 0] 53) := ⟨_, rfl⟩
    rw [← hwr] at T0 ⊢
    clear hwr B
    have hpc : posL L k ≤ cap := by omega
    have hpc2 : posL L k ≤ cap2 := by omega
    have hpc3 : posL L k + 1 ≤ cap := by omega
    have hpc4 : posL L k + 1 ≤ cap2 := by omega
    have kr : ∀ o, wr.cell? ⟨w.heap.size, o, none⟩ = w1.cell? ⟨w.heap.size, o, none⟩ := fun o => T0.below.cell (p := ⟨w.heap.size, o, none⟩) k3
    have kq : ∀ o, wr.cell? ⟨w.heap.size + 1, o, none⟩ = w1.cell? ⟨w.heap.size + 1, o, none⟩ := fun o => T0.below.cell (p := ⟨w.heap.size + 1, o, none⟩) m3
    have kf : ∀ o, wr.frozen? ⟨w.heap.size + 1, o, none⟩ = w1.frozen? ⟨w.heap.size + 1, o, none⟩ := fun o => T0.below.frozen (p := ⟨w.heap.size + 1, o, none⟩) m3
    have cr1 := T0.c1; have cr2 := T0.c2; have fr1 := T0.f1; have fr2 := T0.f2; have HT := Lib.hid T0; have HMr := Lib.hid (HM.out.below (HB.out.trans (HT.out.below.mono Bz))); clear T0
    have S1 := Lib.hid (src_take HMr.out.keys hpl)
    have e1 : IntKind.i64.wrap ((posL L k : Nat) + 1) = (posL L k : Nat) + 1 := IntWalk.i64_in _ (by omega)
    have e2 : ((posL L k : Nat) + 1 : Int).toNat = posL L k + 1 := by omega
    have e3 : (0 : Int) ≤ (posL L k : Nat) + 1 := by omega
    have e4 : ((posL L k : Nat) : Int) ≤ (posL L k : Nat) + 1 := by omega
    have e5 : ((posL L k : Nat) : Int) + 1 ≤ (L.length : Nat) := by omega
    go_cut [0] (fun _ wx => ExTwo w1 w1.heap.size w1.heap.size (w1.heap.size + 1) 23 23 (posL L k + (L.length - (posL L k + 1))) 0 ((L.map fun q => Value.int .u64 q.1).take (posL L k) ++ (L.map fun q => Value.int .u64 q.1).drop (posL L k + 1)) [] wx)
    case first =>
      by_cases hcq : cap = posL L k + 1
      · go_region_law (first | (refine step_append_gen rfl (.tmp 18) (.tmp 22) 25 rfl (w1.heap.size + 1) 23 i0 (.int .u64 0) 1 8 Try.underlying25 hi hz0 hz1 hz2 rfl (by decide) _ 0 [] rfl HT.out.drew.own1 _ _ _ _ rfl (src_takeA HMr.out.keys hpl _ (by omega)) S1.out.2.1 S1.out.2.2 (cells_takeu (·.1) _ _ _) (by unfold maxLen; omega) (by omega) HT.out.drew.size ?_; intro a1 c1 wa ho hg hat; have M1 := Lib.hid (HT.out.drew.mid.grown1 ho hg hat); rw [Nat.zero_add, List.nil_append] at M1; rw [Nat.zero_add]; have g3 := M1.out.c1; have g4 := M1.out.c2; have g5 := M1.out.f1; have g6 := M1.out.f2; have ka : ∀ o, wa.cell? ⟨w.heap.size, o, none⟩ = w1.cell? ⟨w.heap.size, o, none⟩ := fun o => M1.out.below.cell (p := ⟨w.heap.size, o, none⟩) k3; have HMa := Lib.hid (HM.out.below (HB.out.trans (M1.out.below.mono Bz))); clear ho hg hat) | (refine step_append_gen rfl (.tmp 23) (.tmp 28) 25 rfl (w1.heap.size + 1) 23 i0 (.int .u64 0) 1 8 Try.underlying25 hi hz0 hz1 hz2 rfl (by decide) _ _ _ rfl M1.out.own1 _ _ _ _ rfl (src_dropA HMa.out.keys hq _ _ (.inl ⟨rfl, hcq⟩) (by omega)).1 (by rw [List.length_drop, List.length_map, Nat.mul_one]) (src_dropA HMa.out.keys hq _ _ (.inl ⟨rfl, hcq⟩) rfl).2.2 (cells_dropu (·.1) _ _ _) (by unfold maxLen; omega) (by omega) M1.out.size ?_; intro a2 c2 wb ho hg hat; have M2 := Lib.hid (M1.out.grown1 ho hg hat); have g7 := M2.out.c1; have g8 := M2.out.c2; have g9 := M2.out.f1; have g10 := M2.out.f2; clear ho hg hat))
        all_goals
          go_wp2_with fail
          go_meet
          exact ⟨_, _, _, _, M2.out.store1⟩
      · go_region_law (first | (refine step_append_gen rfl (.tmp 18) (.tmp 22) 25 rfl (w1.heap.size + 1) 23 i0 (.int .u64 0) 1 8 Try.underlying25 hi hz0 hz1 hz2 rfl (by decide) _ 0 [] rfl HT.out.drew.own1 _ _ _ _ rfl (src_takeA HMr.out.keys hpl _ (by omega)) S1.out.2.1 S1.out.2.2 (cells_takeu (·.1) _ _ _) (by unfold maxLen; omega) (by omega) HT.out.drew.size ?_; intro a1 c1 wa ho hg hat; have M1 := Lib.hid (HT.out.drew.mid.grown1 ho hg hat); rw [Nat.zero_add, List.nil_append] at M1; rw [Nat.zero_add]; have g3 := M1.out.c1; have g4 := M1.out.c2; have g5 := M1.out.f1; have g6 := M1.out.f2; have ka : ∀ o, wa.cell? ⟨w.heap.size, o, none⟩ = w1.cell? ⟨w.heap.size, o, none⟩ := fun o => M1.out.below.cell (p := ⟨w.heap.size, o, none⟩) k3; have HMa := Lib.hid (HM.out.below (HB.out.trans (M1.out.below.mono Bz))); clear ho hg hat) | (refine step_append_gen rfl (.tmp 23) (.tmp 28) 25 rfl (w1.heap.size + 1) 23 i0 (.int .u64 0) 1 8 Try.underlying25 hi hz0 hz1 hz2 rfl (by decide) _ _ _ rfl M1.out.own1 _ _ _ _ rfl (src_dropA HMa.out.keys hq _ _ (.inr ⟨rfl, hcq⟩) (by omega)).1 (by rw [List.length_drop, List.length_map, Nat.mul_one]) (src_dropA HMa.out.keys hq _ _ (.inr ⟨rfl, hcq⟩) rfl).2.2 (cells_dropu (·.1) _ _ _) (by unfold maxLen; omega) (by omega) M1.out.size ?_; intro a2 c2 wb ho hg hat; have M2 := Lib.hid (M1.out.grown1 ho hg hat); have g7 := M2.out.c1; have g8 := M2.out.c2; have g9 := M2.out.f1; have g10 := M2.out.f2; clear ho hg hat))
        all_goals
          go_wp2_with fail
          go_meet
          exact ⟨_, _, _, _, M2.out.store1⟩
    case rest =>
    clear HT HMr kr kq kf cr1 cr2 fr1 fr2
    clear S1 wr
    obtain ⟨a1, c1, a2, c2, T0⟩ := hcut
    obtain ⟨wr, rfl⟩ : ∃ wr, wr = wc := ⟨_, rfl⟩
    have kr : ∀ o, wr.cell? ⟨w.heap.size, o, none⟩ = w1.cell? ⟨w.heap.size, o, none⟩ := fun o => T0.below.cell (p := ⟨w.heap.size, o, none⟩) k3
    have kq : ∀ o, wr.cell? ⟨w.heap.size + 1, o, none⟩ = w1.cell? ⟨w.heap.size + 1, o, none⟩ := fun o => T0.below.cell (p := ⟨w.heap.size + 1, o, none⟩) m3
    have kf : ∀ o, wr.frozen? ⟨w.heap.size + 1, o, none⟩ = w1.frozen? ⟨w.heap.size + 1, o, none⟩ := fun o => T0.below.frozen (p := ⟨w.heap.size + 1, o, none⟩) m3
    have cr1 := T0.c1; have cr2 := T0.c2; have fr1 := T0.f1; have fr2 := T0.f2; have HT := Lib.hid T0; have HMr := Lib.hid (HM.out.below (HB.out.trans (HT.out.below.mono Bz))); clear T0
    have S1 := Lib.hid (src_take HMr.out.vals hpl)
    go_wp2_with fail
    go_cut [0] (fun _ wx => ExTwo w1 w1.heap.size w1.heap.size (w1.heap.size + 1) 23 23 (posL L k + (L.length - (posL L k + 1))) (posL L k + (L.length - (posL L k + 1))) ((L.map fun q => Value.int .u64 q.1).take (posL L k) ++ (L.map fun q => Value.int .u64 q.1).drop (posL L k + 1)) ((L.map fun q => Value.int .u64 q.2).take (posL L k) ++ (L.map fun q => Value.int .u64 q.2).drop (posL L k + 1)) wx)
    case first =>
      by_cases hcq : cap2 = posL L k + 1
      · go_region_law (first | (refine step_append_gen rfl (.tmp 32) (.tmp 36) 25 rfl (w1.heap.size + 1) 23 j0 (.int .u64 0) 1 8 Try.underlying25 hj hy0 hy1 hy2 rfl (by decide) _ 0 [] rfl HT.out.drew.own2 _ _ _ _ rfl (src_takeA HMr.out.vals hpl _ (by omega)) S1.out.2.1 S1.out.2.2 (cells_takeu (·.2) _ _ _) (by unfold maxLen; omega) (by omega) HT.out.drew.size ?_; intro a1 c1 wa ho hg hat; have M1 := Lib.hid (HT.out.drew.mid.grown2 ho hg hat); rw [Nat.zero_add, List.nil_append] at M1; rw [Nat.zero_add]; have g3 := M1.out.c1; have g4 := M1.out.c2; have g5 := M1.out.f1; have g6 := M1.out.f2; have ka : ∀ o, wa.cell? ⟨w.heap.size, o, none⟩ = w1.cell? ⟨w.heap.size, o, none⟩ := fun o => M1.out.below.cell (p := ⟨w.heap.size, o, none⟩) k3; have HMa := Lib.hid (HM.out.below (HB.out.trans (M1.out.below.mono Bz))); clear ho hg hat) | (refine step_append_gen rfl (.tmp 37) (.tmp 42) 25 rfl (w1.heap.size + 1) 23 j0 (.int .u64 0) 1 8 Try.underlying25 hj hy0 hy1 hy2 rfl (by decide) _ _ _ rfl M1.out.own2 _ _ _ _ rfl (src_dropA HMa.out.vals hq _ _ (.inl ⟨rfl, hcq⟩) (by omega)).1 (by rw [List.length_drop, List.length_map, Nat.mul_one]) (src_dropA HMa.out.vals hq _ _ (.inl ⟨rfl, hcq⟩) rfl).2.2 (cells_dropu (·.2) _ _ _) (by unfold maxLen; omega) (by omega) M1.out.size ?_; intro a2 c2 wb ho hg hat; have M2 := Lib.hid (M1.out.grown2 ho hg hat); have g7 := M2.out.c1; have g8 := M2.out.c2; have g9 := M2.out.f1; have g10 := M2.out.f2; clear ho hg hat))
        all_goals
          go_wp2_with fail
          go_meet
          exact ⟨_, _, _, _, M2.out.store2⟩
      · go_region_law (first | (refine step_append_gen rfl (.tmp 32) (.tmp 36) 25 rfl (w1.heap.size + 1) 23 j0 (.int .u64 0) 1 8 Try.underlying25 hj hy0 hy1 hy2 rfl (by decide) _ 0 [] rfl HT.out.drew.own2 _ _ _ _ rfl (src_takeA HMr.out.vals hpl _ (by omega)) S1.out.2.1 S1.out.2.2 (cells_takeu (·.2) _ _ _) (by unfold maxLen; omega) (by omega) HT.out.drew.size ?_; intro a1 c1 wa ho hg hat; have M1 := Lib.hid (HT.out.drew.mid.grown2 ho hg hat); rw [Nat.zero_add, List.nil_append] at M1; rw [Nat.zero_add]; have g3 := M1.out.c1; have g4 := M1.out.c2; have g5 := M1.out.f1; have g6 := M1.out.f2; have ka : ∀ o, wa.cell? ⟨w.heap.size, o, none⟩ = w1.cell? ⟨w.heap.size, o, none⟩ := fun o => M1.out.below.cell (p := ⟨w.heap.size, o, none⟩) k3; have HMa := Lib.hid (HM.out.below (HB.out.trans (M1.out.below.mono Bz))); clear ho hg hat) | (refine step_append_gen rfl (.tmp 37) (.tmp 42) 25 rfl (w1.heap.size + 1) 23 j0 (.int .u64 0) 1 8 Try.underlying25 hj hy0 hy1 hy2 rfl (by decide) _ _ _ rfl M1.out.own2 _ _ _ _ rfl (src_dropA HMa.out.vals hq _ _ (.inr ⟨rfl, hcq⟩) (by omega)).1 (by rw [List.length_drop, List.length_map, Nat.mul_one]) (src_dropA HMa.out.vals hq _ _ (.inr ⟨rfl, hcq⟩) rfl).2.2 (cells_dropu (·.2) _ _ _) (by unfold maxLen; omega) (by omega) M1.out.size ?_; intro a2 c2 wb ho hg hat; have M2 := Lib.hid (M1.out.grown2 ho hg hat); have g7 := M2.out.c1; have g8 := M2.out.c2; have g9 := M2.out.f1; have g10 := M2.out.f2; clear ho hg hat))
        all_goals
          go_wp2_with fail
          go_meet
          exact ⟨_, _, _, _, M2.out.store2⟩
    case rest =>
    clear HT HMr kr kq kf cr1 cr2 fr1 fr2
    clear S1 wr
    obtain ⟨a1, c1, a2, c2, T0⟩ := hcut
    obtain ⟨wr, rfl⟩ : ∃ wr, wr = wc := ⟨_, rfl⟩
    have kr : ∀ o, wr.cell? ⟨w.heap.size, o, none⟩ = w1.cell? ⟨w.heap.size, o, none⟩ := fun o => T0.below.cell (p := ⟨w.heap.size, o, none⟩) k3
    have kq : ∀ o, wr.cell? ⟨w.heap.size + 1, o, none⟩ = w1.cell? ⟨w.heap.size + 1, o, none⟩ := fun o => T0.below.cell (p := ⟨w.heap.size + 1, o, none⟩) m3
    have kf : ∀ o, wr.frozen? ⟨w.heap.size + 1, o, none⟩ = w1.frozen? ⟨w.heap.size + 1, o, none⟩ := fun o => T0.below.frozen (p := ⟨w.heap.size + 1, o, none⟩) m3
    have cr1 := T0.c1; have cr2 := T0.c2; have fr1 := T0.f1; have fr2 := T0.f2; have HT := Lib.hid T0; have HMr := Lib.hid (HM.out.below (HB.out.trans (HT.out.below.mono Bz))); clear T0
    go_wp2_with fail
    refine bodyPost_ret (v := .agg #[.slice a1 (posL L k + (L.length - (posL L k + 1))) c1, .slice a2 (posL L k + (L.length - (posL L k + 1))) c2]) (by simp [results, Try.results40, go_sem, *]) rfl ⟨_, _, rfl, ?_, ?_⟩
    · have h1 := HT.out.own1
      have h2 := HT.out.own2
      rw [withoutu_keys L k HH.out] at h1
      rw [withoutu_vals L k HH.out] at h2
      rw [← withoutu_len L k HH.out] at h1 h2 ⊢
      exact ⟨ownsRow_base (ownsRow_setCell_below (ownsRow_setCell_below h1 (Nat.lt_succ_of_lt m3) _) (Nat.lt_succ_of_lt m3) _) (Nat.zero_le _), ownsRow_base (ownsRow_setCell_below (ownsRow_setCell_below h2 (Nat.lt_succ_of_lt m3) _) (Nat.lt_succ_of_lt m3) _) (Nat.zero_le _)⟩
    · exact ((HB.out.trans (HT.out.below.mono Bz)).setCell (Nat.le_succ _) _).setCell (Nat.le_succ _) _

end Go.Proofs.Ytikkfkoaipenbaa
