/- Maps of package store: With. -/
import Derived.Test.YtikkfkoaipenbaaMapub
import Derived.Deep.DeepCutAuto
namespace Go.Proofs.Ytikkfkoaipenbaa
open Go.RowKit

/-- The call returns a map that holds these pairs. -/
def RetuMap (L : List (Int × Int)) (w : World) (e : Ending) (w' : World) : Prop :=
  ∃ ks vs, e = .returned (.agg #[ks, vs]) ∧ MapuIs w' ks vs L ∧ Below w.heap.size w w'

theorem infou : (Try.prog.info? 23).map (fun i => (i.zero, i.size, i.bytes)) = some (some (.int .u64 0), 1, 8) := by kernel_rfl
theorem infoKu : (Try.prog.info? 23).map (fun i => (i.zero, i.size, i.bytes)) = some (some (.int .u64 0), 1, 8) := by kernel_rfl

theorem cells_takeu (f : Int × Int → Int) (kd : IntKind) (L : List (Int × Int)) (p : Nat) : ∀ u ∈ (L.map fun q => Value.int kd (f q)).take p, u.oneCell' = true := by
  intro u hu
  obtain ⟨q, _, rfl⟩ := List.mem_map.1 (List.mem_of_mem_take hu)
  rfl

theorem one_cellu (kd : IntKind) (x : Int) : ∀ u ∈ [Value.int kd x], u.oneCell' = true := by
  intro u hu
  simp at hu
  subst hu
  rfl

theorem cells_dropu (f : Int × Int → Int) (kd : IntKind) (L : List (Int × Int)) (p : Nat) : ∀ u ∈ (L.map fun q => Value.int kd (f q)).drop p, u.oneCell' = true := by
  intro u hu
  obtain ⟨q, _, rfl⟩ := List.mem_map.1 (List.mem_of_mem_drop hu)
  rfl

theorem withu_keys (L : List (Int × Int)) (k v : Int) (q : Nat) (hq : q = if hasL L k = true then posL L k + 1 else posL L k) :
    ((L.map fun p => Value.int .u64 p.1).take (posL L k) ++ [.int .u64 k]) ++ (L.map fun p => Value.int .u64 p.1).drop q = (withL L k v).map fun p => .int .u64 p.1 := by
  subst hq; simp [withL]
theorem withu_vals (L : List (Int × Int)) (k v : Int) (q : Nat) (hq : q = if hasL L k = true then posL L k + 1 else posL L k) :
    ((L.map fun p => Value.int .u64 p.2).take (posL L k) ++ [.int .u64 v]) ++ (L.map fun p => Value.int .u64 p.2).drop q = (withL L k v).map fun p => .int .u64 p.2 := by
  subst hq; simp [withL]
theorem withu_len (L : List (Int × Int)) (k v : Int) (q : Nat) (hq : q = if hasL L k = true then posL L k + 1 else posL L k) : (withL L k v).length = posL L k + 1 + (L.length - q) := by
  have := posL_le L k
  subst hq; simp [withL]; omega

set_option maxHeartbeats 4000000 in
theorem withu_any (ks vs : Value) (L : List (Int × Int)) (k v : Int) (w : World) (hm : MapuIs w ks vs L) (hs : Sorted L) (hlen : L.length ≤ 900) :
    Calls Try.prog 41 #[.agg #[ks, vs], .int .u64 k, .int .u64 v] w (RetuMap (withL L k v) w) := by
  obtain ⟨i0, hi, hz0, hz1, hz2⟩ := info_parts infoKu
  obtain ⟨j0, hj, hy0, hy1, hy2⟩ := info_parts infou
  have hpl := posL_le L k
  have HH := Lib.hid (fun h => ((has_iff L k hs).1 h).1)
  have HM := Lib.hid hm
  have HS := Lib.hid hs
  obtain ⟨ao, cap, rfl⟩ := ownsRow_form hm.keys
  obtain ⟨bo, cap2, rfl⟩ := ownsRow_form hm.vals
  clear hm hs
  go_enter Try.func41, Try.ntmps41
  go_wp2_with fail
  refine (findu_any _ _ L k _ ((HM.out.below (by repeat' (first | with_reducible exact Below.refl _ _ | with_reducible assumption | with_reducible apply below_drewN | with_reducible apply Below.drew | with_reducible refine Below.setCell ?_ ?_ _ | with_reducible refine Below.alloc ?_ ?_ _ | omega | (simp; done) | (simp; omega)))).below (by repeat' (first | with_reducible exact Below.refl _ _ | with_reducible assumption | with_reducible apply below_drewN | with_reducible apply Below.drew | with_reducible refine Below.setCell ?_ ?_ _ | with_reducible refine Below.alloc ?_ ?_ _ | omega | (simp; done) | (simp; omega)))) HS.out (by omega)).mono ?_
  rintro e w1 ⟨rfl, hb⟩
  have B : Below w.heap.size w w1 := Below.trans (by repeat' (first | with_reducible exact Below.refl _ _ | with_reducible assumption | with_reducible apply below_drewN | with_reducible apply Below.drew | with_reducible refine Below.setCell ?_ ?_ _ | with_reducible refine Below.alloc ?_ ?_ _ | omega | (simp; done) | (simp; omega))) (hb.mono (by first | omega | (simp; done) | (simp; omega))); have Bz := B.size
  obtain ⟨k1, k2, k3, k4⟩ := keepB hb w.heap.size (by first | omega | (simp; done) | (simp; omega))
  obtain ⟨m1, m2, m3, m4⟩ := keepB hb (w.heap.size + 1) (by first | omega | (simp; done) | (simp; omega))
  clear hb
  go_wp2_with fail
  have T0 : Two w1 w1.heap.size w1.heap.size (w1.heap.size + 1) 23 23 (w1.alloc (.cells #[.slice none 0 0, .slice none 0 0] 53)) (.slice none 0 0) (.slice none 0 0) 0 0 [] [] :=
    ⟨(Below.refl _ _).alloc (Nat.le_refl _) _, Nat.le_refl _, Nat.lt_succ_self _, by simp, World.ownsRow_nil _ _ _ _, World.ownsRow_nil _ _ _ _, fun k h => by simp [Value.ownBlock] at h, by simp, by simp, by simp, by simp⟩
  have HB := Lib.hid B
  have hcap := (ownsRow_cap HM.out.keys)
  have hcap2 := (ownsRow_cap HM.out.vals)
  obtain ⟨hc1, hc2⟩ := hcap
  obtain ⟨hd1, hd2⟩ := hcap2
  obtain ⟨wr, hwr⟩ : ∃ wr, wr = w1.alloc (.cells #[.slice none 0 0, .slice none 0 0] 53) := ⟨_, rfl⟩
  rw [← hwr] at T0 ⊢
  clear hwr B
  have hpc : posL L k ≤ cap := by omega
  have hpc2 : posL L k ≤ cap2 := by omega
  have kr : ∀ o, wr.cell? ⟨w.heap.size, o, none⟩ = w1.cell? ⟨w.heap.size, o, none⟩ := fun o => T0.below.cell (p := ⟨w.heap.size, o, none⟩) k3
  have kq : ∀ o, wr.cell? ⟨w.heap.size + 1, o, none⟩ = w1.cell? ⟨w.heap.size + 1, o, none⟩ := fun o => T0.below.cell (p := ⟨w.heap.size + 1, o, none⟩) m3
  have kf : ∀ o, wr.frozen? ⟨w.heap.size + 1, o, none⟩ = w1.frozen? ⟨w.heap.size + 1, o, none⟩ := fun o => T0.below.frozen (p := ⟨w.heap.size + 1, o, none⟩) m3
  have cr1 := T0.c1; have cr2 := T0.c2; have fr1 := T0.f1; have fr2 := T0.f2; have HT := Lib.hid T0; have HMr := Lib.hid (HM.out.below (HB.out.trans (HT.out.below.mono Bz))); clear T0
  have S1 := Lib.hid (src_take HMr.out.keys hpl)
  go_cut [] (fun wx => ExTwo w1 w1.heap.size w1.heap.size (w1.heap.size + 1) 23 23 (posL L k) 0 ((L.map fun q => Value.int .u64 q.1).take (posL L k)) [] wx)
  case first =>
    go_region_law (refine step_append_gen rfl (.tmp 17) (.tmp 21) 25 rfl (w1.heap.size + 1) 23 i0 (.int .u64 0) 1 8 Try.underlying25 hi hz0 hz1 hz2 rfl (by decide) _ 0 [] rfl HT.out.drew.own1 _ _ _ _ rfl S1.out.1 S1.out.2.1 S1.out.2.2 (cells_takeu (·.1) _ _ _) (by unfold maxLen; omega) (by omega) HT.out.drew.size ?_; intro a1 c1 wa ho hg hat; have T1 := Lib.hid (HT.out.drew.stored1 hg ho hat); rw [Nat.zero_add] at T1; rw [Nat.zero_add]; obtain ⟨-, -, g3, g4, g5, g6, -⟩ := HT.out.drew.grown1 hg; clear ho hg hat)
    all_goals
      go_wp2_with fail
      go_meet
      exact ⟨_, _, _, _, T1.out⟩
  case rest =>
  clear HT HMr kr kq kf cr1 cr2 fr1 fr2
  clear S1 wr
  obtain ⟨a1, c1, a2, c2, T0⟩ := hcut
  obtain ⟨wr, rfl⟩ : ∃ wr, wr = wc := ⟨_, rfl⟩
  have kr : ∀ o, wr.cell? ⟨w.heap.size, o, none⟩ = w1.cell? ⟨w.heap.size, o, none⟩ := fun o => T0.below.cell (p := ⟨w.heap.size, o, none⟩) k3
  have kq : ∀ o, wr.cell? ⟨w.heap.size + 1, o, none⟩ = w1.cell? ⟨w.heap.size + 1, o, none⟩ := fun o => T0.below.cell (p := ⟨w.heap.size + 1, o, none⟩) m3
  have kf : ∀ o, wr.frozen? ⟨w.heap.size + 1, o, none⟩ = w1.frozen? ⟨w.heap.size + 1, o, none⟩ := fun o => T0.below.frozen (p := ⟨w.heap.size + 1, o, none⟩) m3
  have cr1 := T0.c1; have cr2 := T0.c2; have fr1 := T0.f1; have fr2 := T0.f2; have HT := Lib.hid T0; have HMr := Lib.hid (HM.out.below (HB.out.trans (HT.out.below.mono Bz))); clear T0
  have S1 := Lib.hid (src_take HMr.out.vals hpl)
  go_wp2_with fail
  go_cut [] (fun wx => ExTwo w1 w1.heap.size w1.heap.size (w1.heap.size + 1) 23 23 (posL L k) (posL L k) ((L.map fun q => Value.int .u64 q.1).take (posL L k)) ((L.map fun q => Value.int .u64 q.2).take (posL L k)) wx)
  case first =>
    go_region_law (refine step_append_gen rfl (.tmp 25) (.tmp 29) 25 rfl (w1.heap.size + 1) 23 j0 (.int .u64 0) 1 8 Try.underlying25 hj hy0 hy1 hy2 rfl (by decide) _ 0 [] rfl HT.out.drew.own2 _ _ _ _ rfl S1.out.1 S1.out.2.1 S1.out.2.2 (cells_takeu (·.2) _ _ _) (by unfold maxLen; omega) (by omega) HT.out.drew.size ?_; intro a1 c1 wa ho hg hat; have T1 := Lib.hid (HT.out.drew.stored2 hg ho hat); rw [Nat.zero_add] at T1; rw [Nat.zero_add]; obtain ⟨-, -, g3, g4, g5, g6, -⟩ := HT.out.drew.grown2 hg; clear ho hg hat)
    all_goals
      go_wp2_with fail
      go_meet
      exact ⟨_, _, _, _, T1.out⟩
  case rest =>
  clear HT HMr kr kq kf cr1 cr2 fr1 fr2
  clear S1 wr
  obtain ⟨a1, c1, a2, c2, T0⟩ := hcut
  obtain ⟨wr, rfl⟩ : ∃ wr, wr = wc := ⟨_, rfl⟩
  have kr : ∀ o, wr.cell? ⟨w.heap.size, o, none⟩ = w1.cell? ⟨w.heap.size, o, none⟩ := fun o => T0.below.cell (p := ⟨w.heap.size, o, none⟩) k3
  have kq : ∀ o, wr.cell? ⟨w.heap.size + 1, o, none⟩ = w1.cell? ⟨w.heap.size + 1, o, none⟩ := fun o => T0.below.cell (p := ⟨w.heap.size + 1, o, none⟩) m3
  have kf : ∀ o, wr.frozen? ⟨w.heap.size + 1, o, none⟩ = w1.frozen? ⟨w.heap.size + 1, o, none⟩ := fun o => T0.below.frozen (p := ⟨w.heap.size + 1, o, none⟩) m3
  have cr1 := T0.c1; have cr2 := T0.c2; have fr1 := T0.f1; have fr2 := T0.f2; have HT := Lib.hid T0; have HMr := Lib.hid (HM.out.below (HB.out.trans (HT.out.below.mono Bz))); clear T0
  go_upto_region 5 with fail
  go_cut [] (fun wx => ExTwo w1 w1.heap.size w1.heap.size (w1.heap.size + 1) 23 23 (posL L k + 1) (posL L k) ((L.map fun q => Value.int .u64 q.1).take (posL L k) ++ [.int .u64 k]) ((L.map fun q => Value.int .u64 q.2).take (posL L k)) wx)
  case first =>
    go_wp2_with (at_builtin; refine wpList_append_gen rfl (.tmp 33) (.tmp 35) 25 rfl (w1.heap.size + 1) 23 i0 (.int .u64 0) 1 8 Try.underlying25 hi hz0 hz1 hz2 rfl (by decide) _ _ _ rfl (HT.out.alloc _).own1 (some ⟨wr.heap.size, 0, none⟩) 1 1 [.int .u64 k] rfl (fun h => (by cases h)) rfl (fun ad h => (by cases h; exact one_new _ _ _)) (one_cellu _ _) (by unfold maxLen; omega) (by omega) (HT.out.alloc _).size ?_; intro a3 c3 wa ho hg hat; have T1 := Lib.hid ((HT.out.alloc _).stored1 hg ho hat); obtain ⟨-, -, g3, g4, g5, g6, -⟩ := (HT.out.alloc _).grown1 hg; clear ho hg hat)
    go_meet
    exact ⟨_, _, _, _, T1.out⟩
  case rest =>
  clear HT HMr kr kq kf cr1 cr2 fr1 fr2
  clear wr
  obtain ⟨a1, c1, a2, c2, T0⟩ := hcut
  obtain ⟨wr, rfl⟩ : ∃ wr, wr = wc := ⟨_, rfl⟩
  have kr : ∀ o, wr.cell? ⟨w.heap.size, o, none⟩ = w1.cell? ⟨w.heap.size, o, none⟩ := fun o => T0.below.cell (p := ⟨w.heap.size, o, none⟩) k3
  have kq : ∀ o, wr.cell? ⟨w.heap.size + 1, o, none⟩ = w1.cell? ⟨w.heap.size + 1, o, none⟩ := fun o => T0.below.cell (p := ⟨w.heap.size + 1, o, none⟩) m3
  have kf : ∀ o, wr.frozen? ⟨w.heap.size + 1, o, none⟩ = w1.frozen? ⟨w.heap.size + 1, o, none⟩ := fun o => T0.below.frozen (p := ⟨w.heap.size + 1, o, none⟩) m3
  have cr1 := T0.c1; have cr2 := T0.c2; have fr1 := T0.f1; have fr2 := T0.f2; have HT := Lib.hid T0; have HMr := Lib.hid (HM.out.below (HB.out.trans (HT.out.below.mono Bz))); clear T0
  go_upto_region 6 with fail
  go_cut [] (fun wx => ExTwo w1 w1.heap.size w1.heap.size (w1.heap.size + 1) 23 23 (posL L k + 1) (posL L k + 1) ((L.map fun q => Value.int .u64 q.1).take (posL L k) ++ [.int .u64 k]) ((L.map fun q => Value.int .u64 q.2).take (posL L k) ++ [.int .u64 v]) wx)
  case first =>
    go_wp2_with (at_builtin; refine wpList_append_gen rfl (.tmp 39) (.tmp 41) 25 rfl (w1.heap.size + 1) 23 j0 (.int .u64 0) 1 8 Try.underlying25 hj hy0 hy1 hy2 rfl (by decide) _ _ _ rfl (HT.out.alloc _).own2 (some ⟨wr.heap.size, 0, none⟩) 1 1 [.int .u64 v] rfl (fun h => (by cases h)) rfl (fun ad h => (by cases h; exact one_new _ _ _)) (one_cellu _ _) (by unfold maxLen; omega) (by omega) (HT.out.alloc _).size ?_; intro a3 c3 wa ho hg hat; have T1 := Lib.hid ((HT.out.alloc _).stored2 hg ho hat); obtain ⟨-, -, g3, g4, g5, g6, -⟩ := (HT.out.alloc _).grown2 hg; clear ho hg hat)
    go_meet
    exact ⟨_, _, _, _, T1.out⟩
  case rest =>
  clear HT HMr kr kq kf cr1 cr2 fr1 fr2
  clear wr
  obtain ⟨a1, c1, a2, c2, T0⟩ := hcut
  obtain ⟨wr, rfl⟩ : ∃ wr, wr = wc := ⟨_, rfl⟩
  have kr : ∀ o, wr.cell? ⟨w.heap.size, o, none⟩ = w1.cell? ⟨w.heap.size, o, none⟩ := fun o => T0.below.cell (p := ⟨w.heap.size, o, none⟩) k3
  have kq : ∀ o, wr.cell? ⟨w.heap.size + 1, o, none⟩ = w1.cell? ⟨w.heap.size + 1, o, none⟩ := fun o => T0.below.cell (p := ⟨w.heap.size + 1, o, none⟩) m3
  have kf : ∀ o, wr.frozen? ⟨w.heap.size + 1, o, none⟩ = w1.frozen? ⟨w.heap.size + 1, o, none⟩ := fun o => T0.below.frozen (p := ⟨w.heap.size + 1, o, none⟩) m3
  have cr1 := T0.c1; have cr2 := T0.c2; have fr1 := T0.f1; have fr2 := T0.f2; have HT := Lib.hid T0; have HMr := Lib.hid (HM.out.below (HB.out.trans (HT.out.below.mono Bz))); clear T0
  obtain ⟨q, hq, hqn⟩ : ∃ q, (q = if hasL L k = true then posL L k + 1 else posL L k) ∧ q ≤ L.length := by
    refine ⟨_, rfl, ?_⟩
    split
    · rename_i h; exact HH.out h
    · exact hpl
  have HQ := Lib.hid hq
  clear hq
  have hqc : q ≤ cap := by omega
  have hqc2 : q ≤ cap2 := by omega
  go_upto_if 44 with fail
  go_cut [7, 8] (fun s7 _ wx => s7 = .int .i64 (q : Nat) ∧ wx = wr)
  case first =>
    cases hh : hasL L k
    · have hq0 := HQ.out
      rw [hh] at hq0
      simp only [Bool.false_eq_true, if_false] at hq0
      have HQ0 := Lib.hid hq0
      clear hq0
      go_wp2_with fail
      go_meet
      exact ⟨by rw [HQ0.out], rfl⟩
    · have hq0 := HQ.out
      rw [hh] at hq0
      simp only [if_true] at hq0
      have HQ0 := Lib.hid hq0
      clear hq0
      go_wp2_with fail
      go_meet
      exact ⟨by rw [HQ0.out]; go_num, rfl⟩
  case rest =>
  obtain ⟨rfl, rfl⟩ := hcut
  obtain ⟨wr, rfl⟩ : ∃ wr, wr = wc := ⟨_, rfl⟩
  have S1 := Lib.hid (src_dropA HMr.out.keys hqn)
  go_wp2_with fail
  go_cut [0] (fun _ wx => ExTwo w1 w1.heap.size w1.heap.size (w1.heap.size + 1) 23 23 (posL L k + 1 + (L.length - q)) (posL L k + 1) (((L.map fun q => Value.int .u64 q.1).take (posL L k) ++ [.int .u64 k]) ++ (L.map fun q => Value.int .u64 q.1).drop q) ((L.map fun q => Value.int .u64 q.2).take (posL L k) ++ [.int .u64 v]) wx)
  case first =>
    by_cases hcq : cap = q
    · go_region_law (refine step_append_gen rfl (.tmp 48) (.tmp 52) 25 rfl (w1.heap.size + 1) 23 i0 (.int .u64 0) 1 8 Try.underlying25 hi hz0 hz1 hz2 rfl (by decide) _ _ _ rfl HT.out.drew.own1 _ _ _ _ rfl (S1.out _ _ (.inl ⟨rfl, hcq⟩) (by omega)).1 (by rw [List.length_drop, List.length_map, Nat.mul_one]) (S1.out _ _ (.inl ⟨rfl, hcq⟩) rfl).2.2 (cells_dropu (·.1) _ _ _) (by unfold maxLen; omega) (by omega) HT.out.drew.size ?_; intro a1 c1 wa ho hg hat; have T1 := Lib.hid (HT.out.drew.stored1 hg ho hat); obtain ⟨-, -, g3, g4, g5, g6, -⟩ := HT.out.drew.grown1 hg; clear ho hg hat)
      all_goals
        go_wp2_with fail
        go_meet
        exact ⟨_, _, _, _, T1.out⟩
    · go_region_law (refine step_append_gen rfl (.tmp 48) (.tmp 52) 25 rfl (w1.heap.size + 1) 23 i0 (.int .u64 0) 1 8 Try.underlying25 hi hz0 hz1 hz2 rfl (by decide) _ _ _ rfl HT.out.drew.own1 _ _ _ _ rfl (S1.out _ _ (.inr ⟨rfl, hcq⟩) (by omega)).1 (by rw [List.length_drop, List.length_map, Nat.mul_one]) (S1.out _ _ (.inr ⟨rfl, hcq⟩) rfl).2.2 (cells_dropu (·.1) _ _ _) (by unfold maxLen; omega) (by omega) HT.out.drew.size ?_; intro a1 c1 wa ho hg hat; have T1 := Lib.hid (HT.out.drew.stored1 hg ho hat); obtain ⟨-, -, g3, g4, g5, g6, -⟩ := HT.out.drew.grown1 hg; clear ho hg hat)
      all_goals
        go_wp2_with fail
        go_meet
        exact ⟨_, _, _, _, T1.out⟩
  case rest =>
  clear HT HMr kr kq kf cr1 cr2 fr1 fr2
  clear S1 wr
  obtain ⟨a1, c1, a2, c2, T0⟩ := hcut
  obtain ⟨wr, rfl⟩ : ∃ wr, wr = wc := ⟨_, rfl⟩
  have kr : ∀ o, wr.cell? ⟨w.heap.size, o, none⟩ = w1.cell? ⟨w.heap.size, o, none⟩ := fun o => T0.below.cell (p := ⟨w.heap.size, o, none⟩) k3
  have kq : ∀ o, wr.cell? ⟨w.heap.size + 1, o, none⟩ = w1.cell? ⟨w.heap.size + 1, o, none⟩ := fun o => T0.below.cell (p := ⟨w.heap.size + 1, o, none⟩) m3
  have kf : ∀ o, wr.frozen? ⟨w.heap.size + 1, o, none⟩ = w1.frozen? ⟨w.heap.size + 1, o, none⟩ := fun o => T0.below.frozen (p := ⟨w.heap.size + 1, o, none⟩) m3
  have cr1 := T0.c1; have cr2 := T0.c2; have fr1 := T0.f1; have fr2 := T0.f2; have HT := Lib.hid T0; have HMr := Lib.hid (HM.out.below (HB.out.trans (HT.out.below.mono Bz))); clear T0
  have S1 := Lib.hid (src_dropA HMr.out.vals hqn)
  go_wp2_with fail
  go_cut [0] (fun _ wx => ExTwo w1 w1.heap.size w1.heap.size (w1.heap.size + 1) 23 23 (posL L k + 1 + (L.length - q)) (posL L k + 1 + (L.length - q)) (((L.map fun q => Value.int .u64 q.1).take (posL L k) ++ [.int .u64 k]) ++ (L.map fun q => Value.int .u64 q.1).drop q) (((L.map fun q => Value.int .u64 q.2).take (posL L k) ++ [.int .u64 v]) ++ (L.map fun q => Value.int .u64 q.2).drop q) wx)
  case first =>
    by_cases hcq : cap2 = q
    · go_region_law (refine step_append_gen rfl (.tmp 56) (.tmp 60) 25 rfl (w1.heap.size + 1) 23 j0 (.int .u64 0) 1 8 Try.underlying25 hj hy0 hy1 hy2 rfl (by decide) _ _ _ rfl HT.out.drew.own2 _ _ _ _ rfl (S1.out _ _ (.inl ⟨rfl, hcq⟩) (by omega)).1 (by rw [List.length_drop, List.length_map, Nat.mul_one]) (S1.out _ _ (.inl ⟨rfl, hcq⟩) rfl).2.2 (cells_dropu (·.2) _ _ _) (by unfold maxLen; omega) (by omega) HT.out.drew.size ?_; intro a1 c1 wa ho hg hat; have T1 := Lib.hid (HT.out.drew.stored2 hg ho hat); obtain ⟨-, -, g3, g4, g5, g6, -⟩ := HT.out.drew.grown2 hg; clear ho hg hat)
      all_goals
        go_wp2_with fail
        go_meet
        exact ⟨_, _, _, _, T1.out⟩
    · go_region_law (refine step_append_gen rfl (.tmp 56) (.tmp 60) 25 rfl (w1.heap.size + 1) 23 j0 (.int .u64 0) 1 8 Try.underlying25 hj hy0 hy1 hy2 rfl (by decide) _ _ _ rfl HT.out.drew.own2 _ _ _ _ rfl (S1.out _ _ (.inr ⟨rfl, hcq⟩) (by omega)).1 (by rw [List.length_drop, List.length_map, Nat.mul_one]) (S1.out _ _ (.inr ⟨rfl, hcq⟩) rfl).2.2 (cells_dropu (·.2) _ _ _) (by unfold maxLen; omega) (by omega) HT.out.drew.size ?_; intro a1 c1 wa ho hg hat; have T1 := Lib.hid (HT.out.drew.stored2 hg ho hat); obtain ⟨-, -, g3, g4, g5, g6, -⟩ := HT.out.drew.grown2 hg; clear ho hg hat)
      all_goals
        go_wp2_with fail
        go_meet
        exact ⟨_, _, _, _, T1.out⟩
  case rest =>
  clear HT HMr kr kq kf cr1 cr2 fr1 fr2
  clear S1 wr
  obtain ⟨a1, c1, a2, c2, T0⟩ := hcut
  obtain ⟨wr, rfl⟩ : ∃ wr, wr = wc := ⟨_, rfl⟩
  have kr : ∀ o, wr.cell? ⟨w.heap.size, o, none⟩ = w1.cell? ⟨w.heap.size, o, none⟩ := fun o => T0.below.cell (p := ⟨w.heap.size, o, none⟩) k3
  have kq : ∀ o, wr.cell? ⟨w.heap.size + 1, o, none⟩ = w1.cell? ⟨w.heap.size + 1, o, none⟩ := fun o => T0.below.cell (p := ⟨w.heap.size + 1, o, none⟩) m3
  have kf : ∀ o, wr.frozen? ⟨w.heap.size + 1, o, none⟩ = w1.frozen? ⟨w.heap.size + 1, o, none⟩ := fun o => T0.below.frozen (p := ⟨w.heap.size + 1, o, none⟩) m3
  have cr1 := T0.c1; have cr2 := T0.c2; have fr1 := T0.f1; have fr2 := T0.f2; have HT := Lib.hid T0; have HMr := Lib.hid (HM.out.below (HB.out.trans (HT.out.below.mono Bz))); clear T0
  go_wp2_with fail
  have HW := Lib.hid HT.out
  refine bodyPost_ret (v := .agg #[.slice a1 (posL L k + 1 + (L.length - q)) c1, .slice a2 (posL L k + 1 + (L.length - q)) c2]) (by simp [results, Try.results41, go_sem, *]) rfl ⟨_, _, rfl, ?_, ?_⟩
  · have h1 := HT.out.own1
    have h2 := HT.out.own2
    rw [withu_keys L k v q HQ.out] at h1
    rw [withu_vals L k v q HQ.out] at h2
    rw [← withu_len L k v q HQ.out] at h1 h2 ⊢
    exact ⟨ownsRow_base (ownsRow_setCell_below (ownsRow_setCell_below h1 (Nat.lt_succ_of_lt m3) _) (Nat.lt_succ_of_lt m3) _) (Nat.zero_le _), ownsRow_base (ownsRow_setCell_below (ownsRow_setCell_below h2 (Nat.lt_succ_of_lt m3) _) (Nat.lt_succ_of_lt m3) _) (Nat.zero_le _)⟩
  · exact ((HB.out.trans (HT.out.below.mono Bz)).setCell (Nat.le_succ _) _).setCell (Nat.le_succ _) _

end Go.Proofs.Ytikkfkoaipenbaa
