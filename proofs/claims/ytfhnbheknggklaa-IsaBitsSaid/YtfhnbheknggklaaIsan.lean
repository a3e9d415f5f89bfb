/- Contracts of granuleref03: rest, Word. -/
import Derived.Test.YtfhnbheknggklaaIsam
namespace Go.Proofs.Ytfhnbheknggklaa
open Go.RowKit
set_option linter.unusedSimpArgs false
set_option linter.unusedVariables false


set_option maxHeartbeats 1000000 in
theorem rest15 (d imm : Int) (hd : 0 ≤ d ∧ d ≤ 31) (hi : -262144 ≤ imm ∧ imm ≤ 262143) (w : World) : Calls Try.prog 28 #[instrV ⟨15, d, 0, 0, imm, 0⟩] w (RetB (.int .i64 (wordX ⟨15, d, 0, 0, imm, 0⟩)) w) := by
  have HI := Lib.hid (show -(2 ^ (19 : Int).toNat) ≤ imm ∧ imm < 2 ^ (19 : Int).toNat by have : (2 : Int) ^ (19 : Int).toNat = 524288 := rfl; rw [this]; omega)
  have HP : Hid (atZ imm 19 5 = imm % 524288 * 32) := Lib.hid (by simp [atZ])
  have HK := HI
  have hb1 : 0 ≤ imm % 524288 * 32 ∧ imm % 524288 * 32 < 16777216 := by omega
  have HW : Hid (wrap64 (3019898880 + d + imm % 524288 * 32) = wordX ⟨15, d, 0, 0, imm, 0⟩) := Lib.hid (by rw [IntWalk.wrap64_in _ (by omega)]; simp [wordX])
  clear hi
  simp only [instrV]
  go_enter Try.func28, Try.ntmps28
  go_wp2_with fail
  refine wp_region_qb1 w.heap.size (by kernel_rfl) (by kernel_rfl) (by first | omega | (simp; done) | (simp; omega)) (fun kq => ?_); (repeat (go_big_quiet_step ((go_at_call 27; first | exact quietB (at_any _ _ _ _ (by decide) HI.out) | exact quietB (at_any _ _ _ _ (by decide) HK.out))))); refine wpQuiet_nil ?_; clear kq; intro wq hb
  rw [HP.out]
  go_wp2_with fail
  go_ret
  refine ⟨?_, Below.trans (by repeat' (first | with_reducible exact Below.refl _ _ | with_reducible assumption | with_reducible apply below_drewN | with_reducible apply Below.drew | with_reducible refine Below.setCell ?_ ?_ _ | with_reducible refine Below.alloc ?_ ?_ _ | omega | (simp; done) | (simp; omega))) (hb.mono (by first | omega | (simp; done) | (simp; omega)))⟩
  rw [← HW.out]
  rfl

set_option maxHeartbeats 1000000 in
theorem rest16 (d imm : Int) (hd : 0 ≤ d ∧ d ≤ 31) (hi : -262144 ≤ imm ∧ imm ≤ 262143) (w : World) : Calls Try.prog 28 #[instrV ⟨16, d, 0, 0, imm, 0⟩] w (RetB (.int .i64 (wordX ⟨16, d, 0, 0, imm, 0⟩)) w) := by
  have HI := Lib.hid (show -(2 ^ (19 : Int).toNat) ≤ imm ∧ imm < 2 ^ (19 : Int).toNat by have : (2 : Int) ^ (19 : Int).toNat = 524288 := rfl; rw [this]; omega)
  have HP : Hid (atZ imm 19 5 = imm % 524288 * 32) := Lib.hid (by simp [atZ])
  have HK := HI
  have hb1 : 0 ≤ imm % 524288 * 32 ∧ imm % 524288 * 32 < 16777216 := by omega
  have HW : Hid (wrap64 (3036676096 + d + imm % 524288 * 32) = wordX ⟨16, d, 0, 0, imm, 0⟩) := Lib.hid (by rw [IntWalk.wrap64_in _ (by omega)]; simp [wordX])
  clear hi
  simp only [instrV]
  go_enter Try.func28, Try.ntmps28
  go_wp2_with fail
  refine wp_region_qb1 w.heap.size (by kernel_rfl) (by kernel_rfl) (by first | omega | (simp; done) | (simp; omega)) (fun kq => ?_); (repeat (go_big_quiet_step ((go_at_call 27; first | exact quietB (at_any _ _ _ _ (by decide) HI.out) | exact quietB (at_any _ _ _ _ (by decide) HK.out))))); refine wpQuiet_nil ?_; clear kq; intro wq hb
  rw [HP.out]
  go_wp2_with fail
  go_ret
  refine ⟨?_, Below.trans (by repeat' (first | with_reducible exact Below.refl _ _ | with_reducible assumption | with_reducible apply below_drewN | with_reducible apply Below.drew | with_reducible refine Below.setCell ?_ ?_ _ | with_reducible refine Below.alloc ?_ ?_ _ | omega | (simp; done) | (simp; omega))) (hb.mono (by first | omega | (simp; done) | (simp; omega)))⟩
  rw [← HW.out]
  rfl

set_option maxHeartbeats 1000000 in
theorem rest17 (kind imm : Int) (hd : 0 ≤ kind ∧ kind ≤ 31) (hi : -262144 ≤ imm ∧ imm ≤ 262143) (w : World) : Calls Try.prog 28 #[instrV ⟨17, 0, 0, 0, imm, kind⟩] w (RetB (.int .i64 (wordX ⟨17, 0, 0, 0, imm, kind⟩)) w) := by
  have HI := Lib.hid (show -(2 ^ (19 : Int).toNat) ≤ imm ∧ imm < 2 ^ (19 : Int).toNat by have : (2 : Int) ^ (19 : Int).toNat = 524288 := rfl; rw [this]; omega)
  have HP : Hid (atZ imm 19 5 = imm % 524288 * 32) := Lib.hid (by simp [atZ])
  have HK := HI
  have hb1 : 0 ≤ imm % 524288 * 32 ∧ imm % 524288 * 32 < 16777216 := by omega
  have HW : Hid (wrap64 (1409286144 + kind + imm % 524288 * 32) = wordX ⟨17, 0, 0, 0, imm, kind⟩) := Lib.hid (by rw [IntWalk.wrap64_in _ (by omega)]; simp [wordX])
  clear hi
  simp only [instrV]
  go_enter Try.func28, Try.ntmps28
  go_wp2_with fail
  refine wp_region_qb1 w.heap.size (by kernel_rfl) (by kernel_rfl) (by first | omega | (simp; done) | (simp; omega)) (fun kq => ?_); (repeat (go_big_quiet_step ((go_at_call 27; first | exact quietB (at_any _ _ _ _ (by decide) HI.out) | exact quietB (at_any _ _ _ _ (by decide) HK.out))))); refine wpQuiet_nil ?_; clear kq; intro wq hb
  rw [HP.out]
  go_wp2_with fail
  go_ret
  refine ⟨?_, Below.trans (by repeat' (first | with_reducible exact Below.refl _ _ | with_reducible assumption | with_reducible apply below_drewN | with_reducible apply Below.drew | with_reducible refine Below.setCell ?_ ?_ _ | with_reducible refine Below.alloc ?_ ?_ _ | omega | (simp; done) | (simp; omega))) (hb.mono (by first | omega | (simp; done) | (simp; omega)))⟩
  rw [← HW.out]
  rfl

set_option maxHeartbeats 1000000 in
theorem rest18 (kind : Int) (hk : 0 ≤ kind ∧ kind ≤ 15) (w : World) : Calls Try.prog 28 #[instrV ⟨18, 0, 0, 0, 0, kind⟩] w (RetB (.int .i64 (wordX ⟨18, 0, 0, 0, 0, kind⟩)) w) := by
  have HW : Hid (wordX ⟨18, 0, 0, 0, 0, kind⟩ = 3573756095 + kind * 256) := Lib.hid (by simp [wordX])
  simp only [instrV]
  go_enter Try.func28, Try.ntmps28
  go_wp2_with fail
  all_goals
    go_ret
    refine ⟨?_, by repeat' (first | with_reducible exact Below.refl _ _ | with_reducible assumption | with_reducible apply below_drewN | with_reducible apply Below.drew | with_reducible refine Below.setCell ?_ ?_ _ | with_reducible refine Below.alloc ?_ ?_ _ | omega | (simp; done) | (simp; omega))⟩
    rw [HW.out]
    try rfl
    try (simp; omega)

set_option maxHeartbeats 1000000 in
theorem rest19 (kind : Int) (hk : 0 ≤ kind ∧ kind ≤ 15) (w : World) : Calls Try.prog 28 #[instrV ⟨19, 0, 0, 0, 0, kind⟩] w (RetB (.int .i64 (wordX ⟨19, 0, 0, 0, 0, kind⟩)) w) := by
  have HW : Hid (wordX ⟨19, 0, 0, 0, 0, kind⟩ = 3573756063 + kind * 256) := Lib.hid (by simp [wordX])
  simp only [instrV]
  go_enter Try.func28, Try.ntmps28
  go_wp2_with fail
  all_goals
    go_ret
    refine ⟨?_, by repeat' (first | with_reducible exact Below.refl _ _ | with_reducible assumption | with_reducible apply below_drewN | with_reducible apply Below.drew | with_reducible refine Below.setCell ?_ ?_ _ | with_reducible refine Below.alloc ?_ ?_ _ | omega | (simp; done) | (simp; omega))⟩
    rw [HW.out]
    try rfl
    try (simp; omega)

set_option maxHeartbeats 1000000 in
theorem rest20 (w : World) : Calls Try.prog 28 #[instrV ⟨20, 0, 0, 0, 0, 0⟩] w (RetB (.int .i64 (wordX ⟨20, 0, 0, 0, 0, 0⟩)) w) := by
  have HW : Hid (wordX ⟨20, 0, 0, 0, 0, 0⟩ = 3573759967) := Lib.hid (by simp [wordX])
  simp only [instrV]
  go_enter Try.func28, Try.ntmps28
  go_wp2_with fail
  all_goals
    go_ret
    refine ⟨?_, by repeat' (first | with_reducible exact Below.refl _ _ | with_reducible assumption | with_reducible apply below_drewN | with_reducible apply Below.drew | with_reducible refine Below.setCell ?_ ?_ _ | with_reducible refine Below.alloc ?_ ?_ _ | omega | (simp; done) | (simp; omega))⟩
    rw [HW.out]
    try rfl
    try (simp; omega)

set_option maxHeartbeats 1000000 in
theorem rest22 (w : World) : Calls Try.prog 28 #[instrV ⟨22, 0, 0, 0, 0, 0⟩] w (RetB (.int .i64 (wordX ⟨22, 0, 0, 0, 0, 0⟩)) w) := by
  have HW : Hid (wordX ⟨22, 0, 0, 0, 0, 0⟩ = 3600745440) := Lib.hid (by simp [wordX])
  simp only [instrV]
  go_enter Try.func28, Try.ntmps28
  go_wp2_with fail
  all_goals
    go_ret
    refine ⟨?_, by repeat' (first | with_reducible exact Below.refl _ _ | with_reducible assumption | with_reducible apply below_drewN | with_reducible apply Below.drew | with_reducible refine Below.setCell ?_ ?_ _ | with_reducible refine Below.alloc ?_ ?_ _ | omega | (simp; done) | (simp; omega))⟩
    rw [HW.out]
    try rfl
    try (simp; omega)

set_option maxHeartbeats 2000000 in
theorem rest21 (d kind : Int) (hd : 0 ≤ d ∧ d ≤ 31) (hk : kind = 0 ∨ kind = 1 ∨ kind = 2 ∨ kind = 3 ∨ kind = 4 ∨ kind = 5 ∨ kind = 6 ∨ kind = 7) (w : World) : Calls Try.prog 28 #[instrV ⟨21, d, 0, 0, 0, kind⟩] w (RetB (.int .i64 (wordX ⟨21, d, 0, 0, 0, kind⟩)) w) := by
  have HW : Hid (∀ k, wordX ⟨21, d, 0, 0, 0, k⟩ = 3574104832 + d + flushZ k) := Lib.hid fun k => by simp [wordX]
  rcases hk with rfl | rfl | rfl | rfl | rfl | rfl | rfl | rfl
  all_goals
    simp only [instrV]
    go_enter Try.func28, Try.ntmps28
    go_wp2_with fail
    go_quiet (fail)
    go_wp2
    go_ret
    refine ⟨?_, by repeat' (first | with_reducible exact Below.refl _ _ | with_reducible assumption | with_reducible apply below_drewN | with_reducible apply Below.drew | with_reducible refine Below.setCell ?_ ?_ _ | with_reducible refine Below.alloc ?_ ?_ _ | omega | (simp; done) | (simp; omega))⟩
    rw [HW.out]
    simp [flushZ, systemZ]
    try omega

set_option maxHeartbeats 2000000 in
theorem rest23 (d kind : Int) (hd : 0 ≤ d ∧ d ≤ 31) (hk : kind = 0 ∨ kind = 1 ∨ kind = 2) (w : World) : Calls Try.prog 28 #[instrV ⟨23, d, 0, 0, 0, kind⟩] w (RetB (.int .i64 (wordX ⟨23, d, 0, 0, 0, kind⟩)) w) := by
  have HW : Hid (∀ k, wordX ⟨23, d, 0, 0, 0, k⟩ = 3577217024 + d + systemZ k) := Lib.hid fun k => by simp [wordX]
  rcases hk with rfl | rfl | rfl
  all_goals
    simp only [instrV]
    go_enter Try.func28, Try.ntmps28
    go_wp2_with fail
    go_quiet (fail)
    go_wp2
    go_ret
    refine ⟨?_, by repeat' (first | with_reducible exact Below.refl _ _ | with_reducible assumption | with_reducible apply below_drewN | with_reducible apply Below.drew | with_reducible refine Below.setCell ?_ ?_ _ | with_reducible refine Below.alloc ?_ ?_ _ | omega | (simp; done) | (simp; omega))⟩
    rw [HW.out]
    simp [flushZ, systemZ]
    try omega

set_option maxHeartbeats 1000000 in
theorem word2 (d n imm : Int) (hd : 0 ≤ d ∧ d ≤ 31) (hn : 0 ≤ n ∧ n ≤ 31) (hi : 0 ≤ imm ∧ imm ≤ 32767) (w : World) : Calls Try.prog 13 #[instrV ⟨2, d, n, 0, imm, 0⟩] w (RetB (.int .i64 (wordX ⟨2, d, n, 0, imm, 0⟩)) w) := by
  have HI := Lib.hid (show -(2 ^ (12 : Int).toNat) ≤ imm / 8 ∧ imm / 8 < 2 ^ (12 : Int).toNat by have : (2 : Int) ^ (12 : Int).toNat = 4096 := rfl; rw [this]; omega)
  have HP : Hid (atZ (imm / 8) 12 10 = imm / 8 * 1024) := Lib.hid (by simp [atZ]; omega)
  have hb1 : 0 ≤ imm / 8 * 1024 ∧ imm / 8 * 1024 < 4194304 := by omega
  have HW : Hid (wordX ⟨2, d, n, 0, imm, 0⟩ = 4181721088 + d + n * 32 + imm / 8 * 1024) := Lib.hid (by simp [wordX])
  have ht : imm.tdiv 8 = imm / 8 := Int.tdiv_eq_ediv_of_nonneg hi.1
  clear hi
  simp only [instrV]
  go_enter Try.func13, Try.ntmps13
  go_wp2_with (go_at_call 27; refine (at_any _ _ _ _ (by decide) HI.out).mono ?_; rintro e w' ⟨rfl, hb⟩; simp only [HP.out]; have B : Below w.heap.size w w' := Below.trans (by repeat' (first | with_reducible exact Below.refl _ _ | with_reducible assumption | with_reducible apply below_drewN | with_reducible apply Below.drew | with_reducible refine Below.setCell ?_ ?_ _ | with_reducible refine Below.alloc ?_ ?_ _ | omega | (simp; done) | (simp; omega))) (hb.mono (by first | omega | (simp; done) | (simp; omega))); have Bz := B.size; clear hb)
  all_goals
    go_ret
    refine ⟨?_, by repeat' (first | with_reducible exact Below.refl _ _ | with_reducible assumption | with_reducible apply below_drewN | with_reducible apply Below.drew | with_reducible refine Below.setCell ?_ ?_ _ | with_reducible refine Below.alloc ?_ ?_ _ | omega | (simp; done) | (simp; omega))⟩
    rw [HW.out]
    try rfl
    try (simp; omega)

set_option maxHeartbeats 1000000 in
theorem word3 (d n imm : Int) (hd : 0 ≤ d ∧ d ≤ 31) (hn : 0 ≤ n ∧ n ≤ 31) (hi : 0 ≤ imm ∧ imm ≤ 32767) (w : World) : Calls Try.prog 13 #[instrV ⟨3, d, n, 0, imm, 0⟩] w (RetB (.int .i64 (wordX ⟨3, d, n, 0, imm, 0⟩)) w) := by
  have HI := Lib.hid (show -(2 ^ (12 : Int).toNat) ≤ imm / 8 ∧ imm / 8 < 2 ^ (12 : Int).toNat by have : (2 : Int) ^ (12 : Int).toNat = 4096 := rfl; rw [this]; omega)
  have HP : Hid (atZ (imm / 8) 12 10 = imm / 8 * 1024) := Lib.hid (by simp [atZ]; omega)
  have hb1 : 0 ≤ imm / 8 * 1024 ∧ imm / 8 * 1024 < 4194304 := by omega
  have HW : Hid (wordX ⟨3, d, n, 0, imm, 0⟩ = 4177526784 + d + n * 32 + imm / 8 * 1024) := Lib.hid (by simp [wordX])
  have ht : imm.tdiv 8 = imm / 8 := Int.tdiv_eq_ediv_of_nonneg hi.1
  clear hi
  simp only [instrV]
  go_enter Try.func13, Try.ntmps13
  go_wp2_with (go_at_call 27; refine (at_any _ _ _ _ (by decide) HI.out).mono ?_; rintro e w' ⟨rfl, hb⟩; simp only [HP.out]; have B : Below w.heap.size w w' := Below.trans (by repeat' (first | with_reducible exact Below.refl _ _ | with_reducible assumption | with_reducible apply below_drewN | with_reducible apply Below.drew | with_reducible refine Below.setCell ?_ ?_ _ | with_reducible refine Below.alloc ?_ ?_ _ | omega | (simp; done) | (simp; omega))) (hb.mono (by first | omega | (simp; done) | (simp; omega))); have Bz := B.size; clear hb)
  all_goals
    go_ret
    refine ⟨?_, by repeat' (first | with_reducible exact Below.refl _ _ | with_reducible assumption | with_reducible apply below_drewN | with_reducible apply Below.drew | with_reducible refine Below.setCell ?_ ?_ _ | with_reducible refine Below.alloc ?_ ?_ _ | omega | (simp; done) | (simp; omega))⟩
    rw [HW.out]
    try rfl
    try (simp; omega)

set_option maxHeartbeats 1000000 in
theorem word7 (d n imm : Int) (hd : 0 ≤ d ∧ d ≤ 31) (hn : 0 ≤ n ∧ n ≤ 31) (hi : 0 ≤ imm ∧ imm ≤ 4095) (w : World) : Calls Try.prog 13 #[instrV ⟨7, d, n, 0, imm, 0⟩] w (RetB (.int .i64 (wordX ⟨7, d, n, 0, imm, 0⟩)) w) := by
  have HI := Lib.hid (show -(2 ^ (12 : Int).toNat) ≤ imm ∧ imm < 2 ^ (12 : Int).toNat by have : (2 : Int) ^ (12 : Int).toNat = 4096 := rfl; rw [this]; omega)
  have HP : Hid (atZ (imm) 12 10 = imm * 1024) := Lib.hid (by simp [atZ]; omega)
  have hb1 : 0 ≤ imm * 1024 ∧ imm * 1024 < 4194304 := by omega
  have HW : Hid (wordX ⟨7, d, n, 0, imm, 0⟩ = 2432696320 + d + n * 32 + imm * 1024) := Lib.hid (by simp [wordX])
  clear hi
  simp only [instrV]
  go_enter Try.func13, Try.ntmps13
  go_wp2_with (go_at_call 27; refine (at_any _ _ _ _ (by decide) HI.out).mono ?_; rintro e w' ⟨rfl, hb⟩; simp only [HP.out]; have B : Below w.heap.size w w' := Below.trans (by repeat' (first | with_reducible exact Below.refl _ _ | with_reducible assumption | with_reducible apply below_drewN | with_reducible apply Below.drew | with_reducible refine Below.setCell ?_ ?_ _ | with_reducible refine Below.alloc ?_ ?_ _ | omega | (simp; done) | (simp; omega))) (hb.mono (by first | omega | (simp; done) | (simp; omega))); have Bz := B.size; clear hb)
  all_goals
    go_ret
    refine ⟨?_, by repeat' (first | with_reducible exact Below.refl _ _ | with_reducible assumption | with_reducible apply below_drewN | with_reducible apply Below.drew | with_reducible refine Below.setCell ?_ ?_ _ | with_reducible refine Below.alloc ?_ ?_ _ | omega | (simp; done) | (simp; omega))⟩
    rw [HW.out]
    try rfl
    try (simp; omega)

set_option maxHeartbeats 1000000 in
theorem word4 (d n : Int) (hd : 0 ≤ d ∧ d ≤ 31) (hn : 0 ≤ n ∧ n ≤ 31) (w : World) : Calls Try.prog 13 #[instrV ⟨4, d, n, 0, 0, 0⟩] w (RetB (.int .i64 (wordX ⟨4, d, n, 0, 0, 0⟩)) w) := by
  have HW : Hid (wordX ⟨4, d, n, 0, 0, 0⟩ = 3370122240 + d + n * 32) := Lib.hid (by simp [wordX])
  simp only [instrV]
  go_enter Try.func13, Try.ntmps13
  go_wp2_with fail
  all_goals
    go_ret
    refine ⟨?_, by repeat' (first | with_reducible exact Below.refl _ _ | with_reducible assumption | with_reducible apply below_drewN | with_reducible apply Below.drew | with_reducible refine Below.setCell ?_ ?_ _ | with_reducible refine Below.alloc ?_ ?_ _ | omega | (simp; done) | (simp; omega))⟩
    rw [HW.out]
    try rfl
    try (simp; omega)

set_option maxHeartbeats 1000000 in
theorem word5 (d n : Int) (hd : 0 ≤ d ∧ d ≤ 31) (hn : 0 ≤ n ∧ n ≤ 31) (w : World) : Calls Try.prog 13 #[instrV ⟨5, d, n, 0, 0, 0⟩] w (RetB (.int .i64 (wordX ⟨5, d, n, 0, 0, 0⟩)) w) := by
  have HW : Hid (wordX ⟨5, d, n, 0, 0, 0⟩ = 3365927936 + d + n * 32) := Lib.hid (by simp [wordX])
  simp only [instrV]
  go_enter Try.func13, Try.ntmps13
  go_wp2_with fail
  all_goals
    go_ret
    refine ⟨?_, by repeat' (first | with_reducible exact Below.refl _ _ | with_reducible assumption | with_reducible apply below_drewN | with_reducible apply Below.drew | with_reducible refine Below.setCell ?_ ?_ _ | with_reducible refine Below.alloc ?_ ?_ _ | omega | (simp; done) | (simp; omega))⟩
    rw [HW.out]
    try rfl
    try (simp; omega)

set_option maxHeartbeats 1000000 in
theorem word8 (d n m : Int) (hd : 0 ≤ d ∧ d ≤ 31) (hn : 0 ≤ n ∧ n ≤ 31) (hm : 0 ≤ m ∧ m ≤ 31) (w : World) : Calls Try.prog 13 #[instrV ⟨8, d, n, m, 0, 0⟩] w (RetB (.int .i64 (wordX ⟨8, d, n, m, 0, 0⟩)) w) := by
  have HW : Hid (wordX ⟨8, d, n, m, 0, 0⟩ = 2332033024 + d + n * 32 + m * 65536) := Lib.hid (by simp [wordX])
  simp only [instrV]
  go_enter Try.func13, Try.ntmps13
  go_wp2_with fail
  all_goals
    go_ret
    refine ⟨?_, by repeat' (first | with_reducible exact Below.refl _ _ | with_reducible assumption | with_reducible apply below_drewN | with_reducible apply Below.drew | with_reducible refine Below.setCell ?_ ?_ _ | with_reducible refine Below.alloc ?_ ?_ _ | omega | (simp; done) | (simp; omega))⟩
    rw [HW.out]
    try rfl
    try (simp; omega)

set_option maxHeartbeats 1000000 in
theorem word9 (d n m : Int) (hd : 0 ≤ d ∧ d ≤ 31) (hn : 0 ≤ n ∧ n ≤ 31) (hm : 0 ≤ m ∧ m ≤ 31) (w : World) : Calls Try.prog 13 #[instrV ⟨9, d, n, m, 0, 0⟩] w (RetB (.int .i64 (wordX ⟨9, d, n, m, 0, 0⟩)) w) := by
  have HW : Hid (wordX ⟨9, d, n, m, 0, 0⟩ = 3405774848 + d + n * 32 + m * 65536) := Lib.hid (by simp [wordX])
  simp only [instrV]
  go_enter Try.func13, Try.ntmps13
  go_wp2_with fail
  all_goals
    go_ret
    refine ⟨?_, by repeat' (first | with_reducible exact Below.refl _ _ | with_reducible assumption | with_reducible apply below_drewN | with_reducible apply Below.drew | with_reducible refine Below.setCell ?_ ?_ _ | with_reducible refine Below.alloc ?_ ?_ _ | omega | (simp; done) | (simp; omega))⟩
    rw [HW.out]
    try rfl
    try (simp; omega)

set_option maxHeartbeats 1000000 in
theorem word10 (d n m : Int) (hd : 0 ≤ d ∧ d ≤ 31) (hn : 0 ≤ n ∧ n ≤ 31) (hm : 0 ≤ m ∧ m ≤ 31) (w : World) : Calls Try.prog 13 #[instrV ⟨10, d, n, m, 0, 0⟩] w (RetB (.int .i64 (wordX ⟨10, d, n, m, 0, 0⟩)) w) := by
  have HW : Hid (wordX ⟨10, d, n, m, 0, 0⟩ = 2315255808 + d + n * 32 + m * 65536) := Lib.hid (by simp [wordX])
  simp only [instrV]
  go_enter Try.func13, Try.ntmps13
  go_wp2_with fail
  all_goals
    go_ret
    refine ⟨?_, by repeat' (first | with_reducible exact Below.refl _ _ | with_reducible assumption | with_reducible apply below_drewN | with_reducible apply Below.drew | with_reducible refine Below.setCell ?_ ?_ _ | with_reducible refine Below.alloc ?_ ?_ _ | omega | (simp; done) | (simp; omega))⟩
    rw [HW.out]
    try rfl
    try (simp; omega)

set_option maxHeartbeats 1000000 in
theorem word11 (d n m : Int) (hd : 0 ≤ d ∧ d ≤ 31) (hn : 0 ≤ n ∧ n ≤ 31) (hm : 0 ≤ m ∧ m ≤ 31) (w : World) : Calls Try.prog 13 #[instrV ⟨11, d, n, m, 0, 0⟩] w (RetB (.int .i64 (wordX ⟨11, d, n, m, 0, 0⟩)) w) := by
  have HW : Hid (wordX ⟨11, d, n, m, 0, 0⟩ = 2852126720 + d + n * 32 + m * 65536) := Lib.hid (by simp [wordX])
  simp only [instrV]
  go_enter Try.func13, Try.ntmps13
  go_wp2_with fail
  all_goals
    go_ret
    refine ⟨?_, by repeat' (first | with_reducible exact Below.refl _ _ | with_reducible assumption | with_reducible apply below_drewN | with_reducible apply Below.drew | with_reducible refine Below.setCell ?_ ?_ _ | with_reducible refine Below.alloc ?_ ?_ _ | omega | (simp; done) | (simp; omega))⟩
    rw [HW.out]
    try rfl
    try (simp; omega)

set_option maxHeartbeats 1000000 in
theorem word12 (d n m : Int) (hd : 0 ≤ d ∧ d ≤ 31) (hn : 0 ≤ n ∧ n ≤ 31) (hm : 0 ≤ m ∧ m ≤ 31) (w : World) : Calls Try.prog 13 #[instrV ⟨12, d, n, m, 0, 0⟩] w (RetB (.int .i64 (wordX ⟨12, d, n, m, 0, 0⟩)) w) := by
  have HW : Hid (wordX ⟨12, d, n, m, 0, 0⟩ = 3388997632 + d + n * 32 + m * 65536) := Lib.hid (by simp [wordX])
  simp only [instrV]
  go_enter Try.func13, Try.ntmps13
  go_wp2_with fail
  all_goals
    go_ret
    refine ⟨?_, by repeat' (first | with_reducible exact Below.refl _ _ | with_reducible assumption | with_reducible apply below_drewN | with_reducible apply Below.drew | with_reducible refine Below.setCell ?_ ?_ _ | with_reducible refine Below.alloc ?_ ?_ _ | omega | (simp; done) | (simp; omega))⟩
    rw [HW.out]
    try rfl
    try (simp; omega)

set_option maxHeartbeats 1000000 in
theorem word13 (d n m : Int) (hd : 0 ≤ d ∧ d ≤ 31) (hn : 0 ≤ n ∧ n ≤ 31) (hm : 0 ≤ m ∧ m ≤ 31) (w : World) : Calls Try.prog 13 #[instrV ⟨13, d, n, m, 0, 0⟩] w (RetB (.int .i64 (wordX ⟨13, d, n, m, 0, 0⟩)) w) := by
  have HW : Hid (wordX ⟨13, d, n, m, 0, 0⟩ = 3942645760 + d + n * 32 + m * 65536) := Lib.hid (by simp [wordX])
  simp only [instrV]
  go_enter Try.func13, Try.ntmps13
  go_wp2_with fail
  all_goals
    go_ret
    refine ⟨?_, by repeat' (first | with_reducible exact Below.refl _ _ | with_reducible assumption | with_reducible apply below_drewN | with_reducible apply Below.drew | with_reducible refine Below.setCell ?_ ?_ _ | with_reducible refine Below.alloc ?_ ?_ _ | omega | (simp; done) | (simp; omega))⟩
    rw [HW.out]
    try rfl
    try (simp; omega)

set_option maxHeartbeats 1000000 in
theorem word1 (w : World) : Calls Try.prog 13 #[instrV ⟨1, 0, 0, 0, 0, 0⟩] w (RetB (.int .i64 (wordX ⟨1, 0, 0, 0, 0, 0⟩)) w) := by
  have HW : Hid (wordX ⟨1, 0, 0, 0, 0, 0⟩ = 3573751839) := Lib.hid (by simp [wordX])
  simp only [instrV]
  go_enter Try.func13, Try.ntmps13
  go_wp2_with fail
  all_goals
    go_ret
    refine ⟨?_, by repeat' (first | with_reducible exact Below.refl _ _ | with_reducible assumption | with_reducible apply below_drewN | with_reducible apply Below.drew | with_reducible refine Below.setCell ?_ ?_ _ | with_reducible refine Below.alloc ?_ ?_ _ | omega | (simp; done) | (simp; omega))⟩
    rw [HW.out]
    try rfl
    try (simp; omega)

set_option maxHeartbeats 1000000 in
theorem word6 (d imm kind : Int) (hd : 0 ≤ d ∧ d ≤ 31) (hi : 0 ≤ imm ∧ imm ≤ 65535) (hk : 0 ≤ kind ∧ kind ≤ 3) (w : World) : Calls Try.prog 13 #[instrV ⟨6, d, 0, 0, imm, kind⟩] w (RetB (.int .i64 (wordX ⟨6, d, 0, 0, imm, kind⟩)) w) := by
  have HI := Lib.hid (show -(2 ^ (16 : Int).toNat) ≤ imm ∧ imm < 2 ^ (16 : Int).toNat by have : (2 : Int) ^ (16 : Int).toNat = 65536 := rfl; rw [this]; omega)
  have HK := Lib.hid (show -(2 ^ (2 : Int).toNat) ≤ kind ∧ kind < 2 ^ (2 : Int).toNat by have : (2 : Int) ^ (2 : Int).toNat = 4 := rfl; rw [this]; omega)
  have HP : Hid (atZ imm 16 5 = imm * 32) := Lib.hid (by simp [atZ]; omega)
  have HQ : Hid (atZ kind 2 21 = kind * 2097152) := Lib.hid (by simp [atZ]; omega)
  have hq : 0 ≤ atZ kind 2 21 ∧ atZ kind 2 21 ≤ 6291456 := by rw [HQ.out]; omega
  have hp : 0 ≤ atZ imm 16 5 ∧ atZ imm 16 5 ≤ 2097120 := by rw [HP.out]; omega
  have HW : Hid (wordX ⟨6, d, 0, 0, imm, kind⟩ = 3531603968 + d + atZ kind 2 21 + atZ imm 16 5) := Lib.hid (by rw [HP.out, HQ.out]; simp [wordX])
  clear hi hk
  simp only [instrV]
  go_enter Try.func13, Try.ntmps13
  go_wp2_with fail
  refine wp_region_qb1 w.heap.size (by kernel_rfl) (by kernel_rfl) (by first | omega | (simp; done) | (simp; omega)) (fun kq => ?_); (repeat (go_big_quiet_step ((go_at_call 27; first | exact quietB (at_any _ _ _ _ (by decide) HI.out) | exact quietB (at_any _ _ _ _ (by decide) HK.out))))); refine wpQuiet_nil ?_; clear kq; intro wq hb
  go_wp2_with fail
  go_ret
  refine ⟨?_, Below.trans (by repeat' (first | with_reducible exact Below.refl _ _ | with_reducible assumption | with_reducible apply below_drewN | with_reducible apply Below.drew | with_reducible refine Below.setCell ?_ ?_ _ | with_reducible refine Below.alloc ?_ ?_ _ | omega | (simp; done) | (simp; omega))) (hb.mono (by first | omega | (simp; done) | (simp; omega)))⟩
  rw [HW.out]
  rfl

set_option maxHeartbeats 1000000 in
theorem word14 (imm : Int) (hi : -33554432 ≤ imm ∧ imm ≤ 33554431) (w : World) : Calls Try.prog 13 #[instrV ⟨14, 0, 0, 0, imm, 0⟩] w (RetB (.int .i64 (wordX ⟨14, 0, 0, 0, imm, 0⟩)) w) := by
  have HI := Lib.hid (show -(2 ^ (26 : Int).toNat) ≤ imm ∧ imm < 2 ^ (26 : Int).toNat by have : (2 : Int) ^ (26 : Int).toNat = 67108864 := rfl; rw [this]; omega)
  have HP : Hid (atZ imm 26 0 = imm % 67108864) := Lib.hid (by simp [atZ])
  have hb1 : 0 ≤ imm % 67108864 ∧ imm % 67108864 < 67108864 := by omega
  have HW : Hid (wordX ⟨14, 0, 0, 0, imm, 0⟩ = 335544320 + imm % 67108864) := Lib.hid (by simp [wordX])
  clear hi
  simp only [instrV]
  go_enter Try.func13, Try.ntmps13
  go_wp2_with (go_at_call 27; refine (at_any _ _ _ _ (by decide) HI.out).mono ?_; rintro e w' ⟨rfl, hb⟩; simp only [HP.out]; have B : Below w.heap.size w w' := Below.trans (by repeat' (first | with_reducible exact Below.refl _ _ | with_reducible assumption | with_reducible apply below_drewN | with_reducible apply Below.drew | with_reducible refine Below.setCell ?_ ?_ _ | with_reducible refine Below.alloc ?_ ?_ _ | omega | (simp; done) | (simp; omega))) (hb.mono (by first | omega | (simp; done) | (simp; omega))); have Bz := B.size; clear hb)
  all_goals
    go_ret
    refine ⟨?_, by repeat' (first | with_reducible exact Below.refl _ _ | with_reducible assumption | with_reducible apply below_drewN | with_reducible apply Below.drew | with_reducible refine Below.setCell ?_ ?_ _ | with_reducible refine Below.alloc ?_ ?_ _ | omega | (simp; done) | (simp; omega))⟩
    rw [HW.out]
    try rfl
    try (simp; omega)

set_option maxHeartbeats 1000000 in
theorem word15 (d imm : Int) (hd : 0 ≤ d ∧ d ≤ 31) (hi : -262144 ≤ imm ∧ imm ≤ 262143) (w : World) : Calls Try.prog 13 #[instrV ⟨15, d, 0, 0, imm, 0⟩] w (RetB (.int .i64 (wordX ⟨15, d, 0, 0, imm, 0⟩)) w) := by
  have HR := fun w => Lib.hid (rest15 d imm hd hi w)
  simp only [instrV]
  go_enter Try.func13, Try.ntmps13
  go_wp2_with (go_at_call 28; refine (HR _).out.mono ?_; rintro e w1 ⟨rfl, hb⟩; have B : Below w.heap.size w w1 := Below.trans (by repeat' (first | with_reducible exact Below.refl _ _ | with_reducible assumption | with_reducible apply below_drewN | with_reducible apply Below.drew | with_reducible refine Below.setCell ?_ ?_ _ | with_reducible refine Below.alloc ?_ ?_ _ | omega | (simp; done) | (simp; omega))) (hb.mono (by first | omega | (simp; done) | (simp; omega))); have Bz := B.size; clear hb)
  all_goals
    go_ret
    exact ⟨rfl, by repeat' (first | with_reducible exact Below.refl _ _ | with_reducible assumption | with_reducible apply below_drewN | with_reducible apply Below.drew | with_reducible refine Below.setCell ?_ ?_ _ | with_reducible refine Below.alloc ?_ ?_ _ | omega | (simp; done) | (simp; omega))⟩

set_option maxHeartbeats 1000000 in
theorem word16 (d imm : Int) (hd : 0 ≤ d ∧ d ≤ 31) (hi : -262144 ≤ imm ∧ imm ≤ 262143) (w : World) : Calls Try.prog 13 #[instrV ⟨16, d, 0, 0, imm, 0⟩] w (RetB (.int .i64 (wordX ⟨16, d, 0, 0, imm, 0⟩)) w) := by
  have HR := fun w => Lib.hid (rest16 d imm hd hi w)
  simp only [instrV]
  go_enter Try.func13, Try.ntmps13
  go_wp2_with (go_at_call 28; refine (HR _).out.mono ?_; rintro e w1 ⟨rfl, hb⟩; have B : Below w.heap.size w w1 := Below.trans (by repeat' (first | with_reducible exact Below.refl _ _ | with_reducible assumption | with_reducible apply below_drewN | with_reducible apply Below.drew | with_reducible refine Below.setCell ?_ ?_ _ | with_reducible refine Below.alloc ?_ ?_ _ | omega | (simp; done) | (simp; omega))) (hb.mono (by first | omega | (simp; done) | (simp; omega))); have Bz := B.size; clear hb)
  all_goals
    go_ret
    exact ⟨rfl, by repeat' (first | with_reducible exact Below.refl _ _ | with_reducible assumption | with_reducible apply below_drewN | with_reducible apply Below.drew | with_reducible refine Below.setCell ?_ ?_ _ | with_reducible refine Below.alloc ?_ ?_ _ | omega | (simp; done) | (simp; omega))⟩

set_option maxHeartbeats 1000000 in
theorem word17 (kind imm : Int) (hd : 0 ≤ kind ∧ kind ≤ 31) (hi : -262144 ≤ imm ∧ imm ≤ 262143) (w : World) : Calls Try.prog 13 #[instrV ⟨17, 0, 0, 0, imm, kind⟩] w (RetB (.int .i64 (wordX ⟨17, 0, 0, 0, imm, kind⟩)) w) := by
  have HR := fun w => Lib.hid (rest17 kind imm hd hi w)
  simp only [instrV]
  go_enter Try.func13, Try.ntmps13
  go_wp2_with (go_at_call 28; refine (HR _).out.mono ?_; rintro e w1 ⟨rfl, hb⟩; have B : Below w.heap.size w w1 := Below.trans (by repeat' (first | with_reducible exact Below.refl _ _ | with_reducible assumption | with_reducible apply below_drewN | with_reducible apply Below.drew | with_reducible refine Below.setCell ?_ ?_ _ | with_reducible refine Below.alloc ?_ ?_ _ | omega | (simp; done) | (simp; omega))) (hb.mono (by first | omega | (simp; done) | (simp; omega))); have Bz := B.size; clear hb)
  all_goals
    go_ret
    exact ⟨rfl, by repeat' (first | with_reducible exact Below.refl _ _ | with_reducible assumption | with_reducible apply below_drewN | with_reducible apply Below.drew | with_reducible refine Below.setCell ?_ ?_ _ | with_reducible refine Below.alloc ?_ ?_ _ | omega | (simp; done) | (simp; omega))⟩

set_option maxHeartbeats 1000000 in
theorem word18 (kind : Int) (hk : 0 ≤ kind ∧ kind ≤ 15) (w : World) : Calls Try.prog 13 #[instrV ⟨18, 0, 0, 0, 0, kind⟩] w (RetB (.int .i64 (wordX ⟨18, 0, 0, 0, 0, kind⟩)) w) := by
  have HR := fun w => Lib.hid (rest18 kind hk w)
  simp only [instrV]
  go_enter Try.func13, Try.ntmps13
  go_wp2_with (go_at_call 28; refine (HR _).out.mono ?_; rintro e w1 ⟨rfl, hb⟩; have B : Below w.heap.size w w1 := Below.trans (by repeat' (first | with_reducible exact Below.refl _ _ | with_reducible assumption | with_reducible apply below_drewN | with_reducible apply Below.drew | with_reducible refine Below.setCell ?_ ?_ _ | with_reducible refine Below.alloc ?_ ?_ _ | omega | (simp; done) | (simp; omega))) (hb.mono (by first | omega | (simp; done) | (simp; omega))); have Bz := B.size; clear hb)
  all_goals
    go_ret
    exact ⟨rfl, by repeat' (first | with_reducible exact Below.refl _ _ | with_reducible assumption | with_reducible apply below_drewN | with_reducible apply Below.drew | with_reducible refine Below.setCell ?_ ?_ _ | with_reducible refine Below.alloc ?_ ?_ _ | omega | (simp; done) | (simp; omega))⟩

set_option maxHeartbeats 1000000 in
theorem word19 (kind : Int) (hk : 0 ≤ kind ∧ kind ≤ 15) (w : World) : Calls Try.prog 13 #[instrV ⟨19, 0, 0, 0, 0, kind⟩] w (RetB (.int .i64 (wordX ⟨19, 0, 0, 0, 0, kind⟩)) w) := by
  have HR := fun w => Lib.hid (rest19 kind hk w)
  simp only [instrV]
  go_enter Try.func13, Try.ntmps13
  go_wp2_with (go_at_call 28; refine (HR _).out.mono ?_; rintro e w1 ⟨rfl, hb⟩; have B : Below w.heap.size w w1 := Below.trans (by repeat' (first | with_reducible exact Below.refl _ _ | with_reducible assumption | with_reducible apply below_drewN | with_reducible apply Below.drew | with_reducible refine Below.setCell ?_ ?_ _ | with_reducible refine Below.alloc ?_ ?_ _ | omega | (simp; done) | (simp; omega))) (hb.mono (by first | omega | (simp; done) | (simp; omega))); have Bz := B.size; clear hb)
  all_goals
    go_ret
    exact ⟨rfl, by repeat' (first | with_reducible exact Below.refl _ _ | with_reducible assumption | with_reducible apply below_drewN | with_reducible apply Below.drew | with_reducible refine Below.setCell ?_ ?_ _ | with_reducible refine Below.alloc ?_ ?_ _ | omega | (simp; done) | (simp; omega))⟩

set_option maxHeartbeats 1000000 in
theorem word20 (w : World) : Calls Try.prog 13 #[instrV ⟨20, 0, 0, 0, 0, 0⟩] w (RetB (.int .i64 (wordX ⟨20, 0, 0, 0, 0, 0⟩)) w) := by
  have HR := fun w => Lib.hid (rest20  w)
  simp only [instrV]
  go_enter Try.func13, Try.ntmps13
  go_wp2_with (go_at_call 28; refine (HR _).out.mono ?_; rintro e w1 ⟨rfl, hb⟩; have B : Below w.heap.size w w1 := Below.trans (by repeat' (first | with_reducible exact Below.refl _ _ | with_reducible assumption | with_reducible apply below_drewN | with_reducible apply Below.drew | with_reducible refine Below.setCell ?_ ?_ _ | with_reducible refine Below.alloc ?_ ?_ _ | omega | (simp; done) | (simp; omega))) (hb.mono (by first | omega | (simp; done) | (simp; omega))); have Bz := B.size; clear hb)
  all_goals
    go_ret
    exact ⟨rfl, by repeat' (first | with_reducible exact Below.refl _ _ | with_reducible assumption | with_reducible apply below_drewN | with_reducible apply Below.drew | with_reducible refine Below.setCell ?_ ?_ _ | with_reducible refine Below.alloc ?_ ?_ _ | omega | (simp; done) | (simp; omega))⟩

set_option maxHeartbeats 1000000 in
theorem word22 (w : World) : Calls Try.prog 13 #[instrV ⟨22, 0, 0, 0, 0, 0⟩] w (RetB (.int .i64 (wordX ⟨22, 0, 0, 0, 0, 0⟩)) w) := by
  have HR := fun w => Lib.hid (rest22  w)
  simp only [instrV]
  go_enter Try.func13, Try.ntmps13
  go_wp2_with (go_at_call 28; refine (HR _).out.mono ?_; rintro e w1 ⟨rfl, hb⟩; have B : Below w.heap.size w w1 := Below.trans (by repeat' (first | with_reducible exact Below.refl _ _ | with_reducible assumption | with_reducible apply below_drewN | with_reducible apply Below.drew | with_reducible refine Below.setCell ?_ ?_ _ | with_reducible refine Below.alloc ?_ ?_ _ | omega | (simp; done) | (simp; omega))) (hb.mono (by first | omega | (simp; done) | (simp; omega))); have Bz := B.size; clear hb)
  all_goals
    go_ret
    exact ⟨rfl, by repeat' (first | with_reducible exact Below.refl _ _ | with_reducible assumption | with_reducible apply below_drewN | with_reducible apply Below.drew | with_reducible refine Below.setCell ?_ ?_ _ | with_reducible refine Below.alloc ?_ ?_ _ | omega | (simp; done) | (simp; omega))⟩

set_option maxHeartbeats 1000000 in
theorem word21 (d kind : Int) (hd : 0 ≤ d ∧ d ≤ 31) (hk : kind = 0 ∨ kind = 1 ∨ kind = 2 ∨ kind = 3 ∨ kind = 4 ∨ kind = 5 ∨ kind = 6 ∨ kind = 7) (w : World) : Calls Try.prog 13 #[instrV ⟨21, d, 0, 0, 0, kind⟩] w (RetB (.int .i64 (wordX ⟨21, d, 0, 0, 0, kind⟩)) w) := by
  have HR := fun w => Lib.hid (rest21 d kind hd hk w)
  clear hk
  simp only [instrV]
  go_enter Try.func13, Try.ntmps13
  go_wp2_with (go_at_call 28; refine (HR _).out.mono ?_; rintro e w1 ⟨rfl, hb⟩; have B : Below w.heap.size w w1 := Below.trans (by repeat' (first | with_reducible exact Below.refl _ _ | with_reducible assumption | with_reducible apply below_drewN | with_reducible apply Below.drew | with_reducible refine Below.setCell ?_ ?_ _ | with_reducible refine Below.alloc ?_ ?_ _ | omega | (simp; done) | (simp; omega))) (hb.mono (by first | omega | (simp; done) | (simp; omega))); have Bz := B.size; clear hb)
  all_goals
    go_ret
    exact ⟨rfl, by repeat' (first | with_reducible exact Below.refl _ _ | with_reducible assumption | with_reducible apply below_drewN | with_reducible apply Below.drew | with_reducible refine Below.setCell ?_ ?_ _ | with_reducible refine Below.alloc ?_ ?_ _ | omega | (simp; done) | (simp; omega))⟩

set_option maxHeartbeats 1000000 in
theorem word23 (d kind : Int) (hd : 0 ≤ d ∧ d ≤ 31) (hk : kind = 0 ∨ kind = 1 ∨ kind = 2) (w : World) : Calls Try.prog 13 #[instrV ⟨23, d, 0, 0, 0, kind⟩] w (RetB (.int .i64 (wordX ⟨23, d, 0, 0, 0, kind⟩)) w) := by
  have HR := fun w => Lib.hid (rest23 d kind hd hk w)
  clear hk
  simp only [instrV]
  go_enter Try.func13, Try.ntmps13
  go_wp2_with (go_at_call 28; refine (HR _).out.mono ?_; rintro e w1 ⟨rfl, hb⟩; have B : Below w.heap.size w w1 := Below.trans (by repeat' (first | with_reducible exact Below.refl _ _ | with_reducible assumption | with_reducible apply below_drewN | with_reducible apply Below.drew | with_reducible refine Below.setCell ?_ ?_ _ | with_reducible refine Below.alloc ?_ ?_ _ | omega | (simp; done) | (simp; omega))) (hb.mono (by first | omega | (simp; done) | (simp; omega))); have Bz := B.size; clear hb)
  all_goals
    go_ret
    exact ⟨rfl, by repeat' (first | with_reducible exact Below.refl _ _ | with_reducible assumption | with_reducible apply below_drewN | with_reducible apply Below.drew | with_reducible refine Below.setCell ?_ ?_ _ | with_reducible refine Below.alloc ?_ ?_ _ | omega | (simp; done) | (simp; omega))⟩

theorem rword_any (x : X) (hr : rightP x) (w : World) : Calls Try.prog 13 #[instrV x] w (RetB (.int .i64 (wordX x)) w) := by
  obtain ⟨op, d, n, m, imm, kind⟩ := x
  unfold rightP at hr
  simp only at hr
  rcases hr with h | h | h | h | h | h | h | h | h | h | h | h | h | h | h | h | h | h | h | h | h | h | h
  · obtain ⟨rfl, rfl, rfl, rfl, rfl, rfl⟩ := h; exact word1  w
  · obtain ⟨rfl, d0, d1, n0, n1, rfl, i0, i1, i2, rfl⟩ := h; exact word2 _ _ _ ⟨d0, d1⟩ ⟨n0, n1⟩ ⟨i0, i1⟩ w
  · obtain ⟨rfl, d0, d1, n0, n1, rfl, i0, i1, i2, rfl⟩ := h; exact word3 _ _ _ ⟨d0, d1⟩ ⟨n0, n1⟩ ⟨i0, i1⟩ w
  · obtain ⟨rfl, d0, d1, n0, n1, rfl, rfl, rfl⟩ := h; exact word4 _ _ ⟨d0, d1⟩ ⟨n0, n1⟩ w
  · obtain ⟨rfl, d0, d1, n0, n1, rfl, rfl, rfl⟩ := h; exact word5 _ _ ⟨d0, d1⟩ ⟨n0, n1⟩ w
  · obtain ⟨rfl, d0, d1, rfl, rfl, i0, i1, k0, k1⟩ := h; exact word6 _ _ _ ⟨d0, d1⟩ ⟨i0, i1⟩ ⟨k0, k1⟩ w
  · obtain ⟨rfl, d0, d1, n0, n1, rfl, i0, i1, rfl⟩ := h; exact word7 _ _ _ ⟨d0, d1⟩ ⟨n0, n1⟩ ⟨i0, i1⟩ w
  · obtain ⟨rfl, d0, d1, n0, n1, m0, m1, rfl, rfl⟩ := h; exact word8 _ _ _ ⟨d0, d1⟩ ⟨n0, n1⟩ ⟨m0, m1⟩ w
  · obtain ⟨rfl, d0, d1, n0, n1, m0, m1, rfl, rfl⟩ := h; exact word9 _ _ _ ⟨d0, d1⟩ ⟨n0, n1⟩ ⟨m0, m1⟩ w
  · obtain ⟨rfl, d0, d1, n0, n1, m0, m1, rfl, rfl⟩ := h; exact word10 _ _ _ ⟨d0, d1⟩ ⟨n0, n1⟩ ⟨m0, m1⟩ w
  · obtain ⟨rfl, d0, d1, n0, n1, m0, m1, rfl, rfl⟩ := h; exact word11 _ _ _ ⟨d0, d1⟩ ⟨n0, n1⟩ ⟨m0, m1⟩ w
  · obtain ⟨rfl, d0, d1, n0, n1, m0, m1, rfl, rfl⟩ := h; exact word12 _ _ _ ⟨d0, d1⟩ ⟨n0, n1⟩ ⟨m0, m1⟩ w
  · obtain ⟨rfl, d0, d1, n0, n1, m0, m1, rfl, rfl⟩ := h; exact word13 _ _ _ ⟨d0, d1⟩ ⟨n0, n1⟩ ⟨m0, m1⟩ w
  · obtain ⟨rfl, rfl, rfl, rfl, i0, i1, rfl⟩ := h; exact word14 _ ⟨i0, i1⟩ w
  · obtain ⟨rfl, d0, d1, rfl, rfl, i0, i1, rfl⟩ := h; exact word15 _ _ ⟨d0, d1⟩ ⟨i0, i1⟩ w
  · obtain ⟨rfl, d0, d1, rfl, rfl, i0, i1, rfl⟩ := h; exact word16 _ _ ⟨d0, d1⟩ ⟨i0, i1⟩ w
  · obtain ⟨rfl, rfl, rfl, rfl, i0, i1, k0, k1⟩ := h; exact word17 _ _ ⟨k0, by omega⟩ ⟨i0, i1⟩ w
  · obtain ⟨rfl, rfl, rfl, rfl, rfl, hk⟩ := h; exact word18 _ (by omega) w
  · obtain ⟨rfl, rfl, rfl, rfl, rfl, hk⟩ := h; exact word19 _ (by omega) w
  · obtain ⟨rfl, rfl, rfl, rfl, rfl, rfl⟩ := h; exact word20  w
  · obtain ⟨rfl, d0, d1, rfl, rfl, rfl, k0, k1, k2⟩ := h; exact word21 _ _ ⟨d0, d1⟩ (by omega) w
  · obtain ⟨rfl, rfl, rfl, rfl, rfl, rfl⟩ := h; exact word22  w
  · obtain ⟨rfl, d0, d1, rfl, rfl, rfl, k0, k1⟩ := h; exact word23 _ _ ⟨d0, d1⟩ (by omega) w

end Go.Proofs.Ytfhnbheknggklaa