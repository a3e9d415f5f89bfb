/- The contract of isa.Encode. -/
import Derived.Test.YtdlodacogldinaaIsac
import Derived.Test.YtdlodacogldinaaIsad
namespace Go.Proofs.Ytdlodacogldinaa
open Go.RowKit
set_option linter.unusedSimpArgs false
set_option linter.unusedVariables false

theorem part_b (a k s : Int) (w : World) (hk : (k = 12 ∧ s = 10) ∨ (k = 2 ∧ s = 21) ∨ (k = 16 ∧ s = 5) ∨ (k = 26 ∧ s = 0) ∨ (k = 19 ∧ s = 5)) :
    Calls Try.prog 25 #[.int .i64 a, .int .i64 k, .int .i64 s] w (RetB (.int .u32 (partZ a k s)) w) := (part_any a k s w hk).mono fun _ _ h => h.b

theorem u32_lit (n : Int) (h : (decide (0 ≤ n) && decide (n < 4294967296)) = true) : U32 n := by
  simp only [Bool.and_eq_true, decide_eq_true_eq] at h
  exact h

theorem encode_no (x : X) (w : World) (h : ¬ rightP x) : Calls Try.prog 8 #[instrV x] w (RetB (.tuple #[.int .u32 0, .int .i64 30]) w) := by
  have HE := Lib.hid (errX_no h)
  obtain ⟨op, d, n, m, imm, kind⟩ := x
  simp only [instrV]
  clear h
  go_enter Try.func8, Try.ntmps8
  go_wp2_with (go_at_call 6; refine (iright_any ⟨_, _, _, _, _, _⟩ _).mono ?_; rintro e w1 ⟨rfl, hb⟩; rw [HE.out]; have B : Below w.heap.size w w1 := Below.trans (by repeat' (first | with_reducible exact Below.refl _ _ | with_reducible assumption | with_reducible apply below_drewN | with_reducible apply Below.drew | with_reducible refine Below.setCell ?_ ?_ _ | with_reducible refine Below.alloc ?_ ?_ _ | omega | (simp; done) | (simp; omega))) (hb.mono (by first | omega | (simp; done) | (simp; omega))); have Bz := B.size; obtain ⟨k1, k2, k3, k4⟩ := keepB hb w.heap.size (by first | omega | (simp; done) | (simp; omega)); clear hb)
  go_ret2
  exact ⟨rfl, by repeat' (first | with_reducible exact Below.refl _ _ | with_reducible assumption | with_reducible apply below_drewN | with_reducible apply Below.drew | with_reducible refine Below.setCell ?_ ?_ _ | with_reducible refine Below.alloc ?_ ?_ _ | omega | (simp; done) | (simp; omega))⟩

theorem encode1 (hr : rightP ⟨1, 0, 0, 0, 0, 0⟩) (w : World) : Calls Try.prog 8 #[instrV ⟨1, 0, 0, 0, 0, 0⟩] w (RetB (.tuple #[.int .u32 (wordX ⟨1, 0, 0, 0, 0, 0⟩), .int .i64 0]) w) := by
  have HE := Lib.hid (errX_yes hr)
  clear hr 
  have HW := Lib.hid (show 3573751839 + 0 + 0 * 32 + 0 * 65536 = wordX ⟨1, 0, 0, 0, 0, 0⟩ by simp [wordX])
  simp only [instrV]
  go_enter Try.func8, Try.ntmps8
  go_wp2_with (first | (go_at_call 6; refine (iright_any ⟨_, _, _, _, _, _⟩ _).mono ?_; rintro e w1 ⟨rfl, hb⟩; rw [HE.out]; have B : Below w.heap.size w w1 := Below.trans (by repeat' (first | with_reducible exact Below.refl _ _ | with_reducible assumption | with_reducible apply below_drewN | with_reducible apply Below.drew | with_reducible refine Below.setCell ?_ ?_ _ | with_reducible refine Below.alloc ?_ ?_ _ | omega | (simp; done) | (simp; omega))) (hb.mono (by first | omega | (simp; done) | (simp; omega))); have Bz := B.size; obtain ⟨k1, k2, k3, k4⟩ := keepB hb w.heap.size (by first | omega | (simp; done) | (simp; omega)); clear hb) | (go_at_call 23; refine (base_any _ _).mono ?_; rintro e w' ⟨rfl, rfl⟩; simp only [baseX, reduceIte, Int.reduceEq]) | (go_at_call 24; refine (three_any 3573751839 ⟨1, 0, 0, 0, 0, 0⟩ _ (u32_lit _ rfl) ⟨by decide, by decide⟩ ⟨by decide, by decide⟩ ⟨by decide, by decide⟩ (.inr (.inr ⟨rfl, rfl, rfl⟩))).mono ?_; rintro e w2 ⟨rfl, hb⟩; simp only [HW.out]; have B : Below w.heap.size w w2 := Below.trans (by repeat' (first | with_reducible exact Below.refl _ _ | with_reducible assumption | with_reducible apply below_drewN | with_reducible apply Below.drew | with_reducible refine Below.setCell ?_ ?_ _ | with_reducible refine Below.alloc ?_ ?_ _ | omega | (simp; done) | (simp; omega))) (hb.mono (by first | omega | (simp; done) | (simp; omega))); have Bz := B.size; clear hb))
  go_ret2
  exact ⟨rfl, by repeat' (first | with_reducible exact Below.refl _ _ | with_reducible assumption | with_reducible apply below_drewN | with_reducible apply Below.drew | with_reducible refine Below.setCell ?_ ?_ _ | with_reducible refine Below.alloc ?_ ?_ _ | omega | (simp; done) | (simp; omega))⟩

theorem encode4 (d n : Int) (hd : 0 ≤ d ∧ d ≤ 31) (hn : 0 ≤ n ∧ n ≤ 31) (hr : rightP ⟨4, d, n, 0, 0, 0⟩) (w : World) : Calls Try.prog 8 #[instrV ⟨4, d, n, 0, 0, 0⟩] w (RetB (.tuple #[.int .u32 (wordX ⟨4, d, n, 0, 0, 0⟩), .int .i64 0]) w) := by
  have HE := Lib.hid (errX_yes hr)
  have Hd := Lib.hid hd
  have Hn := Lib.hid hn
  clear hr hd hn
  have HW := Lib.hid (show 3370122240 + d + n * 32 + 0 * 65536 = wordX ⟨4, d, n, 0, 0, 0⟩ by simp [wordX])
  simp only [instrV]
  go_enter Try.func8, Try.ntmps8
  go_wp2_with (first | (go_at_call 6; refine (iright_any ⟨_, _, _, _, _, _⟩ _).mono ?_; rintro e w1 ⟨rfl, hb⟩; rw [HE.out]; have B : Below w.heap.size w w1 := Below.trans (by repeat' (first | with_reducible exact Below.refl _ _ | with_reducible assumption | with_reducible apply below_drewN | with_reducible apply Below.drew | with_reducible refine Below.setCell ?_ ?_ _ | with_reducible refine Below.alloc ?_ ?_ _ | omega | (simp; done) | (simp; omega))) (hb.mono (by first | omega | (simp; done) | (simp; omega))); have Bz := B.size; obtain ⟨k1, k2, k3, k4⟩ := keepB hb w.heap.size (by first | omega | (simp; done) | (simp; omega)); clear hb) | (go_at_call 23; refine (base_any _ _).mono ?_; rintro e w' ⟨rfl, rfl⟩; simp only [baseX, reduceIte, Int.reduceEq]) | (go_at_call 24; refine (three_any 3370122240 ⟨4, d, n, 0, 0, 0⟩ _ (u32_lit _ rfl) ⟨Int.le_refl 0, (by decide : (0 : Int) ≤ 31)⟩ Hn.out Hd.out (.inr (.inl ⟨rfl, by decide⟩))).mono ?_; rintro e w2 ⟨rfl, hb⟩; simp only [HW.out]; have B : Below w.heap.size w w2 := Below.trans (by repeat' (first | with_reducible exact Below.refl _ _ | with_reducible assumption | with_reducible apply below_drewN | with_reducible apply Below.drew | with_reducible refine Below.setCell ?_ ?_ _ | with_reducible refine Below.alloc ?_ ?_ _ | omega | (simp; done) | (simp; omega))) (hb.mono (by first | omega | (simp; done) | (simp; omega))); have Bz := B.size; clear hb))
  go_ret2
  exact ⟨rfl, by repeat' (first | with_reducible exact Below.refl _ _ | with_reducible assumption | with_reducible apply below_drewN | with_reducible apply Below.drew | with_reducible refine Below.setCell ?_ ?_ _ | with_reducible refine Below.alloc ?_ ?_ _ | omega | (simp; done) | (simp; omega))⟩

theorem encode5 (d n : Int) (hd : 0 ≤ d ∧ d ≤ 31) (hn : 0 ≤ n ∧ n ≤ 31) (hr : rightP ⟨5, d, n, 0, 0, 0⟩) (w : World) : Calls Try.prog 8 #[instrV ⟨5, d, n, 0, 0, 0⟩] w (RetB (.tuple #[.int .u32 (wordX ⟨5, d, n, 0, 0, 0⟩), .int .i64 0]) w) := by
  have HE := Lib.hid (errX_yes hr)
  have Hd := Lib.hid hd
  have Hn := Lib.hid hn
  clear hr hd hn
  have HW := Lib.hid (show 3365927936 + d + n * 32 + 0 * 65536 = wordX ⟨5, d, n, 0, 0, 0⟩ by simp [wordX])
  simp only [instrV]
  go_enter Try.func8, Try.ntmps8
  go_wp2_with (first | (go_at_call 6; refine (iright_any ⟨_, _, _, _, _, _⟩ _).mono ?_; rintro e w1 ⟨rfl, hb⟩; rw [HE.out]; have B : Below w.heap.size w w1 := Below.trans (by repeat' (first | with_reducible exact Below.refl _ _ | with_reducible assumption | with_reducible apply below_drewN | with_reducible apply Below.drew | with_reducible refine Below.setCell ?_ ?_ _ | with_reducible refine Below.alloc ?_ ?_ _ | omega | (simp; done) | (simp; omega))) (hb.mono (by first | omega | (simp; done) | (simp; omega))); have Bz := B.size; obtain ⟨k1, k2, k3, k4⟩ := keepB hb w.heap.size (by first | omega | (simp; done) | (simp; omega)); clear hb) | (go_at_call 23; refine (base_any _ _).mono ?_; rintro e w' ⟨rfl, rfl⟩; simp only [baseX, reduceIte, Int.reduceEq]) | (go_at_call 24; refine (three_any 3365927936 ⟨5, d, n, 0, 0, 0⟩ _ (u32_lit _ rfl) ⟨Int.le_refl 0, (by decide : (0 : Int) ≤ 31)⟩ Hn.out Hd.out (.inr (.inl ⟨rfl, by decide⟩))).mono ?_; rintro e w2 ⟨rfl, hb⟩; simp only [HW.out]; have B : Below w.heap.size w w2 := Below.trans (by repeat' (first | with_reducible exact Below.refl _ _ | with_reducible assumption | with_reducible apply below_drewN | with_reducible apply Below.drew | with_reducible refine Below.setCell ?_ ?_ _ | with_reducible refine Below.alloc ?_ ?_ _ | omega | (simp; done) | (simp; omega))) (hb.mono (by first | omega | (simp; done) | (simp; omega))); have Bz := B.size; clear hb))
  go_ret2
  exact ⟨rfl, by repeat' (first | with_reducible exact Below.refl _ _ | with_reducible assumption | with_reducible apply below_drewN | with_reducible apply Below.drew | with_reducible refine Below.setCell ?_ ?_ _ | with_reducible refine Below.alloc ?_ ?_ _ | omega | (simp; done) | (simp; omega))⟩

theorem encode8 (d n m : Int) (hd : 0 ≤ d ∧ d ≤ 31) (hn : 0 ≤ n ∧ n ≤ 31) (hm : 0 ≤ m ∧ m ≤ 31) (hr : rightP ⟨8, d, n, m, 0, 0⟩) (w : World) : Calls Try.prog 8 #[instrV ⟨8, d, n, m, 0, 0⟩] w (RetB (.tuple #[.int .u32 (wordX ⟨8, d, n, m, 0, 0⟩), .int .i64 0]) w) := by
  have HE := Lib.hid (errX_yes hr)
  have Hd := Lib.hid hd
  have Hn := Lib.hid hn
  have Hm := Lib.hid hm
  clear hr hd hn hm
  have HW := Lib.hid (show 2332033024 + d + n * 32 + m * 65536 = wordX ⟨8, d, n, m, 0, 0⟩ by simp [wordX])
  simp only [instrV]
  go_enter Try.func8, Try.ntmps8
  go_wp2_with (first | (go_at_call 6; refine (iright_any ⟨_, _, _, _, _, _⟩ _).mono ?_; rintro e w1 ⟨rfl, hb⟩; rw [HE.out]; have B : Below w.heap.size w w1 := Below.trans (by repeat' (first | with_reducible exact Below.refl _ _ | with_reducible assumption | with_reducible apply below_drewN | with_reducible apply Below.drew | with_reducible refine Below.setCell ?_ ?_ _ | with_reducible refine Below.alloc ?_ ?_ _ | omega | (simp; done) | (simp; omega))) (hb.mono (by first | omega | (simp; done) | (simp; omega))); have Bz := B.size; obtain ⟨k1, k2, k3, k4⟩ := keepB hb w.heap.size (by first | omega | (simp; done) | (simp; omega)); clear hb) | (go_at_call 23; refine (base_any _ _).mono ?_; rintro e w' ⟨rfl, rfl⟩; simp only [baseX, reduceIte, Int.reduceEq]) | (go_at_call 24; refine (three_any 2332033024 ⟨8, d, n, m, 0, 0⟩ _ (u32_lit _ rfl) Hm.out Hn.out Hd.out (.inl (by decide))).mono ?_; rintro e w2 ⟨rfl, hb⟩; simp only [HW.out]; have B : Below w.heap.size w w2 := Below.trans (by repeat' (first | with_reducible exact Below.refl _ _ | with_reducible assumption | with_reducible apply below_drewN | with_reducible apply Below.drew | with_reducible refine Below.setCell ?_ ?_ _ | with_reducible refine Below.alloc ?_ ?_ _ | omega | (simp; done) | (simp; omega))) (hb.mono (by first | omega | (simp; done) | (simp; omega))); have Bz := B.size; clear hb))
  go_ret2
  exact ⟨rfl, by repeat' (first | with_reducible exact Below.refl _ _ | with_reducible assumption | with_reducible apply below_drewN | with_reducible apply Below.drew | with_reducible refine Below.setCell ?_ ?_ _ | with_reducible refine Below.alloc ?_ ?_ _ | omega | (simp; done) | (simp; omega))⟩

theorem encode9 (d n m : Int) (hd : 0 ≤ d ∧ d ≤ 31) (hn : 0 ≤ n ∧ n ≤ 31) (hm : 0 ≤ m ∧ m ≤ 31) (hr : rightP ⟨9, d, n, m, 0, 0⟩) (w : World) : Calls Try.prog 8 #[instrV ⟨9, d, n, m, 0, 0⟩] w (RetB (.tuple #[.int .u32 (wordX ⟨9, d, n, m, 0, 0⟩), .int .i64 0]) w) := by
  have HE := Lib.hid (errX_yes hr)
  have Hd := Lib.hid hd
  have Hn := Lib.hid hn
  have Hm := Lib.hid hm
  clear hr hd hn hm
  have HW := Lib.hid (show 3405774848 + d + n * 32 + m * 65536 = wordX ⟨9, d, n, m, 0, 0⟩ by simp [wordX])
  simp only [instrV]
  go_enter Try.func8, Try.ntmps8
  go_wp2_with (first | (go_at_call 6; refine (iright_any ⟨_, _, _, _, _, _⟩ _).mono ?_; rintro e w1 ⟨rfl, hb⟩; rw [HE.out]; have B : Below w.heap.size w w1 := Below.trans (by repeat' (first | with_reducible exact Below.refl _ _ | with_reducible assumption | with_reducible apply below_drewN | with_reducible apply Below.drew | with_reducible refine Below.setCell ?_ ?_ _ | with_reducible refine Below.alloc ?_ ?_ _ | omega | (simp; done) | (simp; omega))) (hb.mono (by first | omega | (simp; done) | (simp; omega))); have Bz := B.size; obtain ⟨k1, k2, k3, k4⟩ := keepB hb w.heap.size (by first | omega | (simp; done) | (simp; omega)); clear hb) | (go_at_call 23; refine (base_any _ _).mono ?_; rintro e w' ⟨rfl, rfl⟩; simp only [baseX, reduceIte, Int.reduceEq]) | (go_at_call 24; refine (three_any 3405774848 ⟨9, d, n, m, 0, 0⟩ _ (u32_lit _ rfl) Hm.out Hn.out Hd.out (.inl (by decide))).mono ?_; rintro e w2 ⟨rfl, hb⟩; simp only [HW.out]; have B : Below w.heap.size w w2 := Below.trans (by repeat' (first | with_reducible exact Below.refl _ _ | with_reducible assumption | with_reducible apply below_drewN | with_reducible apply Below.drew | with_reducible refine Below.setCell ?_ ?_ _ | with_reducible refine Below.alloc ?_ ?_ _ | omega | (simp; done) | (simp; omega))) (hb.mono (by first | omega | (simp; done) | (simp; omega))); have Bz := B.size; clear hb))
  go_ret2
  exact ⟨rfl, by repeat' (first | with_reducible exact Below.refl _ _ | with_reducible assumption | with_reducible apply below_drewN | with_reducible apply Below.drew | with_reducible refine Below.setCell ?_ ?_ _ | with_reducible refine Below.alloc ?_ ?_ _ | omega | (simp; done) | (simp; omega))⟩

theorem encode10 (d n m : Int) (hd : 0 ≤ d ∧ d ≤ 31) (hn : 0 ≤ n ∧ n ≤ 31) (hm : 0 ≤ m ∧ m ≤ 31) (hr : rightP ⟨10, d, n, m, 0, 0⟩) (w : World) : Calls Try.prog 8 #[instrV ⟨10, d, n, m, 0, 0⟩] w (RetB (.tuple #[.int .u32 (wordX ⟨10, d, n, m, 0, 0⟩), .int .i64 0]) w) := by
  have HE := Lib.hid (errX_yes hr)
  have Hd := Lib.hid hd
  have Hn := Lib.hid hn
  have Hm := Lib.hid hm
  clear hr hd hn hm
  have HW := Lib.hid (show 2315255808 + d + n * 32 + m * 65536 = wordX ⟨10, d, n, m, 0, 0⟩ by simp [wordX])
  simp only [instrV]
  go_enter Try.func8, Try.ntmps8
  go_wp2_with (first | (go_at_call 6; refine (iright_any ⟨_, _, _, _, _, _⟩ _).mono ?_; rintro e w1 ⟨rfl, hb⟩; rw [HE.out]; have B : Below w.heap.size w w1 := Below.trans (by repeat' (first | with_reducible exact Below.refl _ _ | with_reducible assumption | with_reducible apply below_drewN | with_reducible apply Below.drew | with_reducible refine Below.setCell ?_ ?_ _ | with_reducible refine Below.alloc ?_ ?_ _ | omega | (simp; done) | (simp; omega))) (hb.mono (by first | omega | (simp; done) | (simp; omega))); have Bz := B.size; obtain ⟨k1, k2, k3, k4⟩ := keepB hb w.heap.size (by first | omega | (simp; done) | (simp; omega)); clear hb) | (go_at_call 23; refine (base_any _ _).mono ?_; rintro e w' ⟨rfl, rfl⟩; simp only [baseX, reduceIte, Int.reduceEq]) | (go_at_call 24; refine (three_any 2315255808 ⟨10, d, n, m, 0, 0⟩ _ (u32_lit _ rfl) Hm.out Hn.out Hd.out (.inl (by decide))).mono ?_; rintro e w2 ⟨rfl, hb⟩; simp only [HW.out]; have B : Below w.heap.size w w2 := Below.trans (by repeat' (first | with_reducible exact Below.refl _ _ | with_reducible assumption | with_reducible apply below_drewN | with_reducible apply Below.drew | with_reducible refine Below.setCell ?_ ?_ _ | with_reducible refine Below.alloc ?_ ?_ _ | omega | (simp; done) | (simp; omega))) (hb.mono (by first | omega | (simp; done) | (simp; omega))); have Bz := B.size; clear hb))
  go_ret2
  exact ⟨rfl, by repeat' (first | with_reducible exact Below.refl _ _ | with_reducible assumption | with_reducible apply below_drewN | with_reducible apply Below.drew | with_reducible refine Below.setCell ?_ ?_ _ | with_reducible refine Below.alloc ?_ ?_ _ | omega | (simp; done) | (simp; omega))⟩

theorem encode11 (d n m : Int) (hd : 0 ≤ d ∧ d ≤ 31) (hn : 0 ≤ n ∧ n ≤ 31) (hm : 0 ≤ m ∧ m ≤ 31) (hr : rightP ⟨11, d, n, m, 0, 0⟩) (w : World) : Calls Try.prog 8 #[instrV ⟨11, d, n, m, 0, 0⟩] w (RetB (.tuple #[.int .u32 (wordX ⟨11, d, n, m, 0, 0⟩), .int .i64 0]) w) := by
  have HE := Lib.hid (errX_yes hr)
  have Hd := Lib.hid hd
  have Hn := Lib.hid hn
  have Hm := Lib.hid hm
  clear hr hd hn hm
  have HW := Lib.hid (show 2852126720 + d + n * 32 + m * 65536 = wordX ⟨11, d, n, m, 0, 0⟩ by simp [wordX])
  simp only [instrV]
  go_enter Try.func8, Try.ntmps8
  go_wp2_with (first | (go_at_call 6; refine (iright_any ⟨_, _, _, _, _, _⟩ _).mono ?_; rintro e w1 ⟨rfl, hb⟩; rw [HE.out]; have B : Below w.heap.size w w1 := Below.trans (by repeat' (first | with_reducible exact Below.refl _ _ | with_reducible assumption | with_reducible apply below_drewN | with_reducible apply Below.drew | with_reducible refine Below.setCell ?_ ?_ _ | with_reducible refine Below.alloc ?_ ?_ _ | omega | (simp; done) | (simp; omega))) (hb.mono (by first | omega | (simp; done) | (simp; omega))); have Bz := B.size; obtain ⟨k1, k2, k3, k4⟩ := keepB hb w.heap.size (by first | omega | (simp; done) | (simp; omega)); clear hb) | (go_at_call 23; refine (base_any _ _).mono ?_; rintro e w' ⟨rfl, rfl⟩; simp only [baseX, reduceIte, Int.reduceEq]) | (go_at_call 24; refine (three_any 2852126720 ⟨11, d, n, m, 0, 0⟩ _ (u32_lit _ rfl) Hm.out Hn.out Hd.out (.inl (by decide))).mono ?_; rintro e w2 ⟨rfl, hb⟩; simp only [HW.out]; have B : Below w.heap.size w w2 := Below.trans (by repeat' (first | with_reducible exact Below.refl _ _ | with_reducible assumption | with_reducible apply below_drewN | with_reducible apply Below.drew | with_reducible refine Below.setCell ?_ ?_ _ | with_reducible refine Below.alloc ?_ ?_ _ | omega | (simp; done) | (simp; omega))) (hb.mono (by first | omega | (simp; done) | (simp; omega))); have Bz := B.size; clear hb))
  go_ret2
  exact ⟨rfl, by repeat' (first | with_reducible exact Below.refl _ _ | with_reducible assumption | with_reducible apply below_drewN | with_reducible apply Below.drew | with_reducible refine Below.setCell ?_ ?_ _ | with_reducible refine Below.alloc ?_ ?_ _ | omega | (simp; done) | (simp; omega))⟩

theorem encode12 (d n m : Int) (hd : 0 ≤ d ∧ d ≤ 31) (hn : 0 ≤ n ∧ n ≤ 31) (hm : 0 ≤ m ∧ m ≤ 31) (hr : rightP ⟨12, d, n, m, 0, 0⟩) (w : World) : Calls Try.prog 8 #[instrV ⟨12, d, n, m, 0, 0⟩] w (RetB (.tuple #[.int .u32 (wordX ⟨12, d, n, m, 0, 0⟩), .int .i64 0]) w) := by
  have HE := Lib.hid (errX_yes hr)
  have Hd := Lib.hid hd
  have Hn := Lib.hid hn
  have Hm := Lib.hid hm
  clear hr hd hn hm
  have HW := Lib.hid (show 3388997632 + d + n * 32 + m * 65536 = wordX ⟨12, d, n, m, 0, 0⟩ by simp [wordX])
  simp only [instrV]
  go_enter Try.func8, Try.ntmps8
  go_wp2_with (first | (go_at_call 6; refine (iright_any ⟨_, _, _, _, _, _⟩ _).mono ?_; rintro e w1 ⟨rfl, hb⟩; rw [HE.out]; have B : Below w.heap.size w w1 := Below.trans (by repeat' (first | with_reducible exact Below.refl _ _ | with_reducible assumption | with_reducible apply below_drewN | with_reducible apply Below.drew | with_reducible refine Below.setCell ?_ ?_ _ | with_reducible refine Below.alloc ?_ ?_ _ | omega | (simp; done) | (simp; omega))) (hb.mono (by first | omega | (simp; done) | (simp; omega))); have Bz := B.size; obtain ⟨k1, k2, k3, k4⟩ := keepB hb w.heap.size (by first | omega | (simp; done) | (simp; omega)); clear hb) | (go_at_call 23; refine (base_any _ _).mono ?_; rintro e w' ⟨rfl, rfl⟩; simp only [baseX, reduceIte, Int.reduceEq]) | (go_at_call 24; refine (three_any 3388997632 ⟨12, d, n, m, 0, 0⟩ _ (u32_lit _ rfl) Hm.out Hn.out Hd.out (.inl (by decide))).mono ?_; rintro e w2 ⟨rfl, hb⟩; simp only [HW.out]; have B : Below w.heap.size w w2 := Below.trans (by repeat' (first | with_reducible exact Below.refl _ _ | with_reducible assumption | with_reducible apply below_drewN | with_reducible apply Below.drew | with_reducible refine Below.setCell ?_ ?_ _ | with_reducible refine Below.alloc ?_ ?_ _ | omega | (simp; done) | (simp; omega))) (hb.mono (by first | omega | (simp; done) | (simp; omega))); have Bz := B.size; clear hb))
  go_ret2
  exact ⟨rfl, by repeat' (first | with_reducible exact Below.refl _ _ | with_reducible assumption | with_reducible apply below_drewN | with_reducible apply Below.drew | with_reducible refine Below.setCell ?_ ?_ _ | with_reducible refine Below.alloc ?_ ?_ _ | omega | (simp; done) | (simp; omega))⟩

theorem encode13 (d n m : Int) (hd : 0 ≤ d ∧ d ≤ 31) (hn : 0 ≤ n ∧ n ≤ 31) (hm : 0 ≤ m ∧ m ≤ 31) (hr : rightP ⟨13, d, n, m, 0, 0⟩) (w : World) : Calls Try.prog 8 #[instrV ⟨13, d, n, m, 0, 0⟩] w (RetB (.tuple #[.int .u32 (wordX ⟨13, d, n, m, 0, 0⟩), .int .i64 0]) w) := by
  have HE := Lib.hid (errX_yes hr)
  have Hd := Lib.hid hd
  have Hn := Lib.hid hn
  have Hm := Lib.hid hm
  clear hr hd hn hm
  have HW := Lib.hid (show 3942645760 + d + n * 32 + m * 65536 = wordX ⟨13, d, n, m, 0, 0⟩ by simp [wordX])
  simp only [instrV]
  go_enter Try.func8, Try.ntmps8
  go_wp2_with (first | (go_at_call 6; refine (iright_any ⟨_, _, _, _, _, _⟩ _).mono ?_; rintro e w1 ⟨rfl, hb⟩; rw [HE.out]; have B : Below w.heap.size w w1 := Below.trans (by repeat' (first | with_reducible exact Below.refl _ _ | with_reducible assumption | with_reducible apply below_drewN | with_reducible apply Below.drew | with_reducible refine Below.setCell ?_ ?_ _ | with_reducible refine Below.alloc ?_ ?_ _ | omega | (simp; done) | (simp; omega))) (hb.mono (by first | omega | (simp; done) | (simp; omega))); have Bz := B.size; obtain ⟨k1, k2, k3, k4⟩ := keepB hb w.heap.size (by first | omega | (simp; done) | (simp; omega)); clear hb) | (go_at_call 23; refine (base_any _ _).mono ?_; rintro e w' ⟨rfl, rfl⟩; simp only [baseX, reduceIte, Int.reduceEq]) | (go_at_call 24; refine (three_any 3942645760 ⟨13, d, n, m, 0, 0⟩ _ (u32_lit _ rfl) Hm.out Hn.out Hd.out (.inl (by decide))).mono ?_; rintro e w2 ⟨rfl, hb⟩; simp only [HW.out]; have B : Below w.heap.size w w2 := Below.trans (by repeat' (first | with_reducible exact Below.refl _ _ | with_reducible assumption | with_reducible apply below_drewN | with_reducible apply Below.drew | with_reducible refine Below.setCell ?_ ?_ _ | with_reducible refine Below.alloc ?_ ?_ _ | omega | (simp; done) | (simp; omega))) (hb.mono (by first | omega | (simp; done) | (simp; omega))); have Bz := B.size; clear hb))
  go_ret2
  exact ⟨rfl, by repeat' (first | with_reducible exact Below.refl _ _ | with_reducible assumption | with_reducible apply below_drewN | with_reducible apply Below.drew | with_reducible refine Below.setCell ?_ ?_ _ | with_reducible refine Below.alloc ?_ ?_ _ | omega | (simp; done) | (simp; omega))⟩

theorem encode20 (hr : rightP ⟨20, 0, 0, 0, 0, 0⟩) (w : World) : Calls Try.prog 8 #[instrV ⟨20, 0, 0, 0, 0, 0⟩] w (RetB (.tuple #[.int .u32 (wordX ⟨20, 0, 0, 0, 0, 0⟩), .int .i64 0]) w) := by
  have HE := Lib.hid (errX_yes hr)
  clear hr 
  have HW := Lib.hid (show 3573759967 + 0 + 0 * 32 + 0 * 65536 = wordX ⟨20, 0, 0, 0, 0, 0⟩ by simp [wordX])
  simp only [instrV]
  go_enter Try.func8, Try.ntmps8
  go_wp2_with (first | (go_at_call 6; refine (iright_any ⟨_, _, _, _, _, _⟩ _).mono ?_; rintro e w1 ⟨rfl, hb⟩; rw [HE.out]; have B : Below w.heap.size w w1 := Below.trans (by repeat' (first | with_reducible exact Below.refl _ _ | with_reducible assumption | with_reducible apply below_drewN | with_reducible apply Below.drew | with_reducible refine Below.setCell ?_ ?_ _ | with_reducible refine Below.alloc ?_ ?_ _ | omega | (simp; done) | (simp; omega))) (hb.mono (by first | omega | (simp; done) | (simp; omega))); have Bz := B.size; obtain ⟨k1, k2, k3, k4⟩ := keepB hb w.heap.size (by first | omega | (simp; done) | (simp; omega)); clear hb) | (go_at_call 23; refine (base_any _ _).mono ?_; rintro e w' ⟨rfl, rfl⟩; simp only [baseX, reduceIte, Int.reduceEq]) | (go_at_call 24; refine (three_any 3573759967 ⟨20, 0, 0, 0, 0, 0⟩ _ (u32_lit _ rfl) ⟨by decide, by decide⟩ ⟨by decide, by decide⟩ ⟨by decide, by decide⟩ (.inr (.inr ⟨rfl, rfl, rfl⟩))).mono ?_; rintro e w2 ⟨rfl, hb⟩; simp only [HW.out]; have B : Below w.heap.size w w2 := Below.trans (by repeat' (first | with_reducible exact Below.refl _ _ | with_reducible assumption | with_reducible apply below_drewN | with_reducible apply Below.drew | with_reducible refine Below.setCell ?_ ?_ _ | with_reducible refine Below.alloc ?_ ?_ _ | omega | (simp; done) | (simp; omega))) (hb.mono (by first | omega | (simp; done) | (simp; omega))); have Bz := B.size; clear hb))
  go_ret2
  exact ⟨rfl, by repeat' (first | with_reducible exact Below.refl _ _ | with_reducible assumption | with_reducible apply below_drewN | with_reducible apply Below.drew | with_reducible refine Below.setCell ?_ ?_ _ | with_reducible refine Below.alloc ?_ ?_ _ | omega | (simp; done) | (simp; omega))⟩

theorem encode22 (hr : rightP ⟨22, 0, 0, 0, 0, 0⟩) (w : World) : Calls Try.prog 8 #[instrV ⟨22, 0, 0, 0, 0, 0⟩] w (RetB (.tuple #[.int .u32 (wordX ⟨22, 0, 0, 0, 0, 0⟩), .int .i64 0]) w) := by
  have HE := Lib.hid (errX_yes hr)
  clear hr 
  have HW := Lib.hid (show 3600745440 + 0 + 0 * 32 + 0 * 65536 = wordX ⟨22, 0, 0, 0, 0, 0⟩ by simp [wordX])
  simp only [instrV]
  go_enter Try.func8, Try.ntmps8
  go_wp2_with (first | (go_at_call 6; refine (iright_any ⟨_, _, _, _, _, _⟩ _).mono ?_; rintro e w1 ⟨rfl, hb⟩; rw [HE.out]; have B : Below w.heap.size w w1 := Below.trans (by repeat' (first | with_reducible exact Below.refl _ _ | with_reducible assumption | with_reducible apply below_drewN | with_reducible apply Below.drew | with_reducible refine Below.setCell ?_ ?_ _ | with_reducible refine Below.alloc ?_ ?_ _ | omega | (simp; done) | (simp; omega))) (hb.mono (by first | omega | (simp; done) | (simp; omega))); have Bz := B.size; obtain ⟨k1, k2, k3, k4⟩ := keepB hb w.heap.size (by first | omega | (simp; done) | (simp; omega)); clear hb) | (go_at_call 23; refine (base_any _ _).mono ?_; rintro e w' ⟨rfl, rfl⟩; simp only [baseX, reduceIte, Int.reduceEq]) | (go_at_call 24; refine (three_any 3600745440 ⟨22, 0, 0, 0, 0, 0⟩ _ (u32_lit _ rfl) ⟨by decide, by decide⟩ ⟨by decide, by decide⟩ ⟨by decide, by decide⟩ (.inr (.inr ⟨rfl, rfl, rfl⟩))).mono ?_; rintro e w2 ⟨rfl, hb⟩; simp only [HW.out]; have B : Below w.heap.size w w2 := Below.trans (by repeat' (first | with_reducible exact Below.refl _ _ | with_reducible assumption | with_reducible apply below_drewN | with_reducible apply Below.drew | with_reducible refine Below.setCell ?_ ?_ _ | with_reducible refine Below.alloc ?_ ?_ _ | omega | (simp; done) | (simp; omega))) (hb.mono (by first | omega | (simp; done) | (simp; omega))); have Bz := B.size; clear hb))
  go_ret2
  exact ⟨rfl, by repeat' (first | with_reducible exact Below.refl _ _ | with_reducible assumption | with_reducible apply below_drewN | with_reducible apply Below.drew | with_reducible refine Below.setCell ?_ ?_ _ | with_reducible refine Below.alloc ?_ ?_ _ | omega | (simp; done) | (simp; omega))⟩

set_option maxHeartbeats 1000000 in
theorem encode2 (d n imm : Int) (hd : 0 ≤ d ∧ d ≤ 31) (hn : 0 ≤ n ∧ n ≤ 31) (hi : 0 ≤ imm ∧ imm ≤ 32767) (hr : rightP ⟨2, d, n, 0, imm, 0⟩) (w : World) : Calls Try.prog 8 #[instrV ⟨2, d, n, 0, imm, 0⟩] w (RetB (.tuple #[.int .u32 (wordX ⟨2, d, n, 0, imm, 0⟩), .int .i64 0]) w) := by
  have HE := Lib.hid (errX_yes hr)
  have HW := Lib.hid (show bits .or .u32 (bits .or .u32 4181721088 (partZ (imm / 8) 12 10)) (d + n * 32) = wordX ⟨2, d, n, 0, imm, 0⟩ by
    have hp : partZ (imm / 8) 12 10 = imm / 8 * 1024 := by simp [partZ]; omega
    rw [hp, or_low32 22 (a := 4181721088) (b := imm / 8 * 1024) (by decide) (by decide) (by omega) (by omega) (by decide) (by decide), or_low32 10 (a := 4181721088 + imm / 8 * 1024) (b := d + n * 32) (by omega) (by omega) (by omega) (by omega) (by omega) (by decide)]
    simp [wordX]
    omega)
  have ht : imm.tdiv 8 = imm / 8 := Int.tdiv_eq_ediv_of_nonneg hi.1
  have Hd := Lib.hid hd
  have Hn := Lib.hid hn
  clear hr hd hn
  simp only [instrV]
  go_enter Try.func8, Try.ntmps8
  go_wp2_with (first | (go_at_call 6; refine (iright_any ⟨_, _, _, _, _, _⟩ _).mono ?_; rintro e w1 ⟨rfl, hb⟩; rw [HE.out]; have B : Below w.heap.size w w1 := Below.trans (by repeat' (first | with_reducible exact Below.refl _ _ | with_reducible assumption | with_reducible apply below_drewN | with_reducible apply Below.drew | with_reducible refine Below.setCell ?_ ?_ _ | with_reducible refine Below.alloc ?_ ?_ _ | omega | (simp; done) | (simp; omega))) (hb.mono (by first | omega | (simp; done) | (simp; omega))); have Bz := B.size; obtain ⟨k1, k2, k3, k4⟩ := keepB hb w.heap.size (by first | omega | (simp; done) | (simp; omega)); clear hb) | (go_at_call 23; refine (base_any _ _).mono ?_; rintro e w' ⟨rfl, rfl⟩; simp only [baseX, reduceIte, Int.reduceEq]))
  refine wp_region_qb1 w.heap.size (by kernel_rfl) (by kernel_rfl) (by first | omega | (simp; done) | (simp; omega)) (fun kq => ?_); (repeat (go_big_quiet_step (first | (go_at_call 24; exact quietB (three_any 0 ⟨2, d, n, 0, imm, 0⟩ _ (u32_lit _ rfl) ⟨Int.le_refl 0, (by decide : (0 : Int) ≤ 31)⟩ Hn.out Hd.out (.inr (.inl ⟨rfl, by decide⟩)))) | (go_at_call 25; exact quietB (part_b _ _ _ _ (by decide)))))); refine wpQuiet_nil ?_; clear kq; intro wq hb
  go_wp2
  go_ret2
  exact ⟨by rw [← HW.out]; rfl, by first | exact Below.trans B (hb.mono Bz) | (repeat' (first | with_reducible exact Below.refl _ _ | with_reducible assumption | with_reducible apply below_drewN | with_reducible apply Below.drew | with_reducible refine Below.setCell ?_ ?_ _ | with_reducible refine Below.alloc ?_ ?_ _ | omega | (simp; done) | (simp; omega)))⟩

set_option maxHeartbeats 1000000 in
theorem encode3 (d n imm : Int) (hd : 0 ≤ d ∧ d ≤ 31) (hn : 0 ≤ n ∧ n ≤ 31) (hi : 0 ≤ imm ∧ imm ≤ 32767) (hr : rightP ⟨3, d, n, 0, imm, 0⟩) (w : World) : Calls Try.prog 8 #[instrV ⟨3, d, n, 0, imm, 0⟩] w (RetB (.tuple #[.int .u32 (wordX ⟨3, d, n, 0, imm, 0⟩), .int .i64 0]) w) := by
  have HE := Lib.hid (errX_yes hr)
  have HW := Lib.hid (show bits .or .u32 (bits .or .u32 4177526784 (partZ (imm / 8) 12 10)) (d + n * 32) = wordX ⟨3, d, n, 0, imm, 0⟩ by
    have hp : partZ (imm / 8) 12 10 = imm / 8 * 1024 := by simp [partZ]; omega
    rw [hp, or_low32 22 (a := 4177526784) (b := imm / 8 * 1024) (by decide) (by decide) (by omega) (by omega) (by decide) (by decide), or_low32 10 (a := 4177526784 + imm / 8 * 1024) (b := d + n * 32) (by omega) (by omega) (by omega) (by omega) (by omega) (by decide)]
    simp [wordX]
    omega)
  have ht : imm.tdiv 8 = imm / 8 := Int.tdiv_eq_ediv_of_nonneg hi.1
  have Hd := Lib.hid hd
  have Hn := Lib.hid hn
  clear hr hd hn
  simp only [instrV]
  go_enter Try.func8, Try.ntmps8
  go_wp2_with (first | (go_at_call 6; refine (iright_any ⟨_, _, _, _, _, _⟩ _).mono ?_; rintro e w1 ⟨rfl, hb⟩; rw [HE.out]; have B : Below w.heap.size w w1 := Below.trans (by repeat' (first | with_reducible exact Below.refl _ _ | with_reducible assumption | with_reducible apply below_drewN | with_reducible apply Below.drew | with_reducible refine Below.setCell ?_ ?_ _ | with_reducible refine Below.alloc ?_ ?_ _ | omega | (simp; done) | (simp; omega))) (hb.mono (by first | omega | (simp; done) | (simp; omega))); have Bz := B.size; obtain ⟨k1, k2, k3, k4⟩ := keepB hb w.heap.size (by first | omega | (simp; done) | (simp; omega)); clear hb) | (go_at_call 23; refine (base_any _ _).mono ?_; rintro e w' ⟨rfl, rfl⟩; simp only [baseX, reduceIte, Int.reduceEq]))
  refine wp_region_qb1 w.heap.size (by kernel_rfl) (by kernel_rfl) (by first | omega | (simp; done) | (simp; omega)) (fun kq => ?_); (repeat (go_big_quiet_step (first | (go_at_call 24; exact quietB (three_any 0 ⟨3, d, n, 0, imm, 0⟩ _ (u32_lit _ rfl) ⟨Int.le_refl 0, (by decide : (0 : Int) ≤ 31)⟩ Hn.out Hd.out (.inr (.inl ⟨rfl, by decide⟩)))) | (go_at_call 25; exact quietB (part_b _ _ _ _ (by decide)))))); refine wpQuiet_nil ?_; clear kq; intro wq hb
  go_wp2
  go_ret2
  exact ⟨by rw [← HW.out]; rfl, by first | exact Below.trans B (hb.mono Bz) | (repeat' (first | with_reducible exact Below.refl _ _ | with_reducible assumption | with_reducible apply below_drewN | with_reducible apply Below.drew | with_reducible refine Below.setCell ?_ ?_ _ | with_reducible refine Below.alloc ?_ ?_ _ | omega | (simp; done) | (simp; omega)))⟩

set_option maxHeartbeats 1000000 in
theorem encode7 (d n imm : Int) (hd : 0 ≤ d ∧ d ≤ 31) (hn : 0 ≤ n ∧ n ≤ 31) (hi : 0 ≤ imm ∧ imm ≤ 4095) (hr : rightP ⟨7, d, n, 0, imm, 0⟩) (w : World) : Calls Try.prog 8 #[instrV ⟨7, d, n, 0, imm, 0⟩] w (RetB (.tuple #[.int .u32 (wordX ⟨7, d, n, 0, imm, 0⟩), .int .i64 0]) w) := by
  have HE := Lib.hid (errX_yes hr)
  have HW := Lib.hid (show bits .or .u32 (bits .or .u32 2432696320 (partZ (imm) 12 10)) (d + n * 32) = wordX ⟨7, d, n, 0, imm, 0⟩ by
    have hp : partZ (imm) 12 10 = imm * 1024 := by simp [partZ]; omega
    rw [hp, or_low32 22 (a := 2432696320) (b := imm * 1024) (by decide) (by decide) (by omega) (by omega) (by decide) (by decide), or_low32 10 (a := 2432696320 + imm * 1024) (b := d + n * 32) (by omega) (by omega) (by omega) (by omega) (by omega) (by decide)]
    simp [wordX]
    omega)
  have Hd := Lib.hid hd
  have Hn := Lib.hid hn
  clear hr hd hn hi
  simp only [instrV]
  go_enter Try.func8, Try.ntmps8
  go_wp2_with (first | (go_at_call 6; refine (iright_any ⟨_, _, _, _, _, _⟩ _).mono ?_; rintro e w1 ⟨rfl, hb⟩; rw [HE.out]; have B : Below w.heap.size w w1 := Below.trans (by repeat' (first | with_reducible exact Below.refl _ _ | with_reducible assumption | with_reducible apply below_drewN | with_reducible apply Below.drew | with_reducible refine Below.setCell ?_ ?_ _ | with_reducible refine Below.alloc ?_ ?_ _ | omega | (simp; done) | (simp; omega))) (hb.mono (by first | omega | (simp; done) | (simp; omega))); have Bz := B.size; obtain ⟨k1, k2, k3, k4⟩ := keepB hb w.heap.size (by first | omega | (simp; done) | (simp; omega)); clear hb) | (go_at_call 23; refine (base_any _ _).mono ?_; rintro e w' ⟨rfl, rfl⟩; simp only [baseX, reduceIte, Int.reduceEq]))
  refine wp_region_qb1 w.heap.size (by kernel_rfl) (by kernel_rfl) (by first | omega | (simp; done) | (simp; omega)) (fun kq => ?_); (repeat (go_big_quiet_step (first | (go_at_call 24; exact quietB (three_any 0 ⟨7, d, n, 0, imm, 0⟩ _ (u32_lit _ rfl) ⟨Int.le_refl 0, (by decide : (0 : Int) ≤ 31)⟩ Hn.out Hd.out (.inr (.inl ⟨rfl, by decide⟩)))) | (go_at_call 25; exact quietB (part_b _ _ _ _ (by decide)))))); refine wpQuiet_nil ?_; clear kq; intro wq hb
  go_wp2
  go_ret2
  exact ⟨by rw [← HW.out]; rfl, by first | exact Below.trans B (hb.mono Bz) | (repeat' (first | with_reducible exact Below.refl _ _ | with_reducible assumption | with_reducible apply below_drewN | with_reducible apply Below.drew | with_reducible refine Below.setCell ?_ ?_ _ | with_reducible refine Below.alloc ?_ ?_ _ | omega | (simp; done) | (simp; omega)))⟩

set_option maxHeartbeats 1000000 in
theorem encode6 (d imm kind : Int) (hd : 0 ≤ d ∧ d ≤ 31) (hi : 0 ≤ imm ∧ imm ≤ 65535) (hk : 0 ≤ kind ∧ kind ≤ 3) (hr : rightP ⟨6, d, 0, 0, imm, kind⟩) (w : World) : Calls Try.prog 8 #[instrV ⟨6, d, 0, 0, imm, kind⟩] w (RetB (.tuple #[.int .u32 (wordX ⟨6, d, 0, 0, imm, kind⟩), .int .i64 0]) w) := by
  have HE := Lib.hid (errX_yes hr)
  have HW := Lib.hid (show bits .or .u32 (bits .or .u32 (bits .or .u32 3531603968 (partZ kind 2 21)) (partZ imm 16 5)) d = wordX ⟨6, d, 0, 0, imm, kind⟩ by
    have hp : partZ kind 2 21 = kind * 2097152 := by simp [partZ]; omega
    have hq : partZ imm 16 5 = imm * 32 := by simp [partZ]; omega
    rw [hp, hq, or_low32 23 (a := 3531603968) (b := kind * 2097152) (by decide) (by decide) (by omega) (by omega) (by decide) (by decide), or_low32 21 (a := 3531603968 + kind * 2097152) (b := imm * 32) (by omega) (by omega) (by omega) (by omega) (by omega) (by decide), or_low32 5 (a := 3531603968 + kind * 2097152 + imm * 32) (b := d) (by omega) (by omega) (by omega) (by omega) (by omega) (by decide)]
    simp [wordX]
    omega)
  clear hr hi hk
  simp only [instrV]
  go_enter Try.func8, Try.ntmps8
  go_wp2_with (first | (go_at_call 6; refine (iright_any ⟨_, _, _, _, _, _⟩ _).mono ?_; rintro e w1 ⟨rfl, hb⟩; rw [HE.out]; have B : Below w.heap.size w w1 := Below.trans (by repeat' (first | with_reducible exact Below.refl _ _ | with_reducible assumption | with_reducible apply below_drewN | with_reducible apply Below.drew | with_reducible refine Below.setCell ?_ ?_ _ | with_reducible refine Below.alloc ?_ ?_ _ | omega | (simp; done) | (simp; omega))) (hb.mono (by first | omega | (simp; done) | (simp; omega))); have Bz := B.size; obtain ⟨k1, k2, k3, k4⟩ := keepB hb w.heap.size (by first | omega | (simp; done) | (simp; omega)); clear hb) | (go_at_call 23; refine (base_any _ _).mono ?_; rintro e w' ⟨rfl, rfl⟩; simp only [baseX, reduceIte, Int.reduceEq]))
  refine wp_region_qb1 w.heap.size (by kernel_rfl) (by kernel_rfl) (by first | omega | (simp; done) | (simp; omega)) (fun kq => ?_); (repeat (go_big_quiet_step ((go_at_call 25; exact quietB (part_b _ _ _ _ (by decide)))))); refine wpQuiet_nil ?_; clear kq; intro wq hb
  go_wp2
  go_ret2
  exact ⟨by rw [← HW.out]; rfl, by first | exact Below.trans B (hb.mono Bz) | (repeat' (first | with_reducible exact Below.refl _ _ | with_reducible assumption | with_reducible apply below_drewN | with_reducible apply Below.drew | with_reducible refine Below.setCell ?_ ?_ _ | with_reducible refine Below.alloc ?_ ?_ _ | omega | (simp; done) | (simp; omega)))⟩

set_option maxHeartbeats 1000000 in
theorem encode14 (imm : Int) (hr : rightP ⟨14, 0, 0, 0, imm, 0⟩) (w : World) : Calls Try.prog 8 #[instrV ⟨14, 0, 0, 0, imm, 0⟩] w (RetB (.tuple #[.int .u32 (wordX ⟨14, 0, 0, 0, imm, 0⟩), .int .i64 0]) w) := by
  have HE := Lib.hid (errX_yes hr)
  have HW := Lib.hid (show bits .or .u32 335544320 (partZ imm 26 0) = wordX ⟨14, 0, 0, 0, imm, 0⟩ by
    have hp : partZ imm 26 0 = imm % 67108864 := by simp [partZ]
    rw [hp, or_low32 26 (a := 335544320) (b := imm % 67108864) (by decide) (by decide) (by omega) (by omega) (by decide) (by decide)]
    simp [wordX])
  clear hr
  simp only [instrV]
  go_enter Try.func8, Try.ntmps8
  go_wp2_with (first | (go_at_call 6; refine (iright_any ⟨_, _, _, _, _, _⟩ _).mono ?_; rintro e w1 ⟨rfl, hb⟩; rw [HE.out]; have B : Below w.heap.size w w1 := Below.trans (by repeat' (first | with_reducible exact Below.refl _ _ | with_reducible assumption | with_reducible apply below_drewN | with_reducible apply Below.drew | with_reducible refine Below.setCell ?_ ?_ _ | with_reducible refine Below.alloc ?_ ?_ _ | omega | (simp; done) | (simp; omega))) (hb.mono (by first | omega | (simp; done) | (simp; omega))); have Bz := B.size; obtain ⟨k1, k2, k3, k4⟩ := keepB hb w.heap.size (by first | omega | (simp; done) | (simp; omega)); clear hb) | (go_at_call 23; refine (base_any _ _).mono ?_; rintro e w' ⟨rfl, rfl⟩; simp only [baseX, reduceIte, Int.reduceEq]) | (go_at_call 25; refine (part_b _ _ _ _ (by decide)).mono ?_; rintro e w2 ⟨rfl, hb⟩; have B : Below w.heap.size w w2 := Below.trans (by repeat' (first | with_reducible exact Below.refl _ _ | with_reducible assumption | with_reducible apply below_drewN | with_reducible apply Below.drew | with_reducible refine Below.setCell ?_ ?_ _ | with_reducible refine Below.alloc ?_ ?_ _ | omega | (simp; done) | (simp; omega))) (hb.mono (by first | omega | (simp; done) | (simp; omega))); have Bz := B.size; clear hb))
  go_ret2
  exact ⟨by rw [← HW.out]; rfl, by first | exact Below.trans B (hb.mono Bz) | (repeat' (first | with_reducible exact Below.refl _ _ | with_reducible assumption | with_reducible apply below_drewN | with_reducible apply Below.drew | with_reducible refine Below.setCell ?_ ?_ _ | with_reducible refine Below.alloc ?_ ?_ _ | omega | (simp; done) | (simp; omega)))⟩

set_option maxHeartbeats 1000000 in
theorem encode15 (d imm : Int) (hd : 0 ≤ d ∧ d ≤ 31) (hr : rightP ⟨15, d, 0, 0, imm, 0⟩) (w : World) : Calls Try.prog 8 #[instrV ⟨15, d, 0, 0, imm, 0⟩] w (RetB (.tuple #[.int .u32 (wordX ⟨15, d, 0, 0, imm, 0⟩), .int .i64 0]) w) := by
  have HE := Lib.hid (errX_yes hr)
  have HW := Lib.hid (show bits .or .u32 (bits .or .u32 3019898880 (partZ imm 19 5)) d = wordX ⟨15, d, 0, 0, imm, 0⟩ by
    have hp : partZ imm 19 5 = imm % 524288 * 32 := by simp [partZ]
    rw [hp, or_low32 24 (a := 3019898880) (b := imm % 524288 * 32) (by decide) (by decide) (by omega) (by omega) (by decide) (by decide), or_low32 5 (a := 3019898880 + imm % 524288 * 32) (b := d) (by omega) (by omega) (by omega) (by omega) (by omega) (by decide)]
    simp [wordX]
    omega)
  clear hr
  simp only [instrV]
  go_enter Try.func8, Try.ntmps8
  go_wp2_with (first | (go_at_call 6; refine (iright_any ⟨_, _, _, _, _, _⟩ _).mono ?_; rintro e w1 ⟨rfl, hb⟩; rw [HE.out]; have B : Below w.heap.size w w1 := Below.trans (by repeat' (first | with_reducible exact Below.refl _ _ | with_reducible assumption | with_reducible apply below_drewN | with_reducible apply Below.drew | with_reducible refine Below.setCell ?_ ?_ _ | with_reducible refine Below.alloc ?_ ?_ _ | omega | (simp; done) | (simp; omega))) (hb.mono (by first | omega | (simp; done) | (simp; omega))); have Bz := B.size; obtain ⟨k1, k2, k3, k4⟩ := keepB hb w.heap.size (by first | omega | (simp; done) | (simp; omega)); clear hb) | (go_at_call 23; refine (base_any _ _).mono ?_; rintro e w' ⟨rfl, rfl⟩; simp only [baseX, reduceIte, Int.reduceEq]))
  refine wp_region_qb1 w.heap.size (by kernel_rfl) (by kernel_rfl) (by first | omega | (simp; done) | (simp; omega)) (fun kq => ?_); (repeat (go_big_quiet_step ((go_at_call 25; exact quietB (part_b _ _ _ _ (by decide)))))); refine wpQuiet_nil ?_; clear kq; intro wq hb
  go_wp2
  go_ret2
  exact ⟨by rw [← HW.out]; rfl, by first | exact Below.trans B (hb.mono Bz) | (repeat' (first | with_reducible exact Below.refl _ _ | with_reducible assumption | with_reducible apply below_drewN | with_reducible apply Below.drew | with_reducible refine Below.setCell ?_ ?_ _ | with_reducible refine Below.alloc ?_ ?_ _ | omega | (simp; done) | (simp; omega)))⟩

set_option maxHeartbeats 1000000 in
theorem encode16 (d imm : Int) (hd : 0 ≤ d ∧ d ≤ 31) (hr : rightP ⟨16, d, 0, 0, imm, 0⟩) (w : World) : Calls Try.prog 8 #[instrV ⟨16, d, 0, 0, imm, 0⟩] w (RetB (.tuple #[.int .u32 (wordX ⟨16, d, 0, 0, imm, 0⟩), .int .i64 0]) w) := by
  have HE := Lib.hid (errX_yes hr)
  have HW := Lib.hid (show bits .or .u32 (bits .or .u32 3036676096 (partZ imm 19 5)) d = wordX ⟨16, d, 0, 0, imm, 0⟩ by
    have hp : partZ imm 19 5 = imm % 524288 * 32 := by simp [partZ]
    rw [hp, or_low32 24 (a := 3036676096) (b := imm % 524288 * 32) (by decide) (by decide) (by omega) (by omega) (by decide) (by decide), or_low32 5 (a := 3036676096 + imm % 524288 * 32) (b := d) (by omega) (by omega) (by omega) (by omega) (by omega) (by decide)]
    simp [wordX]
    omega)
  clear hr
  simp only [instrV]
  go_enter Try.func8, Try.ntmps8
  go_wp2_with (first | (go_at_call 6; refine (iright_any ⟨_, _, _, _, _, _⟩ _).mono ?_; rintro e w1 ⟨rfl, hb⟩; rw [HE.out]; have B : Below w.heap.size w w1 := Below.trans (by repeat' (first | with_reducible exact Below.refl _ _ | with_reducible assumption | with_reducible apply below_drewN | with_reducible apply Below.drew | with_reducible refine Below.setCell ?_ ?_ _ | with_reducible refine Below.alloc ?_ ?_ _ | omega | (simp; done) | (simp; omega))) (hb.mono (by first | omega | (simp; done) | (simp; omega))); have Bz := B.size; obtain ⟨k1, k2, k3, k4⟩ := keepB hb w.heap.size (by first | omega | (simp; done) | (simp; omega)); clear hb) | (go_at_call 23; refine (base_any _ _).mono ?_; rintro e w' ⟨rfl, rfl⟩; simp only [baseX, reduceIte, Int.reduceEq]))
  refine wp_region_qb1 w.heap.size (by kernel_rfl) (by kernel_rfl) (by first | omega | (simp; done) | (simp; omega)) (fun kq => ?_); (repeat (go_big_quiet_step ((go_at_call 25; exact quietB (part_b _ _ _ _ (by decide)))))); refine wpQuiet_nil ?_; clear kq; intro wq hb
  go_wp2
  go_ret2
  exact ⟨by rw [← HW.out]; rfl, by first | exact Below.trans B (hb.mono Bz) | (repeat' (first | with_reducible exact Below.refl _ _ | with_reducible assumption | with_reducible apply below_drewN | with_reducible apply Below.drew | with_reducible refine Below.setCell ?_ ?_ _ | with_reducible refine Below.alloc ?_ ?_ _ | omega | (simp; done) | (simp; omega)))⟩

set_option maxHeartbeats 1000000 in
theorem encode17 (kind imm : Int) (hd : 0 ≤ kind ∧ kind ≤ 1) (hr : rightP ⟨17, 0, 0, 0, imm, kind⟩) (w : World) : Calls Try.prog 8 #[instrV ⟨17, 0, 0, 0, imm, kind⟩] w (RetB (.tuple #[.int .u32 (wordX ⟨17, 0, 0, 0, imm, kind⟩), .int .i64 0]) w) := by
  have HE := Lib.hid (errX_yes hr)
  have HW := Lib.hid (show bits .or .u32 (bits .or .u32 1409286144 (partZ imm 19 5)) kind = wordX ⟨17, 0, 0, 0, imm, kind⟩ by
    have hp : partZ imm 19 5 = imm % 524288 * 32 := by simp [partZ]
    rw [hp, or_low32 24 (a := 1409286144) (b := imm % 524288 * 32) (by decide) (by decide) (by omega) (by omega) (by decide) (by decide), or_low32 5 (a := 1409286144 + imm % 524288 * 32) (b := kind) (by omega) (by omega) (by omega) (by omega) (by omega) (by decide)]
    simp [wordX]
    omega)
  clear hr
  simp only [instrV]
  go_enter Try.func8, Try.ntmps8
  go_wp2_with (first | (go_at_call 6; refine (iright_any ⟨_, _, _, _, _, _⟩ _).mono ?_; rintro e w1 ⟨rfl, hb⟩; rw [HE.out]; have B : Below w.heap.size w w1 := Below.trans (by repeat' (first | with_reducible exact Below.refl _ _ | with_reducible assumption | with_reducible apply below_drewN | with_reducible apply Below.drew | with_reducible refine Below.setCell ?_ ?_ _ | with_reducible refine Below.alloc ?_ ?_ _ | omega | (simp; done) | (simp; omega))) (hb.mono (by first | omega | (simp; done) | (simp; omega))); have Bz := B.size; obtain ⟨k1, k2, k3, k4⟩ := keepB hb w.heap.size (by first | omega | (simp; done) | (simp; omega)); clear hb) | (go_at_call 23; refine (base_any _ _).mono ?_; rintro e w' ⟨rfl, rfl⟩; simp only [baseX, reduceIte, Int.reduceEq]))
  refine wp_region_qb1 w.heap.size (by kernel_rfl) (by kernel_rfl) (by first | omega | (simp; done) | (simp; omega)) (fun kq => ?_); (repeat (go_big_quiet_step ((go_at_call 25; exact quietB (part_b _ _ _ _ (by decide)))))); refine wpQuiet_nil ?_; clear kq; intro wq hb
  go_wp2
  go_ret2
  exact ⟨by rw [← HW.out]; rfl, by first | exact Below.trans B (hb.mono Bz) | (repeat' (first | with_reducible exact Below.refl _ _ | with_reducible assumption | with_reducible apply below_drewN | with_reducible apply Below.drew | with_reducible refine Below.setCell ?_ ?_ _ | with_reducible refine Below.alloc ?_ ?_ _ | omega | (simp; done) | (simp; omega)))⟩

set_option maxHeartbeats 1000000 in
theorem encode18 (kind : Int) (hk : kind = 9 ∨ kind = 10 ∨ kind = 11 ∨ kind = 13 ∨ kind = 14 ∨ kind = 15) (hr : rightP ⟨18, 0, 0, 0, 0, kind⟩) (w : World) : Calls Try.prog 8 #[instrV ⟨18, 0, 0, 0, 0, kind⟩] w (RetB (.tuple #[.int .u32 (wordX ⟨18, 0, 0, 0, 0, kind⟩), .int .i64 0]) w) := by
  have HE := Lib.hid (errX_yes hr)
  clear hr
  rcases hk with rfl | rfl | rfl | rfl | rfl | rfl
  all_goals
    simp only [instrV]
    go_enter Try.func8, Try.ntmps8
    go_wp2_with (first | (go_at_call 6; refine (iright_any ⟨_, _, _, _, _, _⟩ _).mono ?_; rintro e w1 ⟨rfl, hb⟩; rw [HE.out]; have B : Below w.heap.size w w1 := Below.trans (by repeat' (first | with_reducible exact Below.refl _ _ | with_reducible assumption | with_reducible apply below_drewN | with_reducible apply Below.drew | with_reducible refine Below.setCell ?_ ?_ _ | with_reducible refine Below.alloc ?_ ?_ _ | omega | (simp; done) | (simp; omega))) (hb.mono (by first | omega | (simp; done) | (simp; omega))); have Bz := B.size; obtain ⟨k1, k2, k3, k4⟩ := keepB hb w.heap.size (by first | omega | (simp; done) | (simp; omega)); clear hb) | (go_at_call 23; refine (base_any _ _).mono ?_; rintro e w' ⟨rfl, rfl⟩; simp only [baseX, reduceIte, Int.reduceEq]))
    go_ret2
    exact ⟨by simp [wordX]; first | decide +kernel | rfl, by repeat' (first | with_reducible exact Below.refl _ _ | with_reducible assumption | with_reducible apply below_drewN | with_reducible apply Below.drew | with_reducible refine Below.setCell ?_ ?_ _ | with_reducible refine Below.alloc ?_ ?_ _ | omega | (simp; done) | (simp; omega))⟩

set_option maxHeartbeats 1000000 in
theorem encode19 (kind : Int) (hk : kind = 9 ∨ kind = 10 ∨ kind = 11 ∨ kind = 13 ∨ kind = 14 ∨ kind = 15) (hr : rightP ⟨19, 0, 0, 0, 0, kind⟩) (w : World) : Calls Try.prog 8 #[instrV ⟨19, 0, 0, 0, 0, kind⟩] w (RetB (.tuple #[.int .u32 (wordX ⟨19, 0, 0, 0, 0, kind⟩), .int .i64 0]) w) := by
  have HE := Lib.hid (errX_yes hr)
  clear hr
  rcases hk with rfl | rfl | rfl | rfl | rfl | rfl
  all_goals
    simp only [instrV]
    go_enter Try.func8, Try.ntmps8
    go_wp2_with (first | (go_at_call 6; refine (iright_any ⟨_, _, _, _, _, _⟩ _).mono ?_; rintro e w1 ⟨rfl, hb⟩; rw [HE.out]; have B : Below w.heap.size w w1 := Below.trans (by repeat' (first | with_reducible exact Below.refl _ _ | with_reducible assumption | with_reducible apply below_drewN | with_reducible apply Below.drew | with_reducible refine Below.setCell ?_ ?_ _ | with_reducible refine Below.alloc ?_ ?_ _ | omega | (simp; done) | (simp; omega))) (hb.mono (by first | omega | (simp; done) | (simp; omega))); have Bz := B.size; obtain ⟨k1, k2, k3, k4⟩ := keepB hb w.heap.size (by first | omega | (simp; done) | (simp; omega)); clear hb) | (go_at_call 23; refine (base_any _ _).mono ?_; rintro e w' ⟨rfl, rfl⟩; simp only [baseX, reduceIte, Int.reduceEq]))
    go_ret2
    exact ⟨by simp [wordX]; first | decide +kernel | rfl, by repeat' (first | with_reducible exact Below.refl _ _ | with_reducible assumption | with_reducible apply below_drewN | with_reducible apply Below.drew | with_reducible refine Below.setCell ?_ ?_ _ | with_reducible refine Below.alloc ?_ ?_ _ | omega | (simp; done) | (simp; omega))⟩

set_option maxHeartbeats 1000000 in
theorem encode21 (d kind : Int) (hd : 0 ≤ d ∧ d ≤ 31) (hk : 0 ≤ kind ∧ kind ≤ 7) (hr : rightP ⟨21, d, 0, 0, 0, kind⟩) (w : World) : Calls Try.prog 8 #[instrV ⟨21, d, 0, 0, 0, kind⟩] w (RetB (.tuple #[.int .u32 (wordX ⟨21, d, 0, 0, 0, kind⟩), .int .i64 0]) w) := by
  have HE := Lib.hid (errX_yes hr)
  have hk2 : kind = 0 ∨ kind = 1 ∨ kind = 2 ∨ kind = 3 ∨ kind = 4 ∨ kind = 5 ∨ kind = 6 ∨ kind = 7 := by omega
  have ho : bits .or .u32 3574104832 (flushZ kind) = 3574104832 + flushZ kind ∧ flushZ kind % 32 = 0 ∧ 0 ≤ flushZ kind ∧ flushZ kind ≤ 24576 := by rcases hk2 with rfl | rfl | rfl | rfl | rfl | rfl | rfl | rfl <;> decide +kernel
  have HW := Lib.hid (show bits .or .u32 (bits .or .u32 3574104832 (flushZ kind)) d = wordX ⟨21, d, 0, 0, 0, kind⟩ by
    rw [ho.1, or_low32 5 (a := 3574104832 + flushZ kind) (b := d) (by omega) (by omega) (by omega) (by omega) (by omega) (by decide)]
    simp [wordX]
    omega)
  have Hk := Lib.hid hk
  clear hr hk2 ho hk
  simp only [instrV]
  go_enter Try.func8, Try.ntmps8
  go_wp2_with (first | (go_at_call 6; refine (iright_any ⟨_, _, _, _, _, _⟩ _).mono ?_; rintro e w1 ⟨rfl, hb⟩; rw [HE.out]; have B : Below w.heap.size w w1 := Below.trans (by repeat' (first | with_reducible exact Below.refl _ _ | with_reducible assumption | with_reducible apply below_drewN | with_reducible apply Below.drew | with_reducible refine Below.setCell ?_ ?_ _ | with_reducible refine Below.alloc ?_ ?_ _ | omega | (simp; done) | (simp; omega))) (hb.mono (by first | omega | (simp; done) | (simp; omega))); have Bz := B.size; obtain ⟨k1, k2, k3, k4⟩ := keepB hb w.heap.size (by first | omega | (simp; done) | (simp; omega)); clear hb) | (go_at_call 23; refine (base_any _ _).mono ?_; rintro e w' ⟨rfl, rfl⟩; simp only [baseX, reduceIte, Int.reduceEq]) | (go_at_call 26; refine (flush_any _ _ Hk.out).mono ?_; rintro e w' ⟨rfl, rfl⟩))
  try (refine wp_region_qb1 w.heap.size (by kernel_rfl) (by kernel_rfl) (by first | omega | (simp; done) | (simp; omega)) (fun kq => ?_); (repeat (go_big_quiet_step ((go_at_call 26; exact quietB ((flush_any _ _ Hk.out).mono fun _ _ h => h.b)))))); refine wpQuiet_nil ?_; clear kq; intro wq hb
  go_wp2
  go_ret2
  exact ⟨by rw [← HW.out]; rfl, by first | exact Below.trans B (hb.mono Bz) | (repeat' (first | with_reducible exact Below.refl _ _ | with_reducible assumption | with_reducible apply below_drewN | with_reducible apply Below.drew | with_reducible refine Below.setCell ?_ ?_ _ | with_reducible refine Below.alloc ?_ ?_ _ | omega | (simp; done) | (simp; omega)))⟩

set_option maxHeartbeats 1000000 in
theorem encode23 (d kind : Int) (hd : 0 ≤ d ∧ d ≤ 31) (hk : 0 ≤ kind ∧ kind ≤ 2) (hr : rightP ⟨23, d, 0, 0, 0, kind⟩) (w : World) : Calls Try.prog 8 #[instrV ⟨23, d, 0, 0, 0, kind⟩] w (RetB (.tuple #[.int .u32 (wordX ⟨23, d, 0, 0, 0, kind⟩), .int .i64 0]) w) := by
  have HE := Lib.hid (errX_yes hr)
  have hk2 : kind = 0 ∨ kind = 1 ∨ kind = 2 := by omega
  have ho : bits .or .u32 3577217024 (systemZ kind) = 3577217024 + systemZ kind ∧ systemZ kind % 32 = 0 ∧ 0 ≤ systemZ kind ∧ systemZ kind ≤ 24576 := by rcases hk2 with rfl | rfl | rfl <;> decide +kernel
  have HW := Lib.hid (show bits .or .u32 (bits .or .u32 3577217024 (systemZ kind)) d = wordX ⟨23, d, 0, 0, 0, kind⟩ by
    rw [ho.1, or_low32 5 (a := 3577217024 + systemZ kind) (b := d) (by omega) (by omega) (by omega) (by omega) (by omega) (by decide)]
    simp [wordX]
    omega)
  have Hk := Lib.hid hk
  clear hr hk2 ho hk
  simp only [instrV]
  go_enter Try.func8, Try.ntmps8
  go_wp2_with (first | (go_at_call 6; refine (iright_any ⟨_, _, _, _, _, _⟩ _).mono ?_; rintro e w1 ⟨rfl, hb⟩; rw [HE.out]; have B : Below w.heap.size w w1 := Below.trans (by repeat' (first | with_reducible exact Below.refl _ _ | with_reducible assumption | with_reducible apply below_drewN | with_reducible apply Below.drew | with_reducible refine Below.setCell ?_ ?_ _ | with_reducible refine Below.alloc ?_ ?_ _ | omega | (simp; done) | (simp; omega))) (hb.mono (by first | omega | (simp; done) | (simp; omega))); have Bz := B.size; obtain ⟨k1, k2, k3, k4⟩ := keepB hb w.heap.size (by first | omega | (simp; done) | (simp; omega)); clear hb) | (go_at_call 23; refine (base_any _ _).mono ?_; rintro e w' ⟨rfl, rfl⟩; simp only [baseX, reduceIte, Int.reduceEq]) | (go_at_call 27; refine (system_any _ _ Hk.out).mono ?_; rintro e w' ⟨rfl, rfl⟩))
  try (refine wp_region_qb1 w.heap.size (by kernel_rfl) (by kernel_rfl) (by first | omega | (simp; done) | (simp; omega)) (fun kq => ?_); (repeat (go_big_quiet_step ((go_at_call 27; exact quietB ((system_any _ _ Hk.out).mono fun _ _ h => h.b)))))); refine wpQuiet_nil ?_; clear kq; intro wq hb
  go_wp2
  go_ret2
  exact ⟨by rw [← HW.out]; rfl, by first | exact Below.trans B (hb.mono Bz) | (repeat' (first | with_reducible exact Below.refl _ _ | with_reducible assumption | with_reducible apply below_drewN | with_reducible apply Below.drew | with_reducible refine Below.setCell ?_ ?_ _ | with_reducible refine Below.alloc ?_ ?_ _ | omega | (simp; done) | (simp; omega)))⟩

theorem encode_any (x : X) (w : World) : Calls Try.prog 8 #[instrV x] w (RetB (.tuple #[.int .u32 (encW x), .int .i64 (errX x)]) w) := by
  by_cases hr : rightP x
  · rw [errX_yes hr, show encW x = wordX x from if_pos hr]
    obtain ⟨op, d, n, m, imm, kind⟩ := x
    have h := hr
    unfold rightP at h
    simp only at h
    rcases h with h | h | h | h | h | h | h | h | h | h | h | h | h | h | h | h | h | h | h | h | h | h | h
    · obtain ⟨rfl, rfl, rfl, rfl, rfl, rfl⟩ := h; exact encode1  hr w
    · obtain ⟨rfl, d0, d1, n0, n1, rfl, i0, i1, i2, rfl⟩ := h; exact encode2 _ _ _ ⟨d0, d1⟩ ⟨n0, n1⟩ ⟨i0, i1⟩ hr w
    · obtain ⟨rfl, d0, d1, n0, n1, rfl, i0, i1, i2, rfl⟩ := h; exact encode3 _ _ _ ⟨d0, d1⟩ ⟨n0, n1⟩ ⟨i0, i1⟩ hr w
    · obtain ⟨rfl, d0, d1, n0, n1, rfl, rfl, rfl⟩ := h; exact encode4 _ _ ⟨d0, d1⟩ ⟨n0, n1⟩ hr w
    · obtain ⟨rfl, d0, d1, n0, n1, rfl, rfl, rfl⟩ := h; exact encode5 _ _ ⟨d0, d1⟩ ⟨n0, n1⟩ hr w
    · obtain ⟨rfl, d0, d1, rfl, rfl, i0, i1, k0, k1⟩ := h; exact encode6 _ _ _ ⟨d0, d1⟩ ⟨i0, i1⟩ ⟨k0, k1⟩ hr w
    · obtain ⟨rfl, d0, d1, n0, n1, rfl, i0, i1, rfl⟩ := h; exact encode7 _ _ _ ⟨d0, d1⟩ ⟨n0, n1⟩ ⟨i0, i1⟩ hr w
    · obtain ⟨rfl, d0, d1, n0, n1, m0, m1, rfl, rfl⟩ := h; exact encode8 _ _ _ ⟨d0, d1⟩ ⟨n0, n1⟩ ⟨m0, m1⟩ hr w
    · obtain ⟨rfl, d0, d1, n0, n1, m0, m1, rfl, rfl⟩ := h; exact encode9 _ _ _ ⟨d0, d1⟩ ⟨n0, n1⟩ ⟨m0, m1⟩ hr w
    · obtain ⟨rfl, d0, d1, n0, n1, m0, m1, rfl, rfl⟩ := h; exact encode10 _ _ _ ⟨d0, d1⟩ ⟨n0, n1⟩ ⟨m0, m1⟩ hr w
    · obtain ⟨rfl, d0, d1, n0, n1, m0, m1, rfl, rfl⟩ := h; exact encode11 _ _ _ ⟨d0, d1⟩ ⟨n0, n1⟩ ⟨m0, m1⟩ hr w
    · obtain ⟨rfl, d0, d1, n0, n1, m0, m1, rfl, rfl⟩ := h; exact encode12 _ _ _ ⟨d0, d1⟩ ⟨n0, n1⟩ ⟨m0, m1⟩ hr w
    · obtain ⟨rfl, d0, d1, n0, n1, m0, m1, rfl, rfl⟩ := h; exact encode13 _ _ _ ⟨d0, d1⟩ ⟨n0, n1⟩ ⟨m0, m1⟩ hr w
    · obtain ⟨rfl, rfl, rfl, rfl, i0, i1, rfl⟩ := h; exact encode14 _ hr w
    · obtain ⟨rfl, d0, d1, rfl, rfl, i0, i1, rfl⟩ := h; exact encode15 _ _ ⟨d0, d1⟩ hr w
    · obtain ⟨rfl, d0, d1, rfl, rfl, i0, i1, rfl⟩ := h; exact encode16 _ _ ⟨d0, d1⟩ hr w
    · obtain ⟨rfl, rfl, rfl, rfl, i0, i1, k0, k1⟩ := h; exact encode17 _ _ ⟨k0, k1⟩ hr w
    · obtain ⟨rfl, rfl, rfl, rfl, rfl, hk⟩ := h; exact encode18 _ hk hr w
    · obtain ⟨rfl, rfl, rfl, rfl, rfl, hk⟩ := h; exact encode19 _ hk hr w
    · obtain ⟨rfl, rfl, rfl, rfl, rfl, rfl⟩ := h; exact encode20  hr w
    · obtain ⟨rfl, d0, d1, rfl, rfl, rfl, k0, k1, k2⟩ := h; exact encode21 _ _ ⟨d0, d1⟩ ⟨k0, k1⟩ hr w
    · obtain ⟨rfl, rfl, rfl, rfl, rfl, rfl⟩ := h; exact encode22  hr w
    · obtain ⟨rfl, d0, d1, rfl, rfl, rfl, k0, k1⟩ := h; exact encode23 _ _ ⟨d0, d1⟩ ⟨k0, k1⟩ hr w
  · rw [errX_no hr, show encW x = 0 from if_neg hr]
    exact encode_no x w hr


end Go.Proofs.Ytdlodacogldinaa