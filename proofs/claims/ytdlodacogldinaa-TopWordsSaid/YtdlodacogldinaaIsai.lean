/- Contracts of isa.others, Decode. -/
import Derived.Test.YtdlodacogldinaaIsah
namespace Go.Proofs.Ytdlodacogldinaa
open Go.RowKit
set_option linter.unusedSimpArgs false
set_option linter.unusedVariables false


theorem good_no {a : Int} {x : X} (h : goodX a x = false) : (errX x = 30 ∧ encW x = 0) ∨ (errX x = 0 ∧ ¬ encW x = a) := by
  by_cases hr : rightP x
  · refine .inr ⟨errX_yes hr, fun e => ?_⟩
    rw [encW, if_pos hr] at e
    rw [good_iff.2 ⟨hr, e⟩] at h
    cases h
  · exact .inl ⟨errX_no hr, if_neg hr⟩
theorem good_yes {a : Int} {x : X} (h : goodX a x = true) : errX x = 0 ∧ encW x = a := by
  obtain ⟨hr, e⟩ := good_iff.1 h
  exact ⟨errX_yes hr, by rw [encW, if_pos hr, e]⟩
theorem tail_none {a : Int} (h : ∀ j : Nat, j < 16 → goodX a (cand a j) = false) : tailX a = none := by
  unfold tailX
  rw [List.find?_eq_none]
  intro x hx
  obtain ⟨j, hj, rfl⟩ := List.mem_map.1 hx
  rw [h j (List.mem_range.1 hj)]
  decide


theorem oth1 (w : World) (HM : Hid (othX 3573751839 = some ⟨1, 0, 0, 0, 0, 0⟩)) : Calls Try.prog 12 #[.int .u32 3573751839] w (RetO (othX 3573751839) w) := by
  have HU : Hid (U32 3573751839) := Lib.hid (u32_lit _ rfl)
  go_enter Try.func12, Try.ntmps12
  go_wp2_with (first | (go_at_call 28; refine (iget_any _ _ _ _ HU.out (by decide)).mono ?_; rintro e w' ⟨rfl, nn, rfl⟩; simp only [get40, get118]) | (go_at_call 23; refine (base_any _ _).mono ?_; rintro e w' ⟨rfl, rfl⟩; simp only [baseX, reduceIte, Int.reduceEq]))
  refine bodyPost_ret (v := .tuple #[instrV ⟨1, 0, 0, 0, 0, 0⟩, .bool true]) ?_ rfl (retO_some ⟨1, 0, 0, 0, 0, 0⟩ HM.out ?_)
  · simp [results, Try.results12, go_sem]
  · go_tidy
    repeat' (first | with_reducible exact Below.refl _ _ | with_reducible assumption | with_reducible apply below_drewN | with_reducible apply Below.drew | with_reducible refine Below.setCell ?_ ?_ _ | with_reducible refine Below.alloc ?_ ?_ _ | omega | (simp; done) | (simp; omega))

theorem oth2 (w : World) (HM : Hid (othX 3573759967 = some ⟨20, 0, 0, 0, 0, 0⟩)) : Calls Try.prog 12 #[.int .u32 3573759967] w (RetO (othX 3573759967) w) := by
  have HU : Hid (U32 3573759967) := Lib.hid (u32_lit _ rfl)
  go_enter Try.func12, Try.ntmps12
  go_wp2_with (first | (go_at_call 28; refine (iget_any _ _ _ _ HU.out (by decide)).mono ?_; rintro e w' ⟨rfl, nn, rfl⟩; simp only [get40, get118]) | (go_at_call 23; refine (base_any _ _).mono ?_; rintro e w' ⟨rfl, rfl⟩; simp only [baseX, reduceIte, Int.reduceEq]))
  refine bodyPost_ret (v := .tuple #[instrV ⟨20, 0, 0, 0, 0, 0⟩, .bool true]) ?_ rfl (retO_some ⟨20, 0, 0, 0, 0, 0⟩ HM.out ?_)
  · simp [results, Try.results12, go_sem]
  · go_tidy
    repeat' (first | with_reducible exact Below.refl _ _ | with_reducible assumption | with_reducible apply below_drewN | with_reducible apply Below.drew | with_reducible refine Below.setCell ?_ ?_ _ | with_reducible refine Below.alloc ?_ ?_ _ | omega | (simp; done) | (simp; omega))

theorem oth3 (a : Int) (w : World) (ha : U32 a) (HM : Hid (othX a = some ⟨18, 0, 0, 0, 0, a / 256 % 16⟩)) (c0 : ¬ a = 3573751839) (c1 : ¬ a = 3573759967) (HA : bits .and .u32 a 4294963455 = 3573756095) (HB : Hid (barrB (a / 256 % 16) = true)) : Calls Try.prog 12 #[.int .u32 a] w (RetO (othX a) w) := by
  have HU : Hid (U32 a) := Lib.hid ha
  clear ha
  go_enter Try.func12, Try.ntmps12
  go_wp2_with (first | (go_at_call 28; refine (iget_any _ _ _ _ HU.out (by decide)).mono ?_; rintro e w' ⟨rfl, nn, rfl⟩; simp only [get40, get118]) | (go_at_call 23; refine (base_any _ _).mono ?_; rintro e w' ⟨rfl, rfl⟩; simp only [baseX, reduceIte, Int.reduceEq]) | (go_at_call 30; refine (barrier_any _ _).mono ?_; rintro e w' ⟨rfl, rfl⟩; rw [HB.out]))
  refine bodyPost_ret (v := .tuple #[instrV ⟨18, 0, 0, 0, 0, a / 256 % 16⟩, .bool true]) ?_ rfl (retO_some ⟨18, 0, 0, 0, 0, a / 256 % 16⟩ HM.out ?_)
  · simp [results, Try.results12, go_sem]
  · go_tidy
    repeat' (first | with_reducible exact Below.refl _ _ | with_reducible assumption | with_reducible apply below_drewN | with_reducible apply Below.drew | with_reducible refine Below.setCell ?_ ?_ _ | with_reducible refine Below.alloc ?_ ?_ _ | omega | (simp; done) | (simp; omega))

theorem oth4 (a : Int) (w : World) (ha : U32 a) (HM : Hid (othX a = some ⟨19, 0, 0, 0, 0, a / 256 % 16⟩)) (c0 : ¬ a = 3573751839) (c1 : ¬ a = 3573759967) (HA : bits .and .u32 a 4294963455 = 3573756063) (HB : Hid (barrB (a / 256 % 16) = true)) : Calls Try.prog 12 #[.int .u32 a] w (RetO (othX a) w) := by
  have HU : Hid (U32 a) := Lib.hid ha
  clear ha
  go_enter Try.func12, Try.ntmps12
  go_wp2_with (first | (go_at_call 28; refine (iget_any _ _ _ _ HU.out (by decide)).mono ?_; rintro e w' ⟨rfl, nn, rfl⟩; simp only [get40, get118]) | (go_at_call 23; refine (base_any _ _).mono ?_; rintro e w' ⟨rfl, rfl⟩; simp only [baseX, reduceIte, Int.reduceEq]) | (go_at_call 30; refine (barrier_any _ _).mono ?_; rintro e w' ⟨rfl, rfl⟩; rw [HB.out]))
  refine bodyPost_ret (v := .tuple #[instrV ⟨19, 0, 0, 0, 0, a / 256 % 16⟩, .bool true]) ?_ rfl (retO_some ⟨19, 0, 0, 0, 0, a / 256 % 16⟩ HM.out ?_)
  · simp [results, Try.results12, go_sem]
  · go_tidy
    repeat' (first | with_reducible exact Below.refl _ _ | with_reducible assumption | with_reducible apply below_drewN | with_reducible apply Below.drew | with_reducible refine Below.setCell ?_ ?_ _ | with_reducible refine Below.alloc ?_ ?_ _ | omega | (simp; done) | (simp; omega))

set_option maxHeartbeats 8000000 in
theorem oth5 (a : Int) (w : World) (ha : U32 a) (HT : Hid (othX a = tailX a)) (c0 : ¬ a = 3573751839) (c1 : ¬ a = 3573759967) (HA : bits .and .u32 a 4294963455 = 3573756095) (HB : Hid (barrB (a / 256 % 16) = false)) : Calls Try.prog 12 #[.int .u32 a] w (RetO (othX a) w) := by
  have HU := Lib.hid ha
  clear ha
  go_enter Try.func12, Try.ntmps12
  go_wp2_with (first | (go_at_call 28; refine (iget_any _ _ _ _ HU.out (by decide)).mono ?_; rintro e w' ⟨rfl, nn, rfl⟩; simp only [get40, get118]) | (go_at_call 23; refine (base_any _ _).mono ?_; rintro e w' ⟨rfl, rfl⟩; simp only [baseX, reduceIte, Int.reduceEq]) | (go_at_call 30; refine (barrier_any _ _).mono ?_; rintro e w' ⟨rfl, rfl⟩; rw [HB.out]))
  clear c0 c1 HA HB
  go_loopw [48] (fun i V => ∃ k : Int, 0 ≤ k ∧ k ≤ 2 ∧ i = .int .i64 k ∧ (∀ j : Nat, (j : Int) < 8 * k → goodX a (cand a j) = false) ∧ V.heap[w.heap.size]? = some (.cells #[.int .i64 0, .int .i64 0, .int .i64 0, .int .i64 0, .int .i64 0, .int .i64 0] 24) ∧ V.heap[w.heap.size + 2]? = some (.cells #[.int .i64 21, .int .i64 23] 3) ∧ Below w.heap.size w V ∧ w.heap.size + 3 ≤ V.heap.size) (fun i _ => 2 - (intOf i).toNat)
  case atStart => exact ⟨0, by omega, by omega, rfl, fun j h => by omega, (by (repeat (first | assumption | (refine heap_new _ _ _ ?_; simp; done) | refine heap_old _ _ _ _ ?_))), (by (repeat (first | assumption | (refine heap_new _ _ _ ?_; simp; done) | refine heap_old _ _ _ _ ?_))), by repeat' (first | with_reducible exact Below.refl _ _ | with_reducible assumption | with_reducible apply below_drewN | with_reducible apply Below.drew | with_reducible refine Below.setCell ?_ ?_ _ | with_reducible refine Below.alloc ?_ ?_ _ | omega | (simp; done) | (simp; omega)), (by first | omega | (simp; done) | (simp; omega))⟩
  case round =>
    obtain ⟨k, hk0, hk2, rfl, hno, hblk, hsl, hB, hsz⟩ := hrel
    have hc : k = 2 ∨ k = 0 ∨ k = 1 := by omega
    obtain ⟨cs, fs, ls, ns⟩ := block_cells hsl
    have e0 := cs 0 _ rfl
    have e1 := cs 1 _ rfl
    have HBLK := Lib.hid hblk
    have HSL := Lib.hid hsl
    have HNO := Lib.hid hno
    clear cs hblk hsl hno hk0 hk2
    rcases hc with rfl | rfl | rfl
    · have HM := Lib.hid (show othX a = none by rw [HT.out]; exact tail_none fun j hj => HNO.out j (by omega))
      obtain ⟨c2, f2, l2, n2⟩ := block_cells HBLK.out
      have d0 := c2 0 _ rfl
      have d1 := c2 1 _ rfl
      have d2 := c2 2 _ rfl
      have d3 := c2 3 _ rfl
      have d4 := c2 4 _ rfl
      have d5 := c2 5 _ rfl
      clear c2
      go_wp2_with fail
      refine bodyPost_ret (v := .tuple #[instrV ⟨0, 0, 0, 0, 0, 0⟩, .bool false]) ?_ rfl (retO_none ⟨0, 0, 0, 0, 0, 0⟩ HM.out ?_)
      · simp [results, Try.results12, go_sem, d0, d1, d2, d3, d4, d5]
      · go_tidy
        repeat' (first | with_reducible exact Below.refl _ _ | with_reducible assumption | with_reducible apply below_drewN | with_reducible apply Below.drew | with_reducible refine Below.setCell ?_ ?_ _ | with_reducible refine Below.alloc ?_ ?_ _ | omega | (simp; done) | (simp; omega))
    · go_wp2_with fail
      go_loopw [52] (fun i U => ∃ m : Nat, m ≤ 8 ∧ i = .int .i64 (m : Nat) ∧ (∀ j : Nat, j < 0 + m → goodX a (cand a j) = false) ∧ U.heap[w.heap.size]? = some (.cells #[.int .i64 0, .int .i64 0, .int .i64 0, .int .i64 0, .int .i64 0, .int .i64 0] 24) ∧ U.heap[w.heap.size + 2]? = some (.cells #[.int .i64 21, .int .i64 23] 3) ∧ Below w.heap.size w U ∧ w.heap.size + 3 ≤ U.heap.size) (fun i _ => 8 - (intOf i).toNat)
      case atStart => exact ⟨0, by omega, rfl, fun j h => HNO.out j (by omega), HBLK.out, HSL.out, hB, hsz⟩
      case round =>
        clear HNO HBLK HSL hB hsz e0 e1 fs ls ns
        obtain ⟨m, hm, rfl, hno, hblk, hsl, hB, hsz⟩ := hrel
        have HBLK := Lib.hid hblk
        have HSL := Lib.hid hsl
        have HNO := Lib.hid hno
        clear hblk hsl hno
        by_cases hm8 : m < 8
        · have hm8i : ((m : Nat) : Int) < 8 := by omega
          have hm8d : decide (((m : Nat) : Int) < 8) = true := decide_eq_true hm8i
          have hec : cand a (0 + m) = ⟨21, a % 32, 0, 0, 0, (m : Nat)⟩ := by
            unfold cand
            rw [show (0 + m) % 8 = m by omega, if_pos (by omega)]
          rcases hg : goodX a (cand a (0 + m)) with _ | _
          · have HS : Hid (∀ j : Nat, j < 0 + (m + 1) → goodX a (cand a j) = false) := Lib.hid fun j h => by
              by_cases hj : j < 0 + m
              · exact HNO.out j hj
              · obtain rfl : j = 0 + m := by omega
                exact hg
            rw [hec] at hg
            clear hec
            rcases good_no hg with ⟨h1, h2⟩ | ⟨h1, h2⟩
            · have HE := Lib.hid h1
              have HW := Lib.hid h2
              clear hg h1 h2
              go_wp2_with (first | (go_at_call 28; refine (iget_any _ _ _ _ HU.out (by decide)).mono ?_; rintro e wg ⟨rfl, nn, hg⟩; simp only [get40]; have Bg : Below wr.heap.size wr wg := (by rw [hg]; exact below_drewN (Below.refl _ _) _); have Bgz := Bg.size; clear hg) | (go_at_call 8; refine (encode_any ⟨_, _, _, _, _, _⟩ _).mono ?_; rintro e w1 ⟨rfl, hb⟩; rw [HE.out, HW.out]; have B0 : Below wg.heap.size wg w1 := Below.trans (by repeat' (first | with_reducible exact Below.refl _ _ | with_reducible assumption | with_reducible apply below_drewN | with_reducible apply Below.drew | with_reducible refine Below.setCell ?_ ?_ _ | with_reducible refine Below.alloc ?_ ?_ _ | omega | (simp; done) | (simp; omega))) (hb.mono (by first | omega | (simp; done) | (simp; omega))); have B1 : Below wr.heap.size wr w1 := Bg.trans (B0.mono Bgz); have Bz1 := B1.size; obtain ⟨k1, k2, k3, k4⟩ := keepB hb wg.heap.size (by first | omega | (simp; done) | (simp; omega)); clear hb))
              go_roundw
              case rel => exact ⟨m + 1, by omega, by go_num, HS.out, (B1.block w.heap.size (by omega)).trans HBLK.out, (B1.block (w.heap.size + 2) (by omega)).trans HSL.out, hB.trans (B1.mono (by omega)), by omega⟩
              case measure => first | (simp [intOf]; done) | (simp [intOf]; omega)
            · have HE := Lib.hid h1
              obtain ⟨ew, hew⟩ : ∃ ew, encW ⟨21, a % 32, 0, 0, 0, (m : Nat)⟩ = ew := ⟨_, rfl⟩
              rw [hew] at h2
              have HW := Lib.hid hew
              have hne : (ew == a) = false := by simpa using h2
              clear hg h1 h2 hew
              go_wp2_with (first | (go_at_call 28; refine (iget_any _ _ _ _ HU.out (by decide)).mono ?_; rintro e wg ⟨rfl, nn, hg⟩; simp only [get40]; have Bg : Below wr.heap.size wr wg := (by rw [hg]; exact below_drewN (Below.refl _ _) _); have Bgz := Bg.size; clear hg) | (go_at_call 8; refine (encode_any ⟨_, _, _, _, _, _⟩ _).mono ?_; rintro e w1 ⟨rfl, hb⟩; rw [HE.out, HW.out]; have B0 : Below wg.heap.size wg w1 := Below.trans (by repeat' (first | with_reducible exact Below.refl _ _ | with_reducible assumption | with_reducible apply below_drewN | with_reducible apply Below.drew | with_reducible refine Below.setCell ?_ ?_ _ | with_reducible refine Below.alloc ?_ ?_ _ | omega | (simp; done) | (simp; omega))) (hb.mono (by first | omega | (simp; done) | (simp; omega))); have B1 : Below wr.heap.size wr w1 := Bg.trans (B0.mono Bgz); have Bz1 := B1.size; obtain ⟨k1, k2, k3, k4⟩ := keepB hb wg.heap.size (by first | omega | (simp; done) | (simp; omega)); clear hb))
              go_roundw
              case rel => exact ⟨m + 1, by omega, by go_num, HS.out, (B1.block w.heap.size (by omega)).trans HBLK.out, (B1.block (w.heap.size + 2) (by omega)).trans HSL.out, hB.trans (B1.mono (by omega)), by omega⟩
              case measure => first | (simp [intOf]; done) | (simp [intOf]; omega)
          · have HM := Lib.hid (show othX a = some ⟨21, a % 32, 0, 0, 0, (m : Nat)⟩ by rw [HT.out, tail_cand (j := 0 + m) (by omega) hg, hec])
            rw [hec] at hg
            clear hec
            obtain ⟨h1, h2⟩ := good_yes hg
            have HE := Lib.hid h1
            have HW := Lib.hid h2
            clear hg h1 h2
            go_wp2_with (first | (go_at_call 28; refine (iget_any _ _ _ _ HU.out (by decide)).mono ?_; rintro e wg ⟨rfl, nn, hg⟩; simp only [get40]; have Bg : Below wr.heap.size wr wg := (by rw [hg]; exact below_drewN (Below.refl _ _) _); have Bgz := Bg.size; clear hg) | (go_at_call 8; refine (encode_any ⟨_, _, _, _, _, _⟩ _).mono ?_; rintro e w1 ⟨rfl, hb⟩; rw [HE.out, HW.out]; have B0 : Below wg.heap.size wg w1 := Below.trans (by repeat' (first | with_reducible exact Below.refl _ _ | with_reducible assumption | with_reducible apply below_drewN | with_reducible apply Below.drew | with_reducible refine Below.setCell ?_ ?_ _ | with_reducible refine Below.alloc ?_ ?_ _ | omega | (simp; done) | (simp; omega))) (hb.mono (by first | omega | (simp; done) | (simp; omega))); have B1 : Below wr.heap.size wr w1 := Bg.trans (B0.mono Bgz); have Bz1 := B1.size; obtain ⟨k1, k2, k3, k4⟩ := keepB hb wg.heap.size (by first | omega | (simp; done) | (simp; omega)); obtain ⟨c2, f2, l2, n2⟩ := block_cells ((B1.block w.heap.size (by omega)).trans HBLK.out); have d0 := c2 0 _ rfl; have d1 := c2 1 _ rfl; have d2 := c2 2 _ rfl; have d3 := c2 3 _ rfl; have d4 := c2 4 _ rfl; have d5 := c2 5 _ rfl; clear hb c2))
            refine bodyPost_ret (v := .tuple #[instrV ⟨21, a % 32, 0, 0, 0, (m : Nat)⟩, .bool true]) ?_ rfl (retO_some _ HM.out ?_)
            · simp [results, Try.results12, go_sem, d0, d1, d2, d3, d4, d5]
            · go_tidy
              have B2 : Below w.heap.size w w1 := hB.trans (B1.mono (by omega))
              repeat' (first | with_reducible exact Below.refl _ _ | with_reducible assumption | with_reducible apply below_drewN | with_reducible apply Below.drew | with_reducible refine Below.setCell ?_ ?_ _ | with_reducible refine Below.alloc ?_ ?_ _ | omega | (simp; done) | (simp; omega))
        · obtain rfl : m = 8 := by omega
          go_wp2_with fail
          go_roundw
          case rel => exact ⟨1, by omega, by omega, by go_num, fun j h => HNO.out j (by omega), HBLK.out, HSL.out, hB, hsz⟩
          case measure => first | (simp [intOf]; done) | (simp [intOf]; omega)
    · go_wp2_with fail
      go_loopw [52] (fun i U => ∃ m : Nat, m ≤ 8 ∧ i = .int .i64 (m : Nat) ∧ (∀ j : Nat, j < 8 + m → goodX a (cand a j) = false) ∧ U.heap[w.heap.size]? = some (.cells #[.int .i64 0, .int .i64 0, .int .i64 0, .int .i64 0, .int .i64 0, .int .i64 0] 24) ∧ U.heap[w.heap.size + 2]? = some (.cells #[.int .i64 21, .int .i64 23] 3) ∧ Below w.heap.size w U ∧ w.heap.size + 3 ≤ U.heap.size) (fun i _ => 8 - (intOf i).toNat)
      case atStart => exact ⟨0, by omega, rfl, fun j h => HNO.out j (by omega), HBLK.out, HSL.out, hB, hsz⟩
      case round =>
        clear HNO HBLK HSL hB hsz e0 e1 fs ls ns
        obtain ⟨m, hm, rfl, hno, hblk, hsl, hB, hsz⟩ := hrel
        have HBLK := Lib.hid hblk
        have HSL := Lib.hid hsl
        have HNO := Lib.hid hno
        clear hblk hsl hno
        by_cases hm8 : m < 8
        · have hm8i : ((m : Nat) : Int) < 8 := by omega
          have hm8d : decide (((m : Nat) : Int) < 8) = true := decide_eq_true hm8i
          have hec : cand a (8 + m) = ⟨23, a % 32, 0, 0, 0, (m : Nat)⟩ := by
            unfold cand
            rw [show (8 + m) % 8 = m by omega, if_neg (by omega)]
          rcases hg : goodX a (cand a (8 + m)) with _ | _
          · have HS : Hid (∀ j : Nat, j < 8 + (m + 1) → goodX a (cand a j) = false) := Lib.hid fun j h => by
              by_cases hj : j < 8 + m
              · exact HNO.out j hj
              · obtain rfl : j = 8 + m := by omega
                exact hg
            rw [hec] at hg
            clear hec
            rcases good_no hg with ⟨h1, h2⟩ | ⟨h1, h2⟩
            · have HE := Lib.hid h1
              have HW := Lib.hid h2
              clear hg h1 h2
              go_wp2_with (first | (go_at_call 28; refine (iget_any _ _ _ _ HU.out (by decide)).mono ?_; rintro e wg ⟨rfl, nn, hg⟩; simp only [get40]; have Bg : Below wr.heap.size wr wg := (by rw [hg]; exact below_drewN (Below.refl _ _) _); have Bgz := Bg.size; clear hg) | (go_at_call 8; refine (encode_any ⟨_, _, _, _, _, _⟩ _).mono ?_; rintro e w1 ⟨rfl, hb⟩; rw [HE.out, HW.out]; have B0 : Below wg.heap.size wg w1 := Below.trans (by repeat' (first | with_reducible exact Below.refl _ _ | with_reducible assumption | with_reducible apply below_drewN | with_reducible apply Below.drew | with_reducible refine Below.setCell ?_ ?_ _ | with_reducible refine Below.alloc ?_ ?_ _ | omega | (simp; done) | (simp; omega))) (hb.mono (by first | omega | (simp; done) | (simp; omega))); have B1 : Below wr.heap.size wr w1 := Bg.trans (B0.mono Bgz); have Bz1 := B1.size; obtain ⟨k1, k2, k3, k4⟩ := keepB hb wg.heap.size (by first | omega | (simp; done) | (simp; omega)); clear hb))
              go_roundw
              case rel => exact ⟨m + 1, by omega, by go_num, HS.out, (B1.block w.heap.size (by omega)).trans HBLK.out, (B1.block (w.heap.size + 2) (by omega)).trans HSL.out, hB.trans (B1.mono (by omega)), by omega⟩
              case measure => first | (simp [intOf]; done) | (simp [intOf]; omega)
            · have HE := Lib.hid h1
              obtain ⟨ew, hew⟩ : ∃ ew, encW ⟨23, a % 32, 0, 0, 0, (m : Nat)⟩ = ew := ⟨_, rfl⟩
              rw [hew] at h2
              have HW := Lib.hid hew
              have hne : (ew == a) = false := by simpa using h2
              clear hg h1 h2 hew
              go_wp2_with (first | (go_at_call 28; refine (iget_any _ _ _ _ HU.out (by decide)).mono ?_; rintro e wg ⟨rfl, nn, hg⟩; simp only [get40]; have Bg : Below wr.heap.size wr wg := (by rw [hg]; exact below_drewN (Below.refl _ _) _); have Bgz := Bg.size; clear hg) | (go_at_call 8; refine (encode_any ⟨_, _, _, _, _, _⟩ _).mono ?_; rintro e w1 ⟨rfl, hb⟩; rw [HE.out, HW.out]; have B0 : Below wg.heap.size wg w1 := Below.trans (by repeat' (first | with_reducible exact Below.refl _ _ | with_reducible assumption | with_reducible apply below_drewN | with_reducible apply Below.drew | with_reducible refine Below.setCell ?_ ?_ _ | with_reducible refine Below.alloc ?_ ?_ _ | omega | (simp; done) | (simp; omega))) (hb.mono (by first | omega | (simp; done) | (simp; omega))); have B1 : Below wr.heap.size wr w1 := Bg.trans (B0.mono Bgz); have Bz1 := B1.size; obtain ⟨k1, k2, k3, k4⟩ := keepB hb wg.heap.size (by first | omega | (simp; done) | (simp; omega)); clear hb))
              go_roundw
              case rel => exact ⟨m + 1, by omega, by go_num, HS.out, (B1.block w.heap.size (by omega)).trans HBLK.out, (B1.block (w.heap.size + 2) (by omega)).trans HSL.out, hB.trans (B1.mono (by omega)), by omega⟩
              case measure => first | (simp [intOf]; done) | (simp [intOf]; omega)
          · have HM := Lib.hid (show othX a = some ⟨23, a % 32, 0, 0, 0, (m : Nat)⟩ by rw [HT.out, tail_cand (j := 8 + m) (by omega) hg, hec])
            rw [hec] at hg
            clear hec
            obtain ⟨h1, h2⟩ := good_yes hg
            have HE := Lib.hid h1
            have HW := Lib.hid h2
            clear hg h1 h2
            go_wp2_with (first | (go_at_call 28; refine (iget_any _ _ _ _ HU.out (by decide)).mono ?_; rintro e wg ⟨rfl, nn, hg⟩; simp only [get40]; have Bg : Below wr.heap.size wr wg := (by rw [hg]; exact below_drewN (Below.refl _ _) _); have Bgz := Bg.size; clear hg) | (go_at_call 8; refine (encode_any ⟨_, _, _, _, _, _⟩ _).mono ?_; rintro e w1 ⟨rfl, hb⟩; rw [HE.out, HW.out]; have B0 : Below wg.heap.size wg w1 := Below.trans (by repeat' (first | with_reducible exact Below.refl _ _ | with_reducible assumption | with_reducible apply below_drewN | with_reducible apply Below.drew | with_reducible refine Below.setCell ?_ ?_ _ | with_reducible refine Below.alloc ?_ ?_ _ | omega | (simp; done) | (simp; omega))) (hb.mono (by first | omega | (simp; done) | (simp; omega))); have B1 : Below wr.heap.size wr w1 := Bg.trans (B0.mono Bgz); have Bz1 := B1.size; obtain ⟨k1, k2, k3, k4⟩ := keepB hb wg.heap.size (by first | omega | (simp; done) | (simp; omega)); obtain ⟨c2, f2, l2, n2⟩ := block_cells ((B1.block w.heap.size (by omega)).trans HBLK.out); have d0 := c2 0 _ rfl; have d1 := c2 1 _ rfl; have d2 := c2 2 _ rfl; have d3 := c2 3 _ rfl; have d4 := c2 4 _ rfl; have d5 := c2 5 _ rfl; clear hb c2))
            refine bodyPost_ret (v := .tuple #[instrV ⟨23, a % 32, 0, 0, 0, (m : Nat)⟩, .bool true]) ?_ rfl (retO_some _ HM.out ?_)
            · simp [results, Try.results12, go_sem, d0, d1, d2, d3, d4, d5]
            · go_tidy
              have B2 : Below w.heap.size w w1 := hB.trans (B1.mono (by omega))
              repeat' (first | with_reducible exact Below.refl _ _ | with_reducible assumption | with_reducible apply below_drewN | with_reducible apply Below.drew | with_reducible refine Below.setCell ?_ ?_ _ | with_reducible refine Below.alloc ?_ ?_ _ | omega | (simp; done) | (simp; omega))
        · obtain rfl : m = 8 := by omega
          go_wp2_with fail
          go_roundw
          case rel => exact ⟨2, by omega, by omega, by go_num, fun j h => HNO.out j (by omega), HBLK.out, HSL.out, hB, hsz⟩
          case measure => first | (simp [intOf]; done) | (simp [intOf]; omega)

set_option maxHeartbeats 8000000 in
theorem oth6 (a : Int) (w : World) (ha : U32 a) (HT : Hid (othX a = tailX a)) (c0 : ¬ a = 3573751839) (c1 : ¬ a = 3573759967) (HA : bits .and .u32 a 4294963455 = 3573756063) (HB : Hid (barrB (a / 256 % 16) = false)) : Calls Try.prog 12 #[.int .u32 a] w (RetO (othX a) w) := by
  have HU := Lib.hid ha
  clear ha
  go_enter Try.func12, Try.ntmps12
  go_wp2_with (first | (go_at_call 28; refine (iget_any _ _ _ _ HU.out (by decide)).mono ?_; rintro e w' ⟨rfl, nn, rfl⟩; simp only [get40, get118]) | (go_at_call 23; refine (base_any _ _).mono ?_; rintro e w' ⟨rfl, rfl⟩; simp only [baseX, reduceIte, Int.reduceEq]) | (go_at_call 30; refine (barrier_any _ _).mono ?_; rintro e w' ⟨rfl, rfl⟩; rw [HB.out]))
  clear c0 c1 HA HB
  go_loopw [48] (fun i V => ∃ k : Int, 0 ≤ k ∧ k ≤ 2 ∧ i = .int .i64 k ∧ (∀ j : Nat, (j : Int) < 8 * k → goodX a (cand a j) = false) ∧ V.heap[w.heap.size]? = some (.cells #[.int .i64 0, .int .i64 0, .int .i64 0, .int .i64 0, .int .i64 0, .int .i64 0] 24) ∧ V.heap[w.heap.size + 2]? = some (.cells #[.int .i64 21, .int .i64 23] 3) ∧ Below w.heap.size w V ∧ w.heap.size + 3 ≤ V.heap.size) (fun i _ => 2 - (intOf i).toNat)
  case atStart => exact ⟨0, by omega, by omega, rfl, fun j h => by omega, (by (repeat (first | assumption | (refine heap_new _ _ _ ?_; simp; done) | refine heap_old _ _ _ _ ?_))), (by (repeat (first | assumption | (refine heap_new _ _ _ ?_; simp; done) | refine heap_old _ _ _ _ ?_))), by repeat' (first | with_reducible exact Below.refl _ _ | with_reducible assumption | with_reducible apply below_drewN | with_reducible apply Below.drew | with_reducible refine Below.setCell ?_ ?_ _ | with_reducible refine Below.alloc ?_ ?_ _ | omega | (simp; done) | (simp; omega)), (by first | omega | (simp; done) | (simp; omega))⟩
  case round =>
    obtain ⟨k, hk0, hk2, rfl, hno, hblk, hsl, hB, hsz⟩ := hrel
    have hc : k = 2 ∨ k = 0 ∨ k = 1 := by omega
    obtain ⟨cs, fs, ls, ns⟩ := block_cells hsl
    have e0 := cs 0 _ rfl
    have e1 := cs 1 _ rfl
    have HBLK := Lib.hid hblk
    have HSL := Lib.hid hsl
    have HNO := Lib.hid hno
    clear cs hblk hsl hno hk0 hk2
    rcases hc with rfl | rfl | rfl
    · have HM := Lib.hid (show othX a = none by rw [HT.out]; exact tail_none fun j hj => HNO.out j (by omega))
      obtain ⟨c2, f2, l2, n2⟩ := block_cells HBLK.out
      have d0 := c2 0 _ rfl
      have d1 := c2 1 _ rfl
      have d2 := c2 2 _ rfl
      have d3 := c2 3 _ rfl
      have d4 := c2 4 _ rfl
      have d5 := c2 5 _ rfl
      clear c2
      go_wp2_with fail
      refine bodyPost_ret (v := .tuple #[instrV ⟨0, 0, 0, 0, 0, 0⟩, .bool false]) ?_ rfl (retO_none ⟨0, 0, 0, 0, 0, 0⟩ HM.out ?_)
      · simp [results, Try.results12, go_sem, d0, d1, d2, d3, d4, d5]
      · go_tidy
        repeat' (first | with_reducible exact Below.refl _ _ | with_reducible assumption | with_reducible apply below_drewN | with_reducible apply Below.drew | with_reducible refine Below.setCell ?_ ?_ _ | with_reducible refine Below.alloc ?_ ?_ _ | omega | (simp; done) | (simp; omega))
    · go_wp2_with fail
      go_loopw [52] (fun i U => ∃ m : Nat, m ≤ 8 ∧ i = .int .i64 (m : Nat) ∧ (∀ j : Nat, j < 0 + m → goodX a (cand a j) = false) ∧ U.heap[w.heap.size]? = some (.cells #[.int .i64 0, .int .i64 0, .int .i64 0, .int .i64 0, .int .i64 0, .int .i64 0] 24) ∧ U.heap[w.heap.size + 2]? = some (.cells #[.int .i64 21, .int .i64 23] 3) ∧ Below w.heap.size w U ∧ w.heap.size + 3 ≤ U.heap.size) (fun i _ => 8 - (intOf i).toNat)
      case atStart => exact ⟨0, by omega, rfl, fun j h => HNO.out j (by omega), HBLK.out, HSL.out, hB, hsz⟩
      case round =>
        clear HNO HBLK HSL hB hsz e0 e1 fs ls ns
        obtain ⟨m, hm, rfl, hno, hblk, hsl, hB, hsz⟩ := hrel
        have HBLK := Lib.hid hblk
        have HSL := Lib.hid hsl
        have HNO := Lib.hid hno
        clear hblk hsl hno
        by_cases hm8 : m < 8
        · have hm8i : ((m : Nat) : Int) < 8 := by omega
          have hm8d : decide (((m : Nat) : Int) < 8) = true := decide_eq_true hm8i
          have hec : cand a (0 + m) = ⟨21, a % 32, 0, 0, 0, (m : Nat)⟩ := by
            unfold cand
            rw [show (0 + m) % 8 = m by omega, if_pos (by omega)]
          rcases hg : goodX a (cand a (0 + m)) with _ | _
          · have HS : Hid (∀ j : Nat, j < 0 + (m + 1) → goodX a (cand a j) = false) := Lib.hid fun j h => by
              by_cases hj : j < 0 + m
              · exact HNO.out j hj
              · obtain rfl : j = 0 + m := by omega
                exact hg
            rw [hec] at hg
            clear hec
            rcases good_no hg with ⟨h1, h2⟩ | ⟨h1, h2⟩
            · have HE := Lib.hid h1
              have HW := Lib.hid h2
              clear hg h1 h2
              go_wp2_with (first | (go_at_call 28; refine (iget_any _ _ _ _ HU.out (by decide)).mono ?_; rintro e wg ⟨rfl, nn, hg⟩; simp only [get40]; have Bg : Below wr.heap.size wr wg := (by rw [hg]; exact below_drewN (Below.refl _ _) _); have Bgz := Bg.size; clear hg) | (go_at_call 8; refine (encode_any ⟨_, _, _, _, _, _⟩ _).mono ?_; rintro e w1 ⟨rfl, hb⟩; rw [HE.out, HW.out]; have B0 : Below wg.heap.size wg w1 := Below.trans (by repeat' (first | with_reducible exact Below.refl _ _ | with_reducible assumption | with_reducible apply below_drewN | with_reducible apply Below.drew | with_reducible refine Below.setCell ?_ ?_ _ | with_reducible refine Below.alloc ?_ ?_ _ | omega | (simp; done) | (simp; omega))) (hb.mono (by first | omega | (simp; done) | (simp; omega))); have B1 : Below wr.heap.size wr w1 := Bg.trans (B0.mono Bgz); have Bz1 := B1.size; obtain ⟨k1, k2, k3, k4⟩ := keepB hb wg.heap.size (by first | omega | (simp; done) | (simp; omega)); clear hb))
              go_roundw
              case rel => exact ⟨m + 1, by omega, by go_num, HS.out, (B1.block w.heap.size (by omega)).trans HBLK.out, (B1.block (w.heap.size + 2) (by omega)).trans HSL.out, hB.trans (B1.mono (by omega)), by omega⟩
              case measure => first | (simp [intOf]; done) | (simp [intOf]; omega)
            · have HE := Lib.hid h1
              obtain ⟨ew, hew⟩ : ∃ ew, encW ⟨21, a % 32, 0, 0, 0, (m : Nat)⟩ = ew := ⟨_, rfl⟩
              rw [hew] at h2
              have HW := Lib.hid hew
              have hne : (ew == a) = false := by simpa using h2
              clear hg h1 h2 hew
              go_wp2_with (first | (go_at_call 28; refine (iget_any _ _ _ _ HU.out (by decide)).mono ?_; rintro e wg ⟨rfl, nn, hg⟩; simp only [get40]; have Bg : Below wr.heap.size wr wg := (by rw [hg]; exact below_drewN (Below.refl _ _) _); have Bgz := Bg.size; clear hg) | (go_at_call 8; refine (encode_any ⟨_, _, _, _, _, _⟩ _).mono ?_; rintro e w1 ⟨rfl, hb⟩; rw [HE.out, HW.out]; have B0 : Below wg.heap.size wg w1 := Below.trans (by repeat' (first | with_reducible exact Below.refl _ _ | with_reducible assumption | with_reducible apply below_drewN | with_reducible apply Below.drew | with_reducible refine Below.setCell ?_ ?_ _ | with_reducible refine Below.alloc ?_ ?_ _ | omega | (simp; done) | (simp; omega))) (hb.mono (by first | omega | (simp; done) | (simp; omega))); have B1 : Below wr.heap.size wr w1 := Bg.trans (B0.mono Bgz); have Bz1 := B1.size; obtain ⟨k1, k2, k3, k4⟩ := keepB hb wg.heap.size (by first | omega | (simp; done) | (simp; omega)); clear hb))
              go_roundw
              case rel => exact ⟨m + 1, by omega, by go_num, HS.out, (B1.block w.heap.size (by omega)).trans HBLK.out, (B1.block (w.heap.size + 2) (by omega)).trans HSL.out, hB.trans (B1.mono (by omega)), by omega⟩
              case measure => first | (simp [intOf]; done) | (simp [intOf]; omega)
          · have HM := Lib.hid (show othX a = some ⟨21, a % 32, 0, 0, 0, (m : Nat)⟩ by rw [HT.out, tail_cand (j := 0 + m) (by omega) hg, hec])
            rw [hec] at hg
            clear hec
            obtain ⟨h1, h2⟩ := good_yes hg
            have HE := Lib.hid h1
            have HW := Lib.hid h2
            clear hg h1 h2
            go_wp2_with (first | (go_at_call 28; refine (iget_any _ _ _ _ HU.out (by decide)).mono ?_; rintro e wg ⟨rfl, nn, hg⟩; simp only [get40]; have Bg : Below wr.heap.size wr wg := (by rw [hg]; exact below_drewN (Below.refl _ _) _); have Bgz := Bg.size; clear hg) | (go_at_call 8; refine (encode_any ⟨_, _, _, _, _, _⟩ _).mono ?_; rintro e w1 ⟨rfl, hb⟩; rw [HE.out, HW.out]; have B0 : Below wg.heap.size wg w1 := Below.trans (by repeat' (first | with_reducible exact Below.refl _ _ | with_reducible assumption | with_reducible apply below_drewN | with_reducible apply Below.drew | with_reducible refine Below.setCell ?_ ?_ _ | with_reducible refine Below.alloc ?_ ?_ _ | omega | (simp; done) | (simp; omega))) (hb.mono (by first | omega | (simp; done) | (simp; omega))); have B1 : Below wr.heap.size wr w1 := Bg.trans (B0.mono Bgz); have Bz1 := B1.size; obtain ⟨k1, k2, k3, k4⟩ := keepB hb wg.heap.size (by first | omega | (simp; done) | (simp; omega)); obtain ⟨c2, f2, l2, n2⟩ := block_cells ((B1.block w.heap.size (by omega)).trans HBLK.out); have d0 := c2 0 _ rfl; have d1 := c2 1 _ rfl; have d2 := c2 2 _ rfl; have d3 := c2 3 _ rfl; have d4 := c2 4 _ rfl; have d5 := c2 5 _ rfl; clear hb c2))
            refine bodyPost_ret (v := .tuple #[instrV ⟨21, a % 32, 0, 0, 0, (m : Nat)⟩, .bool true]) ?_ rfl (retO_some _ HM.out ?_)
            · simp [results, Try.results12, go_sem, d0, d1, d2, d3, d4, d5]
            · go_tidy
              have B2 : Below w.heap.size w w1 := hB.trans (B1.mono (by omega))
              repeat' (first | with_reducible exact Below.refl _ _ | with_reducible assumption | with_reducible apply below_drewN | with_reducible apply Below.drew | with_reducible refine Below.setCell ?_ ?_ _ | with_reducible refine Below.alloc ?_ ?_ _ | omega | (simp; done) | (simp; omega))
        · obtain rfl : m = 8 := by omega
          go_wp2_with fail
          go_roundw
          case rel => exact ⟨1, by omega, by omega, by go_num, fun j h => HNO.out j (by omega), HBLK.out, HSL.out, hB, hsz⟩
          case measure => first | (simp [intOf]; done) | (simp [intOf]; omega)
    · go_wp2_with fail
      go_loopw [52] (fun i U => ∃ m : Nat, m ≤ 8 ∧ i = .int .i64 (m : Nat) ∧ (∀ j : Nat, j < 8 + m → goodX a (cand a j) = false) ∧ U.heap[w.heap.size]? = some (.cells #[.int .i64 0, .int .i64 0, .int .i64 0, .int .i64 0, .int .i64 0, .int .i64 0] 24) ∧ U.heap[w.heap.size + 2]? = some (.cells #[.int .i64 21, .int .i64 23] 3) ∧ Below w.heap.size w U ∧ w.heap.size + 3 ≤ U.heap.size) (fun i _ => 8 - (intOf i).toNat)
      case atStart => exact ⟨0, by omega, rfl, fun j h => HNO.out j (by omega), HBLK.out, HSL.out, hB, hsz⟩
      case round =>
        clear HNO HBLK HSL hB hsz e0 e1 fs ls ns
        obtain ⟨m, hm, rfl, hno, hblk, hsl, hB, hsz⟩ := hrel
        have HBLK := Lib.hid hblk
        have HSL := Lib.hid hsl
        have HNO := Lib.hid hno
        clear hblk hsl hno
        by_cases hm8 : m < 8
        · have hm8i : ((m : Nat) : Int) < 8 := by omega
          have hm8d : decide (((m : Nat) : Int) < 8) = true := decide_eq_true hm8i
          have hec : cand a (8 + m) = ⟨23, a % 32, 0, 0, 0, (m : Nat)⟩ := by
            unfold cand
            rw [show (8 + m) % 8 = m by omega, if_neg (by omega)]
          rcases hg : goodX a (cand a (8 + m)) with _ | _
          · have HS : Hid (∀ j : Nat, j < 8 + (m + 1) → goodX a (cand a j) = false) := Lib.hid fun j h => by
              by_cases hj : j < 8 + m
              · exact HNO.out j hj
              · obtain rfl : j = 8 + m := by omega
                exact hg
            rw [hec] at hg
            clear hec
            rcases good_no hg with ⟨h1, h2⟩ | ⟨h1, h2⟩
            · have HE := Lib.hid h1
              have HW := Lib.hid h2
              clear hg h1 h2
              go_wp2_with (first | (go_at_call 28; refine (iget_any _ _ _ _ HU.out (by decide)).mono ?_; rintro e wg ⟨rfl, nn, hg⟩; simp only [get40]; have Bg : Below wr.heap.size wr wg := (by rw [hg]; exact below_drewN (Below.refl _ _) _); have Bgz := Bg.size; clear hg) | (go_at_call 8; refine (encode_any ⟨_, _, _, _, _, _⟩ _).mono ?_; rintro e w1 ⟨rfl, hb⟩; rw [HE.out, HW.out]; have B0 : Below wg.heap.size wg w1 := Below.trans (by repeat' (first | with_reducible exact Below.refl _ _ | with_reducible assumption | with_reducible apply below_drewN | with_reducible apply Below.drew | with_reducible refine Below.setCell ?_ ?_ _ | with_reducible refine Below.alloc ?_ ?_ _ | omega | (simp; done) | (simp; omega))) (hb.mono (by first | omega | (simp; done) | (simp; omega))); have B1 : Below wr.heap.size wr w1 := Bg.trans (B0.mono Bgz); have Bz1 := B1.size; obtain ⟨k1, k2, k3, k4⟩ := keepB hb wg.heap.size (by first | omega | (simp; done) | (simp; omega)); clear hb))
              go_roundw
              case rel => exact ⟨m + 1, by omega, by go_num, HS.out, (B1.block w.heap.size (by omega)).trans HBLK.out, (B1.block (w.heap.size + 2) (by omega)).trans HSL.out, hB.trans (B1.mono (by omega)), by omega⟩
              case measure => first | (simp [intOf]; done) | (simp [intOf]; omega)
            · have HE := Lib.hid h1
              obtain ⟨ew, hew⟩ : ∃ ew, encW ⟨23, a % 32, 0, 0, 0, (m : Nat)⟩ = ew := ⟨_, rfl⟩
              rw [hew] at h2
              have HW := Lib.hid hew
              have hne : (ew == a) = false := by simpa using h2
              clear hg h1 h2 hew
              go_wp2_with (first | (go_at_call 28; refine (iget_any _ _ _ _ HU.out (by decide)).mono ?_; rintro e wg ⟨rfl, nn, hg⟩; simp only [get40]; have Bg : Below wr.heap.size wr wg := (by rw [hg]; exact below_drewN (Below.refl _ _) _); have Bgz := Bg.size; clear hg) | (go_at_call 8; refine (encode_any ⟨_, _, _, _, _, _⟩ _).mono ?_; rintro e w1 ⟨rfl, hb⟩; rw [HE.out, HW.out]; have B0 : Below wg.heap.size wg w1 := Below.trans (by repeat' (first | with_reducible exact Below.refl _ _ | with_reducible assumption | with_reducible apply below_drewN | with_reducible apply Below.drew | with_reducible refine Below.setCell ?_ ?_ _ | with_reducible refine Below.alloc ?_ ?_ _ | omega | (simp; done) | (simp; omega))) (hb.mono (by first | omega | (simp; done) | (simp; omega))); have B1 : Below wr.heap.size wr w1 := Bg.trans (B0.mono Bgz); have Bz1 := B1.size; obtain ⟨k1, k2, k3, k4⟩ := keepB hb wg.heap.size (by first | omega | (simp; done) | (simp; omega)); clear hb))
              go_roundw
              case rel => exact ⟨m + 1, by omega, by go_num, HS.out, (B1.block w.heap.size (by omega)).trans HBLK.out, (B1.block (w.heap.size + 2) (by omega)).trans HSL.out, hB.trans (B1.mono (by omega)), by omega⟩
              case measure => first | (simp [intOf]; done) | (simp [intOf]; omega)
          · have HM := Lib.hid (show othX a = some ⟨23, a % 32, 0, 0, 0, (m : Nat)⟩ by rw [HT.out, tail_cand (j := 8 + m) (by omega) hg, hec])
            rw [hec] at hg
            clear hec
            obtain ⟨h1, h2⟩ := good_yes hg
            have HE := Lib.hid h1
            have HW := Lib.hid h2
            clear hg h1 h2
            go_wp2_with (first | (go_at_call 28; refine (iget_any _ _ _ _ HU.out (by decide)).mono ?_; rintro e wg ⟨rfl, nn, hg⟩; simp only [get40]; have Bg : Below wr.heap.size wr wg := (by rw [hg]; exact below_drewN (Below.refl _ _) _); have Bgz := Bg.size; clear hg) | (go_at_call 8; refine (encode_any ⟨_, _, _, _, _, _⟩ _).mono ?_; rintro e w1 ⟨rfl, hb⟩; rw [HE.out, HW.out]; have B0 : Below wg.heap.size wg w1 := Below.trans (by repeat' (first | with_reducible exact Below.refl _ _ | with_reducible assumption | with_reducible apply below_drewN | with_reducible apply Below.drew | with_reducible refine Below.setCell ?_ ?_ _ | with_reducible refine Below.alloc ?_ ?_ _ | omega | (simp; done) | (simp; omega))) (hb.mono (by first | omega | (simp; done) | (simp; omega))); have B1 : Below wr.heap.size wr w1 := Bg.trans (B0.mono Bgz); have Bz1 := B1.size; obtain ⟨k1, k2, k3, k4⟩ := keepB hb wg.heap.size (by first | omega | (simp; done) | (simp; omega)); obtain ⟨c2, f2, l2, n2⟩ := block_cells ((B1.block w.heap.size (by omega)).trans HBLK.out); have d0 := c2 0 _ rfl; have d1 := c2 1 _ rfl; have d2 := c2 2 _ rfl; have d3 := c2 3 _ rfl; have d4 := c2 4 _ rfl; have d5 := c2 5 _ rfl; clear hb c2))
            refine bodyPost_ret (v := .tuple #[instrV ⟨23, a % 32, 0, 0, 0, (m : Nat)⟩, .bool true]) ?_ rfl (retO_some _ HM.out ?_)
            · simp [results, Try.results12, go_sem, d0, d1, d2, d3, d4, d5]
            · go_tidy
              have B2 : Below w.heap.size w w1 := hB.trans (B1.mono (by omega))
              repeat' (first | with_reducible exact Below.refl _ _ | with_reducible assumption | with_reducible apply below_drewN | with_reducible apply Below.drew | with_reducible refine Below.setCell ?_ ?_ _ | with_reducible refine Below.alloc ?_ ?_ _ | omega | (simp; done) | (simp; omega))
        · obtain rfl : m = 8 := by omega
          go_wp2_with fail
          go_roundw
          case rel => exact ⟨2, by omega, by omega, by go_num, fun j h => HNO.out j (by omega), HBLK.out, HSL.out, hB, hsz⟩
          case measure => first | (simp [intOf]; done) | (simp [intOf]; omega)

set_option maxHeartbeats 8000000 in
theorem oth7 (a : Int) (w : World) (ha : U32 a) (HT : Hid (othX a = tailX a)) (c0 : ¬ a = 3573751839) (c1 : ¬ a = 3573759967) (z : Int) (HA : bits .and .u32 a 4294963455 = z) (z1 : ¬ z = 3573756095) (z2 : ¬ z = 3573756063) : Calls Try.prog 12 #[.int .u32 a] w (RetO (othX a) w) := by
  have HU := Lib.hid ha
  clear ha
  go_enter Try.func12, Try.ntmps12
  go_wp2_with (first | (go_at_call 28; refine (iget_any _ _ _ _ HU.out (by decide)).mono ?_; rintro e w' ⟨rfl, nn, rfl⟩; simp only [get40, get118]) | (go_at_call 23; refine (base_any _ _).mono ?_; rintro e w' ⟨rfl, rfl⟩; simp only [baseX, reduceIte, Int.reduceEq]))
  clear c0 c1 HA z1 z2
  go_loopw [48] (fun i V => ∃ k : Int, 0 ≤ k ∧ k ≤ 2 ∧ i = .int .i64 k ∧ (∀ j : Nat, (j : Int) < 8 * k → goodX a (cand a j) = false) ∧ V.heap[w.heap.size]? = some (.cells #[.int .i64 0, .int .i64 0, .int .i64 0, .int .i64 0, .int .i64 0, .int .i64 0] 24) ∧ V.heap[w.heap.size + 2]? = some (.cells #[.int .i64 21, .int .i64 23] 3) ∧ Below w.heap.size w V ∧ w.heap.size + 3 ≤ V.heap.size) (fun i _ => 2 - (intOf i).toNat)
  case atStart => exact ⟨0, by omega, by omega, rfl, fun j h => by omega, (by (repeat (first | assumption | (refine heap_new _ _ _ ?_; simp; done) | refine heap_old _ _ _ _ ?_))), (by (repeat (first | assumption | (refine heap_new _ _ _ ?_; simp; done) | refine heap_old _ _ _ _ ?_))), by repeat' (first | with_reducible exact Below.refl _ _ | with_reducible assumption | with_reducible apply below_drewN | with_reducible apply Below.drew | with_reducible refine Below.setCell ?_ ?_ _ | with_reducible refine Below.alloc ?_ ?_ _ | omega | (simp; done) | (simp; omega)), (by first | omega | (simp; done) | (simp; omega))⟩
  case round =>
    obtain ⟨k, hk0, hk2, rfl, hno, hblk, hsl, hB, hsz⟩ := hrel
    have hc : k = 2 ∨ k = 0 ∨ k = 1 := by omega
    obtain ⟨cs, fs, ls, ns⟩ := block_cells hsl
    have e0 := cs 0 _ rfl
    have e1 := cs 1 _ rfl
    have HBLK := Lib.hid hblk
    have HSL := Lib.hid hsl
    have HNO := Lib.hid hno
    clear cs hblk hsl hno hk0 hk2
    rcases hc with rfl | rfl | rfl
    · have HM := Lib.hid (show othX a = none by rw [HT.out]; exact tail_none fun j hj => HNO.out j (by omega))
      obtain ⟨c2, f2, l2, n2⟩ := block_cells HBLK.out
      have d0 := c2 0 _ rfl
      have d1 := c2 1 _ rfl
      have d2 := c2 2 _ rfl
      have d3 := c2 3 _ rfl
      have d4 := c2 4 _ rfl
      have d5 := c2 5 _ rfl
      clear c2
      go_wp2_with fail
      refine bodyPost_ret (v := .tuple #[instrV ⟨0, 0, 0, 0, 0, 0⟩, .bool false]) ?_ rfl (retO_none ⟨0, 0, 0, 0, 0, 0⟩ HM.out ?_)
      · simp [results, Try.results12, go_sem, d0, d1, d2, d3, d4, d5]
      · go_tidy
        repeat' (first | with_reducible exact Below.refl _ _ | with_reducible assumption | with_reducible apply below_drewN | with_reducible apply Below.drew | with_reducible refine Below.setCell ?_ ?_ _ | with_reducible refine Below.alloc ?_ ?_ _ | omega | (simp; done) | (simp; omega))
    · go_wp2_with fail
      go_loopw [52] (fun i U => ∃ m : Nat, m ≤ 8 ∧ i = .int .i64 (m : Nat) ∧ (∀ j : Nat, j < 0 + m → goodX a (cand a j) = false) ∧ U.heap[w.heap.size]? = some (.cells #[.int .i64 0, .int .i64 0, .int .i64 0, .int .i64 0, .int .i64 0, .int .i64 0] 24) ∧ U.heap[w.heap.size + 2]? = some (.cells #[.int .i64 21, .int .i64 23] 3) ∧ Below w.heap.size w U ∧ w.heap.size + 3 ≤ U.heap.size) (fun i _ => 8 - (intOf i).toNat)
      case atStart => exact ⟨0, by omega, rfl, fun j h => HNO.out j (by omega), HBLK.out, HSL.out, hB, hsz⟩
      case round =>
        clear HNO HBLK HSL hB hsz e0 e1 fs ls ns
        obtain ⟨m, hm, rfl, hno, hblk, hsl, hB, hsz⟩ := hrel
        have HBLK := Lib.hid hblk
        have HSL := Lib.hid hsl
        have HNO := Lib.hid hno
        clear hblk hsl hno
        by_cases hm8 : m < 8
        · have hm8i : ((m : Nat) : Int) < 8 := by omega
          have hm8d : decide (((m : Nat) : Int) < 8) = true := decide_eq_true hm8i
          have hec : cand a (0 + m) = ⟨21, a % 32, 0, 0, 0, (m : Nat)⟩ := by
            unfold cand
            rw [show (0 + m) % 8 = m by omega, if_pos (by omega)]
          rcases hg : goodX a (cand a (0 + m)) with _ | _
          · have HS : Hid (∀ j : Nat, j < 0 + (m + 1) → goodX a (cand a j) = false) := Lib.hid fun j h => by
              by_cases hj : j < 0 + m
              · exact HNO.out j hj
              · obtain rfl : j = 0 + m := by omega
                exact hg
            rw [hec] at hg
            clear hec
            rcases good_no hg with ⟨h1, h2⟩ | ⟨h1, h2⟩
            · have HE := Lib.hid h1
              have HW := Lib.hid h2
              clear hg h1 h2
              go_wp2_with (first | (go_at_call 28; refine (iget_any _ _ _ _ HU.out (by decide)).mono ?_; rintro e wg ⟨rfl, nn, hg⟩; simp only [get40]; have Bg : Below wr.heap.size wr wg := (by rw [hg]; exact below_drewN (Below.refl _ _) _); have Bgz := Bg.size; clear hg) | (go_at_call 8; refine (encode_any ⟨_, _, _, _, _, _⟩ _).mono ?_; rintro e w1 ⟨rfl, hb⟩; rw [HE.out, HW.out]; have B0 : Below wg.heap.size wg w1 := Below.trans (by repeat' (first | with_reducible exact Below.refl _ _ | with_reducible assumption | with_reducible apply below_drewN | with_reducible apply Below.drew | with_reducible refine Below.setCell ?_ ?_ _ | with_reducible refine Below.alloc ?_ ?_ _ | omega | (simp; done) | (simp; omega))) (hb.mono (by first | omega | (simp; done) | (simp; omega))); have B1 : Below wr.heap.size wr w1 := Bg.trans (B0.mono Bgz); have Bz1 := B1.size; obtain ⟨k1, k2, k3, k4⟩ := keepB hb wg.heap.size (by first | omega | (simp; done) | (simp; omega)); clear hb))
              go_roundw
              case rel => exact ⟨m + 1, by omega, by go_num, HS.out, (B1.block w.heap.size (by omega)).trans HBLK.out, (B1.block (w.heap.size + 2) (by omega)).trans HSL.out, hB.trans (B1.mono (by omega)), by omega⟩
              case measure => first | (simp [intOf]; done) | (simp [intOf]; omega)
            · have HE := Lib.hid h1
              obtain ⟨ew, hew⟩ : ∃ ew, encW ⟨21, a % 32, 0, 0, 0, (m : Nat)⟩ = ew := ⟨_, rfl⟩
              rw [hew] at h2
              have HW := Lib.hid hew
              have hne : (ew == a) = false := by simpa using h2
              clear hg h1 h2 hew
              go_wp2_with (first | (go_at_call 28; refine (iget_any _ _ _ _ HU.out (by decide)).mono ?_; rintro e wg ⟨rfl, nn, hg⟩; simp only [get40]; have Bg : Below wr.heap.size wr wg := (by rw [hg]; exact below_drewN (Below.refl _ _) _); have Bgz := Bg.size; clear hg) | (go_at_call 8; refine (encode_any ⟨_, _, _, _, _, _⟩ _).mono ?_; rintro e w1 ⟨rfl, hb⟩; rw [HE.out, HW.out]; have B0 : Below wg.heap.size wg w1 := Below.trans (by repeat' (first | with_reducible exact Below.refl _ _ | with_reducible assumption | with_reducible apply below_drewN | with_reducible apply Below.drew | with_reducible refine Below.setCell ?_ ?_ _ | with_reducible refine Below.alloc ?_ ?_ _ | omega | (simp; done) | (simp; omega))) (hb.mono (by first | omega | (simp; done) | (simp; omega))); have B1 : Below wr.heap.size wr w1 := Bg.trans (B0.mono Bgz); have Bz1 := B1.size; obtain ⟨k1, k2, k3, k4⟩ := keepB hb wg.heap.size (by first | omega | (simp; done) | (simp; omega)); clear hb))
              go_roundw
              case rel => exact ⟨m + 1, by omega, by go_num, HS.out, (B1.block w.heap.size (by omega)).trans HBLK.out, (B1.block (w.heap.size + 2) (by omega)).trans HSL.out, hB.trans (B1.mono (by omega)), by omega⟩
              case measure => first | (simp [intOf]; done) | (simp [intOf]; omega)
          · have HM := Lib.hid (show othX a = some ⟨21, a % 32, 0, 0, 0, (m : Nat)⟩ by rw [HT.out, tail_cand (j := 0 + m) (by omega) hg, hec])
            rw [hec] at hg
            clear hec
            obtain ⟨h1, h2⟩ := good_yes hg
            have HE := Lib.hid h1
            have HW := Lib.hid h2
            clear hg h1 h2
            go_wp2_with (first | (go_at_call 28; refine (iget_any _ _ _ _ HU.out (by decide)).mono ?_; rintro e wg ⟨rfl, nn, hg⟩; simp only [get40]; have Bg : Below wr.heap.size wr wg := (by rw [hg]; exact below_drewN (Below.refl _ _) _); have Bgz := Bg.size; clear hg) | (go_at_call 8; refine (encode_any ⟨_, _, _, _, _, _⟩ _).mono ?_; rintro e w1 ⟨rfl, hb⟩; rw [HE.out, HW.out]; have B0 : Below wg.heap.size wg w1 := Below.trans (by repeat' (first | with_reducible exact Below.refl _ _ | with_reducible assumption | with_reducible apply below_drewN | with_reducible apply Below.drew | with_reducible refine Below.setCell ?_ ?_ _ | with_reducible refine Below.alloc ?_ ?_ _ | omega | (simp; done) | (simp; omega))) (hb.mono (by first | omega | (simp; done) | (simp; omega))); have B1 : Below wr.heap.size wr w1 := Bg.trans (B0.mono Bgz); have Bz1 := B1.size; obtain ⟨k1, k2, k3, k4⟩ := keepB hb wg.heap.size (by first | omega | (simp; done) | (simp; omega)); obtain ⟨c2, f2, l2, n2⟩ := block_cells ((B1.block w.heap.size (by omega)).trans HBLK.out); have d0 := c2 0 _ rfl; have d1 := c2 1 _ rfl; have d2 := c2 2 _ rfl; have d3 := c2 3 _ rfl; have d4 := c2 4 _ rfl; have d5 := c2 5 _ rfl; clear hb c2))
            refine bodyPost_ret (v := .tuple #[instrV ⟨21, a % 32, 0, 0, 0, (m : Nat)⟩, .bool true]) ?_ rfl (retO_some _ HM.out ?_)
            · simp [results, Try.results12, go_sem, d0, d1, d2, d3, d4, d5]
            · go_tidy
              have B2 : Below w.heap.size w w1 := hB.trans (B1.mono (by omega))
              repeat' (first | with_reducible exact Below.refl _ _ | with_reducible assumption | with_reducible apply below_drewN | with_reducible apply Below.drew | with_reducible refine Below.setCell ?_ ?_ _ | with_reducible refine Below.alloc ?_ ?_ _ | omega | (simp; done) | (simp; omega))
        · obtain rfl : m = 8 := by omega
          go_wp2_with fail
          go_roundw
          case rel => exact ⟨1, by omega, by omega, by go_num, fun j h => HNO.out j (by omega), HBLK.out, HSL.out, hB, hsz⟩
          case measure => first | (simp [intOf]; done) | (simp [intOf]; omega)
    · go_wp2_with fail
      go_loopw [52] (fun i U => ∃ m : Nat, m ≤ 8 ∧ i = .int .i64 (m : Nat) ∧ (∀ j : Nat, j < 8 + m → goodX a (cand a j) = false) ∧ U.heap[w.heap.size]? = some (.cells #[.int .i64 0, .int .i64 0, .int .i64 0, .int .i64 0, .int .i64 0, .int .i64 0] 24) ∧ U.heap[w.heap.size + 2]? = some (.cells #[.int .i64 21, .int .i64 23] 3) ∧ Below w.heap.size w U ∧ w.heap.size + 3 ≤ U.heap.size) (fun i _ => 8 - (intOf i).toNat)
      case atStart => exact ⟨0, by omega, rfl, fun j h => HNO.out j (by omega), HBLK.out, HSL.out, hB, hsz⟩
      case round =>
        clear HNO HBLK HSL hB hsz e0 e1 fs ls ns
        obtain ⟨m, hm, rfl, hno, hblk, hsl, hB, hsz⟩ := hrel
        have HBLK := Lib.hid hblk
        have HSL := Lib.hid hsl
        have HNO := Lib.hid hno
        clear hblk hsl hno
        by_cases hm8 : m < 8
        · have hm8i : ((m : Nat) : Int) < 8 := by omega
          have hm8d : decide (((m : Nat) : Int) < 8) = true := decide_eq_true hm8i
          have hec : cand a (8 + m) = ⟨23, a % 32, 0, 0, 0, (m : Nat)⟩ := by
            unfold cand
            rw [show (8 + m) % 8 = m by omega, if_neg (by omega)]
          rcases hg : goodX a (cand a (8 + m)) with _ | _
          · have HS : Hid (∀ j : Nat, j < 8 + (m + 1) → goodX a (cand a j) = false) := Lib.hid fun j h => by
              by_cases hj : j < 8 + m
              · exact HNO.out j hj
              · obtain rfl : j = 8 + m := by omega
                exact hg
            rw [hec] at hg
            clear hec
            rcases good_no hg with ⟨h1, h2⟩ | ⟨h1, h2⟩
            · have HE := Lib.hid h1
              have HW := Lib.hid h2
              clear hg h1 h2
              go_wp2_with (first | (go_at_call 28; refine (iget_any _ _ _ _ HU.out (by decide)).mono ?_; rintro e wg ⟨rfl, nn, hg⟩; simp only [get40]; have Bg : Below wr.heap.size wr wg := (by rw [hg]; exact below_drewN (Below.refl _ _) _); have Bgz := Bg.size; clear hg) | (go_at_call 8; refine (encode_any ⟨_, _, _, _, _, _⟩ _).mono ?_; rintro e w1 ⟨rfl, hb⟩; rw [HE.out, HW.out]; have B0 : Below wg.heap.size wg w1 := Below.trans (by repeat' (first | with_reducible exact Below.refl _ _ | with_reducible assumption | with_reducible apply below_drewN | with_reducible apply Below.drew | with_reducible refine Below.setCell ?_ ?_ _ | with_reducible refine Below.alloc ?_ ?_ _ | omega | (simp; done) | (simp; omega))) (hb.mono (by first | omega | (simp; done) | (simp; omega))); have B1 : Below wr.heap.size wr w1 := Bg.trans (B0.mono Bgz); have Bz1 := B1.size; obtain ⟨k1, k2, k3, k4⟩ := keepB hb wg.heap.size (by first | omega | (simp; done) | (simp; omega)); clear hb))
              go_roundw
              case rel => exact ⟨m + 1, by omega, by go_num, HS.out, (B1.block w.heap.size (by omega)).trans HBLK.out, (B1.block (w.heap.size + 2) (by omega)).trans HSL.out, hB.trans (B1.mono (by omega)), by omega⟩
              case measure => first | (simp [intOf]; done) | (simp [intOf]; omega)
            · have HE := Lib.hid h1
              obtain ⟨ew, hew⟩ : ∃ ew, encW ⟨23, a % 32, 0, 0, 0, (m : Nat)⟩ = ew := ⟨_, rfl⟩
              rw [hew] at h2
              have HW := Lib.hid hew
              have hne : (ew == a) = false := by simpa using h2
              clear hg h1 h2 hew
              go_wp2_with (first | (go_at_call 28; refine (iget_any _ _ _ _ HU.out (by decide)).mono ?_; rintro e wg ⟨rfl, nn, hg⟩; simp only [get40]; have Bg : Below wr.heap.size wr wg := (by rw [hg]; exact below_drewN (Below.refl _ _) _); have Bgz := Bg.size; clear hg) | (go_at_call 8; refine (encode_any ⟨_, _, _, _, _, _⟩ _).mono ?_; rintro e w1 ⟨rfl, hb⟩; rw [HE.out, HW.out]; have B0 : Below wg.heap.size wg w1 := Below.trans (by repeat' (first | with_reducible exact Below.refl _ _ | with_reducible assumption | with_reducible apply below_drewN | with_reducible apply Below.drew | with_reducible refine Below.setCell ?_ ?_ _ | with_reducible refine Below.alloc ?_ ?_ _ | omega | (simp; done) | (simp; omega))) (hb.mono (by first | omega | (simp; done) | (simp; omega))); have B1 : Below wr.heap.size wr w1 := Bg.trans (B0.mono Bgz); have Bz1 := B1.size; obtain ⟨k1, k2, k3, k4⟩ := keepB hb wg.heap.size (by first | omega | (simp; done) | (simp; omega)); clear hb))
              go_roundw
              case rel => exact ⟨m + 1, by omega, by go_num, HS.out, (B1.block w.heap.size (by omega)).trans HBLK.out, (B1.block (w.heap.size + 2) (by omega)).trans HSL.out, hB.trans (B1.mono (by omega)), by omega⟩
              case measure => first | (simp [intOf]; done) | (simp [intOf]; omega)
          · have HM := Lib.hid (show othX a = some ⟨23, a % 32, 0, 0, 0, (m : Nat)⟩ by rw [HT.out, tail_cand (j := 8 + m) (by omega) hg, hec])
            rw [hec] at hg
            clear hec
            obtain ⟨h1, h2⟩ := good_yes hg
            have HE := Lib.hid h1
            have HW := Lib.hid h2
            clear hg h1 h2
            go_wp2_with (first | (go_at_call 28; refine (iget_any _ _ _ _ HU.out (by decide)).mono ?_; rintro e wg ⟨rfl, nn, hg⟩; simp only [get40]; have Bg : Below wr.heap.size wr wg := (by rw [hg]; exact below_drewN (Below.refl _ _) _); have Bgz := Bg.size; clear hg) | (go_at_call 8; refine (encode_any ⟨_, _, _, _, _, _⟩ _).mono ?_; rintro e w1 ⟨rfl, hb⟩; rw [HE.out, HW.out]; have B0 : Below wg.heap.size wg w1 := Below.trans (by repeat' (first | with_reducible exact Below.refl _ _ | with_reducible assumption | with_reducible apply below_drewN | with_reducible apply Below.drew | with_reducible refine Below.setCell ?_ ?_ _ | with_reducible refine Below.alloc ?_ ?_ _ | omega | (simp; done) | (simp; omega))) (hb.mono (by first | omega | (simp; done) | (simp; omega))); have B1 : Below wr.heap.size wr w1 := Bg.trans (B0.mono Bgz); have Bz1 := B1.size; obtain ⟨k1, k2, k3, k4⟩ := keepB hb wg.heap.size (by first | omega | (simp; done) | (simp; omega)); obtain ⟨c2, f2, l2, n2⟩ := block_cells ((B1.block w.heap.size (by omega)).trans HBLK.out); have d0 := c2 0 _ rfl; have d1 := c2 1 _ rfl; have d2 := c2 2 _ rfl; have d3 := c2 3 _ rfl; have d4 := c2 4 _ rfl; have d5 := c2 5 _ rfl; clear hb c2))
            refine bodyPost_ret (v := .tuple #[instrV ⟨23, a % 32, 0, 0, 0, (m : Nat)⟩, .bool true]) ?_ rfl (retO_some _ HM.out ?_)
            · simp [results, Try.results12, go_sem, d0, d1, d2, d3, d4, d5]
            · go_tidy
              have B2 : Below w.heap.size w w1 := hB.trans (B1.mono (by omega))
              repeat' (first | with_reducible exact Below.refl _ _ | with_reducible assumption | with_reducible apply below_drewN | with_reducible apply Below.drew | with_reducible refine Below.setCell ?_ ?_ _ | with_reducible refine Below.alloc ?_ ?_ _ | omega | (simp; done) | (simp; omega))
        · obtain rfl : m = 8 := by omega
          go_wp2_with fail
          go_roundw
          case rel => exact ⟨2, by omega, by omega, by go_num, fun j h => HNO.out j (by omega), HBLK.out, HSL.out, hB, hsz⟩
          case measure => first | (simp [intOf]; done) | (simp [intOf]; omega)

theorem others_any (a : Int) (ha : U32 a) (w : World) : Calls Try.prog 12 #[.int .u32 a] w (RetO (othX a) w) := by
  by_cases c0 : a = 3573751839
  · subst c0
    exact oth1 w (Lib.hid (by unfold othX; rw [if_pos rfl]))
  · by_cases c1 : a = 3573759967
    · subst c1
      exact oth2 w (Lib.hid (by unfold othX; rw [if_neg (by decide), if_pos rfl]))
    · have HA := and_bar ha
      by_cases c2 : barZ a = 3573756095 ∧ barrB (a / 256 % 16) = true
      · exact oth3 a w ha (Lib.hid (by unfold othX; rw [if_neg c0, if_neg c1, if_pos c2])) c0 c1 (HA.trans c2.1) (Lib.hid c2.2)
      · by_cases c3 : barZ a = 3573756063 ∧ barrB (a / 256 % 16) = true
        · exact oth4 a w ha (Lib.hid (by unfold othX; rw [if_neg c0, if_neg c1, if_neg c2, if_pos c3])) c0 c1 (HA.trans c3.1) (Lib.hid c3.2)
        · have HT := Lib.hid (show othX a = tailX a by unfold othX; rw [if_neg c0, if_neg c1, if_neg c2, if_neg c3])
          by_cases h1 : barZ a = 3573756095
          · exact oth5 a w ha HT c0 c1 (HA.trans h1) (Lib.hid (Bool.eq_false_iff.2 fun h2 => c2 ⟨h1, h2⟩))
          · by_cases h2 : barZ a = 3573756063
            · exact oth6 a w ha HT c0 c1 (HA.trans h2) (Lib.hid (Bool.eq_false_iff.2 fun h3 => c3 ⟨h2, h3⟩))
            · exact oth7 a w ha HT c0 c1 _ HA h1 h2

end Go.Proofs.Ytdlodacogldinaa