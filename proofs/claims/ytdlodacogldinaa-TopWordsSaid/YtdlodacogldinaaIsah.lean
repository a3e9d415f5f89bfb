/- Contracts of isa.moves, others, Decode. -/
import Derived.Test.YtdlodacogldinaaIsag
import Derived.Test.YtdlodacogldinaaOwn
import Derived.Test.YtdlodacogldinaaIsae
namespace Go.Proofs.Ytdlodacogldinaa
open Go.RowKit
set_option linter.unusedSimpArgs false
set_option linter.unusedVariables false

theorem and_at (x lo n : Nat) : x &&& ((2 ^ n - 1) * 2 ^ lo) = x / 2 ^ lo % 2 ^ n * 2 ^ lo := by
  apply Nat.eq_of_testBit_eq
  intro i
  rw [Nat.testBit_and, Nat.testBit_mul_two_pow, Nat.testBit_mul_two_pow, Nat.testBit_two_pow_sub_one, Nat.testBit_mod_two_pow, Nat.testBit_div_two_pow]
  by_cases h : lo ≤ i
  · have e : i - lo + lo = i := by omega
    rw [e]
    by_cases h2 : i - lo < n <;> simp [h, h2]
  · simp [h]

theorem and_alu {a : Int} (ha : U32 a) : bits .and .u32 a 4292934656 = aluZ a := by
  obtain ⟨h0, h1⟩ := ha
  obtain ⟨x, rfl⟩ := Int.eq_ofNat_of_zero_le h0
  have e : (4292934656 : Nat) = (2 ^ 11 - 1) * 2 ^ 21 ||| (2 ^ 6 - 1) * 2 ^ 10 := by decide
  have e2 : (4292934656 : Int) = ((4292934656 : Nat) : Int) := rfl
  rw [e2, u32_and_nat _ _ (by omega) (by decide), e, Nat.and_or_distrib_left, and_at, and_at]
  have e3 : x / 2 ^ 21 % 2 ^ 11 = x / 2 ^ 21 := Nat.mod_eq_of_lt (by omega)
  rw [e3, Nat.mul_comm (x / 2 ^ 21), ← Nat.two_pow_add_eq_or_of_lt (by omega)]
  unfold aluZ
  omega

theorem and_bar {a : Int} (ha : U32 a) : bits .and .u32 a 4294963455 = barZ a := by
  obtain ⟨h0, h1⟩ := ha
  obtain ⟨x, rfl⟩ := Int.eq_ofNat_of_zero_le h0
  have e : (4294963455 : Nat) = (2 ^ 20 - 1) * 2 ^ 12 ||| (2 ^ 8 - 1) * 2 ^ 0 := by decide
  have e2 : (4294963455 : Int) = ((4294963455 : Nat) : Int) := rfl
  rw [e2, u32_and_nat _ _ (by omega) (by decide), e, Nat.and_or_distrib_left, and_at, and_at]
  have e3 : x / 2 ^ 12 % 2 ^ 20 = x / 2 ^ 12 := Nat.mod_eq_of_lt (by omega)
  rw [e3, Nat.mul_comm (x / 2 ^ 12), ← Nat.two_pow_add_eq_or_of_lt (by omega)]
  unfold barZ
  omega


set_option maxHeartbeats 8000000 in
theorem moves_any (a : Int) (ha : U32 a) (w : World) : Calls Try.prog 10 #[.int .u32 a] w (RetO (movX a) w) := by
  have HU := Lib.hid ha
  have hd : 0 ≤ a % 32 ∧ a % 32 < 32 := by omega
  have hn : 0 ≤ a / 32 % 32 ∧ a / 32 % 32 < 32 := by omega
  have hm : 0 ≤ a / 65536 % 32 ∧ a / 65536 % 32 < 32 := by omega
  have HA := and_alu ha
  clear ha
  by_cases c0 : a / 8388608 = 421
  · have HM := Lib.hid (show movX a = some ⟨6, a % 32, 0, 0, a / 32 % 65536, a / 2097152 % 4⟩ by unfold movX; rw [if_pos c0])
    clear HA
    go_enter Try.func10, Try.ntmps10
    go_wp2_with (first | (go_at_call 28; refine (iget_any _ _ _ _ HU.out (by decide)).mono ?_; rintro e w' ⟨rfl, nn, rfl⟩; simp only [get40, get95, get2110, get205, get2221, get2016, get118]))
    refine bodyPost_ret (v := .tuple #[instrV ⟨6, a % 32, 0, 0, a / 32 % 65536, a / 2097152 % 4⟩, .bool true]) ?_ rfl (retO_some _ HM.out ?_)
    · simp [results, Try.results10, go_sem]
    · go_tidy
      repeat' (first | with_reducible exact Below.refl _ _ | with_reducible assumption | with_reducible apply below_drewN | with_reducible apply Below.drew | with_reducible refine Below.setCell ?_ ?_ _ | with_reducible refine Below.alloc ?_ ?_ _ | omega | (simp; done) | (simp; omega))
  · by_cases c1 : a / 4194304 = 580
    · have HM := Lib.hid (show movX a = some ⟨7, a % 32, a / 32 % 32, 0, a / 1024 % 4096, 0⟩ by unfold movX; rw [if_neg c0, if_pos c1])
      clear HA
      go_enter Try.func10, Try.ntmps10
      go_wp2_with (first | (go_at_call 28; refine (iget_any _ _ _ _ HU.out (by decide)).mono ?_; rintro e w' ⟨rfl, nn, rfl⟩; simp only [get40, get95, get2110, get205, get2221, get2016, get118]))
      refine bodyPost_ret (v := .tuple #[instrV ⟨7, a % 32, a / 32 % 32, 0, a / 1024 % 4096, 0⟩, .bool true]) ?_ rfl (retO_some _ HM.out ?_)
      · simp [results, Try.results10, go_sem]
      · go_tidy
        repeat' (first | with_reducible exact Below.refl _ _ | with_reducible assumption | with_reducible apply below_drewN | with_reducible apply Below.drew | with_reducible refine Below.setCell ?_ ?_ _ | with_reducible refine Below.alloc ?_ ?_ _ | omega | (simp; done) | (simp; omega))
    · have HMV : movX a = if aluZ a = 2332033024 then some (aluX a 8) else if aluZ a = 3405774848 then some (aluX a 9) else if aluZ a = 2315255808 then some (aluX a 10) else if aluZ a = 2852126720 then some (aluX a 11) else if aluZ a = 3388997632 then some (aluX a 12) else if aluZ a = 3942645760 then some (aluX a 13) else none := by unfold movX; rw [if_neg c0, if_neg c1]
      have HMW := HMV
      clear HMV
      have HMV := Lib.hid HMW
      clear HMW
      generalize aluZ a = z at HA HMV
      go_enter Try.func10, Try.ntmps10
      go_wp2_with (first | (go_at_call 28; refine (iget_any _ _ _ _ HU.out (by decide)).mono ?_; rintro e w' ⟨rfl, nn, rfl⟩; simp only [get40, get95, get2110, get205, get2221, get2016, get118]))
      go_loop [37] (fun i => ∃ k : Int, 0 ≤ k ∧ k ≤ 6 ∧ i = .int .i64 k ∧ (∀ j, 0 ≤ j → j < k → ¬ z = baseX (8 + j))) (fun i => 6 - (intOf i).toNat)
      case atStart => exact ⟨0, by omega, by omega, rfl, fun j h h' => by omega⟩
      case round =>
        obtain ⟨k, hk0, hk, rfl, hno⟩ := hrel
        have hc : k = 0 ∨ k = 1 ∨ k = 2 ∨ k = 3 ∨ k = 4 ∨ k = 5 ∨ k = 6 := by omega
        clear hk0 hk
        rcases hc with rfl | rfl | rfl | rfl | rfl | rfl | rfl
        · have HNO := Lib.hid hno; clear hno
          by_cases he : z = 2332033024
          · have HM := Lib.hid (show movX a = some ⟨8, a % 32, a / 32 % 32, a / 65536 % 32, 0, 0⟩ by rw [HMV.out, if_pos he]; rfl)
            clear HNO
            go_wp2_with (first | (go_at_call 23; refine (base_any _ _).mono ?_; rintro e w' ⟨rfl, rfl⟩; simp only [baseX, reduceIte, Int.reduceEq]))
            refine bodyPost_ret (v := .tuple #[instrV ⟨8, a % 32, a / 32 % 32, a / 65536 % 32, 0, 0⟩, .bool true]) ?_ rfl (retO_some _ HM.out ?_)
            · simp [results, Try.results10, go_sem]
            · go_tidy
              repeat' (first | with_reducible exact Below.refl _ _ | with_reducible assumption | with_reducible apply below_drewN | with_reducible apply Below.drew | with_reducible refine Below.setCell ?_ ?_ _ | with_reducible refine Below.alloc ?_ ?_ _ | omega | (simp; done) | (simp; omega))
          · clear hd
            go_wp2_with (first | (go_at_call 23; refine (base_any _ _).mono ?_; rintro e w' ⟨rfl, rfl⟩; simp only [baseX, reduceIte, Int.reduceEq]))
            go_round
            case rel => exact ⟨1, by decide, by decide, rfl, fun j h0 h1 => by
              by_cases hj : j < 0
              · exact HNO.out j h0 hj
              · obtain rfl : j = 0 := by omega
                exact he⟩
            case measure => simp [intOf]
        · have y0 : ¬ z = 2332033024 := hno 0 (by decide) (by decide); have HNO := Lib.hid hno; clear hno
          by_cases he : z = 3405774848
          · have HM := Lib.hid (show movX a = some ⟨9, a % 32, a / 32 % 32, a / 65536 % 32, 0, 0⟩ by rw [HMV.out, if_neg y0, if_pos he]; rfl)
            clear y0
            go_wp2_with (first | (go_at_call 23; refine (base_any _ _).mono ?_; rintro e w' ⟨rfl, rfl⟩; simp only [baseX, reduceIte, Int.reduceEq]))
            refine bodyPost_ret (v := .tuple #[instrV ⟨9, a % 32, a / 32 % 32, a / 65536 % 32, 0, 0⟩, .bool true]) ?_ rfl (retO_some _ HM.out ?_)
            · simp [results, Try.results10, go_sem]
            · go_tidy
              repeat' (first | with_reducible exact Below.refl _ _ | with_reducible assumption | with_reducible apply below_drewN | with_reducible apply Below.drew | with_reducible refine Below.setCell ?_ ?_ _ | with_reducible refine Below.alloc ?_ ?_ _ | omega | (simp; done) | (simp; omega))
          · clear y0
            go_wp2_with (first | (go_at_call 23; refine (base_any _ _).mono ?_; rintro e w' ⟨rfl, rfl⟩; simp only [baseX, reduceIte, Int.reduceEq]))
            go_round
            case rel => exact ⟨2, by decide, by decide, rfl, fun j h0 h1 => by
              by_cases hj : j < 1
              · exact HNO.out j h0 hj
              · obtain rfl : j = 1 := by omega
                exact he⟩
            case measure => simp [intOf]
        · have y0 : ¬ z = 2332033024 := hno 0 (by decide) (by decide); have y1 : ¬ z = 3405774848 := hno 1 (by decide) (by decide); have HNO := Lib.hid hno; clear hno
          by_cases he : z = 2315255808
          · have HM := Lib.hid (show movX a = some ⟨10, a % 32, a / 32 % 32, a / 65536 % 32, 0, 0⟩ by rw [HMV.out, if_neg y0, if_neg y1, if_pos he]; rfl)
            clear y0 y1
            go_wp2_with (first | (go_at_call 23; refine (base_any _ _).mono ?_; rintro e w' ⟨rfl, rfl⟩; simp only [baseX, reduceIte, Int.reduceEq]))
            refine bodyPost_ret (v := .tuple #[instrV ⟨10, a % 32, a / 32 % 32, a / 65536 % 32, 0, 0⟩, .bool true]) ?_ rfl (retO_some _ HM.out ?_)
            · simp [results, Try.results10, go_sem]
            · go_tidy
              repeat' (first | with_reducible exact Below.refl _ _ | with_reducible assumption | with_reducible apply below_drewN | with_reducible apply Below.drew | with_reducible refine Below.setCell ?_ ?_ _ | with_reducible refine Below.alloc ?_ ?_ _ | omega | (simp; done) | (simp; omega))
          · clear y0 y1
            go_wp2_with (first | (go_at_call 23; refine (base_any _ _).mono ?_; rintro e w' ⟨rfl, rfl⟩; simp only [baseX, reduceIte, Int.reduceEq]))
            go_round
            case rel => exact ⟨3, by decide, by decide, rfl, fun j h0 h1 => by
              by_cases hj : j < 2
              · exact HNO.out j h0 hj
              · obtain rfl : j = 2 := by omega
                exact he⟩
            case measure => simp [intOf]
        · have y0 : ¬ z = 2332033024 := hno 0 (by decide) (by decide); have y1 : ¬ z = 3405774848 := hno 1 (by decide) (by decide); have y2 : ¬ z = 2315255808 := hno 2 (by decide) (by decide); have HNO := Lib.hid hno; clear hno
          by_cases he : z = 2852126720
          · have HM := Lib.hid (show movX a = some ⟨11, a % 32, a / 32 % 32, a / 65536 % 32, 0, 0⟩ by rw [HMV.out, if_neg y0, if_neg y1, if_neg y2, if_pos he]; rfl)
            clear y0 y1 y2
            go_wp2_with (first | (go_at_call 23; refine (base_any _ _).mono ?_; rintro e w' ⟨rfl, rfl⟩; simp only [baseX, reduceIte, Int.reduceEq]))
            refine bodyPost_ret (v := .tuple #[instrV ⟨11, a % 32, a / 32 % 32, a / 65536 % 32, 0, 0⟩, .bool true]) ?_ rfl (retO_some _ HM.out ?_)
            · simp [results, Try.results10, go_sem]
            · go_tidy
              repeat' (first | with_reducible exact Below.refl _ _ | with_reducible assumption | with_reducible apply below_drewN | with_reducible apply Below.drew | with_reducible refine Below.setCell ?_ ?_ _ | with_reducible refine Below.alloc ?_ ?_ _ | omega | (simp; done) | (simp; omega))
          · clear y0 y1 y2
            go_wp2_with (first | (go_at_call 23; refine (base_any _ _).mono ?_; rintro e w' ⟨rfl, rfl⟩; simp only [baseX, reduceIte, Int.reduceEq]))
            go_round
            case rel => exact ⟨4, by decide, by decide, rfl, fun j h0 h1 => by
              by_cases hj : j < 3
              · exact HNO.out j h0 hj
              · obtain rfl : j = 3 := by omega
                exact he⟩
            case measure => simp [intOf]
        · have y0 : ¬ z = 2332033024 := hno 0 (by decide) (by decide); have y1 : ¬ z = 3405774848 := hno 1 (by decide) (by decide); have y2 : ¬ z = 2315255808 := hno 2 (by decide) (by decide); have y3 : ¬ z = 2852126720 := hno 3 (by decide) (by decide); have HNO := Lib.hid hno; clear hno
          by_cases he : z = 3388997632
          · have HM := Lib.hid (show movX a = some ⟨12, a % 32, a / 32 % 32, a / 65536 % 32, 0, 0⟩ by rw [HMV.out, if_neg y0, if_neg y1, if_neg y2, if_neg y3, if_pos he]; rfl)
            clear y0 y1 y2 y3
            go_wp2_with (first | (go_at_call 23; refine (base_any _ _).mono ?_; rintro e w' ⟨rfl, rfl⟩; simp only [baseX, reduceIte, Int.reduceEq]))
            refine bodyPost_ret (v := .tuple #[instrV ⟨12, a % 32, a / 32 % 32, a / 65536 % 32, 0, 0⟩, .bool true]) ?_ rfl (retO_some _ HM.out ?_)
            · simp [results, Try.results10, go_sem]
            · go_tidy
              repeat' (first | with_reducible exact Below.refl _ _ | with_reducible assumption | with_reducible apply below_drewN | with_reducible apply Below.drew | with_reducible refine Below.setCell ?_ ?_ _ | with_reducible refine Below.alloc ?_ ?_ _ | omega | (simp; done) | (simp; omega))
          · clear y0 y1 y2 y3
            go_wp2_with (first | (go_at_call 23; refine (base_any _ _).mono ?_; rintro e w' ⟨rfl, rfl⟩; simp only [baseX, reduceIte, Int.reduceEq]))
            go_round
            case rel => exact ⟨5, by decide, by decide, rfl, fun j h0 h1 => by
              by_cases hj : j < 4
              · exact HNO.out j h0 hj
              · obtain rfl : j = 4 := by omega
                exact he⟩
            case measure => simp [intOf]
        · have y0 : ¬ z = 2332033024 := hno 0 (by decide) (by decide); have y1 : ¬ z = 3405774848 := hno 1 (by decide) (by decide); have y2 : ¬ z = 2315255808 := hno 2 (by decide) (by decide); have y3 : ¬ z = 2852126720 := hno 3 (by decide) (by decide); have y4 : ¬ z = 3388997632 := hno 4 (by decide) (by decide); have HNO := Lib.hid hno; clear hno
          by_cases he : z = 3942645760
          · have HM := Lib.hid (show movX a = some ⟨13, a % 32, a / 32 % 32, a / 65536 % 32, 0, 0⟩ by rw [HMV.out, if_neg y0, if_neg y1, if_neg y2, if_neg y3, if_neg y4, if_pos he]; rfl)
            clear y0 y1 y2 y3 y4
            go_wp2_with (first | (go_at_call 23; refine (base_any _ _).mono ?_; rintro e w' ⟨rfl, rfl⟩; simp only [baseX, reduceIte, Int.reduceEq]))
            refine bodyPost_ret (v := .tuple #[instrV ⟨13, a % 32, a / 32 % 32, a / 65536 % 32, 0, 0⟩, .bool true]) ?_ rfl (retO_some _ HM.out ?_)
            · simp [results, Try.results10, go_sem]
            · go_tidy
              repeat' (first | with_reducible exact Below.refl _ _ | with_reducible assumption | with_reducible apply below_drewN | with_reducible apply Below.drew | with_reducible refine Below.setCell ?_ ?_ _ | with_reducible refine Below.alloc ?_ ?_ _ | omega | (simp; done) | (simp; omega))
          · clear y0 y1 y2 y3 y4
            go_wp2_with (first | (go_at_call 23; refine (base_any _ _).mono ?_; rintro e w' ⟨rfl, rfl⟩; simp only [baseX, reduceIte, Int.reduceEq]))
            go_round
            case rel => exact ⟨6, by decide, by decide, rfl, fun j h0 h1 => by
              by_cases hj : j < 5
              · exact HNO.out j h0 hj
              · obtain rfl : j = 5 := by omega
                exact he⟩
            case measure => simp [intOf]
        · have y0 : ¬ z = 2332033024 := hno 0 (by decide) (by decide); have y1 : ¬ z = 3405774848 := hno 1 (by decide) (by decide); have y2 : ¬ z = 2315255808 := hno 2 (by decide) (by decide); have y3 : ¬ z = 2852126720 := hno 3 (by decide) (by decide); have y4 : ¬ z = 3388997632 := hno 4 (by decide) (by decide); have y5 : ¬ z = 3942645760 := hno 5 (by decide) (by decide); have HNO := Lib.hid hno; clear hno
          have HM := Lib.hid (show movX a = none by rw [HMV.out, if_neg y0, if_neg y1, if_neg y2, if_neg y3, if_neg y4, if_neg y5])
          clear y0 y1 y2 y3 y4 y5
          go_wp2_with (first | (go_at_call 23; refine (base_any _ _).mono ?_; rintro e w' ⟨rfl, rfl⟩; simp only [baseX, reduceIte, Int.reduceEq]))
          refine bodyPost_ret (v := .tuple #[instrV ⟨0, a % 32, a / 32 % 32, a / 65536 % 32, 0, 0⟩, .bool false]) ?_ rfl (retO_none ⟨0, a % 32, a / 32 % 32, a / 65536 % 32, 0, 0⟩ HM.out ?_)
          · simp [results, Try.results10, go_sem]
          · go_tidy
            repeat' (first | with_reducible exact Below.refl _ _ | with_reducible assumption | with_reducible apply below_drewN | with_reducible apply Below.drew | with_reducible refine Below.setCell ?_ ?_ _ | with_reducible refine Below.alloc ?_ ?_ _ | omega | (simp; done) | (simp; omega))


end Go.Proofs.Ytdlodacogldinaa