/- Contracts of isa.memory, branches. -/
import Derived.Test.YtdlodacogldinaaIsaf
namespace Go.Proofs.Ytdlodacogldinaa
open Go.RowKit
set_option linter.unusedSimpArgs false
set_option linter.unusedVariables false

theorem get40 (a : Int) : getZ a 4 0 = a % 32 := by simp [getZ, rightB]
theorem get95 (a : Int) : getZ a 9 5 = a / 32 % 32 := by simp [getZ, rightB]
theorem get2110 (a : Int) : getZ a 21 10 = a / 1024 % 4096 := by simp [getZ, rightB]
theorem get205 (a : Int) : getZ a 20 5 = a / 32 % 65536 := by simp [getZ, rightB]
theorem get2221 (a : Int) : getZ a 22 21 = a / 2097152 % 4 := by simp [getZ, rightB]
theorem get2016 (a : Int) : getZ a 20 16 = a / 65536 % 32 := by simp [getZ, rightB]
theorem get118 (a : Int) : getZ a 11 8 = a / 256 % 16 := by simp [getZ, rightB]
theorem sign250 (a : Int) : signZ (getZ a 25 0) (2 ^ (25 - 0 + 1 : Int).toNat) = signZ (a % 67108864) 67108864 := by
  have : getZ a 25 0 = a % 67108864 := by simp [getZ, rightB]
  rw [this]; rfl
theorem sign235 (a : Int) : signZ (getZ a 23 5) (2 ^ (23 - 5 + 1 : Int).toNat) = signZ (a / 32 % 524288) 524288 := by
  have : getZ a 23 5 = a / 32 % 524288 := by simp [getZ, rightB]
  rw [this]; rfl

/-- The call returns an instruction and whether there is one. -/
def RetO (o : Option X) (w : World) (e : Ending) (w' : World) : Prop := ∃ y, e = .returned (.tuple #[instrV y, .bool o.isSome]) ∧ (∀ x, o = some x → y = x) ∧ Below w.heap.size w w'
theorem retO_some {o : Option X} {w w' : World} (y : X) (h : o = some y) (hb : Below w.heap.size w w') : RetO o w (.returned (.tuple #[instrV y, .bool true])) w' :=
  ⟨y, by rw [h]; rfl, fun x hx => by rw [h] at hx; exact Option.some.inj hx, hb⟩
theorem retO_none {o : Option X} {w w' : World} (y : X) (h : o = none) (hb : Below w.heap.size w w') : RetO o w (.returned (.tuple #[instrV y, .bool false])) w' :=
  ⟨y, by rw [h]; rfl, fun x hx => (by rw [h] at hx; cases hx), hb⟩


set_option maxHeartbeats 4000000 in
theorem memory_any (a : Int) (ha : U32 a) (w : World) : Calls Try.prog 9 #[.int .u32 a] w (RetO (memX a) w) := by
  have HU := Lib.hid ha
  have hd : 0 ≤ a % 32 ∧ a % 32 < 32 := by omega
  have hn : 0 ≤ a / 32 % 32 ∧ a / 32 % 32 < 32 := by omega
  have hm : 0 ≤ a / 1024 % 4096 ∧ a / 1024 % 4096 < 4096 := by omega
  clear ha
  by_cases c0 : a / 1024 = 3291135
  · have HM := Lib.hid (show memX a = some ⟨4, a % 32, a / 32 % 32, 0, 0, 0⟩ by unfold memX; rw [if_pos c0])
    go_enter Try.func9, Try.ntmps9
    go_wp2_with (first | (go_at_call 28; refine (iget_any _ _ _ _ HU.out (by decide)).mono ?_; rintro e w' ⟨rfl, nn, rfl⟩; simp only [get40, get95, get2110, get205, get2221, get2016, get118]))
    refine bodyPost_ret (v := .tuple #[instrV ⟨4, a % 32, a / 32 % 32, 0, 0, 0⟩, .bool true]) ?_ rfl (retO_some ⟨4, a % 32, a / 32 % 32, 0, 0, 0⟩ HM.out ?_)
    · simp [results, Try.results9, go_sem]
    · go_tidy
      repeat' (first | with_reducible exact Below.refl _ _ | with_reducible assumption | with_reducible apply below_drewN | with_reducible apply Below.drew | with_reducible refine Below.setCell ?_ ?_ _ | with_reducible refine Below.alloc ?_ ?_ _ | omega | (simp; done) | (simp; omega))
  · by_cases c1 : a / 1024 = 3287039
    · have HM := Lib.hid (show memX a = some ⟨5, a % 32, a / 32 % 32, 0, 0, 0⟩ by unfold memX; rw [if_neg c0, if_pos c1])
      go_enter Try.func9, Try.ntmps9
      go_wp2_with (first | (go_at_call 28; refine (iget_any _ _ _ _ HU.out (by decide)).mono ?_; rintro e w' ⟨rfl, nn, rfl⟩; simp only [get40, get95, get2110, get205, get2221, get2016, get118]))
      refine bodyPost_ret (v := .tuple #[instrV ⟨5, a % 32, a / 32 % 32, 0, 0, 0⟩, .bool true]) ?_ rfl (retO_some ⟨5, a % 32, a / 32 % 32, 0, 0, 0⟩ HM.out ?_)
      · simp [results, Try.results9, go_sem]
      · go_tidy
        repeat' (first | with_reducible exact Below.refl _ _ | with_reducible assumption | with_reducible apply below_drewN | with_reducible apply Below.drew | with_reducible refine Below.setCell ?_ ?_ _ | with_reducible refine Below.alloc ?_ ?_ _ | omega | (simp; done) | (simp; omega))
    · by_cases c2 : a / 4194304 = 997
      · have HM := Lib.hid (show memX a = some ⟨2, a % 32, a / 32 % 32, 0, 8 * (a / 1024 % 4096), 0⟩ by unfold memX; rw [if_neg c0, if_neg c1, if_pos c2])
        go_enter Try.func9, Try.ntmps9
        go_wp2_with (first | (go_at_call 28; refine (iget_any _ _ _ _ HU.out (by decide)).mono ?_; rintro e w' ⟨rfl, nn, rfl⟩; simp only [get40, get95, get2110, get205, get2221, get2016, get118]))
        refine bodyPost_ret (v := .tuple #[instrV ⟨2, a % 32, a / 32 % 32, 0, 8 * (a / 1024 % 4096), 0⟩, .bool true]) ?_ rfl (retO_some ⟨2, a % 32, a / 32 % 32, 0, 8 * (a / 1024 % 4096), 0⟩ HM.out ?_)
        · simp [results, Try.results9, go_sem]
        · go_tidy
          repeat' (first | with_reducible exact Below.refl _ _ | with_reducible assumption | with_reducible apply below_drewN | with_reducible apply Below.drew | with_reducible refine Below.setCell ?_ ?_ _ | with_reducible refine Below.alloc ?_ ?_ _ | omega | (simp; done) | (simp; omega))
      · by_cases c3 : a / 4194304 = 996
        · have HM := Lib.hid (show memX a = some ⟨3, a % 32, a / 32 % 32, 0, 8 * (a / 1024 % 4096), 0⟩ by unfold memX; rw [if_neg c0, if_neg c1, if_neg c2, if_pos c3])
          go_enter Try.func9, Try.ntmps9
          go_wp2_with (first | (go_at_call 28; refine (iget_any _ _ _ _ HU.out (by decide)).mono ?_; rintro e w' ⟨rfl, nn, rfl⟩; simp only [get40, get95, get2110, get205, get2221, get2016, get118]))
          refine bodyPost_ret (v := .tuple #[instrV ⟨3, a % 32, a / 32 % 32, 0, 8 * (a / 1024 % 4096), 0⟩, .bool true]) ?_ rfl (retO_some ⟨3, a % 32, a / 32 % 32, 0, 8 * (a / 1024 % 4096), 0⟩ HM.out ?_)
          · simp [results, Try.results9, go_sem]
          · go_tidy
            repeat' (first | with_reducible exact Below.refl _ _ | with_reducible assumption | with_reducible apply below_drewN | with_reducible apply Below.drew | with_reducible refine Below.setCell ?_ ?_ _ | with_reducible refine Below.alloc ?_ ?_ _ | omega | (simp; done) | (simp; omega))
        · have HM := Lib.hid (show memX a = none by unfold memX; rw [if_neg c0, if_neg c1, if_neg c2, if_neg c3])
          go_enter Try.func9, Try.ntmps9
          go_wp2_with (first | (go_at_call 28; refine (iget_any _ _ _ _ HU.out (by decide)).mono ?_; rintro e w' ⟨rfl, nn, rfl⟩; simp only [get40, get95, get2110, get205, get2221, get2016, get118]))
          all_goals
            refine bodyPost_ret (v := .tuple #[instrV ⟨0, a % 32, a / 32 % 32, 0, 8 * (a / 1024 % 4096), 0⟩, .bool false]) ?_ rfl (retO_none ⟨0, a % 32, a / 32 % 32, 0, 8 * (a / 1024 % 4096), 0⟩ HM.out ?_)
            · simp [results, Try.results9, go_sem]
            · go_tidy
              repeat' (first | with_reducible exact Below.refl _ _ | with_reducible assumption | with_reducible apply below_drewN | with_reducible apply Below.drew | with_reducible refine Below.setCell ?_ ?_ _ | with_reducible refine Below.alloc ?_ ?_ _ | omega | (simp; done) | (simp; omega))

set_option maxHeartbeats 4000000 in
theorem branches_any (a : Int) (ha : U32 a) (w : World) : Calls Try.prog 11 #[.int .u32 a] w (RetO (brX a) w) := by
  have HU := Lib.hid ha
  have hd : 0 ≤ a % 32 ∧ a % 32 < 32 := by omega
  clear ha
  by_cases c0 : a / 67108864 = 5
  · have HM := Lib.hid (show brX a = some ⟨14, 0, 0, 0, signZ (a % 67108864) 67108864, 0⟩ by unfold brX; rw [if_pos c0])
    go_enter Try.func11, Try.ntmps11
    go_wp2_with (first | (go_at_call 28; refine (iget_any _ _ _ _ HU.out (by decide)).mono ?_; rintro e w' ⟨rfl, nn, rfl⟩; simp only [get40, get95, get2110, get205, get2221, get2016, get118]) | (go_at_call 29; refine (isigned_any _ _ _ _ HU.out (by decide)).mono ?_; rintro e w' ⟨rfl, nn, rfl⟩; simp only [sign250, sign235]) | (go_at_call 23; refine (base_any _ _).mono ?_; rintro e w' ⟨rfl, rfl⟩; simp only [baseX, reduceIte, Int.reduceEq]))
    refine bodyPost_ret (v := .tuple #[instrV ⟨14, 0, 0, 0, signZ (a % 67108864) 67108864, 0⟩, .bool true]) ?_ rfl (retO_some ⟨14, 0, 0, 0, signZ (a % 67108864) 67108864, 0⟩ HM.out ?_)
    · simp [results, Try.results11, go_sem]
    · go_tidy
      repeat' (first | with_reducible exact Below.refl _ _ | with_reducible assumption | with_reducible apply below_drewN | with_reducible apply Below.drew | with_reducible refine Below.setCell ?_ ?_ _ | with_reducible refine Below.alloc ?_ ?_ _ | omega | (simp; done) | (simp; omega))
  · by_cases c1 : a / 16777216 = 180
    · have HM := Lib.hid (show brX a = some ⟨15, a % 32, 0, 0, signZ (a / 32 % 524288) 524288, 0⟩ by unfold brX; rw [if_neg c0, if_pos c1])
      go_enter Try.func11, Try.ntmps11
      go_wp2_with (first | (go_at_call 28; refine (iget_any _ _ _ _ HU.out (by decide)).mono ?_; rintro e w' ⟨rfl, nn, rfl⟩; simp only [get40, get95, get2110, get205, get2221, get2016, get118]) | (go_at_call 29; refine (isigned_any _ _ _ _ HU.out (by decide)).mono ?_; rintro e w' ⟨rfl, nn, rfl⟩; simp only [sign250, sign235]) | (go_at_call 23; refine (base_any _ _).mono ?_; rintro e w' ⟨rfl, rfl⟩; simp only [baseX, reduceIte, Int.reduceEq]))
      refine bodyPost_ret (v := .tuple #[instrV ⟨15, a % 32, 0, 0, signZ (a / 32 % 524288) 524288, 0⟩, .bool true]) ?_ rfl (retO_some ⟨15, a % 32, 0, 0, signZ (a / 32 % 524288) 524288, 0⟩ HM.out ?_)
      · simp [results, Try.results11, go_sem]
      · go_tidy
        repeat' (first | with_reducible exact Below.refl _ _ | with_reducible assumption | with_reducible apply below_drewN | with_reducible apply Below.drew | with_reducible refine Below.setCell ?_ ?_ _ | with_reducible refine Below.alloc ?_ ?_ _ | omega | (simp; done) | (simp; omega))
    · by_cases c2 : a / 16777216 = 181
      · have HM := Lib.hid (show brX a = some ⟨16, a % 32, 0, 0, signZ (a / 32 % 524288) 524288, 0⟩ by unfold brX; rw [if_neg c0, if_neg c1, if_pos c2])
        go_enter Try.func11, Try.ntmps11
        go_wp2_with (first | (go_at_call 28; refine (iget_any _ _ _ _ HU.out (by decide)).mono ?_; rintro e w' ⟨rfl, nn, rfl⟩; simp only [get40, get95, get2110, get205, get2221, get2016, get118]) | (go_at_call 29; refine (isigned_any _ _ _ _ HU.out (by decide)).mono ?_; rintro e w' ⟨rfl, nn, rfl⟩; simp only [sign250, sign235]) | (go_at_call 23; refine (base_any _ _).mono ?_; rintro e w' ⟨rfl, rfl⟩; simp only [baseX, reduceIte, Int.reduceEq]))
        refine bodyPost_ret (v := .tuple #[instrV ⟨16, a % 32, 0, 0, signZ (a / 32 % 524288) 524288, 0⟩, .bool true]) ?_ rfl (retO_some ⟨16, a % 32, 0, 0, signZ (a / 32 % 524288) 524288, 0⟩ HM.out ?_)
        · simp [results, Try.results11, go_sem]
        · go_tidy
          repeat' (first | with_reducible exact Below.refl _ _ | with_reducible assumption | with_reducible apply below_drewN | with_reducible apply Below.drew | with_reducible refine Below.setCell ?_ ?_ _ | with_reducible refine Below.alloc ?_ ?_ _ | omega | (simp; done) | (simp; omega))
      · by_cases c3 : a / 16777216 = 84 ∧ a % 32 ≤ 1
        · have HM := Lib.hid (show brX a = some ⟨17, 0, 0, 0, signZ (a / 32 % 524288) 524288, a % 32⟩ by unfold brX; rw [if_neg c0, if_neg c1, if_neg c2, if_pos c3])
          go_enter Try.func11, Try.ntmps11
          go_wp2_with (first | (go_at_call 28; refine (iget_any _ _ _ _ HU.out (by decide)).mono ?_; rintro e w' ⟨rfl, nn, rfl⟩; simp only [get40, get95, get2110, get205, get2221, get2016, get118]) | (go_at_call 29; refine (isigned_any _ _ _ _ HU.out (by decide)).mono ?_; rintro e w' ⟨rfl, nn, rfl⟩; simp only [sign250, sign235]) | (go_at_call 23; refine (base_any _ _).mono ?_; rintro e w' ⟨rfl, rfl⟩; simp only [baseX, reduceIte, Int.reduceEq]))
          refine bodyPost_ret (v := .tuple #[instrV ⟨17, 0, 0, 0, signZ (a / 32 % 524288) 524288, a % 32⟩, .bool true]) ?_ rfl (retO_some ⟨17, 0, 0, 0, signZ (a / 32 % 524288) 524288, a % 32⟩ HM.out ?_)
          · simp [results, Try.results11, go_sem]
          · go_tidy
            repeat' (first | with_reducible exact Below.refl _ _ | with_reducible assumption | with_reducible apply below_drewN | with_reducible apply Below.drew | with_reducible refine Below.setCell ?_ ?_ _ | with_reducible refine Below.alloc ?_ ?_ _ | omega | (simp; done) | (simp; omega))
        · by_cases c4 : a = 3600745440
          · have HM := Lib.hid (show brX a = some ⟨22, 0, 0, 0, 0, 0⟩ by unfold brX; rw [if_neg c0, if_neg c1, if_neg c2, if_neg c3, if_pos c4])
            go_enter Try.func11, Try.ntmps11
            go_wp2_with (first | (go_at_call 28; refine (iget_any _ _ _ _ HU.out (by decide)).mono ?_; rintro e w' ⟨rfl, nn, rfl⟩; simp only [get40, get95, get2110, get205, get2221, get2016, get118]) | (go_at_call 29; refine (isigned_any _ _ _ _ HU.out (by decide)).mono ?_; rintro e w' ⟨rfl, nn, rfl⟩; simp only [sign250, sign235]) | (go_at_call 23; refine (base_any _ _).mono ?_; rintro e w' ⟨rfl, rfl⟩; simp only [baseX, reduceIte, Int.reduceEq]))
            refine bodyPost_ret (v := .tuple #[instrV ⟨22, 0, 0, 0, 0, 0⟩, .bool true]) ?_ rfl (retO_some ⟨22, 0, 0, 0, 0, 0⟩ HM.out ?_)
            · simp [results, Try.results11, go_sem]
            · go_tidy
              repeat' (first | with_reducible exact Below.refl _ _ | with_reducible assumption | with_reducible apply below_drewN | with_reducible apply Below.drew | with_reducible refine Below.setCell ?_ ?_ _ | with_reducible refine Below.alloc ?_ ?_ _ | omega | (simp; done) | (simp; omega))
          · have HM := Lib.hid (show brX a = none by unfold brX; rw [if_neg c0, if_neg c1, if_neg c2, if_neg c3, if_neg c4])
            go_enter Try.func11, Try.ntmps11
            go_wp2_with (first | (go_at_call 28; refine (iget_any _ _ _ _ HU.out (by decide)).mono ?_; rintro e w' ⟨rfl, nn, rfl⟩; simp only [get40, get95, get2110, get205, get2221, get2016, get118]) | (go_at_call 29; refine (isigned_any _ _ _ _ HU.out (by decide)).mono ?_; rintro e w' ⟨rfl, nn, rfl⟩; simp only [sign250, sign235]) | (go_at_call 23; refine (base_any _ _).mono ?_; rintro e w' ⟨rfl, rfl⟩; simp only [baseX, reduceIte, Int.reduceEq]))
            all_goals
              refine bodyPost_ret (v := .tuple #[instrV ⟨0, 0, 0, 0, 0, 0⟩, .bool false]) ?_ rfl (retO_none ⟨0, 0, 0, 0, 0, 0⟩ HM.out ?_)
              · simp [results, Try.results11, go_sem]
              · go_tidy
                repeat' (first | with_reducible exact Below.refl _ _ | with_reducible assumption | with_reducible apply below_drewN | with_reducible apply Below.drew | with_reducible refine Below.setCell ?_ ?_ _ | with_reducible refine Below.alloc ?_ ?_ _ | omega | (simp; done) | (simp; omega))


end Go.Proofs.Ytdlodacogldinaa