/- Contract of the reader's kind, at its three tables of names. (Written by gen_kind.py.) -/
import Derived.Test.YtdlodacogldinaaCount
namespace Go.Proofs.Ytdlodacogldinaa
open Go.RowKit
set_option linter.unusedSimpArgs false
set_option linter.unusedVariables false

theorem barrier_ne : ∀ a b : Fin 16, a.val < b.val → (b.val = 9 ∨ b.val = 10 ∨ b.val = 11 ∨ b.val = 13 ∨ b.val = 14 ∨ b.val = 15) → (barrierL (a.val : Int) == barrierL (b.val : Int)) = false := by decide +kernel
theorem barrier_some : ∀ b : Fin 16, (b.val = 9 ∨ b.val = 10 ∨ b.val = 11 ∨ b.val = 13 ∨ b.val = 14 ∨ b.val = 15) → (!(barrierL (b.val : Int)).isEmpty) = true := by decide +kernel
set_option maxHeartbeats 4000000 in
theorem kind_barrier (B K : Nat) (hK : K < 16) (hg : (K = 9 ∨ K = 10 ∨ K = 11 ∨ K = 13 ∨ K = 14 ∨ K = 15)) (ws : List (List UInt8)) (w : World) (h : Rd w B (barrierL (K : Int) :: ws)) :
    Calls Try.prog 47 #[(.pointer (some ⟨B, 0, none⟩)), .int .i64 16, .func (.func 32) #[] #[]] w (RetR B (.int .i64 (K : Int)) ws w) := by
  have c1 : Hid (Calls Try.prog 38 #[(.pointer (some ⟨B, 0, none⟩))] w (RetR B (.string ⟨(barrierL (K : Int)).toArray⟩) ws w)) := Lib.hid (next_any B _ ws w h)
  have HNE : Hid (∀ a, a < K → (barrierL (a : Int) == barrierL (K : Int)) = false) := Lib.hid fun a ha => barrier_ne ⟨a, by omega⟩ ⟨K, hK⟩ ha hg
  have hs := barrier_some ⟨K, hK⟩ hg
  simp only at hs
  have cN : Hid (∀ (a : Nat), a < 16 → ∀ V, Calls Try.prog 32 #[.int .i64 (a : Int)] V (RetB (.string ⟨(barrierL (a : Int)).toArray⟩) V)) := Lib.hid fun a ha V => barriert_any (a : Int) (by omega) V
  clear h hg
  go_enter Try.func47, Try.ntmps47
  go_wp2_with fail
  refine c1.out.mono ?_
  rintro e w1 ⟨rfl, hr, hx⟩
  have R1 := Lib.hid hr
  have X1 := Lib.hid hx
  clear hr hx
  go_wp2_with fail
  go_loopw [12] (fun i V => ∃ a : Nat, a ≤ K ∧ i = .int .i64 (a : Nat) ∧ Below w1.heap.size w1 V) (fun i _ => (K - (intOf i)).toNat)
  case atStart => exact ⟨0, by omega, rfl, Below.refl _ _⟩
  case round =>
    obtain ⟨a, ha, rfl, hB⟩ := hrel
    have hBs := hB.size
    have c2 := Lib.hid (cN.out a (by omega))
    have haN : (a : Int) < 16 := by omega
    by_cases haK : a < K
    · have hne := HNE.out a haK
      generalize barrierL (a : Int) = s at c2 hne
      generalize barrierL (K : Int) = t at hne hs ⊢
      go_wp2_with fail
      refine (c2.out _).mono ?_
      rintro e w2 ⟨rfl, hb⟩
      have B2 : Below w1.heap.size w1 w2 := hB.trans (hb.mono hBs)
      clear hb
      go_wp2_with fail
      go_roundw
      case rel => exact ⟨a + 1, by omega, by go_num, B2⟩
      case measure => first | (simp [intOf]; done) | (simp [intOf]; omega)
    · obtain rfl : a = K := by omega
      generalize barrierL (a : Int) = s at c2 hs ⊢
      have heq : (s == s) = true := by simp
      go_wp2_with fail
      refine (c2.out _).mono ?_
      rintro e w2 ⟨rfl, hb⟩
      have B2 : Below w1.heap.size w1 w2 := hB.trans (hb.mono hBs)
      clear hb
      go_wp2_with fail
      go_ret
      exact ⟨rfl, R1.out.ex B2 (Nat.le_refl _), X1.out.trans (Ex.of_below B2)⟩

theorem flush_ne : ∀ a b : Fin 8, a.val < b.val → True → (flushL (a.val : Int) == flushL (b.val : Int)) = false := by decide +kernel
theorem flush_some : ∀ b : Fin 8, True → (!(flushL (b.val : Int)).isEmpty) = true := by decide +kernel
set_option maxHeartbeats 4000000 in
theorem kind_flush (B K : Nat) (hK : K < 8) (hg : True) (ws : List (List UInt8)) (w : World) (h : Rd w B (flushL (K : Int) :: ws)) :
    Calls Try.prog 47 #[(.pointer (some ⟨B, 0, none⟩)), .int .i64 8, .func (.func 33) #[] #[]] w (RetR B (.int .i64 (K : Int)) ws w) := by
  have c1 : Hid (Calls Try.prog 38 #[(.pointer (some ⟨B, 0, none⟩))] w (RetR B (.string ⟨(flushL (K : Int)).toArray⟩) ws w)) := Lib.hid (next_any B _ ws w h)
  have HNE : Hid (∀ a, a < K → (flushL (a : Int) == flushL (K : Int)) = false) := Lib.hid fun a ha => flush_ne ⟨a, by omega⟩ ⟨K, hK⟩ ha hg
  have hs := flush_some ⟨K, hK⟩ hg
  simp only at hs
  have cN : Hid (∀ (a : Nat), a < 8 → ∀ V, Calls Try.prog 33 #[.int .i64 (a : Int)] V (RetB (.string ⟨(flushL (a : Int)).toArray⟩) V)) := Lib.hid fun a ha V => flusht_any (a : Int) (by omega) V
  clear h hg
  go_enter Try.func47, Try.ntmps47
  go_wp2_with fail
  refine c1.out.mono ?_
  rintro e w1 ⟨rfl, hr, hx⟩
  have R1 := Lib.hid hr
  have X1 := Lib.hid hx
  clear hr hx
  go_wp2_with fail
  go_loopw [12] (fun i V => ∃ a : Nat, a ≤ K ∧ i = .int .i64 (a : Nat) ∧ Below w1.heap.size w1 V) (fun i _ => (K - (intOf i)).toNat)
  case atStart => exact ⟨0, by omega, rfl, Below.refl _ _⟩
  case round =>
    obtain ⟨a, ha, rfl, hB⟩ := hrel
    have hBs := hB.size
    have c2 := Lib.hid (cN.out a (by omega))
    have haN : (a : Int) < 8 := by omega
    by_cases haK : a < K
    · have hne := HNE.out a haK
      generalize flushL (a : Int) = s at c2 hne
      generalize flushL (K : Int) = t at hne hs ⊢
      go_wp2_with fail
      refine (c2.out _).mono ?_
      rintro e w2 ⟨rfl, hb⟩
      have B2 : Below w1.heap.size w1 w2 := hB.trans (hb.mono hBs)
      clear hb
      go_wp2_with fail
      go_roundw
      case rel => exact ⟨a + 1, by omega, by go_num, B2⟩
      case measure => first | (simp [intOf]; done) | (simp [intOf]; omega)
    · obtain rfl : a = K := by omega
      generalize flushL (a : Int) = s at c2 hs ⊢
      have heq : (s == s) = true := by simp
      go_wp2_with fail
      refine (c2.out _).mono ?_
      rintro e w2 ⟨rfl, hb⟩
      have B2 : Below w1.heap.size w1 w2 := hB.trans (hb.mono hBs)
      clear hb
      go_wp2_with fail
      go_ret
      exact ⟨rfl, R1.out.ex B2 (Nat.le_refl _), X1.out.trans (Ex.of_below B2)⟩

theorem system_ne : ∀ a b : Fin 3, a.val < b.val → True → (systemL (a.val : Int) == systemL (b.val : Int)) = false := by decide +kernel
theorem system_some : ∀ b : Fin 3, True → (!(systemL (b.val : Int)).isEmpty) = true := by decide +kernel
set_option maxHeartbeats 4000000 in
theorem kind_system (B K : Nat) (hK : K < 3) (hg : True) (ws : List (List UInt8)) (w : World) (h : Rd w B (systemL (K : Int) :: ws)) :
    Calls Try.prog 47 #[(.pointer (some ⟨B, 0, none⟩)), .int .i64 3, .func (.func 34) #[] #[]] w (RetR B (.int .i64 (K : Int)) ws w) := by
  have c1 : Hid (Calls Try.prog 38 #[(.pointer (some ⟨B, 0, none⟩))] w (RetR B (.string ⟨(systemL (K : Int)).toArray⟩) ws w)) := Lib.hid (next_any B _ ws w h)
  have HNE : Hid (∀ a, a < K → (systemL (a : Int) == systemL (K : Int)) = false) := Lib.hid fun a ha => system_ne ⟨a, by omega⟩ ⟨K, hK⟩ ha hg
  have hs := system_some ⟨K, hK⟩ hg
  simp only at hs
  have cN : Hid (∀ (a : Nat), a < 3 → ∀ V, Calls Try.prog 34 #[.int .i64 (a : Int)] V (RetB (.string ⟨(systemL (a : Int)).toArray⟩) V)) := Lib.hid fun a ha V => systemt_any (a : Int) (by omega) V
  clear h hg
  go_enter Try.func47, Try.ntmps47
  go_wp2_with fail
  refine c1.out.mono ?_
  rintro e w1 ⟨rfl, hr, hx⟩
  have R1 := Lib.hid hr
  have X1 := Lib.hid hx
  clear hr hx
  go_wp2_with fail
  go_loopw [12] (fun i V => ∃ a : Nat, a ≤ K ∧ i = .int .i64 (a : Nat) ∧ Below w1.heap.size w1 V) (fun i _ => (K - (intOf i)).toNat)
  case atStart => exact ⟨0, by omega, rfl, Below.refl _ _⟩
  case round =>
    obtain ⟨a, ha, rfl, hB⟩ := hrel
    have hBs := hB.size
    have c2 := Lib.hid (cN.out a (by omega))
    have haN : (a : Int) < 3 := by omega
    by_cases haK : a < K
    · have hne := HNE.out a haK
      generalize systemL (a : Int) = s at c2 hne
      generalize systemL (K : Int) = t at hne hs ⊢
      go_wp2_with fail
      refine (c2.out _).mono ?_
      rintro e w2 ⟨rfl, hb⟩
      have B2 : Below w1.heap.size w1 w2 := hB.trans (hb.mono hBs)
      clear hb
      go_wp2_with fail
      go_roundw
      case rel => exact ⟨a + 1, by omega, by go_num, B2⟩
      case measure => first | (simp [intOf]; done) | (simp [intOf]; omega)
    · obtain rfl : a = K := by omega
      generalize systemL (a : Int) = s at c2 hs ⊢
      have heq : (s == s) = true := by simp
      go_wp2_with fail
      refine (c2.out _).mono ?_
      rintro e w2 ⟨rfl, hb⟩
      have B2 : Below w1.heap.size w1 w2 := hB.trans (hb.mono hBs)
      clear hb
      go_wp2_with fail
      go_ret
      exact ⟨rfl, R1.out.ex B2 (Nat.le_refl _), X1.out.trans (Ex.of_below B2)⟩

end Go.Proofs.Ytdlodacogldinaa
