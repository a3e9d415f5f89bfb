/- Contracts of asm.NumberOf and the reader's reg; field.digit, Parse, the reader's number, count, branch. -/
import Derived.Test.YtdlodacogldinaaRead
import Derived.Test.YtdlodacogldinaaPrinta
namespace Go.Proofs.Ytdlodacogldinaa
open Go.RowKit
set_option linter.unusedSimpArgs false
set_option linter.unusedVariables false

theorem decL_small (n : Nat) (h : n < 100) : decL n = if n < 10 then [digB n] else [digB (n / 10), digB (n % 10)] := by
  rw [decL_eq]
  split
  · rfl
  · rw [decL_eq, if_pos (by omega)]; rfl
def regE (n : Nat) : List UInt8 := if n = 31 then [88, 90, 82] else 88 :: (if n < 10 then [digB n] else [digB (n / 10), digB (n % 10)])
theorem regL_E (n : Nat) (h : n ≤ 31) : regL (n : Int) = regE n := by
  unfold regL regE intL
  rw [if_neg (by omega : ¬ (n : Int) < 0), show ((n : Int)).natAbs = n by omega, decL_small n (by omega)]
  by_cases e : n = 31
  · rw [if_pos (by omega), if_pos e]
  · rw [if_neg (by omega), if_neg e]
theorem regE_ne : ∀ a b : Fin 32, a.val < b.val → (regE b.val == regE a.val) = false := by decide +kernel
theorem regL_ne (k n : Nat) (h : k < n) (hn : n ≤ 31) : (regL (n : Int) == regL (k : Int)) = false := by
  rw [regL_E n hn, regL_E k (by omega)]
  exact regE_ne ⟨k, by omega⟩ ⟨n, by omega⟩ h

set_option maxHeartbeats 2000000 in
theorem numberOf_any (n : Nat) (hn : n ≤ 31) (w : World) : Calls Try.prog 60 #[(.string ⟨(regL (n : Int)).toArray⟩)] w (RetB (.tuple #[.int .i64 (n : Int), .bool true]) w) := by
  have HNE := Lib.hid (fun k h => regL_ne k n h hn)
  have cR : Hid (∀ (k : Nat), k ≤ 31 → ∀ V, Calls Try.prog 13 #[.int .i64 (k : Int)] V (RetB (.string ⟨(regL (k : Int)).toArray⟩) V)) := Lib.hid fun k h V => regt_any (k : Int) V (by omega) (by omega)
  go_enter Try.func60, Try.ntmps60
  go_wp2_with fail
  go_loopw [5] (fun i V => ∃ k : Nat, k ≤ n ∧ i = .int .i64 (k : Nat) ∧ Below w.heap.size w V) (fun i _ => (n - (intOf i)).toNat)
  case atStart => exact ⟨0, by omega, rfl, Below.refl _ _⟩
  case round =>
    obtain ⟨k, hk, rfl, hB⟩ := hrel
    have hBs := hB.size
    have hk32 : (k : Int) < 32 := by omega
    have c1 := Lib.hid (cR.out k (by omega))
    by_cases hkn : k < n
    · have hne := HNE.out k hkn
      generalize regL (k : Int) = a at c1 hne
      generalize regL (n : Int) = b at hne ⊢
      go_wp2_with fail
      refine (c1.out _).mono ?_
      rintro e w1 ⟨rfl, hb⟩
      have B1 : Below w.heap.size w w1 := hB.trans (hb.mono hBs)
      clear hb
      go_wp2_with fail
      go_roundw
      case rel => exact ⟨k + 1, by omega, by go_num, B1⟩
      case measure => first | (simp [intOf]; done) | (simp [intOf]; omega)
    · obtain rfl : k = n := by omega
      generalize regL (k : Int) = a at c1 ⊢
      have heq : (a == a) = true := by simp
      go_wp2_with fail
      refine (c1.out _).mono ?_
      rintro e w1 ⟨rfl, hb⟩
      have B1 : Below w.heap.size w w1 := hB.trans (hb.mono hBs)
      clear hb
      go_wp2_with fail
      go_ret2
      exact ⟨rfl, B1⟩

set_option maxHeartbeats 2000000 in
theorem rreg_any (B : Nat) (n : Int) (h0 : 0 ≤ n) (h1 : n ≤ 31) (ws : List (List UInt8)) (w : World) (h : Rd w B (regL n :: ws)) : Calls Try.prog 43 #[(.pointer (some ⟨B, 0, none⟩))] w (RetR B (.int .i64 n) ws w) := by
  have c1 : Hid (Calls Try.prog 38 #[(.pointer (some ⟨B, 0, none⟩))] w (RetR B (.string ⟨(regL n).toArray⟩) ws w)) := Lib.hid (next_any B _ ws w h)
  have c2 : Hid (∀ V, Calls Try.prog 60 #[(.string ⟨(regL n).toArray⟩)] V (RetB (.tuple #[.int .i64 n, .bool true]) V)) := Lib.hid fun V => by
    have := numberOf_any n.natAbs (by omega) V
    rw [show ((n.natAbs : Nat) : Int) = n by omega] at this
    exact this
  clear h
  go_enter Try.func43, Try.ntmps43
  go_wp2_with fail
  refine c1.out.mono ?_
  rintro e w1 ⟨rfl, hr, hx⟩
  have R1 := Lib.hid hr
  have X1 := Lib.hid hx
  clear hr hx
  go_wp2_with fail
  refine (c2.out _).mono ?_
  rintro e w2 ⟨rfl, hb⟩
  have R2 := Lib.hid (R1.out.ex hb (Nat.le_refl _))
  have X2 := Lib.hid (X1.out.trans (Ex.of_below hb))
  obtain ⟨d1, f1, l1, n1⟩ := R2.out.at
  clear hb
  go_wp2_with fail
  go_ret
  exact ⟨rfl, R2.out.bad, X2.out.setB _⟩

set_option maxHeartbeats 2000000 in
theorem digit_any (k : Nat) (hk : k < 10) (w : World) : Calls Try.prog 73 #[.int .u8 ((48 + k : Nat) : Int)] w (RetB (.int .u64 (k : Int)) w) := by
  rcases (by omega : k = 0 ∨ k = 1 ∨ k = 2 ∨ k = 3 ∨ k = 4 ∨ k = 5 ∨ k = 6 ∨ k = 7 ∨ k = 8 ∨ k = 9) with rfl | rfl | rfl | rfl | rfl | rfl | rfl | rfl | rfl | rfl
  all_goals
    go_enter Try.func73, Try.ntmps73
    go_wp2_with fail
    go_ret
    exact ⟨rfl, by repeat' (first | with_reducible exact Below.refl _ _ | with_reducible assumption | with_reducible apply below_drewN | with_reducible apply Below.drew | with_reducible refine Below.setCell ?_ ?_ _ | with_reducible refine Below.alloc ?_ ?_ _ | omega | (simp; done) | (simp; omega))⟩

/-- The number that digits write. -/
def valL (T : List UInt8) : Nat := T.foldl (fun a b => a * 10 + (b.toNat - 48)) 0
theorem valL_take (T : List UInt8) (j : Nat) (h : j < T.length) : valL (T.take (j + 1)) = valL (T.take j) * 10 + (T[j].toNat - 48) := by
  unfold valL
  rw [List.take_succ_eq_append_getElem h, List.foldl_append]
  rfl
theorem foldl_ge : ∀ (T : List UInt8) (a : Nat), a ≤ T.foldl (fun a b => a * 10 + (b.toNat - 48)) a
  | [], a => Nat.le_refl _
  | b :: T, a => Nat.le_trans (by omega) (foldl_ge T (a * 10 + (b.toNat - 48)))
theorem valL_le (T : List UInt8) (j : Nat) : valL (T.take j) ≤ valL T := by
  unfold valL
  conv => rhs; rw [← List.take_append_drop j T, List.foldl_append]
  exact foldl_ge _ _
theorem valL_snoc (T : List UInt8) (b : UInt8) : valL (T ++ [b]) = valL T * 10 + (b.toNat - 48) := by
  unfold valL
  rw [List.foldl_append]
  rfl
theorem digB_nat {d : Nat} (h : d < 10) : (digB d).toNat = 48 + d := by
  unfold digB
  simp
  omega
/-- Digits, and no 0 ahead. -/
theorem decL_facts (k : Nat) : ∀ n, n < 10 ^ (k + 1) → (∀ b ∈ decL n, ∃ d, d < 10 ∧ b.toNat = 48 + d) ∧ valL (decL n) = n ∧ decL n ≠ [] ∧ (∀ b, 0 < n → (decL n).head? = some b → b.toNat ≠ 48) := by
  have small : ∀ n, n < 10 → (∀ b ∈ decL n, ∃ d, d < 10 ∧ b.toNat = 48 + d) ∧ valL (decL n) = n ∧ decL n ≠ [] ∧ (∀ b, 0 < n → (decL n).head? = some b → b.toNat ≠ 48) := by
    intro n h
    rw [decL_eq, if_pos h]
    refine ⟨fun b hb => ⟨n, h, by rw [List.mem_singleton.1 hb]; exact digB_nat h⟩, ?_, by simp, fun b hn hb => ?_⟩
    · show 0 * 10 + ((digB n).toNat - 48) = n
      rw [digB_nat h]
      omega
    · simp at hb
      subst hb
      rw [digB_nat h]
      omega
  induction k with
  | zero => exact fun n h => small n (by simpa using h)
  | succ k ih =>
    intro n h
    by_cases h10 : n < 10
    · exact small n h10
    · obtain ⟨i1, i2, i3, i4⟩ := ih (n / 10) (by rw [Nat.pow_succ] at h; omega)
      rw [decL_eq, if_neg h10]
      have hd : n % 10 < 10 := by omega
      refine ⟨fun b hb => ?_, ?_, by simp, fun b hn hb => ?_⟩
      · rcases List.mem_append.1 hb with hb | hb
        · exact i1 b hb
        · exact ⟨n % 10, hd, by rw [List.mem_singleton.1 hb]; exact digB_nat hd⟩
      · rw [valL_snoc, i2, digB_nat hd]
        omega
      · refine i4 b (by omega) ?_
        cases hd : decL (n / 10) with
        | nil => exact absurd hd i3
        | cons c l => rw [hd] at hb; exact hb

set_option maxRecDepth 100000 in
set_option maxHeartbeats 8000000 in
theorem parse_any (T : List UInt8) (hT : ∀ b ∈ T, ∃ d, d < 10 ∧ b.toNat = 48 + d) (hne : T ≠ []) (hlen : T.length ≤ 20) (hlead : ∀ b, 1 < T.length → T.head? = some b → b.toNat ≠ 48) (hv : valL T ≤ 1000000000000) (w : World) :
    Calls Try.prog 71 #[(.string ⟨(T).toArray⟩)] w (RetB (.tuple #[.int .u64 (valL T : Nat), .int .i64 0]) w) := by
  have HT := Lib.hid hT
  have hemp : (T == []) = false := by simpa using hne
  have HL : Hid (∀ (j : Nat) (h : j < T.length), ∃ d, d < 10 ∧ T[j].toNat = 48 + d) := Lib.hid fun j h => hT _ (List.getElem_mem h)
  have HVT := Lib.hid (valL_take T)
  have HVL := Lib.hid (valL_le T)
  have HIX := Lib.hid (idx_run T)
  obtain ⟨n, hn⟩ : ∃ n, n = T.length := ⟨_, rfl⟩
  have HN := Lib.hid hn
  have hn0 : 0 < n := by rw [hn]; exact List.length_pos_iff.2 hne
  have h0 := idx_run T 0 (by omega)
  rw [show ((0 : Nat) : Int) = 0 from rfl] at h0
  have hz : 2 < n → ¬ ((T[0]'(by omega)).toNat : Int) = 48 := fun h2 => by
    have := hlead T[0] (by omega) (by rw [List.head?_eq_getElem?, List.getElem?_eq_getElem (by omega)])
    omega
  generalize (T[0]'(by omega)).toNat = z0 at h0 hz
  have hlenr : ∀ w, (Builtin.len_ #[9] 3 #[(.string ⟨(T).toArray⟩)]).run Try.prog w = .ok (.int .i64 (n : Int)) w := fun w => by
    rw [run_len_string w 9 3 _ Try.underlying9]
    have e : (⟨T.toArray⟩ : ByteArray).size = n := by rw [HN.out]; show T.toArray.size = _; simp
    rw [e]
    rfl
  rw [← hn] at hlen
  clear hT hne hlead hn
  have hcase : (¬ (2 : Int) < (n : Int)) ∨ ((2 : Int) < (n : Int) ∧ ¬ (z0 : Int) = 48) := by
    by_cases h2 : 2 < n
    · exact .inr ⟨by omega, hz h2⟩
    · exact .inl (by omega)
  clear hz
  rcases hcase with h2 | ⟨h2, h48⟩
  all_goals
    go_enter Try.func71, Try.ntmps71
    go_wp2_with fail
    go_loopw [28] (fun i V => ∃ j : Nat, j ≤ n ∧ i = .int .i64 (j : Nat) ∧ Below w.heap.size w V) (fun i _ => (n - (intOf i)).toNat)
    case atStart => exact ⟨0, by omega, rfl, Below.refl _ _⟩
    case round =>
      obtain ⟨j, hj, rfl, hB⟩ := hrel
      have hBs := hB.size
      by_cases hjn : j < n
      · have hjl : j < T.length := by rw [← HN.out]; exact hjn
        have hidx := HIX.out j hjl
        obtain ⟨d, hd, he⟩ := HL.out j hjl
        rw [he] at hidx
        have cD : Hid (∀ V, Calls Try.prog 73 #[.int .u8 ((48 + d : Nat) : Int)] V (RetB (.int .u64 (d : Int)) V)) := Lib.hid fun V => digit_any d hd V
        have hdi : ¬ (10 : Int) ≤ (d : Int) := by omega
        generalize ((48 + d : Nat) : Int) = z at hidx cD
        clear he hjl
        go_wp2_with fail
        refine (cD.out _).mono ?_
        rintro e w1 ⟨rfl, hb⟩
        have B1 : Below w.heap.size w w1 := hB.trans (hb.mono hBs)
        clear hb
        go_wp2_with fail
        go_roundw
        case rel => exact ⟨j + 1, by omega, by go_num, B1⟩
        case measure => first | (simp [intOf]; done) | (simp [intOf]; omega)
      · obtain rfl : j = n := by omega
        generalize wr = V0 at hB hBs ⊢
        go_wp2_with fail
        go_loopw [6, 40] (fun v i V => ∃ a : Nat, a ≤ j ∧ i = .int .i64 (a : Nat) ∧ v = .int .u64 (valL (T.take a) : Nat) ∧ Below w.heap.size w V) (fun _ i _ => (j - (intOf i)).toNat)
        case atStart => exact ⟨0, by omega, rfl, rfl, hB⟩
        case round =>
          obtain ⟨a, ha, rfl, rfl, hC⟩ := hrel
          have hCs := hC.size
          by_cases haj : a < j
          · have hal : a < T.length := by rw [← HN.out]; exact haj
            have hidx := HIX.out a hal
            obtain ⟨d, hd, he⟩ := HL.out a hal
            have HST := Lib.hid (HVT.out a hal)
            rw [he] at hidx HST
            have cD : Hid (∀ V, Calls Try.prog 73 #[.int .u8 ((48 + d : Nat) : Int)] V (RetB (.int .u64 (d : Int)) V)) := Lib.hid fun V => digit_any d hd V
            have hvl := HVL.out a
            generalize ((48 + d : Nat) : Int) = z at hidx cD
            generalize valL (T.take a) = v at HST hvl
            have hv1 : v ≤ 1000000000000 := by omega
            clear he hal
            rcases (by omega : d = 0 ∨ d = 1 ∨ d = 2 ∨ d = 3 ∨ d = 4 ∨ d = 5 ∨ d = 6 ∨ d = 7 ∨ d = 8 ∨ d = 9) with rfl | rfl | rfl | rfl | rfl | rfl | rfl | rfl | rfl | rfl
            all_goals
              have hb1 : ¬ (1844674407370955161 : Int) < (v : Int) := by omega
              have hb2 : ¬ (1844674407370955160 : Int) < (v : Int) := by omega
              go_wp2_with fail
              refine (cD.out _).mono ?_
              rintro e w1 ⟨rfl, hb⟩
              have B1 : Below w.heap.size w w1 := hC.trans (hb.mono hCs)
              clear hb
              go_wp2_with fail
              go_roundw
              case rel => exact ⟨a + 1, by omega, by go_num, by rw [HST.out]; go_num, B1⟩
              case measure => first | (simp [intOf]; done) | (simp [intOf]; omega)
          · obtain rfl : a = j := by omega
            have HF : Hid (valL (T.take a) = valL T) := Lib.hid (by rw [HN.out, List.take_length])
            generalize valL (T.take a) = v at HF ⊢
            go_wp2_with fail
            go_ret2
            exact ⟨by rw [← HF.out]; rfl, hC⟩

end Go.Proofs.Ytdlodacogldinaa
