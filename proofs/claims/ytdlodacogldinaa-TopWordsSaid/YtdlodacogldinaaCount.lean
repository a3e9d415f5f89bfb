/- Contracts of the reader's number, count, branch, kind. -/
import Derived.Test.YtdlodacogldinaaNumb
namespace Go.Proofs.Ytdlodacogldinaa
open Go.RowKit
set_option linter.unusedSimpArgs false
set_option linter.unusedVariables false

theorem cut_yes (p t : List UInt8) (w : World) : Calls Try.prog 61 #[(.string ⟨(p ++ t).toArray⟩), (.string ⟨(p).toArray⟩)] w (RetB (.tuple #[(.string ⟨(t).toArray⟩), .bool true]) w) := by
  have h := lib_strings_CutPrefix ⟨(p ++ t).toArray⟩ ⟨p.toArray⟩ w
  have hp : Lib.hasPrefix (p ++ t) p = true := by
    unfold Lib.hasPrefix
    exact List.isPrefixOf_iff_prefix.2 (List.prefix_append p t)
  have ht : Lib.trimPrefix (p ++ t) p = t := by
    unfold Lib.trimPrefix
    rw [if_pos hp, List.drop_left]
  refine h.mono ?_
  rintro e w' ⟨rfl, rfl⟩
  refine ⟨?_, Below.refl _ _⟩
  show Ending.returned (.tuple #[.string ⟨(Lib.trimPrefix (p ++ t).toArray.toList p.toArray.toList).toArray⟩, .bool (Lib.hasPrefix (p ++ t).toArray.toList p.toArray.toList)]) = _
  rw [List.toList_toArray, List.toList_toArray, ht, hp]
theorem cut_no (p s : List UInt8) (hp : Lib.hasPrefix s p = false) (w : World) : Calls Try.prog 61 #[(.string ⟨(s).toArray⟩), (.string ⟨(p).toArray⟩)] w (RetB (.tuple #[(.string ⟨(s).toArray⟩), .bool false]) w) := by
  have h := lib_strings_CutPrefix ⟨s.toArray⟩ ⟨p.toArray⟩ w
  have ht : Lib.trimPrefix s p = s := by
    unfold Lib.trimPrefix
    rw [if_neg (by rw [hp]; decide)]
  refine h.mono ?_
  rintro e w' ⟨rfl, rfl⟩
  refine ⟨?_, Below.refl _ _⟩
  show Ending.returned (.tuple #[.string ⟨(Lib.trimPrefix s.toArray.toList p.toArray.toList).toArray⟩, .bool (Lib.hasPrefix s.toArray.toList p.toArray.toList)]) = _
  rw [List.toList_toArray, List.toList_toArray, ht, hp]

set_option maxHeartbeats 2000000 in
theorem rnumber_any (B k : Nat) (hk : k ≤ 1000000000) (ws : List (List UInt8)) (w : World) (h : Rd w B ws) : Calls Try.prog 62 #[(.pointer (some ⟨B, 0, none⟩)), (.string ⟨(decL k).toArray⟩)] w (RetR B (.int .i64 (k : Int)) ws w) := by
  have HR := Lib.hid h
  obtain ⟨f1, f2, f3, f4⟩ := decL_facts 11 k (by omega)
  have hl := decL_len 11 k (by omega)
  have c1 : Hid (∀ V, Calls Try.prog 71 #[(.string ⟨(decL k).toArray⟩)] V (RetB (.tuple #[.int .u64 (k : Int), .int .i64 0]) V)) := Lib.hid fun V => by
    have := parse_any (decL k) f1 f3 (by omega) (fun b h1 hb => f4 b (by
      rcases Nat.eq_zero_or_pos k with rfl | hp
      · rw [decL_eq, if_pos (by decide)] at h1
        simp at h1
      · exact hp) hb) (by omega) V
    rw [f2] at this
    exact this
  have hk2 : ¬ (1099511627776 : Int) < (k : Int) := by omega
  clear f1 f2 f3 f4 hl h
  generalize decL k = T at c1 ⊢
  go_enter Try.func62, Try.ntmps62
  go_wp2_with fail
  refine (c1.out _).mono ?_
  rintro e w1 ⟨rfl, hb⟩
  have R1 := Lib.hid (HR.out.ex hb (Nat.le_refl _))
  have X1 := Lib.hid (Ex.of_below (B := B) hb)
  clear hb
  go_wp2_with fail
  go_ret
  exact ⟨by go_num, R1.out, X1.out⟩

set_option maxHeartbeats 2000000 in
theorem count_any (B k : Nat) (hk : k ≤ 1000000000) (ws : List (List UInt8)) (w : World) (h : Rd w B ((35 :: decL k) :: ws)) : Calls Try.prog 57 #[(.pointer (some ⟨B, 0, none⟩))] w (RetR B (.int .i64 (k : Int)) ws w) := by
  have c1 : Hid (Calls Try.prog 38 #[(.pointer (some ⟨B, 0, none⟩))] w (RetR B (.string ⟨(35 :: decL k).toArray⟩) ws w)) := Lib.hid (next_any B _ ws w h)
  have c2 : Hid (∀ V, Calls Try.prog 61 #[(.string ⟨(35 :: decL k).toArray⟩), .string ⟨#[35]⟩] V (RetB (.tuple #[(.string ⟨(decL k).toArray⟩), .bool true]) V)) := Lib.hid fun V => cut_yes [35] (decL k) V
  have c3 : Hid (∀ V, Rd V B ws → Calls Try.prog 62 #[(.pointer (some ⟨B, 0, none⟩)), (.string ⟨(decL k).toArray⟩)] V (RetR B (.int .i64 (k : Int)) ws V)) := Lib.hid fun V h => rnumber_any B k hk ws V h
  clear h
  generalize decL k = T at c1 c2 c3
  go_enter Try.func57, Try.ntmps57
  go_wp2_with fail
  refine c1.out.mono ?_
  rintro e w1 ⟨rfl, hr, hx⟩
  have R1 := Lib.hid hr
  have X1 := Lib.hid hx
  clear hr hx
  go_wp2_with fail
  refine (c2.out _).mono ?_
  rintro e w2 ⟨rfl, hb⟩
  have R2 := Lib.hid (R1.out.ex hb (Nat.le_refl _))
  have X2 := Lib.hid (X1.out.trans (Ex.of_below hb))
  obtain ⟨d1, f1, l1, n1⟩ := R2.out.at
  clear hb
  go_wp2_with fail
  refine (c3.out _ R2.out.bad).mono ?_
  rintro e w3 ⟨rfl, hr, hx⟩
  have R3 := Lib.hid hr
  have X3 := Lib.hid ((X2.out.setB (o := 1) (.bool false)).trans hx)
  clear hr hx
  go_wp2_with fail
  go_ret
  exact ⟨rfl, R3.out, X3.out⟩

set_option maxHeartbeats 2000000 in
theorem branch_any (B : Nat) (i : Int) (h0 : -1000000000 ≤ i) (h1 : i ≤ 1000000000) (ws : List (List UInt8)) (w : World) (h : Rd w B (targetL i :: ws)) : Calls Try.prog 45 #[(.pointer (some ⟨B, 0, none⟩))] w (RetR B (.int .i64 i) ws w) := by
  obtain ⟨k, hk⟩ : ∃ k, k = i.natAbs := ⟨_, rfl⟩
  have c1 : Hid (Calls Try.prog 38 #[(.pointer (some ⟨B, 0, none⟩))] w (RetR B (.string ⟨(targetL i).toArray⟩) ws w)) := Lib.hid (next_any B _ ws w h)
  have c3 : Hid (∀ V, Rd V B ws → Calls Try.prog 62 #[(.pointer (some ⟨B, 0, none⟩)), (.string ⟨(decL k).toArray⟩)] V (RetR B (.int .i64 (k : Int)) ws V)) := Lib.hid fun V h => rnumber_any B k (by omega) ws V h
  clear h
  by_cases hi : i < 0
  · have ht : targetL i = 46 :: 45 :: decL k := by unfold targetL intL; rw [if_pos hi, if_pos hi, ← hk]
    have HK : Hid (-(k : Int) = i) := Lib.hid (by omega)
    have hkb : k ≤ 1000000000 := by omega
    rw [ht] at c1
    have c2 : Hid (∀ V, Calls Try.prog 61 #[(.string ⟨(46 :: 45 :: decL k).toArray⟩), .string ⟨#[46, 43]⟩] V (RetB (.tuple #[(.string ⟨(46 :: 45 :: decL k).toArray⟩), .bool false]) V)) := Lib.hid fun V => cut_no [46, 43] (46 :: 45 :: decL k) (by simp [Lib.hasPrefix, List.isPrefixOf]) V
    have c4 : Hid (∀ V, Calls Try.prog 61 #[(.string ⟨(46 :: 45 :: decL k).toArray⟩), .string ⟨#[46, 45]⟩] V (RetB (.tuple #[(.string ⟨(decL k).toArray⟩), .bool true]) V)) := Lib.hid fun V => cut_yes [46, 45] (decL k) V
    clear ht hk hi h0 h1
    generalize decL k = T at c1 c2 c3 c4
    go_enter Try.func45, Try.ntmps45
    go_wp2_with fail
    refine c1.out.mono ?_
    rintro e w1 ⟨rfl, hr, hx⟩
    have R1 := Lib.hid hr
    have X1 := Lib.hid hx
    clear hr hx
    go_wp2_with fail
    refine (c2.out _).mono ?_
    rintro e w2 ⟨rfl, hb⟩
    have R2 := Lib.hid (R1.out.ex hb (Nat.le_refl _))
    have X2 := Lib.hid (X1.out.trans (Ex.of_below hb))
    clear hb
    go_wp2_with fail
    refine (c4.out _).mono ?_
    rintro e w3 ⟨rfl, hb⟩
    have R3 := Lib.hid (R2.out.ex hb (Nat.le_refl _))
    have X3 := Lib.hid (X2.out.trans (Ex.of_below hb))
    obtain ⟨d1, f1, l1, n1⟩ := R3.out.at
    clear hb
    go_wp2_with fail
    refine (c3.out _ R3.out.bad).mono ?_
    rintro e w4 ⟨rfl, hr, hx⟩
    have R4 := Lib.hid hr
    have X4 := Lib.hid ((X3.out.setB (o := 1) (.bool false)).trans hx)
    clear hr hx
    go_wp2_with fail
    go_ret
    exact ⟨by rw [← HK.out]; go_num, R4.out, X4.out⟩
  · have ht : targetL i = 46 :: 43 :: decL k := by unfold targetL intL; rw [if_neg hi, if_neg hi, ← hk]; rfl
    have HK : Hid ((k : Int) = i) := Lib.hid (by omega)
    rw [ht] at c1
    have c2 : Hid (∀ V, Calls Try.prog 61 #[(.string ⟨(46 :: 43 :: decL k).toArray⟩), .string ⟨#[46, 43]⟩] V (RetB (.tuple #[(.string ⟨(decL k).toArray⟩), .bool true]) V)) := Lib.hid fun V => cut_yes [46, 43] (decL k) V
    clear ht hk hi h0 h1
    generalize decL k = T at c1 c2 c3
    go_enter Try.func45, Try.ntmps45
    go_wp2_with fail
    refine c1.out.mono ?_
    rintro e w1 ⟨rfl, hr, hx⟩
    have R1 := Lib.hid hr
    have X1 := Lib.hid hx
    clear hr hx
    go_wp2_with fail
    refine (c2.out _).mono ?_
    rintro e w2 ⟨rfl, hb⟩
    have R2 := Lib.hid (R1.out.ex hb (Nat.le_refl _))
    have X2 := Lib.hid (X1.out.trans (Ex.of_below hb))
    clear hb
    go_wp2_with fail
    refine (c3.out _ R2.out).mono ?_
    rintro e w4 ⟨rfl, hr, hx⟩
    have R4 := Lib.hid hr
    have X4 := Lib.hid (X2.out.trans hx)
    clear hr hx
    go_wp2_with fail
    go_ret
    exact ⟨by rw [← HK.out]; rfl, R4.out, X4.out⟩

end Go.Proofs.Ytdlodacogldinaa
