/- Contract of asm.Words. -/
import Derived.Test.YtdlodacogldinaaSplit
import Derived.Test.YtdlodacogldinaaLibs
import Derived.Test.YtdlodacogldinaaTwo
import Derived.Test.YtdlodacogldinaaOwn
namespace Go.Proofs.Ytdlodacogldinaa
open Go.RowKit
set_option linter.unusedSimpArgs false
set_option linter.unusedVariables false

def strV (t : List UInt8) : Value := (.string ⟨(t).toArray⟩)
def strsV (L : List (List UInt8)) : List Value := L.map strV
theorem strsV_snoc (L : List (List UInt8)) (t : List UInt8) : strsV (L ++ [t]) = strsV L ++ [(.string ⟨(t).toArray⟩)] := by simp [strsV, strV]
theorem strsV_len (L : List (List UInt8)) : (strsV L).length = L.length := by simp [strsV]
theorem infoS : (Try.prog.info? 9).map (fun i => (i.zero, i.size, i.bytes)) = some (some (.string ⟨#[]⟩), 1, 16) := by kernel_rfl
theorem new_one (W : World) (v : Value) (t : TypeId) : ∀ ad, some (⟨W.heap.size, 0, none⟩ : Addr) = some ad → ∀ (j : Nat) u, [v][j]? = some u → (W.alloc (.cells #[v] t)).cell? (ad.add j) = some u := by
  intro ad e j u hj
  cases e
  match j, hj with
  | 0, hj =>
    simp at hj
    subst hj
    exact (block_cells (heap_new W (.cells #[v] t) W.heap.size rfl)).1 0 _ rfl

theorem idx_run (T : List UInt8) (j : Nat) (hj : j < T.length) (w : World) : (Instr.index 9 (.string ⟨(T).toArray⟩) (.int .i64 (j : Int))).run Try.prog w = .ok (.int .u8 (T[j].toNat : Int)) w := by
  rw [run_index_string w 9 _ .i64 (j : Int) Try.underlying9, dif_pos ⟨by omega, by show (j : Int) < (T.toArray.size : Int); simp; exact hj⟩]
  have : ((⟨T.toArray⟩ : ByteArray)[(j : Int).toNat]'(by show (j : Int).toNat < T.toArray.size; simp; exact hj)) = T[j] := by
    show T.toArray[(j : Int).toNat]'_ = T[j]
    simp
  rw [this]
theorem slice_run (T : List UInt8) (i j : Nat) (h1 : i ≤ j) (h2 : j ≤ T.length) (w : World) : (Instr.slice 9 (.string ⟨(T).toArray⟩) (some (.int .i64 (i : Int))) (some (.int .i64 (j : Int))) none).run Try.prog w = .ok (.string ⟨((T.drop i).take (j - i)).toArray⟩) w := by
  have := run_slice_string (P := Try.prog) w 9 ⟨T.toArray⟩ .i64 .i64 (i : Int) (j : Int) Try.underlying9 (by omega) (by omega) (by show (j : Int) ≤ (T.toArray.size : Int); simp; exact h2)
  rw [this, ByteArray.extract_mk]
  rfl
theorem slice_run_l (T : List UInt8) (i : Nat) (h1 : i ≤ T.length) (w : World) : (Instr.slice 9 (.string ⟨(T).toArray⟩) (some (.int .i64 (i : Int))) none none).run Try.prog w = .ok (.string ⟨(T.drop i).toArray⟩) w := by
  have := run_slice_string_l (P := Try.prog) w 9 ⟨T.toArray⟩ Try.underlying9 .i64 (i : Int) (by omega) (by show (i : Int) ≤ (T.toArray.size : Int); simp; exact h1)
  rw [this, ByteArray.extract_mk]
  have e : (⟨T.toArray⟩ : ByteArray).size = T.length := by show T.toArray.size = _; simp
  rw [e, show ((i : Int)).toNat = i from rfl, List.take_of_length_le (by simp)]

def RetStrs (L : List (List UInt8)) (w : World) (e : Ending) (w' : World) : Prop := ∃ ao cap, e = .returned (.slice ao L.length cap) ∧ w'.ownsRow w.heap.size 9 1 (.slice ao L.length cap) L.length (strsV L) ∧ Below w.heap.size w w'

set_option maxRecDepth 100000 in
set_option maxHeartbeats 8000000 in
theorem words_any (T : List UInt8) (hT : T.length ≤ 1000) (hascii : ∀ b ∈ T, b.toNat < 128) (w : World) : Calls Try.prog 21 #[(.string ⟨(T).toArray⟩)] w (RetStrs (wordsL T) w) := by
  obtain ⟨i0, hi0, hz0, hz1, hz2⟩ := info_parts infoS
  have HA := Lib.hid hascii
  obtain ⟨n, hn⟩ : ∃ n, n = T.length := ⟨_, rfl⟩
  have HN := Lib.hid hn
  rw [← hn] at hT
  clear hn hascii
  have hlen : ∀ w, (Builtin.len_ #[9] 3 #[(.string ⟨(T).toArray⟩)]).run Try.prog w = .ok (.int .i64 (n : Int)) w := fun w => by
    rw [run_len_string w 9 3 _ Try.underlying9]
    have e : (⟨T.toArray⟩ : ByteArray).size = n := by rw [HN.out]; show T.toArray.size = _; simp
    rw [e]
    rfl
  go_enter Try.func21, Try.ntmps21
  go_wp2_with fail
  go_loopw [3, 4] (fun o i V => ∃ (j : Nat) (M : List (List UInt8)), i = .int .i64 (j : Nat) ∧ j ≤ n ∧ wordsL T = M ++ wordsL (T.drop j) ∧ V.ownsRow w.heap.size 9 1 o M.length (strsV M) ∧ M.length ≤ j ∧ Below w.heap.size w V) (fun _ i _ => (n - (intOf i)).toNat)
  case atStart => exact ⟨0, [], rfl, by omega, by simp, World.ownsRow_nil _ _ _ _, by simp, Below.refl _ _⟩
  case round =>
    obtain ⟨j, M, rfl, hj, hw, hown, hM, hB⟩ := hrel
    obtain ⟨ao, cp, rfl⟩ := ownsRow_form hown
    have HO := Lib.hid hown
    have HW := Lib.hid hw
    have hBs := hB.size
    clear hown hw
    by_cases hjn : j < n
    · have hjl : j < T.length := by rw [← HN.out]; exact hjn
      have hidx := idx_run T j hjl
      have HSL := Lib.hid (slice_run T j (j + 1) (by omega) (by omega))
      have hc1 : (T.drop j).take (j + 1 - j) = [T[j]] := by rw [show j + 1 - j = 1 by omega, List.drop_eq_getElem_cons hjl]; rfl
      rw [hc1] at HSL
      have HB := Lib.hid (words_drop_blank hjl)
      have HG := Lib.hid (words_drop_sign hjl)
      have HD := Lib.hid (words_drop_word hjl)
      generalize T[j]'hjl = c at hidx HSL HB HG HD
      clear hc1
      by_cases k1 : c = 32
      · subst k1
        have HW2 := Lib.hid (HB.out rfl)
        clear HB HG HD HSL
        go_wp2_with fail
        go_roundw
        case rel => exact ⟨j + 1, M, by go_num, by omega, by rw [← HW2.out]; exact HW.out, HO.out, by omega, hB⟩
        case measure => first | (simp [intOf]; done) | (simp [intOf]; omega)
      by_cases k2 : c = 9
      · subst k2
        have HW2 := Lib.hid (HB.out rfl)
        clear HB HG HD HSL
        go_wp2_with fail
        go_roundw
        case rel => exact ⟨j + 1, M, by go_num, by omega, by rw [← HW2.out]; exact HW.out, HO.out, by omega, hB⟩
        case measure => first | (simp [intOf]; done) | (simp [intOf]; omega)
      by_cases k3 : c = 44
      · subst k3
        have HW2 := Lib.hid (HG.out rfl rfl)
        have hs := HSL.out
        rw [show ((j + 1 : Nat) : Int) = (j : Int) + 1 from rfl] at hs
        clear HB HG HD HSL
        go_wp2_with (at_builtin; (refine wpList_append_gen rfl (.tmp 22) (.tmp 28) 46 rfl w.heap.size 9 i0 (.string ⟨#[]⟩) 1 16 Try.underlying46 hi0 hz0 hz1 hz2 rfl (by decide) _ M.length (strsV M) rfl (HO.out.alloc _) (some ⟨wr.heap.size, 0, none⟩) 1 1 [(.string ⟨([44]).toArray⟩)] rfl (fun h => by cases h) rfl (new_one wr _ _) (by simp [Value.oneCell']) (by unfold maxLen; omega) (by omega) (by simp; omega) ?_); intro a2 c2 w2 ho hg2 _; (have B2 : Below w.heap.size w w2 := hB.trans (((Below.refl _ wr).alloc (by omega) _).grown hg2 (by simp; omega) (fun k hk => (HO.out.lt k hk).1))); have G2 := Lib.hid ho; clear ho hg2)
        go_roundw
        case rel => exact ⟨j + 1, M ++ [[44]], by go_num, by omega, by rw [HW.out, HW2.out]; simp, by rw [List.length_append, strsV_snoc]; exact G2.out, by simp; omega, B2⟩
        case measure => first | (simp [intOf]; done) | (simp [intOf]; omega)
      by_cases k4 : c = 91
      · subst k4
        have HW2 := Lib.hid (HG.out rfl rfl)
        have hs := HSL.out
        rw [show ((j + 1 : Nat) : Int) = (j : Int) + 1 from rfl] at hs
        clear HB HG HD HSL
        go_wp2_with (at_builtin; (refine wpList_append_gen rfl (.tmp 22) (.tmp 28) 46 rfl w.heap.size 9 i0 (.string ⟨#[]⟩) 1 16 Try.underlying46 hi0 hz0 hz1 hz2 rfl (by decide) _ M.length (strsV M) rfl (HO.out.alloc _) (some ⟨wr.heap.size, 0, none⟩) 1 1 [(.string ⟨([91]).toArray⟩)] rfl (fun h => by cases h) rfl (new_one wr _ _) (by simp [Value.oneCell']) (by unfold maxLen; omega) (by omega) (by simp; omega) ?_); intro a2 c2 w2 ho hg2 _; (have B2 : Below w.heap.size w w2 := hB.trans (((Below.refl _ wr).alloc (by omega) _).grown hg2 (by simp; omega) (fun k hk => (HO.out.lt k hk).1))); have G2 := Lib.hid ho; clear ho hg2)
        go_roundw
        case rel => exact ⟨j + 1, M ++ [[91]], by go_num, by omega, by rw [HW.out, HW2.out]; simp, by rw [List.length_append, strsV_snoc]; exact G2.out, by simp; omega, B2⟩
        case measure => first | (simp [intOf]; done) | (simp [intOf]; omega)
      by_cases k5 : c = 93
      · subst k5
        have HW2 := Lib.hid (HG.out rfl rfl)
        have hs := HSL.out
        rw [show ((j + 1 : Nat) : Int) = (j : Int) + 1 from rfl] at hs
        clear HB HG HD HSL
        go_wp2_with (at_builtin; (refine wpList_append_gen rfl (.tmp 22) (.tmp 28) 46 rfl w.heap.size 9 i0 (.string ⟨#[]⟩) 1 16 Try.underlying46 hi0 hz0 hz1 hz2 rfl (by decide) _ M.length (strsV M) rfl (HO.out.alloc _) (some ⟨wr.heap.size, 0, none⟩) 1 1 [(.string ⟨([93]).toArray⟩)] rfl (fun h => by cases h) rfl (new_one wr _ _) (by simp [Value.oneCell']) (by unfold maxLen; omega) (by omega) (by simp; omega) ?_); intro a2 c2 w2 ho hg2 _; (have B2 : Below w.heap.size w w2 := hB.trans (((Below.refl _ wr).alloc (by omega) _).grown hg2 (by simp; omega) (fun k hk => (HO.out.lt k hk).1))); have G2 := Lib.hid ho; clear ho hg2)
        go_roundw
        case rel => exact ⟨j + 1, M ++ [[93]], by go_num, by omega, by rw [HW.out, HW2.out]; simp, by rw [List.length_append, strsV_snoc]; exact G2.out, by simp; omega, B2⟩
        case measure => first | (simp [intOf]; done) | (simp [intOf]; omega)
      have hsep : sepC c = false := by
        unfold sepC
        simp [k1, k2, k3, k4, k5]
      obtain ⟨m, hm0, hm1, hm2, hm3⟩ := HD.out hsep
      have hcn1 : ¬ (c.toNat : Int) = 32 := fun h => k1 (UInt8.toNat_inj.1 (by show c.toNat = 32; omega))
      have hcn2 : ¬ (c.toNat : Int) = 9 := fun h => k2 (UInt8.toNat_inj.1 (by show c.toNat = 9; omega))
      have hcn3 : ¬ (c.toNat : Int) = 44 := fun h => k3 (UInt8.toNat_inj.1 (by show c.toNat = 44; omega))
      have hcn4 : ¬ (c.toNat : Int) = 91 := fun h => k4 (UInt8.toNat_inj.1 (by show c.toNat = 91; omega))
      have hcn5 : ¬ (c.toNat : Int) = 93 := fun h => k5 (UInt8.toNat_inj.1 (by show c.toNat = 93; omega))
      have hs1 := slice_run_l T j (by omega)
      have hs2 := slice_run T j (j + m) (by omega) hm1
      rw [show j + m - j = m by omega, show ((j + m : Nat) : Int) = (j : Int) + (m : Int) by omega] at hs2
      have cI : Hid (∀ V, Calls Try.prog 37 #[(.string ⟨(T.drop j).toArray⟩), .string ⟨#[32, 9, 44, 91, 93]⟩] V (RetB (.int .i64 (Lib.indexAny (T.drop j) [32, 9, 44, 91, 93])) V)) := Lib.hid fun V => by
        have := lib_strings_IndexAny_laid ⟨(T.drop j).toArray⟩ ⟨#[32, 9, 44, 91, 93]⟩ V (by show (T.drop j).toArray.size < 4294967281; simp; have := HN.out; omega) (by decide) (fun i b hb => HA.out b (List.mem_of_mem_drop (List.mem_of_getElem? (by simpa using hb)))) (fun i b hb => by
          have hmem : b ∈ [(32 : UInt8), 9, 44, 91, 93] := List.mem_of_getElem? hb
          simp at hmem
          rcases hmem with rfl | rfl | rfl | rfl | rfl <;> decide)
        exact this
      have HW2 := Lib.hid hm2
      generalize Lib.indexAny (T.drop j) [32, 9, 44, 91, 93] = r at cI hm3
      generalize c.toNat = z at hidx hcn1 hcn2 hcn3 hcn4 hcn5
      clear HB HG HD HSL hm2 hsep k1 k2 k3 k4 k5
      have hjm : j + m ≤ n := by have := HN.out; omega
      have hmn : T.length - j = n - j := by have := HN.out; omega
      rw [hmn] at hm3
      clear hmn hjl hm1
      rcases hm3 with rfl | ⟨rfl, hm⟩
      · have hr0 : ¬ (m : Int) < 0 := by omega
        go_wp2_with fail
        refine (cI.out _).mono ?_
        rintro e w3 ⟨rfl, hb⟩
        have B3 : Below w.heap.size w w3 := hB.trans (hb.mono hBs)
        have B3s := B3.size
        have HO3 := Lib.hid (ownsRow_below HO.out hb)
        clear hb
        go_wp2_with (at_builtin; (refine wpList_append_gen rfl (.tmp 42) (.tmp 49) 46 rfl w.heap.size 9 i0 (.string ⟨#[]⟩) 1 16 Try.underlying46 hi0 hz0 hz1 hz2 rfl (by decide) _ M.length (strsV M) rfl (HO3.out.alloc _) (some ⟨w3.heap.size, 0, none⟩) 1 1 [(.string ⟨((T.drop j).take m).toArray⟩)] rfl (fun h => by cases h) rfl (new_one w3 _ _) (by simp [Value.oneCell']) (by unfold maxLen; omega) (by omega) (by simp; omega) ?_); intro a2 c2 w2 ho hg2 _; (have B2 : Below w.heap.size w w2 := B3.trans (((Below.refl _ w3).alloc (by omega) _).grown hg2 (by simp; omega) (fun k hk => (HO3.out.lt k hk).1))); have G2 := Lib.hid ho; clear ho hg2)
        go_roundw
        case rel => exact ⟨j + m, M ++ [(T.drop j).take m], by go_num, by omega, by rw [HW.out, HW2.out]; simp, by rw [List.length_append, strsV_snoc]; exact G2.out, by simp; omega, B2⟩
        case measure => first | (simp [intOf]; done) | (simp [intOf]; omega)
      · have hmi : (n : Int) - (j : Int) = (m : Int) := by omega
        clear hm
        go_wp2_with fail
        refine (cI.out _).mono ?_
        rintro e w3 ⟨rfl, hb⟩
        have B3 : Below w.heap.size w w3 := hB.trans (hb.mono hBs)
        have B3s := B3.size
        have HO3 := Lib.hid (ownsRow_below HO.out hb)
        clear hb
        go_wp2_with (at_builtin; (refine wpList_append_gen rfl (.tmp 42) (.tmp 49) 46 rfl w.heap.size 9 i0 (.string ⟨#[]⟩) 1 16 Try.underlying46 hi0 hz0 hz1 hz2 rfl (by decide) _ M.length (strsV M) rfl (HO3.out.alloc _) (some ⟨w3.heap.size, 0, none⟩) 1 1 [(.string ⟨((T.drop j).take m).toArray⟩)] rfl (fun h => by cases h) rfl (new_one w3 _ _) (by simp [Value.oneCell']) (by unfold maxLen; omega) (by omega) (by simp; omega) ?_); intro a2 c2 w2 ho hg2 _; (have B2 : Below w.heap.size w w2 := B3.trans (((Below.refl _ w3).alloc (by omega) _).grown hg2 (by simp; omega) (fun k hk => (HO3.out.lt k hk).1))); have G2 := Lib.hid ho; clear ho hg2)
        go_roundw
        case rel => exact ⟨j + m, M ++ [(T.drop j).take m], by go_num, by omega, by rw [HW.out, HW2.out]; simp, by rw [List.length_append, strsV_snoc]; exact G2.out, by simp; omega, B2⟩
        case measure => first | (simp [intOf]; done) | (simp [intOf]; omega)
    · obtain rfl : j = n := by omega
      have HE : Hid (wordsL T = M) := Lib.hid (by
        have := HW.out
        rw [HN.out, List.drop_length, wordsL_nil, List.append_nil] at this
        exact this)
      go_wp2_with fail
      go_ret
      rw [HE.out]
      exact ⟨_, _, rfl, HO.out, hB⟩

end Go.Proofs.Ytdlodacogldinaa
