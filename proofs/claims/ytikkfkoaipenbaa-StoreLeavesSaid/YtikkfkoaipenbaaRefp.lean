/- The reference's Without, With, Sorted. -/
import Derived.Test.YtikkfkoaipenbaaRefc
import Derived.Test.YtikkfkoaipenbaaRecp
import Derived.Deep.RegionHeld3
import Derived.BigQuiet
import Derived.Deep.QuietTactic
namespace Go.Proofs.Ytikkfkoaipenbaa
open Go.RowKit

theorem retRowp_out {L : List (Int × Int)} {w w' : World} {e : Ending} (h : RetRowp L w e w') : ∃ ao cap, e = .returned (.slice ao L.length cap) ∧ w'.ownsRow w.heap.size 49 2 (.slice ao L.length cap) L.length (flatp L) ∧ Below w.heap.size w w' := h

/-- A list without a number. -/
def dropL (l : List (Int × Int)) (k : Int) : List (Int × Int) := l.filter fun p => decide (p.1 ≠ k)
theorem dropL_take (l : List (Int × Int)) (k : Int) (j : Nat) (h : j < l.length) : dropL (l.take (j + 1)) k = if l[j].1 = k then dropL (l.take j) k else dropL (l.take j) k ++ [l[j]] := by
  unfold dropL
  rw [List.take_succ_eq_append_getElem h, List.filter_append]
  by_cases e : l[j].1 = k
  · simp [e]
  · simp [e]
theorem dropL_len (l : List (Int × Int)) (k : Int) : (dropL l k).length ≤ l.length := List.length_filter_le _ _

set_option maxRecDepth 100000 in
set_option maxHeartbeats 1000000 in
theorem rwithout_any (ao : Option Addr) (n cap : Nat) (l : List (Int × Int)) (k : Int) (w : World) (hl : Atp w ao l) (hn : n = l.length) (hlen : l.length ≤ 1000) :
    Calls Try.prog 18 #[.slice ao n cap, .int .u64 k] w (RetRowp (dropL l k) w) := by
  obtain ⟨i0, hi, hz0, hz1, hz2⟩ := info_parts infopR
  have HL := Lib.hid hl
  have HN := Lib.hid hn
  rw [← hn] at hlen
  clear hl hn
  go_enter Try.func18, Try.ntmps18
  go_wp2_with fail
  go_loopw [5, 6] (fun o i wr => ∃ (j : Nat) (M : List (Int × Int)), i = .int .i64 j ∧ j ≤ n ∧ wr.ownsRow w.heap.size 49 2 o M.length (flatp M) ∧ M = dropL (l.take j) k ∧ M.length ≤ j ∧ Below w.heap.size w wr) (fun _ i _ => n - (intOf i).toNat)
  case atStart => exact ⟨0, [], rfl, by omega, World.ownsRow_nil _ _ _ _, rfl, by simp, Below.refl _ _⟩
  case round =>
    obtain ⟨j, M, rfl, hj, hown, hM, hlM, hB⟩ := hrel
    obtain ⟨o, oc, rfl⟩ := ownsRow_form hown
    have HO := Lib.hid hown
    have HM := Lib.hid hM
    have hBs := hB.size
    clear hown hM
    by_cases hlt : j < n
    · have hj1 : j < l.length := by rw [← HN.out]; omega
      obtain ⟨ad, rfl⟩ : ∃ ad, ao = some ad := by
        cases ao with
        | some ad => exact ⟨ad, rfl⟩
        | none => have := HL.out.1 rfl; rw [this] at hj1; simp at hj1
      obtain ⟨hc1, hc2⟩ := (HL.out.below hB).pair j hj1
      have HT := Lib.hid (dropL_take l k j hj1)
      rw [← HM.out] at HT
      generalize l[j]'hj1 = c at hc1 hc2 HT
      obtain ⟨a, v⟩ := c
      simp only at hc1 hc2 HT
      clear hj1
      by_cases hk : a = k
      · simp only [if_pos hk] at HT
        go_wp2_with fail
        go_roundw
        case rel => exact ⟨j + 1, M, by go_num, by omega, HO.out, HT.out.symm, by omega, hB⟩
        case measure => first | (simp [intOf]; done) | (simp [intOf]; omega)
      · simp only [if_neg hk] at HT
        go_wp2_with (at_builtin; refine wpList_append_gen rfl (.tmp 20) (.tmp 25) 29 rfl w.heap.size 49 i0 (.agg #[.int .u64 0, .int .i64 0]) 2 16 Try.underlying29 hi hz0 hz1 hz2 rfl (by decide) _ _ _ rfl (HO.out.alloc _) (some ⟨wr.heap.size, 0, none⟩) 1 1 [.int .u64 a, .int .i64 v] rfl (fun h => (by cases h)) rfl (fun ad h => (by cases h; exact two_new _ _ _ _)) (flatp_cells [(a, v)]) (by unfold maxLen; omega) (by omega) (by simp; omega) ?_; intro a2 c2 w1 ho hg _; have G2 := Lib.hid ho; have B2 := Lib.hid ((hB.alloc hBs _).grown hg (by simp; omega) (fun k h => (HO.out.lt k h).1)); clear ho hg)
        go_roundw
        case rel => exact ⟨j + 1, M ++ [(a, v)], by go_num, by omega, by rw [flatp_snoc, List.length_append]; exact G2.out, HT.out.symm, by rw [List.length_append]; simp; omega, B2.out⟩
        case measure => first | (simp [intOf]; done) | (simp [intOf]; omega)
    · obtain rfl : j = n := by omega
      go_wp2_with fail
      go_ret
      have e : M = dropL l k := by rw [HM.out, HN.out, List.take_length]
      rw [← e]
      exact ⟨_, _, rfl, HO.out, hB⟩

set_option maxRecDepth 100000 in
set_option maxHeartbeats 1000000 in
theorem rwith_any (ao : Option Addr) (n cap : Nat) (l : List (Int × Int)) (k v : Int) (w : World) (hl : Atp w ao l) (hn : n = l.length) (hlen : l.length ≤ 1000) :
    Calls Try.prog 17 #[.slice ao n cap, .int .u64 k, .int .i64 v] w (RetRowp (dropL l k ++ [(k, v)]) w) := by
  obtain ⟨i0, hi, hz0, hz1, hz2⟩ := info_parts infopR
  have HL := Lib.hid hl
  have HN := Lib.hid hn
  clear hl hn
  have hM : (dropL l k).length ≤ 1000 := Nat.le_trans (dropL_len l k) hlen
  obtain ⟨M, hMM⟩ : ∃ M, M = dropL l k := ⟨_, rfl⟩
  have cW : Hid (Calls Try.prog 18 #[.slice ao n cap, .int .u64 k] w (RetRowp M w)) := Lib.hid (by rw [hMM]; exact rwithout_any ao n cap l k w HL.out HN.out hlen)
  rw [← hMM] at hM ⊢
  clear hMM
  go_enter Try.func17, Try.ntmps17
  go_wp2_with (first | (go_at_call 18; refine cW.out.mono ?_; rintro e w1 ⟨a1, c1, rfl, ho, hb⟩; have G1 := Lib.hid ho; have B1 := hb; have Bz1 := hb.size; clear ho hb) | (at_builtin; refine wpList_append_gen rfl (.tmp 9) (.tmp 13) 29 rfl w.heap.size 49 i0 (.agg #[.int .u64 0, .int .i64 0]) 2 16 Try.underlying29 hi hz0 hz1 hz2 rfl (by decide) _ _ _ rfl (G1.out.alloc _) (some ⟨w1.heap.size, 0, none⟩) 1 1 [.int .u64 k, .int .i64 v] rfl (fun h => (by cases h)) rfl (fun ad h => (by cases h; exact two_new _ _ _ _)) (flatp_cells [(k, v)]) (by unfold maxLen; omega) (by omega) (by simp; omega) ?_; intro a2 c2 w2 ho hg _; have G2 := Lib.hid ho; have B2 := Lib.hid ((B1.alloc Bz1 _).grown hg (by simp; omega) (fun k h => (G1.out.lt k h).1)); clear ho hg))
  refine bodyPost_ret (v := .slice a2 (M.length + 1) c2) (by simp [results, Try.results17, go_sem, *]) rfl ⟨a2, c2, by simp, by rw [flatp_snoc, List.length_append]; exact G2.out, B2.out⟩

/-- Rising. -/
def sortL (l : List (Int × Int)) : List (Int × Int) := l.foldl insL []
theorem sortL_take (l : List (Int × Int)) (j : Nat) (h : j < l.length) : sortL (l.take (j + 1)) = insL (sortL (l.take j)) l[j] := by
  unfold sortL
  rw [List.take_succ_eq_append_getElem h, List.foldl_append]
  rfl

end Go.Proofs.Ytikkfkoaipenbaa
