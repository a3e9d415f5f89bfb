/- The reference's Write. -/
import Derived.Test.YtikkfkoaipenbaaRefc
namespace Go.Proofs.Ytikkfkoaipenbaa
open Go.RowKit

/-- The writes then, and the error's number. -/
def rwriteL (l : List (Int × Int)) (a v : Int) : List (Int × Int) × Int :=
  if chkZ a = 0 then (if (cellsL (l ++ [(a, v)])).length ≤ 256 then (l ++ [(a, v)], 0) else (l, 2)) else (l, chkZ a)

/-- The call returns cells that lie somewhere, and an error's number. -/
def RetSlc (r : List (Int × Int) × Int) (w : World) (e : Ending) (w' : World) : Prop :=
  ∃ ao cap, e = .returned (.tuple #[.slice ao r.1.length cap, .int .i64 r.2]) ∧ Atc w' ao r.1 ∧ (ao = none → cap = 0) ∧ Below w.heap.size w w'

set_option maxRecDepth 100000 in
set_option maxHeartbeats 1000000 in
theorem rwrite_any (ao : Option Addr) (n cap : Nat) (l : List (Int × Int)) (a v : Int) (w : World) (hl : Atc w ao l) (hc : ao = none → cap = 0) (hn : n = l.length) (hlen : l.length ≤ 999) (ha : U64 a) :
    Calls Try.prog 31 #[.slice ao n cap, .int .u64 a, .int .u64 v] w (RetSlc (rwriteL l a v) w) := by
  obtain ⟨i0, hi, hz0, hz1, hz2⟩ := info_parts infocR
  have HL := Lib.hid hl
  have HN := Lib.hid hn
  have HC := Lib.hid hc
  have HA := Lib.hid ha
  rw [← hn] at hlen
  clear hl hn hc ha
  by_cases hz : chkZ a = 0
  · have HZ := Lib.hid hz
    clear hz
    go_enter Try.func31, Try.ntmps31
    have HNN := Lib.hid (show n + 1 = (l ++ [(a, v)]).length by simp [← HN.out])
    obtain ⟨m, hm⟩ : ∃ m, m = (cellsL (l ++ [(a, v)])).length := ⟨_, rfl⟩
    have HMM := Lib.hid hm
    have hmm : m ≤ 1000 := by rw [hm]; have := cellsL_len (l ++ [(a, v)]); simp [← HN.out] at this; omega
    clear hm
    by_cases h3 : m ≤ 256
    · go_wp2_with (first | (go_at_call 24; refine (rcheck_any a _ HA.out).mono ?_; rintro e w1 ⟨rfl, rfl⟩; rw [HZ.out]) | (at_builtin; refine wpList_append_gen rfl (.tmp 16) (.tmp 17) 51 rfl w.heap.size 73 i0 (.agg #[.int .u64 0, .int .u64 0]) 2 16 Try.underlying51 hi hz0 hz1 hz2 rfl (by decide) _ 0 [] rfl (World.ownsRow_made w #[] 0 (Nat.le_refl _) (by unfold maxLen; omega) rfl) ao n cap (flatc l) rfl (fun h => ⟨by rw [HN.out, HL.out.1 h]; rfl, HC.out h⟩) (by rw [flatc_len, HN.out]) (fun ad h => (HL.out.below ((Below.refl _ _).alloc (Nat.le_refl _) _)).2 ad h) (flatc_cells l) (by unfold maxLen; omega) (by omega) (by simp) ?_; intro a1 c1 w1 ho hg _; rw [Nat.zero_add, List.nil_append] at ho; rw [Nat.zero_add]; have B1 := (((Below.refl w.heap.size w).alloc (Nat.le_refl _) (.cells #[] 73)).grown hg (by simp) (fun k h => by cases h; exact Nat.le_refl _)); have Bz := B1.size; have G1 := Lib.hid ho; clear ho hg) | (at_builtin; refine wpList_append_gen rfl (.tmp 19) (.tmp 23) 51 rfl w.heap.size 73 i0 (.agg #[.int .u64 0, .int .u64 0]) 2 16 Try.underlying51 hi hz0 hz1 hz2 rfl (by decide) _ _ _ rfl (G1.out.alloc _) (some ⟨w1.heap.size, 0, none⟩) 1 1 [.int .u64 a, .int .u64 v] rfl (fun h => (by cases h)) rfl (fun ad h => (by cases h; exact two_new _ _ _ _)) (flatc_cells [(a, v)]) (by unfold maxLen; omega) (by omega) (by simp; omega) ?_; intro a2 c2 w2 ho hg _; have B2 := ((B1.alloc Bz _).grown hg (by simp; omega) (fun k h => (G1.out.lt k h).1)); have Bz2 := B2.size; have G2 := Lib.hid (show w2.ownsRow w.heap.size 73 2 (.slice a2 (n + 1) c2) (n + 1) (flatc (l ++ [(a, v)])) by rw [flatc_snoc]; exact ho); clear ho hg) | (go_at_call 27; refine (rcells_any _ _ _ (l ++ [(a, v)]) _ (Atc.of_row G2.out) HNN.out (by simp [← HN.out]; omega)).mono ?_; rintro e w3 ⟨a3, c3, rfl, ho, hb⟩; have B3 := B2.trans (hb.mono Bz2); have B4 := hb; clear ho hb; rw [← HMM.out]))
      refine bodyPost_ret (v := .tuple #[.slice a2 (n + 1) c2, .int .i64 0]) (by simp [results, Try.results31, go_sem, *]) rfl ⟨a2, c2, ?_, ?_, ?_, ?_⟩
      · unfold rwriteL; rw [if_pos HZ.out, if_pos (by rw [← HMM.out]; exact h3), HNN.out]
      · unfold rwriteL; rw [if_pos HZ.out, if_pos (by rw [← HMM.out]; exact h3)]
        exact (Atc.of_row G2.out).below (by repeat' (first | with_reducible exact Below.refl _ _ | with_reducible assumption | with_reducible apply below_drewN | with_reducible apply Below.drew | with_reducible refine Below.setCell ?_ ?_ _ | with_reducible refine Below.alloc ?_ ?_ _ | omega | (simp; done) | (simp; omega)))
      · rintro rfl; exact (ownsRow_none' G2.out).2
      · repeat' (first | with_reducible exact Below.refl _ _ | with_reducible assumption | with_reducible apply below_drewN | with_reducible apply Below.drew | with_reducible refine Below.setCell ?_ ?_ _ | with_reducible refine Below.alloc ?_ ?_ _ | omega | (simp; done) | (simp; omega))
    · go_wp2_with (first | (go_at_call 24; refine (rcheck_any a _ HA.out).mono ?_; rintro e w1 ⟨rfl, rfl⟩; rw [HZ.out]) | (at_builtin; refine wpList_append_gen rfl (.tmp 16) (.tmp 17) 51 rfl w.heap.size 73 i0 (.agg #[.int .u64 0, .int .u64 0]) 2 16 Try.underlying51 hi hz0 hz1 hz2 rfl (by decide) _ 0 [] rfl (World.ownsRow_made w #[] 0 (Nat.le_refl _) (by unfold maxLen; omega) rfl) ao n cap (flatc l) rfl (fun h => ⟨by rw [HN.out, HL.out.1 h]; rfl, HC.out h⟩) (by rw [flatc_len, HN.out]) (fun ad h => (HL.out.below ((Below.refl _ _).alloc (Nat.le_refl _) _)).2 ad h) (flatc_cells l) (by unfold maxLen; omega) (by omega) (by simp) ?_; intro a1 c1 w1 ho hg _; rw [Nat.zero_add, List.nil_append] at ho; rw [Nat.zero_add]; have B1 := (((Below.refl w.heap.size w).alloc (Nat.le_refl _) (.cells #[] 73)).grown hg (by simp) (fun k h => by cases h; exact Nat.le_refl _)); have Bz := B1.size; have G1 := Lib.hid ho; clear ho hg) | (at_builtin; refine wpList_append_gen rfl (.tmp 19) (.tmp 23) 51 rfl w.heap.size 73 i0 (.agg #[.int .u64 0, .int .u64 0]) 2 16 Try.underlying51 hi hz0 hz1 hz2 rfl (by decide) _ _ _ rfl (G1.out.alloc _) (some ⟨w1.heap.size, 0, none⟩) 1 1 [.int .u64 a, .int .u64 v] rfl (fun h => (by cases h)) rfl (fun ad h => (by cases h; exact two_new _ _ _ _)) (flatc_cells [(a, v)]) (by unfold maxLen; omega) (by omega) (by simp; omega) ?_; intro a2 c2 w2 ho hg _; have B2 := ((B1.alloc Bz _).grown hg (by simp; omega) (fun k h => (G1.out.lt k h).1)); have Bz2 := B2.size; have G2 := Lib.hid (show w2.ownsRow w.heap.size 73 2 (.slice a2 (n + 1) c2) (n + 1) (flatc (l ++ [(a, v)])) by rw [flatc_snoc]; exact ho); clear ho hg) | (go_at_call 27; refine (rcells_any _ _ _ (l ++ [(a, v)]) _ (Atc.of_row G2.out) HNN.out (by simp [← HN.out]; omega)).mono ?_; rintro e w3 ⟨a3, c3, rfl, ho, hb⟩; have B3 := B2.trans (hb.mono Bz2); have B4 := hb; clear ho hb; rw [← HMM.out]))
      refine bodyPost_ret (v := .tuple #[.slice ao n cap, .int .i64 2]) (by simp [results, Try.results31, go_sem, *]) rfl ⟨ao, cap, ?_, ?_, HC.out, ?_⟩
      · unfold rwriteL; rw [if_pos HZ.out, if_neg (by rw [← HMM.out]; exact h3), HN.out]
      · unfold rwriteL; rw [if_pos HZ.out, if_neg (by rw [← HMM.out]; exact h3)]
        exact HL.out.below (by repeat' (first | with_reducible exact Below.refl _ _ | with_reducible assumption | with_reducible apply below_drewN | with_reducible apply Below.drew | with_reducible refine Below.setCell ?_ ?_ _ | with_reducible refine Below.alloc ?_ ?_ _ | omega | (simp; done) | (simp; omega)))
      · repeat' (first | with_reducible exact Below.refl _ _ | with_reducible assumption | with_reducible apply below_drewN | with_reducible apply Below.drew | with_reducible refine Below.setCell ?_ ?_ _ | with_reducible refine Below.alloc ?_ ?_ _ | omega | (simp; done) | (simp; omega))
  · have HZ := Lib.hid hz
    have hz1 : (chkZ a != 0) = true := by simpa using hz
    clear hz
    go_enter Try.func31, Try.ntmps31
    go_wp2_with (go_at_call 24; refine (rcheck_any a _ HA.out).mono ?_; rintro e w1 ⟨rfl, rfl⟩)
    refine bodyPost_ret (v := .tuple #[.slice ao n cap, .int .i64 (chkZ a)]) (by simp [results, Try.results31, go_sem, *]) rfl ⟨ao, cap, ?_, ?_, HC.out, ?_⟩
    · unfold rwriteL; rw [if_neg HZ.out, HN.out]
    · unfold rwriteL; rw [if_neg HZ.out]; exact HL.out
    · repeat' (first | with_reducible exact Below.refl _ _ | with_reducible assumption | with_reducible apply below_drewN | with_reducible apply Below.drew | with_reducible refine Below.setCell ?_ ?_ _ | with_reducible refine Below.alloc ?_ ?_ _ | omega | (simp; done) | (simp; omega))

end Go.Proofs.Ytikkfkoaipenbaa
