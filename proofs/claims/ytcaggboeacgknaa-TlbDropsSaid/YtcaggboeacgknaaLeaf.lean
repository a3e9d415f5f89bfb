/- Contracts of walk.Leaf and of its reference. -/
import Derived.Test.YtcaggboeacgknaaDescRef
namespace Go.Proofs.Ytcaggboeacgknaa
set_option linter.unusedSimpArgs false
set_option linter.unusedVariables false
open Go.RowKit

/-- Is a first descriptor a table's? -/
def tableB (a : Int) : Bool := (decD a 1).valid && (decD a 1).table
/-- The descriptor that leads to memory, and its level. -/
def leafD (a b : Int) : D := if tableB a = true then decD b 2 else decD a 1
def leafL (a : Int) : Int := if tableB a = true then 2 else 1

theorem table_valid (a l : Int) (h : (decD a l).table = true) : (decD a l).valid = true := by
  unfold decD at *
  split at h
  · rename_i hc
    rw [if_pos hc]
    split <;> rfl
  · cases h

set_option maxHeartbeats 1000000 in
theorem leaf_any (a b : Int) (w : World) (ha : U64 a) (hb0 : U64 b) : Calls Try.prog 36 #[.int .u64 a, .int .u64 b] w (RetB (.tuple #[descV (leafD a b), .int .i64 (leafL a)]) w) := by
  cases hv : (decD a 1).valid <;> cases ht : (decD a 1).table
  all_goals
    go_enter Try.func36, Try.ntmps36
    go_wp2_with (first | (go_at_call_of 57 (Value.int IntKind.i64 1); refine (decode_any _ _ _ ha).mono ?_; rintro e w1 ⟨rfl, hb⟩; have B : Below w.heap.size w w1 := Below.trans (by repeat' (first | with_reducible exact Below.refl _ _ | with_reducible assumption | with_reducible apply below_drewN | with_reducible apply Below.drew | with_reducible refine Below.setCell ?_ ?_ _ | with_reducible refine Below.alloc ?_ ?_ _ | omega | (simp; done) | (simp; omega))) (hb.mono (by first | omega | (simp; done) | (simp; omega))); have Bz := B.size; obtain ⟨k1, k2, k3, k4⟩ := keepB hb w.heap.size (by first | omega | (simp; done) | (simp; omega)); clear hb) | (go_at_call_of 57 (Value.int IntKind.i64 2); refine (decode_any _ _ _ hb0).mono ?_; rintro e w2 ⟨rfl, hb⟩; have B : Below w.heap.size w w2 := Below.trans (by repeat' (first | with_reducible exact Below.refl _ _ | with_reducible assumption | with_reducible apply below_drewN | with_reducible apply Below.drew | with_reducible refine Below.setCell ?_ ?_ _ | with_reducible refine Below.alloc ?_ ?_ _ | omega | (simp; done) | (simp; omega))) (hb.mono (by first | omega | (simp; done) | (simp; omega))); have Bz := B.size; obtain ⟨k1, k2, k3, k4⟩ := keepB hb w.heap.size (by first | omega | (simp; done) | (simp; omega)); clear hb))
    refine bodyPost_ret (v := .tuple #[descV (leafD a b), .int .i64 (leafL a)]) (by simp [results, Try.results36, go_sem, descV, leafD, leafL, tableB, *]) rfl ⟨rfl, by repeat' (first | with_reducible exact Below.refl _ _ | with_reducible assumption | with_reducible apply below_drewN | with_reducible apply Below.drew | with_reducible refine Below.setCell ?_ ?_ _ | with_reducible refine Below.alloc ?_ ?_ _ | omega | (simp; done) | (simp; omega))⟩

set_option maxHeartbeats 1000000 in
theorem refLeaf_any (a b : Int) (w : World) (ha : U64 a) (hb0 : U64 b) : Calls Try.prog 59 #[.int .u64 a, .int .u64 b] w (RetB (.tuple #[descV (leafD a b), .int .i64 (leafL a)]) w) := by
  have tv := table_valid a 1
  cases ht : (decD a 1).table
  · clear tv
    go_enter Try.func59, Try.ntmps59
    go_wp2_with (first | (go_at_call_of 60 (Value.int IntKind.i64 1); refine (refDecode_any _ _ _ ha).mono ?_; rintro e w1 ⟨rfl, hb⟩; have B : Below w.heap.size w w1 := Below.trans (by repeat' (first | with_reducible exact Below.refl _ _ | with_reducible assumption | with_reducible apply below_drewN | with_reducible apply Below.drew | with_reducible refine Below.setCell ?_ ?_ _ | with_reducible refine Below.alloc ?_ ?_ _ | omega | (simp; done) | (simp; omega))) (hb.mono (by first | omega | (simp; done) | (simp; omega))); have Bz := B.size; obtain ⟨k1, k2, k3, k4⟩ := keepB hb w.heap.size (by first | omega | (simp; done) | (simp; omega)); clear hb) | (go_at_call_of 60 (Value.int IntKind.i64 2); refine (refDecode_any _ _ _ hb0).mono ?_; rintro e w2 ⟨rfl, hb⟩; have B : Below w.heap.size w w2 := Below.trans (by repeat' (first | with_reducible exact Below.refl _ _ | with_reducible assumption | with_reducible apply below_drewN | with_reducible apply Below.drew | with_reducible refine Below.setCell ?_ ?_ _ | with_reducible refine Below.alloc ?_ ?_ _ | omega | (simp; done) | (simp; omega))) (hb.mono (by first | omega | (simp; done) | (simp; omega))); have Bz := B.size; obtain ⟨k1, k2, k3, k4⟩ := keepB hb w.heap.size (by first | omega | (simp; done) | (simp; omega)); clear hb))
    refine bodyPost_ret (v := .tuple #[descV (leafD a b), .int .i64 (leafL a)]) (by simp [results, Try.results59, go_sem, descV, leafD, leafL, tableB, *]) rfl ⟨rfl, by repeat' (first | with_reducible exact Below.refl _ _ | with_reducible assumption | with_reducible apply below_drewN | with_reducible apply Below.drew | with_reducible refine Below.setCell ?_ ?_ _ | with_reducible refine Below.alloc ?_ ?_ _ | omega | (simp; done) | (simp; omega))⟩
  · have hv := tv ht
    clear tv
    go_enter Try.func59, Try.ntmps59
    go_wp2_with (first | (go_at_call_of 60 (Value.int IntKind.i64 1); refine (refDecode_any _ _ _ ha).mono ?_; rintro e w1 ⟨rfl, hb⟩; have B : Below w.heap.size w w1 := Below.trans (by repeat' (first | with_reducible exact Below.refl _ _ | with_reducible assumption | with_reducible apply below_drewN | with_reducible apply Below.drew | with_reducible refine Below.setCell ?_ ?_ _ | with_reducible refine Below.alloc ?_ ?_ _ | omega | (simp; done) | (simp; omega))) (hb.mono (by first | omega | (simp; done) | (simp; omega))); have Bz := B.size; obtain ⟨k1, k2, k3, k4⟩ := keepB hb w.heap.size (by first | omega | (simp; done) | (simp; omega)); clear hb) | (go_at_call_of 60 (Value.int IntKind.i64 2); refine (refDecode_any _ _ _ hb0).mono ?_; rintro e w2 ⟨rfl, hb⟩; have B : Below w.heap.size w w2 := Below.trans (by repeat' (first | with_reducible exact Below.refl _ _ | with_reducible assumption | with_reducible apply below_drewN | with_reducible apply Below.drew | with_reducible refine Below.setCell ?_ ?_ _ | with_reducible refine Below.alloc ?_ ?_ _ | omega | (simp; done) | (simp; omega))) (hb.mono (by first | omega | (simp; done) | (simp; omega))); have Bz := B.size; obtain ⟨k1, k2, k3, k4⟩ := keepB hb w.heap.size (by first | omega | (simp; done) | (simp; omega)); clear hb))
    refine bodyPost_ret (v := .tuple #[descV (leafD a b), .int .i64 (leafL a)]) (by simp [results, Try.results59, go_sem, descV, leafD, leafL, tableB, *]) rfl ⟨rfl, by repeat' (first | with_reducible exact Below.refl _ _ | with_reducible assumption | with_reducible apply below_drewN | with_reducible apply Below.drew | with_reducible refine Below.setCell ?_ ?_ _ | with_reducible refine Below.alloc ?_ ?_ _ | omega | (simp; done) | (simp; omega))⟩

theorem u64_decD (a l : Int) (ha : U64 a) : U64 (decD a l).out := by
  have h1 := u64_downZ (u64_getZ ha 31 0) 12
  have h2 := u64_downZ (u64_getZ ha 31 0) (shiftZ (bitB a 1) l)
  unfold decD
  split
  · split
    · exact h1
    · exact h2
  · exact ⟨by decide, by decide⟩

theorem u64_leafD (a b : Int) (ha : U64 a) (hb : U64 b) : U64 (leafD a b).out := by
  unfold leafD
  split
  · exact u64_decD b 2 hb
  · exact u64_decD a 1 ha

end Go.Proofs.Ytcaggboeacgknaa
