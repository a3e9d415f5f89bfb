/- Contracts of package walk and of reference 08, by values: Before, First, Second, Through. -/
import Derived.Test.YtogoclcjkekplaaLeaf
import Derived.Test.YtogoclcjkekplaaMem
namespace Go.Proofs.Ytogoclcjkekplaa
open Go.RowKit

/-- A fault. -/
structure Fa where
  kind : Int
  level : Int
  write : Bool
  deriving DecidableEq
def faultV (f : Fa) : Value := .agg #[.int .i64 f.kind, .int .i64 f.level, .bool f.write]
def Fa.zero : Fa := ⟨0, 0, false⟩

theorem within_any (a : Int) (w : World) : Calls Try.prog 41 #[.int .u64 a] w (Ret (.bool (decide (a < 1073741824))) w) := by
  go_enter Try.func41, Try.ntmps41
  go_wp2
  go_ret
  exact ⟨rfl, rfl⟩

def beforeF (va : Int) (wr : Bool) : Fa := if alignedB va 3 = true then (if va < 1073741824 then Fa.zero else ⟨2, 0, wr⟩) else ⟨1, 0, wr⟩

theorem before_any (va : Int) (wr : Bool) (w : World) (ha : U64 va) : Calls Try.prog 19 #[.int .u64 va, .bool wr] w (RetB (faultV (beforeF va wr)) w) := by
  have HA := Lib.hid ha
  cases h : alignedB va 3
  · have HH := Lib.hid h
    have HC := Lib.hid (show beforeF va wr = ⟨1, 0, wr⟩ by unfold beforeF; rw [if_neg (by simp [h])])
    clear h
    go_enter Try.func19, Try.ntmps19
    go_wp2_with (go_at_call 40; refine (aligned_any va 3 _ HA.out).mono ?_; rintro e w1 ⟨rfl, rfl⟩; rw [HH.out])
    refine bodyPost_ret (v := faultV (beforeF va wr)) (by rw [HC.out]; simp [results, Try.results19, go_sem, faultV, *]) rfl ⟨rfl, by repeat' (first | with_reducible exact Below.refl _ _ | with_reducible assumption | with_reducible apply below_drewN | with_reducible apply Below.drew | with_reducible refine Below.setCell ?_ ?_ _ | with_reducible refine Below.alloc ?_ ?_ _ | omega | (simp; done) | (simp; omega))⟩
  · have HH := Lib.hid h
    by_cases h2 : va < 1073741824
    · have HC := Lib.hid (show beforeF va wr = ⟨0, 0, false⟩ by unfold beforeF; rw [if_pos h, if_pos h2]; rfl)
      clear h
      go_enter Try.func19, Try.ntmps19
      go_wp2_with (first | (go_at_call 40; refine (aligned_any va 3 _ HA.out).mono ?_; rintro e w1 ⟨rfl, rfl⟩; rw [HH.out]) | (go_at_call 41; refine (within_any va _).mono ?_; rintro e w1 ⟨rfl, rfl⟩))
      refine bodyPost_ret (v := faultV (beforeF va wr)) (by rw [HC.out]; simp [results, Try.results19, go_sem, faultV, *]) rfl ⟨rfl, by repeat' (first | with_reducible exact Below.refl _ _ | with_reducible assumption | with_reducible apply below_drewN | with_reducible apply Below.drew | with_reducible refine Below.setCell ?_ ?_ _ | with_reducible refine Below.alloc ?_ ?_ _ | omega | (simp; done) | (simp; omega))⟩
    · have HC := Lib.hid (show beforeF va wr = ⟨2, 0, wr⟩ by unfold beforeF; rw [if_pos h, if_neg h2])
      have HD := Lib.hid (show decide (va < 1073741824) = false from decide_eq_false h2)
      clear h
      go_enter Try.func19, Try.ntmps19
      go_wp2_with (first | (go_at_call 40; refine (aligned_any va 3 _ HA.out).mono ?_; rintro e w1 ⟨rfl, rfl⟩; rw [HH.out]) | (go_at_call 41; refine (within_any va _).mono ?_; rintro e w1 ⟨rfl, rfl⟩; rw [HD.out]))
      refine bodyPost_ret (v := faultV (beforeF va wr)) (by rw [HC.out]; simp [results, Try.results19, go_sem, faultV, *]) rfl ⟨rfl, by repeat' (first | with_reducible exact Below.refl _ _ | with_reducible assumption | with_reducible apply below_drewN | with_reducible apply Below.drew | with_reducible refine Below.setCell ?_ ?_ _ | with_reducible refine Below.alloc ?_ ?_ _ | omega | (simp; done) | (simp; omega))⟩

theorem before_mod (va : Int) (wr : Bool) : beforeF va wr = if va % 8 = 0 then (if va < 1073741824 then Fa.zero else ⟨2, 0, wr⟩) else ⟨1, 0, wr⟩ := by
  unfold beforeF alignedB
  simp

theorem refBefore_any (va : Int) (wr : Bool) (w : World) (ha : U64 va) : Calls Try.prog 20 #[.int .u64 va, .bool wr] w (RetB (faultV (beforeF va wr)) w) := by
  have ht : va.tmod 8 = va % 8 := Int.tmod_eq_emod_of_nonneg ha.1
  have h1 : 0 ≤ va % 8 ∧ va % 8 < 8 := by omega
  have HB := Lib.hid (before_mod va wr)
  rw [HB.out]
  by_cases h : va % 8 = 0
  · rw [if_pos h]
    by_cases h2 : va < 1073741824
    · rw [if_pos h2]
      go_enter Try.func20, Try.ntmps20
      go_wp2_with fail
      refine bodyPost_ret (v := faultV Fa.zero) (by simp [results, Try.results20, go_sem, faultV, Fa.zero, *]) rfl ⟨rfl, by repeat' (first | with_reducible exact Below.refl _ _ | with_reducible assumption | with_reducible apply below_drewN | with_reducible apply Below.drew | with_reducible refine Below.setCell ?_ ?_ _ | with_reducible refine Below.alloc ?_ ?_ _ | omega | (simp; done) | (simp; omega))⟩
    · rw [if_neg h2]
      go_enter Try.func20, Try.ntmps20
      go_wp2_with fail
      refine bodyPost_ret (v := faultV ⟨2, 0, wr⟩) (by simp [results, Try.results20, go_sem, faultV, *]) rfl ⟨rfl, by repeat' (first | with_reducible exact Below.refl _ _ | with_reducible assumption | with_reducible apply below_drewN | with_reducible apply Below.drew | with_reducible refine Below.setCell ?_ ?_ _ | with_reducible refine Below.alloc ?_ ?_ _ | omega | (simp; done) | (simp; omega))⟩
  · rw [if_neg h]
    go_enter Try.func20, Try.ntmps20
    go_wp2_with fail
    refine bodyPost_ret (v := faultV ⟨1, 0, wr⟩) (by simp [results, Try.results20, go_sem, faultV, *]) rfl ⟨rfl, by repeat' (first | with_reducible exact Below.refl _ _ | with_reducible assumption | with_reducible apply below_drewN | with_reducible apply Below.drew | with_reducible refine Below.setCell ?_ ?_ _ | with_reducible refine Below.alloc ?_ ?_ _ | omega | (simp; done) | (simp; omega))⟩


/-- Where a first descriptor leads. -/
def secondZ (a va : Int) : Int := if tableB a = true then entryZ (decD a 1).out va 2 else 0
def firstF (a : Int) : Fa := if (decD a 1).valid = true then Fa.zero else ⟨3, 1, false⟩

theorem dslotB_any (t a level : Int) (w : World) (ha : U64 a) : Calls Try.prog 33 #[.int .u64 t, .int .u64 a, .int .i64 level] w (RetB (.int .u64 (entryZ t a level)) w) := (dslot_any t a level w ha).mono fun _ _ h => h.b

set_option maxHeartbeats 1000000 in
theorem first_any (a va : Int) (w : World) (ha : U64 a) (hva : U64 va) : Calls Try.prog 21 #[.int .u64 a, .int .u64 va] w (RetB (.tuple #[faultV (firstF a), .int .u64 (secondZ a va), .bool (tableB a)]) w) := by
  cases hv : (decD a 1).valid <;> cases ht : (decD a 1).table
  all_goals
    go_enter Try.func21, Try.ntmps21
    go_wp2_with (first | (go_at_call_of 39 (Value.int IntKind.i64 1); refine (decode_any _ _ _ ha).mono ?_; rintro e w1 ⟨rfl, hb⟩; have B : Below w.heap.size w w1 := Below.trans (by repeat' (first | with_reducible exact Below.refl _ _ | with_reducible assumption | with_reducible apply below_drewN | with_reducible apply Below.drew | with_reducible refine Below.setCell ?_ ?_ _ | with_reducible refine Below.alloc ?_ ?_ _ | omega | (simp; done) | (simp; omega))) (hb.mono (by first | omega | (simp; done) | (simp; omega))); have Bz := B.size; obtain ⟨k1, k2, k3, k4⟩ := keepB hb w.heap.size (by first | omega | (simp; done) | (simp; omega)); clear hb) | (go_at_call 33; refine (dslotB_any _ _ _ _ hva).mono ?_; rintro e w2 ⟨rfl, hb⟩; obtain ⟨m1, m2, m3, m4⟩ := keepB hb w.heap.size (by first | omega | (simp; done) | (simp; omega)); have B : Below w.heap.size w w2 := Below.trans (by repeat' (first | with_reducible exact Below.refl _ _ | with_reducible assumption | with_reducible apply below_drewN | with_reducible apply Below.drew | with_reducible refine Below.setCell ?_ ?_ _ | with_reducible refine Below.alloc ?_ ?_ _ | omega | (simp; done) | (simp; omega))) (hb.mono (by first | omega | (simp; done) | (simp; omega))); have Bz := B.size; clear hb))
    refine bodyPost_ret (v := .tuple #[faultV (firstF a), .int .u64 (secondZ a va), .bool (tableB a)]) (by simp [results, Try.results21, go_sem, faultV, firstF, secondZ, tableB, Fa.zero, *]) rfl ⟨rfl, by repeat' (first | with_reducible exact Below.refl _ _ | with_reducible assumption | with_reducible apply below_drewN | with_reducible apply Below.drew | with_reducible refine Below.setCell ?_ ?_ _ | with_reducible refine Below.alloc ?_ ?_ _ | omega | (simp; done) | (simp; omega))⟩


set_option maxHeartbeats 1000000 in
theorem second_any (a va : Int) (w : World) (ha : U64 a) (hva : U64 va) : Calls Try.prog 22 #[.int .u64 a, .int .u64 va] w (RetB (.tuple #[.int .u64 (secondZ a va), .bool (tableB a)]) w) := by
  have HU := Lib.hid (u64_decD a 1 ha)
  have tv := table_valid a 1
  cases ht : (decD a 1).table
  · clear tv
    cases hv : (decD a 1).valid
    all_goals
      go_enter Try.func22, Try.ntmps22
      go_wp2_with (first | (go_at_call_of 23 (Value.int IntKind.i64 1); refine (refDecode_any _ _ _ ha).mono ?_; rintro e w1 ⟨rfl, hb⟩; have B : Below w.heap.size w w1 := Below.trans (by repeat' (first | with_reducible exact Below.refl _ _ | with_reducible assumption | with_reducible apply below_drewN | with_reducible apply Below.drew | with_reducible refine Below.setCell ?_ ?_ _ | with_reducible refine Below.alloc ?_ ?_ _ | omega | (simp; done) | (simp; omega))) (hb.mono (by first | omega | (simp; done) | (simp; omega))); have Bz := B.size; clear hb) | (go_at_call 26; refine (refSlot_any _ _ _ _ hva HU.out).mono ?_; rintro e w2 ⟨rfl, hb⟩; have B : Below w.heap.size w w2 := Below.trans (by repeat' (first | with_reducible exact Below.refl _ _ | with_reducible assumption | with_reducible apply below_drewN | with_reducible apply Below.drew | with_reducible refine Below.setCell ?_ ?_ _ | with_reducible refine Below.alloc ?_ ?_ _ | omega | (simp; done) | (simp; omega))) (hb.mono (by first | omega | (simp; done) | (simp; omega))); have Bz := B.size; clear hb))
      refine bodyPost_ret (v := .tuple #[.int .u64 (secondZ a va), .bool (tableB a)]) (by simp [results, Try.results22, go_sem, secondZ, tableB, *]) rfl ⟨rfl, by repeat' (first | with_reducible exact Below.refl _ _ | with_reducible assumption | with_reducible apply below_drewN | with_reducible apply Below.drew | with_reducible refine Below.setCell ?_ ?_ _ | with_reducible refine Below.alloc ?_ ?_ _ | omega | (simp; done) | (simp; omega))⟩
  · have hv := tv ht
    clear tv
    go_enter Try.func22, Try.ntmps22
    go_wp2_with (first | (go_at_call_of 23 (Value.int IntKind.i64 1); refine (refDecode_any _ _ _ ha).mono ?_; rintro e w1 ⟨rfl, hb⟩; have B : Below w.heap.size w w1 := Below.trans (by repeat' (first | with_reducible exact Below.refl _ _ | with_reducible assumption | with_reducible apply below_drewN | with_reducible apply Below.drew | with_reducible refine Below.setCell ?_ ?_ _ | with_reducible refine Below.alloc ?_ ?_ _ | omega | (simp; done) | (simp; omega))) (hb.mono (by first | omega | (simp; done) | (simp; omega))); have Bz := B.size; clear hb) | (go_at_call 26; refine (refSlot_any _ _ _ _ hva HU.out).mono ?_; rintro e w2 ⟨rfl, hb⟩; have B : Below w.heap.size w w2 := Below.trans (by repeat' (first | with_reducible exact Below.refl _ _ | with_reducible assumption | with_reducible apply below_drewN | with_reducible apply Below.drew | with_reducible refine Below.setCell ?_ ?_ _ | with_reducible refine Below.alloc ?_ ?_ _ | omega | (simp; done) | (simp; omega))) (hb.mono (by first | omega | (simp; done) | (simp; omega))); have Bz := B.size; clear hb))
    refine bodyPost_ret (v := .tuple #[.int .u64 (secondZ a va), .bool (tableB a)]) (by simp [results, Try.results22, go_sem, secondZ, tableB, *]) rfl ⟨rfl, by repeat' (first | with_reducible exact Below.refl _ _ | with_reducible assumption | with_reducible apply below_drewN | with_reducible apply Below.drew | with_reducible refine Below.setCell ?_ ?_ _ | with_reducible refine Below.alloc ?_ ?_ _ | omega | (simp; done) | (simp; omega))⟩

/-- Where an access by two descriptors comes. -/
def throughF (a b va : Int) (wr : Bool) : Fa :=
  if (beforeF va wr).kind = 0 then (if allowZ (leafD a b) wr = 0 then Fa.zero else ⟨allowZ (leafD a b) wr, leafL a, wr⟩) else beforeF va wr
def throughZ (a b va : Int) (wr : Bool) : Int :=
  if (beforeF va wr).kind = 0 then (if allowZ (leafD a b) wr = 0 then addrZ (leafD a b) (leafL a) va else 0) else 0

set_option maxHeartbeats 2000000 in
theorem through_any (a b va : Int) (wr : Bool) (w : World) (ha : U64 a) (hb0 : U64 b) (hva : U64 va) : Calls Try.prog 15 #[.int .u64 a, .int .u64 b, .int .u64 va, .bool wr] w (RetB (.tuple #[faultV (throughF a b va wr), .int .u64 (throughZ a b va wr)]) w) := by
  have HU := Lib.hid (u64_leafD a b ha hb0)
  have HT : Hid (throughF a b va wr = if (beforeF va wr).kind = 0 then (if allowZ (leafD a b) wr = 0 then Fa.zero else ⟨allowZ (leafD a b) wr, leafL a, wr⟩) else beforeF va wr) := Lib.hid rfl
  have HZ : Hid (throughZ a b va wr = if (beforeF va wr).kind = 0 then (if allowZ (leafD a b) wr = 0 then addrZ (leafD a b) (leafL a) va else 0) else 0) := Lib.hid rfl
  go_enter Try.func15, Try.ntmps15
  go_wp2_with fail
  refine (before_any va wr _ hva).mono ?_
  generalize beforeF va wr = f at HT HZ
  obtain ⟨fk, fl, fw⟩ := f
  rintro e w1 ⟨rfl, hb⟩
  simp only [faultV]
  have B : Below w.heap.size w w1 := Below.trans (by repeat' (first | with_reducible exact Below.refl _ _ | with_reducible assumption | with_reducible apply below_drewN | with_reducible apply Below.drew | with_reducible refine Below.setCell ?_ ?_ _ | with_reducible refine Below.alloc ?_ ?_ _ | omega | (simp; done) | (simp; omega))) (hb.mono (by first | omega | (simp; done) | (simp; omega))); have Bz := B.size
  obtain ⟨k1, k2, k3, k4⟩ := keepB hb w.heap.size (by first | omega | (simp; done) | (simp; omega))
  clear hb
  by_cases hk : fk = 0
  · subst hk
    simp only [if_true] at HT HZ
    go_wp2_with fail
    refine (leaf_any a b _ ha hb0).mono ?_
    generalize leafD a b = d at HT HZ HU
    generalize leafL a = lv at HT HZ
    rintro e w2 ⟨rfl, hb⟩
    simp only [descV]
    obtain ⟨m1, m2, m3, m4⟩ := keepB hb w.heap.size (by first | omega | (simp; done) | (simp; omega))
    have B : Below w.heap.size w w2 := Below.trans (by repeat' (first | with_reducible exact Below.refl _ _ | with_reducible assumption | with_reducible apply below_drewN | with_reducible apply Below.drew | with_reducible refine Below.setCell ?_ ?_ _ | with_reducible refine Below.alloc ?_ ?_ _ | omega | (simp; done) | (simp; omega))) (hb.mono (by first | omega | (simp; done) | (simp; omega))); have Bz := B.size
    clear hb
    go_wp2_with fail
    refine (allowed_any d wr _).mono ?_
    obtain ⟨k, hk⟩ : ∃ k, k = allowZ d wr := ⟨_, rfl⟩
    rw [← hk] at HT HZ ⊢
    clear hk
    rintro e w3 ⟨rfl, hb⟩
    obtain ⟨n1, n2, n3, n4⟩ := keepB hb w.heap.size (by first | omega | (simp; done) | (simp; omega))
    obtain ⟨i1, i2, i3, i4⟩ := keepB hb w2.heap.size (by first | omega | (simp; done) | (simp; omega))
    have B : Below w.heap.size w w3 := Below.trans (by repeat' (first | with_reducible exact Below.refl _ _ | with_reducible assumption | with_reducible apply below_drewN | with_reducible apply Below.drew | with_reducible refine Below.setCell ?_ ?_ _ | with_reducible refine Below.alloc ?_ ?_ _ | omega | (simp; done) | (simp; omega))) (hb.mono (by first | omega | (simp; done) | (simp; omega))); have Bz := B.size
    clear hb
    by_cases hz : k = 0
    · subst hz
      simp only [if_true] at HT HZ
      go_wp2_with fail
      refine (address_any d lv va _ HU.out hva).mono ?_
      rintro e w4 ⟨rfl, hb⟩
      obtain ⟨q1, q2, q3, q4⟩ := keepB hb w.heap.size (by first | omega | (simp; done) | (simp; omega))
      have B : Below w.heap.size w w4 := Below.trans (by repeat' (first | with_reducible exact Below.refl _ _ | with_reducible assumption | with_reducible apply below_drewN | with_reducible apply Below.drew | with_reducible refine Below.setCell ?_ ?_ _ | with_reducible refine Below.alloc ?_ ?_ _ | omega | (simp; done) | (simp; omega))) (hb.mono (by first | omega | (simp; done) | (simp; omega))); have Bz := B.size
      clear hb
      go_wp2_with fail
      refine bodyPost_ret (v := .tuple #[faultV Fa.zero, .int .u64 (addrZ d lv va)]) (by simp [results, Try.results15, go_sem, faultV, Fa.zero, *]) rfl ⟨by rw [HT.out, HZ.out], by repeat' (first | with_reducible exact Below.refl _ _ | with_reducible assumption | with_reducible apply below_drewN | with_reducible apply Below.drew | with_reducible refine Below.setCell ?_ ?_ _ | with_reducible refine Below.alloc ?_ ?_ _ | omega | (simp; done) | (simp; omega))⟩
    · simp only [if_neg hz] at HT HZ
      go_wp2_with fail
      refine bodyPost_ret (v := .tuple #[faultV ⟨k, lv, wr⟩, .int .u64 0]) (by simp [results, Try.results15, go_sem, faultV, *]) rfl ⟨by rw [HT.out, HZ.out], by repeat' (first | with_reducible exact Below.refl _ _ | with_reducible assumption | with_reducible apply below_drewN | with_reducible apply Below.drew | with_reducible refine Below.setCell ?_ ?_ _ | with_reducible refine Below.alloc ?_ ?_ _ | omega | (simp; done) | (simp; omega))⟩
  · simp only [if_neg hk] at HT HZ
    have hkd : (fk != 0) = true := by simpa using hk
    go_wp2_with fail
    refine bodyPost_ret (v := .tuple #[faultV ⟨fk, fl, fw⟩, .int .u64 0]) (by simp [results, Try.results15, go_sem, faultV, *]) rfl ⟨by rw [HT.out, HZ.out], by repeat' (first | with_reducible exact Below.refl _ _ | with_reducible assumption | with_reducible apply below_drewN | with_reducible apply Below.drew | with_reducible refine Below.setCell ?_ ?_ _ | with_reducible refine Below.alloc ?_ ?_ _ | omega | (simp; done) | (simp; omega))⟩

set_option maxHeartbeats 2000000 in
theorem refThrough_any (a b va : Int) (wr : Bool) (w : World) (ha : U64 a) (hb0 : U64 b) (hva : U64 va) : Calls Try.prog 16 #[.int .u64 a, .int .u64 b, .int .u64 va, .bool wr] w (RetB (.tuple #[faultV (throughF a b va wr), .int .u64 (throughZ a b va wr)]) w) := by
  have HU := Lib.hid (u64_leafD a b ha hb0)
  have HT : Hid (throughF a b va wr = if (beforeF va wr).kind = 0 then (if allowZ (leafD a b) wr = 0 then Fa.zero else ⟨allowZ (leafD a b) wr, leafL a, wr⟩) else beforeF va wr) := Lib.hid rfl
  have HZ : Hid (throughZ a b va wr = if (beforeF va wr).kind = 0 then (if allowZ (leafD a b) wr = 0 then addrZ (leafD a b) (leafL a) va else 0) else 0) := Lib.hid rfl
  go_enter Try.func16, Try.ntmps16
  go_wp2_with fail
  refine (refBefore_any va wr _ hva).mono ?_
  generalize beforeF va wr = f at HT HZ
  obtain ⟨fk, fl, fw⟩ := f
  rintro e w1 ⟨rfl, hb⟩
  simp only [faultV]
  have B : Below w.heap.size w w1 := Below.trans (by repeat' (first | with_reducible exact Below.refl _ _ | with_reducible assumption | with_reducible apply below_drewN | with_reducible apply Below.drew | with_reducible refine Below.setCell ?_ ?_ _ | with_reducible refine Below.alloc ?_ ?_ _ | omega | (simp; done) | (simp; omega))) (hb.mono (by first | omega | (simp; done) | (simp; omega))); have Bz := B.size
  obtain ⟨k1, k2, k3, k4⟩ := keepB hb w.heap.size (by first | omega | (simp; done) | (simp; omega))
  clear hb
  by_cases hk : fk = 0
  · subst hk
    simp only [if_true] at HT HZ
    go_wp2_with fail
    refine (refLeaf_any a b _ ha hb0).mono ?_
    generalize leafD a b = d at HT HZ HU
    generalize leafL a = lv at HT HZ
    rintro e w2 ⟨rfl, hb⟩
    simp only [descV]
    obtain ⟨m1, m2, m3, m4⟩ := keepB hb w.heap.size (by first | omega | (simp; done) | (simp; omega))
    have B : Below w.heap.size w w2 := Below.trans (by repeat' (first | with_reducible exact Below.refl _ _ | with_reducible assumption | with_reducible apply below_drewN | with_reducible apply Below.drew | with_reducible refine Below.setCell ?_ ?_ _ | with_reducible refine Below.alloc ?_ ?_ _ | omega | (simp; done) | (simp; omega))) (hb.mono (by first | omega | (simp; done) | (simp; omega))); have Bz := B.size
    clear hb
    go_wp2_with fail
    refine (refAllowed_any d wr _).mono ?_
    obtain ⟨k, hk⟩ : ∃ k, k = allowZ d wr := ⟨_, rfl⟩
    rw [← hk] at HT HZ ⊢
    clear hk
    rintro e w3 ⟨rfl, hb⟩
    obtain ⟨n1, n2, n3, n4⟩ := keepB hb w.heap.size (by first | omega | (simp; done) | (simp; omega))
    obtain ⟨i1, i2, i3, i4⟩ := keepB hb w2.heap.size (by first | omega | (simp; done) | (simp; omega))
    have B : Below w.heap.size w w3 := Below.trans (by repeat' (first | with_reducible exact Below.refl _ _ | with_reducible assumption | with_reducible apply below_drewN | with_reducible apply Below.drew | with_reducible refine Below.setCell ?_ ?_ _ | with_reducible refine Below.alloc ?_ ?_ _ | omega | (simp; done) | (simp; omega))) (hb.mono (by first | omega | (simp; done) | (simp; omega))); have Bz := B.size
    clear hb
    by_cases hz : k = 0
    · subst hz
      simp only [if_true] at HT HZ
      go_wp2_with fail
      refine (refAddress_any d lv va _ HU.out hva).mono ?_
      rintro e w4 ⟨rfl, hb⟩
      obtain ⟨q1, q2, q3, q4⟩ := keepB hb w.heap.size (by first | omega | (simp; done) | (simp; omega))
      have B : Below w.heap.size w w4 := Below.trans (by repeat' (first | with_reducible exact Below.refl _ _ | with_reducible assumption | with_reducible apply below_drewN | with_reducible apply Below.drew | with_reducible refine Below.setCell ?_ ?_ _ | with_reducible refine Below.alloc ?_ ?_ _ | omega | (simp; done) | (simp; omega))) (hb.mono (by first | omega | (simp; done) | (simp; omega))); have Bz := B.size
      clear hb
      go_wp2_with fail
      refine bodyPost_ret (v := .tuple #[faultV Fa.zero, .int .u64 (addrZ d lv va)]) (by simp [results, Try.results16, go_sem, faultV, Fa.zero, *]) rfl ⟨by rw [HT.out, HZ.out], by repeat' (first | with_reducible exact Below.refl _ _ | with_reducible assumption | with_reducible apply below_drewN | with_reducible apply Below.drew | with_reducible refine Below.setCell ?_ ?_ _ | with_reducible refine Below.alloc ?_ ?_ _ | omega | (simp; done) | (simp; omega))⟩
    · simp only [if_neg hz] at HT HZ
      go_wp2_with fail
      refine bodyPost_ret (v := .tuple #[faultV ⟨k, lv, wr⟩, .int .u64 0]) (by simp [results, Try.results16, go_sem, faultV, *]) rfl ⟨by rw [HT.out, HZ.out], by repeat' (first | with_reducible exact Below.refl _ _ | with_reducible assumption | with_reducible apply below_drewN | with_reducible apply Below.drew | with_reducible refine Below.setCell ?_ ?_ _ | with_reducible refine Below.alloc ?_ ?_ _ | omega | (simp; done) | (simp; omega))⟩
  · simp only [if_neg hk] at HT HZ
    have hkd : (fk != 0) = true := by simpa using hk
    go_wp2_with fail
    refine bodyPost_ret (v := .tuple #[faultV ⟨fk, fl, fw⟩, .int .u64 0]) (by simp [results, Try.results16, go_sem, faultV, *]) rfl ⟨by rw [HT.out, HZ.out], by repeat' (first | with_reducible exact Below.refl _ _ | with_reducible assumption | with_reducible apply below_drewN | with_reducible apply Below.drew | with_reducible refine Below.setCell ?_ ?_ _ | with_reducible refine Below.alloc ?_ ?_ _ | omega | (simp; done) | (simp; omega))⟩

end Go.Proofs.Ytogoclcjkekplaa
