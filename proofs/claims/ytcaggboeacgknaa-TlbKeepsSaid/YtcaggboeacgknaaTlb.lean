/- Contracts of package tlb's functions on one entry, and of their reference. -/
import Derived.Test.YtcaggboeacgknaaLeaf
import Derived.Test.YtcaggboeacgknaaDown
namespace Go.Proofs.Ytcaggboeacgknaa
set_option linter.unusedSimpArgs false
set_option linter.unusedVariables false
open Go.RowKit

open Go.Sort in
theorem quietBR {P : Program} {f : FuncId} {args : Array Value} {w : World} {d : Nat} {os : Array Obj} {v : Value} (h : Calls P f args (grow (redrawn w d) os) (Ret v (grow (redrawn w d) os))) :
    Calls P f args (grow (redrawn w d) os) fun e w'' => e = .returned v ∧ ∃ p : Regrown, w'' = grow (redrawn w p.d) p.os := quietB (h.mono fun _ _ h => h.b)

/-- An entry of a translation buffer. -/
structure E where
  space : Int
  page : Int
  first : Int
  last : Int
  deriving DecidableEq
@[go_sem] def entV (e : E) : Value := .agg #[.int .i64 e.space, .int .u64 e.page, .int .u64 e.first, .int .u64 e.last]
/-- Its parts are numbers of their kinds. -/
def E.ok (e : E) : Prop := I64 e.space ∧ U64 e.page ∧ U64 e.first ∧ U64 e.last
def E.zero : E := ⟨0, 0, 0, 0⟩

def blockB (first : Int) : Bool := (decD first 1).valid && !(decD first 1).table
/-- How many low bits of an address an entry leaves as they are. -/
def bitsZ (e : E) : Int := if blockB e.first = true then 21 else 12
def ownB (e : E) : Bool := (leafD e.first e.last).own
def coversB (e : E) (va : Int) : Bool := downZ va (bitsZ e) == e.page
def servesB (e : E) (space va : Int) : Bool := coversB e va && (e.space == space || !ownB e)

theorem fpage_any (a : Int) (w : World) (ha : U64 a) : Calls Try.prog 38 #[.int .u64 a] w (Ret (.int .u64 (downZ a 12)) w) := by
  go_enter Try.func38, Try.ntmps38
  go_wp2_with (go_at_call 39; refine (down_any _ _ _ ha).mono ?_; rintro e w' ⟨rfl, rfl⟩)
  go_ret
  exact ⟨rfl, rfl⟩

theorem refBlock_any (a : Int) (w : World) (ha : U64 a) : Calls Try.prog 41 #[.int .u64 a] w (RetB (.bool (blockB a)) w) := by
  go_enter Try.func41, Try.ntmps41
  go_wp2_with (go_at_call 60; refine (refDecode_any _ _ _ ha).mono ?_; rintro e w1 ⟨rfl, hb⟩; have B : Below w.heap.size w w1 := Below.trans (by repeat' (first | with_reducible exact Below.refl _ _ | with_reducible assumption | with_reducible apply below_drewN | with_reducible apply Below.drew | with_reducible refine Below.setCell ?_ ?_ _ | with_reducible refine Below.alloc ?_ ?_ _ | omega | (simp; done) | (simp; omega))) (hb.mono (by first | omega | (simp; done) | (simp; omega))); have Bz := B.size)
  all_goals
    go_ret
    refine ⟨?_, by repeat' (first | with_reducible exact Below.refl _ _ | with_reducible assumption | with_reducible apply below_drewN | with_reducible apply Below.drew | with_reducible refine Below.setCell ?_ ?_ _ | with_reducible refine Below.alloc ?_ ?_ _ | omega | (simp; done) | (simp; omega))⟩
    go_tidy
    simp [blockB, *]

theorem size_any (e : E) (w : World) (he : U64 e.first) : Calls Try.prog 43 #[entV e] w (RetB (.int .i64 (bitsZ e)) w) := by
  obtain ⟨s, p, f, l⟩ := e
  simp only at he
  simp only [entV]
  cases hv : (decD f 1).valid <;> cases ht : (decD f 1).table
  all_goals
    go_enter Try.func43, Try.ntmps43
    go_wp2_with (go_at_call 57; refine (decode_any _ _ _ he).mono ?_; rintro e w1 ⟨rfl, hb⟩; have B : Below w.heap.size w w1 := Below.trans (by repeat' (first | with_reducible exact Below.refl _ _ | with_reducible assumption | with_reducible apply below_drewN | with_reducible apply Below.drew | with_reducible refine Below.setCell ?_ ?_ _ | with_reducible refine Below.alloc ?_ ?_ _ | omega | (simp; done) | (simp; omega))) (hb.mono (by first | omega | (simp; done) | (simp; omega))); have Bz := B.size)
    go_ret
    exact ⟨by simp [bitsZ, blockB, hv, ht], by repeat' (first | with_reducible exact Below.refl _ _ | with_reducible assumption | with_reducible apply below_drewN | with_reducible apply Below.drew | with_reducible refine Below.setCell ?_ ?_ _ | with_reducible refine Below.alloc ?_ ?_ _ | omega | (simp; done) | (simp; omega))⟩

theorem own_any (e : E) (w : World) (hf : U64 e.first) (hl : U64 e.last) : Calls Try.prog 44 #[entV e] w (RetB (.bool (ownB e)) w) := by
  obtain ⟨s, p, f, l⟩ := e
  simp only at hf hl
  simp only [entV]
  go_enter Try.func44, Try.ntmps44
  go_wp2_with (go_at_call 36; refine (leaf_any _ _ _ hf hl).mono ?_; rintro e w1 ⟨rfl, hb⟩; have B : Below w.heap.size w w1 := Below.trans (by repeat' (first | with_reducible exact Below.refl _ _ | with_reducible assumption | with_reducible apply below_drewN | with_reducible apply Below.drew | with_reducible refine Below.setCell ?_ ?_ _ | with_reducible refine Below.alloc ?_ ?_ _ | omega | (simp; done) | (simp; omega))) (hb.mono (by first | omega | (simp; done) | (simp; omega))); have Bz := B.size)
  go_ret
  exact ⟨rfl, by repeat' (first | with_reducible exact Below.refl _ _ | with_reducible assumption | with_reducible apply below_drewN | with_reducible apply Below.drew | with_reducible refine Below.setCell ?_ ?_ _ | with_reducible refine Below.alloc ?_ ?_ _ | omega | (simp; done) | (simp; omega))⟩

theorem refOwn_any (e : E) (w : World) (hf : U64 e.first) (hl : U64 e.last) : Calls Try.prog 45 #[entV e] w (RetB (.bool (ownB e)) w) := by
  obtain ⟨s, p, f, l⟩ := e
  simp only at hf hl
  simp only [entV]
  go_enter Try.func45, Try.ntmps45
  go_wp2_with (go_at_call 59; refine (refLeaf_any _ _ _ hf hl).mono ?_; rintro e w1 ⟨rfl, hb⟩; have B : Below w.heap.size w w1 := Below.trans (by repeat' (first | with_reducible exact Below.refl _ _ | with_reducible assumption | with_reducible apply below_drewN | with_reducible apply Below.drew | with_reducible refine Below.setCell ?_ ?_ _ | with_reducible refine Below.alloc ?_ ?_ _ | omega | (simp; done) | (simp; omega))) (hb.mono (by first | omega | (simp; done) | (simp; omega))); have Bz := B.size)
  go_ret
  exact ⟨rfl, by repeat' (first | with_reducible exact Below.refl _ _ | with_reducible assumption | with_reducible apply below_drewN | with_reducible apply Below.drew | with_reducible refine Below.setCell ?_ ?_ _ | with_reducible refine Below.alloc ?_ ?_ _ | omega | (simp; done) | (simp; omega))⟩

theorem refKept_any (a b : Int) (w : World) (ha : U64 a) (hb0 : U64 b) : Calls Try.prog 40 #[.int .u64 a, .int .u64 b] w (RetB (.bool (keptB (leafD a b))) w) := by
  cases hv : (leafD a b).valid <;> cases ht : (leafD a b).table <;> cases hu : (leafD a b).used
  all_goals
    go_enter Try.func40, Try.ntmps40
    go_wp2_with (go_at_call 59; refine (refLeaf_any _ _ _ ha hb0).mono ?_; rintro e w1 ⟨rfl, hb⟩; have B : Below w.heap.size w w1 := Below.trans (by repeat' (first | with_reducible exact Below.refl _ _ | with_reducible assumption | with_reducible apply below_drewN | with_reducible apply Below.drew | with_reducible refine Below.setCell ?_ ?_ _ | with_reducible refine Below.alloc ?_ ?_ _ | omega | (simp; done) | (simp; omega))) (hb.mono (by first | omega | (simp; done) | (simp; omega))); have Bz := B.size)
    go_ret
    exact ⟨by simp [keptB, hv, ht, hu], by repeat' (first | with_reducible exact Below.refl _ _ | with_reducible assumption | with_reducible apply below_drewN | with_reducible apply Below.drew | with_reducible refine Below.setCell ?_ ?_ _ | with_reducible refine Below.alloc ?_ ?_ _ | omega | (simp; done) | (simp; omega))⟩

/-- The entry that two descriptors make. -/
def fillE (space va first last : Int) : E :=
  if keptB (leafD first last) = true then (if leafL first = 1 then ⟨space, downZ va 21, first, 0⟩ else ⟨space, downZ va 12, first, last⟩) else E.zero

theorem kept_block (a b : Int) (h : keptB (leafD a b) = true) : blockB a = (leafL a == 1) := by
  unfold blockB leafL
  unfold keptB leafD at h
  unfold tableB at *
  by_cases ht : ((decD a 1).valid && (decD a 1).table) = true
  · rw [if_pos ht]
    simp only [Bool.and_eq_true] at ht
    rw [ht.1, ht.2]
    rfl
  · rw [if_neg ht] at h ⊢
    simp only [Bool.and_eq_true, Bool.not_eq_true'] at h
    rw [h.1.1, h.1.2]
    rfl

set_option maxHeartbeats 1000000 in
theorem fill_any (s va f l : Int) (w : World) (hva : U64 va) (hf : U64 f) (hl : U64 l) :
    Calls Try.prog 13 #[.int .i64 s, .int .u64 va, .int .u64 f, .int .u64 l] w (RetB (.tuple #[entV (fillE s va f l), .bool (keptB (leafD f l))]) w) := by
  cases hk : keptB (leafD f l)
  · have HK := Lib.hid hk
    have HE := Lib.hid (show fillE s va f l = E.zero by unfold fillE; rw [if_neg (by simp [hk])])
    clear hk
    go_enter Try.func13, Try.ntmps13
    go_wp2_with (first | (go_at_call 36; refine (leaf_any _ _ _ hf hl).mono ?_; rintro e w1 ⟨rfl, hb⟩; have B : Below w.heap.size w w1 := Below.trans (by repeat' (first | with_reducible exact Below.refl _ _ | with_reducible assumption | with_reducible apply below_drewN | with_reducible apply Below.drew | with_reducible refine Below.setCell ?_ ?_ _ | with_reducible refine Below.alloc ?_ ?_ _ | omega | (simp; done) | (simp; omega))) (hb.mono (by first | omega | (simp; done) | (simp; omega))); have Bz := B.size; obtain ⟨k1, k2, k3, k4⟩ := keepB hb w.heap.size (by first | omega | (simp; done) | (simp; omega)); clear hb) | (go_at_call 37; refine (kept_any (leafD f l) _).mono ?_; rintro e w2 ⟨rfl, hb⟩; have B : Below w.heap.size w w2 := Below.trans (by repeat' (first | with_reducible exact Below.refl _ _ | with_reducible assumption | with_reducible apply below_drewN | with_reducible apply Below.drew | with_reducible refine Below.setCell ?_ ?_ _ | with_reducible refine Below.alloc ?_ ?_ _ | omega | (simp; done) | (simp; omega))) (hb.mono (by first | omega | (simp; done) | (simp; omega))); have Bz := B.size; obtain ⟨k1, k2, k3, k4⟩ := keepB hb w.heap.size (by first | omega | (simp; done) | (simp; omega)); clear hb; rw [HK.out]) | (go_at_call 38; refine (fpage_any _ _ hva).mono ?_; rintro e w' ⟨rfl, rfl⟩) | (go_at_call 39; refine (down_any _ _ _ hva).mono ?_; rintro e w' ⟨rfl, rfl⟩))
    refine bodyPost_ret (v := .tuple #[entV (fillE s va f l), .bool false]) (by rw [HE.out]; simp [results, Try.results13, go_sem, entV, E.zero, *]) rfl ⟨rfl, by repeat' (first | with_reducible exact Below.refl _ _ | with_reducible assumption | with_reducible apply below_drewN | with_reducible apply Below.drew | with_reducible refine Below.setCell ?_ ?_ _ | with_reducible refine Below.alloc ?_ ?_ _ | omega | (simp; done) | (simp; omega))⟩
  · have HK := Lib.hid hk
    cases ht : tableB f
    · have HE := Lib.hid (show fillE s va f l = ⟨s, downZ va 21, f, 0⟩ by unfold fillE leafL; rw [if_pos hk, if_pos (by rw [ht]; rfl)])
      have HL := Lib.hid (show leafL f = 1 by unfold leafL; rw [ht]; rfl)
      clear hk ht
      go_enter Try.func13, Try.ntmps13
      go_wp2_with (first | (go_at_call 36; refine (leaf_any _ _ _ hf hl).mono ?_; rintro e w1 ⟨rfl, hb⟩; have B : Below w.heap.size w w1 := Below.trans (by repeat' (first | with_reducible exact Below.refl _ _ | with_reducible assumption | with_reducible apply below_drewN | with_reducible apply Below.drew | with_reducible refine Below.setCell ?_ ?_ _ | with_reducible refine Below.alloc ?_ ?_ _ | omega | (simp; done) | (simp; omega))) (hb.mono (by first | omega | (simp; done) | (simp; omega))); have Bz := B.size; obtain ⟨k1, k2, k3, k4⟩ := keepB hb w.heap.size (by first | omega | (simp; done) | (simp; omega)); clear hb; rw [HL.out]) | (go_at_call 37; refine (kept_any (leafD f l) _).mono ?_; rintro e w2 ⟨rfl, hb⟩; have B : Below w.heap.size w w2 := Below.trans (by repeat' (first | with_reducible exact Below.refl _ _ | with_reducible assumption | with_reducible apply below_drewN | with_reducible apply Below.drew | with_reducible refine Below.setCell ?_ ?_ _ | with_reducible refine Below.alloc ?_ ?_ _ | omega | (simp; done) | (simp; omega))) (hb.mono (by first | omega | (simp; done) | (simp; omega))); have Bz := B.size; obtain ⟨k1, k2, k3, k4⟩ := keepB hb w.heap.size (by first | omega | (simp; done) | (simp; omega)); clear hb; rw [HK.out]) | (go_at_call 38; refine (fpage_any _ _ hva).mono ?_; rintro e w' ⟨rfl, rfl⟩) | (go_at_call 39; refine (down_any _ _ _ hva).mono ?_; rintro e w' ⟨rfl, rfl⟩))
      refine bodyPost_ret (v := .tuple #[entV (fillE s va f l), .bool true]) (by rw [HE.out]; simp [results, Try.results13, go_sem, entV, *]) rfl ⟨rfl, by repeat' (first | with_reducible exact Below.refl _ _ | with_reducible assumption | with_reducible apply below_drewN | with_reducible apply Below.drew | with_reducible refine Below.setCell ?_ ?_ _ | with_reducible refine Below.alloc ?_ ?_ _ | omega | (simp; done) | (simp; omega))⟩
    · have HE := Lib.hid (show fillE s va f l = ⟨s, downZ va 12, f, l⟩ by unfold fillE leafL; rw [if_pos hk, if_neg (by rw [ht]; decide)])
      have HL := Lib.hid (show leafL f = 2 by unfold leafL; rw [ht]; rfl)
      clear hk ht
      go_enter Try.func13, Try.ntmps13
      go_wp2_with (first | (go_at_call 36; refine (leaf_any _ _ _ hf hl).mono ?_; rintro e w1 ⟨rfl, hb⟩; have B : Below w.heap.size w w1 := Below.trans (by repeat' (first | with_reducible exact Below.refl _ _ | with_reducible assumption | with_reducible apply below_drewN | with_reducible apply Below.drew | with_reducible refine Below.setCell ?_ ?_ _ | with_reducible refine Below.alloc ?_ ?_ _ | omega | (simp; done) | (simp; omega))) (hb.mono (by first | omega | (simp; done) | (simp; omega))); have Bz := B.size; obtain ⟨k1, k2, k3, k4⟩ := keepB hb w.heap.size (by first | omega | (simp; done) | (simp; omega)); clear hb; rw [HL.out]) | (go_at_call 37; refine (kept_any (leafD f l) _).mono ?_; rintro e w2 ⟨rfl, hb⟩; have B : Below w.heap.size w w2 := Below.trans (by repeat' (first | with_reducible exact Below.refl _ _ | with_reducible assumption | with_reducible apply below_drewN | with_reducible apply Below.drew | with_reducible refine Below.setCell ?_ ?_ _ | with_reducible refine Below.alloc ?_ ?_ _ | omega | (simp; done) | (simp; omega))) (hb.mono (by first | omega | (simp; done) | (simp; omega))); have Bz := B.size; obtain ⟨k1, k2, k3, k4⟩ := keepB hb w.heap.size (by first | omega | (simp; done) | (simp; omega)); clear hb; rw [HK.out]) | (go_at_call 38; refine (fpage_any _ _ hva).mono ?_; rintro e w' ⟨rfl, rfl⟩) | (go_at_call 39; refine (down_any _ _ _ hva).mono ?_; rintro e w' ⟨rfl, rfl⟩))
      refine bodyPost_ret (v := .tuple #[entV (fillE s va f l), .bool true]) (by rw [HE.out]; simp [results, Try.results13, go_sem, entV, *]) rfl ⟨rfl, by repeat' (first | with_reducible exact Below.refl _ _ | with_reducible assumption | with_reducible apply below_drewN | with_reducible apply Below.drew | with_reducible refine Below.setCell ?_ ?_ _ | with_reducible refine Below.alloc ?_ ?_ _ | omega | (simp; done) | (simp; omega))⟩

set_option maxHeartbeats 1000000 in
theorem refFill_any (s va f l : Int) (w : World) (hva : U64 va) (hf : U64 f) (hl : U64 l) :
    Calls Try.prog 14 #[.int .i64 s, .int .u64 va, .int .u64 f, .int .u64 l] w (RetB (.tuple #[entV (fillE s va f l), .bool (keptB (leafD f l))]) w) := by
  cases hk : keptB (leafD f l)
  · have HK := Lib.hid hk
    have HE := Lib.hid (show fillE s va f l = E.zero by unfold fillE; rw [if_neg (by simp [hk])])
    clear hk
    go_enter Try.func14, Try.ntmps14
    go_wp2_with (first | (go_at_call 40; refine (refKept_any _ _ _ hf hl).mono ?_; rintro e w1 ⟨rfl, hb⟩; have B : Below w.heap.size w w1 := Below.trans (by repeat' (first | with_reducible exact Below.refl _ _ | with_reducible assumption | with_reducible apply below_drewN | with_reducible apply Below.drew | with_reducible refine Below.setCell ?_ ?_ _ | with_reducible refine Below.alloc ?_ ?_ _ | omega | (simp; done) | (simp; omega))) (hb.mono (by first | omega | (simp; done) | (simp; omega))); have Bz := B.size; obtain ⟨k1, k2, k3, k4⟩ := keepB hb w.heap.size (by first | omega | (simp; done) | (simp; omega)); clear hb; rw [HK.out]))
    refine bodyPost_ret (v := .tuple #[entV (fillE s va f l), .bool false]) (by rw [HE.out]; simp [results, Try.results14, go_sem, entV, E.zero, *]) rfl ⟨rfl, by repeat' (first | with_reducible exact Below.refl _ _ | with_reducible assumption | with_reducible apply below_drewN | with_reducible apply Below.drew | with_reducible refine Below.setCell ?_ ?_ _ | with_reducible refine Below.alloc ?_ ?_ _ | omega | (simp; done) | (simp; omega))⟩
  · have HK := Lib.hid hk
    have hB := kept_block f l hk
    cases ht : tableB f
    · have HE := Lib.hid (show fillE s va f l = ⟨s, downZ va 21, f, 0⟩ by unfold fillE leafL; rw [if_pos hk, if_pos (by rw [ht]; rfl)])
      have HL := Lib.hid (show blockB f = true by rw [hB]; unfold leafL; rw [ht]; rfl)
      clear hk ht hB
      go_enter Try.func14, Try.ntmps14
      go_wp2_with (first | (go_at_call 40; refine (refKept_any _ _ _ hf hl).mono ?_; rintro e w1 ⟨rfl, hb⟩; have B : Below w.heap.size w w1 := Below.trans (by repeat' (first | with_reducible exact Below.refl _ _ | with_reducible assumption | with_reducible apply below_drewN | with_reducible apply Below.drew | with_reducible refine Below.setCell ?_ ?_ _ | with_reducible refine Below.alloc ?_ ?_ _ | omega | (simp; done) | (simp; omega))) (hb.mono (by first | omega | (simp; done) | (simp; omega))); have Bz := B.size; obtain ⟨k1, k2, k3, k4⟩ := keepB hb w.heap.size (by first | omega | (simp; done) | (simp; omega)); clear hb; rw [HK.out]) | (go_at_call 41; refine (refBlock_any _ _ hf).mono ?_; rintro e w2 ⟨rfl, hb⟩; have B : Below w.heap.size w w2 := Below.trans (by repeat' (first | with_reducible exact Below.refl _ _ | with_reducible assumption | with_reducible apply below_drewN | with_reducible apply Below.drew | with_reducible refine Below.setCell ?_ ?_ _ | with_reducible refine Below.alloc ?_ ?_ _ | omega | (simp; done) | (simp; omega))) (hb.mono (by first | omega | (simp; done) | (simp; omega))); have Bz := B.size; obtain ⟨k1, k2, k3, k4⟩ := keepB hb w.heap.size (by first | omega | (simp; done) | (simp; omega)); clear hb; rw [HL.out]) | (go_at_call 42; refine (refDown_any _ _ _ hva (by decide) (by decide)).mono ?_; rintro e w3 ⟨rfl, hb⟩; have B : Below w.heap.size w w3 := Below.trans (by repeat' (first | with_reducible exact Below.refl _ _ | with_reducible assumption | with_reducible apply below_drewN | with_reducible apply Below.drew | with_reducible refine Below.setCell ?_ ?_ _ | with_reducible refine Below.alloc ?_ ?_ _ | omega | (simp; done) | (simp; omega))) (hb.mono (by first | omega | (simp; done) | (simp; omega))); have Bz := B.size; obtain ⟨k1, k2, k3, k4⟩ := keepB hb w.heap.size (by first | omega | (simp; done) | (simp; omega)); clear hb))
      refine bodyPost_ret (v := .tuple #[entV (fillE s va f l), .bool true]) (by rw [HE.out]; simp [results, Try.results14, go_sem, entV, *]) rfl ⟨rfl, by repeat' (first | with_reducible exact Below.refl _ _ | with_reducible assumption | with_reducible apply below_drewN | with_reducible apply Below.drew | with_reducible refine Below.setCell ?_ ?_ _ | with_reducible refine Below.alloc ?_ ?_ _ | omega | (simp; done) | (simp; omega))⟩
    · have HE := Lib.hid (show fillE s va f l = ⟨s, downZ va 12, f, l⟩ by unfold fillE leafL; rw [if_pos hk, if_neg (by rw [ht]; decide)])
      have HL := Lib.hid (show blockB f = false by rw [hB]; unfold leafL; rw [ht]; rfl)
      clear hk ht hB
      go_enter Try.func14, Try.ntmps14
      go_wp2_with (first | (go_at_call 40; refine (refKept_any _ _ _ hf hl).mono ?_; rintro e w1 ⟨rfl, hb⟩; have B : Below w.heap.size w w1 := Below.trans (by repeat' (first | with_reducible exact Below.refl _ _ | with_reducible assumption | with_reducible apply below_drewN | with_reducible apply Below.drew | with_reducible refine Below.setCell ?_ ?_ _ | with_reducible refine Below.alloc ?_ ?_ _ | omega | (simp; done) | (simp; omega))) (hb.mono (by first | omega | (simp; done) | (simp; omega))); have Bz := B.size; obtain ⟨k1, k2, k3, k4⟩ := keepB hb w.heap.size (by first | omega | (simp; done) | (simp; omega)); clear hb; rw [HK.out]) | (go_at_call 41; refine (refBlock_any _ _ hf).mono ?_; rintro e w2 ⟨rfl, hb⟩; have B : Below w.heap.size w w2 := Below.trans (by repeat' (first | with_reducible exact Below.refl _ _ | with_reducible assumption | with_reducible apply below_drewN | with_reducible apply Below.drew | with_reducible refine Below.setCell ?_ ?_ _ | with_reducible refine Below.alloc ?_ ?_ _ | omega | (simp; done) | (simp; omega))) (hb.mono (by first | omega | (simp; done) | (simp; omega))); have Bz := B.size; obtain ⟨k1, k2, k3, k4⟩ := keepB hb w.heap.size (by first | omega | (simp; done) | (simp; omega)); clear hb; rw [HL.out]) | (go_at_call 42; refine (refDown_any _ _ _ hva (by decide) (by decide)).mono ?_; rintro e w3 ⟨rfl, hb⟩; have B : Below w.heap.size w w3 := Below.trans (by repeat' (first | with_reducible exact Below.refl _ _ | with_reducible assumption | with_reducible apply below_drewN | with_reducible apply Below.drew | with_reducible refine Below.setCell ?_ ?_ _ | with_reducible refine Below.alloc ?_ ?_ _ | omega | (simp; done) | (simp; omega))) (hb.mono (by first | omega | (simp; done) | (simp; omega))); have Bz := B.size; obtain ⟨k1, k2, k3, k4⟩ := keepB hb w.heap.size (by first | omega | (simp; done) | (simp; omega)); clear hb))
      refine bodyPost_ret (v := .tuple #[entV (fillE s va f l), .bool true]) (by rw [HE.out]; simp [results, Try.results14, go_sem, entV, *]) rfl ⟨rfl, by repeat' (first | with_reducible exact Below.refl _ _ | with_reducible assumption | with_reducible apply below_drewN | with_reducible apply Below.drew | with_reducible refine Below.setCell ?_ ?_ _ | with_reducible refine Below.alloc ?_ ?_ _ | omega | (simp; done) | (simp; omega))⟩

end Go.Proofs.Ytcaggboeacgknaa
