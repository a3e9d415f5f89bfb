/- The statements of layer 8: what they share. -/
import Derived.Test.YtogoclcjkekplaaWalkc
import Derived.Test.YtogoclcjkekplaaStorec
import Derived.Test.YtogoclcjkekplaaArgc
namespace Go.Proofs.Ytogoclcjkekplaa
open Go.RowKit Go.ChangeShapes Go.WideShapes

theorem own : ownKnob Try.prog.godebug = none := by kernel_rfl
theorem laid : laidOutB Try.prog = true := by kernel_rfl
theorem u64_lit (n : Int) (h : (decide (0 ≤ n) && decide (n < 18446744073709551616)) = true) : U64 n := by
  simp only [Bool.and_eq_true, decide_eq_true_eq] at h
  exact h

open Go.Sort in
/-- A region that draws and reads two old blocks. -/
theorem wp_region_qb2 {P : Program} {id : Nat} {Q : Exit → Act → World → Prop} {a : Act} {w : World} {l : List Oper} (b c : Nat) (hm : P.follows .mixedOrders = true) (hB : Region.lexB .any l.toArray = true) (hb : b < w.heap.size) (hc : c < w.heap.size)
    (h : (∀ d os o, (grow (redrawn w d) os).cell? ⟨b, o, none⟩ = w.cell? ⟨b, o, none⟩) → (∀ d os o, (grow (redrawn w d) os).cell? ⟨c, o, none⟩ = w.cell? ⟨c, o, none⟩) → wpQuiet P l.toArray (fun w' => ∃ p : Regrown, w' = grow (redrawn w p.d) p.os) (fun a' => ∀ w', Below w.heap.size w w' → Q .normal a' w') l a) : (Code.region id l.toArray true).wp P Q a w :=
  wp_region_qb hm hB (h (fun d os o => (below_regrown w d os).cell (p := ⟨b, o, none⟩) hb) (fun d os o => (below_regrown w d os).cell (p := ⟨c, o, none⟩) hc))

theorem rof_ok : ∀ (l M : List (Int × Int)), (rofL M l).2 = 0 → (rofL M l).1 = M ++ l
  | [], M, _ => by simp [rofL]
  | c :: l, M, h => by
    simp only [rofL] at h ⊢
    split at h
    · rename_i hz
      rw [if_pos hz]
      rw [rof_ok l _ h]
      unfold rwriteL at hz ⊢
      split at hz
      · rename_i hc
        rw [if_pos hc]
        split at hz
        · rename_i hl
          rw [if_pos hl]
          simp
        · simp at hz
      · rename_i hc
        exact absurd hz hc
    · rename_i hz
      exact absurd h hz

/-- Cells that may be: the memory that they are, and what they hold. -/
theorem of_ok (l : List (Int × Int)) (h : (rofL [] l).2 = 0) : (ofL [] l).2 = 0 ∧ (ofL [] l).1 = cellsL l ∧ (ofL [] l).1.length ≤ 256 := by
  obtain ⟨h1, h2, h3, _⟩ := of_ref l (L := []) (M := []) rfl (by simp)
  refine ⟨by rw [h1]; exact h, ?_, h3⟩
  rw [h2, rof_ok l [] h, List.nil_append]

theorem read_u64 {l : List (Int × Int)} (hu : ∀ p ∈ l, U64 p.1 ∧ U64 p.2) (k : Int) : U64 (readL l k) := by
  unfold readL
  cases e : lastL l k with
  | none => exact ⟨by decide, by decide⟩
  | some v => exact (hu _ (lastL_mem l k v e)).2

theorem cells_getL (l : List (Int × Int)) : getL (cellsL l) = readL l := funext (cellsL_read l)

set_option maxHeartbeats 1000000 in
theorem is_any (r : Wk) (w : World) : Calls Try.prog 12 #[walkV r, walkV r] w (RetB (.bool true) w) := by
  obtain ⟨⟨fk, fl, fw⟩, ad, fi, la, re⟩ := r
  simp only [walkV]
  go_enter Try.func12, Try.ntmps12
  go_wp2_with fail
  go_ret
  exact ⟨rfl, by repeat' (first | with_reducible exact Below.refl _ _ | with_reducible assumption | with_reducible apply below_drewN | with_reducible apply Below.drew | with_reducible refine Below.setCell ?_ ?_ _ | with_reducible refine Below.alloc ?_ ?_ _ | omega | (simp; done) | (simp; omega))⟩

/-- The memory of cells that may be; the cells that may not be: false. -/
def tryB (l : List (Int × Int)) : Bool := decide (l.length ≤ 200) && decide ((rofL [] l).2 = 0)

set_option maxHeartbeats 1000000 in
theorem memory_any (ao : Option Addr) (n cap : Nat) (l : List (Int × Int)) (w : World) (hl : Atc w ao l) (hn : n = l.length) (hu : ∀ p ∈ l, U64 p.1 ∧ U64 p.2) :
    Calls Try.prog 11 #[.slice ao n cap] w (fun e w' => ∃ ks vs, e = .returned (.tuple #[.agg #[ks, vs], .bool (tryB l)]) ∧ MapuIs w' ks vs (if tryB l = true then cellsL l else []) ∧ Below w.heap.size w w') := by
  have HL := Lib.hid hl
  have HN := Lib.hid hn
  have HU : Hid (∀ p ∈ l, U64 p.1) := Lib.hid fun p hp => (hu p hp).1
  by_cases hbig : 200 < n
  · have HT : Hid (tryB l = false) := Lib.hid (by unfold tryB; rw [decide_eq_false (by omega)]; rfl)
    clear hl hn hu
    rw [HT.out]
    go_enter Try.func11, Try.ntmps11
    go_wp2_with fail
    refine bodyPost_ret (v := .tuple #[.agg #[.slice none 0 0, .slice none 0 0], .bool false]) (by simp [results, Try.results11, go_sem, *]) rfl ⟨_, _, rfl, MapuIs.nil _, by repeat' (first | with_reducible exact Below.refl _ _ | with_reducible assumption | with_reducible apply below_drewN | with_reducible apply Below.drew | with_reducible refine Below.setCell ?_ ?_ _ | with_reducible refine Below.alloc ?_ ?_ _ | omega | (simp; done) | (simp; omega))⟩
  · have hbig' : n ≤ 200 := by omega
    have hlen : l.length ≤ 200 := by omega
    have HT : Hid (tryB l = decide ((rofL [] l).2 = 0)) := Lib.hid (by unfold tryB; rw [decide_eq_true hlen]; rfl)
    have HO := Lib.hid (of_ok l)
    clear hl hn hu
    rw [HT.out]
    have HR : Hid (∃ r, r = rofL [] l) := Lib.hid ⟨_, rfl⟩
    obtain ⟨r, hr⟩ := HR.out
    rw [← hr] at HO ⊢
    clear HT HR
    have HR := Lib.hid hr
    clear hr
    obtain ⟨M, z⟩ := r
    simp only at HO ⊢
    by_cases h0 : z = 0
    · subst h0
      obtain ⟨o1, o2, o3⟩ := HO.out rfl
      have HOL : Hid (ofL [] l = (cellsL l, 0)) := Lib.hid (Prod.ext o2 o1)
      clear o1 o2 o3 HO
      simp only [decide_true, if_true]
      obtain ⟨L, hL⟩ : ∃ L, L = cellsL l := ⟨_, rfl⟩
      rw [← hL] at HOL ⊢
      clear hL
      go_enter Try.func11, Try.ntmps11
      go_wp2_with fail
      refine (rof_any ao n cap l _ (HL.out.below (by repeat' (first | with_reducible exact Below.refl _ _ | with_reducible assumption | with_reducible apply below_drewN | with_reducible apply Below.drew | with_reducible refine Below.setCell ?_ ?_ _ | with_reducible refine Below.alloc ?_ ?_ _ | omega | (simp; done) | (simp; omega)))) HN.out (by omega) HU.out).mono ?_
      rw [← HR.out]
      rintro e w1 ⟨mo, mc, rfl, -, -, hb⟩
      have B1 : Below w.heap.size w w1 := Below.trans (by repeat' (first | with_reducible exact Below.refl _ _ | with_reducible assumption | with_reducible apply below_drewN | with_reducible apply Below.drew | with_reducible refine Below.setCell ?_ ?_ _ | with_reducible refine Below.alloc ?_ ?_ _ | omega | (simp; done) | (simp; omega))) (hb.mono (by first | omega | (simp; done) | (simp; omega)))
      have Bz1 := B1.size
      obtain ⟨k1, k2, k3, k4⟩ := keepB hb w.heap.size (by first | omega | (simp; done) | (simp; omega))
      have g2 : w1.heap[w.heap.size]? = some (.cells #[.slice none 0 0, .slice none 0 0] 31) := (hb.block w.heap.size (by simp)).trans (by (repeat (first | assumption | (refine heap_new _ _ _ ?_; simp; done) | refine heap_old _ _ _ _ ?_)))
      have G2 := Lib.hid g2
      clear hb g2
      go_wp2_with fail
      refine (of_any ao n cap l _ (HL.out.below (by repeat' (first | with_reducible exact Below.refl _ _ | with_reducible assumption | with_reducible apply below_drewN | with_reducible apply Below.drew | with_reducible refine Below.setCell ?_ ?_ _ | with_reducible refine Below.alloc ?_ ?_ _ | omega | (simp; done) | (simp; omega)))) HN.out (by omega) HU.out).mono ?_
      rw [HOL.out]
      rintro e w2 ⟨ks, vs, rfl, hm, hb⟩
      have B2 : Below w.heap.size w w2 := B1.trans (hb.mono B1.size)
      have Bz2 := B2.size
      have g2 := (hb.block w.heap.size (by omega)).trans G2.out
      have G2' := Lib.hid g2
      have M1 := Lib.hid hm
      obtain ⟨ao1, cap1, rfl⟩ := ownsRow_form hm.keys
      obtain ⟨ao2, cap2, rfl⟩ := ownsRow_form hm.vals
      obtain ⟨c2, f2, l2, n2⟩ := block_cells g2
      have d0 := c2 0 _ rfl
      have d1 := c2 1 _ rfl
      clear hb hm g2 c2 k1 k2 k3 k4
      go_wp2_with fail
      refine bodyPost_ret (v := .tuple #[.agg #[.slice ao1 L.length cap1, .slice ao2 L.length cap2], .bool true]) (by simp [results, Try.results11, go_sem, *]) rfl ⟨_, _, rfl, ?_, by repeat' (first | with_reducible exact Below.refl _ _ | with_reducible assumption | with_reducible apply below_drewN | with_reducible apply Below.drew | with_reducible refine Below.setCell ?_ ?_ _ | with_reducible refine Below.alloc ?_ ?_ _ | omega | (simp; done) | (simp; omega))⟩
      exact ((M1.out.set G2'.out (by decide) (by decide) _ _).set (heap_setCell_cells G2'.out) (by decide) (by decide) _ _).below ((Below.refl _ _).alloc (Nat.le_refl _) _)
    · have hzd : (z != 0) = true := by simpa using h0
      rw [decide_eq_false h0]
      simp only [Bool.false_eq_true, if_false]
      go_enter Try.func11, Try.ntmps11
      go_wp2_with fail
      refine (rof_any ao n cap l _ (HL.out.below (by repeat' (first | with_reducible exact Below.refl _ _ | with_reducible assumption | with_reducible apply below_drewN | with_reducible apply Below.drew | with_reducible refine Below.setCell ?_ ?_ _ | with_reducible refine Below.alloc ?_ ?_ _ | omega | (simp; done) | (simp; omega)))) HN.out (by omega) HU.out).mono ?_
      rw [← HR.out]
      rintro e w1 ⟨mo, mc, rfl, -, -, hb⟩
      have B1 : Below w.heap.size w w1 := Below.trans (by repeat' (first | with_reducible exact Below.refl _ _ | with_reducible assumption | with_reducible apply below_drewN | with_reducible apply Below.drew | with_reducible refine Below.setCell ?_ ?_ _ | with_reducible refine Below.alloc ?_ ?_ _ | omega | (simp; done) | (simp; omega))) (hb.mono (by first | omega | (simp; done) | (simp; omega)))
      have Bz1 := B1.size
      obtain ⟨k1, k2, k3, k4⟩ := keepB hb w.heap.size (by first | omega | (simp; done) | (simp; omega))
      have g2 : w1.heap[w.heap.size]? = some (.cells #[.slice none 0 0, .slice none 0 0] 31) := (hb.block w.heap.size (by simp)).trans (by (repeat (first | assumption | (refine heap_new _ _ _ ?_; simp; done) | refine heap_old _ _ _ _ ?_)))
      have G2 := Lib.hid g2
      clear hb g2
      go_wp2_with fail
      refine bodyPost_ret (v := .tuple #[.agg #[.slice none 0 0, .slice none 0 0], .bool false]) (by simp [results, Try.results11, go_sem, *]) rfl ⟨_, _, rfl, MapuIs.nil _, by repeat' (first | with_reducible exact Below.refl _ _ | with_reducible assumption | with_reducible apply below_drewN | with_reducible apply Below.drew | with_reducible refine Below.setCell ?_ ?_ _ | with_reducible refine Below.alloc ?_ ?_ _ | omega | (simp; done) | (simp; omega))⟩

theorem memory_no (ao : Option Addr) (n cap : Nat) (l : List (Int × Int)) (w : World) (ht : tryB l = false) (hl : Atc w ao l) (hn : n = l.length) (hu : ∀ p ∈ l, U64 p.1 ∧ U64 p.2) :
    Calls Try.prog 11 #[.slice ao n cap] w (fun e w' => ∃ ks vs, e = .returned (.tuple #[.agg #[ks, vs], .bool false]) ∧ MapuIs w' ks vs [] ∧ Below w.heap.size w w') := by
  have := memory_any ao n cap l w hl hn hu
  rw [ht] at this
  simpa using this
theorem memory_yes (ao : Option Addr) (n cap : Nat) (l : List (Int × Int)) (w : World) (ht : tryB l = true) (hl : Atc w ao l) (hn : n = l.length) (hu : ∀ p ∈ l, U64 p.1 ∧ U64 p.2) :
    Calls Try.prog 11 #[.slice ao n cap] w (fun e w' => ∃ ks vs, e = .returned (.tuple #[.agg #[ks, vs], .bool true]) ∧ MapuIs w' ks vs (cellsL l) ∧ Below w.heap.size w w') := by
  have := memory_any ao n cap l w hl hn hu
  rw [ht] at this
  simpa using this
theorem try_len {l : List (Int × Int)} (h : tryB l = true) : l.length ≤ 200 := by
  unfold tryB at h
  simp at h
  exact h.1

theorem arg_ask {w : World} {base : Nat} {v : Value} (h : Value.okWide Try.prog w .any base 25 v) : ∃ t va b, v = .agg #[.int .u64 t, .int .u64 va, .bool b] ∧ U64 t ∧ U64 va := by
  obtain ⟨l, rfl, hl, hc⟩ := agg_cells Try.underlying25 (by kernel_rfl) (show Try.prog.cellTypes Try.prog.depth 25 = some [23, 23, 4] by kernel_rfl) rfl h
  obtain ⟨c0, h0, k0⟩ := hc 0 _ rfl
  obtain ⟨c1, h1, k1⟩ := hc 1 _ rfl
  obtain ⟨c2, h2, k2⟩ := hc 2 _ rfl
  obtain ⟨a, rfl, ha⟩ := cell_u64 Try.underlying23 k0
  obtain ⟨b, rfl, hb⟩ := cell_u64 Try.underlying23 k1
  obtain ⟨c, rfl⟩ := cell_bool Try.underlying4 k2
  match l, hl with
  | [x, y, z], _ =>
    simp at h0 h1 h2
    subst h0 h1 h2
    exact ⟨a, b, c, rfl, ha, hb⟩

end Go.Proofs.Ytogoclcjkekplaa
