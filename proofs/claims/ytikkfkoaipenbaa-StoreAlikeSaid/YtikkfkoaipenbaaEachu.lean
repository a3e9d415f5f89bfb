/- Maps of package store: Each, a function to range over: its contract. -/
import Derived.RangeFuncNested
import Derived.RangeFuncBound
import Derived.RangeFuncCalls
import Derived.RangeFuncLeaves
import Derived.RangeFuncBox
import Derived.Shelf.Abstract
import Derived.Shelf.RegionOpen
import Derived.WalkKit
import Derived.OwnWalkIn
import Derived.TacticsInMore
import Derived.LoopNIn
import Derived.LoopIn
import Derived.Test.YtikkfkoaipenbaaMapua
import Derived.Test.YtikkfkoaipenbaaOwn
namespace Go.Proofs.Ytikkfkoaipenbaa
open Go.RowKit Go.Shelf
attribute [local go_sem] Oper.semAt_some

/-- What a round keeps: whatever lay below n0, and the box of the map. -/
def KeepNu (n0 Bs : Nat) (W W' : World) : Prop := Below n0 W W' ∧ W'.heap[Bs]? = W.heap[Bs]?
theorem KeepNu.trans {n0 Bs : Nat} {A B C : World} (h : KeepNu n0 Bs A B) (k : KeepNu n0 Bs B C) : KeepNu n0 Bs A C := ⟨h.1.trans k.1, k.2.trans h.2⟩
theorem KeepNu.put {n0 Bs : Nat} {w : World} (hn : n0 ≤ w.heap.size) (hB : Bs < w.heap.size) (W : World) (l : Nat) (o o' : Obj) (hl : w.heap.size ≤ l) (h : W.heap[l]? = some o) (h1 : o.isCells = false) (h2 : o.isWalk = false) : KeepNu n0 Bs W (W.putObj l o') :=
  ⟨belowK_b hn W l o o' hl h h1 h2, World.putObj_heap_other (by omega)⟩

/-- How a round is handed a pair. -/
def encu (x : Int × Int) : Array Value := #[.int .u64 x.1, .int .u64 x.2]

set_option maxRecDepth 100000 in
set_option maxHeartbeats 1000000 in
theorem eachu_in (F : Fence) (n : Nat) (h : F.fn 38) (hro : F.round = none) (ao bo : Option Addr) (n1 c1 n2 c2 : Nat) (w : World) :
    CallsIn F n Try.prog 38 #[.agg #[.slice ao n1 c1, .slice bo n2 c2]] w fun e w' =>
      e = .returned (.func (.func 45) #[] #[.pointer (some ⟨w.heap.size, 0, none⟩)]) ∧ w' = w.alloc (.cells #[.slice ao n1 c1, .slice bo n2 c2] 53) := by
  refine callsIn_of_wp Try.func38 rfl h ?_ hro
  simp only [Try.ntmps38, List.size_toArray, List.length_cons, List.length_nil, Nat.reduceAdd, Nat.reduceSub, Array.replicate_succ, Array.replicate_zero, List.push_toArray, List.append_toArray, List.nil_append, List.cons_append]
  gi_wp2
  go_ret
  exact ⟨rfl, rfl⟩

set_option maxRecDepth 100000 in
set_option maxHeartbeats 1000000 in
theorem each1u_none (F : Fence) (n : Nat) (h : F.fn 45) (hro : F.round = none) (l Bs : Nat) (ao : Option Addr) (cap : Nat) (J : List (Int × Int) → World → Prop) (W : World) (hB : W.cell? ⟨Bs, 0, none⟩ = some (.slice ao 0 cap)) (h0 : J [] W) :
    CallsIn F n Try.prog 45 #[.func (.yield l) #[] #[], .pointer (some ⟨Bs, 0, none⟩)] W fun e W' => (∃ v, e = .returned v) ∧ J [] W' := by
  refine callsIn_of_wp Try.func45 rfl h ?_ hro
  simp only [Try.ntmps45, List.size_toArray, List.length_cons, List.length_nil, Nat.reduceAdd, Nat.reduceSub, Array.replicate_succ, Array.replicate_zero, List.push_toArray, List.append_toArray, List.nil_append, List.cons_append]
  gi_wp2
  gi_loopw [8] (fun i wr => i = .int .i64 0 ∧ J [] wr) (fun _ _ => 0)
  case atStart => exact ⟨rfl, h0⟩
  case round =>
    obtain ⟨rfl, hJs⟩ := hrel
    gi_wp2
    go_end0
    exact ⟨⟨_, rfl⟩, hJs⟩

set_option maxRecDepth 100000 in
set_option maxHeartbeats 2000000 in
theorem each1u_in (F : Fence) (n : Nat) (h : F.fn 45) (hro : F.round = none) (hn : 1 ≤ n) (l Bs n0 g c1 g2 c2 m : Nat) (L : List (Int × Int)) (hm0 : m = L.length) (hm1 : m ≤ 1000) (hg : g < n0) (hg2 : g2 < n0) (J Jx : List (Int × Int) → World → Prop)
    (hY : ∀ pre x W, J pre W → pre.length < L.length → YieldAt F (n - 1) Try.prog l (encu x) W fun e W' =>
      (e = .returned (.bool true) ∧ J (pre ++ [x]) W' ∧ KeepNu n0 Bs W W') ∨ (e = .returned (.bool false) ∧ Jx (pre ++ [x]) W'))
    (W : World) (hB1 : W.cell? ⟨Bs, 0, none⟩ = some (.slice (some ⟨g, 0, none⟩) m c1)) (hB2 : W.cell? ⟨Bs, 1, none⟩ = some (.slice (some ⟨g2, 0, none⟩) m c2))
    (hk : ∀ (j : Nat) (h : j < L.length), W.cell? ⟨g, j, none⟩ = some (.int .u64 (L[j].1))) (hv : ∀ (j : Nat) (h : j < L.length), W.cell? ⟨g2, j, none⟩ = some (.int .u64 (L[j].2))) (h0 : J [] W) :
    CallsIn F n Try.prog 45 #[.func (.yield l) #[] #[], .pointer (some ⟨Bs, 0, none⟩)] W fun e W' => (∃ v, e = .returned v) ∧
      ((∃ ys, ys = L ∧ J ys W') ∨ (∃ pre, (∃ k, k ≤ L.length ∧ pre = L.take k) ∧ Jx pre W')) := by
  have HM := Lib.hid hm0
  have HK := Lib.hid hk
  have HV := Lib.hid hv
  have HY := Lib.hid hY
  have HB1 := Lib.hid hB1
  have HB2 := Lib.hid hB2
  clear hm0 hk hv hY hB2
  refine callsIn_of_wp Try.func45 rfl h ?_ hro
  simp only [Try.ntmps45, List.size_toArray, List.length_cons, List.length_nil, Nat.reduceAdd, Nat.reduceSub, Array.replicate_succ, Array.replicate_zero, List.push_toArray, List.append_toArray, List.nil_append, List.cons_append]
  gi_wp2
  gi_loopw [8] (fun i wr => ∃ k : Nat, k ≤ m ∧ i = .int .i64 k ∧ J (L.take k) wr ∧ KeepNu n0 Bs W wr) (fun i _ => m - (intOf i).toNat)
  case atStart => exact ⟨0, Nat.zero_le _, rfl, h0, Below.refl _ _, rfl⟩
  case round =>
    obtain ⟨k, hk, rfl, hJs, hnx⟩ := hrel
    clear hB1
    by_cases hlt : k < m
    · have hkl : k < L.length := by rw [← HM.out]; exact hlt
      obtain ⟨fn, tmps, assign, body, hy, hR⟩ := HY.out (L.take k) L[k] wr hJs (by rw [List.length_take]; omega)
      have hK := (hnx.1.cell (p := ⟨g, k, none⟩) hg).trans (HK.out k hkl)
      have hV := (hnx.1.cell (p := ⟨g2, k, none⟩) hg2).trans (HV.out k hkl)
      have hC := (World.cell?_of_block (a := ⟨Bs, 1, none⟩) hnx.2).trans HB2.out
      have HT := Lib.hid (show L.take k ++ [L[k]] = L.take (k + 1) from (List.take_succ_eq_append_getElem hkl).symm)
      unfold encu at hy
      generalize L[k] = x at hy hR hK hV HT
      gi_wp2
      refine hR.mono ?_
      rintro e W3 (⟨rfl, hJ3, hk3⟩ | ⟨rfl, hJx3⟩)
      · gi_wp2
        go_roundw
        case rel => exact ⟨k + 1, by omega, by go_num, by rw [← HT.out]; exact hJ3, hnx.trans hk3⟩
        case measure => simp [intOf]; omega
      · gi_wp2
        refine bodyPost_ret (results_none rfl _ _ _) rfl ?_
        exact ⟨⟨_, rfl⟩, .inr ⟨_, ⟨k + 1, by omega, HT.out⟩, hJx3⟩⟩
    · obtain rfl : k = m := by omega
      gi_wp2
      go_end0
      exact ⟨⟨_, rfl⟩, .inl ⟨_, by rw [HM.out, List.take_length], hJs⟩⟩

/-- THE CONTRACT OF WHAT Each RETURNS. -/
theorem eachu_stops (F : Fence) (n : Nat) (h : F.fn 45) (hro : F.round = none) (hn : 1 ≤ n) (Bs : Nat) (ks vs : Value) (L : List (Int × Int)) (hL : L.length ≤ 1000) (w0 w : World)
    (hm : MapuIs w0 ks vs L) (hw : Below w0.heap.size w0 w) (hB : w.heap[Bs]? = some (.cells #[ks, vs] 53)) :
    SeqStopsK F n Try.prog 45 #[.pointer (some ⟨Bs, 0, none⟩)] encu (KeepNu w0.heap.size Bs) (fun ys => ys = L) (fun pre => ∃ k, k ≤ L.length ∧ pre = L.take k) L.length w := fun l J Jx W hW _ _ hY h0 => by
  have hlt := (Array.getElem?_eq_some_iff.1 hB).1
  have hBW : W.heap[Bs]? = some (.cells #[ks, vs] 53) := (hW.block Bs hlt).trans hB
  obtain ⟨hc, -, -, -⟩ := block_cells hBW
  have c0 := hc 0 _ rfl
  have c1 := hc 1 _ rfl
  have hmW : MapuIs W ks vs L := (hm.below hw).below hW
  rcases hm.keys.2 with ⟨rfl, hl⟩ | ⟨g, cap, cur, rfl, _, hg, _⟩
  · obtain rfl := List.eq_nil_of_length_eq_zero hl
    exact (each1u_none F n h hro l Bs none 0 J W c0 h0).mono fun e W' ⟨he, hj⟩ => ⟨he, .inl ⟨_, rfl, hj⟩⟩
  · rcases hm.vals.2 with ⟨rfl, hl⟩ | ⟨g2, cap2, cur2, rfl, _, hg2, _⟩
    · obtain rfl := List.eq_nil_of_length_eq_zero hl
      exact (each1u_none F n h hro l Bs (some ⟨g, 0, none⟩) cap J W c0 h0).mono fun e W' ⟨he, hj⟩ => ⟨he, .inl ⟨_, rfl, hj⟩⟩
    · exact each1u_in F n h hro hn l Bs w0.heap.size g cap g2 cap2 L.length L rfl hL (Array.getElem?_eq_some_iff.1 hg).1 (Array.getElem?_eq_some_iff.1 hg2).1 J Jx hY W c0 c1 hmW.key hmW.val h0

end Go.Proofs.Ytikkfkoaipenbaa
