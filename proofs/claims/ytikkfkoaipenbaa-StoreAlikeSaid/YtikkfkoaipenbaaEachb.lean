/- Each of a map of words, its pairs held to be words: for a round that asks it. -/
import Derived.Test.YtikkfkoaipenbaaEachu
namespace Go.Proofs.Ytikkfkoaipenbaa
open Go.RowKit Go.Shelf
attribute [local go_sem] Oper.semAt_some

/-- A pair of words. -/
abbrev UP : Type := { p : Int × Int // U64 p.1 ∧ U64 p.2 }
def encp (x : UP) : Array Value := #[.int .u64 x.1.1, .int .u64 x.1.2]

set_option maxRecDepth 100000 in
set_option maxHeartbeats 1000000 in
theorem each1p_none (F : Fence) (n : Nat) (h : F.fn 45) (hro : F.round = none) (l Bs : Nat) (ao : Option Addr) (cap : Nat) (J : List UP → World → Prop) (W : World) (hB : W.cell? ⟨Bs, 0, none⟩ = some (.slice ao 0 cap)) (h0 : J [] W) :
    CallsIn F n Try.prog 45 #[.func (.yield l) #[] #[], .pointer (some ⟨Bs, 0, none⟩)] W fun e W' => (∃ v, e = .returned v) ∧ J [] W' := by
  refine callsIn_of_wp Try.func45 rfl h ?_ hro
  simp only [Try.ntmps45, List.size_toArray, List.length_cons, List.length_nil, Nat.reduceAdd, Nat.reduceSub, Array.replicate_succ, Array.replicate_zero, List.push_toArray, List.append_toArray, List.nil_append, List.cons_append]
  gi_wp2
  gi_loopw [8] (fun i wr => i = .int .i64 0 ∧ J [] wr) (fun _ _ => 0)
  case atStart => exact ⟨rfl, h0⟩
  case round =>
    obtain ⟨rfl, hJs⟩ := hrel
    gi_wp2
    go_end0
    exact ⟨⟨_, rfl⟩, hJs⟩

set_option maxRecDepth 100000 in
set_option maxHeartbeats 2000000 in
theorem each1p_in (F : Fence) (n : Nat) (h : F.fn 45) (hro : F.round = none) (hn : 1 ≤ n) (l Bs n0 g c1 g2 c2 m : Nat) (L : List UP) (hm0 : m = L.length) (hm1 : m ≤ 1000) (hg : g < n0) (hg2 : g2 < n0) (J Jx : List UP → World → Prop)
    (hY : ∀ pre x W, J pre W → pre.length < L.length → YieldAt F (n - 1) Try.prog l (encp x) W fun e W' =>
      (e = .returned (.bool true) ∧ J (pre ++ [x]) W' ∧ KeepNu n0 Bs W W') ∨ (e = .returned (.bool false) ∧ Jx (pre ++ [x]) W'))
    (W : World) (hB1 : W.cell? ⟨Bs, 0, none⟩ = some (.slice (some ⟨g, 0, none⟩) m c1)) (hB2 : W.cell? ⟨Bs, 1, none⟩ = some (.slice (some ⟨g2, 0, none⟩) m c2))
    (hk : ∀ (j : Nat) (h : j < L.length), W.cell? ⟨g, j, none⟩ = some (.int .u64 (L[j].1.1))) (hv : ∀ (j : Nat) (h : j < L.length), W.cell? ⟨g2, j, none⟩ = some (.int .u64 (L[j].1.2))) (h0 : J [] W) :
    CallsIn F n Try.prog 45 #[.func (.yield l) #[] #[], .pointer (some ⟨Bs, 0, none⟩)] W fun e W' => (∃ v, e = .returned v) ∧
      ((∃ ys, ys = L ∧ J ys W') ∨ (∃ pre, (∃ k, k ≤ L.length ∧ pre = L.take k) ∧ Jx pre W')) := by
  have HM := Lib.hid hm0
  have HK := Lib.hid hk
  have HV := Lib.hid hv
  have HY := Lib.hid hY
  have HB1 := Lib.hid hB1
  have HB2 := Lib.hid hB2
  clear hm0 hk hv hY hB2
  refine callsIn_of_wp Try.func45 rfl h ?_ hro
  simp only [Try.ntmps45, List.size_toArray, List.length_cons, List.length_nil, Nat.reduceAdd, Nat.reduceSub, Array.replicate_succ, Array.replicate_zero, List.push_toArray, List.append_toArray, List.nil_append, List.cons_append]
  gi_wp2
  gi_loopw [8] (fun i wr => ∃ k : Nat, k ≤ m ∧ i = .int .i64 k ∧ J (L.take k) wr ∧ KeepNu n0 Bs W wr) (fun i _ => m - (intOf i).toNat)
  case atStart => exact ⟨0, Nat.zero_le _, rfl, h0, Below.refl _ _, rfl⟩
  case round =>
    obtain ⟨k, hk, rfl, hJs, hnx⟩ := hrel
    clear hB1
    by_cases hlt : k < m
    · have hkl : k < L.length := by rw [← HM.out]; exact hlt
      obtain ⟨fn, tmps, assign, body, hy, hR⟩ := HY.out (L.take k) L[k] wr hJs (by rw [List.length_take]; omega)
      have hK := (hnx.1.cell (p := ⟨g, k, none⟩) hg).trans (HK.out k hkl)
      have hV := (hnx.1.cell (p := ⟨g2, k, none⟩) hg2).trans (HV.out k hkl)
      have hC := (World.cell?_of_block (a := ⟨Bs, 1, none⟩) hnx.2).trans HB2.out
      have HT := Lib.hid (show L.take k ++ [L[k]] = L.take (k + 1) from (List.take_succ_eq_append_getElem hkl).symm)
      unfold encp at hy
      generalize L[k] = x at hy hR hK hV HT
      gi_wp2
      refine hR.mono ?_
      rintro e W3 (⟨rfl, hJ3, hk3⟩ | ⟨rfl, hJx3⟩)
      · gi_wp2
        go_roundw
        case rel => exact ⟨k + 1, by omega, by go_num, by rw [← HT.out]; exact hJ3, hnx.trans hk3⟩
        case measure => simp [intOf]; omega
      · gi_wp2
        refine bodyPost_ret (results_none rfl _ _ _) rfl ?_
        exact ⟨⟨_, rfl⟩, .inr ⟨_, ⟨k + 1, by omega, HT.out⟩, hJx3⟩⟩
    · obtain rfl : k = m := by omega
      gi_wp2
      go_end0
      exact ⟨⟨_, rfl⟩, .inl ⟨_, by rw [HM.out, List.take_length], hJs⟩⟩

/-- THE CONTRACT OF WHAT Each RETURNS. -/
theorem eachp_stops (F : Fence) (n : Nat) (h : F.fn 45) (hro : F.round = none) (hn : 1 ≤ n) (Bs : Nat) (ks vs : Value) (L : List UP) (hL : L.length ≤ 1000) (w0 w : World)
    (hm : MapuIs w0 ks vs (L.map Subtype.val)) (hw : Below w0.heap.size w0 w) (hB : w.heap[Bs]? = some (.cells #[ks, vs] 53)) :
    SeqStopsK F n Try.prog 45 #[.pointer (some ⟨Bs, 0, none⟩)] encp (KeepNu w0.heap.size Bs) (fun ys => ys = L) (fun pre => ∃ k, k ≤ L.length ∧ pre = L.take k) L.length w := fun l J Jx W hW _ _ hY h0 => by
  have hlt := (Array.getElem?_eq_some_iff.1 hB).1
  have hBW : W.heap[Bs]? = some (.cells #[ks, vs] 53) := (hW.block Bs hlt).trans hB
  obtain ⟨hc, -, -, -⟩ := block_cells hBW
  have c0 := hc 0 _ rfl
  have c1 := hc 1 _ rfl
  have hmW : MapuIs W ks vs (L.map Subtype.val) := (hm.below hw).below hW
  rcases hm.keys.2 with ⟨rfl, hl⟩ | ⟨g, cap, cur, rfl, _, hg, _⟩
  · obtain rfl : L = [] := List.map_eq_nil_iff.1 (List.eq_nil_of_length_eq_zero hl)
    exact (each1p_none F n h hro l Bs none 0 J W c0 h0).mono fun e W' ⟨he, hj⟩ => ⟨he, .inl ⟨_, rfl, hj⟩⟩
  · rcases hm.vals.2 with ⟨rfl, hl⟩ | ⟨g2, cap2, cur2, rfl, _, hg2, _⟩
    · obtain rfl : L = [] := List.map_eq_nil_iff.1 (List.eq_nil_of_length_eq_zero hl)
      exact (each1p_none F n h hro l Bs (some ⟨g, 0, none⟩) cap J W c0 h0).mono fun e W' ⟨he, hj⟩ => ⟨he, .inl ⟨_, rfl, hj⟩⟩
    · exact each1p_in F n h hro hn l Bs w0.heap.size g cap g2 cap2 L.length L rfl hL (Array.getElem?_eq_some_iff.1 hg).1 (Array.getElem?_eq_some_iff.1 hg2).1 J Jx hY W (by simpa using c0) (by simpa using c1) (fun j h => by have := hmW.key j (by simpa using h); simpa using this) (fun j h => by have := hmW.val j (by simpa using h); simpa using this) h0

end Go.Proofs.Ytikkfkoaipenbaa
