/- slices.Delete of one entry of a row of one's own. -/
import Derived.Test.YtcaggboeacgknaaInsb
import Derived.Lib.SliceRun
namespace Go.Proofs.Ytcaggboeacgknaa
open Go.RowKit
set_option linter.unusedSimpArgs false
set_option linter.unusedVariables false


theorem run_clear_E (w : World) (ty : TypeId) (b o c : Nat) (hc : ∀ j, j < 4 → (w.cell? ⟨b, o + j, none⟩).isSome = true) (hf : ∀ j, j < 4 → w.frozen? ⟨b, o + j, none⟩ = false) :
    (Builtin.clear_ #[40] ty #[.slice (some ⟨b, o, none⟩) 1 c]).run Try.prog w = .ok (.tuple #[]) (w.setCells b o [.int .i64 0, .int .u64 0, .int .u64 0, .int .u64 0]) := by
  obtain ⟨i0, hi0, hz0, hz1, hz2⟩ := info_parts infoE
  have hst := run_storeCells_cells (P := Try.prog) b o [.int .i64 0, .int .u64 0, .int .u64 0, .int .u64 0] 0 w (by simpa using hc) (by simpa using hf) (by simp [Value.oneCell'])
  simp only [Nat.add_zero] at hst
  have hv : ∀ w, (zeroValue 27).run Try.prog w = .ok (.agg #[.int .i64 0, .int .u64 0, .int .u64 0, .int .u64 0]) w := fun w => by simp [zeroValue, typeInfo, hi0, hz0]
  have hzc : (Builtin.zeroCells (Value.agg #[.int .i64 0, .int .u64 0, .int .u64 0, .int .u64 0]).cells 1).toList = [.int .i64 0, .int .u64 0, .int .u64 0, .int .u64 0] := by (simp [Builtin.zeroCells, Value.cells]; rfl)
  simp [Builtin.clear_, run_underlying Try.underlying40, hv, hzc, hst]

set_option maxRecDepth 100000 in
set_option maxHeartbeats 8000000 in
theorem del_one (b n c i : Nat) (cs : List Value) (w : World) (hi : i < n) (hnc : n ≤ c) (hc63 : c ≤ 9223372036854775807)
    (hcl : cs.length = n * 4) (hcs : ∀ j v, cs[j]? = some v → w.cell? ⟨b, j, none⟩ = some v) (hfz : ∀ j, j < n * 4 → w.frozen? ⟨b, j, none⟩ = false) (h1c : ∀ v ∈ cs, v.oneCell' = true) :
    Calls Try.prog 56 #[.slice (some ⟨b, 0, none⟩) n c, .int .i64 i, .int .i64 ((i : Int) + 1)] w fun e w' =>
      e = .returned (.slice (some ⟨b, 0, none⟩) (i + (n - (i + 1))) c) ∧ w' = (w.drew.setCells b (i * 4) (cs.drop ((i + 1) * 4))).setCells b ((i + (n - (i + 1))) * 4) [.int .i64 0, .int .u64 0, .int .u64 0, .int .u64 0] := by
  obtain ⟨i0, hi0, hz0, hz1, hz2⟩ := info_parts infoE
  obtain ⟨news, hnews⟩ : ∃ news, news = cs.drop ((i + 1) * 4) := ⟨_, rfl⟩
  have hlen : news.length = (n - (i + 1)) * 4 := by rw [hnews, List.length_drop, hcl]; omega
  have hsm : ∀ j, j < n * 4 → (w.cell? ⟨b, j, none⟩).isSome = true := fun j hj => by
    rw [hcs j _ (List.getElem?_eq_getElem (by omega))]
    rfl
  obtain ⟨A, hA, hsrc⟩ : ∃ A : Addr, (if c = i + 1 then some (⟨b, 0, none⟩ : Addr) else some ⟨b, (i + 1) * 4, none⟩) = some A ∧ Hid (∀ t u, news[t]? = some u → w.drew.cell? (A.add t) = some u) := by
    by_cases h : c = i + 1
    · refine ⟨⟨b, 0, none⟩, by simp [h], Lib.hid fun t u hu => ?_⟩
      have h0 : news.length = 0 := by rw [hlen]; omega
      rw [List.length_eq_zero_iff.1 h0] at hu
      simp at hu
    · refine ⟨⟨b, (i + 1) * 4, none⟩, by simp [h], Lib.hid fun t u hu => ?_⟩
      rw [Addr.add_lit]
      refine hcs _ u ?_
      rw [hnews, List.getElem?_drop] at hu
      exact hu
  have s1 : Hid (news.length = (n - (i + 1)) * 4) := Lib.hid hlen
  have s2 : Hid (∀ u ∈ news, u.oneCell' = true) := Lib.hid fun u hu => h1c u (by rw [hnews] at hu; exact List.mem_of_mem_drop hu)
  have s3 : Hid (∀ t, t < news.length → (w.drew.cell? ⟨b, 0 + i * 4 + t, none⟩).isSome = true ∧ w.drew.frozen? ⟨b, 0 + i * 4 + t, none⟩ = false) := Lib.hid fun t ht => by
    rw [hlen] at ht
    rw [Nat.zero_add]
    exact ⟨hsm _ (by omega), hfz _ (by omega)⟩
  obtain ⟨W1, hW1⟩ : ∃ W1, W1 = w.drew.setCells b (0 + i * 4) news := ⟨_, rfl⟩
  have hsm1 : ∀ j, j < n * 4 → (W1.cell? ⟨b, j, none⟩).isSome = true := fun j hj => by
    rw [hW1]
    exact isSome_setC b news _ w.drew (fun t ht => ((s3.out t ht).1)) j (hsm j hj)
  have hfz1 : ∀ j, j < n * 4 → W1.frozen? ⟨b, j, none⟩ = false := fun j hj => by
    rw [hW1, World.frozen?_setCells]
    exact hfz j hj
  have hcl : ∀ ty c', (Builtin.clear_ #[40] ty #[.slice (some ⟨b, (i + (n - (i + 1))) * 4, none⟩) (n - (i + (n - (i + 1)))) c']).run Try.prog W1 = .ok (.tuple #[]) (W1.setCells b ((i + (n - (i + 1))) * 4) [.int .i64 0, .int .u64 0, .int .u64 0, .int .u64 0]) := fun ty c' => by
    rw [show n - (i + (n - (i + 1))) = 1 by omega]
    exact run_clear_E W1 ty b _ c' (fun j hj => hsm1 _ (by omega)) (fun j hj => hfz1 _ (by omega))
  have hW : Hid (W1 = w.drew.setCells b (0 + i * 4) news) := Lib.hid hW1
  have hN : Hid (news = cs.drop ((i + 1) * 4)) := Lib.hid hnews
  have hic : i ≤ c := by omega
  have hjc : i + 1 ≤ c := by omega
  have hne : ¬ ((i : Int) = (i : Int) + 1) := by omega
  have hb1 : (0 : Int) ≤ (i : Int) + 1 := by omega
  have htn : ((i : Int) + 1).toNat = i + 1 := by omega
  have hb2 : (i : Int) + 1 ≤ (n : Int) := by omega
  have hb3 : (i : Int) + 1 ≤ (c : Int) := by omega
  have hb4 : (i : Int) ≤ (c : Int) := by omega
  have hb5 : ¬ (c = i + (n - (i + 1))) := by omega
  have hb6 : i + (n - (i + 1)) ≤ n := by omega
  clear hW1 hsm1 hfz1 hcs hsm hnews hlen hfz h1c
  go_enter Try.func56, Try.ntmps56
  go_wp2_with fail
  go_region_law (refine step_append_room rfl (.tmp 22) (.tmp 25) 40 rfl 27 i0 4 Try.underlying40 hi0 hz1 b 0 i c (by simp [Act.eval, Act.put]) A (n - (i + 1)) (c - (i + 1)) news (by simp [Act.eval, Act.put]) s1.out hsrc.out s2.out (by omega) s3.out ?_; rw [← hW.out])
  go_wp2
  go_ret
  refine ⟨rfl, ?_⟩
  rw [hW.out, hN.out, Nat.zero_add]

theorem two_runs3 {W : World} {b i n : Nat} {cs zs : List Value} (hi : i < n) (hcl : cs.length = n * 4) (hsp : ∀ j, j < n * 4 → (W.cell? ⟨b, j, none⟩).isSome = true)
    (hc : ∀ j, j < i * 4 → W.cell? ⟨b, j, none⟩ = cs[j]?) : ∀ j, j < (n - 1) * 4 → ((W.setCells b (i * 4) (cs.drop ((i + 1) * 4))).setCells b ((n - 1) * 4) zs).cell? ⟨b, j, none⟩ = (cs.take (i * 4) ++ cs.drop ((i + 1) * 4))[j]? := by
  intro j hj
  have hdl : (cs.drop ((i + 1) * 4)).length = (n - (i + 1)) * 4 := by rw [List.length_drop, hcl]; omega
  have htl : (cs.take (i * 4)).length = i * 4 := by rw [List.length_take, hcl]; omega
  rw [World.cell?_setCells_out b _ _ _ ⟨b, j, none⟩ (fun _ _ => by show j < (n - 1) * 4 ∨ _; omega)]
  by_cases h1 : j < i * 4
  · rw [World.cell?_setCells_out b _ _ _ ⟨b, j, none⟩ (fun _ _ => by show j < i * 4 ∨ _; omega), hc j h1, List.getElem?_append_left (by omega), List.getElem?_take_of_lt h1]
  · have := World.cell?_setCells_in b (cs.drop ((i + 1) * 4)) (i * 4) W (fun k hk => hsp _ (by omega)) (j - i * 4) (by omega)
    rw [show i * 4 + (j - i * 4) = j by omega] at this
    rw [this, List.getElem?_append_right (by omega), htl, List.getElem?_eq_getElem (by omega)]

/-- THE CONTRACT OF slices.Delete OF ONE ENTRY. -/
theorem delete_any (base : Nat) (v : Value) (L : List E) (i : Nat) (w : World) (hown : RowE w base v L) (hi : i < L.length) (hlen : L.length ≤ 1000) :
    Calls Try.prog 56 #[v, .int .i64 (i : Nat), .int .i64 ((i : Nat) + 1)] w (RetIns base (L.take i ++ L.drop (i + 1)) w) := by
  have h1 := hown
  unfold RowE at h1
  obtain ⟨g, cap, rfl, hnc, hcm, hbg, hgs, hcell⟩ := ownsRow_shape h1 (by omega)
  obtain ⟨cur, hcur, hcs⟩ : ∃ cur, w.heap[g]? = some (.cells cur 27) ∧ cur.size = cap * 4 := by
    rcases h1.2 with ⟨hv, _⟩ | ⟨g', cap', cur, hv, _, hg, _, _, hs, _⟩
    · cases hv
    · simp only [Value.slice.injEq, Option.some.injEq, Addr.mk.injEq, and_true, true_and] at hv
      obtain ⟨rfl, rfl⟩ := hv
      exact ⟨cur, hg, hs⟩
  have hfl := flatE_len L
  have hcs' : ∀ j u, (flatE L)[j]? = some u → w.cell? ⟨g, j, none⟩ = some u := fun j u hj => by
    have hj' := (List.getElem?_eq_some_iff.1 hj).1
    rw [hcell j (by omega), hj]
  refine (del_one g L.length cap i (flatE L) w hi hnc (by unfold maxLen at hcm; omega) hfl hcs' (fun j _ => by simp [World.frozen?, hcur]) (flatE_cells L)).mono ?_
  rintro x w' ⟨rfl, rfl⟩
  have he : i + (L.length - (i + 1)) = L.length - 1 := by omega
  rw [he]
  obtain ⟨c1, k1, k2⟩ := heap_setC (w := w) ((flatE L).drop ((i + 1) * 4)) (i * 4) w.drew cur hcur
  obtain ⟨c2, k3, k4⟩ := heap_setC (w := w) [.int .i64 0, .int .u64 0, .int .u64 0, .int .u64 0] ((L.length - 1) * 4) _ c1 k1
  have BB : Below base w ((w.drew.setCells g (i * 4) ((flatE L).drop ((i + 1) * 4))).setCells g ((L.length - 1) * 4) [.int .i64 0, .int .u64 0, .int .u64 0, .int .u64 0]) := below_setC hbg _ _ (below_setC hbg _ _ (by repeat' (first | with_reducible exact Below.refl _ _ | with_reducible assumption | with_reducible apply below_drewN | with_reducible apply Below.drew | with_reducible refine Below.setCell ?_ ?_ _ | with_reducible refine Below.alloc ?_ ?_ _ | omega | (simp; done) | (simp; omega))))
  have hln : (L.take i ++ L.drop (i + 1)).length = L.length - 1 := by simp; omega
  refine ⟨_, rfl, ?_, BB, BB.size⟩
  unfold RowE
  rw [hln, flatE_append, ← flatE_take, ← flatE_drop]
  refine own_of_cells k3 (by omega) (by simp [hfl]; omega) (two_runs3 (W := w.drew) hi hfl ?_ ?_) (by omega) hcm hbg
  · intro j hj
    show (w.cell? _).isSome = true
    have : j < cur.size := by omega
    simp [World.cell?, hcur, this]
  · intro j hj
    show w.cell? _ = _
    rw [hcell j (by omega)]

end Go.Proofs.Ytcaggboeacgknaa
