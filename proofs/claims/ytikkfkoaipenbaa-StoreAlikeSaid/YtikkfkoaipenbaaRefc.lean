/- The reference's Cells: those that hold something, rising. -/
import Derived.Test.YtikkfkoaipenbaaRefm
namespace Go.Proofs.Ytikkfkoaipenbaa
open Go.RowKit

theorem own_ne {w : World} {base : Nat} {e : TypeId} {size : Nat} {v : Value} {n : Nat} {xs : List Value} (h : w.ownsRow base e size v n xs) {row : Option Nat} (hr : ∀ k, row = some k → k < base) : v.ownBlock = none ∨ v.ownBlock ≠ row := by
  by_cases hv : v.ownBlock = none
  · exact .inl hv
  · obtain ⟨k, hk⟩ := Option.ne_none_iff_exists'.1 hv
    refine .inr fun e' => ?_
    have := (h.lt k hk).1
    have := hr k (by rw [← e', hk])
    omega

theorem ownsRow_len {w : World} {base : Nat} {e : TypeId} {size : Nat} {v : Value} {n n' : Nat} {xs : List Value} (h : w.ownsRow base e size v n xs) (e' : n = n') : w.ownsRow base e size v n' xs := e' ▸ h

theorem cellStep_take (l : List (Int × Int)) (j : Nat) (h : j < l.length) : (l.take (j + 1)).foldl (cellStep l) [] = cellStep l ((l.take j).foldl (cellStep l) []) l[j] := by
  rw [List.take_succ_eq_append_getElem h, List.foldl_append]
  rfl

theorem insL_flat (M : List (Int × Int)) (p : Int × Int) : flatc (insL M p) = (flatc M).take (posL M p.1 * 2) ++ [.int .u64 p.1, .int .u64 p.2] ++ (flatc M).drop (posL M p.1 * 2) := by
  unfold insL
  rw [flatc_append, flatc_take, flatc_drop, List.append_assoc]
  rfl

set_option maxRecDepth 100000 in
set_option maxHeartbeats 1000000 in
theorem rcells_any (ao : Option Addr) (n cap : Nat) (l : List (Int × Int)) (w : World) (hl : Atc w ao l) (hn : n = l.length) (hlen : l.length ≤ 1000) :
    Calls Try.prog 27 #[.slice ao n cap] w (RetRowc (cellsL l) w) := by
  obtain ⟨i0, hi, hz0, hz1, hz2⟩ := info_parts infocR
  have HL := Lib.hid hl
  have HN := Lib.hid hn
  rw [← hn] at hlen
  clear hl hn
  go_enter Try.func27, Try.ntmps27
  go_wp2_with fail
  go_loopw [3, 4] (fun o i wr => ∃ (j : Nat) (M : List (Int × Int)), i = .int .i64 j ∧ j ≤ n ∧ wr.ownsRow w.heap.size 73 2 o M.length (flatc M) ∧ M = (l.take j).foldl (cellStep l) [] ∧ Sorted M ∧ M.length ≤ j ∧ Below w.heap.size w wr) (fun _ i _ => n - (intOf i).toNat)
  case atStart => exact ⟨0, [], rfl, by omega, World.ownsRow_nil _ _ _ _, rfl, List.Pairwise.nil, by simp, Below.refl _ _⟩
  case round =>
    obtain ⟨j, M, rfl, hj, hown, hM, hs, hlM, hB⟩ := hrel
    obtain ⟨o, oc, rfl⟩ := ownsRow_form hown
    have HO := Lib.hid hown
    have HM := Lib.hid hM
    have HS := Lib.hid hs
    clear hown hM hs
    by_cases hlt : j < n
    · have hj1 : j < l.length := by rw [← HN.out]; omega
      obtain ⟨ad, rfl⟩ : ∃ ad, ao = some ad := by
        cases ao with
        | some ad => exact ⟨ad, rfl⟩
        | none => have := HL.out.1 rfl; rw [this] at hj1; simp at hj1
      obtain ⟨hc1, hc2⟩ := (HL.out.below hB).pair j hj1
      have HT := Lib.hid (cellStep_take l j hj1)
      rw [← HM.out] at HT
      generalize l[j]'hj1 = c at hc1 hc2 HT
      obtain ⟨a, cv⟩ := c
      simp only at hc1 hc2
      clear hj1
      go_wp2_with (go_at_call 29; refine (rread_any _ n cap l a _ (HL.out.below hB) HN.out (by have := HN.out; omega)).mono ?_; rintro e w1 ⟨rfl, rfl⟩)
      have hpl := posL_le M a
      have hcap := ownsRow_capN HO.out
      obtain ⟨q1, q2⟩ := hcap
      have HA := Lib.hid (Atc.of_row HO.out)
      have HPB := Lib.hid (pos_below M a)
      have HPA := Lib.hid (pos_at M a)
      have HHI := Lib.hid (has_iff M a HS.out)
      have HV : Hid (∃ v, v = readL l a) := Lib.hid ⟨_, rfl⟩
      obtain ⟨v, hv⟩ := HV.out
      have HV := Lib.hid hv
      rw [← hv]
      clear hv
      go_loop [7] (fun nn => ∃ q : Nat, nn = .int .i64 q ∧ q ≤ posL M a) (fun nn => M.length - (intOf nn).toNat)
      case atStart => exact ⟨0, rfl, by omega⟩
      case round =>
        obtain ⟨q, rfl, hq⟩ := hrel
        by_cases hql : q < posL M a
        · have hq1 : q < M.length := by omega
          obtain ⟨od, rfl⟩ : ∃ ad, o = some ad := by
            cases o with
            | some ad => exact ⟨ad, rfl⟩
            | none => have := HA.out.1 rfl; rw [this] at hq1; simp at hq1
          obtain ⟨hd1, hd2⟩ := HA.out.pair q hq1
          have hlt2 := HPB.out q hq1 hql
          generalize M[q]'hq1 = d at hd1 hd2 hlt2
          obtain ⟨da, dv⟩ := d
          simp only at hd1 hd2 hlt2
          go_wp2_with fail
          go_round
          case rel => exact ⟨q + 1, by go_num, by omega⟩
          case measure => first | (simp [intOf]; done) | (simp [intOf]; omega)
        · obtain rfl : q = posL M a := by omega
          clear hql hq
          by_cases hz : v = 0 ∨ hasL M a = true
          · have HZ : Hid (cellStep l M (a, cv) = M) := Lib.hid (by unfold cellStep; rw [if_pos]; simpa only [← HV.out] using hz)
            rw [HZ.out] at HT
            by_cases hA : posL M a = M.length
            · have hz' : v = 0 := by
                rcases hz with h | h
                · exact h
                · obtain ⟨h1, _⟩ := HHI.out.1 h
                  omega
              clear hz
              subst hz'
              rw [hA]
              go_wp2_with fail
              go_roundw
              case rel => exact ⟨j + 1, M, by go_num, by omega, HO.out, HT.out.symm, HS.out, by omega, hB⟩
              case measure => first | (simp [intOf]; done) | (simp [intOf]; omega)
            · have hq1 : posL M a < M.length := by omega
              obtain ⟨od, rfl⟩ : ∃ ad, o = some ad := by
                cases o with
                | some ad => exact ⟨ad, rfl⟩
                | none => have := HA.out.1 rfl; rw [this] at hq1; simp at hq1
              obtain ⟨hd1, hd2⟩ := HA.out.pair _ hq1
              have hge := HPA.out hq1
              have hz2 : v = 0 ∨ M[posL M a].1 = a := by
                rcases hz with h | h
                · exact .inl h
                · obtain ⟨_, h2⟩ := HHI.out.1 h
                  exact .inr h2
              clear hz
              generalize M[posL M a]'hq1 = d at hd1 hd2 hge hz2
              obtain ⟨da, dv⟩ := d
              simp only at hd1 hd2 hge hz2
              by_cases hv0 : v = 0
              · subst hv0
                clear hz2
                go_wp2_with fail
                go_roundw
                case rel => exact ⟨j + 1, M, by go_num, by omega, HO.out, HT.out.symm, HS.out, by omega, hB⟩
                case measure => first | (simp [intOf]; done) | (simp [intOf]; omega)
              · obtain rfl : da = a := by
                  rcases hz2 with h | h
                  · exact absurd h hv0
                  · exact h
                clear hz2 hge
                go_wp2_with fail
                go_roundw
                case rel => exact ⟨j + 1, M, by go_num, by omega, HO.out, HT.out.symm, HS.out, by omega, hB⟩
                case measure => first | (simp [intOf]; done) | (simp [intOf]; omega)
          · have hv0 : ¬ v = 0 := fun h => hz (.inl h)
            have hf : hasL M a = false := by
              cases e : hasL M a
              · rfl
              · exact absurd (.inr e) hz
            have HZ : Hid (cellStep l M (a, cv) = insL M (a, v)) := Lib.hid (by unfold cellStep; simp only [← HV.out]; rw [if_neg hz])
            rw [HZ.out] at HT
            have HF := Lib.hid hf
            clear hz hf
            have HEQ : Hid (posL M a + 1 + (M.length - posL M a) = M.length + 1) := Lib.hid (by omega)
            have HSN : Hid (Sorted (insL M (a, v))) := Lib.hid (by rw [insL_with M (a, v) HF.out]; exact sorted_with HS.out a v)
            by_cases hA : posL M a = M.length
            · have hge : M.length ≤ posL M a := by omega
              clear hA HPA HHI HA
              have hBs := hB.size
              have hv1 : (v == 0) = false := by simpa using hv0
              cases o with
              | none =>
                obtain ⟨hz0', hz1'⟩ := ownsRow_none' HO.out
                obtain rfl : M = [] := List.eq_nil_of_length_eq_zero hz0'
                subst hz1'
                rw [show posL [] a = 0 from rfl, show ([] : List (Int × Int)).length = 0 from rfl]
                clear hz0' hge hpl q1
                go_wp2_with (first | (at_builtin; refine wpList_append_gen rfl (.tmp 62) (.tmp 66) 51 rfl w.heap.size 73 i0 (.agg #[.int .u64 0, .int .u64 0]) 2 16 Try.underlying51 hi hz0 hz1 hz2 rfl (by decide) _ 0 [] rfl (World.ownsRow_nil _ _ _ _) (some ⟨wr.heap.size + 1, 0, none⟩) 1 1 [.int .u64 a, .int .u64 v] rfl (fun h => (by cases h)) rfl (fun ad h => (by cases h; exact two_new' _ _ _ _ _ (by simp))) (flatc_cells [(a, v)]) (by unfold maxLen; omega) (by omega) (by simp; omega) ?_; intro a2 c2 wb ho hg _; have G4 := Lib.hid ho; have G6 := Lib.hid (((hB.alloc hBs _).alloc (by simp; omega) _).grown hg (by simp; omega) (fun k h => by cases h)); have G7 := (G4.out.lt); clear ho hg) | (at_builtin; refine wpList_append_gen rfl (.tmp 68) (.tmp 69) 51 rfl w.heap.size 73 i0 (.agg #[.int .u64 0, .int .u64 0]) 2 16 Try.underlying51 hi hz0 hz1 hz2 rfl (by decide) _ _ _ rfl G4.out (some ⟨wr.heap.size, 0, none⟩) 0 0 [] rfl (fun h => (by cases h)) rfl (fun ad h j u hj => (by simp at hj)) (fun u hu => (by simp at hu)) (by unfold maxLen; omega) (by omega) G6.out.size ?_; intro a3 c3 wc ho hg _; have G5 := Lib.hid ho; have G8 := Lib.hid (G6.out.grown hg G6.out.size (fun k h => (G4.out.lt k h).1)); clear ho hg))
                go_roundw
                case rel => exact ⟨j + 1, insL [] (a, v), by go_num, by omega, G5.out, HT.out.symm, HSN.out, by rw [len_ins]; simp, G8.out⟩
                case measure => first | (simp [intOf]; done) | (simp [intOf]; omega)
              | some od =>
                have HDR : Hid ((flatc M).drop (posL M a * 2) = []) := Lib.hid (List.drop_of_length_le (by rw [flatc_len]; omega))
                by_cases hcq : oc = posL M a
                · subst hcq
                  go_wp2_with (first | (at_builtin; refine wpList_append_gen rfl (.tmp 62) (.tmp 66) 51 rfl w.heap.size 73 i0 (.agg #[.int .u64 0, .int .u64 0]) 2 16 Try.underlying51 hi hz0 hz1 hz2 rfl (by decide) _ _ _ rfl (((ownsRow_take HO.out hpl).alloc _).alloc _) (some ⟨wr.heap.size + 1, 0, none⟩) 1 1 [.int .u64 a, .int .u64 v] rfl (fun h => (by cases h)) rfl (fun ad h => (by cases h; exact two_new' _ _ _ _ _ (by simp))) (flatc_cells [(a, v)]) (by unfold maxLen; omega) (by omega) (by simp; omega) ?_; intro a2 c2 wb ho hg _; have G4 := Lib.hid ho; have G6 := Lib.hid (((hB.alloc hBs _).alloc (by simp; omega) _).grown hg (by simp; omega) (fun k h => (HO.out.lt k h).1)); clear ho hg) | (at_builtin; refine wpList_append_gen rfl (.tmp 68) (.tmp 69) 51 rfl w.heap.size 73 i0 (.agg #[.int .u64 0, .int .u64 0]) 2 16 Try.underlying51 hi hz0 hz1 hz2 rfl (by decide) _ _ _ rfl G4.out (some ⟨wr.heap.size, 0, none⟩) 0 0 [] rfl (fun h => (by cases h)) rfl (fun ad h j u hj => (by simp at hj)) (fun u hu => (by simp at hu)) (by unfold maxLen; omega) (by omega) G6.out.size ?_; intro a3 c3 wc ho hg _; have G5 := Lib.hid ho; have G8 := Lib.hid (G6.out.grown hg G6.out.size (fun k h => (G4.out.lt k h).1)); clear ho hg))
                  go_roundw
                  case rel => exact ⟨j + 1, insL M (a, v), by go_num, by omega, by rw [len_ins, insL_flat, HDR.out]; exact ownsRow_len G5.out (by omega), HT.out.symm, HSN.out, by rw [len_ins]; omega, G8.out⟩
                  case measure => first | (simp [intOf]; done) | (simp [intOf]; omega)
                · go_wp2_with (first | (at_builtin; refine wpList_append_gen rfl (.tmp 62) (.tmp 66) 51 rfl w.heap.size 73 i0 (.agg #[.int .u64 0, .int .u64 0]) 2 16 Try.underlying51 hi hz0 hz1 hz2 rfl (by decide) _ _ _ rfl (((ownsRow_take HO.out hpl).alloc _).alloc _) (some ⟨wr.heap.size + 1, 0, none⟩) 1 1 [.int .u64 a, .int .u64 v] rfl (fun h => (by cases h)) rfl (fun ad h => (by cases h; exact two_new' _ _ _ _ _ (by simp))) (flatc_cells [(a, v)]) (by unfold maxLen; omega) (by omega) (by simp; omega) ?_; intro a2 c2 wb ho hg _; have G4 := Lib.hid ho; have G6 := Lib.hid (((hB.alloc hBs _).alloc (by simp; omega) _).grown hg (by simp; omega) (fun k h => (HO.out.lt k h).1)); clear ho hg) | (at_builtin; refine wpList_append_gen rfl (.tmp 68) (.tmp 69) 51 rfl w.heap.size 73 i0 (.agg #[.int .u64 0, .int .u64 0]) 2 16 Try.underlying51 hi hz0 hz1 hz2 rfl (by decide) _ _ _ rfl G4.out (some ⟨wr.heap.size, 0, none⟩) 0 0 [] rfl (fun h => (by cases h)) rfl (fun ad h j u hj => (by simp at hj)) (fun u hu => (by simp at hu)) (by unfold maxLen; omega) (by omega) G6.out.size ?_; intro a3 c3 wc ho hg _; have G5 := Lib.hid ho; have G8 := Lib.hid (G6.out.grown hg G6.out.size (fun k h => (G4.out.lt k h).1)); clear ho hg))
                  go_roundw
                  case rel => exact ⟨j + 1, insL M (a, v), by go_num, by omega, by rw [len_ins, insL_flat, HDR.out]; exact ownsRow_len G5.out (by omega), HT.out.symm, HSN.out, by rw [len_ins]; omega, G8.out⟩
                  case measure => first | (simp [intOf]; done) | (simp [intOf]; omega)
            · have hq1 : posL M a < M.length := by omega
              obtain ⟨od, rfl⟩ : ∃ ad, o = some ad := by
                cases o with
                | some ad => exact ⟨ad, rfl⟩
                | none => have := HA.out.1 rfl; rw [this] at hq1; simp at hq1
              obtain ⟨hd1, hd2⟩ := HA.out.pair _ hq1
              have hge := HPA.out hq1
              have hne : ¬ M[posL M a].1 = a := fun h => by
                have := HHI.out.2 ⟨hq1, h⟩
                rw [HF.out] at this
                cases this
              generalize M[posL M a]'hq1 = d at hd1 hd2 hge hne
              obtain ⟨da, dv⟩ := d
              simp only at hd1 hd2 hge hne
              have hcq : ¬ oc = posL M a := by omega
              have hv1 : (v == 0) = false := by simpa using hv0
              have hne1 : (da == a) = false := by simpa using hne
              clear HPA HHI HA
              have hBs := hB.size
              go_wp2_with (first | (at_builtin; refine wpList_append_gen rfl (.tmp 55) (.tmp 58) 51 rfl wr.heap.size 73 i0 (.agg #[.int .u64 0, .int .u64 0]) 2 16 Try.underlying51 hi hz0 hz1 hz2 rfl (by decide) _ 0 [] rfl (World.ownsRow_made wr #[] 0 (Nat.le_refl _) (by unfold maxLen; omega) rfl) _ (M.length - posL M a) _ ((flatc M).drop (posL M a * 2)) rfl (src_dropN (HO.out.alloc (.cells #[] 73)) hpl _ _ (by first | exact .inl ⟨rfl, hcq⟩ | exact .inr ⟨rfl, hcq⟩) (by omega)).1 (src_dropN (HO.out.alloc (.cells #[] 73)) hpl _ _ (by first | exact .inl ⟨rfl, hcq⟩ | exact .inr ⟨rfl, hcq⟩) rfl).2.1 (src_dropN (HO.out.alloc (.cells #[] 73)) hpl _ _ (by first | exact .inl ⟨rfl, hcq⟩ | exact .inr ⟨rfl, hcq⟩) rfl).2.2 (fun u hu => flatc_cells M u (List.mem_of_mem_drop hu)) (by unfold maxLen; omega) (by omega) (by simp) ?_; intro ar cr wa ho hg _; rw [Nat.zero_add, List.nil_append] at ho; rw [Nat.zero_add]; obtain ⟨g1, g2, g3, g4⟩ := ins_rest HO.out hB.size hB hg; have G1 := Lib.hid (ownsRow_take g1 hpl); have G2 := Lib.hid ho; clear ho g1 hg) | (at_builtin; refine wpList_append_gen rfl (.tmp 62) (.tmp 66) 51 rfl w.heap.size 73 i0 (.agg #[.int .u64 0, .int .u64 0]) 2 16 Try.underlying51 hi hz0 hz1 hz2 rfl (by decide) _ _ _ rfl (G1.out.alloc _) (some ⟨wa.heap.size, 0, none⟩) 1 1 [.int .u64 a, .int .u64 v] rfl (fun h => (by cases h)) rfl (fun ad h => (by cases h; exact two_new _ _ _ _)) (flatc_cells [(a, v)]) (by unfold maxLen; omega) (by omega) (by simp; omega) ?_; intro a2 c2 wb ho hg _; obtain ⟨k1, k2, k3⟩ := ins_put G2.out (by omega) g2 g4 hg; have G3 := Lib.hid k1; have G4 := Lib.hid ho; clear ho hg k1) | (at_builtin; refine wpList_append_gen rfl (.tmp 68) (.tmp 69) 51 rfl w.heap.size 73 i0 (.agg #[.int .u64 0, .int .u64 0]) 2 16 Try.underlying51 hi hz0 hz1 hz2 rfl (by decide) _ _ _ rfl G4.out ar (M.length - posL M a) cr _ rfl (fun h => (by subst h; exact ownsRow_none' G3.out)) G3.out.1 (fun ad h => (by subst h; exact ownsRow_atN G3.out)) (fun u hu => flatc_cells M u (List.mem_of_mem_drop hu)) (by unfold maxLen; omega) (by omega) (by omega) ?_; intro a3 c3 wc ho hg _; have G5 := Lib.hid ho; have G6 := Lib.hid (k2.grown hg (by omega) (fun k h => (G4.out.lt k h).1)); clear ho hg))
              go_roundw
              case rel => exact ⟨j + 1, insL M (a, v), by go_num, by omega, by rw [len_ins, insL_flat]; exact ownsRow_len G5.out HEQ.out, HT.out.symm, HSN.out, by rw [len_ins]; omega, G6.out⟩
              case measure => first | (simp [intOf]; done) | (simp [intOf]; omega)
    · obtain rfl : j = n := by omega
      go_wp2_with fail
      go_ret
      have e : M = cellsL l := by rw [HM.out, HN.out, List.take_length]; rfl
      rw [← e]
      exact ⟨_, _, rfl, HO.out, hB⟩

end Go.Proofs.Ytikkfkoaipenbaa
