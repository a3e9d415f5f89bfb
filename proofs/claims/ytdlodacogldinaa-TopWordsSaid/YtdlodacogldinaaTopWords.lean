/- The statement TopWords: each word that is an instruction is printed, read again and encoded as itself; each other one stays undefined. No conditions. -/
import Derived.Test.YtdlodacogldinaaTopArgs
import Derived.Test.YtdlodacogldinaaParse
namespace Go.Proofs.Ytdlodacogldinaa
open Go.ChangeShapes Go.WideShapes Go.ChangeAt Go.RowKit
set_option linter.unusedSimpArgs false
set_option linter.unusedVariables false

theorem isb_right : rightP ⟨20, 0, 0, 0, 0, 0⟩ := by simp [rightP]
theorem isb_dec : decX 3573759967 = some ⟨20, 0, 0, 0, 0, 0⟩ := dec_word isb_right

set_option maxRecDepth 100000 in
set_option maxHeartbeats 8000000 in
theorem topWords_walk {w : World} (ao : Option Addr) (cap : Nat) (l : List Int) (hl : At32 w ao l) (_hc : ao = none → cap = 0) (hu : ∀ p ∈ l, U32 p) :
    Calls Try.prog 3 #[.slice ao l.length cap] w (RetB (.bool true) w) := by
  have HL := Lib.hid hl
  have HU := Lib.hid hu
  obtain ⟨n, hn⟩ : ∃ n, n = l.length := ⟨_, rfl⟩
  have HN := Lib.hid hn
  rw [← hn]
  clear hl hu hn
  have cD : Hid (∀ V, Calls Try.prog 4 #[.int .u32 3573759967] V (RetB (.tuple #[.agg #[.int .i64 20, .int .i64 0, .int .i64 0, .int .i64 0, .int .i64 0, .int .i64 0], .int .i64 0]) V)) := Lib.hid fun V => by
    have := decode_any 3573759967 ⟨by decide, by decide⟩ V
    rw [isb_dec] at this
    exact this
  have cP : Hid (∀ V, Calls Try.prog 5 #[.agg #[.int .i64 20, .int .i64 0, .int .i64 0, .int .i64 0, .int .i64 0, .int .i64 0]] V (RetB (.string ⟨#[73, 83, 66]⟩) V)) := Lib.hid fun V => print_20 isb_right V
  go_enter Try.func3, Try.ntmps3
  go_wp2_with fail
  refine (cD.out _).mono ?_
  rintro e w1 ⟨rfl, hb⟩
  have B1 : Below w.heap.size w w1 := hb
  have Bz1 := B1.size
  clear hb
  go_wp2_with fail
  refine (cP.out _).mono ?_
  rintro e w2 ⟨rfl, hb⟩
  have B2 : Below w.heap.size w w2 := Below.trans (B1.trans (by repeat' (first | with_reducible exact Below.refl _ _ | with_reducible assumption | with_reducible apply below_drewN | with_reducible apply Below.drew | with_reducible refine Below.setCell ?_ ?_ _ | with_reducible refine Below.alloc ?_ ?_ _ | omega | (simp; done) | (simp; omega)))) (hb.mono (by first | omega | (simp; done) | (simp; omega)))
  have Bz2 := B2.size
  clear hb cD cP
  by_cases h200 : 200 < n
  · have hi : (200 : Int) < (n : Int) := by omega
    go_wp2_with fail
    go_ret
    exact ⟨rfl, B2⟩
  have hi : ¬ (200 : Int) < (n : Int) := by omega
  have hn200 : n ≤ 200 := by omega
  go_wp2_with fail
  go_loopw [5] (fun i V => ∃ j : Nat, j ≤ n ∧ i = .int .i64 (j : Nat) ∧ Below w.heap.size w V) (fun i _ => (n - (intOf i)).toNat)
  case atStart => exact ⟨0, by omega, rfl, B2⟩
  case round =>
    obtain ⟨j, hj, rfl, hB⟩ := hrel
    have hBs := hB.size
    by_cases hjn : j < n
    · have hj1 : j < l.length := by rw [← HN.out]; exact hjn
      obtain ⟨ad, rfl⟩ : ∃ ad, ao = some ad := by
        cases ao with
        | some ad => exact ⟨ad, rfl⟩
        | none => have := HL.out.1 rfl; rw [this] at hj1; simp at hj1
      have HC : Hid (∀ W, Below w.heap.size w W → W.cell? (ad.add j) = some (.int .u32 (l[j]'hj1))) := Lib.hid fun W h => (HL.out.below h).2 ad rfl j hj1
      have ha := HU.out _ (List.getElem_mem hj1)
      generalize l[j]'hj1 = a at HC ha
      clear hj1
      have e0 := HC.out _ hB
      rcases hd : decX a with _ | x
      · have cD : Hid (∀ V, Calls Try.prog 4 #[.int .u32 a] V (RetB (.tuple #[.agg #[.int .i64 0, .int .i64 0, .int .i64 0, .int .i64 0, .int .i64 0, .int .i64 0], .int .i64 31]) V)) := Lib.hid fun V => by
          have := decode_any a ha V
          rw [hd] at this
          exact this
        have cP : Hid (∀ V, Calls Try.prog 5 #[.agg #[.int .i64 0, .int .i64 0, .int .i64 0, .int .i64 0, .int .i64 0, .int .i64 0]] V (RetB (.string ⟨#[]⟩) V)) := Lib.hid fun V => print_zero V
        have cX : Hid (∀ V, Calls Try.prog 6 #[.agg #[.int .i64 0, .int .i64 0, .int .i64 0, .int .i64 0, .int .i64 0, .int .i64 0]] V (RetB (.int .i64 30) V)) := Lib.hid fun V => by
          have := iright_any X.zero V
          rw [zero_wrong] at this
          exact this
        clear hd ha
        go_wp2_with fail
        refine (cD.out _).mono ?_
        rintro e w3 ⟨rfl, hb⟩
        have B3 : Below w.heap.size w w3 := hB.trans (hb.mono hBs)
        have Bz3 := B3.size
        clear hb e0
        go_wp2_with fail
        refine (cP.out _).mono ?_
        rintro e w4 ⟨rfl, hb⟩
        have B4 : Below w.heap.size w w4 := Below.trans (B3.trans (by repeat' (first | with_reducible exact Below.refl _ _ | with_reducible assumption | with_reducible apply below_drewN | with_reducible apply Below.drew | with_reducible refine Below.setCell ?_ ?_ _ | with_reducible refine Below.alloc ?_ ?_ _ | omega | (simp; done) | (simp; omega)))) (hb.mono (by first | omega | (simp; done) | (simp; omega)))
        have Bz4 := B4.size
        obtain ⟨k1, k2, k3, k4⟩ := keepB hb w3.heap.size (by first | omega | (simp; done) | (simp; omega))
        clear hb
        go_wp2_with fail
        refine (cX.out _).mono ?_
        rintro e w5 ⟨rfl, hb⟩
        have B5 : Below w.heap.size w w5 := B4.trans (hb.mono Bz4)
        clear hb
        go_wp2_with fail
        go_roundw
        case rel => exact ⟨j + 1, by omega, by go_num, B5⟩
        case measure => first | (simp [intOf]; done) | (simp [intOf]; omega)
      · obtain ⟨hr, hw⟩ := dec_some ha hd
        obtain ⟨T, ws, t1, t2, t3, t4, t5, t6⟩ := told_of_right x hr
        have cD : Hid (∀ V, Calls Try.prog 4 #[.int .u32 a] V (RetB (.tuple #[instrV x, .int .i64 0]) V)) := Lib.hid fun V => by
          have := decode_any a ha V
          rw [hd] at this
          exact this
        have cP : Hid (∀ V, Calls Try.prog 5 #[instrV x] V (RetB (.string ⟨(T).toArray⟩) V)) := Lib.hid t1
        have cQ : Hid (∀ V, Calls Try.prog 7 #[(.string ⟨(T).toArray⟩)] V (RetB (.tuple #[instrV x, .int .i64 0]) V)) := Lib.hid fun V => parse_told x hr T ws t2 t3 t4 t5 t6 V
        have cE : Hid (∀ V, Calls Try.prog 8 #[instrV x] V (RetB (.tuple #[.int .u32 a, .int .i64 0]) V)) := Lib.hid fun V => by
          have := encode_any x V
          rw [errX_yes hr, show encW x = a from (if_pos hr).trans hw] at this
          exact this
        clear hd ha hr hw t1 t2 t3 t4 t5 t6
        obtain ⟨op, d, nn, m, imm, kind⟩ := x
        simp only [instrV] at cD cP cQ cE
        go_wp2_with fail
        refine (cD.out _).mono ?_
        rintro e w3 ⟨rfl, hb⟩
        have B3 : Below w.heap.size w w3 := hB.trans (hb.mono hBs)
        have Bz3 := B3.size
        clear hb e0
        go_wp2_with fail
        refine (cP.out _).mono ?_
        rintro e w4 ⟨rfl, hb⟩
        have B4 : Below w.heap.size w w4 := Below.trans (B3.trans (by repeat' (first | with_reducible exact Below.refl _ _ | with_reducible assumption | with_reducible apply below_drewN | with_reducible apply Below.drew | with_reducible refine Below.setCell ?_ ?_ _ | with_reducible refine Below.alloc ?_ ?_ _ | omega | (simp; done) | (simp; omega)))) (hb.mono (by first | omega | (simp; done) | (simp; omega)))
        have Bz4 := B4.size
        have h6 := (hb.block w3.heap.size (by first | omega | (simp; done) | (simp; omega))).trans (by (repeat (first | assumption | (refine heap_new _ _ _ ?_; simp; done) | refine heap_old _ _ _ _ ?_)) : _ = some (.cells #[.int .i64 op, .int .i64 d, .int .i64 nn, .int .i64 m, .int .i64 imm, .int .i64 kind] 24))
        clear hb
        go_wp2_with fail
        refine (cQ.out _).mono ?_
        rintro e w5 ⟨rfl, hb⟩
        have B5 : Below w.heap.size w w5 := B4.trans (hb.mono Bz4)
        have Bz5 := B5.size
        have hl6 := (Array.getElem?_eq_some_iff.1 h6).1
        have h7 := (hb.block w3.heap.size hl6).trans h6
        have hz45 := hb.size
        clear hb h6
        have hl7 : w3.heap.size < w5.heap.size := by omega
        go_wp2_with fail
        refine (cE.out _).mono ?_
        rintro e w6 ⟨rfl, hb⟩
        have B6 : Below w.heap.size w w6 := Below.trans (B5.trans (by repeat' (first | with_reducible exact Below.refl _ _ | with_reducible assumption | with_reducible apply below_drewN | with_reducible apply Below.drew | with_reducible refine Below.setCell ?_ ?_ _ | with_reducible refine Below.alloc ?_ ?_ _ | omega | (simp; done) | (simp; omega)))) (hb.mono (by first | omega | (simp; done) | (simp; omega)))
        have h8 := (hb.block w5.heap.size (by first | omega | (simp; done) | (simp; omega))).trans (by (repeat (first | assumption | (refine heap_new _ _ _ ?_; simp; done) | refine heap_old _ _ _ _ ?_)) : _ = some (.cells #[.int .i64 op, .int .i64 d, .int .i64 nn, .int .i64 m, .int .i64 imm, .int .i64 kind] 24))
        have h9 : w6.heap[w3.heap.size]? = some (.cells #[.int .i64 op, .int .i64 d, .int .i64 nn, .int .i64 m, .int .i64 imm, .int .i64 kind] 24) := (hb.block w3.heap.size (by simp; omega)).trans (heap_old _ _ _ _ h7)
        clear hb h7
        obtain ⟨c1, f1, l1, n1⟩ := block_cells h8
        have z0 := c1 0 _ rfl
        have z1 := c1 1 _ rfl
        have z2 := c1 2 _ rfl
        have z3 := c1 3 _ rfl
        have z4 := c1 4 _ rfl
        have z5 := c1 5 _ rfl
        obtain ⟨c2, f2, l2, n2⟩ := block_cells h9
        have y0 := c2 0 _ rfl
        have y1 := c2 1 _ rfl
        have y2 := c2 2 _ rfl
        have y3 := c2 3 _ rfl
        have y4 := c2 4 _ rfl
        have y5 := c2 5 _ rfl
        have e9 := HC.out _ B6
        clear c1 c2 h8 h9
        go_wp2_with fail
        go_roundw
        case rel => exact ⟨j + 1, by omega, by go_num, B6⟩
        case measure => first | (simp [intOf]; done) | (simp [intOf]; omega)
    · obtain rfl : j = n := by omega
      go_wp2_with fail
      go_ret
      exact ⟨rfl, hB⟩

set_option maxRecDepth 100000 in
theorem topWords_lifted (os : Os) (started : os.Started) (H : Type) (enc : TypeId × Value → H) :
    ReturnsInHanded {} Try.checked os 3 .any (Rows.topWordsSpec.pre6 enc Try.prog Try.f3 Rows.topWordsRow.domain false) (Rows.topWordsSpec.post enc Try.prog Try.f3 false true false false) := by
  refine returnsInHanded_of_change (C := Try.checked) own started (by kernel_rfl) Try.func3
    (ChangeSpec.witness6 (enc := enc) (C := Try.checked) false ⟨#[], #[.slice none 0 0], []⟩ 8 (by kernel_rfl) (by kernel_rfl) (by kernel_rfl) (by kernel_rfl)) ?_
  intro W base args ds gs before hval0 hW _ _
  have hval : ∀ (j : Nat) t v, Try.f3.params[j]? = some t → args[j]? = some v → Value.okWide Try.prog W .any base t v := hval0
  have hW' := hW
  obtain ⟨p, q, hA0, hV, rfl, hfz, hnd⟩ := hW
  have hA : DataW.TrodAll enc Try.prog W 0 (fun _ => true) true Try.f3.params.toList args.toList ds p := hA0
  rw [Try.params3] at hA hval
  obtain ⟨v0, vs0, d0, ds0, p0, q0, hargs, rfl, rfl, h0, r0⟩ := trodAll_cons hA
  obtain ⟨rfl, rfl, rfl⟩ := trodAll_nil r0
  obtain rfl : args = #[v0] := by cases args; simp_all
  obtain ⟨rfl, rfl⟩ := trodVars_none hV
  obtain ⟨o0, k0, l0, rfl, A0, c0, w0⟩ := arg_u32s h0 (hval 0 22 v0 rfl rfl)
  refine (topWords_walk (w := W) o0 k0 l0 A0 c0 w0).mono fun e W' ⟨he, hb⟩ => ?_
  subst he
  exact ⟨_, rfl, post_law laid hW' rfl (by kernel_rfl) rfl Try.underlying4 rfl hb⟩

/-- The statement. -/
theorem topWords_holds : Rows.TopWordsSaid :=
  OpenClaim.holds_of_wide 3 Try.f3 rfl rfl rfl rfl rfl rfl rfl ⟨rfl, rfl, rfl, rfl, rfl⟩ rfl rfl rfl rfl rfl (by kernel_rfl) Try.func3 (by kernel_rfl)
    (of_decide_eq_true (by kernel_rfl)) (by unfold Func.isWrapper; first | (rw [if_pos (by decide +kernel)]; kernel_rfl) | (rw [if_neg (by decide +kernel)]; exact ⟨rfl, rfl⟩))
    (fun os started H enc _ => topWords_lifted os started H enc)
#print axioms topWords_holds

end Go.Proofs.Ytdlodacogldinaa
