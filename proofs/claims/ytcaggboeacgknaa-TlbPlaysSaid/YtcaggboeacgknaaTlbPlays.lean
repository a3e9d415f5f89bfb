/- The statement TlbPlays: any changes leave the entries that they should. No conditions. -/
import Derived.Test.YtcaggboeacgknaaPlayw
import Derived.Test.YtcaggboeacgknaaSamee
import Derived.Test.YtcaggboeacgknaaRows
namespace Go.Proofs.Ytcaggboeacgknaa
open Go.RowKit Go.ChangeShapes Go.WideShapes Go.ChangeAt
set_option linter.unusedSimpArgs false
set_option linter.unusedVariables false

theorem mem_take_succ {L : List E} {e : E} {j : Nat} (h : j < L.length) : decide (e ∈ L.take (j + 1)) = (decide (e ∈ L.take j) || decide (L[j] = e)) := by
  rw [List.take_succ_eq_append_getElem h]
  simp only [List.mem_append, List.mem_singleton, Bool.decide_or]
  congr 1
  exact decide_eq_decide.2 eq_comm

set_option maxRecDepth 100000 in
set_option maxHeartbeats 4000000 in
theorem tlbPlays_walk {w : World} (ao : Option Addr) (cap : Nat) (l : List P9) (en : E) (hl : Atr cellsP w ao l) (_hc : ao = none → cap = 0) (hok : ∀ p ∈ l, okP p) (hen : en.ok) :
    Calls Try.prog 9 #[.slice ao l.length cap, entV en] w (RetB (.bool true) w) := by
  have HL := Lib.hid hl
  obtain ⟨n, hn⟩ : ∃ n, n = l.length := ⟨_, rfl⟩
  have HN := Lib.hid hn
  have HK := Lib.hid hok
  rw [← hn]
  obtain ⟨hs, hx, hlen⟩ := playE_all l hok
  have HS := Lib.hid hs
  have cP : Hid (∀ W, Below w.heap.size w W → Calls Try.prog 27 #[.slice ao n cap] W (RetPlay (playE (l.take 50)) W)) := Lib.hid fun W h => play9_any ao n cap l W (HL.out.below h) HN.out HK.out
  clear hl hn hok hs hx HL HN HK hen
  generalize playE (l.take 50) = L at HS hlen cP
  obtain ⟨s, p, f, l'⟩ := en
  simp only [entV]
  go_enter Try.func9, Try.ntmps9
  go_wp2_with fail
  obtain ⟨w0, hw0⟩ : ∃ w0, w0 = w.alloc (.cells #[.int .i64 s, .int .u64 p, .int .u64 f, .int .u64 l'] 27) := ⟨_, rfl⟩
  have B0 : Below w.heap.size w w0 := by rw [hw0]; repeat' (first | with_reducible exact Below.refl _ _ | with_reducible assumption | with_reducible apply below_drewN | with_reducible apply Below.drew | with_reducible refine Below.setCell ?_ ?_ _ | with_reducible refine Below.alloc ?_ ?_ _ | omega | (simp; done) | (simp; omega))
  have Bz0 := B0.size
  have hs0 : w0.heap.size = w.heap.size + 1 := by rw [hw0]; simp
  have hb1 : w0.heap[w.heap.size]? = some (.cells #[.int .i64 s, .int .u64 p, .int .u64 f, .int .u64 l'] 27) := by rw [hw0]; (repeat (first | assumption | (refine heap_new _ _ _ ?_; simp; done) | refine heap_old _ _ _ _ ?_))
  rw [← hw0]
  clear hw0
  have HEN : Hid (∀ W, Below w0.heap.size w0 W → W.heap[w.heap.size]? = some (.cells #[.int .i64 s, .int .u64 p, .int .u64 f, .int .u64 l'] 27)) := Lib.hid fun W h => (h.block w.heap.size (by omega)).trans hb1
  clear hb1
  refine (awake_any _).mono ?_
  rintro e w1 ⟨rfl, hb⟩
  have B1 : Below w0.heap.size w0 w1 := hb
  have Bz1 := B1.size
  clear hb
  go_wp2_with fail
  refine (cP.out _ (B0.trans (B1.mono Bz0))).mono ?_
  rintro e w2 ⟨a1, p1, a2, p2, rfl, hr1, hr2, hb⟩
  have B2 : Below w0.heap.size w0 w2 := B1.trans (hb.mono Bz1)
  have Bz2 := B2.size
  have R1 := Lib.hid hr1
  have R2 := Lib.hid hr2
  clear hr1 hr2 hb
  go_wp2_with fail
  obtain ⟨x, hx⟩ : ∃ x, x = w2.alloc (.cells #[.slice a1 L.length p1] 42) := ⟨_, rfl⟩
  have hsx : x.heap.size = w2.heap.size + 1 := by rw [hx]; simp
  have BX : Below w2.heap.size w2 x := by rw [hx]; repeat' (first | with_reducible exact Below.refl _ _ | with_reducible assumption | with_reducible apply below_drewN | with_reducible apply Below.drew | with_reducible refine Below.setCell ?_ ?_ _ | with_reducible refine Below.alloc ?_ ?_ _ | omega | (simp; done) | (simp; omega))
  have h5 : x.heap[w2.heap.size]? = some (.cells #[.slice a1 L.length p1] 42) := by rw [hx]; (repeat (first | assumption | (refine heap_new _ _ _ ?_; simp; done) | refine heap_old _ _ _ _ ?_))
  try rw [← hx]
  have HB5 : Hid (∀ W, Below x.heap.size x W → W.heap[w2.heap.size]? = some (.cells #[.slice a1 L.length p1] 42)) := Lib.hid fun W h => (h.block w2.heap.size (by omega)).trans h5
  have HEN2 : Hid (∀ W, Below x.heap.size x W → W.heap[w.heap.size]? = some (.cells #[.int .i64 s, .int .u64 p, .int .u64 f, .int .u64 l'] 27)) := Lib.hid fun W h => HEN.out W (B2.trans (BX.trans (h.mono (by omega)) |>.mono Bz2))
  have R1x := Lib.hid (R1.out.below BX)
  have R2x := Lib.hid (R2.out.below BX)
  have BW0 : Below w.heap.size w x := B0.trans ((B2.trans (BX.mono Bz2)).mono Bz0)
  have BW0s := BW0.size
  clear h5 hx HEN R1 R2
  obtain ⟨m, hm⟩ : ∃ m, m = L.length := ⟨_, rfl⟩
  have HM := Lib.hid hm
  rw [← hm] at hlen R1x R2x HB5 ⊢
  clear hm
  go_loopw [7, 8] (fun b i V => ∃ j : Nat, j ≤ m ∧ i = .int .i64 (j : Nat) ∧ b = .bool (decide ((⟨s, p, f, l'⟩ : E) ∈ L.take j)) ∧ Below x.heap.size x V) (fun _ i _ => (m - (intOf i)).toNat)
  case atStart => exact ⟨0, by omega, rfl, by simp, Below.refl _ _⟩
  case round =>
    obtain ⟨j, hj, rfl, rfl, hB⟩ := hrel
    have hBs := hB.size
    obtain ⟨z0, z1, z2, z3⟩ := block_cells (HB5.out _ hB)
    have b0 := z0 0 _ rfl
    obtain ⟨y0, y1, y2, y3⟩ := block_cells (HEN2.out _ hB)
    have d0 := y0 0 _ rfl
    have d1 := y0 1 _ rfl
    have d2 := y0 2 _ rfl
    have d3 := y0 3 _ rfl
    clear z0 y0
    by_cases hjm : j < m
    · have han : j < L.length := by have := HM.out; omega
      have HT := Lib.hid (mem_take_succ (e := ⟨s, p, f, l'⟩) han)
      obtain ⟨g, cp, ha2, hg⟩ : ∃ g cp, Value.slice a2 m p2 = .slice (some ⟨g, 0, none⟩) m cp ∧ g < x.heap.size := by
        rcases R2x.out.form with ⟨hv, hv2⟩ | ⟨g, cp, hv, hg, _⟩
        · rw [hv2] at han; simp at han
        · exact ⟨g, cp, by rw [hv, HM.out], hg⟩
      simp only [Value.slice.injEq] at ha2
      obtain ⟨rfl, -, rfl⟩ := ha2
      obtain ⟨e0, e1, e2, e3⟩ := RowE.cell (R2x.out.below hB) j han
      have hgV : g < wr.heap.size := by omega
      generalize L[j]'han = xx at e0 e1 e2 e3 HT
      obtain ⟨xs, xp, xf, xl⟩ := xx
      simp only at e0 e1 e2 e3
      clear han
      cases hd : decide ((⟨s, p, f, l'⟩ : E) ∈ L.take j) with
      | true =>
        rw [hd, Bool.true_or] at HT
        clear hd
        go_wp2_with fail
        refine wp_region_qb (by kernel_rfl) (by kernel_rfl) ?_; (repeat (go_big_quiet_step (fail))); refine wpQuiet_nil ?_; intro wq hb
        go_wp2_with fail
        go_roundw
        case rel => exact ⟨j + 1, by omega, by go_num, by rw [HT.out], hB.trans (hb.mono hBs)⟩
        case measure => first | (simp [intOf]; done) | (simp [intOf]; omega)
      | false =>
        rw [hd, Bool.false_or] at HT
        clear hd
        cases hp : decide ((⟨xs, xp, xf, xl⟩ : E) = ⟨s, p, f, l'⟩) with
        | true =>
          rw [hp] at HT
          have hq : ∀ w, (binOp .eql 27 (.agg #[.int .i64 xs, .int .u64 xp, .int .u64 xf, .int .u64 xl]) (.agg #[.int .i64 s, .int .u64 p, .int .u64 f, .int .u64 l'])).run Try.prog w = .ok (.bool true) w := fun w => by
            have := eqlE ⟨xs, xp, xf, xl⟩ ⟨s, p, f, l'⟩ w
            rw [hp] at this
            exact this
          clear hp
          go_wp2_with fail
          refine wp_region_qbn (by kernel_rfl) (by kernel_rfl) (fun kq => ?_); have kq0 := kq (g) (by first | omega | (simp; done) | (simp; omega)); have kq1 := kq (w.heap.size) (by first | omega | (simp; done) | (simp; omega)); clear kq; (repeat (go_big_quiet_step (fail))); refine wpQuiet_nil ?_; clear kq0 kq1; intro wq hb
          go_wp2_with fail
          go_roundw
          case rel => exact ⟨j + 1, by omega, by go_num, by rw [HT.out], hB.trans (hb.mono hBs)⟩
          case measure => first | (simp [intOf]; done) | (simp [intOf]; omega)
        | false =>
          rw [hp] at HT
          have hq : ∀ w, (binOp .eql 27 (.agg #[.int .i64 xs, .int .u64 xp, .int .u64 xf, .int .u64 xl]) (.agg #[.int .i64 s, .int .u64 p, .int .u64 f, .int .u64 l'])).run Try.prog w = .ok (.bool false) w := fun w => by
            have := eqlE ⟨xs, xp, xf, xl⟩ ⟨s, p, f, l'⟩ w
            rw [hp] at this
            exact this
          clear hp
          go_wp2_with fail
          refine wp_region_qbn (by kernel_rfl) (by kernel_rfl) (fun kq => ?_); have kq0 := kq (g) (by first | omega | (simp; done) | (simp; omega)); have kq1 := kq (w.heap.size) (by first | omega | (simp; done) | (simp; omega)); clear kq; (repeat (go_big_quiet_step (fail))); refine wpQuiet_nil ?_; clear kq0 kq1; intro wq hb
          go_wp2_with fail
          go_roundw
          case rel => exact ⟨j + 1, by omega, by go_num, by rw [HT.out], hB.trans (hb.mono hBs)⟩
          case measure => first | (simp [intOf]; done) | (simp [intOf]; omega)
    · obtain rfl : j = m := by omega
      have HT : Hid (decide ((⟨s, p, f, l'⟩ : E) ∈ L.take j) = hasE L ⟨s, p, f, l'⟩) := Lib.hid (by rw [HM.out, List.take_length]; rfl)
      rw [HT.out]
      generalize wr = y at hB hBs b0 d0 d1 d2 d3 z1 z2 z3 y1 y2 y3 ⊢
      clear HT
      have cE : Hid (∀ W, Below x.heap.size x W → Calls Try.prog 28 #[.agg #[.slice a1 j p1]] W (RetE L W)) := Lib.hid fun W h => bentries_any _ _ L W (R1x.out.below h) (by have := HM.out; omega)
      have cN : Hid (∀ W, Below x.heap.size x W → Calls Try.prog 33 #[.agg #[.slice a1 j p1]] W (RetB (.int .i64 (j : Nat)) W)) := Lib.hid fun W h => by
        have := blen_any _ _ L W (R1x.out.below h)
        rw [← HM.out] at this
        exact this
      have cH : Hid (∀ W, Below x.heap.size x W → Calls Try.prog 31 #[.agg #[.slice a1 j p1], .agg #[.int .i64 s, .int .u64 p, .int .u64 f, .int .u64 l']] W (RetB (.bool (hasE L ⟨s, p, f, l'⟩)) W)) := Lib.hid fun W h => bhas_any _ _ L ⟨s, p, f, l'⟩ W (R1x.out.below h) HS.out (by have := HM.out; omega)
      generalize hasE L ⟨s, p, f, l'⟩ = hh at cH ⊢
      go_wp2_with fail
      refine (cE.out _ hB).mono ?_
      rintro e t1 ⟨v3, rfl, hr, hb⟩
      have C1 : Below x.heap.size x t1 := hB.trans (hb.mono hBs)
      have C1s := C1.size
      have R3 := Lib.hid hr
      clear hr hb
      go_wp2_with fail
      refine (rsame_any _ _ _ _ _ _ _ (R3.out) (R2x.out.below C1) (by have := HM.out; omega)).mono ?_
      rw [decide_eq_true rfl]
      rintro e t2 ⟨rfl, hb⟩
      have C2 : Below x.heap.size x t2 := C1.trans (hb.mono C1s)
      have C2s := C2.size
      clear hb b0 d0 d1 d2 d3 z1 z2 z3 y1 y2 y3
      obtain ⟨z0, z1, z2, z3⟩ := block_cells (HB5.out _ C2)
      have b0 := z0 0 _ rfl
      clear z0
      go_wp2_with fail
      refine (cN.out _ C2).mono ?_
      rintro e t3 ⟨rfl, hb⟩
      have C3 : Below x.heap.size x t3 := C2.trans (hb.mono C2s)
      have C3s := C3.size
      clear hb b0 z1 z2 z3
      obtain ⟨z0, z1, z2, z3⟩ := block_cells (HB5.out _ C3)
      have b0 := z0 0 _ rfl
      obtain ⟨y0, y1, y2, y3⟩ := block_cells (HEN2.out _ C3)
      have d0 := y0 0 _ rfl
      have d1 := y0 1 _ rfl
      have d2 := y0 2 _ rfl
      have d3 := y0 3 _ rfl
      clear z0 y0
      go_wp2_with fail
      refine (cH.out _ C3).mono ?_
      rintro e t4 ⟨rfl, hb⟩
      have C4 : Below x.heap.size x t4 := C3.trans (hb.mono C3s)
      clear hb
      cases hh
      all_goals
        go_wp2_with fail
        go_ret
        exact ⟨rfl, BW0.trans (C4.mono BW0s)⟩

set_option maxRecDepth 100000 in
theorem tlbPlays_lifted (os : Os) (started : os.Started) (H : Type) (enc : TypeId × Value → H) :
    ReturnsInHanded {} Try.checked os 9 .any (Rows.tlbPlaysSpec.pre6 enc Try.prog Try.f9 Rows.tlbPlaysRow.domain false) (Rows.tlbPlaysSpec.post enc Try.prog Try.f9 false true false false) := by
  refine returnsInHanded_of_change (C := Try.checked) own started (by kernel_rfl) Try.func9
    (ChangeSpec.witness6 (enc := enc) (C := Try.checked) false ⟨#[], #[.slice none 0 0, entV E.zero], []⟩ 8 (by kernel_rfl) (by kernel_rfl) (by kernel_rfl) (by kernel_rfl)) ?_
  intro W base args ds gs before hval0 hW _ _
  have hval : ∀ (j : Nat) t v, Try.f9.params[j]? = some t → args[j]? = some v → Value.okWide Try.prog W .any base t v := hval0
  have hW' := hW
  obtain ⟨p, q, hA0, hV, rfl, hfz, hnd⟩ := hW
  have hA : DataW.TrodAll enc Try.prog W 0 (fun _ => true) true Try.f9.params.toList args.toList ds p := hA0
  rw [Try.params9] at hA hval
  obtain ⟨v0, vs0, d0, ds0, p0, q0, hargs, rfl, rfl, h0, r0⟩ := trodAll_cons hA
  obtain ⟨v1, vs1, d1, ds1, p1, q1, rfl, rfl, rfl, h1, r1⟩ := trodAll_cons r0
  obtain ⟨rfl, rfl, rfl⟩ := trodAll_nil r1
  obtain rfl : args = #[v0, v1] := by cases args; simp_all
  obtain ⟨rfl, rfl⟩ := trodVars_none hV
  obtain ⟨o0, k0, l0, rfl, A0, c0, w0⟩ := arg_op9s h0 (hval 0 47 v0 rfl rfl)
  obtain ⟨a1, rfl, w1⟩ := arg_ent (hval 1 27 v1 rfl rfl)
  refine (tlbPlays_walk (w := W) o0 k0 l0 a1 A0 c0 w0 w1).mono fun e W' ⟨he, hb⟩ => ?_
  subst he
  exact ⟨_, rfl, post_law laid hW' rfl (by kernel_rfl) rfl Try.underlying4 rfl hb⟩

/-- The statement. -/
theorem tlbPlays_holds : Rows.TlbPlaysSaid :=
  OpenClaim.holds_of_wide 9 Try.f9 rfl rfl rfl rfl rfl rfl rfl ⟨rfl, rfl, rfl, rfl, rfl⟩ rfl rfl rfl rfl rfl (by kernel_rfl) Try.func9 (by kernel_rfl)
    (of_decide_eq_true (by kernel_rfl)) (by unfold Func.isWrapper; first | (rw [if_pos (by decide +kernel)]; kernel_rfl) | (rw [if_neg (by decide +kernel)]; exact ⟨rfl, rfl⟩))
    (fun os started H enc _ => tlbPlays_lifted os started H enc)
#print axioms tlbPlays_holds

end Go.Proofs.Ytcaggboeacgknaa
