/- The statement TlbSingle: whether no access may go by two entries is told. No conditions. -/
import Derived.Test.YtcaggboeacgknaaOpw
import Derived.Test.YtcaggboeacgknaaSingb
import Derived.Test.YtcaggboeacgknaaSinr
import Derived.Test.YtcaggboeacgknaaWith
import Derived.Test.YtcaggboeacgknaaRows
import Derived.Deep.RegionHeld3
import Derived.Deep.DeepCutAuto
namespace Go.Proofs.Ytcaggboeacgknaa
open Go.RowKit Go.ChangeShapes Go.WideShapes Go.ChangeAt
set_option linter.unusedSimpArgs false
set_option linter.unusedVariables false

theorem RowE.puts {w : World} {base : Nat} {v : Value} {L : List E} (h : RowE w base v L) {B : Nat} {cs : Array Value} {fz : Nat × Nat} (hB : w.heap[B]? = some (.cells cs 42 fz)) (o : Nat) (u : Value) : RowE (w.setCell ⟨B, o, none⟩ u) base v L :=
  ownsRow_set_type h hB (by decide) o u
theorem heap_np (w : World) (o : Obj) : (w.alloc o).heap[w.heap.size]? = some o := heap_new w o _ rfl
theorem retTup_out {x y : Value} {w w' : World} {e : Ending} (h : RetB (.tuple #[x, y]) w e w') : e = .returned (.tuple #[x, y]) ∧ Below w.heap.size w w' := h
theorem retBuf_o {base : Nat} {L : List E} {w w' : World} {e : Ending} (h : RetBuf base L w e w') : ∃ ao cap, e = .returned (.agg #[.slice ao L.length cap]) ∧ RowE w' base (.slice ao L.length cap) L ∧ Below w.heap.size w w' := by
  obtain ⟨v, rfl, hr, hb⟩ := h
  obtain ⟨ao, cap, rfl⟩ := ownsRow_form hr
  exact ⟨ao, cap, rfl, hr, hb⟩
theorem retLst_o2 {base : Nat} {L : List E} {w w' : World} {e : Ending} (h : RetLst base L w e w') : ∃ ao cap, e = .returned (.slice ao L.length cap) ∧ RowE w' base (.slice ao L.length cap) L ∧ Below w.heap.size w w' := by
  obtain ⟨v, rfl, hr, hb⟩ := h
  obtain ⟨ao, cap, rfl⟩ := ownsRow_form hr
  exact ⟨ao, cap, rfl, hr, hb⟩

set_option maxRecDepth 100000 in
set_option maxHeartbeats 8000000 in
theorem tlbSingle_walk {w : World} (ao : Option Addr) (cap : Nat) (l : List E) (hl : Atr cellsE w ao l) (_hc : ao = none → cap = 0) (hok : ∀ p ∈ l, p.ok) :
    Calls Try.prog 7 #[.slice ao l.length cap] w (RetB (.bool true) w) := by
  have HL := Lib.hid hl
  obtain ⟨n, hn⟩ : ∃ n, n = l.length := ⟨_, rfl⟩
  have HN := Lib.hid hn
  have HK := Lib.hid hok
  rw [← hn]
  clear hl hn hok
  by_cases h12 : 12 < n
  · have hi : (12 : Int) < (n : Int) := by omega
    go_enter Try.func7, Try.ntmps7
    go_wp2_with fail
    refine (awake_any _).mono ?_
    rintro e w1 ⟨rfl, hb⟩
    have B1 : Below w.heap.size w w1 := hb
    clear hb
    go_wp2_with fail
    go_ret
    exact ⟨rfl, B1⟩
  have hi : ¬ (12 : Int) < (n : Int) := by omega
  have hn12 : n ≤ 12 := by omega
  go_enter Try.func7, Try.ntmps7
  go_wp2_with fail
  refine (awake_any _).mono ?_
  rintro e w1 ⟨rfl, hb⟩
  have B1 : Below w.heap.size w w1 := hb
  have Bz1 := B1.size
  clear hb
  go_wp2_with fail
  go_loopw [4, 5] (fun o i V => ∃ (j : Nat) (L : List E) (a1 a2 : Option Addr) (p1 p2 : Nat), i = .int .i64 j ∧ j ≤ n ∧ L.length ≤ j ∧ o = .slice a2 L.length p2 ∧ SortedE L ∧ (∀ x ∈ L, x.ok ∧ Filled x) ∧
    RowE V w1.heap.size (.slice a1 L.length p1) L ∧ RowE V w1.heap.size (.slice a2 L.length p2) L ∧ Below w1.heap.size w1 V ∧
    V.heap[w1.heap.size]? = some (.cells #[.slice a1 L.length p1] 42)) (fun _ i _ => (n - (intOf i)).toNat)
  case atStart => exact ⟨0, [], none, none, 0, 0, rfl, by omega, by simp, rfl, sorted_nil, by simp, RowE.nil _ _, RowE.nil _ _, by repeat' (first | with_reducible exact Below.refl _ _ | with_reducible assumption | with_reducible apply below_drewN | with_reducible apply Below.drew | with_reducible refine Below.setCell ?_ ?_ _ | with_reducible refine Below.alloc ?_ ?_ _ | omega | (simp; done) | (simp; omega)), by (repeat (first | assumption | (refine heap_new _ _ _ ?_; simp; done) | refine heap_old _ _ _ _ ?_))⟩
  case round =>
    obtain ⟨j, L, a1, a2, p1, p2, rfl, hj, hlen, rfl, hs, hxo, h1, h2, hB, hb1⟩ := hrel
    have hBs := hB.size
    have HS := Lib.hid hs
    have HXO := Lib.hid hxo
    have R1 := Lib.hid h1
    have R2 := Lib.hid h2
    have G1 := Lib.hid hb1
    obtain ⟨c1, f1, l1, n1⟩ := block_cells hb1
    have d0 := c1 0 _ rfl
    clear hs hxo h1 h2 hb1 c1
    by_cases hjn : j < n
    · have hj1 : j < l.length := by rw [← HN.out]; exact hjn
      obtain ⟨ad, rfl⟩ : ∃ ad, ao = some ad := by
        cases ao with
        | some ad => exact ⟨ad, rfl⟩
        | none => have := HL.out.1 rfl; rw [this] at hj1; simp at hj1
      have HPR : Hid (∀ W, Below w.heap.size w W → ∀ (i : Nat) (u : Value), (cellsE (l[j]'hj1))[i]? = some u → W.cell? ((ad.add (j * 4)).add i) = some u) := Lib.hid fun W h i u hu => Atr.at (f := cellsE) (fun _ => rfl) (HL.out.below h) j hj1 i u hu
      have hp := HK.out _ (List.getElem_mem hj1)
      generalize l[j]'hj1 = p at HPR hp
      obtain ⟨sp, va, fi, la⟩ := p
      clear hj1
      have HW : Hid (∀ W, Below w1.heap.size w1 W → W.cell? (ad.add (j * 4)) = some (.int .i64 sp) ∧ W.cell? ⟨(ad.add (j * 4)).block, (ad.add (j * 4)).off + 1, none⟩ = some (.int .u64 va) ∧ W.cell? ⟨(ad.add (j * 4)).block, (ad.add (j * 4)).off + 2, none⟩ = some (.int .u64 fi) ∧ W.cell? ⟨(ad.add (j * 4)).block, (ad.add (j * 4)).off + 3, none⟩ = some (.int .u64 la)) := Lib.hid fun W h =>
        have hh := B1.trans (h.mono Bz1)
        ⟨HPR.out W hh 0 _ rfl, HPR.out W hh 1 _ rfl, HPR.out W hh 2 _ rfl, HPR.out W hh 3 _ rfl⟩
      have cF : Hid (∀ V, Calls Try.prog 13 #[.int .i64 sp, .int .u64 va, .int .u64 fi, .int .u64 la] V (RetB (.tuple #[entV (fillE sp va fi la), .bool (keptB (leafD fi la))]) V)) := Lib.hid fun V => fill_any sp va fi la V hp.2.1 hp.2.2.1 hp.2.2.2
      have HFO : Hid (keptB (leafD fi la) = true → (fillE sp va fi la).ok ∧ Filled (fillE sp va fi la)) := Lib.hid fun hk => ⟨fill_ok sp va fi la hk hp.1 hp.2.1 hp.2.2.1 hp.2.2.2, fill_filled sp va fi la hk⟩
      clear hp HPR
      generalize keptB (leafD fi la) = kp at cF HFO
      generalize fillE sp va fi la = en at cF HFO
      obtain ⟨es, ep, ef, el⟩ := en
      simp only [entV] at cF
      go_wp2_with fail
      go_cut [6, 7] (fun t k wx => ∃ Bk : Nat, t = .pointer (some ⟨Bk, 0, none⟩) ∧ k = .bool kp ∧ wr.heap.size ≤ Bk ∧ wx.heap[Bk]? = some (.cells #[.int .i64 es, .int .u64 ep, .int .u64 ef, .int .u64 el] 27) ∧ Below wr.heap.size wr wx)
      case first =>
        go_region_held3 (fun W => W.cell? (ad.add (j * 4)) = some (.int .i64 sp) ∧ W.cell? ⟨(ad.add (j * 4)).block, (ad.add (j * 4)).off + 1, none⟩ = some (.int .u64 va) ∧ W.cell? ⟨(ad.add (j * 4)).block, (ad.add (j * 4)).off + 2, none⟩ = some (.int .u64 fi) ∧ W.cell? ⟨(ad.add (j * 4)).block, (ad.add (j * 4)).off + 3, none⟩ = some (.int .u64 la))
          (first | (refine HW.out _ (hB.trans (Below.mono (B := wr.heap.size) ?_ hBs)); (repeat' (first | with_reducible exact Below.refl _ _ | with_reducible assumption | with_reducible apply below_drewN | with_reducible apply Below.drew | with_reducible refine Below.setCell ?_ ?_ _ | with_reducible refine Below.alloc ?_ ?_ _ | omega | (simp; done) | (simp; omega))); done))
          (first | (go_at_call 13; (refine (cF.out _).mono ?_); intro e t1 hx; obtain ⟨rfl, hb⟩ := retTup_out hx; have C1 : Below wr.heap.size wr t1 := Below.trans (by (repeat' (first | with_reducible exact Below.refl _ _ | with_reducible assumption | with_reducible apply below_drewN | with_reducible apply Below.drew | with_reducible refine Below.setCell ?_ ?_ _ | with_reducible refine Below.alloc ?_ ?_ _ | omega | (simp; done) | (simp; omega))); done) (hb.mono (by first | omega | (simp; done) | (simp; omega))); have C1s := C1.size; (try (have uh := (hb.block wr.heap.size (by first | omega | (simp; done) | (simp; omega))).trans (heap_np wr.drew _); have UH := Lib.hid uh; obtain ⟨u1, u2, u3, u4⟩ := block_cells uh; have u10 := u1 0 _ rfl; have u11 := u1 1 _ rfl; have u12 := u1 2 _ rfl; have u13 := u1 3 _ rfl; clear u1 uh)); clear hx hb))
        all_goals
          go_wp2_with fail
          go_meet
          first
          | (refine ⟨_, rfl, rfl, C1s, heap_new _ _ _ rfl, ?_⟩; (repeat' (first | with_reducible exact Below.refl _ _ | with_reducible assumption | with_reducible apply below_drewN | with_reducible apply Below.drew | with_reducible refine Below.setCell ?_ ?_ _ | with_reducible refine Below.alloc ?_ ?_ _ | omega | (simp; done) | (simp; omega))); done)
          | (refine ⟨_, rfl, rfl, Nat.le_refl _, block_set (block_set (block_set (block_set UH.out rfl) rfl) rfl) rfl, ?_⟩; (repeat' (first | with_reducible exact Below.refl _ _ | with_reducible assumption | with_reducible apply below_drewN | with_reducible apply Below.drew | with_reducible refine Below.setCell ?_ ?_ _ | with_reducible refine Below.alloc ?_ ?_ _ | omega | (simp; done) | (simp; omega))); done)
      case rest =>
      obtain ⟨Bk, rfl, rfl, hkB, hbk, hBc⟩ := hcut
      have hBcs := hBc.size
      have BC : Below w1.heap.size w1 wc := hB.trans (hBc.mono hBs)
      have hq := (hBc.block _ l1).trans G1.out
      clear f1 n1 d0 HW cF
      cases kp with
      | false =>
        go_wp2_with fail
        go_roundw
        case rel => exact ⟨j + 1, L, a1, a2, p1, p2, by go_num, by omega, by omega, rfl, HS.out, HXO.out, R1.out.below hBc, R2.out.below hBc, BC, hq⟩
        case measure => first | (simp [intOf]; done) | (simp [intOf]; omega)
      | true =>
        have HEO := Lib.hid (HFO.out rfl)
        have HBK := Lib.hid hbk
        have HQ := Lib.hid hq
        obtain ⟨c1, f1, l1', n1⟩ := block_cells hq
        have d0 := c1 0 _ rfl
        obtain ⟨c2, f2, l2, n2⟩ := block_cells hbk
        have e0 := c2 0 _ rfl
        have e1 := c2 1 _ rfl
        have e2 := c2 2 _ rfl
        have e3 := c2 3 _ rfl
        clear c1 c2 hq hbk HFO
        go_wp2_with fail
        refine (bwith_any _ _ L ⟨es, ep, ef, el⟩ _ (R1.out.below hBc) (by omega) HS.out (by omega)).mono ?_
        have hla := len_withE L ⟨es, ep, ef, el⟩
        have HA := Lib.hid (sorted_with HS.out ⟨es, ep, ef, el⟩)
        have HAX : Hid (∀ x ∈ withE L ⟨es, ep, ef, el⟩, x.ok ∧ Filled x) := Lib.hid fun x hx => by
          rcases mem_with.1 hx with h | rfl
          · exact HXO.out x h
          · exact HEO.out
        have cR : Hid (∀ W, RowE W w1.heap.size (.slice a2 L.length p2) L → w1.heap.size ≤ W.heap.size → Calls Try.prog 24 #[.slice a2 L.length p2, .agg #[.int .i64 es, .int .u64 ep, .int .u64 ef, .int .u64 el]] W (RetLst w1.heap.size (withE L ⟨es, ep, ef, el⟩) W)) := Lib.hid fun W h hz => rwith_any _ _ L ⟨es, ep, ef, el⟩ W h hz HS.out (by omega)
        generalize withE L ⟨es, ep, ef, el⟩ = A at hla HA HAX cR ⊢
        intro e w2 hx
        obtain ⟨a3, p3, rfl, hr, hb⟩ := retBuf_o hx
        have C2 : Below w1.heap.size w1 w2 := BC.trans (hb.mono BC.size)
        have C2s := C2.size
        have hq2 := (hb.block _ l1').trans HQ.out
        have hk2 := (hb.block _ l2).trans HBK.out
        have HQ2 := Lib.hid hq2
        have HK2 := Lib.hid hk2
        have RA := Lib.hid hr
        have R2' := Lib.hid (R2.out.below (hBc.trans (hb.mono hBcs)))
        clear hx hr hb d0 e0 e1 e2 e3 f1 f2 l1' l2 n1 n2
        obtain ⟨c1, f1, l1', n1⟩ := block_cells hq2
        have d0 := c1 0 _ rfl
        obtain ⟨c2, f2, l2, n2⟩ := block_cells hk2
        have e0 := c2 0 _ rfl
        have e1 := c2 1 _ rfl
        have e2 := c2 2 _ rfl
        have e3 := c2 3 _ rfl
        have hne : ¬ w1.heap.size = Bk := by omega
        have hne2 : ¬ Bk = w1.heap.size := by omega
        clear c1 c2 hq2 hk2
        go_wp2_with fail
        refine (cR.out _ (R2'.out.puts HQ2.out _ _) (by simp; omega)).mono ?_
        intro e w3 hx
        obtain ⟨a4, p4, rfl, hr, hb⟩ := retLst_o2 hx
        have RB := Lib.hid hr
        have C3 : Below w1.heap.size w1 w3 := (C2.setCell (Nat.le_refl _) _).trans (hb.mono (by simp; omega))
        have RA2 := Lib.hid ((RA.out.puts HQ2.out 0 (.slice a3 A.length p3)).below hb)
        have HQ3 := Lib.hid ((hb.block w1.heap.size (by simp; omega)).trans (block_set HQ2.out rfl))
        clear hx hr hb d0 e0 e1 e2 e3 f1 f2 l1' l2 n1 n2
        go_wp2_with fail
        go_roundw
        case rel => exact ⟨j + 1, A, a3, a4, p3, p4, by go_num, by omega, by omega, rfl, HA.out, HAX.out, RA2.out, RB.out, C3, HQ3.out⟩
        case measure => first | (simp [intOf]; done) | (simp [intOf]; omega)
    · obtain rfl : j = n := by omega
      obtain ⟨R, hR⟩ : ∃ R : Bool, R = true ↔ SingleP L := ⟨@decide (SingleP L) (Classical.propDecidable _), by simp⟩
      have hR2 : R = true ↔ SingleR L := hR.trans (single_iff HS.out fun x hx => (HXO.out x hx).2)
      have c1 : Hid (Calls Try.prog 25 #[.agg #[.slice a1 L.length p1]] wr (RetB (.bool R) wr)) := Lib.hid (bsingle_any _ _ L R wr R1.out (fun x hx => (HXO.out x hx).1) (by omega) hR)
      have c2 : Hid (∀ W, Below wr.heap.size wr W → Calls Try.prog 26 #[.slice a2 L.length p2] W (RetB (.bool R) W)) := Lib.hid fun W h => rsingle_any _ _ L R W (R2.out.below h) (Nat.le_trans hBs h.size) (fun x hx => (HXO.out x hx).1) (by omega) hR2
      clear hR hR2
      go_wp2_with fail
      refine c1.out.mono ?_
      rintro e w2 ⟨rfl, hb⟩
      have C2 : Below wr.heap.size wr w2 := hb
      have C2s := C2.size
      clear hb
      go_wp2_with fail
      refine (c2.out _ C2).mono ?_
      rintro e w3 ⟨rfl, hb⟩
      have C3 : Below wr.heap.size wr w3 := C2.trans (hb.mono C2s)
      clear hb
      cases R
      all_goals
        go_wp2_with fail
        go_ret
        exact ⟨rfl, B1.trans (Below.mono (hB.trans (C3.mono hBs)) Bz1)⟩

set_option maxRecDepth 100000 in
theorem tlbSingle_lifted (os : Os) (started : os.Started) (H : Type) (enc : TypeId × Value → H) :
    ReturnsInHanded {} Try.checked os 7 .any (Rows.tlbSingleSpec.pre6 enc Try.prog Try.f7 Rows.tlbSingleRow.domain false) (Rows.tlbSingleSpec.post enc Try.prog Try.f7 false true false false) := by
  refine returnsInHanded_of_change (C := Try.checked) own started (by kernel_rfl) Try.func7
    (ChangeSpec.witness6 (enc := enc) (C := Try.checked) false ⟨#[], #[.slice none 0 0], []⟩ 8 (by kernel_rfl) (by kernel_rfl) (by kernel_rfl) (by kernel_rfl)) ?_
  intro W base args ds gs before hval0 hW _ _
  have hval : ∀ (j : Nat) t v, Try.f7.params[j]? = some t → args[j]? = some v → Value.okWide Try.prog W .any base t v := hval0
  have hW' := hW
  obtain ⟨p, q, hA0, hV, rfl, hfz, hnd⟩ := hW
  have hA : DataW.TrodAll enc Try.prog W 0 (fun _ => true) true Try.f7.params.toList args.toList ds p := hA0
  rw [Try.params7] at hA hval
  obtain ⟨v0, vs0, d0, ds0, p0, q0, hargs, rfl, rfl, h0, r0⟩ := trodAll_cons hA
  obtain ⟨rfl, rfl, rfl⟩ := trodAll_nil r0
  obtain rfl : args = #[v0] := by cases args; simp_all
  obtain ⟨rfl, rfl⟩ := trodVars_none hV
  obtain ⟨o0, k0, l0, rfl, A0, c0, w0⟩ := arg_ways h0 (hval 0 39 v0 rfl rfl)
  refine (tlbSingle_walk (w := W) o0 k0 l0 A0 c0 w0).mono fun e W' ⟨he, hb⟩ => ?_
  subst he
  exact ⟨_, rfl, post_law laid hW' rfl (by kernel_rfl) rfl Try.underlying4 rfl hb⟩

/-- The statement. -/
theorem tlbSingle_holds : Rows.TlbSingleSaid :=
  OpenClaim.holds_of_wide 7 Try.f7 rfl rfl rfl rfl rfl rfl rfl ⟨rfl, rfl, rfl, rfl, rfl⟩ rfl rfl rfl rfl rfl (by kernel_rfl) Try.func7 (by kernel_rfl)
    (of_decide_eq_true (by kernel_rfl)) (by unfold Func.isWrapper; first | (rw [if_pos (by decide +kernel)]; kernel_rfl) | (rw [if_neg (by decide +kernel)]; exact ⟨rfl, rfl⟩))
    (fun os started H enc _ => tlbSingle_lifted os started H enc)
#print axioms tlbSingle_holds

end Go.Proofs.Ytcaggboeacgknaa
