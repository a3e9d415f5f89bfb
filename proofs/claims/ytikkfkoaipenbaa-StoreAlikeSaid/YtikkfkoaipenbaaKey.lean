/- Memories of package store: Key. -/
import Derived.Test.YtikkfkoaipenbaaEachb
import Derived.Test.YtikkfkoaipenbaaMem
import Derived.Test.YtikkfkoaipenbaaRecc
import Derived.Test.YtikkfkoaipenbaaCells
import Derived.Test.YtikkfkoaipenbaaHexb
import Derived.Maps.AppendAt
import Derived.Lib.AppendStr
import Derived.Sort.CutIn
import Derived.RegionIn
namespace Go.Proofs.Ytikkfkoaipenbaa
open Go.RowKit Go.Shelf
attribute [local go_sem] Oper.semAt_some

/-- The text of the pairs so far. -/
def klN (L : List UP) : List Nat := keyT (L.map fun p => (p.1.1.toNat, p.1.2.toNat))
def strN (l : List Nat) : ByteArray := ⟨(l.map UInt8.ofNat).toArray⟩

theorem strN_size (l : List Nat) : (strN l).size = l.length := by simp [strN, ByteArray.size]
theorem strN_cells (l : List Nat) (h : ∀ d ∈ l, d < 256) : Lib.strCells (strN l) = byteV l := by
  unfold Lib.strCells strN byteV
  rw [List.toList_toArray, List.map_map]
  apply List.map_congr_left
  intro d hd
  have := h d hd
  simp
  omega
theorem hexT_byte (a : Nat) : ∀ d ∈ hexT a, d < 256 := fun d hd => (hexT_no a d hd).2.2
theorem hexT_len {a : Nat} (h : a < 18446744073709551616) : (hexT a).length ≤ 18 := by
  have := hexR_len 16 a (by decide) (by have : (16 : Nat) ^ 16 = 18446744073709551616 := by decide
                                        omega)
  simp [hexT]
  omega
theorem klN_snoc (pre : List UP) (x : UP) : klN (pre ++ [x]) = ((klN pre ++ hexT x.1.1.toNat) ++ [61]) ++ hexT x.1.2.toNat ++ [32] := by
  unfold klN
  rw [List.map_append, List.map_cons, List.map_nil, keyT_append]
  simp
theorem klN_len (L : List UP) : (klN L).length ≤ 38 * L.length := by
  induction L with
  | nil => simp [klN, keyT]
  | cons x L ih =>
    have h1 := hexT_len (a := x.1.1.toNat) (by have := x.2.1.1; have := x.2.1.2; omega)
    have h2 := hexT_len (a := x.1.2.toNat) (by have := x.2.2.1; have := x.2.2.2; omega)
    have : klN (x :: L) = hexT x.1.1.toNat ++ 61 :: (hexT x.1.2.toNat ++ 32 :: klN L) := rfl
    rw [this]
    simp only [List.length_append, List.length_cons]
    omega
theorem klN_byte (L : List UP) : ∀ d ∈ klN L, d < 256 := by
  induction L with
  | nil => intro d hd; simp [klN, keyT] at hd
  | cons x L ih =>
    intro d hd
    have : klN (x :: L) = hexT x.1.1.toNat ++ 61 :: (hexT x.1.2.toNat ++ 32 :: klN L) := rfl
    rw [this] at hd
    simp only [List.mem_append, List.mem_cons] at hd
    rcases hd with hd | rfl | hd | rfl | hd
    · exact hexT_byte _ d hd
    · decide
    · exact hexT_byte _ d hd
    · decide
    · exact ih d hd

theorem keeps_below {W W' : World} (h : Below W.heap.size W W') : KeepsOthers W W' := ⟨h.size, fun k o hk _ => (h.block k (Array.getElem?_eq_some_iff.1 hk).1).trans hk⟩

/-- What stands between two steps of a round. -/
structure KSt (w W : World) (cs : Array Value) (l : List Nat) (v : Value) (wx : World) : Prop where
  box : Boxed wx (w.heap.size + 1) 86 v
  own : wx.ownsRow w.heap.size 5 1 v l.length (byteV l)
  map : wx.heap[w.heap.size + 2]? = some (.cells cs 53)
  keep : KeepsOthers W wx
  below : Below w.heap.size w wx
  belowW : Below w.heap.size W wx

theorem KSt.call {w W wx wy : World} {cs : Array Value} {l : List Nat} {v : Value} (h : KSt w W cs l v wx) (hb : Below wx.heap.size wx wy) : KSt w W cs l v wy :=
  ⟨(hb.block _ h.box.lt).trans h.box, ownsRow_below h.own hb, (hb.block _ (Array.getElem?_eq_some_iff.1 h.map).1).trans h.map, h.keep.trans (keeps_below hb),
    h.below.trans (hb.mono h.below.size), h.belowW.trans (hb.mono h.below.size)⟩

theorem KSt.put {w W wx w1 : World} {cs : Array Value} {l l' : List Nat} {v v' : Value} (h : KSt w W cs l v wx) (hown : w1.ownsRow w.heap.size 5 1 v' l'.length (byteV l')) (hg : wx.grownBy w1 v.ownBlock) :
    Boxed w1 (w.heap.size + 1) 86 v ∧ KSt w W cs l' v' (w1.setCell ⟨w.heap.size + 1, 0, none⟩ v') := by
  have hv1 : Boxed w1 (w.heap.size + 1) 86 v := h.box.kept hg (h.box.not_row (by decide) h.own)
  have hm : (w1.setCell ⟨w.heap.size + 1, 0, none⟩ v').heap[w.heap.size + 2]? = some (.cells cs 53) :=
    block_else ((hg.block _ (Array.getElem?_eq_some_iff.1 h.map).1 (row_ne h.own h.map (by decide))).trans h.map) (by omega)
  have hk : KeepsOthers wx (w1.setCell ⟨w.heap.size + 1, 0, none⟩ v') := by
    refine (KeepsOthers.of_grownBy hg fun j o ej hj => ?_).trans (KeepsOthers.setCell _ _ _)
    rcases h.own.2 with ⟨rfl, _⟩ | ⟨g, cap, cur, rfl, _, hgb, _⟩
    · simp [Value.ownBlock] at ej
    · obtain rfl : g = j := by simpa [Value.ownBlock] using ej
      rw [hgb] at hj; cases hj; rfl
  have hb : Below w.heap.size wx (w1.setCell ⟨w.heap.size + 1, 0, none⟩ v') := by
    refine ((Below.refl w.heap.size wx).grown hg h.below.size fun j ej => ?_).setCell (p := ⟨w.heap.size + 1, 0, none⟩) (show w.heap.size ≤ w.heap.size + 1 by omega) v'
    rcases h.own.2 with ⟨rfl, _⟩ | ⟨g, cap, cur, rfl, hbs, _, _⟩
    · simp [Value.ownBlock] at ej
    · obtain rfl : g = j := by simpa [Value.ownBlock] using ej
      exact hbs
  exact ⟨hv1, hv1.set v', hown.kept (grownBy_setCell' w1 (w.heap.size + 1) v') (.inr (hv1.not_row (by decide) hown).symm), hm, h.keep.trans hk, h.below.trans hb, h.belowW.trans hb⟩

theorem conv_row {W : World} {base : Nat} {ao : Option Addr} {n cap : Nat} {l : List Nat} (hrow : W.ownsRow base 5 1 (.slice ao n cap) n (byteV l)) (hn : n = l.length) (hb : ∀ d ∈ l, d < 256) :
    (convert 86 9 (.slice ao n cap)).run Try.prog W = .ok (.string (strN l)) W := by
  rcases hrow.2 with ⟨hv, h0⟩ | ⟨g, c, cur, hv, _⟩
  · simp only [Value.slice.injEq] at hv
    obtain ⟨rfl, _, _⟩ := hv
    obtain rfl : l = [] := List.eq_nil_of_length_eq_zero (by omega)
    exact run_convert_bytes_nil W 86 5 Try.underlying86 Try.underlying5 n cap 9 Try.underlying9
  · simp only [Value.slice.injEq] at hv
    obtain ⟨rfl, _, _⟩ := hv
    have hl : (l.map UInt8.ofNat).length = n := by simp [hn]
    have kb := run_convert_bytes_back (P := Try.prog) W 86 9 5 ⟨g, 0, none⟩ cap (l.map UInt8.ofNat) Try.underlying86 Try.underlying5 Try.underlying9 (fun j hj => by
      have hj' : j < l.length := by simpa using hj
      have hlt : l[j] < 256 := hb _ (List.getElem_mem hj')
      rw [Addr.add_lit, Nat.zero_add, hrow.cellAt j (by omega)]
      simp [byteV, hj']
      omega)
    rw [hl] at kb
    exact kb

theorem KSt.drew {w W wx : World} {cs : Array Value} {l : List Nat} {v : Value} (h : KSt w W cs l v wx) : KSt w W cs l v wx.drew := h.call (by repeat' (first | with_reducible exact Below.refl _ _ | with_reducible assumption | with_reducible apply below_drewN | with_reducible apply Below.drew | with_reducible refine Below.setCell ?_ ?_ _ | with_reducible refine Below.alloc ?_ ?_ _ | omega | (simp; done) | (simp; omega)))
theorem KSt.alloc {w W wx : World} {cs : Array Value} {l : List Nat} {v : Value} (h : KSt w W cs l v wx) (x : Obj) : KSt w W cs l v (wx.alloc x) := h.call (by repeat' (first | with_reducible exact Below.refl _ _ | with_reducible assumption | with_reducible apply below_drewN | with_reducible apply Below.drew | with_reducible refine Below.setCell ?_ ?_ _ | with_reducible refine Below.alloc ?_ ?_ _ | omega | (simp; done) | (simp; omega)))

/-- append of a text, as one step of a fenced region that draws. -/
theorem stepIn_append_str {F : Fence} {n : Nat} {P : Program} {ops : Array Oper} {o : Oper} {a : Act} {w : World} {K : Act → World → Prop} {Q : Exit → Act → World → Prop} {E : Prop} (hgd : o.guard = none) (sl x : Operand) (t u : TypeId)
    (ho : o.op = .call { callee := .builtin .append, args := #[sl, x], argTypes := #[t, u] })
    (base : Nat) (e : TypeId) (i : TypeInfo) (ht : P.underlying t = some (.slice e)) (hu : P.underlying u = some .string) (hi : P.info? e = some i) (hz : i.zero = some (.int .u8 0))
    (hsize : i.size = 1) (hby : i.bytes = 1)
    (v : Value) (k : Nat) (xs : List Value) (hs : a.eval sl = v) (hown : w.ownsRow base e 1 v k xs) (s : ByteArray) (hx : a.eval x = .string s)
    (h63 : k + s.size ≤ maxLen) (hbytes : k + s.size ≤ 140737488355328) (hbase : base ≤ w.heap.size)
    (h : ∀ v' w', w'.ownsRow base e 1 v' (k + s.size) (xs ++ Lib.strCells s) → w.grownBy w' v.ownBlock → K (a.put o.dst v') w') :
    if Region.wanted o (yielded ops a.tmps) = true then Oper.wpIn F n P o a w K Q else E := by
  have hw : Region.wanted o (yielded ops a.tmps) = true := by simp [Region.wanted, hgd]
  rw [if_pos hw]
  obtain ⟨v', w', hr, h2, h3, h4⟩ := Lib.run_append_own_string (P := P) w base t u o.type e i ht hu hi hz hsize hby v k xs hown s h63 hbytes hbase
  unfold Oper.wpIn
  refine ⟨?_, ?_⟩
  · simp [Oper.about, ho, resolve, Target.leads, Sem.run_pure]
  · rw [Oper.semAt_plain F _ _ (by rw [ho]; intro c hc'; cases hc')]
    simp [execOp, ho, resolve, invoke, builtin, hs, hx, hr, Result.andThen]
    exact h v' w' h2 h3

set_option maxRecDepth 100000 in
set_option maxHeartbeats 8000000 in
theorem key_any (ks vs : Value) (L : List UP) (w : World) (hm : MapuIs w ks vs (L.map Subtype.val)) (hlen : L.length ≤ 900) :
    Calls Try.prog 33 #[.agg #[ks, vs]] w (RetB (.string (strN (klN L))) w) := by
  obtain ⟨i0, hi, hz0, hz1, hz2⟩ := info_parts infoB
  have HM := Lib.hid hm
  have hml : (L.map Subtype.val).length = L.length := by simp
  obtain ⟨ao, cap, rfl⟩ := ownsRow_form hm.keys
  obtain ⟨bo, cap2, rfl⟩ := ownsRow_form hm.vals
  rw [hml] at HM ⊢
  clear hm
  refine (callsIn_wide (n := 5)).1 ?_
  refine callsIn_of_wp_marks Try.func33 rfl trivial ?_ rfl
  simp only [Try.ntmps33, List.size_toArray, List.length_cons, List.length_nil, Nat.reduceAdd, Nat.reduceSub, Array.replicate_succ, Array.replicate_zero, List.push_toArray, List.append_toArray, List.nil_append, List.cons_append]
  gi_wp2_with (refine ⟨trivial, ?_⟩; gi_at_call 38; refine (eachu_in Fence.wide _ trivial rfl _ _ _ _ _ _ _).mono ?_; rintro e w' ⟨rfl, rfl⟩)
  have bO : Boxed ((w.alloc (.cells #[.slice ao L.length cap, .slice bo L.length cap2] 55)).alloc (.cells #[.slice none 0 0] 86)) (w.heap.size + 1) 86 (.slice none 0 0) := by unfold Boxed; (repeat (first | assumption | (refine heap_new _ _ _ ?_; simp; done) | refine heap_old _ _ _ _ ?_))
  obtain ⟨w2, hw2⟩ : ∃ w2, w2 = (w.alloc (.cells #[.slice ao L.length cap, .slice bo L.length cap2] 55)).alloc (.cells #[.slice none 0 0] 86) := ⟨_, rfl⟩
  have hB2 : Below w.heap.size w w2 := by rw [hw2]; repeat' (first | with_reducible exact Below.refl _ _ | with_reducible assumption | with_reducible apply below_drewN | with_reducible apply Below.drew | with_reducible refine Below.setCell ?_ ?_ _ | with_reducible refine Below.alloc ?_ ?_ _ | omega | (simp; done) | (simp; omega))
  have hs2 : w2.heap.size = w.heap.size + 2 := by rw [hw2]; simp
  have hbn : (w2.alloc (.cells #[.slice ao L.length cap, .slice bo L.length cap2] 53)).heap[w2.heap.size]? = some (.cells #[.slice ao L.length cap, .slice bo L.length cap2] 53) := by (repeat (first | assumption | (refine heap_new _ _ _ ?_; simp; done) | refine heap_old _ _ _ _ ?_))
  rw [← hw2] at bO ⊢
  rw [hs2] at hbn
  have hB3 : Below w.heap.size w (w2.alloc (.cells #[.slice ao L.length cap, .slice bo L.length cap2] 53)) := hB2.alloc (by omega) _
  refine wpIn_rangeFunc_ownG (F := Fence.wide) rfl (by omega) (gf := 45) (lb := #[.pointer (some ⟨w.heap.size + 1 + 1, 0, none⟩)]) rfl trivial (enters_of Try.func45 (by kernel_rfl) rfl)
    (eachp_stops Fence.wide _ trivial rfl (by omega) (w.heap.size + 2) _ _ L (by omega) w _ HM.out hB3 hbn) (fun h k => h.trans k) (KeepNu.put (by simp; omega) (by simp; omega)) (Below.refl _ _) (fun _ => rfl)
    (fun pre W => ((∃ v, Boxed W (w.heap.size + 1) 86 v ∧ W.ownsRow w.heap.size 5 1 v (klN pre).length (byteV (klN pre)) ∧ True) ∧ W.heap[w.heap.size + 2]? = some (.cells #[.slice ao L.length cap, .slice bo L.length cap2] 53)) ∧ Below w.heap.size w W)
    (fun _ _ _ => False)
    (OwnFrom.and (Own.from (fun s A B row hs hg hr => ⟨holdsRow_own w.heap.size (w.heap.size + 1) 86 5 1 (fun pre => (klN pre).length) (fun pre => byteV (klN pre)) (fun _ _ => True) s A B row hs.1 hg hr, cells_own _ _ _ s A B row hs.2 hg hr⟩) _) (ownFrom_below (Nat.le_refl _) (by simp; omega)))
    (fun _ _ _ _ _ hs _ _ => hs)
    ⟨⟨⟨_, bO.alloc _, World.ownsRow_nil _ _ _ _, trivial⟩, hbn⟩, hB3⟩
    (fun x => { tmps := #[.agg #[.slice ao L.length cap, .slice bo L.length cap2], .pointer (some ⟨w.heap.size, 0, none⟩), .string ⟨#[]⟩, .pointer (some ⟨w.heap.size + 1, 0, none⟩), .int .u64 x.1.1, .int .u64 x.1.2, .pointer (some ⟨w.heap.size, 0, none⟩), .agg #[.slice ao L.length cap, .slice bo L.length cap2], .func (.func 45) #[] #[.pointer (some ⟨w.heap.size + 1 + 1, 0, none⟩)], .int .u64 x.1.1, .int .u64 x.1.2, undef, undef, undef, undef, undef, undef, undef, undef, undef, undef, undef, undef, undef, undef, undef, undef], defers := [] }) ?assign ?body ?done ?stop
  case assign =>
    intro l x W K hK
    dsimp only [encp]
    gi_wp2
    exact hK
  case body =>
    rintro l pre x W ⟨⟨⟨v, hv, hrow, -⟩, hbx⟩, hB⟩ hlt
    have hc := hv.cell
    obtain ⟨go, cap3, rfl⟩ := ownsRow_form hrow
    obtain ⟨⟨xa, xv⟩, hxa, hxv⟩ := x
    have hkl := klN_len pre
    have hK0 : KSt w W #[.slice ao L.length cap, .slice bo L.length cap2] (klN pre) (.slice go (klN pre).length cap3) W := ⟨hv, hrow, hbx, KeepsOthers.refl _, hB, Below.refl _ _⟩
    obtain ⟨a, rfl⟩ := Int.eq_ofNat_of_zero_le hxa.1
    obtain ⟨b, rfl⟩ := Int.eq_ofNat_of_zero_le hxv.1
    have ha64 : a < 18446744073709551616 := by have := hxa.2; omega
    have hb64 : b < 18446744073709551616 := by have := hxv.2; omega
    have hla := hexT_len ha64
    have hlb := hexT_len hb64
    have cH1 : Hid (∀ V, Calls Try.prog 43 #[.int .u64 (a : Int)] V (RetB (.string (strN (hexT a))) V)) := Lib.hid fun V => hex_any a V ha64
    have cH2 : Hid (∀ V, Calls Try.prog 43 #[.int .u64 (b : Int)] V (RetB (.string (strN (hexT b))) V)) := Lib.hid fun V => hex_any b V hb64
    have HXN := Lib.hid (klN_snoc pre ⟨((a : Int), (b : Int)), hxa, hxv⟩)
    simp only [Int.toNat_natCast] at HXN
    have H0 := Lib.hid hK0
    clear hv hrow hK0 hc
    generalize klN pre = l0 at H0 HXN hkl
    gi_wp2
    gi_cut [] from 11 (fun wx => ∃ v, KSt w W #[.slice ao L.length cap, .slice bo L.length cap2] (l0 ++ hexT a) v wx)
    case first =>
      have hc0 := H0.out.drew.box.cell
      refine wpIn_region_any (by kernel_rfl) ?_
      change wpAnyIn _ _ _ _ _ _ _ _ _ (World.drew _)
      refine wpAnyIn_ready (rs := [0, 1]) (by kernel_rfl) (by simp) ?_
      refine AllReadyIn.cons rfl (fun K hK => ?_) (AllReadyIn.cons rfl (fun K hK => ?_) AllReadyIn.nil)
      · go_simp
        refine hK _ _ ?_
        clear hK K
        refine wpAnyIn_ready (rs := [1]) (by kernel_rfl) (by simp) ?_
        refine AllReadyIn.cons rfl (fun K hK => ?_) AllReadyIn.nil
        go_simp
        refine hK _ _ ?_
        clear hK K
        refine wpAnyIn_ready (rs := [2]) (by kernel_rfl) (by simp) ?_
        refine AllReadyIn.cons rfl (fun K hK => ?_) AllReadyIn.nil
        go_simp
        refine ⟨trivial, ((CallsIn.inRound l ((callsIn_wide (n := _)).2 (cH1.out _)))).mono ?_⟩
        rintro e w3 ⟨rfl, hb⟩
        have K1 := Lib.hid (H0.out.drew.call hb)
        have hsz : w.heap.size ≤ w3.heap.size := K1.out.below.size
        have hcL := K1.out.box.cell
        refine hK _ _ ?_
        clear hK K
        refine wpAnyIn_ready (rs := [3]) (by kernel_rfl) (by simp) ?_
        refine AllReadyIn.cons rfl (fun K hK => ?_) AllReadyIn.nil
        refine stepIn_append_str rfl (.tmp 11) (.tmp 13) 86 9 rfl w.heap.size 5 i0 Try.underlying86 Try.underlying9 hi hz0 hz1 hz2 _ _ _ rfl K1.out.own (strN (hexT a)) rfl (by rw [strN_size]; unfold maxLen; omega) (by rw [strN_size]; omega) hsz ?_
        intro v4 w4 ho hg
        rw [strN_size, strN_cells _ (hexT_byte a), ← byteV_append, ← List.length_append] at ho
        obtain ⟨g4, c4, rfl⟩ := ownsRow_form ho
        obtain ⟨hb4, K4⟩ := K1.out.put ho hg
        have K5 := Lib.hid K4
        have hf4 := hb4.frozen
        have hc4 := hb4.cell
        clear hb4 K4 ho hg
        refine hK _ _ ?_
        clear hK K
        refine wpAnyIn_ready (rs := [4]) (by kernel_rfl) (by simp) ?_
        refine AllReadyIn.cons rfl (fun K hK => ?_) AllReadyIn.nil
        go_simp
        refine hK _ _ ?_
        clear hK K
        refine wpAnyIn_done (by kernel_rfl) ?_ _
        gi_wp2
        gi_meet
        exact ⟨_, (by have hq := K5.out; simpa only [List.length_append] using hq)⟩
      · go_simp
        refine hK _ _ ?_
        clear hK K
        refine wpAnyIn_ready (rs := [0, 2]) (by kernel_rfl) (by simp) ?_
        refine AllReadyIn.cons rfl (fun K hK => ?_) (AllReadyIn.cons rfl (fun K hK => ?_) AllReadyIn.nil)
        · go_simp
          refine hK _ _ ?_
          clear hK K
          refine wpAnyIn_ready (rs := [2]) (by kernel_rfl) (by simp) ?_
          refine AllReadyIn.cons rfl (fun K hK => ?_) AllReadyIn.nil
          go_simp
          refine ⟨trivial, ((CallsIn.inRound l ((callsIn_wide (n := _)).2 (cH1.out _)))).mono ?_⟩
          rintro e w3 ⟨rfl, hb⟩
          have K1 := Lib.hid (H0.out.drew.call hb)
          have hsz : w.heap.size ≤ w3.heap.size := K1.out.below.size
          have hcL := K1.out.box.cell
          refine hK _ _ ?_
          clear hK K
          refine wpAnyIn_ready (rs := [3]) (by kernel_rfl) (by simp) ?_
          refine AllReadyIn.cons rfl (fun K hK => ?_) AllReadyIn.nil
          refine stepIn_append_str rfl (.tmp 11) (.tmp 13) 86 9 rfl w.heap.size 5 i0 Try.underlying86 Try.underlying9 hi hz0 hz1 hz2 _ _ _ rfl K1.out.own (strN (hexT a)) rfl (by rw [strN_size]; unfold maxLen; omega) (by rw [strN_size]; omega) hsz ?_
          intro v4 w4 ho hg
          rw [strN_size, strN_cells _ (hexT_byte a), ← byteV_append, ← List.length_append] at ho
          obtain ⟨g4, c4, rfl⟩ := ownsRow_form ho
          obtain ⟨hb4, K4⟩ := K1.out.put ho hg
          have K5 := Lib.hid K4
          have hf4 := hb4.frozen
          have hc4 := hb4.cell
          clear hb4 K4 ho hg
          refine hK _ _ ?_
          clear hK K
          refine wpAnyIn_ready (rs := [4]) (by kernel_rfl) (by simp) ?_
          refine AllReadyIn.cons rfl (fun K hK => ?_) AllReadyIn.nil
          go_simp
          refine hK _ _ ?_
          clear hK K
          refine wpAnyIn_done (by kernel_rfl) ?_ _
          gi_wp2
          gi_meet
          exact ⟨_, (by have hq := K5.out; simpa only [List.length_append] using hq)⟩
        · skip
          go_simp
          refine ⟨trivial, ((CallsIn.inRound l ((callsIn_wide (n := _)).2 (cH1.out _)))).mono ?_⟩
          rintro e w3 ⟨rfl, hb⟩
          have K1 := Lib.hid (H0.out.drew.call hb)
          have hsz : w.heap.size ≤ w3.heap.size := K1.out.below.size
          have hcL := K1.out.box.cell
          refine hK _ _ ?_
          clear hK K
          refine wpAnyIn_ready (rs := [0]) (by kernel_rfl) (by simp) ?_
          refine AllReadyIn.cons rfl (fun K hK => ?_) AllReadyIn.nil
          go_simp
          refine hK _ _ ?_
          clear hK K
          refine wpAnyIn_ready (rs := [3]) (by kernel_rfl) (by simp) ?_
          refine AllReadyIn.cons rfl (fun K hK => ?_) AllReadyIn.nil
          refine stepIn_append_str rfl (.tmp 11) (.tmp 13) 86 9 rfl w.heap.size 5 i0 Try.underlying86 Try.underlying9 hi hz0 hz1 hz2 _ _ _ rfl K1.out.own (strN (hexT a)) rfl (by rw [strN_size]; unfold maxLen; omega) (by rw [strN_size]; omega) hsz ?_
          intro v4 w4 ho hg
          rw [strN_size, strN_cells _ (hexT_byte a), ← byteV_append, ← List.length_append] at ho
          obtain ⟨g4, c4, rfl⟩ := ownsRow_form ho
          obtain ⟨hb4, K4⟩ := K1.out.put ho hg
          have K5 := Lib.hid K4
          have hf4 := hb4.frozen
          have hc4 := hb4.cell
          clear hb4 K4 ho hg
          refine hK _ _ ?_
          clear hK K
          refine wpAnyIn_ready (rs := [4]) (by kernel_rfl) (by simp) ?_
          refine AllReadyIn.cons rfl (fun K hK => ?_) AllReadyIn.nil
          go_simp
          refine hK _ _ ?_
          clear hK K
          refine wpAnyIn_done (by kernel_rfl) ?_ _
          gi_wp2
          gi_meet
          exact ⟨_, (by have hq := K5.out; simpa only [List.length_append] using hq)⟩
    case rest =>
      obtain ⟨v1, K1⟩ := hcut
      obtain ⟨go1, c1, rfl⟩ := ownsRow_form K1.own
      have hl1 : (l0 ++ hexT a).length ≤ 40000 := by rw [List.length_append]; omega
      have hc1 := K1.box.cell
      have H1 := Lib.hid K1
      clear K1 H0
      generalize l0 ++ hexT a = l1 at H1 HXN hc1 hl1
      gi_wp2_with (gi_at_builtin; refine wpListIn_append_own _ rfl (.tmp 15) (.tmp 16) 86 rfl w.heap.size 5 i0 (.int .u8 0) 1 1 Try.underlying86 hi hz0 hz1 hz2 rfl (by decide) _ _ _ rfl (H1.out.own.alloc _) ⟨wc.heap.size, 0, none⟩ 1 1 [.int .u8 61] rfl rfl (one_new _ _ _) (fun u hu => (by simp at hu; subst hu; rfl)) (by unfold maxLen; omega) (by omega) (by have := H1.out.below.size; simp; omega) ?_; intro v6 w6 ho hg _; obtain ⟨g6, c6, rfl⟩ := ownsRow_succ ho; obtain ⟨hb6, K6⟩ := (H1.out.alloc _).put (l' := _ ++ [61]) (v' := .slice (some ⟨g6, 0, none⟩) (_ + 1) c6) (by rw [List.length_append, byteV_append]; exact ho) hg; have K7 := Lib.hid K6; have hf6 := hb6.frozen; have hc6 := hb6.cell; clear hb6 K6 ho hg)
      have hl2 : (l1 ++ [61]).length ≤ 40001 := by rw [List.length_append]; simp; omega
      have hc2 := K7.out.box.cell
      obtain ⟨w7, hw7⟩ : ∃ w7, w7 = w6.setCell ⟨w.heap.size + 1, 0, none⟩ (.slice (some ⟨g6, 0, none⟩) (l1.length + 1) c6) := ⟨_, rfl⟩
      rw [← hw7] at K7 hc2 ⊢
      have H2 : Hid (KSt w W #[.slice ao L.length cap, .slice bo L.length cap2] (l1 ++ [61]) (.slice (some ⟨g6, 0, none⟩) ((l1 ++ [61]).length) c6) w7) := Lib.hid (by rw [List.length_append]; exact K7.out)
      have hlen2 : l1.length + 1 = (l1 ++ [61]).length := by rw [List.length_append]; rfl
      rw [hlen2] at hc2 ⊢
      clear K7 hw7 hf6 hc6 hlen2 H1 hc1 hl1
      generalize l1 ++ [61] = l2 at H2 HXN hc2 hl2 ⊢
      gi_cut [] from 18 (fun wx => ∃ v, KSt w W #[.slice ao L.length cap, .slice bo L.length cap2] (l2 ++ hexT b) v wx)
      case first =>
        have hc0 := H2.out.drew.box.cell
        refine wpIn_region_any (by kernel_rfl) ?_
        change wpAnyIn _ _ _ _ _ _ _ _ _ (World.drew _)
        refine wpAnyIn_ready (rs := [0, 1]) (by kernel_rfl) (by simp) ?_
        refine AllReadyIn.cons rfl (fun K hK => ?_) (AllReadyIn.cons rfl (fun K hK => ?_) AllReadyIn.nil)
        · go_simp
          refine hK _ _ ?_
          clear hK K
          refine wpAnyIn_ready (rs := [1]) (by kernel_rfl) (by simp) ?_
          refine AllReadyIn.cons rfl (fun K hK => ?_) AllReadyIn.nil
          go_simp
          refine hK _ _ ?_
          clear hK K
          refine wpAnyIn_ready (rs := [2]) (by kernel_rfl) (by simp) ?_
          refine AllReadyIn.cons rfl (fun K hK => ?_) AllReadyIn.nil
          go_simp
          refine ⟨trivial, ((CallsIn.inRound l ((callsIn_wide (n := _)).2 (cH2.out _)))).mono ?_⟩
          rintro e w3 ⟨rfl, hb⟩
          have K1 := Lib.hid (H2.out.drew.call hb)
          have hsz : w.heap.size ≤ w3.heap.size := K1.out.below.size
          have hcL := K1.out.box.cell
          refine hK _ _ ?_
          clear hK K
          refine wpAnyIn_ready (rs := [3]) (by kernel_rfl) (by simp) ?_
          refine AllReadyIn.cons rfl (fun K hK => ?_) AllReadyIn.nil
          refine stepIn_append_str rfl (.tmp 18) (.tmp 20) 86 9 rfl w.heap.size 5 i0 Try.underlying86 Try.underlying9 hi hz0 hz1 hz2 _ _ _ rfl K1.out.own (strN (hexT b)) rfl (by rw [strN_size]; unfold maxLen; omega) (by rw [strN_size]; omega) hsz ?_
          intro v4 w4 ho hg
          rw [strN_size, strN_cells _ (hexT_byte b), ← byteV_append, ← List.length_append] at ho
          obtain ⟨g4, c4, rfl⟩ := ownsRow_form ho
          obtain ⟨hb4, K4⟩ := K1.out.put ho hg
          have K5 := Lib.hid K4
          have hf4 := hb4.frozen
          have hc4 := hb4.cell
          clear hb4 K4 ho hg
          refine hK _ _ ?_
          clear hK K
          refine wpAnyIn_ready (rs := [4]) (by kernel_rfl) (by simp) ?_
          refine AllReadyIn.cons rfl (fun K hK => ?_) AllReadyIn.nil
          go_simp
          refine hK _ _ ?_
          clear hK K
          refine wpAnyIn_done (by kernel_rfl) ?_ _
          gi_wp2
          gi_meet
          exact ⟨_, (by have hq := K5.out; simpa only [List.length_append] using hq)⟩
        · go_simp
          refine hK _ _ ?_
          clear hK K
          refine wpAnyIn_ready (rs := [0, 2]) (by kernel_rfl) (by simp) ?_
          refine AllReadyIn.cons rfl (fun K hK => ?_) (AllReadyIn.cons rfl (fun K hK => ?_) AllReadyIn.nil)
          · go_simp
            refine hK _ _ ?_
            clear hK K
            refine wpAnyIn_ready (rs := [2]) (by kernel_rfl) (by simp) ?_
            refine AllReadyIn.cons rfl (fun K hK => ?_) AllReadyIn.nil
            go_simp
            refine ⟨trivial, ((CallsIn.inRound l ((callsIn_wide (n := _)).2 (cH2.out _)))).mono ?_⟩
            rintro e w3 ⟨rfl, hb⟩
            have K1 := Lib.hid (H2.out.drew.call hb)
            have hsz : w.heap.size ≤ w3.heap.size := K1.out.below.size
            have hcL := K1.out.box.cell
            refine hK _ _ ?_
            clear hK K
            refine wpAnyIn_ready (rs := [3]) (by kernel_rfl) (by simp) ?_
            refine AllReadyIn.cons rfl (fun K hK => ?_) AllReadyIn.nil
            refine stepIn_append_str rfl (.tmp 18) (.tmp 20) 86 9 rfl w.heap.size 5 i0 Try.underlying86 Try.underlying9 hi hz0 hz1 hz2 _ _ _ rfl K1.out.own (strN (hexT b)) rfl (by rw [strN_size]; unfold maxLen; omega) (by rw [strN_size]; omega) hsz ?_
            intro v4 w4 ho hg
            rw [strN_size, strN_cells _ (hexT_byte b), ← byteV_append, ← List.length_append] at ho
            obtain ⟨g4, c4, rfl⟩ := ownsRow_form ho
            obtain ⟨hb4, K4⟩ := K1.out.put ho hg
            have K5 := Lib.hid K4
            have hf4 := hb4.frozen
            have hc4 := hb4.cell
            clear hb4 K4 ho hg
            refine hK _ _ ?_
            clear hK K
            refine wpAnyIn_ready (rs := [4]) (by kernel_rfl) (by simp) ?_
            refine AllReadyIn.cons rfl (fun K hK => ?_) AllReadyIn.nil
            go_simp
            refine hK _ _ ?_
            clear hK K
            refine wpAnyIn_done (by kernel_rfl) ?_ _
            gi_wp2
            gi_meet
            exact ⟨_, (by have hq := K5.out; simpa only [List.length_append] using hq)⟩
          · skip
            go_simp
            refine ⟨trivial, ((CallsIn.inRound l ((callsIn_wide (n := _)).2 (cH2.out _)))).mono ?_⟩
            rintro e w3 ⟨rfl, hb⟩
            have K1 := Lib.hid (H2.out.drew.call hb)
            have hsz : w.heap.size ≤ w3.heap.size := K1.out.below.size
            have hcL := K1.out.box.cell
            refine hK _ _ ?_
            clear hK K
            refine wpAnyIn_ready (rs := [0]) (by kernel_rfl) (by simp) ?_
            refine AllReadyIn.cons rfl (fun K hK => ?_) AllReadyIn.nil
            go_simp
            refine hK _ _ ?_
            clear hK K
            refine wpAnyIn_ready (rs := [3]) (by kernel_rfl) (by simp) ?_
            refine AllReadyIn.cons rfl (fun K hK => ?_) AllReadyIn.nil
            refine stepIn_append_str rfl (.tmp 18) (.tmp 20) 86 9 rfl w.heap.size 5 i0 Try.underlying86 Try.underlying9 hi hz0 hz1 hz2 _ _ _ rfl K1.out.own (strN (hexT b)) rfl (by rw [strN_size]; unfold maxLen; omega) (by rw [strN_size]; omega) hsz ?_
            intro v4 w4 ho hg
            rw [strN_size, strN_cells _ (hexT_byte b), ← byteV_append, ← List.length_append] at ho
            obtain ⟨g4, c4, rfl⟩ := ownsRow_form ho
            obtain ⟨hb4, K4⟩ := K1.out.put ho hg
            have K5 := Lib.hid K4
            have hf4 := hb4.frozen
            have hc4 := hb4.cell
            clear hb4 K4 ho hg
            refine hK _ _ ?_
            clear hK K
            refine wpAnyIn_ready (rs := [4]) (by kernel_rfl) (by simp) ?_
            refine AllReadyIn.cons rfl (fun K hK => ?_) AllReadyIn.nil
            go_simp
            refine hK _ _ ?_
            clear hK K
            refine wpAnyIn_done (by kernel_rfl) ?_ _
            gi_wp2
            gi_meet
            exact ⟨_, (by have hq := K5.out; simpa only [List.length_append] using hq)⟩
      case rest =>
        obtain ⟨v3, K3⟩ := hcut
        obtain ⟨go3, c3, rfl⟩ := ownsRow_form K3.own
        have hl3 : (l2 ++ hexT b).length ≤ 40030 := by rw [List.length_append]; omega
        have hc3 := K3.box.cell
        have H3 := Lib.hid K3
        clear K3 H2 hc2
        generalize l2 ++ hexT b = l3 at H3 HXN hc3 hl3
        gi_wp2_with (gi_at_builtin; refine wpListIn_append_own _ rfl (.tmp 22) (.tmp 23) 86 rfl w.heap.size 5 i0 (.int .u8 0) 1 1 Try.underlying86 hi hz0 hz1 hz2 rfl (by decide) _ _ _ rfl (H3.out.own.alloc _) ⟨wc.heap.size, 0, none⟩ 1 1 [.int .u8 32] rfl rfl (one_new _ _ _) (fun u hu => (by simp at hu; subst hu; rfl)) (by unfold maxLen; omega) (by omega) (by have := H3.out.below.size; simp; omega) ?_; intro v6 w6 ho hg _; obtain ⟨g6, c6, rfl⟩ := ownsRow_succ ho; obtain ⟨hb6, K6⟩ := (H3.out.alloc _).put (l' := _ ++ [32]) (v' := .slice (some ⟨g6, 0, none⟩) (_ + 1) c6) (by rw [List.length_append, byteV_append]; exact ho) hg; have K7 := Lib.hid K6; have hf6 := hb6.frozen; have hc6 := hb6.cell; clear hb6 K6 ho hg)
        have KF := K7.out
        rw [← HXN.out] at KF
        exact ⟨KF.keep.from _, ⟨KF.belowW, KF.map.trans hbx.symm⟩, ⟨⟨_, KF.box, KF.own, trivial⟩, KF.map⟩, KF.below⟩
  case done =>
    rintro D ys W hD rfl ⟨⟨⟨v, hv, hrow, -⟩, -⟩, hB⟩ hK
    have hc := hv.cell
    obtain ⟨ao', cap', rfl⟩ := ownsRow_form hrow
    have kb := conv_row hrow rfl (klN_byte ys)
    obtain ⟨res, hres⟩ : ∃ res, strN (klN ys) = res := ⟨_, rfl⟩
    have HRES := Lib.hid hres
    rw [hres] at kb
    clear hres
    clear hrow hv
    gi_wp2
    refine ⟨by simp, .inl ⟨_, _, rfl, run_takeDeferred hK, ?_⟩⟩
    exact ⟨_, results_tmp rfl _ _ _, by rw [HRES.out]; rfl, hB.trans (belowK_b (w := w) (Nat.le_refl _) W D _ _ (by simp at hD; omega) hK rfl rfl)⟩
  case stop =>
    rintro D c pre W _ _ h _
    exact h.elim

end Go.Proofs.Ytikkfkoaipenbaa
