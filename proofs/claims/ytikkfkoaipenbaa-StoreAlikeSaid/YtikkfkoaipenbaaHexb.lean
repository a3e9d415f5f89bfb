/- Contract of field.Hex. -/
import Derived.Test.YtikkfkoaipenbaaHex
import Derived.Test.YtikkfkoaipenbaaOwn
import Derived.Test.YtikkfkoaipenbaaProg
import Derived.BigQuiet
import Derived.Deep.QuietTactic
import Derived.ArgAppend
import Derived.Laws.IdiomStrings
import Derived.Lib.SlBytesConst
namespace Go.Proofs.Ytikkfkoaipenbaa
open Go.RowKit

theorem infoB : (Try.prog.info? 5).map (fun i => (i.zero, i.size, i.bytes)) = some (some (.int .u8 0), 1, 1) := by kernel_rfl

/-- Bytes, as values. -/
def byteV (l : List Nat) : List Value := l.map fun (d : Nat) => .int .u8 (d : Int)
theorem byteV_len (l : List Nat) : (byteV l).length = l.length := by simp [byteV]
theorem byteV_append (l m : List Nat) : byteV (l ++ m) = byteV l ++ byteV m := by simp [byteV]
theorem and15 {a : Int} (ha : U64 a) : bits .and .u64 a 15 = a % 16 := by
  have := and_mask (a := a) (n := 4) ha (by decide) (by decide)
  have e : maskZ 4 = 15 := by decide
  rw [e] at this
  exact this

theorem dig_at (m : Nat) : ∀ h, ((⟨#[48, 49, 50, 51, 52, 53, 54, 55, 56, 57, 97, 98, 99, 100, 101, 102]⟩ : ByteArray)[m % 16]'h).toNat = digN (m % 16) := by
  have hlt : m % 16 < 16 := Nat.mod_lt _ (by decide)
  generalize m % 16 = d at hlt
  have key : ∀ d : Fin 16, ∀ h, ((⟨#[48, 49, 50, 51, 52, 53, 54, 55, 56, 57, 97, 98, 99, 100, 101, 102]⟩ : ByteArray)[d.val]'h).toNat = digN d.val := by decide
  exact key ⟨d, hlt⟩

theorem hexR_len : ∀ (k a : Nat), 0 < k → a < 16 ^ k → (hexR a).length ≤ k
  | 0, a, h, _ => by omega
  | k + 1, a, _, h => by
    rw [hexR_eq]
    split
    · simp
    · rename_i h16
      have hk : 0 < k := by
        rcases Nat.eq_zero_or_pos k with rfl | hk
        · simp at h; omega
        · exact hk
      have := hexR_len k (a / 16) hk (by rw [Nat.pow_succ] at h; omega)
      simp only [List.length_cons]
      omega
theorem hexR_pos (a : Nat) : 0 < (hexR a).length := by rw [hexR_eq]; simp
theorem digN_byte {d : Nat} (h : d < 16) : digN d < 256 := by unfold digN; split <;> omega

/-- The text behind k digits. -/
def tailT (ds : List Nat) (k : Nat) : List Nat := 48 :: 120 :: ((ds.drop k).map digN).reverse
theorem tailT_succ (ds : List Nat) (k : Nat) (h : k < ds.length) : tailT ds k = tailT ds (k + 1) ++ [digN ds[k]] := by
  unfold tailT
  rw [List.drop_eq_getElem_cons h, List.map_cons, List.reverse_cons]
  rfl
theorem tailT_len (ds : List Nat) (k : Nat) (_ : k ≤ ds.length) : (tailT ds k).length = 2 + (ds.length - k) := by
  simp [tailT]; omega
theorem tailT_all (ds : List Nat) : tailT ds ds.length = [48, 120] := by simp [tailT]

theorem two_cells (w : World) (x y : Value) (e : TypeId) (fr : Nat × Nat) : (w.alloc (.cells #[x, y] e fr)).cell? ⟨w.heap.size, 0, none⟩ = some x ∧ (w.alloc (.cells #[x, y] e fr)).cell? ⟨w.heap.size, 1, none⟩ = some y :=
  ⟨by rw [World.cell?_alloc_mark]; rfl, by rw [World.cell?_alloc_mark]; rfl⟩

set_option maxRecDepth 100000 in
set_option maxHeartbeats 8000000 in
theorem hex_any (a : Nat) (w : World) (ha : a < 18446744073709551616) : Calls Try.prog 43 #[.int .u64 (a : Int)] w (RetB (.string ⟨((hexT a).map UInt8.ofNat).toArray⟩) w) := by
  obtain ⟨i0, hi, hz0, hz1, hz2⟩ := info_parts infoB
  have kc := fun (w : World) (C : Array Value) (n c : Nat) => Lib.run_convert_bytes_const (P := Try.prog) w 86 5 C n c Try.underlying86 Try.underlying5
  have hL := hexR_len 16 a (by decide) (by have : (16 : Nat) ^ 16 = 18446744073709551616 := by decide
                                           omega)
  have HLT := Lib.hid (hexR_lt a)
  have HT : Hid (hexT a = tailT (hexR a) 0) := Lib.hid rfl
  have hLp := hexR_pos a
  obtain ⟨ds, hds⟩ : ∃ ds, hexR a = ds := ⟨_, rfl⟩
  have HDS := Lib.hid hds
  rw [hds] at hL HLT HT hLp
  have HR0 : Hid (ds = [] ++ hexR a) := Lib.hid (by simp [hds])
  clear hds
  go_enter Try.func43, Try.ntmps43
  go_wp2_with fail
  go_loopw [0, 3] (fun x o wr => ∃ (m : Nat) (pre : List Nat), x = .int .u64 (m : Int) ∧ m < 18446744073709551616 ∧ ds = pre ++ hexR m ∧ wr.ownsRow w.heap.size 5 1 o pre.length (byteV (pre.map digN)) ∧ Below w.heap.size w wr) (fun x _ _ => (intOf x).toNat)
  case atStart => exact ⟨a, [], rfl, ha, HR0.out, World.ownsRow_nil _ _ _ _, Below.refl _ _⟩
  case round =>
    clear HR0 HDS ha
    obtain ⟨m, pre, rfl, hm, hr, hown, hB⟩ := hrel
    obtain ⟨o, oc, rfl⟩ := ownsRow_form hown
    have hmu : U64 (m : Int) := ⟨by omega, by omega⟩
    have E := and15 hmu
    have HD := dig_at m
    have HO := Lib.hid hown
    have hBs := hB.size
    have hpl : pre.length + 1 ≤ 16 := by
      have h1 := congrArg List.length hr
      rw [List.length_append] at h1
      have := hexR_pos m
      omega
    have HR := Lib.hid hr
    clear hown hmu hr
    by_cases h16 : m / 16 = 0
    · have h16i : (m : Int) / 16 = 0 := by omega
      have HDS : Hid (ds = pre ++ [m % 16]) := Lib.hid (by rw [HR.out, hexR_eq, if_pos h16])
      clear h16 HR
      go_wp2_with (at_builtin; refine wpList_append_gen rfl (.tmp 6) (.tmp 10) 86 rfl w.heap.size 5 i0 (.int .u8 0) 1 1 Try.underlying86 hi hz0 hz1 hz2 rfl (by decide) _ _ _ rfl (HO.out.alloc _) (some ⟨wr.heap.size, 0, none⟩) 1 1 [.int .u8 (digN (m % 16) : Nat)] rfl (fun h => (by cases h)) rfl (fun ad h => (by cases h; exact one_new _ _ _)) (fun u hu => (by simp at hu; subst hu; rfl)) (by unfold maxLen; omega) (by omega) (by simp; omega) ?_; intro a2 c2 w2 ho hg _; obtain ⟨og, oc2, hov, hn1, hn2, hn3, hn4, hn5⟩ := ownsRow_shape ho (by omega); obtain ⟨rfl, rfl⟩ : a2 = some ⟨og, 0, none⟩ ∧ c2 = oc2 := (by simpa using hov); have GC := Lib.hid hn5; have B2 := Lib.hid ((hB.alloc hBs _).grown hg (by simp; omega) (fun k h => (HO.out.lt k h).1)); clear ho hg hov hn5)
      have hnl : ds.length = pre.length + 1 := by rw [HDS.out]; simp
      have HGC : Hid (∀ j (h : j < ds.length), w2.cell? ⟨og, j, none⟩ = some (.int .u8 (digN ds[j] : Nat))) := Lib.hid fun j h => by
        rw [GC.out j (by omega)]
        have : byteV (pre.map digN) ++ [Value.int .u8 (digN (m % 16) : Nat)] = byteV (ds.map digN) := by rw [HDS.out]; simp [byteV]
        rw [this]
        simp [byteV, h]
      obtain ⟨W0, hW0⟩ : ∃ W0, W0 = w2.alloc (.cells #[.int .u8 48, .int .u8 120] 5 (2, 3)) := ⟨_, rfl⟩
      obtain ⟨t0, t1⟩ := two_cells w2 (.int .u8 48) (.int .u8 120) 5 (2, 3)
      have BW : Below w2.heap.size w2 W0 := by rw [hW0]; repeat' (first | with_reducible exact Below.refl _ _ | with_reducible assumption | with_reducible apply below_drewN | with_reducible apply Below.drew | with_reducible refine Below.setCell ?_ ?_ _ | with_reducible refine Below.alloc ?_ ?_ _ | omega | (simp; done) | (simp; omega))
      have hz : Hid (W0.heap.size = w2.heap.size + 1) := Lib.hid (by rw [hW0]; simp)
      have hz1 := hz.out
      rw [← hW0] at t0 t1 ⊢
      have T0 := Lib.hid t0
      have T1 := Lib.hid t1
      have HZ := Lib.hid (show w2.heap.size + 1 ≤ W0.heap.size by omega)
      clear t0 t1 hz1 hW0 GC HDS HD E h16i
      go_loopw [4, 5] (fun t i V => ∃ k : Nat, k ≤ ds.length ∧ i = .int .i64 ((k : Int) - 1) ∧ ((k = ds.length ∧ t = .slice (some ⟨w2.heap.size, 0, none⟩) 2 2) ∨ (k < ds.length ∧ V.ownsRow (w2.heap.size + 1) 5 1 t (tailT ds k).length (byteV (tailT ds k)))) ∧ Below (w2.heap.size + 1) W0 V) (fun _ i _ => (intOf i + 1).toNat)
      case atStart => exact ⟨ds.length, Nat.le_refl _, (by rw [hnl]; go_num), .inl ⟨rfl, rfl⟩, Below.refl _ _⟩
      case round =>
        obtain ⟨k, hk, rfl, ht, hB3⟩ := hrel
        have hB3s : w2.heap.size + 1 ≤ wr.heap.size := Nat.le_trans HZ.out hB3.size
        have BV : Below w.heap.size w wr := B2.out.trans ((BW.trans (hB3.mono (Nat.le_succ _))).mono B2.out.size)
        rcases Nat.eq_zero_or_pos k with rfl | hkp
        · obtain ⟨_, hown⟩ : 0 < ds.length ∧ wr.ownsRow (w2.heap.size + 1) 5 1 u4 (tailT ds 0).length (byteV (tailT ds 0)) := by
            rcases ht with ⟨h, _⟩ | h
            · omega
            · exact h
          obtain ⟨tg, tc, rfl, _, _, _, _, hn5'⟩ := ownsRow_shape hown (by simp [tailT])
          have hl : ((tailT ds 0).map UInt8.ofNat).length = (tailT ds 0).length := by simp
          have kb := run_convert_bytes_back (P := Try.prog) wr 86 9 5 ⟨tg, 0, none⟩ tc ((tailT ds 0).map UInt8.ofNat) Try.underlying86 Try.underlying5 Try.underlying9 (fun j hj => by
            have hj' : j < (tailT ds 0).length := by simpa using hj
            have hlt : (tailT ds 0)[j] < 256 := by
              have := hexT_no a
              rw [HT.out] at this
              exact (this _ (List.getElem_mem hj')).2.2
            rw [Addr.add_lit, Nat.zero_add, hn5' j (by omega)]
            simp [byteV, hj']
            omega)
          rw [hl] at kb
          generalize (tailT ds 0).length = n0 at kb
          clear hn5' hown hl ht
          go_wp2_with fail
          go_ret
          exact ⟨by rw [HT.out]; rfl, BV⟩
        · obtain ⟨k, rfl⟩ : ∃ k', k = k' + 1 := ⟨k - 1, by omega⟩
          have hci : (((k + 1 : Nat) : Int) - 1) = ((k : Nat) : Int) := by omega
          rw [hci]
          have hcell : wr.cell? ⟨og, k, none⟩ = some (.int .u8 (digN (ds[k]'(by omega)) : Nat)) := by
            rw [hB3.cell (p := ⟨og, k, none⟩) (by show og < w2.heap.size + 1; omega), BW.cell (p := ⟨og, k, none⟩) hn4]
            exact HGC.out k (by omega)
          have HTS := Lib.hid (tailT_succ ds k (by omega))
          generalize digN (ds[k]'(by omega)) = dg at hcell HTS
          have hk16 : k < 16 := by omega
          rcases ht with ⟨hkl, rfl⟩ | ⟨hkl, hown⟩
          · have hol : ∀ (o : Obj) (j : Nat) (u : Value), [Value.int .u8 48, .int .u8 120][j]? = some u → (wr.alloc o).cell? ((⟨w2.heap.size, 0, none⟩ : Addr).add j) = some u := by
              intro o j u hj
              rw [Addr.add_lit, Nat.zero_add, ((Below.refl wr.heap.size wr).alloc (Nat.le_refl _) o).cell (p := ⟨w2.heap.size, j, none⟩) (by show w2.heap.size < wr.heap.size; omega), hB3.cell (p := ⟨w2.heap.size, j, none⟩) (by show w2.heap.size < w2.heap.size + 1; omega)]
              match j, hj with
              | 0, hj => simp at hj; subst hj; exact T0.out
              | 1, hj => simp at hj; subst hj; exact T1.out
            have HTA : Hid (tailT ds (k + 1) = [48, 120]) := Lib.hid (by rw [hkl]; exact tailT_all ds)
            go_wp2_with (at_builtin; refine wpList_append_grows _ rfl (.tmp 25) (.tmp 30) 86 rfl 5 i0 (.int .u8 0) 1 1 Try.underlying86 hi hz0 hz1 hz2 rfl (by decide) (some ⟨w2.heap.size, 0, none⟩) 2 2 [.int .u8 48, .int .u8 120] rfl (fun h => (by cases h)) rfl (fun b hb => (by cases hb; exact hol _)) ⟨wr.heap.size, 0, none⟩ 1 1 [.int .u8 (dg : Nat)] rfl rfl (one_new _ _ _) (fun u hu => (by simp at hu; subst hu; rfl)) (by decide) (by unfold maxLen; omega) (by omega) ?_; intro v3 w3 ho hg; have G3 := Lib.hid ho; have B4 := Lib.hid ((hB3.alloc hB3s _).grown hg (by simp; omega) (fun k h => (by cases h))); clear ho hg)
            go_roundw
            case rel => exact ⟨k, by omega, by go_num, .inr ⟨by omega, by
              rw [HTS.out, HTA.out]
              exact ownsRow_base G3.out (by simp; omega)⟩, B4.out⟩
            case measure => first | (simp [intOf]; omega) | (simp [intOf])
          · obtain ⟨to, tc, rfl⟩ := ownsRow_form hown
            have HO2 := Lib.hid hown
            have hTL : Hid ((tailT ds k).length = (tailT ds (k + 1)).length + 1) := Lib.hid (by rw [HTS.out]; simp)
            have hTB : (tailT ds (k + 1)).length ≤ 20 := by rw [tailT_len ds (k + 1) hk]; omega
            clear hown
            go_wp2_with (at_builtin; refine wpList_append_gen rfl (.tmp 25) (.tmp 30) 86 rfl (w2.heap.size + 1) 5 i0 (.int .u8 0) 1 1 Try.underlying86 hi hz0 hz1 hz2 rfl (by decide) _ _ _ rfl (HO2.out.alloc _) (some ⟨wr.heap.size, 0, none⟩) 1 1 [.int .u8 (dg : Nat)] rfl (fun h => (by cases h)) rfl (fun ad h => (by cases h; exact one_new _ _ _)) (fun u hu => (by simp at hu; subst hu; rfl)) (by unfold maxLen; omega) (by omega) (by simp; omega) ?_; intro a3 c3 w3 ho hg _; have G3 := Lib.hid ho; have B4 := Lib.hid ((hB3.alloc hB3s _).grown hg (by simp; omega) (fun k h => (HO2.out.lt k h).1)); clear ho hg)
            go_roundw
            case rel => exact ⟨k, by omega, by go_num, .inr ⟨by omega, by
              rw [hTL.out, HTS.out, byteV_append]
              have := G3.out
              exact this⟩, B4.out⟩
            case measure => first | (simp [intOf]; omega) | (simp [intOf])
    · have h16i : ((m : Int) / 16 == 0) = false := by simp; omega
      have hmm := Lib.hid (show (m : Int) / 16 = ((m / 16 : Nat) : Int) by omega)
      have HS : Hid (ds = (pre ++ [m % 16]) ++ hexR (m / 16)) := Lib.hid (by rw [HR.out, hexR_eq m, if_neg h16]; simp)
      have HV : Hid (byteV ((pre ++ [m % 16]).map digN) = byteV (pre.map digN) ++ [.int .u8 (digN (m % 16) : Nat)]) := Lib.hid (by simp [byteV])
      clear HR
      go_wp2_with (at_builtin; refine wpList_append_gen rfl (.tmp 6) (.tmp 10) 86 rfl w.heap.size 5 i0 (.int .u8 0) 1 1 Try.underlying86 hi hz0 hz1 hz2 rfl (by decide) _ _ _ rfl (HO.out.alloc _) (some ⟨wr.heap.size, 0, none⟩) 1 1 [.int .u8 (digN (m % 16) : Nat)] rfl (fun h => (by cases h)) rfl (fun ad h => (by cases h; exact one_new _ _ _)) (fun u hu => (by simp at hu; subst hu; rfl)) (by unfold maxLen; omega) (by omega) (by simp; omega) ?_; intro a2 c2 w2 ho hg _; have G2 := Lib.hid ho; have B2 := Lib.hid ((hB.alloc hBs _).grown hg (by simp; omega) (fun k h => (HO.out.lt k h).1)); clear ho hg)
      go_roundw
      case rel => exact ⟨m / 16, pre ++ [m % 16], (by first | rfl | rw [hmm.out]), by omega, HS.out, by rw [HV.out, List.length_append]; exact G2.out, B2.out⟩
      case measure => first | (simp [intOf]; omega) | (simp [intOf])

end Go.Proofs.Ytikkfkoaipenbaa
