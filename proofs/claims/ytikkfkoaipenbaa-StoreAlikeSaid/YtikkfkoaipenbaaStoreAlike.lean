/- The statement StoreAlike: two memories have one text just if they hold the same. No conditions. -/
import Derived.Test.YtikkfkoaipenbaaAwake06
import Derived.Test.YtikkfkoaipenbaaStorec
import Derived.Test.YtikkfkoaipenbaaRefs
import Derived.Test.YtikkfkoaipenbaaArgc
import Derived.Test.YtikkfkoaipenbaaSame
import Derived.Test.YtikkfkoaipenbaaKey
import Derived.Test.YtikkfkoaipenbaaRows
namespace Go.Proofs.Ytikkfkoaipenbaa
open Go.RowKit Go.ChangeShapes Go.WideShapes Go.ChangeAt

/-- Pairs of words. -/
def W64 (L : List (Int × Int)) : Prop := ∀ p ∈ L, U64 p.1 ∧ U64 p.2

theorem w64_with {L : List (Int × Int)} (h : W64 L) {k v : Int} (hk : U64 k) (hv : U64 v) : W64 (withL L k v) := by
  intro p hp
  unfold withL at hp
  rcases List.mem_append.1 hp with hp | hp
  · exact h p (List.mem_of_mem_take hp)
  · rcases List.mem_cons.1 hp with rfl | hp
    · exact ⟨hk, hv⟩
    · exact h p (List.mem_of_mem_drop hp)
theorem w64_without {L : List (Int × Int)} (h : W64 L) (k : Int) : W64 (withoutL L k) := by
  intro p hp
  unfold withoutL at hp
  split at hp
  · rcases List.mem_append.1 hp with hp | hp
    · exact h p (List.mem_of_mem_take hp)
    · exact h p (List.mem_of_mem_drop hp)
  · exact h p hp
theorem w64_write {L : List (Int × Int)} (h : W64 L) {k v : Int} (hk : U64 k) (hv : U64 v) : W64 (writeL L k v).1 := by
  unfold writeL
  split
  · split
    · exact w64_without h k
    · split
      · exact w64_with h hk hv
      · exact h
  · exact h
theorem w64_of : ∀ (l : List (Int × Int)) {L : List (Int × Int)}, W64 L → W64 l → W64 (ofL L l).1
  | [], L, h, _ => h
  | c :: l, L, h, hl => by
    unfold ofL
    split
    · exact w64_of l (w64_write h (hl c (by simp)).1 (hl c (by simp)).2) (fun p hp => hl p (by simp [hp]))
    · intro p hp; simp at hp

theorem to_up : ∀ (L : List (Int × Int)), W64 L → ∃ K : List UP, K.map Subtype.val = L
  | [], _ => ⟨[], rfl⟩
  | p :: L, h => by
    obtain ⟨K, hK⟩ := to_up L (fun q hq => h q (by simp [hq]))
    exact ⟨⟨p, h p (by simp)⟩ :: K, by simp [hK]⟩

theorem bytes_inj : ∀ (l m : List Nat), (∀ d ∈ l, d < 256) → (∀ d ∈ m, d < 256) → l.map UInt8.ofNat = m.map UInt8.ofNat → l = m
  | [], [], _, _, _ => rfl
  | [], b :: m, _, _, h => by simp at h
  | a :: l, [], _, _, h => by simp at h
  | a :: l, b :: m, h1, h2, h => by
    simp only [List.map_cons, List.cons.injEq] at h
    have e : a = b := by
      have h3 := congrArg UInt8.toNat h.1
      have h4 := h1 a (by simp)
      have h5 := h2 b (by simp)
      simp at h3
      omega
    rw [e, bytes_inj l m (fun d hd => h1 d (by simp [hd])) (fun d hd => h2 d (by simp [hd])) h.2]

theorem pairs_inj : ∀ (A B : List UP), A.map (fun p => (p.1.1.toNat, p.1.2.toNat)) = B.map (fun p => (p.1.1.toNat, p.1.2.toNat)) → A.map Subtype.val = B.map Subtype.val
  | [], [], _ => rfl
  | [], b :: B, h => by simp at h
  | a :: A, [], h => by simp at h
  | a :: A, b :: B, h => by
    simp only [List.map_cons, List.cons.injEq, Prod.mk.injEq] at h
    obtain ⟨⟨h1, h2⟩, h3⟩ := h
    have a1 := a.2.1.1
    have a2 := a.2.2.1
    have b1 := b.2.1.1
    have b2 := b.2.2.1
    rw [List.map_cons, List.map_cons, pairs_inj A B h3]
    congr 1
    exact Prod.ext (by omega) (by omega)

theorem strN_inj {A B : List UP} (h : strN (klN A) = strN (klN B)) : A.map Subtype.val = B.map Subtype.val := by
  unfold strN at h
  have h1 := congrArg ByteArray.data h
  simp only at h1
  have h2 := congrArg Array.toList h1
  rw [List.toList_toArray, List.toList_toArray] at h2
  exact pairs_inj _ _ (keyT_inj _ _ (bytes_inj _ _ (klN_byte A) (klN_byte B) h2))

/-- What the walk needs of the two memories. -/
theorem alike_facts (l : List (Int × Int)) (hu : W64 l) : ∃ (A : List UP) (M : List (Int × Int)) (z : Int), ofL [] l = (A.map Subtype.val, z) ∧ rofL [] l = (M, z) ∧ A.map Subtype.val = cellsL M ∧ A.length ≤ 256 ∧ M.length ≤ l.length := by
  obtain ⟨r1, r2, r3, r4⟩ := of_ref l (L := []) (M := []) rfl (by simp)
  obtain ⟨A, hA⟩ := to_up (ofL [] l).1 (w64_of l (by intro p hp; simp at hp) hu)
  refine ⟨A, (rofL [] l).1, (ofL [] l).2, by rw [hA], by rw [r1], by rw [hA, r2], ?_, ?_⟩
  · have := congrArg List.length hA
    simp only [List.length_map] at this
    omega
  · simpa using r4

set_option maxRecDepth 100000 in
set_option maxHeartbeats 8000000 in
theorem storeAlike_walk {w : World} (ao : Option Addr) (cap : Nat) (l : List (Int × Int)) (bo : Option Addr) (cap' : Nat) (k : List (Int × Int)) (hl : Atc w ao l) (_hc : ao = none → cap = 0) (hu : ∀ p ∈ l, U64 p.1 ∧ U64 p.2)
    (hk : Atc w bo k) (_hc' : bo = none → cap' = 0) (hu' : ∀ p ∈ k, U64 p.1 ∧ U64 p.2) :
    Calls Try.prog 9 #[.slice ao l.length cap, .slice bo k.length cap'] w (RetB (.bool true) w) := by
  have HL := Lib.hid hl
  have HKL := Lib.hid hk
  have HU : Hid (∀ p ∈ l, U64 p.1) := Lib.hid fun p hp => (hu p hp).1
  have HU' : Hid (∀ p ∈ k, U64 p.1) := Lib.hid fun p hp => (hu' p hp).1
  obtain ⟨A, M, z, f1, f2, f3, f4, f5⟩ := alike_facts l hu
  obtain ⟨B, N, y, g1, g2, g3, g4, g5⟩ := alike_facts k hu'
  obtain ⟨n, hn⟩ : ∃ n, n = l.length := ⟨_, rfl⟩
  obtain ⟨m, hm⟩ : ∃ m, m = k.length := ⟨_, rfl⟩
  rw [← hn] at f5 ⊢
  rw [← hm] at g5 ⊢
  have HN := Lib.hid hn
  have HM := Lib.hid hm
  have F1 := Lib.hid f1
  have F2 := Lib.hid f2
  have F3 := Lib.hid f3
  have G1 := Lib.hid g1
  have G2 := Lib.hid g2
  have G3 := Lib.hid g3
  clear hl hk hu hu' hn hm f1 f2 f3 g1 g2 g3 _hc _hc'
  go_enter Try.func9, Try.ntmps9
  go_wp2_with fail
  refine (awake_any _).mono ?_
  rintro e w1 ⟨rfl, hb⟩
  have B1 : Below w.heap.size w w1 := Below.trans (by repeat' (first | with_reducible exact Below.refl _ _ | with_reducible assumption | with_reducible apply below_drewN | with_reducible apply Below.drew | with_reducible refine Below.setCell ?_ ?_ _ | with_reducible refine Below.alloc ?_ ?_ _ | omega | (simp; done) | (simp; omega))) (hb.mono (by first | omega | (simp; done) | (simp; omega)))
  have Bz1 := B1.size
  clear hb
  by_cases hbig : 200 < n
  · go_wp2_with fail
    go_ret
    exact ⟨rfl, by repeat' (first | with_reducible exact Below.refl _ _ | with_reducible assumption | with_reducible apply below_drewN | with_reducible apply Below.drew | with_reducible refine Below.setCell ?_ ?_ _ | with_reducible refine Below.alloc ?_ ?_ _ | omega | (simp; done) | (simp; omega))⟩
  · by_cases hbig2 : 200 < m
    · have hbn : n ≤ 200 := by omega
      go_wp2_with fail
      go_ret
      exact ⟨rfl, by repeat' (first | with_reducible exact Below.refl _ _ | with_reducible assumption | with_reducible apply below_drewN | with_reducible apply Below.drew | with_reducible refine Below.setCell ?_ ?_ _ | with_reducible refine Below.alloc ?_ ?_ _ | omega | (simp; done) | (simp; omega))⟩
    · have hbn : n ≤ 200 := by omega
      have hbm : m ≤ 200 := by omega
      go_wp2_with fail
      refine (of_any ao n cap l _ (HL.out.below (by repeat' (first | with_reducible exact Below.refl _ _ | with_reducible assumption | with_reducible apply below_drewN | with_reducible apply Below.drew | with_reducible refine Below.setCell ?_ ?_ _ | with_reducible refine Below.alloc ?_ ?_ _ | omega | (simp; done) | (simp; omega)))) HN.out (by have := HN.out; omega) HU.out).mono ?_
      rw [F1.out]
      rintro e w2 ⟨ks, vs, rfl, hm, hb⟩
      have B2 : Below w.heap.size w w2 := Below.trans (B1) ((Below.trans (by repeat' (first | with_reducible exact Below.refl _ _ | with_reducible assumption | with_reducible apply below_drewN | with_reducible apply Below.drew | with_reducible refine Below.setCell ?_ ?_ _ | with_reducible refine Below.alloc ?_ ?_ _ | omega | (simp; done) | (simp; omega))) (hb.mono (by first | omega | (simp; done) | (simp; omega))) : Below w1.heap.size w1 w2).mono Bz1)
      have Bz2 := B2.size
      obtain ⟨ao1, cap1, rfl⟩ := ownsRow_form hm.keys
      obtain ⟨ao2, cap2, rfl⟩ := ownsRow_form hm.vals
      simp only [List.length_map] at hm ⊢
      have M1 := Lib.hid hm
      clear hb hm
      go_wp2_with fail
      refine (of_any bo m cap' k _ (HKL.out.below (by repeat' (first | with_reducible exact Below.refl _ _ | with_reducible assumption | with_reducible apply below_drewN | with_reducible apply Below.drew | with_reducible refine Below.setCell ?_ ?_ _ | with_reducible refine Below.alloc ?_ ?_ _ | omega | (simp; done) | (simp; omega)))) HM.out (by have := HM.out; omega) HU'.out).mono ?_
      rw [G1.out]
      rintro e w3 ⟨ks', vs', rfl, hm, hb⟩
      have B3 : Below w2.heap.size w2 w3 := Below.trans (by repeat' (first | with_reducible exact Below.refl _ _ | with_reducible assumption | with_reducible apply below_drewN | with_reducible apply Below.drew | with_reducible refine Below.setCell ?_ ?_ _ | with_reducible refine Below.alloc ?_ ?_ _ | omega | (simp; done) | (simp; omega))) (hb.mono (by first | omega | (simp; done) | (simp; omega)))
      have Bz3 := B3.size
      have D3 : Below w.heap.size w w3 := B2.trans (B3.mono Bz2)
      have Dz3 := D3.size
      have hs3 : w2.heap.size + 1 ≤ w3.heap.size := Nat.le_trans (by first | omega | (simp; done) | (simp; omega)) hb.size
      obtain ⟨bo1, cbp1, rfl⟩ := ownsRow_form hm.keys
      obtain ⟨bo2, cbp2, rfl⟩ := ownsRow_form hm.vals
      simp only [List.length_map] at hm ⊢
      have M2 := Lib.hid hm
      have G5 := Lib.hid ((hb.block w2.heap.size (by first | omega | (simp; done) | (simp; omega))).trans (heap_new w2 (.cells #[.slice ao1 A.length cap1, .slice ao2 A.length cap2] 55) _ rfl))
      obtain ⟨k1, k2, k3, k4⟩ := keepB hb w2.heap.size (by first | omega | (simp; done) | (simp; omega))
      clear hb hm
      go_wp2_with fail
      refine (rof_any ao n cap l _ (HL.out.below (by repeat' (first | with_reducible exact Below.refl _ _ | with_reducible assumption | with_reducible apply below_drewN | with_reducible apply Below.drew | with_reducible refine Below.setCell ?_ ?_ _ | with_reducible refine Below.alloc ?_ ?_ _ | omega | (simp; done) | (simp; omega)))) HN.out (by have := HN.out; omega) HU.out).mono ?_
      rw [F2.out]
      rintro e w4 ⟨mo, mc, rfl, hM1, _, hb⟩
      have B4 : Below w3.heap.size w3 w4 := Below.trans (by repeat' (first | with_reducible exact Below.refl _ _ | with_reducible assumption | with_reducible apply below_drewN | with_reducible apply Below.drew | with_reducible refine Below.setCell ?_ ?_ _ | with_reducible refine Below.alloc ?_ ?_ _ | omega | (simp; done) | (simp; omega))) (hb.mono (by first | omega | (simp; done) | (simp; omega)))
      have Bz4 := B4.size
      have D4 : Below w.heap.size w w4 := D3.trans (B4.mono Dz3)
      have Dz4 := D4.size
      have hs4 : w3.heap.size + 1 ≤ w4.heap.size := Nat.le_trans (by first | omega | (simp; done) | (simp; omega)) hb.size
      have G7 := Lib.hid ((hb.block w3.heap.size (by first | omega | (simp; done) | (simp; omega))).trans (heap_new w3 (.cells #[.slice bo1 B.length cbp1, .slice bo2 B.length cbp2] 55) _ rfl))
      have HM1 := Lib.hid hM1
      clear hb hM1
      go_wp2_with fail
      refine (rof_any bo m cap' k _ (HKL.out.below (by repeat' (first | with_reducible exact Below.refl _ _ | with_reducible assumption | with_reducible apply below_drewN | with_reducible apply Below.drew | with_reducible refine Below.setCell ?_ ?_ _ | with_reducible refine Below.alloc ?_ ?_ _ | omega | (simp; done) | (simp; omega)))) HM.out (by have := HM.out; omega) HU'.out).mono ?_
      rw [G2.out]
      rintro e w5 ⟨no, nc, rfl, hM2, _, hb⟩
      have B5 : Below w4.heap.size w4 w5 := Below.trans (by repeat' (first | with_reducible exact Below.refl _ _ | with_reducible assumption | with_reducible apply below_drewN | with_reducible apply Below.drew | with_reducible refine Below.setCell ?_ ?_ _ | with_reducible refine Below.alloc ?_ ?_ _ | omega | (simp; done) | (simp; omega))) (hb.mono (by first | omega | (simp; done) | (simp; omega)))
      have Bz5 := B5.size
      have HM2 := Lib.hid hM2
      clear hb hM2
      go_wp2_with fail
      refine (rcells_any mo M.length mc M _ (HM1.out.below (by repeat' (first | with_reducible exact Below.refl _ _ | with_reducible assumption | with_reducible apply below_drewN | with_reducible apply Below.drew | with_reducible refine Below.setCell ?_ ?_ _ | with_reducible refine Below.alloc ?_ ?_ _ | omega | (simp; done) | (simp; omega)))) rfl (by omega)).mono ?_
      rintro e w6 ⟨co, cc, rfl, hr, hb⟩
      have B6 : Below w5.heap.size w5 w6 := Below.trans (by repeat' (first | with_reducible exact Below.refl _ _ | with_reducible assumption | with_reducible apply below_drewN | with_reducible apply Below.drew | with_reducible refine Below.setCell ?_ ?_ _ | with_reducible refine Below.alloc ?_ ?_ _ | omega | (simp; done) | (simp; omega))) (hb.mono (by first | omega | (simp; done) | (simp; omega)))
      have Bz6 := B6.size
      have C1 := Lib.hid (Atc.of_row hr)
      clear hb hr
      go_wp2_with fail
      refine (rcells_any no N.length nc N _ (HM2.out.below (by repeat' (first | with_reducible exact Below.refl _ _ | with_reducible assumption | with_reducible apply below_drewN | with_reducible apply Below.drew | with_reducible refine Below.setCell ?_ ?_ _ | with_reducible refine Below.alloc ?_ ?_ _ | omega | (simp; done) | (simp; omega)))) rfl (by omega)).mono ?_
      rintro e w7 ⟨co', cc', rfl, hr, hb⟩
      have B7 : Below w6.heap.size w6 w7 := Below.trans (by repeat' (first | with_reducible exact Below.refl _ _ | with_reducible assumption | with_reducible apply below_drewN | with_reducible apply Below.drew | with_reducible refine Below.setCell ?_ ?_ _ | with_reducible refine Below.alloc ?_ ?_ _ | omega | (simp; done) | (simp; omega))) (hb.mono (by first | omega | (simp; done) | (simp; omega)))
      have Bz7 := B7.size
      have C2 := Lib.hid (Atc.of_row hr)
      clear hb hr
      have hlc : (cellsL M).length ≤ 256 := by rw [← F3.out, List.length_map]; exact f4
      have B56 : Below w5.heap.size w5 w7 := B6.trans (B7.mono Bz6)
      go_wp2_with fail
      refine (rsame_any co co' (cellsL M).length (cellsL N).length cc cc' (cellsL M) (cellsL N) _ (C1.out.below (by repeat' (first | with_reducible exact Below.refl _ _ | with_reducible assumption | with_reducible apply below_drewN | with_reducible apply Below.drew | with_reducible refine Below.setCell ?_ ?_ _ | with_reducible refine Below.alloc ?_ ?_ _ | omega | (simp; done) | (simp; omega)))) C2.out rfl rfl (by omega)).mono ?_
      rw [← F3.out, ← G3.out]
      rintro e w8 ⟨rfl, hb⟩
      have B8 : Below w7.heap.size w7 w8 := Below.trans (by repeat' (first | with_reducible exact Below.refl _ _ | with_reducible assumption | with_reducible apply below_drewN | with_reducible apply Below.drew | with_reducible refine Below.setCell ?_ ?_ _ | with_reducible refine Below.alloc ?_ ?_ _ | omega | (simp; done) | (simp; omega))) (hb.mono (by first | omega | (simp; done) | (simp; omega)))
      have Bz8 := B8.size
      clear hb
      have D48 : Below w4.heap.size w4 w8 := B5.trans ((B56.trans (B8.mono B56.size)).mono Bz5)
      have D38 : Below w3.heap.size w3 w8 := B4.trans (D48.mono Bz4)
      have D28 : Below w2.heap.size w2 w8 := B3.trans (D38.mono Bz3)
      have D08 : Below w.heap.size w w8 := D4.trans (D48.mono Dz4)
      have Dz8 := D08.size
      have Dz48 := D48.size
      obtain ⟨x5, xf5, xl5, xn5⟩ := block_cells ((D38.block w2.heap.size (by omega)).trans G5.out)
      have p0 := x5 0 _ rfl
      have p1 := x5 1 _ rfl
      obtain ⟨x7, xf7, xl7, xn7⟩ := block_cells ((D48.block w3.heap.size (by omega)).trans G7.out)
      have q0 := x7 0 _ rfl
      have q1 := x7 1 _ rfl
      have hml1 : (A.map Subtype.val).length ≤ 900 := by rw [List.length_map]; omega
      have hml2 : (B.map Subtype.val).length ≤ 900 := by rw [List.length_map]; omega
      have cS : Hid (∀ V, Below w8.heap.size w8 V → Calls Try.prog 32 #[.agg #[.slice ao1 A.length cap1, .slice ao2 A.length cap2], .agg #[.slice bo1 B.length cbp1, .slice bo2 B.length cbp2]] V (RetB (.bool (decide (A.map Subtype.val = B.map Subtype.val))) V)) := Lib.hid fun V h =>
        same_any _ _ _ _ _ _ V (M1.out.below (D28.trans (h.mono D28.size))) (M2.out.below (D38.trans (h.mono D38.size))) hml1 hml2
      have cK1 : Hid (∀ V, Below w8.heap.size w8 V → Calls Try.prog 33 #[.agg #[.slice ao1 A.length cap1, .slice ao2 A.length cap2]] V (RetB (.string (strN (klN A))) V)) := Lib.hid fun V h =>
        key_any _ _ A V (M1.out.below (D28.trans (h.mono D28.size))) (by omega)
      have cK2 : Hid (∀ V, Below w8.heap.size w8 V → Calls Try.prog 33 #[.agg #[.slice bo1 B.length cbp1, .slice bo2 B.length cbp2]] V (RetB (.string (strN (klN B))) V)) := Lib.hid fun V h =>
        key_any _ _ B V (M2.out.below (D38.trans (h.mono D38.size))) (by omega)
      have hkey : (strN (klN A) = strN (klN B)) → A.map Subtype.val = B.map Subtype.val := strN_inj
      have hkey2 : A.map Subtype.val = B.map Subtype.val → strN (klN A) = strN (klN B) := fun h => by
        have hkl : ∀ L : List UP, klN L = keyT ((L.map Subtype.val).map fun p : Int × Int => (p.1.toNat, p.2.toNat)) := fun L => by unfold klN; rw [List.map_map]; rfl
        rw [hkl A, hkl B, h]
      clear x5 x7 k1 k2 k3 k4 C1 C2 HM1 HM2 G5 G7 M1 M2
      generalize strN (klN A) = S1 at cK1 hkey hkey2
      generalize strN (klN B) = S2 at cK2 hkey hkey2
      by_cases hab : A.map Subtype.val = B.map Subtype.val
      · obtain rfl := hkey2 hab
        rw [decide_eq_true hab] at cS ⊢
        clear hkey hkey2 hab
        go_wp2_with fail
        refine wp_region_qbn (by kernel_rfl) (by kernel_rfl) (fun kq => ?_); have kq0 := kq (w2.heap.size) (by first | omega | (simp; done) | (simp; omega)); have kq1 := kq (w3.heap.size) (by first | omega | (simp; done) | (simp; omega)); clear kq; (repeat (go_big_quiet_step (first | (go_at_call 32; exact quietB (cS.out _ (below_regrown _ _ _))) | (go_at_call_of 33 (Value.slice ao1 A.length cap1); exact quietB (cK1.out _ (below_regrown _ _ _))) | (go_at_call_of 33 (Value.slice bo1 B.length cbp1); exact quietB (cK2.out _ (below_regrown _ _ _)))))); refine wpQuiet_nil ?_; clear kq0 kq1; intro wq hb
        go_wp2_with fail
        go_ret
        exact ⟨rfl, D08.trans (hb.mono Dz8)⟩
      · have hss : (S1.toList == S2.toList) = false := by
          rw [beq_eq_false_iff_ne]
          intro h
          rw [ByteArray.toList_eq, ByteArray.toList_eq] at h
          exact hab (hkey (ByteArray.ext (Array.toList_inj.1 h)))
        rw [decide_eq_false hab] at cS ⊢
        clear hkey hkey2 hab
        go_wp2_with fail
        refine wp_region_qbn (by kernel_rfl) (by kernel_rfl) (fun kq => ?_); have kq0 := kq (w2.heap.size) (by first | omega | (simp; done) | (simp; omega)); have kq1 := kq (w3.heap.size) (by first | omega | (simp; done) | (simp; omega)); clear kq; (repeat (go_big_quiet_step (first | (go_at_call 32; exact quietB (cS.out _ (below_regrown _ _ _))) | (go_at_call_of 33 (Value.slice ao1 A.length cap1); exact quietB (cK1.out _ (below_regrown _ _ _))) | (go_at_call_of 33 (Value.slice bo1 B.length cbp1); exact quietB (cK2.out _ (below_regrown _ _ _)))))); refine wpQuiet_nil ?_; clear kq0 kq1; intro wq hb
        go_wp2_with fail
        go_ret
        exact ⟨rfl, D08.trans (hb.mono Dz8)⟩

set_option maxRecDepth 100000
set_option maxRecDepth 100000 in
theorem storeAlike_lifted (os : Os) (started : os.Started) (H : Type) (enc : TypeId × Value → H) :
    ReturnsInHanded {} Try.checked os 9 .any (Rows.storeAlikeSpec.pre6 enc Try.prog Try.f9 Rows.storeAlikeRow.domain false) (Rows.storeAlikeSpec.post enc Try.prog Try.f9 false true false false) := by
  refine returnsInHanded_of_change (C := Try.checked) own started (by kernel_rfl) Try.func9
    (ChangeSpec.witness6 (enc := enc) (C := Try.checked) false ⟨#[], #[.slice none 0 0, .slice none 0 0], []⟩ 8 (by kernel_rfl) (by kernel_rfl) (by kernel_rfl) (by kernel_rfl)) ?_
  intro W base args ds gs before hval0 hW _ _
  have hval : ∀ (j : Nat) t v, Try.f9.params[j]? = some t → args[j]? = some v → Value.okWide Try.prog W .any base t v := hval0
  have hW' := hW
  obtain ⟨p, q, hA0, hV, rfl, hfz, hnd⟩ := hW
  have hA : DataW.TrodAll enc Try.prog W 0 (fun _ => true) true Try.f9.params.toList args.toList ds p := hA0
  rw [Try.params9] at hA hval
  obtain ⟨v0, vs0, d0, ds0, p0, q0, hargs, rfl, rfl, h0, r0⟩ := trodAll_cons hA
  obtain ⟨v1, vs1, d1, ds1, p1, q1, rfl, rfl, rfl, h1, r1⟩ := trodAll_cons r0
  obtain ⟨rfl, rfl, rfl⟩ := trodAll_nil r1
  obtain rfl : args = #[v0, v1] := by cases args; simp_all
  obtain ⟨rfl, rfl⟩ := trodVars_none hV
  obtain ⟨o0, k0, l0, rfl, A0, c0, w0⟩ := arg_cells h0 (hval 0 51 v0 rfl rfl)
  obtain ⟨o1, k1, l1, rfl, A1, c1, w1⟩ := arg_cells h1 (hval 1 51 v1 rfl rfl)
  refine (storeAlike_walk (w := W) o0 k0 l0 o1 k1 l1 A0 c0 w0 A1 c1 w1).mono fun e W' ⟨he, hb⟩ => ?_
  subst he
  exact ⟨_, rfl, post_law laid hW' rfl (by kernel_rfl) rfl Try.underlying4 rfl hb⟩

/-- The statement. -/
theorem storeAlike_holds : Rows.StoreAlikeSaid :=
  OpenClaim.holds_of_wide 9 Try.f9 rfl rfl rfl rfl rfl rfl rfl ⟨rfl, rfl, rfl, rfl, rfl⟩ rfl rfl rfl rfl rfl (by kernel_rfl) Try.func9 (by kernel_rfl)
    (of_decide_eq_true (by kernel_rfl)) (by unfold Func.isWrapper; first | (rw [if_pos (by decide +kernel)]; kernel_rfl) | (rw [if_neg (by decide +kernel)]; exact ⟨rfl, rfl⟩))
    (fun os started H enc _ => storeAlike_lifted os started H enc)
#print axioms storeAlike_holds

end Go.Proofs.Ytikkfkoaipenbaa
