/- Contracts of walk.Walk and of its reference. -/
import Derived.Test.YtogoclcjkekplaaWalkb
import Derived.Test.YtogoclcjkekplaaRefm
import Derived.Deep.RegionHeld3
import Derived.BigQuiet
import Derived.Deep.QuietTactic
namespace Go.Proofs.Ytogoclcjkekplaa
open Go.RowKit

/-- What a walk tells. -/
structure Wk where
  fault : Fa
  addr : Int
  first : Int
  last : Int
  reads : Int
  deriving DecidableEq
def walkV (r : Wk) : Value := .agg #[.int .i64 r.fault.kind, .int .i64 r.fault.level, .bool r.fault.write, .int .u64 r.addr, .int .u64 r.first, .int .u64 r.last, .int .i64 r.reads]

/-- A walk over what cells hold. -/
def walkF (rd : Int → Int) (table va : Int) (wr : Bool) : Wk :=
  if (beforeF va wr).kind = 0 then
    (let a := rd (entryZ table va 1)
     let b := if tableB a = true then rd (secondZ a va) else 0
     ⟨throughF a b va wr, throughZ a b va wr, a, b, if tableB a = true then 2 else 1⟩)
  else ⟨beforeF va wr, 0, 0, 0, 0⟩

theorem retB_out {v : Value} {w w' : World} {e : Ending} (h : RetB v w e w') : e = .returned v ∧ Below w.heap.size w w' := h

set_option maxRecDepth 100000 in
set_option maxHeartbeats 4000000 in
theorem walk_any (ks vs : Value) (L : List (Int × Int)) (table va : Int) (wr : Bool) (w : World) (hm : MapuIs w ks vs L) (hs : Sorted L) (hlen : L.length ≤ 900) (hu : ∀ k, U64 (getL L k)) (hva : U64 va) :
    Calls Try.prog 13 #[.agg #[ks, vs], .int .u64 table, .int .u64 va, .bool wr] w (RetB (walkV (walkF (getL L) table va wr)) w) := by
  have HM := Lib.hid hm
  have HS := Lib.hid hs
  have HU := Lib.hid hu
  have HVA := Lib.hid hva
  obtain ⟨ao1, cap1, rfl⟩ := ownsRow_form hm.keys
  obtain ⟨ao2, cap2, rfl⟩ := ownsRow_form hm.vals
  have HF : Hid (walkF (getL L) table va wr = if (beforeF va wr).kind = 0 then
    (let a := getL L (entryZ table va 1)
     let b := if tableB a = true then getL L (secondZ a va) else 0
     ⟨throughF a b va wr, throughZ a b va wr, a, b, if tableB a = true then 2 else 1⟩)
    else ⟨beforeF va wr, 0, 0, 0, 0⟩) := Lib.hid rfl
  clear hm hs hu
  go_enter Try.func13, Try.ntmps13
  go_wp2_with fail
  obtain ⟨w0, hw0⟩ : ∃ w0, w0 = ((w.alloc (.cells #[.slice ao1 L.length cap1, .slice ao2 L.length cap2] 31)).alloc (.cells #[.int .i64 0, .int .i64 0, .bool false, .int .u64 0, .int .u64 0, .int .u64 0, .int .i64 0] 38)).alloc (.cells #[.int .i64 0, .int .i64 0, .bool false, .int .u64 0, .int .u64 0, .int .u64 0, .int .i64 0] 38) := ⟨_, rfl⟩
  have B0 : Below w.heap.size w w0 := by rw [hw0]; repeat' (first | with_reducible exact Below.refl _ _ | with_reducible assumption | with_reducible apply below_drewN | with_reducible apply Below.drew | with_reducible refine Below.setCell ?_ ?_ _ | with_reducible refine Below.alloc ?_ ?_ _ | omega | (simp; done) | (simp; omega))
  have Bz0 := B0.size
  have hs0 : w0.heap.size = w.heap.size + 3 := by rw [hw0]; simp
  have h4 : w0.heap[w.heap.size]? = some (.cells #[.slice ao1 L.length cap1, .slice ao2 L.length cap2] 31) := by rw [hw0]; (repeat (first | assumption | (refine heap_new _ _ _ ?_; simp; done) | refine heap_old _ _ _ _ ?_))
  have h8 : w0.heap[w.heap.size + 1]? = some (.cells #[.int .i64 0, .int .i64 0, .bool false, .int .u64 0, .int .u64 0, .int .u64 0, .int .i64 0] 38) := by rw [hw0]; (repeat (first | assumption | (refine heap_new _ _ _ ?_; simp; done) | refine heap_old _ _ _ _ ?_))
  have h9 : w0.heap[w.heap.size + 1 + 1]? = some (.cells #[.int .i64 0, .int .i64 0, .bool false, .int .u64 0, .int .u64 0, .int .u64 0, .int .i64 0] 38) := by rw [hw0]; (repeat (first | assumption | (refine heap_new _ _ _ ?_; simp; done) | refine heap_old _ _ _ _ ?_))
  rw [← hw0]
  clear hw0
  refine (before_any va wr _ hva).mono ?_
  generalize beforeF va wr = f at HF
  obtain ⟨fk, fl, fw⟩ := f
  rintro e w1 ⟨rfl, hb⟩
  simp only [faultV]
  have B1 := B0.trans (hb.mono Bz0)
  have g4 := (hb.block w.heap.size (by omega)).trans h4
  have g8 := (hb.block (w.heap.size + 1) (by omega)).trans h8
  have g9 := (hb.block (w.heap.size + 1 + 1) (by omega)).trans h9
  have hs1 := hb.size
  clear hb h4 h8 h9
  obtain ⟨c4, f4, l4, n4⟩ := block_cells g4
  obtain ⟨c8, f8, l8, n8⟩ := block_cells g8
  obtain ⟨c9, f9, l9, n9⟩ := block_cells g9
  by_cases hk : fk = 0
  · subst hk
    simp only [if_true] at HF
    have G4 := Lib.hid g4
    have G8 := Lib.hid g8
    have G9 := Lib.hid g9
    have d0 := c9 0 _ rfl
    have d1 := c9 1 _ rfl
    have d2 := c9 2 _ rfl
    clear c4 c8 c9 g4 g8 g9
    go_wp2_with fail
    obtain ⟨x1, hx1⟩ : ∃ x1, x1 = ((w1.setCell ⟨w.heap.size + 1 + 1, 0, none⟩ (.int .i64 0)).setCell ⟨w.heap.size + 1 + 1, 1, none⟩ (.int .i64 fl)).setCell ⟨w.heap.size + 1 + 1, 2, none⟩ (.bool fw) := ⟨_, rfl⟩
    have B2 : Below w.heap.size w x1 := by rw [hx1]; repeat' (first | with_reducible exact Below.refl _ _ | with_reducible assumption | with_reducible apply below_drewN | with_reducible apply Below.drew | with_reducible refine Below.setCell ?_ ?_ _ | with_reducible refine Below.alloc ?_ ?_ _ | omega | (simp; done) | (simp; omega))
    have hs2 : x1.heap.size = w1.heap.size := by rw [hx1]; simp [World.setCell]
    have g4 : x1.heap[w.heap.size]? = some (.cells #[.slice ao1 L.length cap1, .slice ao2 L.length cap2] 31) := by rw [hx1]; exact block_else (block_else (block_else G4.out (by omega)) (by omega)) (by omega)
    have g8 : x1.heap[w.heap.size + 1]? = some (.cells #[.int .i64 0, .int .i64 0, .bool false, .int .u64 0, .int .u64 0, .int .u64 0, .int .i64 0] 38) := by rw [hx1]; exact block_else (block_else (block_else G8.out (by omega)) (by omega)) (by omega)
    have g9 : x1.heap[w.heap.size + 1 + 1]? = some (.cells #[.int .i64 0, .int .i64 fl, .bool fw, .int .u64 0, .int .u64 0, .int .u64 0, .int .i64 0] 38) := by rw [hx1]; exact block_set (block_set (block_set G9.out rfl) rfl) rfl
    rw [← hx1]
    clear hx1 G4 G8 G9 d0 d1 d2 f4 f8 f9 n4 n8 n9 l4 l8 l9
    obtain ⟨c4, -, l4, n4⟩ := block_cells g4
    have hs3 : w.heap.size + 1 ≤ x1.heap.size := by omega
    obtain ⟨c9, f9, l9, n9⟩ := block_cells g9
    have HS9 : Hid (∀ W, Below x1.heap.size x1 W → W.cell? ⟨w.heap.size + 1 + 1, 4, none⟩ = some (.int .u64 0) ∧ W.frozen? ⟨w.heap.size + 1 + 1, 4, none⟩ = false) :=
      Lib.hid fun W h => ⟨(h.cell (p := ⟨w.heap.size + 1 + 1, 4, none⟩) l9).trans (c9 4 _ rfl), (h.frozen (p := ⟨w.heap.size + 1 + 1, 4, none⟩) l9).trans (f9 4)⟩
    clear f9 c9
    have HS4 : Hid (∀ W, Below (w.heap.size + 1) x1 W → W.cell? ⟨w.heap.size, 0, none⟩ = some (.slice ao1 L.length cap1) ∧ W.cell? ⟨w.heap.size, 1, none⟩ = some (.slice ao2 L.length cap2)) :=
      Lib.hid fun W h => ⟨(h.cell (p := ⟨w.heap.size, 0, none⟩) (Nat.lt_succ_self _)).trans (c4 0 _ rfl), (h.cell (p := ⟨w.heap.size, 1, none⟩) (Nat.lt_succ_self _)).trans (c4 1 _ rfl)⟩
    have cS : Hid (∀ W, Calls Try.prog 33 #[.int .u64 table, .int .u64 va, .int .i64 1] W (RetB (.int .u64 (entryZ table va 1)) W)) := Lib.hid fun W => dslotB_any table va 1 W hva
    have cR : Hid (∀ W a, Below x1.heap.size x1 W → Calls Try.prog 24 #[.agg #[.slice ao1 L.length cap1, .slice ao2 L.length cap2], .int .u64 a] W (RetB (.int .u64 (getL L a)) W)) := Lib.hid fun W a h => read_any _ _ L a W (HM.out.below (B2.trans (h.mono B2.size))) HS.out hlen
    clear c4
    go_region_held3 (fun W => W.cell? ⟨w.heap.size, 0, none⟩ = some (.slice ao1 L.length cap1) ∧ W.cell? ⟨w.heap.size, 1, none⟩ = some (.slice ao2 L.length cap2))
      (first | exact HS4.out _ (by repeat' (first | with_reducible exact Below.refl _ _ | with_reducible assumption | with_reducible apply below_drewN | with_reducible apply Below.drew | with_reducible refine Below.setCell ?_ ?_ _ | with_reducible refine Below.alloc ?_ ?_ _ | omega | (simp; done) | (simp; omega))))
      (first
      | (go_at_call 33; with_reducible refine (cS.out _).mono ?_; intro e w2 hx; obtain ⟨rfl, hb⟩ := retB_out hx; have BL : Below x1.heap.size x1 w2 := Below.trans (by repeat' (first | with_reducible exact Below.refl _ _ | with_reducible assumption | with_reducible apply below_drewN | with_reducible apply Below.drew | with_reducible refine Below.setCell ?_ ?_ _ | with_reducible refine Below.alloc ?_ ?_ _ | omega | (simp; done) | (simp; omega))) (hb.mono (by first | omega | (simp; done) | (simp; omega))); have BL' := BL.mono hs3; have BzL := BL.size; clear hx hb)
      | (go_at_call 24; with_reducible refine (cR.out _ _ ?_).mono ?_; (focus repeat' (first | with_reducible exact Below.refl _ _ | with_reducible assumption | with_reducible apply below_drewN | with_reducible apply Below.drew | with_reducible refine Below.setCell ?_ ?_ _ | with_reducible refine Below.alloc ?_ ?_ _ | omega | (simp; done) | (simp; omega))); intro e w3 hx; obtain ⟨rfl, hb⟩ := retB_out hx; have BK : Below x1.heap.size x1 w3 := Below.trans (by repeat' (first | with_reducible exact Below.refl _ _ | with_reducible assumption | with_reducible apply below_drewN | with_reducible apply Below.drew | with_reducible refine Below.setCell ?_ ?_ _ | with_reducible refine Below.alloc ?_ ?_ _ | omega | (simp; done) | (simp; omega))) (hb.mono (by first | omega | (simp; done) | (simp; omega))); have BK' := BK.mono hs3; have BzK := BK.size; obtain ⟨y1, y2⟩ := HS9.out _ BK; clear hx hb))
    clear HS4 HS9 cS y1 y2
    obtain ⟨a, hA⟩ : ∃ a, a = getL L (entryZ table va 1) := ⟨_, rfl⟩
    have hua : U64 a := by rw [hA]; exact HU.out _
    rw [← hA] at HF ⊢
    clear hA
    have G4 := Lib.hid ((BK.block w.heap.size (by omega)).trans g4)
    have G8 := Lib.hid ((BK.block (w.heap.size + 1) (by omega)).trans g8)
    have G9 := (BK.block (w.heap.size + 1 + 1) (by omega)).trans g9
    obtain ⟨c9, f9, l9, n9⟩ := block_cells G9
    have d4 := c9 4 _ rfl
    have d6 := c9 6 _ rfl
    have HG9 := Lib.hid G9
    clear c9 G9 g4 g8 g9
    go_wp2_with fail
    obtain ⟨x2, hx2⟩ : ∃ x2, x2 = (w3.setCell ⟨w.heap.size + 1 + 1, 4, none⟩ (.int .u64 a)).setCell ⟨w.heap.size + 1 + 1, 6, none⟩ (.int .i64 1) := ⟨_, rfl⟩
    have B3 : Below w.heap.size w w3 := B2.trans (BK.mono B2.size)
    have B4 : Below w.heap.size w x2 := by rw [hx2]; repeat' (first | with_reducible exact Below.refl _ _ | with_reducible assumption | with_reducible apply below_drewN | with_reducible apply Below.drew | with_reducible refine Below.setCell ?_ ?_ _ | with_reducible refine Below.alloc ?_ ?_ _ | omega | (simp; done) | (simp; omega))
    have hs4 : x2.heap.size = w3.heap.size := by rw [hx2]; simp [World.setCell]
    have g4 : x2.heap[w.heap.size]? = some (.cells #[.slice ao1 L.length cap1, .slice ao2 L.length cap2] 31) := by rw [hx2]; exact block_else (block_else G4.out (by omega)) (by omega)
    have g8 : x2.heap[w.heap.size + 1]? = some (.cells #[.int .i64 0, .int .i64 0, .bool false, .int .u64 0, .int .u64 0, .int .u64 0, .int .i64 0] 38) := by rw [hx2]; exact block_else (block_else G8.out (by omega)) (by omega)
    have g9 : x2.heap[w.heap.size + 1 + 1]? = some (.cells #[.int .i64 0, .int .i64 fl, .bool fw, .int .u64 0, .int .u64 a, .int .u64 0, .int .i64 1] 38) := by rw [hx2]; exact block_set (block_set HG9.out rfl) rfl
    rw [← hx2]
    clear hx2 G4 G8 HG9 d4 d6 f9 l9 n9 l4 n4
    refine (first_any a va _ hua hva).mono ?_
    rintro e w5 ⟨rfl, hb⟩
    simp only [faultV]
    have B5 : Below w.heap.size w w5 := B4.trans (hb.mono B4.size)
    have BKK : Below x2.heap.size x2 w5 := hb
    have G4 := Lib.hid ((hb.block w.heap.size (by omega)).trans g4)
    have G8 := Lib.hid ((hb.block (w.heap.size + 1) (by omega)).trans g8)
    have G9 := Lib.hid ((hb.block (w.heap.size + 1 + 1) (by omega)).trans g9)
    have hs5 := hb.size
    clear hb g4 g8 g9
    obtain ⟨c4, f4, l4, n4⟩ := block_cells G4.out
    obtain ⟨c9, f9, l9, n9⟩ := block_cells G9.out
    have d0 := c9 0 _ rfl
    have d1 := c9 1 _ rfl
    have d2 := c9 2 _ rfl
    have d3 := c9 3 _ rfl
    have d4 := c9 4 _ rfl
    have d5 := c9 5 _ rfl
    have d6 := c9 6 _ rfl
    cases ht : tableB a
    · simp only [ht, Bool.false_eq_true, if_false] at HF
      have HT := Lib.hid ht
      clear c4 c9 ht
      go_wp2_with fail
      refine (through_any a 0 va wr _ hua ⟨by decide, by decide⟩ hva).mono ?_
      generalize throughF a 0 va wr = tf at HF
      generalize throughZ a 0 va wr = tz at HF
      obtain ⟨tk, tl, tw⟩ := tf
      rintro e w7 ⟨rfl, hb⟩
      simp only [faultV]
      have BW : Below w5.heap.size w5 w7 := Below.trans (by repeat' (first | with_reducible exact Below.refl _ _ | with_reducible assumption | with_reducible apply below_drewN | with_reducible apply Below.drew | with_reducible refine Below.setCell ?_ ?_ _ | with_reducible refine Below.alloc ?_ ?_ _ | omega | (simp; done) | (simp; omega))) (hb.mono (by first | omega | (simp; done) | (simp; omega)))
      have B7 : Below w.heap.size w w7 := B5.trans (BW.mono B5.size)
      have hs7 := BW.size
      have k8 := (BW.block (w.heap.size + 1) (by omega)).trans G8.out
      have k9 := (BW.block (w.heap.size + 1 + 1) (by omega)).trans G9.out
      clear hb BW
      obtain ⟨c8, e8, l8, n8⟩ := block_cells k8
      obtain ⟨c9, e9, l9', n9'⟩ := block_cells k9
      have j0 := c8 0 _ rfl
      have j1 := c8 1 _ rfl
      have j2 := c8 2 _ rfl
      have j3 := c8 3 _ rfl
      have j4 := c8 4 _ rfl
      have j5 := c8 5 _ rfl
      have j6 := c8 6 _ rfl
      have k0 := c9 0 _ rfl
      have k1 := c9 1 _ rfl
      have k2 := c9 2 _ rfl
      have k3 := c9 3 _ rfl
      have k4 := c9 4 _ rfl
      have k5 := c9 5 _ rfl
      have k6 := c9 6 _ rfl
      clear c8 c9 k8 k9
      go_wp2_with fail
      refine bodyPost_ret (v := walkV ⟨⟨tk, tl, tw⟩, tz, a, 0, 1⟩) (by simp [results, Try.results13, go_sem, walkV, *]) rfl ⟨by rw [HF.out], ?_⟩
      repeat' (first | with_reducible exact Below.refl _ _ | with_reducible assumption | with_reducible apply below_drewN | with_reducible apply Below.drew | with_reducible refine Below.setCell ?_ ?_ _ | with_reducible refine Below.alloc ?_ ?_ _ | omega | (simp; done) | (simp; omega))
    · simp only [ht, if_true] at HF
      have HT := Lib.hid ht
      have i0 := c4 0 _ rfl
      have i1 := c4 1 _ rfl
      clear c4 c9 ht
      go_wp2_with fail
      refine (read_any _ _ L (secondZ a va) _ (HM.out.below (by repeat' (first | with_reducible exact Below.refl _ _ | with_reducible assumption | with_reducible apply below_drewN | with_reducible apply Below.drew | with_reducible refine Below.setCell ?_ ?_ _ | with_reducible refine Below.alloc ?_ ?_ _ | omega | (simp; done) | (simp; omega)))) HS.out hlen).mono ?_
      obtain ⟨b, hB⟩ : ∃ b, b = getL L (secondZ a va) := ⟨_, rfl⟩
      have hub : U64 b := by rw [hB]; exact HU.out _
      rw [← hB] at HF ⊢
      clear hB
      rintro e w6 ⟨rfl, hb⟩
      have BW : Below w5.heap.size w5 w6 := Below.trans (by repeat' (first | with_reducible exact Below.refl _ _ | with_reducible assumption | with_reducible apply below_drewN | with_reducible apply Below.drew | with_reducible refine Below.setCell ?_ ?_ _ | with_reducible refine Below.alloc ?_ ?_ _ | omega | (simp; done) | (simp; omega))) (hb.mono (by first | omega | (simp; done) | (simp; omega)))
      have B6 : Below w.heap.size w w6 := B5.trans (BW.mono B5.size)
      have hs6 := BW.size
      have K8 := Lib.hid ((BW.block (w.heap.size + 1) (by omega)).trans G8.out)
      have K9 := Lib.hid ((BW.block (w.heap.size + 1 + 1) (by omega)).trans G9.out)
      clear hb BW d0 d1 d2 d3 d4 d5 d6 f9 f4 l9 n9 i0 i1 l4 n4
      obtain ⟨c9, f9, l9, n9⟩ := block_cells K9.out
      have d0 := c9 0 _ rfl
      have d1 := c9 1 _ rfl
      have d2 := c9 2 _ rfl
      have d3 := c9 3 _ rfl
      have d4 := c9 4 _ rfl
      have d5 := c9 5 _ rfl
      have d6 := c9 6 _ rfl
      clear c9
      go_wp2_with fail
      obtain ⟨x3, hx3⟩ : ∃ x3, x3 = (w6.setCell ⟨w.heap.size + 1 + 1, 5, none⟩ (.int .u64 b)).setCell ⟨w.heap.size + 1 + 1, 6, none⟩ (.int .i64 2) := ⟨_, rfl⟩
      have BX : Below w.heap.size w x3 := by rw [hx3]; repeat' (first | with_reducible exact Below.refl _ _ | with_reducible assumption | with_reducible apply below_drewN | with_reducible apply Below.drew | with_reducible refine Below.setCell ?_ ?_ _ | with_reducible refine Below.alloc ?_ ?_ _ | omega | (simp; done) | (simp; omega))
      have hsx : x3.heap.size = w6.heap.size := by rw [hx3]; simp [World.setCell]
      have X8 : Hid (x3.heap[w.heap.size + 1]? = some (.cells #[.int .i64 0, .int .i64 0, .bool false, .int .u64 0, .int .u64 0, .int .u64 0, .int .i64 0] 38)) := Lib.hid (by rw [hx3]; exact block_else (block_else K8.out (by omega)) (by omega))
      have X9 : Hid (x3.heap[w.heap.size + 1 + 1]? = some (.cells #[.int .i64 0, .int .i64 fl, .bool fw, .int .u64 0, .int .u64 a, .int .u64 b, .int .i64 2] 38)) := Lib.hid (by rw [hx3]; exact block_set (block_set K9.out rfl) rfl)
      rw [← hx3]
      clear hx3 K8 K9 d0 d1 d2 d3 d4 d5 d6 f9 l9 n9 G4 G8 G9
      refine (through_any a b va wr _ hua hub hva).mono ?_
      generalize throughF a b va wr = tf at HF
      generalize throughZ a b va wr = tz at HF
      obtain ⟨tk, tl, tw⟩ := tf
      rintro e w7 ⟨rfl, hb⟩
      simp only [faultV]
      have BW : Below x3.heap.size x3 w7 := Below.trans (by repeat' (first | with_reducible exact Below.refl _ _ | with_reducible assumption | with_reducible apply below_drewN | with_reducible apply Below.drew | with_reducible refine Below.setCell ?_ ?_ _ | with_reducible refine Below.alloc ?_ ?_ _ | omega | (simp; done) | (simp; omega))) (hb.mono (by first | omega | (simp; done) | (simp; omega)))
      have B7 : Below w.heap.size w w7 := BX.trans (BW.mono BX.size)
      have hs7 := BW.size
      have k8 := (BW.block (w.heap.size + 1) (by omega)).trans X8.out
      have k9 := (BW.block (w.heap.size + 1 + 1) (by omega)).trans X9.out
      clear hb BW
      obtain ⟨c8, e8, l8, n8⟩ := block_cells k8
      obtain ⟨c9, e9, l9', n9'⟩ := block_cells k9
      have j0 := c8 0 _ rfl
      have j1 := c8 1 _ rfl
      have j2 := c8 2 _ rfl
      have j3 := c8 3 _ rfl
      have j4 := c8 4 _ rfl
      have j5 := c8 5 _ rfl
      have j6 := c8 6 _ rfl
      have k0 := c9 0 _ rfl
      have k1 := c9 1 _ rfl
      have k2 := c9 2 _ rfl
      have k3 := c9 3 _ rfl
      have k4 := c9 4 _ rfl
      have k5 := c9 5 _ rfl
      have k6 := c9 6 _ rfl
      clear c8 c9 k8 k9
      go_wp2_with fail
      refine bodyPost_ret (v := walkV ⟨⟨tk, tl, tw⟩, tz, a, b, 2⟩) (by simp [results, Try.results13, go_sem, walkV, *]) rfl ⟨by rw [HF.out], ?_⟩
      repeat' (first | with_reducible exact Below.refl _ _ | with_reducible assumption | with_reducible apply below_drewN | with_reducible apply Below.drew | with_reducible refine Below.setCell ?_ ?_ _ | with_reducible refine Below.alloc ?_ ?_ _ | omega | (simp; done) | (simp; omega))
  · simp only [if_neg hk] at HF
    have hkd : (fk != 0) = true := by simpa using hk
    have a0 := c8 0 _ rfl
    have a1 := c8 1 _ rfl
    have a2 := c8 2 _ rfl
    have a3 := c8 3 _ rfl
    have a4 := c8 4 _ rfl
    have a5 := c8 5 _ rfl
    have a6 := c8 6 _ rfl
    have d0 := c9 0 _ rfl
    have d1 := c9 1 _ rfl
    have d2 := c9 2 _ rfl
    have d3 := c9 3 _ rfl
    have d4 := c9 4 _ rfl
    have d5 := c9 5 _ rfl
    have d6 := c9 6 _ rfl
    clear c4 c8 c9
    go_wp2_with fail
    refine bodyPost_ret (v := walkV ⟨⟨fk, fl, fw⟩, 0, 0, 0, 0⟩) (by simp [results, Try.results13, go_sem, walkV, *]) rfl ⟨by rw [HF.out], ?_⟩
    repeat' (first | with_reducible exact Below.refl _ _ | with_reducible assumption | with_reducible apply below_drewN | with_reducible apply Below.drew | with_reducible refine Below.setCell ?_ ?_ _ | with_reducible refine Below.alloc ?_ ?_ _ | omega | (simp; done) | (simp; omega))


set_option maxRecDepth 100000 in
set_option maxHeartbeats 4000000 in
theorem refWalk_any (ao : Option Addr) (n cap : Nat) (l : List (Int × Int)) (table va : Int) (wr : Bool) (w : World) (hl : Atc w ao l) (hn : n = l.length) (hlen : l.length ≤ 1000000) (hu : ∀ k, U64 (readL l k)) (hva : U64 va) (hta : U64 table) :
    Calls Try.prog 14 #[.slice ao n cap, .int .u64 table, .int .u64 va, .bool wr] w (RetB (walkV (walkF (readL l) table va wr)) w) := by
  have HL := Lib.hid hl
  have HU := Lib.hid hu
  have HF : Hid (walkF (readL l) table va wr = if (beforeF va wr).kind = 0 then
    (let a := readL l (entryZ table va 1)
     let b := if tableB a = true then readL l (secondZ a va) else 0
     ⟨throughF a b va wr, throughZ a b va wr, a, b, if tableB a = true then 2 else 1⟩)
    else ⟨beforeF va wr, 0, 0, 0, 0⟩) := Lib.hid rfl
  have HN := Lib.hid hn
  clear hl hu hn
  go_enter Try.func14, Try.ntmps14
  go_wp2_with fail
  refine (refBefore_any va wr _ hva).mono ?_
  generalize beforeF va wr = f at HF
  obtain ⟨fk, fl, fw⟩ := f
  rintro e w1 ⟨rfl, hb⟩
  simp only [faultV]
  have B1 : Below w.heap.size w w1 := Below.trans (by repeat' (first | with_reducible exact Below.refl _ _ | with_reducible assumption | with_reducible apply below_drewN | with_reducible apply Below.drew | with_reducible refine Below.setCell ?_ ?_ _ | with_reducible refine Below.alloc ?_ ?_ _ | omega | (simp; done) | (simp; omega))) (hb.mono (by first | omega | (simp; done) | (simp; omega)))
  have Bz1 := B1.size
  have g8 : w1.heap[w.heap.size]? = some (.cells #[.int .i64 0, .int .i64 0, .bool false, .int .u64 0, .int .u64 0, .int .u64 0, .int .i64 0] 40) := (hb.block w.heap.size (by simp)).trans (by (repeat (first | assumption | (refine heap_new _ _ _ ?_; simp; done) | refine heap_old _ _ _ _ ?_)))
  have hs1 : w.heap.size < w1.heap.size := by have := hb.size; simp at this; omega
  clear hb
  obtain ⟨c8, f8, l8, n8⟩ := block_cells g8
  by_cases hk : fk = 0
  · subst hk
    simp only [if_true] at HF
    have G8 := Lib.hid g8
    clear c8 g8
    go_wp2_with fail
    obtain ⟨x1, hx1⟩ : ∃ x1, x1 = w1.alloc (.cells #[.int .i64 0, .int .i64 fl, .bool fw, .int .u64 0, .int .u64 0, .int .u64 0, .int .i64 0] 40) := ⟨_, rfl⟩
    have hs2 : x1.heap.size = w1.heap.size + 1 := by rw [hx1]; simp
    have B2 : Below w.heap.size w x1 := by rw [hx1]; repeat' (first | with_reducible exact Below.refl _ _ | with_reducible assumption | with_reducible apply below_drewN | with_reducible apply Below.drew | with_reducible refine Below.setCell ?_ ?_ _ | with_reducible refine Below.alloc ?_ ?_ _ | omega | (simp; done) | (simp; omega))
    have g8 : x1.heap[w.heap.size]? = some (.cells #[.int .i64 0, .int .i64 0, .bool false, .int .u64 0, .int .u64 0, .int .u64 0, .int .i64 0] 40) := by rw [hx1]; exact heap_old _ _ _ _ G8.out
    have g9 : x1.heap[w1.heap.size]? = some (.cells #[.int .i64 0, .int .i64 fl, .bool fw, .int .u64 0, .int .u64 0, .int .u64 0, .int .i64 0] 40) := by rw [hx1]; exact heap_new _ _ _ rfl
    rw [← hx1]
    clear hx1 G8 f8 l8 n8
    refine (refSlot_any table va 1 _ hva hta).mono ?_
    rintro e w2 ⟨rfl, hb⟩
    have BW : Below x1.heap.size x1 w2 := hb
    have BWs := BW.size
    have B3 : Below w.heap.size w w2 := B2.trans (BW.mono B2.size)
    have G8 := Lib.hid ((BW.block w.heap.size (by omega)).trans g8)
    have G9 := Lib.hid ((BW.block w1.heap.size (by omega)).trans g9)
    clear hb BW g8 g9
    obtain ⟨c9, f9, l9, n9⟩ := block_cells G9.out
    have d4 := c9 4 _ rfl
    have d6 := c9 6 _ rfl
    clear c9
    go_wp2_with fail
    refine (rread_any ao n cap l _ _ (HL.out.below (by repeat' (first | with_reducible exact Below.refl _ _ | with_reducible assumption | with_reducible apply below_drewN | with_reducible apply Below.drew | with_reducible refine Below.setCell ?_ ?_ _ | with_reducible refine Below.alloc ?_ ?_ _ | omega | (simp; done) | (simp; omega)))) HN.out hlen).mono ?_
    obtain ⟨a, hA⟩ : ∃ a, a = readL l (entryZ table va 1) := ⟨_, rfl⟩
    have hua : U64 a := by rw [hA]; exact HU.out _
    rw [← hA] at HF ⊢
    clear hA
    rintro e w3 ⟨rfl, rfl⟩
    go_wp2_with fail
    obtain ⟨x2, hx2⟩ : ∃ x2, x2 = (w2.setCell ⟨w1.heap.size, 4, none⟩ (.int .u64 a)).setCell ⟨w1.heap.size, 6, none⟩ (.int .i64 1) := ⟨_, rfl⟩
    have B4 : Below w.heap.size w x2 := by rw [hx2]; repeat' (first | with_reducible exact Below.refl _ _ | with_reducible assumption | with_reducible apply below_drewN | with_reducible apply Below.drew | with_reducible refine Below.setCell ?_ ?_ _ | with_reducible refine Below.alloc ?_ ?_ _ | omega | (simp; done) | (simp; omega))
    have hs4 : x2.heap.size = w2.heap.size := by rw [hx2]; simp [World.setCell]
    have g8 : x2.heap[w.heap.size]? = some (.cells #[.int .i64 0, .int .i64 0, .bool false, .int .u64 0, .int .u64 0, .int .u64 0, .int .i64 0] 40) := by rw [hx2]; exact block_else (block_else G8.out (by omega)) (by omega)
    have g9 : x2.heap[w1.heap.size]? = some (.cells #[.int .i64 0, .int .i64 fl, .bool fw, .int .u64 0, .int .u64 a, .int .u64 0, .int .i64 1] 40) := by rw [hx2]; exact block_set (block_set G9.out rfl) rfl
    rw [← hx2]
    clear hx2 G8 G9 d4 d6 f9 l9 n9
    refine (second_any a va _ hua hva).mono ?_
    rintro e w5 ⟨rfl, hb⟩
    have B5 : Below w.heap.size w w5 := B4.trans (hb.mono B4.size)
    have G8 := Lib.hid ((hb.block w.heap.size (by omega)).trans g8)
    have G9 := Lib.hid ((hb.block w1.heap.size (by omega)).trans g9)
    have hs5 := hb.size
    clear hb g8 g9
    obtain ⟨c9, f9, l9, n9⟩ := block_cells G9.out
    have d0 := c9 0 _ rfl
    have d1 := c9 1 _ rfl
    have d2 := c9 2 _ rfl
    have d3 := c9 3 _ rfl
    have d4 := c9 4 _ rfl
    have d5 := c9 5 _ rfl
    have d6 := c9 6 _ rfl
    clear c9
    cases ht : tableB a
    · simp only [ht, Bool.false_eq_true, if_false] at HF
      have HT := Lib.hid ht
      clear ht
      go_wp2_with fail
      refine (refThrough_any a 0 va wr _ hua ⟨by decide, by decide⟩ hva).mono ?_
      generalize throughF a 0 va wr = tf at HF
      generalize throughZ a 0 va wr = tz at HF
      obtain ⟨tk, tl, tw⟩ := tf
      rintro e w7 ⟨rfl, hb⟩
      simp only [faultV]
      have BW : Below w5.heap.size w5 w7 := Below.trans (by repeat' (first | with_reducible exact Below.refl _ _ | with_reducible assumption | with_reducible apply below_drewN | with_reducible apply Below.drew | with_reducible refine Below.setCell ?_ ?_ _ | with_reducible refine Below.alloc ?_ ?_ _ | omega | (simp; done) | (simp; omega))) (hb.mono (by first | omega | (simp; done) | (simp; omega)))
      have B7 : Below w.heap.size w w7 := B5.trans (BW.mono B5.size)
      have hs7 := BW.size
      have k8 := (BW.block w.heap.size (by omega)).trans G8.out
      have k9 := (BW.block w1.heap.size (by omega)).trans G9.out
      clear hb BW
      obtain ⟨c8, e8, l8, n8⟩ := block_cells k8
      obtain ⟨c9, e9, l9', n9'⟩ := block_cells k9
      have j0 := c8 0 _ rfl
      have j1 := c8 1 _ rfl
      have j2 := c8 2 _ rfl
      have j3 := c8 3 _ rfl
      have j4 := c8 4 _ rfl
      have j5 := c8 5 _ rfl
      have j6 := c8 6 _ rfl
      have k0 := c9 0 _ rfl
      have k1 := c9 1 _ rfl
      have k2 := c9 2 _ rfl
      have k3 := c9 3 _ rfl
      have k4 := c9 4 _ rfl
      have k5 := c9 5 _ rfl
      have k6 := c9 6 _ rfl
      clear c8 c9 k8 k9
      go_wp2_with fail
      refine bodyPost_ret (v := walkV ⟨⟨tk, tl, tw⟩, tz, a, 0, 1⟩) (by simp [results, Try.results14, go_sem, walkV, *]) rfl ⟨by rw [HF.out], ?_⟩
      repeat' (first | with_reducible exact Below.refl _ _ | with_reducible assumption | with_reducible apply below_drewN | with_reducible apply Below.drew | with_reducible refine Below.setCell ?_ ?_ _ | with_reducible refine Below.alloc ?_ ?_ _ | omega | (simp; done) | (simp; omega))
    · simp only [ht, if_true] at HF
      have HT := Lib.hid ht
      clear ht
      go_wp2_with fail
      refine (rread_any ao n cap l _ _ (HL.out.below (by repeat' (first | with_reducible exact Below.refl _ _ | with_reducible assumption | with_reducible apply below_drewN | with_reducible apply Below.drew | with_reducible refine Below.setCell ?_ ?_ _ | with_reducible refine Below.alloc ?_ ?_ _ | omega | (simp; done) | (simp; omega)))) HN.out hlen).mono ?_
      obtain ⟨b, hB⟩ : ∃ b, b = readL l (secondZ a va) := ⟨_, rfl⟩
      have hub : U64 b := by rw [hB]; exact HU.out _
      rw [← hB] at HF ⊢
      clear hB
      rintro e w6 ⟨rfl, rfl⟩
      go_wp2_with fail
      obtain ⟨x3, hx3⟩ : ∃ x3, x3 = (w5.setCell ⟨w1.heap.size, 5, none⟩ (.int .u64 b)).setCell ⟨w1.heap.size, 6, none⟩ (.int .i64 2) := ⟨_, rfl⟩
      have BX : Below w.heap.size w x3 := by rw [hx3]; repeat' (first | with_reducible exact Below.refl _ _ | with_reducible assumption | with_reducible apply below_drewN | with_reducible apply Below.drew | with_reducible refine Below.setCell ?_ ?_ _ | with_reducible refine Below.alloc ?_ ?_ _ | omega | (simp; done) | (simp; omega))
      have hsx : x3.heap.size = w5.heap.size := by rw [hx3]; simp [World.setCell]
      have X8 : Hid (x3.heap[w.heap.size]? = some (.cells #[.int .i64 0, .int .i64 0, .bool false, .int .u64 0, .int .u64 0, .int .u64 0, .int .i64 0] 40)) := Lib.hid (by rw [hx3]; exact block_else (block_else G8.out (by omega)) (by omega))
      have X9 : Hid (x3.heap[w1.heap.size]? = some (.cells #[.int .i64 0, .int .i64 fl, .bool fw, .int .u64 0, .int .u64 a, .int .u64 b, .int .i64 2] 40)) := Lib.hid (by rw [hx3]; exact block_set (block_set G9.out rfl) rfl)
      rw [← hx3]
      clear hx3 d0 d1 d2 d3 d4 d5 d6 f9 l9 n9 G8 G9
      refine (refThrough_any a b va wr _ hua hub hva).mono ?_
      generalize throughF a b va wr = tf at HF
      generalize throughZ a b va wr = tz at HF
      obtain ⟨tk, tl, tw⟩ := tf
      rintro e w7 ⟨rfl, hb⟩
      simp only [faultV]
      have BW : Below x3.heap.size x3 w7 := Below.trans (by repeat' (first | with_reducible exact Below.refl _ _ | with_reducible assumption | with_reducible apply below_drewN | with_reducible apply Below.drew | with_reducible refine Below.setCell ?_ ?_ _ | with_reducible refine Below.alloc ?_ ?_ _ | omega | (simp; done) | (simp; omega))) (hb.mono (by first | omega | (simp; done) | (simp; omega)))
      have B7 : Below w.heap.size w w7 := BX.trans (BW.mono BX.size)
      have hs7 := BW.size
      have k8 := (BW.block w.heap.size (by omega)).trans X8.out
      have k9 := (BW.block w1.heap.size (by omega)).trans X9.out
      clear hb BW
      obtain ⟨c8, e8, l8, n8⟩ := block_cells k8
      obtain ⟨c9, e9, l9', n9'⟩ := block_cells k9
      have j0 := c8 0 _ rfl
      have j1 := c8 1 _ rfl
      have j2 := c8 2 _ rfl
      have j3 := c8 3 _ rfl
      have j4 := c8 4 _ rfl
      have j5 := c8 5 _ rfl
      have j6 := c8 6 _ rfl
      have k0 := c9 0 _ rfl
      have k1 := c9 1 _ rfl
      have k2 := c9 2 _ rfl
      have k3 := c9 3 _ rfl
      have k4 := c9 4 _ rfl
      have k5 := c9 5 _ rfl
      have k6 := c9 6 _ rfl
      clear c8 c9 k8 k9
      go_wp2_with fail
      refine bodyPost_ret (v := walkV ⟨⟨tk, tl, tw⟩, tz, a, b, 2⟩) (by simp [results, Try.results14, go_sem, walkV, *]) rfl ⟨by rw [HF.out], ?_⟩
      repeat' (first | with_reducible exact Below.refl _ _ | with_reducible assumption | with_reducible apply below_drewN | with_reducible apply Below.drew | with_reducible refine Below.setCell ?_ ?_ _ | with_reducible refine Below.alloc ?_ ?_ _ | omega | (simp; done) | (simp; omega))
  · simp only [if_neg hk] at HF
    have hkd : (fk != 0) = true := by simpa using hk
    have a0 := c8 0 _ rfl
    have a1 := c8 1 _ rfl
    have a2 := c8 2 _ rfl
    have a3 := c8 3 _ rfl
    have a4 := c8 4 _ rfl
    have a5 := c8 5 _ rfl
    have a6 := c8 6 _ rfl
    clear c8
    go_wp2_with fail
    refine bodyPost_ret (v := walkV ⟨⟨fk, fl, fw⟩, 0, 0, 0, 0⟩) (by simp [results, Try.results14, go_sem, walkV, *]) rfl ⟨by rw [HF.out], ?_⟩
    repeat' (first | with_reducible exact Below.refl _ _ | with_reducible assumption | with_reducible apply below_drewN | with_reducible apply Below.drew | with_reducible refine Below.setCell ?_ ?_ _ | with_reducible refine Below.alloc ?_ ?_ _ | omega | (simp; done) | (simp; omega))

end Go.Proofs.Ytogoclcjkekplaa
