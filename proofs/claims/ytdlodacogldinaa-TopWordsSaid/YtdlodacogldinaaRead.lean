/- The reader of a text's parts: its state; contracts of next, must, may. -/
import Derived.Test.YtdlodacogldinaaWordsc
namespace Go.Proofs.Ytdlodacogldinaa
open Go.RowKit
set_option linter.unusedSimpArgs false
set_option linter.unusedVariables false

/-- All but block B is as it was. -/
structure Ex (B : Nat) (w w' : World) : Prop where
  os : w'.os = w.os
  tape : w'.tape = w.tape
  output : w'.output = w.output
  size : w.heap.size ≤ w'.heap.size
  block : ∀ k, k < w.heap.size → k ≠ B → w'.heap[k]? = w.heap[k]?
theorem Ex.refl (B : Nat) (w : World) : Ex B w w := ⟨rfl, rfl, rfl, Nat.le_refl _, fun _ _ _ => rfl⟩
theorem Ex.trans {B : Nat} {a b c : World} (h : Ex B a b) (k : Ex B b c) : Ex B a c :=
  ⟨k.os.trans h.os, k.tape.trans h.tape, k.output.trans h.output, Nat.le_trans h.size k.size, fun i hi hn => (k.block i (Nat.lt_of_lt_of_le hi h.size) hn).trans (h.block i hi hn)⟩
theorem Ex.of_below {B : Nat} {w w' : World} (h : Below w.heap.size w w') : Ex B w w' := ⟨h.os, h.tape, h.output, h.size, fun k hk _ => h.block k hk⟩
theorem Ex.below {B n : Nat} {w w' : World} (h : Ex B w w') (h1 : n ≤ B) (h2 : n ≤ w.heap.size) : Below n w w' :=
  ⟨h.os, h.tape, h.output, h.size, fun k hk => h.block k (by omega) (by omega)⟩
theorem Ex.setB {B o : Nat} {w w' : World} (h : Ex B w w') (v : Value) : Ex B w (w'.setCell ⟨B, o, none⟩ v) := by
  refine ⟨h.os, h.tape, h.output, by simpa using h.size, fun k hk hn => ?_⟩
  rw [← h.block k hk hn]
  simp only [World.setCell, Array.getElem?_modify, if_neg (Ne.symm hn)]
/-- Behind whatever was done above. -/
theorem Ex.then {B n : Nat} {a b c : World} (h : Ex B a b) (k : Below n b c) (hn : a.heap.size ≤ n) : Ex B a c :=
  ⟨k.os.trans h.os, k.tape.trans h.tape, k.output.trans h.output, Nat.le_trans h.size k.size, fun i hi hb => (k.block i (by omega)).trans (h.block i hi hb)⟩

/-- The reader at block B: these parts are left; no fault. -/
def Rd (w : World) (B : Nat) (ws : List (List UInt8)) : Prop :=
  ∃ g o c, w.heap[B]? = some (.cells #[.slice (some ⟨g, o, none⟩) ws.length c, .bool false] 49) ∧ g < B ∧ g < w.heap.size ∧ ws.length ≤ c ∧ c ≤ maxLen ∧
    ∀ (i : Nat) (h : i < ws.length), w.cell? ⟨g, o + i, none⟩ = some (.string ⟨(ws[i]).toArray⟩)
theorem cell_eq {w w' : World} {g o : Nat} (h : w'.heap[g]? = w.heap[g]?) : w'.cell? ⟨g, o, none⟩ = w.cell? ⟨g, o, none⟩ := by
  simp only [World.cell?, h]
theorem Rd.ex {w w' : World} {B n : Nat} {ws : List (List UInt8)} (h : Rd w B ws) (hb : Below n w w') (hn : w.heap.size ≤ n) : Rd w' B ws := by
  obtain ⟨g, o, c, h1, h2, h3, h4, h5, h6⟩ := h
  have hB := (Array.getElem?_eq_some_iff.1 h1).1
  exact ⟨g, o, c, (hb.block B (by omega)).trans h1, h2, Nat.lt_of_lt_of_le h3 hb.size, h4, h5, fun i hi => (cell_eq (hb.block g (by omega))).trans (h6 i hi)⟩

theorem set_other {w : World} {B g o : Nat} {u : Value} (h : g ≠ B) : (w.setCell ⟨B, o, none⟩ u).heap[g]? = w.heap[g]? := by
  simp only [World.setCell, Array.getElem?_modify, if_neg (Ne.symm h)]
theorem Rd.of_set {w : World} {B g o o' c c' m : Nat} {s : List UInt8} {ws : List (List UInt8)} (h1 : w.heap[B]? = some (.cells #[.slice (some ⟨g, o, none⟩) (s :: ws).length c, .bool false] 49)) (h2 : g < B) (h3 : g < w.heap.size)
    (h6 : ∀ (i : Nat) (h : i < (s :: ws).length), w.cell? ⟨g, o + i, none⟩ = some (.string ⟨((s :: ws)[i]).toArray⟩)) (hm : m = ws.length) (hc : m ≤ c') (hc2 : c' ≤ maxLen) (ho : o' = o + 1 ∨ m = 0) :
    Rd (w.setCell ⟨B, 0, none⟩ (.slice (some ⟨g, o', none⟩) m c')) B ws := by
  subst hm
  refine ⟨g, o', c', block_set h1 rfl, h2, by simpa using h3, hc, hc2, fun i hi => ?_⟩
  rw [cell_eq (set_other (Nat.ne_of_lt h2))]
  rcases ho with rfl | h0
  · have := h6 (i + 1) (by simp; omega)
    rw [show o + 1 + i = o + (i + 1) by omega]
    simpa using this
  · omega

theorem Rd.bad {w : World} {B : Nat} {ws : List (List UInt8)} (h : Rd w B ws) : Rd (w.setCell ⟨B, 1, none⟩ (.bool false)) B ws := by
  obtain ⟨g, o, c, h1, h2, h3, h4, h5, h6⟩ := h
  exact ⟨g, o, c, block_set h1 rfl, h2, by simpa using h3, h4, h5, fun i hi => (cell_eq (set_other (Nat.ne_of_lt h2))).trans (h6 i hi)⟩
theorem Rd.put {w : World} {B b o : Nat} {v : Value} {ws : List (List UInt8)} (h : Rd w B ws) (hb : B < b) : Rd (w.setCell ⟨b, o, none⟩ v) B ws := by
  obtain ⟨g, o', c, h1, h2, h3, h4, h5, h6⟩ := h
  exact ⟨g, o', c, (set_other (Nat.ne_of_lt hb)).trans h1, h2, by simpa using h3, h4, h5, fun i hi => (cell_eq (set_other (by omega))).trans (h6 i hi)⟩
theorem Ex.put {B b o : Nat} {w w' : World} (h : Ex B w w') (hb : w.heap.size ≤ b) (v : Value) : Ex B w (w'.setCell ⟨b, o, none⟩ v) :=
  ⟨h.os, h.tape, h.output, by simpa using h.size, fun k hk hn => (set_other (by omega)).trans (h.block k hk hn)⟩
theorem Rd.new {w : World} {B : Nat} {ws : List (List UInt8)} (h : Rd w B ws) (o : Obj) : Rd (w.alloc o) B ws := h.ex ((Below.refl _ _).alloc (Nat.le_refl _) o) (Nat.le_refl _)
theorem Ex.new {B : Nat} {w w' : World} (h : Ex B w w') (o : Obj) : Ex B w (w'.alloc o) := h.trans (Ex.of_below ((Below.refl _ _).alloc (Nat.le_refl _) o))
theorem Rd.at {w : World} {B : Nat} {ws : List (List UInt8)} (h : Rd w B ws) : w.cell? ⟨B, 1, none⟩ = some (.bool false) ∧ (∀ o, w.frozen? ⟨B, o, none⟩ = false) ∧ B < w.heap.size ∧ B ≠ w.heap.size := by
  obtain ⟨g, o, c, h1, _⟩ := h
  obtain ⟨c1, f1, l1, n1⟩ := block_cells h1
  exact ⟨c1 1 _ rfl, f1, l1, n1⟩

/-- A part is read, this is left. -/
def RetR (B : Nat) (v : Value) (ws : List (List UInt8)) (w : World) (e : Ending) (w' : World) : Prop := e = .returned v ∧ Rd w' B ws ∧ Ex B w w'

set_option maxHeartbeats 2000000 in
theorem next_any (B : Nat) (s : List UInt8) (ws : List (List UInt8)) (w : World) (h : Rd w B (s :: ws)) : Calls Try.prog 38 #[(.pointer (some ⟨B, 0, none⟩))] w (RetR B (.string ⟨(s).toArray⟩) ws w) := by
  obtain ⟨g, o, c, h1, h2, h3, h4, h5, h6⟩ := h
  have HC := Lib.hid h6
  have h0 := h6 0 (by simp)
  simp only [List.getElem_cons_zero, Nat.add_zero] at h0
  have H1 := Lib.hid h1
  obtain ⟨c1, f1, l1, n1⟩ := block_cells h1
  have d0 : w.cell? ⟨B, 0, none⟩ = some (.slice (some ⟨g, o, none⟩) (ws.length + 1) c) := c1 0 _ rfl
  have d1 : w.cell? ⟨B, 1, none⟩ = some (.bool false) := c1 1 _ rfl
  unfold maxLen at h5
  simp only [List.length_cons] at h4
  obtain ⟨m, hm⟩ : ∃ m, m = ws.length := ⟨_, rfl⟩
  have HM := Lib.hid hm
  rw [← hm] at d0 h4
  have hc0 : (1 : Int) ≤ (m : Int) + 1 := by omega
  have hc1 : 1 ≤ c := by omega
  have hne : ¬ (m : Int) + 1 = 0 := by omega
  clear h1 h6 c1 hm
  go_enter Try.func38, Try.ntmps38
  go_wp2_with fail
  · go_ret
    exact ⟨rfl, Rd.of_set H1.out h2 h3 HC.out HM.out (by omega) (by unfold maxLen; omega) (.inr (by omega)), (Ex.refl _ _).setB _⟩
  · go_ret
    exact ⟨rfl, Rd.of_set H1.out h2 h3 HC.out HM.out (by omega) (by unfold maxLen; omega) (.inl rfl), (Ex.refl _ _).setB _⟩

set_option maxHeartbeats 2000000 in
theorem must_any (B : Nat) (s : List UInt8) (ws : List (List UInt8)) (w : World) (h : Rd w B (s :: ws)) : Calls Try.prog 44 #[(.pointer (some ⟨B, 0, none⟩)), (.string ⟨(s).toArray⟩)] w (RetR B (.tuple #[]) ws w) := by
  have c1 : Hid (Calls Try.prog 38 #[(.pointer (some ⟨B, 0, none⟩))] w (RetR B (.string ⟨(s).toArray⟩) ws w)) := Lib.hid (next_any B s ws w h)
  go_enter Try.func44, Try.ntmps44
  go_wp2_with fail
  refine c1.out.mono ?_
  rintro e w1 ⟨rfl, hr, hx⟩
  have R1 := Lib.hid hr
  have X1 := Lib.hid hx
  clear hr hx
  go_wp2_with fail
  refine bodyPost_end (v := .tuple #[]) (by simp [results, Try.results44, go_sem, *]) rfl ?_
  exact ⟨rfl, R1.out, X1.out⟩

set_option maxHeartbeats 2000000 in
theorem may_none (B : Nat) (s : List UInt8) (w : World) (h : Rd w B []) : Calls Try.prog 58 #[(.pointer (some ⟨B, 0, none⟩)), (.string ⟨(s).toArray⟩)] w (RetR B (.bool false) [] w) := by
  have H := Lib.hid h
  obtain ⟨g, o, c, h1, h2, h3, h4, h5, h6⟩ := h
  obtain ⟨c1, f1, l1, n1⟩ := block_cells h1
  have d0 : w.cell? ⟨B, 0, none⟩ = some (.slice (some ⟨g, o, none⟩) 0 c) := c1 0 _ rfl
  clear h1 h6 c1 h4 h5
  go_enter Try.func58, Try.ntmps58
  go_wp2_with fail
  go_ret
  exact ⟨rfl, H.out, Ex.refl _ _⟩

set_option maxHeartbeats 2000000 in
theorem may_no (B : Nat) (s t : List UInt8) (ws : List (List UInt8)) (w : World) (h : Rd w B (t :: ws)) (hne : ¬ t = s) : Calls Try.prog 58 #[(.pointer (some ⟨B, 0, none⟩)), (.string ⟨(s).toArray⟩)] w (RetR B (.bool false) (t :: ws) w) := by
  have H := Lib.hid h
  obtain ⟨g, o, c, h1, h2, h3, h4, h5, h6⟩ := h
  have h0 := h6 0 (by simp)
  simp only [List.getElem_cons_zero, Nat.add_zero] at h0
  obtain ⟨c1, f1, l1, n1⟩ := block_cells h1
  have d0 : w.cell? ⟨B, 0, none⟩ = some (.slice (some ⟨g, o, none⟩) (ws.length + 1) c) := c1 0 _ rfl
  simp only [List.length_cons] at h4
  obtain ⟨m, hm⟩ : ∃ m, m = ws.length := ⟨_, rfl⟩
  rw [← hm] at d0 h4
  have hn0 : ¬ (m : Int) + 1 = 0 := by omega
  have hb : (t == s) = false := by simpa using hne
  have hb2 : (!(t == s)) = true := by rw [hb]; rfl
  clear h1 h6 c1 hm hne
  go_enter Try.func58, Try.ntmps58
  go_wp2_with fail
  go_ret
  exact ⟨rfl, H.out, Ex.refl _ _⟩

set_option maxHeartbeats 2000000 in
theorem may_yes (B : Nat) (s : List UInt8) (ws : List (List UInt8)) (w : World) (h : Rd w B (s :: ws)) : Calls Try.prog 58 #[(.pointer (some ⟨B, 0, none⟩)), (.string ⟨(s).toArray⟩)] w (RetR B (.bool true) ws w) := by
  obtain ⟨g, o, c, h1, h2, h3, h4, h5, h6⟩ := h
  have HC := Lib.hid h6
  have h0 := h6 0 (by simp)
  simp only [List.getElem_cons_zero, Nat.add_zero] at h0
  have H1 := Lib.hid h1
  obtain ⟨c1, f1, l1, n1⟩ := block_cells h1
  have d0 : w.cell? ⟨B, 0, none⟩ = some (.slice (some ⟨g, o, none⟩) (ws.length + 1) c) := c1 0 _ rfl
  unfold maxLen at h5
  simp only [List.length_cons] at h4
  obtain ⟨m, hm⟩ : ∃ m, m = ws.length := ⟨_, rfl⟩
  have HM := Lib.hid hm
  rw [← hm] at d0 h4
  have hc0 : (1 : Int) ≤ (m : Int) + 1 := by omega
  have hc1 : 1 ≤ c := by omega
  have hne : ¬ (m : Int) + 1 = 0 := by omega
  clear h1 h6 c1 hm
  go_enter Try.func58, Try.ntmps58
  go_wp2_with fail
  · go_ret
    exact ⟨rfl, Rd.of_set H1.out h2 h3 HC.out HM.out (by omega) (by unfold maxLen; omega) (.inr (by omega)), (Ex.refl _ _).setB _⟩
  · go_ret
    exact ⟨rfl, Rd.of_set H1.out h2 h3 HC.out HM.out (by omega) (by unfold maxLen; omega) (.inl rfl), (Ex.refl _ _).setB _⟩

end Go.Proofs.Ytdlodacogldinaa
