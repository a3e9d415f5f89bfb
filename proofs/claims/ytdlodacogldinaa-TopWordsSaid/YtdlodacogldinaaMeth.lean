/- Contracts of the reader's place, memory, move, add, three, test, flush. (Written by gen_meth.py.) -/
import Derived.Test.YtdlodacogldinaaKindt
import Derived.Test.YtdlodacogldinaaIsab
namespace Go.Proofs.Ytdlodacogldinaa
open Go.RowKit
set_option linter.unusedSimpArgs false
set_option linter.unusedVariables false

theorem countI_any (B : Nat) (i : Int) (hi : 0 ≤ i ∧ i ≤ 1000000000) (ws : List (List UInt8)) (w : World) (h : Rd w B ((35 :: intL i) :: ws)) : Calls Try.prog 57 #[(.pointer (some ⟨B, 0, none⟩))] w (RetR B (.int .i64 i) ws w) := by
  have e : intL i = decL i.natAbs := by unfold intL; rw [if_neg (by omega)]
  rw [e] at h
  have := count_any B i.natAbs (by omega) ws w h
  rw [show ((i.natAbs : Nat) : Int) = i by omega] at this
  exact this
theorem six_stores {w : World} {B : Nat} {x0 x1 x2 x3 x4 x5 v0 v1 v2 v3 v4 v5 : Value} {T : TypeId} (h : w.heap[B]? = some (.cells #[x0, x1, x2, x3, x4, x5] T)) :
    ((((((w.setCell ⟨B, 0, none⟩ v0).setCell ⟨B, 1, none⟩ v1).setCell ⟨B, 2, none⟩ v2).setCell ⟨B, 3, none⟩ v3).setCell ⟨B, 4, none⟩ v4).setCell ⟨B, 5, none⟩ v5).heap[B]? = some (.cells #[v0, v1, v2, v3, v4, v5] T) := by
  have h0 : (w.setCell ⟨B, 0, none⟩ v0).heap[B]? = some (.cells #[v0, x1, x2, x3, x4, x5] T) := block_set h rfl
  have h1 : ((w.setCell ⟨B, 0, none⟩ v0).setCell ⟨B, 1, none⟩ v1).heap[B]? = some (.cells #[v0, v1, x2, x3, x4, x5] T) := block_set h0 rfl
  have h2 : (((w.setCell ⟨B, 0, none⟩ v0).setCell ⟨B, 1, none⟩ v1).setCell ⟨B, 2, none⟩ v2).heap[B]? = some (.cells #[v0, v1, v2, x3, x4, x5] T) := block_set h1 rfl
  have h3 : ((((w.setCell ⟨B, 0, none⟩ v0).setCell ⟨B, 1, none⟩ v1).setCell ⟨B, 2, none⟩ v2).setCell ⟨B, 3, none⟩ v3).heap[B]? = some (.cells #[v0, v1, v2, v3, x4, x5] T) := block_set h2 rfl
  have h4 : (((((w.setCell ⟨B, 0, none⟩ v0).setCell ⟨B, 1, none⟩ v1).setCell ⟨B, 2, none⟩ v2).setCell ⟨B, 3, none⟩ v3).setCell ⟨B, 4, none⟩ v4).heap[B]? = some (.cells #[v0, v1, v2, v3, v4, x5] T) := block_set h3 rfl
  exact block_set h4 rfl
theorem bodyPost_cell6 {fn : Func} {R : Ending → World → Prop} {a : Act} {W : World} {A : Nat} {t : Tmp} {v0 v1 v2 v3 v4 v5 : Value} (hr : fn.results = #[.cell t 24]) (ht : a.tmps[t]? = some (.pointer (some ⟨A, 0, none⟩)))
    (hc : W.heap[A]? = some (.cells #[v0, v1, v2, v3, v4, v5] 24)) (hd : a.defers = []) (hR : R (.returned (.agg #[v0, v1, v2, v3, v4, v5])) W) : bodyPost Try.prog fn R .ret a W := by
  obtain ⟨c, f, l, n⟩ := block_cells hc
  have c0 := c 0 _ rfl
  have c1 := c 1 _ rfl
  have c2 := c 2 _ rfl
  have c3 := c 3 _ rfl
  have c4 := c 4 _ rfl
  have c5 := c 5 _ rfl
  refine bodyPost_ret (v := .agg #[v0, v1, v2, v3, v4, v5]) ?_ hd hR
  simp at c0 c1 c2 c3 c4 c5
  simp [results, hr, go_sem, ht, c0, c1, c2, c3, c4, c5]
theorem Rd.head {w : World} {B : Nat} {s : List UInt8} {ws : List (List UInt8)} (h : Rd w B (s :: ws)) : ∃ g o m c, w.cell? ⟨B, 0, none⟩ = some (.slice (some ⟨g, o, none⟩) (m + 1) c) ∧ w.cell? ⟨g, o, none⟩ = some (.string ⟨(s).toArray⟩) := by
  obtain ⟨g, o, c, h1, h2, h3, h4, h5, h6⟩ := h
  have h0 := h6 0 (by simp)
  simp only [List.getElem_cons_zero, Nat.add_zero] at h0
  exact ⟨g, o, ws.length, c, (block_cells h1).1 0 _ rfl, h0⟩
theorem pre_any (s p : List UInt8) (w : World) : Calls Try.prog 59 #[(.string ⟨(s).toArray⟩), (.string ⟨(p).toArray⟩)] w (RetB (.bool (Lib.hasPrefix s p)) w) := by
  have h := lib_strings_HasPrefix ⟨s.toArray⟩ ⟨p.toArray⟩ w
  refine h.mono ?_
  rintro e w' ⟨rfl, rfl⟩
  refine ⟨?_, Below.refl _ _⟩
  show Ending.returned (.bool (Lib.hasPrefix s.toArray.toList p.toArray.toList)) = _
  rw [List.toList_toArray, List.toList_toArray]

set_option maxHeartbeats 4000000 in
theorem place0 (B : Nat) (n : Int) (hn : 0 ≤ n ∧ n ≤ 31) (ws : List (List UInt8)) (w : World) (h : Rd w B ([91] :: regL n :: [93] :: ws)) :
    Calls Try.prog 56 #[(.pointer (some ⟨B, 0, none⟩))] w (RetR B (.tuple #[.int .i64 n, .int .i64 0]) ws w) := by
  have RD := Lib.hid h
  have hBw := h.at.2.2.1
  have XX := Lib.hid (Ex.refl B w)
  clear h
  go_enter Try.func56, Try.ntmps56
  go_wp2_with fail
  refine (must_any B [91] _ _ RD.out).mono ?_
  rintro e V1 ⟨rfl, hr, hx⟩
  have RD1 := Lib.hid hr
  have XX1 := Lib.hid (XX.out.trans hx)
  have hsz1 := hx.size
  clear hr hx RD XX
  have RD := RD1
  have XX := XX1
  clear RD1 XX1
  clear hsz1
  go_wp2_with fail
  refine (rreg_any B n hn.1 hn.2 _ _ RD.out).mono ?_
  rintro e V2 ⟨rfl, hr, hx⟩
  have RD2 := Lib.hid hr
  have XX2 := Lib.hid (XX.out.trans hx)
  have hsz2 := hx.size
  clear hr hx RD XX
  have RD := RD2
  have XX := XX2
  clear RD2 XX2
  clear hsz2
  go_wp2_with fail
  refine ((fun V hV => may_no B [44] [93] _ V hV (by decide)) _ RD.out).mono ?_
  rintro e V3 ⟨rfl, hr, hx⟩
  have RD3 := Lib.hid hr
  have XX3 := Lib.hid (XX.out.trans hx)
  have hsz3 := hx.size
  clear hr hx RD XX
  have RD := RD3
  have XX := XX3
  clear RD3 XX3
  clear hsz3
  go_wp2_with fail
  refine (must_any B [93] _ _ RD.out).mono ?_
  rintro e V4 ⟨rfl, hr, hx⟩
  have RD4 := Lib.hid hr
  have XX4 := Lib.hid (XX.out.trans hx)
  have hsz4 := hx.size
  clear hr hx RD XX
  have RD := RD4
  have XX := XX4
  clear RD4 XX4
  clear hsz4
  go_wp2_with fail
  go_ret2
  exact ⟨rfl, RD.out, XX.out⟩

set_option maxHeartbeats 4000000 in
theorem place1 (B : Nat) (n imm : Int) (hn : 0 ≤ n ∧ n ≤ 31) (hi : 0 ≤ imm ∧ imm ≤ 1000000000) (ws : List (List UInt8)) (w : World) (h : Rd w B ([91] :: regL n :: [44] :: (35 :: intL imm) :: [93] :: ws)) :
    Calls Try.prog 56 #[(.pointer (some ⟨B, 0, none⟩))] w (RetR B (.tuple #[.int .i64 n, .int .i64 imm]) ws w) := by
  have RD := Lib.hid h
  have hBw := h.at.2.2.1
  have XX := Lib.hid (Ex.refl B w)
  clear h
  go_enter Try.func56, Try.ntmps56
  go_wp2_with fail
  refine (must_any B [91] _ _ RD.out).mono ?_
  rintro e V1 ⟨rfl, hr, hx⟩
  have RD1 := Lib.hid hr
  have XX1 := Lib.hid (XX.out.trans hx)
  have hsz1 := hx.size
  clear hr hx RD XX
  have RD := RD1
  have XX := XX1
  clear RD1 XX1
  clear hsz1
  go_wp2_with fail
  refine (rreg_any B n hn.1 hn.2 _ _ RD.out).mono ?_
  rintro e V2 ⟨rfl, hr, hx⟩
  have RD2 := Lib.hid hr
  have XX2 := Lib.hid (XX.out.trans hx)
  have hsz2 := hx.size
  clear hr hx RD XX
  have RD := RD2
  have XX := XX2
  clear RD2 XX2
  clear hsz2
  go_wp2_with fail
  refine (may_yes B [44] _ _ RD.out).mono ?_
  rintro e V3 ⟨rfl, hr, hx⟩
  have RD3 := Lib.hid hr
  have XX3 := Lib.hid (XX.out.trans hx)
  have hsz3 := hx.size
  clear hr hx RD XX
  have RD := RD3
  have XX := XX3
  clear RD3 XX3
  clear hsz3
  go_wp2_with fail
  refine (countI_any B imm hi _ _ RD.out).mono ?_
  rintro e V4 ⟨rfl, hr, hx⟩
  have RD4 := Lib.hid hr
  have XX4 := Lib.hid (XX.out.trans hx)
  have hsz4 := hx.size
  clear hr hx RD XX
  have RD := RD4
  have XX := XX4
  clear RD4 XX4
  clear hsz4
  go_wp2_with fail
  refine (must_any B [93] _ _ RD.out).mono ?_
  rintro e V5 ⟨rfl, hr, hx⟩
  have RD5 := Lib.hid hr
  have XX5 := Lib.hid (XX.out.trans hx)
  have hsz5 := hx.size
  clear hr hx RD XX
  have RD := RD5
  have XX := XX5
  clear RD5 XX5
  clear hsz5
  go_wp2_with fail
  go_ret2
  exact ⟨rfl, RD.out, XX.out⟩

set_option maxHeartbeats 4000000 in
theorem memory0 (B : Nat) (op d n : Int) (hd : 0 ≤ d ∧ d ≤ 31) (hn : 0 ≤ n ∧ n ≤ 31) (ws : List (List UInt8)) (w : World) (h : Rd w B (regL d :: [44] :: [91] :: regL n :: [93] :: ws)) :
    Calls Try.prog 39 #[(.pointer (some ⟨B, 0, none⟩)), .int .i64 op] w (RetR B (.agg #[.int .i64 op, .int .i64 d, .int .i64 n, .int .i64 0, .int .i64 0, .int .i64 0]) ws w) := by
  have RD := Lib.hid h
  have hBw := h.at.2.2.1
  have XX := Lib.hid (Ex.refl B w)
  clear h
  go_enter Try.func39, Try.ntmps39
  go_wp2_with fail
  obtain ⟨U1, hU⟩ : ∃ U1, U1 = w.alloc (.cells #[.int .i64 0, .int .i64 0, .int .i64 0, .int .i64 0, .int .i64 0, .int .i64 0] 24) := ⟨_, rfl⟩
  have hnA : U1.heap[w.heap.size]? = some (.cells #[.int .i64 0, .int .i64 0, .int .i64 0, .int .i64 0, .int .i64 0, .int .i64 0] 24) := by first | (rw [hU]; exact heap_new _ _ _ rfl) | rw [hU]
  have RD1 : Hid (Rd U1 B _) := Lib.hid (by rw [hU]; exact RD.out.new _)
  have XX1 : Hid (Ex B w U1) := Lib.hid (by rw [hU]; exact XX.out.new _)
  have hs1 : U1.heap.size = w.heap.size + 1 := by rw [hU]; simp
  rw [← hU]
  clear hU RD XX
  have RD := RD1
  have XX := XX1
  clear RD1 XX1
  have GA := Lib.hid hnA
  have hBa : B < w.heap.size := hBw
  have hla : w.heap.size < U1.heap.size := by omega
  clear hnA hs1
  refine (rreg_any B d hd.1 hd.2 _ _ RD.out).mono ?_
  rintro e V2 ⟨rfl, hr, hx⟩
  have RD2 := Lib.hid hr
  have XX2 := Lib.hid (XX.out.trans hx)
  have hsz2 := hx.size
  have ga := (hx.block w.heap.size hla (by omega)).trans GA.out
  clear hr hx RD XX
  have RD := RD2
  have XX := XX2
  clear RD2 XX2
  have hla2 : w.heap.size < V2.heap.size := by omega
  try clear hla
  have hla := hla2
  clear hla2 GA
  have GA := Lib.hid ga
  try clear f1 l1 n1 z0 z1 z2 z3 z4 z5
  obtain ⟨c1, f1, l1, n1⟩ := block_cells ga
  have z0 := c1 0 _ rfl
  have z1 := c1 1 _ rfl
  have z2 := c1 2 _ rfl
  have z3 := c1 3 _ rfl
  have z4 := c1 4 _ rfl
  have z5 := c1 5 _ rfl
  clear c1 ga
  clear hsz2
  go_wp2_with fail
  try clear f1 l1 n1 z0 z1 z2 z3 z4 z5
  obtain ⟨U3, hU⟩ : ∃ U3, U3 = V2.alloc (.cells #[.int .i64 op, .int .i64 d, .int .i64 0, .int .i64 0, .int .i64 0, .int .i64 0] 24) := ⟨_, rfl⟩
  have hnC : U3.heap[V2.heap.size]? = some (.cells #[.int .i64 op, .int .i64 d, .int .i64 0, .int .i64 0, .int .i64 0, .int .i64 0] 24) := by first | (rw [hU]; exact heap_new _ _ _ rfl) | rw [hU]
  have RD3 : Hid (Rd U3 B _) := Lib.hid (by rw [hU]; exact RD.out.new _)
  have XX3 : Hid (Ex B w U3) := Lib.hid (by rw [hU]; exact XX.out.new _)
  have hs3 : U3.heap.size = V2.heap.size + 1 := by rw [hU]; simp
  have GA3 : Hid (U3.heap[w.heap.size]? = some (.cells #[.int .i64 0, .int .i64 0, .int .i64 0, .int .i64 0, .int .i64 0, .int .i64 0] 24)) := Lib.hid (by rw [hU]; exact heap_old _ _ _ _ GA.out)
  rw [← hU]
  clear hU RD XX
  have RD := RD3
  have XX := XX3
  clear RD3 XX3
  clear GA
  have GA := GA3
  clear GA3
  have GC := Lib.hid hnC
  obtain ⟨b, hb⟩ : ∃ b, b = V2.heap.size := ⟨_, rfl⟩
  rw [← hb] at GC hnC hs3 ⊢
  have hBb : B < b := by have := XX.out.size; omega
  have hwb : w.heap.size ≤ b := by omega
  have hlb : b < U3.heap.size := by omega
  have hla : w.heap.size < U3.heap.size := by omega
  have hab : ¬ w.heap.size = b := by omega
  have hba : ¬ b = w.heap.size := by omega
  clear hb hnC hs3
  refine (must_any B [44] _ _ RD.out).mono ?_
  rintro e V4 ⟨rfl, hr, hx⟩
  have RD4 := Lib.hid hr
  have XX4 := Lib.hid (XX.out.trans hx)
  have hsz4 := hx.size
  have ga := (hx.block w.heap.size hla (by omega)).trans GA.out
  have gc := (hx.block b hlb (by omega)).trans GC.out
  clear hr hx RD XX
  have RD := RD4
  have XX := XX4
  clear RD4 XX4
  have hla4 : w.heap.size < V4.heap.size := by omega
  try clear hla
  have hla := hla4
  clear hla4 GA
  have GA := Lib.hid ga
  try clear f1 l1 n1 z0 z1 z2 z3 z4 z5
  obtain ⟨c1, f1, l1, n1⟩ := block_cells ga
  have z0 := c1 0 _ rfl
  have z1 := c1 1 _ rfl
  have z2 := c1 2 _ rfl
  have z3 := c1 3 _ rfl
  have z4 := c1 4 _ rfl
  have z5 := c1 5 _ rfl
  clear c1 ga
  have hlb4 : b < V4.heap.size := by omega
  clear hlb GC
  have hlb := hlb4
  clear hlb4
  have GC := Lib.hid gc
  try clear f2 l2 n2 y0 y1 y2 y3 y4 y5
  obtain ⟨c2, f2, l2, n2⟩ := block_cells gc
  have y0 := c2 0 _ rfl
  have y1 := c2 1 _ rfl
  have y2 := c2 2 _ rfl
  have y3 := c2 3 _ rfl
  have y4 := c2 4 _ rfl
  have y5 := c2 5 _ rfl
  clear c2 gc
  clear hsz4
  go_wp2_with fail
  refine (place0 B n hn _ _ RD.out).mono ?_
  rintro e V5 ⟨rfl, hr, hx⟩
  have RD5 := Lib.hid hr
  have XX5 := Lib.hid (XX.out.trans hx)
  have hsz5 := hx.size
  have ga := (hx.block w.heap.size hla (by omega)).trans GA.out
  have gc := (hx.block b hlb (by omega)).trans GC.out
  clear hr hx RD XX
  have RD := RD5
  have XX := XX5
  clear RD5 XX5
  have hla5 : w.heap.size < V5.heap.size := by omega
  try clear hla
  have hla := hla5
  clear hla5 GA
  have GA := Lib.hid ga
  try clear f1 l1 n1 z0 z1 z2 z3 z4 z5
  obtain ⟨c1, f1, l1, n1⟩ := block_cells ga
  have z0 := c1 0 _ rfl
  have z1 := c1 1 _ rfl
  have z2 := c1 2 _ rfl
  have z3 := c1 3 _ rfl
  have z4 := c1 4 _ rfl
  have z5 := c1 5 _ rfl
  clear c1 ga
  have hlb5 : b < V5.heap.size := by omega
  clear hlb GC
  have hlb := hlb5
  clear hlb5
  have GC := Lib.hid gc
  try clear f2 l2 n2 y0 y1 y2 y3 y4 y5
  obtain ⟨c2, f2, l2, n2⟩ := block_cells gc
  have y0 := c2 0 _ rfl
  have y1 := c2 1 _ rfl
  have y2 := c2 2 _ rfl
  have y3 := c2 3 _ rfl
  have y4 := c2 4 _ rfl
  have y5 := c2 5 _ rfl
  clear c2 gc
  clear hsz5
  go_wp2_with fail
  refine bodyPost_cell6 (A := w.heap.size) (t := 4) (v0 := .int .i64 op) (v1 := .int .i64 d) (v2 := .int .i64 n) (v3 := .int .i64 0) (v4 := .int .i64 0) (v5 := .int .i64 0) Try.results39 rfl ?_ rfl ?_
  · refine six_stores (x0 := .int .i64 0) (x1 := .int .i64 0) (x2 := .int .i64 0) (x3 := .int .i64 0) (x4 := .int .i64 0) (x5 := .int .i64 0) ?_
    repeat' (with_reducible first | exact GA.out | exact hba | exact hBA | refine block_else ?_ ?_)
  refine ⟨rfl, ?_, ?_⟩
  · repeat' (with_reducible first | exact RD.out | exact hBw | exact hBb | refine Rd.bad ?_ | refine Rd.put ?_ ?_)
  · repeat' (with_reducible first | exact XX.out | exact Nat.le_refl _ | exact hwb | refine Ex.setB ?_ _ | refine Ex.put ?_ ?_ _)

set_option maxHeartbeats 4000000 in
theorem memory1 (B : Nat) (op d n imm : Int) (hd : 0 ≤ d ∧ d ≤ 31) (hn : 0 ≤ n ∧ n ≤ 31) (hi : 0 ≤ imm ∧ imm ≤ 1000000000) (ws : List (List UInt8)) (w : World) (h : Rd w B (regL d :: [44] :: [91] :: regL n :: [44] :: (35 :: intL imm) :: [93] :: ws)) :
    Calls Try.prog 39 #[(.pointer (some ⟨B, 0, none⟩)), .int .i64 op] w (RetR B (.agg #[.int .i64 op, .int .i64 d, .int .i64 n, .int .i64 0, .int .i64 imm, .int .i64 0]) ws w) := by
  have RD := Lib.hid h
  have hBw := h.at.2.2.1
  have XX := Lib.hid (Ex.refl B w)
  clear h
  go_enter Try.func39, Try.ntmps39
  go_wp2_with fail
  obtain ⟨U1, hU⟩ : ∃ U1, U1 = w.alloc (.cells #[.int .i64 0, .int .i64 0, .int .i64 0, .int .i64 0, .int .i64 0, .int .i64 0] 24) := ⟨_, rfl⟩
  have hnA : U1.heap[w.heap.size]? = some (.cells #[.int .i64 0, .int .i64 0, .int .i64 0, .int .i64 0, .int .i64 0, .int .i64 0] 24) := by first | (rw [hU]; exact heap_new _ _ _ rfl) | rw [hU]
  have RD1 : Hid (Rd U1 B _) := Lib.hid (by rw [hU]; exact RD.out.new _)
  have XX1 : Hid (Ex B w U1) := Lib.hid (by rw [hU]; exact XX.out.new _)
  have hs1 : U1.heap.size = w.heap.size + 1 := by rw [hU]; simp
  rw [← hU]
  clear hU RD XX
  have RD := RD1
  have XX := XX1
  clear RD1 XX1
  have GA := Lib.hid hnA
  have hBa : B < w.heap.size := hBw
  have hla : w.heap.size < U1.heap.size := by omega
  clear hnA hs1
  refine (rreg_any B d hd.1 hd.2 _ _ RD.out).mono ?_
  rintro e V2 ⟨rfl, hr, hx⟩
  have RD2 := Lib.hid hr
  have XX2 := Lib.hid (XX.out.trans hx)
  have hsz2 := hx.size
  have ga := (hx.block w.heap.size hla (by omega)).trans GA.out
  clear hr hx RD XX
  have RD := RD2
  have XX := XX2
  clear RD2 XX2
  have hla2 : w.heap.size < V2.heap.size := by omega
  try clear hla
  have hla := hla2
  clear hla2 GA
  have GA := Lib.hid ga
  try clear f1 l1 n1 z0 z1 z2 z3 z4 z5
  obtain ⟨c1, f1, l1, n1⟩ := block_cells ga
  have z0 := c1 0 _ rfl
  have z1 := c1 1 _ rfl
  have z2 := c1 2 _ rfl
  have z3 := c1 3 _ rfl
  have z4 := c1 4 _ rfl
  have z5 := c1 5 _ rfl
  clear c1 ga
  clear hsz2
  go_wp2_with fail
  try clear f1 l1 n1 z0 z1 z2 z3 z4 z5
  obtain ⟨U3, hU⟩ : ∃ U3, U3 = V2.alloc (.cells #[.int .i64 op, .int .i64 d, .int .i64 0, .int .i64 0, .int .i64 0, .int .i64 0] 24) := ⟨_, rfl⟩
  have hnC : U3.heap[V2.heap.size]? = some (.cells #[.int .i64 op, .int .i64 d, .int .i64 0, .int .i64 0, .int .i64 0, .int .i64 0] 24) := by first | (rw [hU]; exact heap_new _ _ _ rfl) | rw [hU]
  have RD3 : Hid (Rd U3 B _) := Lib.hid (by rw [hU]; exact RD.out.new _)
  have XX3 : Hid (Ex B w U3) := Lib.hid (by rw [hU]; exact XX.out.new _)
  have hs3 : U3.heap.size = V2.heap.size + 1 := by rw [hU]; simp
  have GA3 : Hid (U3.heap[w.heap.size]? = some (.cells #[.int .i64 0, .int .i64 0, .int .i64 0, .int .i64 0, .int .i64 0, .int .i64 0] 24)) := Lib.hid (by rw [hU]; exact heap_old _ _ _ _ GA.out)
  rw [← hU]
  clear hU RD XX
  have RD := RD3
  have XX := XX3
  clear RD3 XX3
  clear GA
  have GA := GA3
  clear GA3
  have GC := Lib.hid hnC
  obtain ⟨b, hb⟩ : ∃ b, b = V2.heap.size := ⟨_, rfl⟩
  rw [← hb] at GC hnC hs3 ⊢
  have hBb : B < b := by have := XX.out.size; omega
  have hwb : w.heap.size ≤ b := by omega
  have hlb : b < U3.heap.size := by omega
  have hla : w.heap.size < U3.heap.size := by omega
  have hab : ¬ w.heap.size = b := by omega
  have hba : ¬ b = w.heap.size := by omega
  clear hb hnC hs3
  refine (must_any B [44] _ _ RD.out).mono ?_
  rintro e V4 ⟨rfl, hr, hx⟩
  have RD4 := Lib.hid hr
  have XX4 := Lib.hid (XX.out.trans hx)
  have hsz4 := hx.size
  have ga := (hx.block w.heap.size hla (by omega)).trans GA.out
  have gc := (hx.block b hlb (by omega)).trans GC.out
  clear hr hx RD XX
  have RD := RD4
  have XX := XX4
  clear RD4 XX4
  have hla4 : w.heap.size < V4.heap.size := by omega
  try clear hla
  have hla := hla4
  clear hla4 GA
  have GA := Lib.hid ga
  try clear f1 l1 n1 z0 z1 z2 z3 z4 z5
  obtain ⟨c1, f1, l1, n1⟩ := block_cells ga
  have z0 := c1 0 _ rfl
  have z1 := c1 1 _ rfl
  have z2 := c1 2 _ rfl
  have z3 := c1 3 _ rfl
  have z4 := c1 4 _ rfl
  have z5 := c1 5 _ rfl
  clear c1 ga
  have hlb4 : b < V4.heap.size := by omega
  clear hlb GC
  have hlb := hlb4
  clear hlb4
  have GC := Lib.hid gc
  try clear f2 l2 n2 y0 y1 y2 y3 y4 y5
  obtain ⟨c2, f2, l2, n2⟩ := block_cells gc
  have y0 := c2 0 _ rfl
  have y1 := c2 1 _ rfl
  have y2 := c2 2 _ rfl
  have y3 := c2 3 _ rfl
  have y4 := c2 4 _ rfl
  have y5 := c2 5 _ rfl
  clear c2 gc
  clear hsz4
  go_wp2_with fail
  refine (place1 B n imm hn hi _ _ RD.out).mono ?_
  rintro e V5 ⟨rfl, hr, hx⟩
  have RD5 := Lib.hid hr
  have XX5 := Lib.hid (XX.out.trans hx)
  have hsz5 := hx.size
  have ga := (hx.block w.heap.size hla (by omega)).trans GA.out
  have gc := (hx.block b hlb (by omega)).trans GC.out
  clear hr hx RD XX
  have RD := RD5
  have XX := XX5
  clear RD5 XX5
  have hla5 : w.heap.size < V5.heap.size := by omega
  try clear hla
  have hla := hla5
  clear hla5 GA
  have GA := Lib.hid ga
  try clear f1 l1 n1 z0 z1 z2 z3 z4 z5
  obtain ⟨c1, f1, l1, n1⟩ := block_cells ga
  have z0 := c1 0 _ rfl
  have z1 := c1 1 _ rfl
  have z2 := c1 2 _ rfl
  have z3 := c1 3 _ rfl
  have z4 := c1 4 _ rfl
  have z5 := c1 5 _ rfl
  clear c1 ga
  have hlb5 : b < V5.heap.size := by omega
  clear hlb GC
  have hlb := hlb5
  clear hlb5
  have GC := Lib.hid gc
  try clear f2 l2 n2 y0 y1 y2 y3 y4 y5
  obtain ⟨c2, f2, l2, n2⟩ := block_cells gc
  have y0 := c2 0 _ rfl
  have y1 := c2 1 _ rfl
  have y2 := c2 2 _ rfl
  have y3 := c2 3 _ rfl
  have y4 := c2 4 _ rfl
  have y5 := c2 5 _ rfl
  clear c2 gc
  clear hsz5
  go_wp2_with fail
  refine bodyPost_cell6 (A := w.heap.size) (t := 4) (v0 := .int .i64 op) (v1 := .int .i64 d) (v2 := .int .i64 n) (v3 := .int .i64 0) (v4 := .int .i64 imm) (v5 := .int .i64 0) Try.results39 rfl ?_ rfl ?_
  · refine six_stores (x0 := .int .i64 0) (x1 := .int .i64 0) (x2 := .int .i64 0) (x3 := .int .i64 0) (x4 := .int .i64 0) (x5 := .int .i64 0) ?_
    repeat' (with_reducible first | exact GA.out | exact hba | exact hBA | refine block_else ?_ ?_)
  refine ⟨rfl, ?_, ?_⟩
  · repeat' (with_reducible first | exact RD.out | exact hBw | exact hBb | refine Rd.bad ?_ | refine Rd.put ?_ ?_)
  · repeat' (with_reducible first | exact XX.out | exact Nat.le_refl _ | exact hwb | refine Ex.setB ?_ _ | refine Ex.put ?_ ?_ _)

set_option maxHeartbeats 4000000 in
theorem rthree_any (B : Nat) (op d n m : Int) (hd : 0 ≤ d ∧ d ≤ 31) (hn : 0 ≤ n ∧ n ≤ 31) (hm : 0 ≤ m ∧ m ≤ 31) (ws : List (List UInt8)) (w : World) (h : Rd w B (regL d :: [44] :: regL n :: [44] :: regL m :: ws)) :
    Calls Try.prog 42 #[(.pointer (some ⟨B, 0, none⟩)), .int .i64 op] w (RetR B (.agg #[.int .i64 op, .int .i64 d, .int .i64 n, .int .i64 m, .int .i64 0, .int .i64 0]) ws w) := by
  have RD := Lib.hid h
  have hBw := h.at.2.2.1
  have XX := Lib.hid (Ex.refl B w)
  clear h
  go_enter Try.func42, Try.ntmps42
  go_wp2_with fail
  obtain ⟨U1, hU⟩ : ∃ U1, U1 = w.alloc (.cells #[.int .i64 0, .int .i64 0, .int .i64 0, .int .i64 0, .int .i64 0, .int .i64 0] 24) := ⟨_, rfl⟩
  have hnA : U1.heap[w.heap.size]? = some (.cells #[.int .i64 0, .int .i64 0, .int .i64 0, .int .i64 0, .int .i64 0, .int .i64 0] 24) := by first | (rw [hU]; exact heap_new _ _ _ rfl) | rw [hU]
  have RD1 : Hid (Rd U1 B _) := Lib.hid (by rw [hU]; exact RD.out.new _)
  have XX1 : Hid (Ex B w U1) := Lib.hid (by rw [hU]; exact XX.out.new _)
  have hs1 : U1.heap.size = w.heap.size + 1 := by rw [hU]; simp
  rw [← hU]
  clear hU RD XX
  have RD := RD1
  have XX := XX1
  clear RD1 XX1
  have GA := Lib.hid hnA
  have hBa : B < w.heap.size := hBw
  have hla : w.heap.size < U1.heap.size := by omega
  clear hnA hs1
  refine (rreg_any B d hd.1 hd.2 _ _ RD.out).mono ?_
  rintro e V2 ⟨rfl, hr, hx⟩
  have RD2 := Lib.hid hr
  have XX2 := Lib.hid (XX.out.trans hx)
  have hsz2 := hx.size
  have ga := (hx.block w.heap.size hla (by omega)).trans GA.out
  clear hr hx RD XX
  have RD := RD2
  have XX := XX2
  clear RD2 XX2
  have hla2 : w.heap.size < V2.heap.size := by omega
  try clear hla
  have hla := hla2
  clear hla2 GA
  have GA := Lib.hid ga
  try clear f1 l1 n1 z0 z1 z2 z3 z4 z5
  obtain ⟨c1, f1, l1, n1⟩ := block_cells ga
  have z0 := c1 0 _ rfl
  have z1 := c1 1 _ rfl
  have z2 := c1 2 _ rfl
  have z3 := c1 3 _ rfl
  have z4 := c1 4 _ rfl
  have z5 := c1 5 _ rfl
  clear c1 ga
  clear hsz2
  go_wp2_with fail
  try clear f1 l1 n1 z0 z1 z2 z3 z4 z5
  obtain ⟨U3, hU⟩ : ∃ U3, U3 = V2.alloc (.cells #[.int .i64 op, .int .i64 d, .int .i64 0, .int .i64 0, .int .i64 0, .int .i64 0] 24) := ⟨_, rfl⟩
  have hnC : U3.heap[V2.heap.size]? = some (.cells #[.int .i64 op, .int .i64 d, .int .i64 0, .int .i64 0, .int .i64 0, .int .i64 0] 24) := by first | (rw [hU]; exact heap_new _ _ _ rfl) | rw [hU]
  have RD3 : Hid (Rd U3 B _) := Lib.hid (by rw [hU]; exact RD.out.new _)
  have XX3 : Hid (Ex B w U3) := Lib.hid (by rw [hU]; exact XX.out.new _)
  have hs3 : U3.heap.size = V2.heap.size + 1 := by rw [hU]; simp
  have GA3 : Hid (U3.heap[w.heap.size]? = some (.cells #[.int .i64 0, .int .i64 0, .int .i64 0, .int .i64 0, .int .i64 0, .int .i64 0] 24)) := Lib.hid (by rw [hU]; exact heap_old _ _ _ _ GA.out)
  rw [← hU]
  clear hU RD XX
  have RD := RD3
  have XX := XX3
  clear RD3 XX3
  clear GA
  have GA := GA3
  clear GA3
  have GC := Lib.hid hnC
  obtain ⟨b, hb⟩ : ∃ b, b = V2.heap.size := ⟨_, rfl⟩
  rw [← hb] at GC hnC hs3 ⊢
  have hBb : B < b := by have := XX.out.size; omega
  have hwb : w.heap.size ≤ b := by omega
  have hlb : b < U3.heap.size := by omega
  have hla : w.heap.size < U3.heap.size := by omega
  have hab : ¬ w.heap.size = b := by omega
  have hba : ¬ b = w.heap.size := by omega
  clear hb hnC hs3
  refine (must_any B [44] _ _ RD.out).mono ?_
  rintro e V4 ⟨rfl, hr, hx⟩
  have RD4 := Lib.hid hr
  have XX4 := Lib.hid (XX.out.trans hx)
  have hsz4 := hx.size
  have ga := (hx.block w.heap.size hla (by omega)).trans GA.out
  have gc := (hx.block b hlb (by omega)).trans GC.out
  clear hr hx RD XX
  have RD := RD4
  have XX := XX4
  clear RD4 XX4
  have hla4 : w.heap.size < V4.heap.size := by omega
  try clear hla
  have hla := hla4
  clear hla4 GA
  have GA := Lib.hid ga
  try clear f1 l1 n1 z0 z1 z2 z3 z4 z5
  obtain ⟨c1, f1, l1, n1⟩ := block_cells ga
  have z0 := c1 0 _ rfl
  have z1 := c1 1 _ rfl
  have z2 := c1 2 _ rfl
  have z3 := c1 3 _ rfl
  have z4 := c1 4 _ rfl
  have z5 := c1 5 _ rfl
  clear c1 ga
  have hlb4 : b < V4.heap.size := by omega
  clear hlb GC
  have hlb := hlb4
  clear hlb4
  have GC := Lib.hid gc
  try clear f2 l2 n2 y0 y1 y2 y3 y4 y5
  obtain ⟨c2, f2, l2, n2⟩ := block_cells gc
  have y0 := c2 0 _ rfl
  have y1 := c2 1 _ rfl
  have y2 := c2 2 _ rfl
  have y3 := c2 3 _ rfl
  have y4 := c2 4 _ rfl
  have y5 := c2 5 _ rfl
  clear c2 gc
  clear hsz4
  go_wp2_with fail
  refine (rreg_any B n hn.1 hn.2 _ _ RD.out).mono ?_
  rintro e V5 ⟨rfl, hr, hx⟩
  have RD5 := Lib.hid hr
  have XX5 := Lib.hid (XX.out.trans hx)
  have hsz5 := hx.size
  have ga := (hx.block w.heap.size hla (by omega)).trans GA.out
  have gc := (hx.block b hlb (by omega)).trans GC.out
  clear hr hx RD XX
  have RD := RD5
  have XX := XX5
  clear RD5 XX5
  have hla5 : w.heap.size < V5.heap.size := by omega
  try clear hla
  have hla := hla5
  clear hla5 GA
  have GA := Lib.hid ga
  try clear f1 l1 n1 z0 z1 z2 z3 z4 z5
  obtain ⟨c1, f1, l1, n1⟩ := block_cells ga
  have z0 := c1 0 _ rfl
  have z1 := c1 1 _ rfl
  have z2 := c1 2 _ rfl
  have z3 := c1 3 _ rfl
  have z4 := c1 4 _ rfl
  have z5 := c1 5 _ rfl
  clear c1 ga
  have hlb5 : b < V5.heap.size := by omega
  clear hlb GC
  have hlb := hlb5
  clear hlb5
  have GC := Lib.hid gc
  try clear f2 l2 n2 y0 y1 y2 y3 y4 y5
  obtain ⟨c2, f2, l2, n2⟩ := block_cells gc
  have y0 := c2 0 _ rfl
  have y1 := c2 1 _ rfl
  have y2 := c2 2 _ rfl
  have y3 := c2 3 _ rfl
  have y4 := c2 4 _ rfl
  have y5 := c2 5 _ rfl
  clear c2 gc
  clear hsz5
  go_wp2_with fail
  try clear f1 l1 n1 z0 z1 z2 z3 z4 z5
  try clear f2 l2 n2 y0 y1 y2 y3 y4 y5
  obtain ⟨W6, hU⟩ : ∃ W6, W6 = V5.setCell ⟨b, 2, none⟩ (.int .i64 n) := ⟨_, rfl⟩
  have GC6 : Hid (W6.heap[b]? = some (.cells #[.int .i64 op, .int .i64 d, .int .i64 n, .int .i64 0, .int .i64 0, .int .i64 0] 24)) := Lib.hid (by rw [hU]; exact block_set GC.out rfl)
  have GA6 : Hid (W6.heap[w.heap.size]? = some (.cells #[.int .i64 0, .int .i64 0, .int .i64 0, .int .i64 0, .int .i64 0, .int .i64 0] 24)) := Lib.hid (by rw [hU]; exact block_else GA.out hba)
  have RD6 : Hid (Rd W6 B _) := Lib.hid (by rw [hU]; exact RD.out.put hBb)
  have XX6 : Hid (Ex B w W6) := Lib.hid (by rw [hU]; exact XX.out.put hwb _)
  have hs6 : W6.heap.size = V5.heap.size := by rw [hU]; simp
  rw [← hU]
  clear hU RD XX GA GC
  have RD := RD6
  have XX := XX6
  have GA := GA6
  have GC := GC6
  clear RD6 XX6 GA6 GC6
  have hlb6 : b < W6.heap.size := by omega
  have hla6 : w.heap.size < W6.heap.size := by omega
  clear hlb hla hs6
  have hlb := hlb6
  have hla := hla6
  clear hlb6 hla6
  refine (must_any B [44] _ _ RD.out).mono ?_
  rintro e V7 ⟨rfl, hr, hx⟩
  have RD7 := Lib.hid hr
  have XX7 := Lib.hid (XX.out.trans hx)
  have hsz7 := hx.size
  have ga := (hx.block w.heap.size hla (by omega)).trans GA.out
  have gc := (hx.block b hlb (by omega)).trans GC.out
  clear hr hx RD XX
  have RD := RD7
  have XX := XX7
  clear RD7 XX7
  have hla7 : w.heap.size < V7.heap.size := by omega
  try clear hla
  have hla := hla7
  clear hla7 GA
  have GA := Lib.hid ga
  try clear f1 l1 n1 z0 z1 z2 z3 z4 z5
  obtain ⟨c1, f1, l1, n1⟩ := block_cells ga
  have z0 := c1 0 _ rfl
  have z1 := c1 1 _ rfl
  have z2 := c1 2 _ rfl
  have z3 := c1 3 _ rfl
  have z4 := c1 4 _ rfl
  have z5 := c1 5 _ rfl
  clear c1 ga
  have hlb7 : b < V7.heap.size := by omega
  clear hlb GC
  have hlb := hlb7
  clear hlb7
  have GC := Lib.hid gc
  try clear f2 l2 n2 y0 y1 y2 y3 y4 y5
  obtain ⟨c2, f2, l2, n2⟩ := block_cells gc
  have y0 := c2 0 _ rfl
  have y1 := c2 1 _ rfl
  have y2 := c2 2 _ rfl
  have y3 := c2 3 _ rfl
  have y4 := c2 4 _ rfl
  have y5 := c2 5 _ rfl
  clear c2 gc
  clear hsz7
  go_wp2_with fail
  refine (rreg_any B m hm.1 hm.2 _ _ RD.out).mono ?_
  rintro e V8 ⟨rfl, hr, hx⟩
  have RD8 := Lib.hid hr
  have XX8 := Lib.hid (XX.out.trans hx)
  have hsz8 := hx.size
  have ga := (hx.block w.heap.size hla (by omega)).trans GA.out
  have gc := (hx.block b hlb (by omega)).trans GC.out
  clear hr hx RD XX
  have RD := RD8
  have XX := XX8
  clear RD8 XX8
  have hla8 : w.heap.size < V8.heap.size := by omega
  try clear hla
  have hla := hla8
  clear hla8 GA
  have GA := Lib.hid ga
  try clear f1 l1 n1 z0 z1 z2 z3 z4 z5
  obtain ⟨c1, f1, l1, n1⟩ := block_cells ga
  have z0 := c1 0 _ rfl
  have z1 := c1 1 _ rfl
  have z2 := c1 2 _ rfl
  have z3 := c1 3 _ rfl
  have z4 := c1 4 _ rfl
  have z5 := c1 5 _ rfl
  clear c1 ga
  have hlb8 : b < V8.heap.size := by omega
  clear hlb GC
  have hlb := hlb8
  clear hlb8
  have GC := Lib.hid gc
  try clear f2 l2 n2 y0 y1 y2 y3 y4 y5
  obtain ⟨c2, f2, l2, n2⟩ := block_cells gc
  have y0 := c2 0 _ rfl
  have y1 := c2 1 _ rfl
  have y2 := c2 2 _ rfl
  have y3 := c2 3 _ rfl
  have y4 := c2 4 _ rfl
  have y5 := c2 5 _ rfl
  clear c2 gc
  clear hsz8
  go_wp2_with fail
  refine bodyPost_cell6 (A := w.heap.size) (t := 4) (v0 := .int .i64 op) (v1 := .int .i64 d) (v2 := .int .i64 n) (v3 := .int .i64 m) (v4 := .int .i64 0) (v5 := .int .i64 0) Try.results42 rfl ?_ rfl ?_
  · refine six_stores (x0 := .int .i64 0) (x1 := .int .i64 0) (x2 := .int .i64 0) (x3 := .int .i64 0) (x4 := .int .i64 0) (x5 := .int .i64 0) ?_
    repeat' (with_reducible first | exact GA.out | exact hba | exact hBA | refine block_else ?_ ?_)
  refine ⟨rfl, ?_, ?_⟩
  · repeat' (with_reducible first | exact RD.out | exact hBw | exact hBb | refine Rd.bad ?_ | refine Rd.put ?_ ?_)
  · repeat' (with_reducible first | exact XX.out | exact Nat.le_refl _ | exact hwb | refine Ex.setB ?_ _ | refine Ex.put ?_ ?_ _)

set_option maxHeartbeats 4000000 in
theorem test_any (B : Nat) (op d imm : Int) (hd : 0 ≤ d ∧ d ≤ 31) (hi : -1000000000 ≤ imm ∧ imm ≤ 1000000000) (ws : List (List UInt8)) (w : World) (h : Rd w B (regL d :: [44] :: targetL imm :: ws)) :
    Calls Try.prog 46 #[(.pointer (some ⟨B, 0, none⟩)), .int .i64 op] w (RetR B (.agg #[.int .i64 op, .int .i64 d, .int .i64 0, .int .i64 0, .int .i64 imm, .int .i64 0]) ws w) := by
  have RD := Lib.hid h
  have hBw := h.at.2.2.1
  have XX := Lib.hid (Ex.refl B w)
  clear h
  go_enter Try.func46, Try.ntmps46
  go_wp2_with fail
  obtain ⟨U1, hU⟩ : ∃ U1, U1 = w.alloc (.cells #[.int .i64 0, .int .i64 0, .int .i64 0, .int .i64 0, .int .i64 0, .int .i64 0] 24) := ⟨_, rfl⟩
  have hnA : U1.heap[w.heap.size]? = some (.cells #[.int .i64 0, .int .i64 0, .int .i64 0, .int .i64 0, .int .i64 0, .int .i64 0] 24) := by first | (rw [hU]; exact heap_new _ _ _ rfl) | rw [hU]
  have RD1 : Hid (Rd U1 B _) := Lib.hid (by rw [hU]; exact RD.out.new _)
  have XX1 : Hid (Ex B w U1) := Lib.hid (by rw [hU]; exact XX.out.new _)
  have hs1 : U1.heap.size = w.heap.size + 1 := by rw [hU]; simp
  rw [← hU]
  clear hU RD XX
  have RD := RD1
  have XX := XX1
  clear RD1 XX1
  have GA := Lib.hid hnA
  have hBa : B < w.heap.size := hBw
  have hla : w.heap.size < U1.heap.size := by omega
  clear hnA hs1
  refine (rreg_any B d hd.1 hd.2 _ _ RD.out).mono ?_
  rintro e V2 ⟨rfl, hr, hx⟩
  have RD2 := Lib.hid hr
  have XX2 := Lib.hid (XX.out.trans hx)
  have hsz2 := hx.size
  have ga := (hx.block w.heap.size hla (by omega)).trans GA.out
  clear hr hx RD XX
  have RD := RD2
  have XX := XX2
  clear RD2 XX2
  have hla2 : w.heap.size < V2.heap.size := by omega
  try clear hla
  have hla := hla2
  clear hla2 GA
  have GA := Lib.hid ga
  try clear f1 l1 n1 z0 z1 z2 z3 z4 z5
  obtain ⟨c1, f1, l1, n1⟩ := block_cells ga
  have z0 := c1 0 _ rfl
  have z1 := c1 1 _ rfl
  have z2 := c1 2 _ rfl
  have z3 := c1 3 _ rfl
  have z4 := c1 4 _ rfl
  have z5 := c1 5 _ rfl
  clear c1 ga
  clear hsz2
  go_wp2_with fail
  try clear f1 l1 n1 z0 z1 z2 z3 z4 z5
  obtain ⟨U3, hU⟩ : ∃ U3, U3 = V2.alloc (.cells #[.int .i64 op, .int .i64 d, .int .i64 0, .int .i64 0, .int .i64 0, .int .i64 0] 24) := ⟨_, rfl⟩
  have hnC : U3.heap[V2.heap.size]? = some (.cells #[.int .i64 op, .int .i64 d, .int .i64 0, .int .i64 0, .int .i64 0, .int .i64 0] 24) := by first | (rw [hU]; exact heap_new _ _ _ rfl) | rw [hU]
  have RD3 : Hid (Rd U3 B _) := Lib.hid (by rw [hU]; exact RD.out.new _)
  have XX3 : Hid (Ex B w U3) := Lib.hid (by rw [hU]; exact XX.out.new _)
  have hs3 : U3.heap.size = V2.heap.size + 1 := by rw [hU]; simp
  have GA3 : Hid (U3.heap[w.heap.size]? = some (.cells #[.int .i64 0, .int .i64 0, .int .i64 0, .int .i64 0, .int .i64 0, .int .i64 0] 24)) := Lib.hid (by rw [hU]; exact heap_old _ _ _ _ GA.out)
  rw [← hU]
  clear hU RD XX
  have RD := RD3
  have XX := XX3
  clear RD3 XX3
  clear GA
  have GA := GA3
  clear GA3
  have GC := Lib.hid hnC
  obtain ⟨b, hb⟩ : ∃ b, b = V2.heap.size := ⟨_, rfl⟩
  rw [← hb] at GC hnC hs3 ⊢
  have hBb : B < b := by have := XX.out.size; omega
  have hwb : w.heap.size ≤ b := by omega
  have hlb : b < U3.heap.size := by omega
  have hla : w.heap.size < U3.heap.size := by omega
  have hab : ¬ w.heap.size = b := by omega
  have hba : ¬ b = w.heap.size := by omega
  clear hb hnC hs3
  refine (must_any B [44] _ _ RD.out).mono ?_
  rintro e V4 ⟨rfl, hr, hx⟩
  have RD4 := Lib.hid hr
  have XX4 := Lib.hid (XX.out.trans hx)
  have hsz4 := hx.size
  have ga := (hx.block w.heap.size hla (by omega)).trans GA.out
  have gc := (hx.block b hlb (by omega)).trans GC.out
  clear hr hx RD XX
  have RD := RD4
  have XX := XX4
  clear RD4 XX4
  have hla4 : w.heap.size < V4.heap.size := by omega
  try clear hla
  have hla := hla4
  clear hla4 GA
  have GA := Lib.hid ga
  try clear f1 l1 n1 z0 z1 z2 z3 z4 z5
  obtain ⟨c1, f1, l1, n1⟩ := block_cells ga
  have z0 := c1 0 _ rfl
  have z1 := c1 1 _ rfl
  have z2 := c1 2 _ rfl
  have z3 := c1 3 _ rfl
  have z4 := c1 4 _ rfl
  have z5 := c1 5 _ rfl
  clear c1 ga
  have hlb4 : b < V4.heap.size := by omega
  clear hlb GC
  have hlb := hlb4
  clear hlb4
  have GC := Lib.hid gc
  try clear f2 l2 n2 y0 y1 y2 y3 y4 y5
  obtain ⟨c2, f2, l2, n2⟩ := block_cells gc
  have y0 := c2 0 _ rfl
  have y1 := c2 1 _ rfl
  have y2 := c2 2 _ rfl
  have y3 := c2 3 _ rfl
  have y4 := c2 4 _ rfl
  have y5 := c2 5 _ rfl
  clear c2 gc
  clear hsz4
  go_wp2_with fail
  refine (branch_any B imm hi.1 hi.2 _ _ RD.out).mono ?_
  rintro e V5 ⟨rfl, hr, hx⟩
  have RD5 := Lib.hid hr
  have XX5 := Lib.hid (XX.out.trans hx)
  have hsz5 := hx.size
  have ga := (hx.block w.heap.size hla (by omega)).trans GA.out
  have gc := (hx.block b hlb (by omega)).trans GC.out
  clear hr hx RD XX
  have RD := RD5
  have XX := XX5
  clear RD5 XX5
  have hla5 : w.heap.size < V5.heap.size := by omega
  try clear hla
  have hla := hla5
  clear hla5 GA
  have GA := Lib.hid ga
  try clear f1 l1 n1 z0 z1 z2 z3 z4 z5
  obtain ⟨c1, f1, l1, n1⟩ := block_cells ga
  have z0 := c1 0 _ rfl
  have z1 := c1 1 _ rfl
  have z2 := c1 2 _ rfl
  have z3 := c1 3 _ rfl
  have z4 := c1 4 _ rfl
  have z5 := c1 5 _ rfl
  clear c1 ga
  have hlb5 : b < V5.heap.size := by omega
  clear hlb GC
  have hlb := hlb5
  clear hlb5
  have GC := Lib.hid gc
  try clear f2 l2 n2 y0 y1 y2 y3 y4 y5
  obtain ⟨c2, f2, l2, n2⟩ := block_cells gc
  have y0 := c2 0 _ rfl
  have y1 := c2 1 _ rfl
  have y2 := c2 2 _ rfl
  have y3 := c2 3 _ rfl
  have y4 := c2 4 _ rfl
  have y5 := c2 5 _ rfl
  clear c2 gc
  clear hsz5
  go_wp2_with fail
  refine bodyPost_cell6 (A := w.heap.size) (t := 4) (v0 := .int .i64 op) (v1 := .int .i64 d) (v2 := .int .i64 0) (v3 := .int .i64 0) (v4 := .int .i64 imm) (v5 := .int .i64 0) Try.results46 rfl ?_ rfl ?_
  · refine six_stores (x0 := .int .i64 0) (x1 := .int .i64 0) (x2 := .int .i64 0) (x3 := .int .i64 0) (x4 := .int .i64 0) (x5 := .int .i64 0) ?_
    repeat' (with_reducible first | exact GA.out | exact hba | exact hBA | refine block_else ?_ ?_)
  refine ⟨rfl, ?_, ?_⟩
  · repeat' (with_reducible first | exact RD.out | exact hBw | exact hBb | refine Rd.bad ?_ | refine Rd.put ?_ ?_)
  · repeat' (with_reducible first | exact XX.out | exact Nat.le_refl _ | exact hwb | refine Ex.setB ?_ _ | refine Ex.put ?_ ?_ _)

set_option maxHeartbeats 4000000 in
theorem move0 (B : Nat) (d imm : Int) (hd : 0 ≤ d ∧ d ≤ 31) (hi : 0 ≤ imm ∧ imm ≤ 1000000000) (w : World) (h : Rd w B (regL d :: [44] :: (35 :: intL imm) :: [])) :
    Calls Try.prog 40 #[(.pointer (some ⟨B, 0, none⟩))] w (RetR B (.agg #[.int .i64 6, .int .i64 d, .int .i64 0, .int .i64 0, .int .i64 imm, .int .i64 0]) [] w) := by
  have RD := Lib.hid h
  have hBw := h.at.2.2.1
  have XX := Lib.hid (Ex.refl B w)
  clear h
  go_enter Try.func40, Try.ntmps40
  go_wp2_with fail
  obtain ⟨U1, hU⟩ : ∃ U1, U1 = w.alloc (.cells #[.int .i64 0, .int .i64 0, .int .i64 0, .int .i64 0, .int .i64 0, .int .i64 0] 24) := ⟨_, rfl⟩
  have hnA : U1.heap[w.heap.size]? = some (.cells #[.int .i64 0, .int .i64 0, .int .i64 0, .int .i64 0, .int .i64 0, .int .i64 0] 24) := by first | (rw [hU]; exact heap_new _ _ _ rfl) | rw [hU]
  have RD1 : Hid (Rd U1 B _) := Lib.hid (by rw [hU]; exact RD.out.new _)
  have XX1 : Hid (Ex B w U1) := Lib.hid (by rw [hU]; exact XX.out.new _)
  have hs1 : U1.heap.size = w.heap.size + 1 := by rw [hU]; simp
  rw [← hU]
  clear hU RD XX
  have RD := RD1
  have XX := XX1
  clear RD1 XX1
  have GA := Lib.hid hnA
  have hBa : B < w.heap.size := hBw
  have hla : w.heap.size < U1.heap.size := by omega
  clear hnA hs1
  refine (rreg_any B d hd.1 hd.2 _ _ RD.out).mono ?_
  rintro e V2 ⟨rfl, hr, hx⟩
  have RD2 := Lib.hid hr
  have XX2 := Lib.hid (XX.out.trans hx)
  have hsz2 := hx.size
  have ga := (hx.block w.heap.size hla (by omega)).trans GA.out
  clear hr hx RD XX
  have RD := RD2
  have XX := XX2
  clear RD2 XX2
  have hla2 : w.heap.size < V2.heap.size := by omega
  try clear hla
  have hla := hla2
  clear hla2 GA
  have GA := Lib.hid ga
  try clear f1 l1 n1 z0 z1 z2 z3 z4 z5
  obtain ⟨c1, f1, l1, n1⟩ := block_cells ga
  have z0 := c1 0 _ rfl
  have z1 := c1 1 _ rfl
  have z2 := c1 2 _ rfl
  have z3 := c1 3 _ rfl
  have z4 := c1 4 _ rfl
  have z5 := c1 5 _ rfl
  clear c1 ga
  clear hsz2
  go_wp2_with fail
  try clear f1 l1 n1 z0 z1 z2 z3 z4 z5
  obtain ⟨U3, hU⟩ : ∃ U3, U3 = V2.alloc (.cells #[.int .i64 6, .int .i64 d, .int .i64 0, .int .i64 0, .int .i64 0, .int .i64 0] 24) := ⟨_, rfl⟩
  have hnC : U3.heap[V2.heap.size]? = some (.cells #[.int .i64 6, .int .i64 d, .int .i64 0, .int .i64 0, .int .i64 0, .int .i64 0] 24) := by first | (rw [hU]; exact heap_new _ _ _ rfl) | rw [hU]
  have RD3 : Hid (Rd U3 B _) := Lib.hid (by rw [hU]; exact RD.out.new _)
  have XX3 : Hid (Ex B w U3) := Lib.hid (by rw [hU]; exact XX.out.new _)
  have hs3 : U3.heap.size = V2.heap.size + 1 := by rw [hU]; simp
  have GA3 : Hid (U3.heap[w.heap.size]? = some (.cells #[.int .i64 0, .int .i64 0, .int .i64 0, .int .i64 0, .int .i64 0, .int .i64 0] 24)) := Lib.hid (by rw [hU]; exact heap_old _ _ _ _ GA.out)
  rw [← hU]
  clear hU RD XX
  have RD := RD3
  have XX := XX3
  clear RD3 XX3
  clear GA
  have GA := GA3
  clear GA3
  have GC := Lib.hid hnC
  obtain ⟨b, hb⟩ : ∃ b, b = V2.heap.size := ⟨_, rfl⟩
  rw [← hb] at GC hnC hs3 ⊢
  have hBb : B < b := by have := XX.out.size; omega
  have hwb : w.heap.size ≤ b := by omega
  have hlb : b < U3.heap.size := by omega
  have hla : w.heap.size < U3.heap.size := by omega
  have hab : ¬ w.heap.size = b := by omega
  have hba : ¬ b = w.heap.size := by omega
  clear hb hnC hs3
  refine (must_any B [44] _ _ RD.out).mono ?_
  rintro e V4 ⟨rfl, hr, hx⟩
  have RD4 := Lib.hid hr
  have XX4 := Lib.hid (XX.out.trans hx)
  have hsz4 := hx.size
  have ga := (hx.block w.heap.size hla (by omega)).trans GA.out
  have gc := (hx.block b hlb (by omega)).trans GC.out
  clear hr hx RD XX
  have RD := RD4
  have XX := XX4
  clear RD4 XX4
  have hla4 : w.heap.size < V4.heap.size := by omega
  try clear hla
  have hla := hla4
  clear hla4 GA
  have GA := Lib.hid ga
  try clear f1 l1 n1 z0 z1 z2 z3 z4 z5
  obtain ⟨c1, f1, l1, n1⟩ := block_cells ga
  have z0 := c1 0 _ rfl
  have z1 := c1 1 _ rfl
  have z2 := c1 2 _ rfl
  have z3 := c1 3 _ rfl
  have z4 := c1 4 _ rfl
  have z5 := c1 5 _ rfl
  clear c1 ga
  have hlb4 : b < V4.heap.size := by omega
  clear hlb GC
  have hlb := hlb4
  clear hlb4
  have GC := Lib.hid gc
  try clear f2 l2 n2 y0 y1 y2 y3 y4 y5
  obtain ⟨c2, f2, l2, n2⟩ := block_cells gc
  have y0 := c2 0 _ rfl
  have y1 := c2 1 _ rfl
  have y2 := c2 2 _ rfl
  have y3 := c2 3 _ rfl
  have y4 := c2 4 _ rfl
  have y5 := c2 5 _ rfl
  clear c2 gc
  clear hsz4
  go_wp2_with fail
  refine (countI_any B imm hi _ _ RD.out).mono ?_
  rintro e V5 ⟨rfl, hr, hx⟩
  have RD5 := Lib.hid hr
  have XX5 := Lib.hid (XX.out.trans hx)
  have hsz5 := hx.size
  have ga := (hx.block w.heap.size hla (by omega)).trans GA.out
  have gc := (hx.block b hlb (by omega)).trans GC.out
  clear hr hx RD XX
  have RD := RD5
  have XX := XX5
  clear RD5 XX5
  have hla5 : w.heap.size < V5.heap.size := by omega
  try clear hla
  have hla := hla5
  clear hla5 GA
  have GA := Lib.hid ga
  try clear f1 l1 n1 z0 z1 z2 z3 z4 z5
  obtain ⟨c1, f1, l1, n1⟩ := block_cells ga
  have z0 := c1 0 _ rfl
  have z1 := c1 1 _ rfl
  have z2 := c1 2 _ rfl
  have z3 := c1 3 _ rfl
  have z4 := c1 4 _ rfl
  have z5 := c1 5 _ rfl
  clear c1 ga
  have hlb5 : b < V5.heap.size := by omega
  clear hlb GC
  have hlb := hlb5
  clear hlb5
  have GC := Lib.hid gc
  try clear f2 l2 n2 y0 y1 y2 y3 y4 y5
  obtain ⟨c2, f2, l2, n2⟩ := block_cells gc
  have y0 := c2 0 _ rfl
  have y1 := c2 1 _ rfl
  have y2 := c2 2 _ rfl
  have y3 := c2 3 _ rfl
  have y4 := c2 4 _ rfl
  have y5 := c2 5 _ rfl
  clear c2 gc
  clear hsz5
  go_wp2_with fail
  try clear f1 l1 n1 z0 z1 z2 z3 z4 z5
  try clear f2 l2 n2 y0 y1 y2 y3 y4 y5
  obtain ⟨W6, hU⟩ : ∃ W6, W6 = V5.setCell ⟨b, 4, none⟩ (.int .i64 imm) := ⟨_, rfl⟩
  have GC6 : Hid (W6.heap[b]? = some (.cells #[.int .i64 6, .int .i64 d, .int .i64 0, .int .i64 0, .int .i64 imm, .int .i64 0] 24)) := Lib.hid (by rw [hU]; exact block_set GC.out rfl)
  have GA6 : Hid (W6.heap[w.heap.size]? = some (.cells #[.int .i64 0, .int .i64 0, .int .i64 0, .int .i64 0, .int .i64 0, .int .i64 0] 24)) := Lib.hid (by rw [hU]; exact block_else GA.out hba)
  have RD6 : Hid (Rd W6 B _) := Lib.hid (by rw [hU]; exact RD.out.put hBb)
  have XX6 : Hid (Ex B w W6) := Lib.hid (by rw [hU]; exact XX.out.put hwb _)
  have hs6 : W6.heap.size = V5.heap.size := by rw [hU]; simp
  rw [← hU]
  clear hU RD XX GA GC
  have RD := RD6
  have XX := XX6
  have GA := GA6
  have GC := GC6
  clear RD6 XX6 GA6 GC6
  have hlb6 : b < W6.heap.size := by omega
  have hla6 : w.heap.size < W6.heap.size := by omega
  clear hlb hla hs6
  have hlb := hlb6
  have hla := hla6
  clear hlb6 hla6
  refine (may_none B [44] _ RD.out).mono ?_
  rintro e V7 ⟨rfl, hr, hx⟩
  have RD7 := Lib.hid hr
  have XX7 := Lib.hid (XX.out.trans hx)
  have hsz7 := hx.size
  have ga := (hx.block w.heap.size hla (by omega)).trans GA.out
  have gc := (hx.block b hlb (by omega)).trans GC.out
  clear hr hx RD XX
  have RD := RD7
  have XX := XX7
  clear RD7 XX7
  have hla7 : w.heap.size < V7.heap.size := by omega
  try clear hla
  have hla := hla7
  clear hla7 GA
  have GA := Lib.hid ga
  try clear f1 l1 n1 z0 z1 z2 z3 z4 z5
  obtain ⟨c1, f1, l1, n1⟩ := block_cells ga
  have z0 := c1 0 _ rfl
  have z1 := c1 1 _ rfl
  have z2 := c1 2 _ rfl
  have z3 := c1 3 _ rfl
  have z4 := c1 4 _ rfl
  have z5 := c1 5 _ rfl
  clear c1 ga
  have hlb7 : b < V7.heap.size := by omega
  clear hlb GC
  have hlb := hlb7
  clear hlb7
  have GC := Lib.hid gc
  try clear f2 l2 n2 y0 y1 y2 y3 y4 y5
  obtain ⟨c2, f2, l2, n2⟩ := block_cells gc
  have y0 := c2 0 _ rfl
  have y1 := c2 1 _ rfl
  have y2 := c2 2 _ rfl
  have y3 := c2 3 _ rfl
  have y4 := c2 4 _ rfl
  have y5 := c2 5 _ rfl
  clear c2 gc
  clear hsz7
  go_wp2_with fail
  refine bodyPost_cell6 (A := w.heap.size) (t := 2) (v0 := .int .i64 6) (v1 := .int .i64 d) (v2 := .int .i64 0) (v3 := .int .i64 0) (v4 := .int .i64 imm) (v5 := .int .i64 0) Try.results40 rfl ?_ rfl ?_
  · refine six_stores (x0 := .int .i64 0) (x1 := .int .i64 0) (x2 := .int .i64 0) (x3 := .int .i64 0) (x4 := .int .i64 0) (x5 := .int .i64 0) ?_
    repeat' (with_reducible first | exact GA.out | exact hba | exact hBA | refine block_else ?_ ?_)
  refine ⟨rfl, ?_, ?_⟩
  · repeat' (with_reducible first | exact RD.out | exact hBw | exact hBb | refine Rd.bad ?_ | refine Rd.put ?_ ?_)
  · repeat' (with_reducible first | exact XX.out | exact Nat.le_refl _ | exact hwb | refine Ex.setB ?_ _ | refine Ex.put ?_ ?_ _)

set_option maxHeartbeats 4000000 in
theorem move1 (B : Nat) (d imm : Int) (hd : 0 ≤ d ∧ d ≤ 31) (hi : 0 ≤ imm ∧ imm ≤ 1000000000) (ws : List (List UInt8)) (w : World) (h : Rd w B (regL d :: [44] :: (35 :: intL imm) :: [44] :: [76, 83, 76] :: (35 :: intL 16) :: ws)) :
    Calls Try.prog 40 #[(.pointer (some ⟨B, 0, none⟩))] w (RetR B (.agg #[.int .i64 6, .int .i64 d, .int .i64 0, .int .i64 0, .int .i64 imm, .int .i64 1]) ws w) := by
  have RD := Lib.hid h
  have hBw := h.at.2.2.1
  have XX := Lib.hid (Ex.refl B w)
  clear h
  go_enter Try.func40, Try.ntmps40
  go_wp2_with fail
  obtain ⟨U1, hU⟩ : ∃ U1, U1 = w.alloc (.cells #[.int .i64 0, .int .i64 0, .int .i64 0, .int .i64 0, .int .i64 0, .int .i64 0] 24) := ⟨_, rfl⟩
  have hnA : U1.heap[w.heap.size]? = some (.cells #[.int .i64 0, .int .i64 0, .int .i64 0, .int .i64 0, .int .i64 0, .int .i64 0] 24) := by first | (rw [hU]; exact heap_new _ _ _ rfl) | rw [hU]
  have RD1 : Hid (Rd U1 B _) := Lib.hid (by rw [hU]; exact RD.out.new _)
  have XX1 : Hid (Ex B w U1) := Lib.hid (by rw [hU]; exact XX.out.new _)
  have hs1 : U1.heap.size = w.heap.size + 1 := by rw [hU]; simp
  rw [← hU]
  clear hU RD XX
  have RD := RD1
  have XX := XX1
  clear RD1 XX1
  have GA := Lib.hid hnA
  have hBa : B < w.heap.size := hBw
  have hla : w.heap.size < U1.heap.size := by omega
  clear hnA hs1
  refine (rreg_any B d hd.1 hd.2 _ _ RD.out).mono ?_
  rintro e V2 ⟨rfl, hr, hx⟩
  have RD2 := Lib.hid hr
  have XX2 := Lib.hid (XX.out.trans hx)
  have hsz2 := hx.size
  have ga := (hx.block w.heap.size hla (by omega)).trans GA.out
  clear hr hx RD XX
  have RD := RD2
  have XX := XX2
  clear RD2 XX2
  have hla2 : w.heap.size < V2.heap.size := by omega
  try clear hla
  have hla := hla2
  clear hla2 GA
  have GA := Lib.hid ga
  try clear f1 l1 n1 z0 z1 z2 z3 z4 z5
  obtain ⟨c1, f1, l1, n1⟩ := block_cells ga
  have z0 := c1 0 _ rfl
  have z1 := c1 1 _ rfl
  have z2 := c1 2 _ rfl
  have z3 := c1 3 _ rfl
  have z4 := c1 4 _ rfl
  have z5 := c1 5 _ rfl
  clear c1 ga
  clear hsz2
  go_wp2_with fail
  try clear f1 l1 n1 z0 z1 z2 z3 z4 z5
  obtain ⟨U3, hU⟩ : ∃ U3, U3 = V2.alloc (.cells #[.int .i64 6, .int .i64 d, .int .i64 0, .int .i64 0, .int .i64 0, .int .i64 0] 24) := ⟨_, rfl⟩
  have hnC : U3.heap[V2.heap.size]? = some (.cells #[.int .i64 6, .int .i64 d, .int .i64 0, .int .i64 0, .int .i64 0, .int .i64 0] 24) := by first | (rw [hU]; exact heap_new _ _ _ rfl) | rw [hU]
  have RD3 : Hid (Rd U3 B _) := Lib.hid (by rw [hU]; exact RD.out.new _)
  have XX3 : Hid (Ex B w U3) := Lib.hid (by rw [hU]; exact XX.out.new _)
  have hs3 : U3.heap.size = V2.heap.size + 1 := by rw [hU]; simp
  have GA3 : Hid (U3.heap[w.heap.size]? = some (.cells #[.int .i64 0, .int .i64 0, .int .i64 0, .int .i64 0, .int .i64 0, .int .i64 0] 24)) := Lib.hid (by rw [hU]; exact heap_old _ _ _ _ GA.out)
  rw [← hU]
  clear hU RD XX
  have RD := RD3
  have XX := XX3
  clear RD3 XX3
  clear GA
  have GA := GA3
  clear GA3
  have GC := Lib.hid hnC
  obtain ⟨b, hb⟩ : ∃ b, b = V2.heap.size := ⟨_, rfl⟩
  rw [← hb] at GC hnC hs3 ⊢
  have hBb : B < b := by have := XX.out.size; omega
  have hwb : w.heap.size ≤ b := by omega
  have hlb : b < U3.heap.size := by omega
  have hla : w.heap.size < U3.heap.size := by omega
  have hab : ¬ w.heap.size = b := by omega
  have hba : ¬ b = w.heap.size := by omega
  clear hb hnC hs3
  refine (must_any B [44] _ _ RD.out).mono ?_
  rintro e V4 ⟨rfl, hr, hx⟩
  have RD4 := Lib.hid hr
  have XX4 := Lib.hid (XX.out.trans hx)
  have hsz4 := hx.size
  have ga := (hx.block w.heap.size hla (by omega)).trans GA.out
  have gc := (hx.block b hlb (by omega)).trans GC.out
  clear hr hx RD XX
  have RD := RD4
  have XX := XX4
  clear RD4 XX4
  have hla4 : w.heap.size < V4.heap.size := by omega
  try clear hla
  have hla := hla4
  clear hla4 GA
  have GA := Lib.hid ga
  try clear f1 l1 n1 z0 z1 z2 z3 z4 z5
  obtain ⟨c1, f1, l1, n1⟩ := block_cells ga
  have z0 := c1 0 _ rfl
  have z1 := c1 1 _ rfl
  have z2 := c1 2 _ rfl
  have z3 := c1 3 _ rfl
  have z4 := c1 4 _ rfl
  have z5 := c1 5 _ rfl
  clear c1 ga
  have hlb4 : b < V4.heap.size := by omega
  clear hlb GC
  have hlb := hlb4
  clear hlb4
  have GC := Lib.hid gc
  try clear f2 l2 n2 y0 y1 y2 y3 y4 y5
  obtain ⟨c2, f2, l2, n2⟩ := block_cells gc
  have y0 := c2 0 _ rfl
  have y1 := c2 1 _ rfl
  have y2 := c2 2 _ rfl
  have y3 := c2 3 _ rfl
  have y4 := c2 4 _ rfl
  have y5 := c2 5 _ rfl
  clear c2 gc
  clear hsz4
  go_wp2_with fail
  refine (countI_any B imm hi _ _ RD.out).mono ?_
  rintro e V5 ⟨rfl, hr, hx⟩
  have RD5 := Lib.hid hr
  have XX5 := Lib.hid (XX.out.trans hx)
  have hsz5 := hx.size
  have ga := (hx.block w.heap.size hla (by omega)).trans GA.out
  have gc := (hx.block b hlb (by omega)).trans GC.out
  clear hr hx RD XX
  have RD := RD5
  have XX := XX5
  clear RD5 XX5
  have hla5 : w.heap.size < V5.heap.size := by omega
  try clear hla
  have hla := hla5
  clear hla5 GA
  have GA := Lib.hid ga
  try clear f1 l1 n1 z0 z1 z2 z3 z4 z5
  obtain ⟨c1, f1, l1, n1⟩ := block_cells ga
  have z0 := c1 0 _ rfl
  have z1 := c1 1 _ rfl
  have z2 := c1 2 _ rfl
  have z3 := c1 3 _ rfl
  have z4 := c1 4 _ rfl
  have z5 := c1 5 _ rfl
  clear c1 ga
  have hlb5 : b < V5.heap.size := by omega
  clear hlb GC
  have hlb := hlb5
  clear hlb5
  have GC := Lib.hid gc
  try clear f2 l2 n2 y0 y1 y2 y3 y4 y5
  obtain ⟨c2, f2, l2, n2⟩ := block_cells gc
  have y0 := c2 0 _ rfl
  have y1 := c2 1 _ rfl
  have y2 := c2 2 _ rfl
  have y3 := c2 3 _ rfl
  have y4 := c2 4 _ rfl
  have y5 := c2 5 _ rfl
  clear c2 gc
  clear hsz5
  go_wp2_with fail
  try clear f1 l1 n1 z0 z1 z2 z3 z4 z5
  try clear f2 l2 n2 y0 y1 y2 y3 y4 y5
  obtain ⟨W6, hU⟩ : ∃ W6, W6 = V5.setCell ⟨b, 4, none⟩ (.int .i64 imm) := ⟨_, rfl⟩
  have GC6 : Hid (W6.heap[b]? = some (.cells #[.int .i64 6, .int .i64 d, .int .i64 0, .int .i64 0, .int .i64 imm, .int .i64 0] 24)) := Lib.hid (by rw [hU]; exact block_set GC.out rfl)
  have GA6 : Hid (W6.heap[w.heap.size]? = some (.cells #[.int .i64 0, .int .i64 0, .int .i64 0, .int .i64 0, .int .i64 0, .int .i64 0] 24)) := Lib.hid (by rw [hU]; exact block_else GA.out hba)
  have RD6 : Hid (Rd W6 B _) := Lib.hid (by rw [hU]; exact RD.out.put hBb)
  have XX6 : Hid (Ex B w W6) := Lib.hid (by rw [hU]; exact XX.out.put hwb _)
  have hs6 : W6.heap.size = V5.heap.size := by rw [hU]; simp
  rw [← hU]
  clear hU RD XX GA GC
  have RD := RD6
  have XX := XX6
  have GA := GA6
  have GC := GC6
  clear RD6 XX6 GA6 GC6
  have hlb6 : b < W6.heap.size := by omega
  have hla6 : w.heap.size < W6.heap.size := by omega
  clear hlb hla hs6
  have hlb := hlb6
  have hla := hla6
  clear hlb6 hla6
  refine (may_yes B [44] _ _ RD.out).mono ?_
  rintro e V7 ⟨rfl, hr, hx⟩
  have RD7 := Lib.hid hr
  have XX7 := Lib.hid (XX.out.trans hx)
  have hsz7 := hx.size
  have ga := (hx.block w.heap.size hla (by omega)).trans GA.out
  have gc := (hx.block b hlb (by omega)).trans GC.out
  clear hr hx RD XX
  have RD := RD7
  have XX := XX7
  clear RD7 XX7
  have hla7 : w.heap.size < V7.heap.size := by omega
  try clear hla
  have hla := hla7
  clear hla7 GA
  have GA := Lib.hid ga
  try clear f1 l1 n1 z0 z1 z2 z3 z4 z5
  obtain ⟨c1, f1, l1, n1⟩ := block_cells ga
  have z0 := c1 0 _ rfl
  have z1 := c1 1 _ rfl
  have z2 := c1 2 _ rfl
  have z3 := c1 3 _ rfl
  have z4 := c1 4 _ rfl
  have z5 := c1 5 _ rfl
  clear c1 ga
  have hlb7 : b < V7.heap.size := by omega
  clear hlb GC
  have hlb := hlb7
  clear hlb7
  have GC := Lib.hid gc
  try clear f2 l2 n2 y0 y1 y2 y3 y4 y5
  obtain ⟨c2, f2, l2, n2⟩ := block_cells gc
  have y0 := c2 0 _ rfl
  have y1 := c2 1 _ rfl
  have y2 := c2 2 _ rfl
  have y3 := c2 3 _ rfl
  have y4 := c2 4 _ rfl
  have y5 := c2 5 _ rfl
  clear c2 gc
  clear hsz7
  go_wp2_with fail
  refine (must_any B [76, 83, 76] _ _ RD.out).mono ?_
  rintro e V8 ⟨rfl, hr, hx⟩
  have RD8 := Lib.hid hr
  have XX8 := Lib.hid (XX.out.trans hx)
  have hsz8 := hx.size
  have ga := (hx.block w.heap.size hla (by omega)).trans GA.out
  have gc := (hx.block b hlb (by omega)).trans GC.out
  clear hr hx RD XX
  have RD := RD8
  have XX := XX8
  clear RD8 XX8
  have hla8 : w.heap.size < V8.heap.size := by omega
  try clear hla
  have hla := hla8
  clear hla8 GA
  have GA := Lib.hid ga
  try clear f1 l1 n1 z0 z1 z2 z3 z4 z5
  obtain ⟨c1, f1, l1, n1⟩ := block_cells ga
  have z0 := c1 0 _ rfl
  have z1 := c1 1 _ rfl
  have z2 := c1 2 _ rfl
  have z3 := c1 3 _ rfl
  have z4 := c1 4 _ rfl
  have z5 := c1 5 _ rfl
  clear c1 ga
  have hlb8 : b < V8.heap.size := by omega
  clear hlb GC
  have hlb := hlb8
  clear hlb8
  have GC := Lib.hid gc
  try clear f2 l2 n2 y0 y1 y2 y3 y4 y5
  obtain ⟨c2, f2, l2, n2⟩ := block_cells gc
  have y0 := c2 0 _ rfl
  have y1 := c2 1 _ rfl
  have y2 := c2 2 _ rfl
  have y3 := c2 3 _ rfl
  have y4 := c2 4 _ rfl
  have y5 := c2 5 _ rfl
  clear c2 gc
  clear hsz8
  go_wp2_with fail
  refine (countI_any B 16 (by decide) _ _ RD.out).mono ?_
  rintro e V9 ⟨rfl, hr, hx⟩
  have RD9 := Lib.hid hr
  have XX9 := Lib.hid (XX.out.trans hx)
  have hsz9 := hx.size
  have ga := (hx.block w.heap.size hla (by omega)).trans GA.out
  have gc := (hx.block b hlb (by omega)).trans GC.out
  clear hr hx RD XX
  have RD := RD9
  have XX := XX9
  clear RD9 XX9
  have hla9 : w.heap.size < V9.heap.size := by omega
  try clear hla
  have hla := hla9
  clear hla9 GA
  have GA := Lib.hid ga
  try clear f1 l1 n1 z0 z1 z2 z3 z4 z5
  obtain ⟨c1, f1, l1, n1⟩ := block_cells ga
  have z0 := c1 0 _ rfl
  have z1 := c1 1 _ rfl
  have z2 := c1 2 _ rfl
  have z3 := c1 3 _ rfl
  have z4 := c1 4 _ rfl
  have z5 := c1 5 _ rfl
  clear c1 ga
  have hlb9 : b < V9.heap.size := by omega
  clear hlb GC
  have hlb := hlb9
  clear hlb9
  have GC := Lib.hid gc
  try clear f2 l2 n2 y0 y1 y2 y3 y4 y5
  obtain ⟨c2, f2, l2, n2⟩ := block_cells gc
  have y0 := c2 0 _ rfl
  have y1 := c2 1 _ rfl
  have y2 := c2 2 _ rfl
  have y3 := c2 3 _ rfl
  have y4 := c2 4 _ rfl
  have y5 := c2 5 _ rfl
  clear c2 gc
  clear hsz9
  obtain ⟨e1, e2, e3, e4⟩ := RD.out.at
  have hBA : ¬ B = w.heap.size := by omega
  have hAB : ¬ w.heap.size = B := by omega
  have hBC : ¬ B = b := by omega
  have hCB : ¬ b = B := by omega
  go_wp2_with fail
  refine bodyPost_cell6 (A := w.heap.size) (t := 2) (v0 := .int .i64 6) (v1 := .int .i64 d) (v2 := .int .i64 0) (v3 := .int .i64 0) (v4 := .int .i64 imm) (v5 := .int .i64 1) Try.results40 rfl ?_ rfl ?_
  · refine six_stores (x0 := .int .i64 0) (x1 := .int .i64 0) (x2 := .int .i64 0) (x3 := .int .i64 0) (x4 := .int .i64 0) (x5 := .int .i64 0) ?_
    repeat' (with_reducible first | exact GA.out | exact hba | exact hBA | refine block_else ?_ ?_)
  refine ⟨rfl, ?_, ?_⟩
  · repeat' (with_reducible first | exact RD.out | exact hBw | exact hBb | refine Rd.bad ?_ | refine Rd.put ?_ ?_)
  · repeat' (with_reducible first | exact XX.out | exact Nat.le_refl _ | exact hwb | refine Ex.setB ?_ _ | refine Ex.put ?_ ?_ _)

set_option maxHeartbeats 4000000 in
theorem move2 (B : Nat) (d imm : Int) (hd : 0 ≤ d ∧ d ≤ 31) (hi : 0 ≤ imm ∧ imm ≤ 1000000000) (ws : List (List UInt8)) (w : World) (h : Rd w B (regL d :: [44] :: (35 :: intL imm) :: [44] :: [76, 83, 76] :: (35 :: intL 32) :: ws)) :
    Calls Try.prog 40 #[(.pointer (some ⟨B, 0, none⟩))] w (RetR B (.agg #[.int .i64 6, .int .i64 d, .int .i64 0, .int .i64 0, .int .i64 imm, .int .i64 2]) ws w) := by
  have RD := Lib.hid h
  have hBw := h.at.2.2.1
  have XX := Lib.hid (Ex.refl B w)
  clear h
  go_enter Try.func40, Try.ntmps40
  go_wp2_with fail
  obtain ⟨U1, hU⟩ : ∃ U1, U1 = w.alloc (.cells #[.int .i64 0, .int .i64 0, .int .i64 0, .int .i64 0, .int .i64 0, .int .i64 0] 24) := ⟨_, rfl⟩
  have hnA : U1.heap[w.heap.size]? = some (.cells #[.int .i64 0, .int .i64 0, .int .i64 0, .int .i64 0, .int .i64 0, .int .i64 0] 24) := by first | (rw [hU]; exact heap_new _ _ _ rfl) | rw [hU]
  have RD1 : Hid (Rd U1 B _) := Lib.hid (by rw [hU]; exact RD.out.new _)
  have XX1 : Hid (Ex B w U1) := Lib.hid (by rw [hU]; exact XX.out.new _)
  have hs1 : U1.heap.size = w.heap.size + 1 := by rw [hU]; simp
  rw [← hU]
  clear hU RD XX
  have RD := RD1
  have XX := XX1
  clear RD1 XX1
  have GA := Lib.hid hnA
  have hBa : B < w.heap.size := hBw
  have hla : w.heap.size < U1.heap.size := by omega
  clear hnA hs1
  refine (rreg_any B d hd.1 hd.2 _ _ RD.out).mono ?_
  rintro e V2 ⟨rfl, hr, hx⟩
  have RD2 := Lib.hid hr
  have XX2 := Lib.hid (XX.out.trans hx)
  have hsz2 := hx.size
  have ga := (hx.block w.heap.size hla (by omega)).trans GA.out
  clear hr hx RD XX
  have RD := RD2
  have XX := XX2
  clear RD2 XX2
  have hla2 : w.heap.size < V2.heap.size := by omega
  try clear hla
  have hla := hla2
  clear hla2 GA
  have GA := Lib.hid ga
  try clear f1 l1 n1 z0 z1 z2 z3 z4 z5
  obtain ⟨c1, f1, l1, n1⟩ := block_cells ga
  have z0 := c1 0 _ rfl
  have z1 := c1 1 _ rfl
  have z2 := c1 2 _ rfl
  have z3 := c1 3 _ rfl
  have z4 := c1 4 _ rfl
  have z5 := c1 5 _ rfl
  clear c1 ga
  clear hsz2
  go_wp2_with fail
  try clear f1 l1 n1 z0 z1 z2 z3 z4 z5
  obtain ⟨U3, hU⟩ : ∃ U3, U3 = V2.alloc (.cells #[.int .i64 6, .int .i64 d, .int .i64 0, .int .i64 0, .int .i64 0, .int .i64 0] 24) := ⟨_, rfl⟩
  have hnC : U3.heap[V2.heap.size]? = some (.cells #[.int .i64 6, .int .i64 d, .int .i64 0, .int .i64 0, .int .i64 0, .int .i64 0] 24) := by first | (rw [hU]; exact heap_new _ _ _ rfl) | rw [hU]
  have RD3 : Hid (Rd U3 B _) := Lib.hid (by rw [hU]; exact RD.out.new _)
  have XX3 : Hid (Ex B w U3) := Lib.hid (by rw [hU]; exact XX.out.new _)
  have hs3 : U3.heap.size = V2.heap.size + 1 := by rw [hU]; simp
  have GA3 : Hid (U3.heap[w.heap.size]? = some (.cells #[.int .i64 0, .int .i64 0, .int .i64 0, .int .i64 0, .int .i64 0, .int .i64 0] 24)) := Lib.hid (by rw [hU]; exact heap_old _ _ _ _ GA.out)
  rw [← hU]
  clear hU RD XX
  have RD := RD3
  have XX := XX3
  clear RD3 XX3
  clear GA
  have GA := GA3
  clear GA3
  have GC := Lib.hid hnC
  obtain ⟨b, hb⟩ : ∃ b, b = V2.heap.size := ⟨_, rfl⟩
  rw [← hb] at GC hnC hs3 ⊢
  have hBb : B < b := by have := XX.out.size; omega
  have hwb : w.heap.size ≤ b := by omega
  have hlb : b < U3.heap.size := by omega
  have hla : w.heap.size < U3.heap.size := by omega
  have hab : ¬ w.heap.size = b := by omega
  have hba : ¬ b = w.heap.size := by omega
  clear hb hnC hs3
  refine (must_any B [44] _ _ RD.out).mono ?_
  rintro e V4 ⟨rfl, hr, hx⟩
  have RD4 := Lib.hid hr
  have XX4 := Lib.hid (XX.out.trans hx)
  have hsz4 := hx.size
  have ga := (hx.block w.heap.size hla (by omega)).trans GA.out
  have gc := (hx.block b hlb (by omega)).trans GC.out
  clear hr hx RD XX
  have RD := RD4
  have XX := XX4
  clear RD4 XX4
  have hla4 : w.heap.size < V4.heap.size := by omega
  try clear hla
  have hla := hla4
  clear hla4 GA
  have GA := Lib.hid ga
  try clear f1 l1 n1 z0 z1 z2 z3 z4 z5
  obtain ⟨c1, f1, l1, n1⟩ := block_cells ga
  have z0 := c1 0 _ rfl
  have z1 := c1 1 _ rfl
  have z2 := c1 2 _ rfl
  have z3 := c1 3 _ rfl
  have z4 := c1 4 _ rfl
  have z5 := c1 5 _ rfl
  clear c1 ga
  have hlb4 : b < V4.heap.size := by omega
  clear hlb GC
  have hlb := hlb4
  clear hlb4
  have GC := Lib.hid gc
  try clear f2 l2 n2 y0 y1 y2 y3 y4 y5
  obtain ⟨c2, f2, l2, n2⟩ := block_cells gc
  have y0 := c2 0 _ rfl
  have y1 := c2 1 _ rfl
  have y2 := c2 2 _ rfl
  have y3 := c2 3 _ rfl
  have y4 := c2 4 _ rfl
  have y5 := c2 5 _ rfl
  clear c2 gc
  clear hsz4
  go_wp2_with fail
  refine (countI_any B imm hi _ _ RD.out).mono ?_
  rintro e V5 ⟨rfl, hr, hx⟩
  have RD5 := Lib.hid hr
  have XX5 := Lib.hid (XX.out.trans hx)
  have hsz5 := hx.size
  have ga := (hx.block w.heap.size hla (by omega)).trans GA.out
  have gc := (hx.block b hlb (by omega)).trans GC.out
  clear hr hx RD XX
  have RD := RD5
  have XX := XX5
  clear RD5 XX5
  have hla5 : w.heap.size < V5.heap.size := by omega
  try clear hla
  have hla := hla5
  clear hla5 GA
  have GA := Lib.hid ga
  try clear f1 l1 n1 z0 z1 z2 z3 z4 z5
  obtain ⟨c1, f1, l1, n1⟩ := block_cells ga
  have z0 := c1 0 _ rfl
  have z1 := c1 1 _ rfl
  have z2 := c1 2 _ rfl
  have z3 := c1 3 _ rfl
  have z4 := c1 4 _ rfl
  have z5 := c1 5 _ rfl
  clear c1 ga
  have hlb5 : b < V5.heap.size := by omega
  clear hlb GC
  have hlb := hlb5
  clear hlb5
  have GC := Lib.hid gc
  try clear f2 l2 n2 y0 y1 y2 y3 y4 y5
  obtain ⟨c2, f2, l2, n2⟩ := block_cells gc
  have y0 := c2 0 _ rfl
  have y1 := c2 1 _ rfl
  have y2 := c2 2 _ rfl
  have y3 := c2 3 _ rfl
  have y4 := c2 4 _ rfl
  have y5 := c2 5 _ rfl
  clear c2 gc
  clear hsz5
  go_wp2_with fail
  try clear f1 l1 n1 z0 z1 z2 z3 z4 z5
  try clear f2 l2 n2 y0 y1 y2 y3 y4 y5
  obtain ⟨W6, hU⟩ : ∃ W6, W6 = V5.setCell ⟨b, 4, none⟩ (.int .i64 imm) := ⟨_, rfl⟩
  have GC6 : Hid (W6.heap[b]? = some (.cells #[.int .i64 6, .int .i64 d, .int .i64 0, .int .i64 0, .int .i64 imm, .int .i64 0] 24)) := Lib.hid (by rw [hU]; exact block_set GC.out rfl)
  have GA6 : Hid (W6.heap[w.heap.size]? = some (.cells #[.int .i64 0, .int .i64 0, .int .i64 0, .int .i64 0, .int .i64 0, .int .i64 0] 24)) := Lib.hid (by rw [hU]; exact block_else GA.out hba)
  have RD6 : Hid (Rd W6 B _) := Lib.hid (by rw [hU]; exact RD.out.put hBb)
  have XX6 : Hid (Ex B w W6) := Lib.hid (by rw [hU]; exact XX.out.put hwb _)
  have hs6 : W6.heap.size = V5.heap.size := by rw [hU]; simp
  rw [← hU]
  clear hU RD XX GA GC
  have RD := RD6
  have XX := XX6
  have GA := GA6
  have GC := GC6
  clear RD6 XX6 GA6 GC6
  have hlb6 : b < W6.heap.size := by omega
  have hla6 : w.heap.size < W6.heap.size := by omega
  clear hlb hla hs6
  have hlb := hlb6
  have hla := hla6
  clear hlb6 hla6
  refine (may_yes B [44] _ _ RD.out).mono ?_
  rintro e V7 ⟨rfl, hr, hx⟩
  have RD7 := Lib.hid hr
  have XX7 := Lib.hid (XX.out.trans hx)
  have hsz7 := hx.size
  have ga := (hx.block w.heap.size hla (by omega)).trans GA.out
  have gc := (hx.block b hlb (by omega)).trans GC.out
  clear hr hx RD XX
  have RD := RD7
  have XX := XX7
  clear RD7 XX7
  have hla7 : w.heap.size < V7.heap.size := by omega
  try clear hla
  have hla := hla7
  clear hla7 GA
  have GA := Lib.hid ga
  try clear f1 l1 n1 z0 z1 z2 z3 z4 z5
  obtain ⟨c1, f1, l1, n1⟩ := block_cells ga
  have z0 := c1 0 _ rfl
  have z1 := c1 1 _ rfl
  have z2 := c1 2 _ rfl
  have z3 := c1 3 _ rfl
  have z4 := c1 4 _ rfl
  have z5 := c1 5 _ rfl
  clear c1 ga
  have hlb7 : b < V7.heap.size := by omega
  clear hlb GC
  have hlb := hlb7
  clear hlb7
  have GC := Lib.hid gc
  try clear f2 l2 n2 y0 y1 y2 y3 y4 y5
  obtain ⟨c2, f2, l2, n2⟩ := block_cells gc
  have y0 := c2 0 _ rfl
  have y1 := c2 1 _ rfl
  have y2 := c2 2 _ rfl
  have y3 := c2 3 _ rfl
  have y4 := c2 4 _ rfl
  have y5 := c2 5 _ rfl
  clear c2 gc
  clear hsz7
  go_wp2_with fail
  refine (must_any B [76, 83, 76] _ _ RD.out).mono ?_
  rintro e V8 ⟨rfl, hr, hx⟩
  have RD8 := Lib.hid hr
  have XX8 := Lib.hid (XX.out.trans hx)
  have hsz8 := hx.size
  have ga := (hx.block w.heap.size hla (by omega)).trans GA.out
  have gc := (hx.block b hlb (by omega)).trans GC.out
  clear hr hx RD XX
  have RD := RD8
  have XX := XX8
  clear RD8 XX8
  have hla8 : w.heap.size < V8.heap.size := by omega
  try clear hla
  have hla := hla8
  clear hla8 GA
  have GA := Lib.hid ga
  try clear f1 l1 n1 z0 z1 z2 z3 z4 z5
  obtain ⟨c1, f1, l1, n1⟩ := block_cells ga
  have z0 := c1 0 _ rfl
  have z1 := c1 1 _ rfl
  have z2 := c1 2 _ rfl
  have z3 := c1 3 _ rfl
  have z4 := c1 4 _ rfl
  have z5 := c1 5 _ rfl
  clear c1 ga
  have hlb8 : b < V8.heap.size := by omega
  clear hlb GC
  have hlb := hlb8
  clear hlb8
  have GC := Lib.hid gc
  try clear f2 l2 n2 y0 y1 y2 y3 y4 y5
  obtain ⟨c2, f2, l2, n2⟩ := block_cells gc
  have y0 := c2 0 _ rfl
  have y1 := c2 1 _ rfl
  have y2 := c2 2 _ rfl
  have y3 := c2 3 _ rfl
  have y4 := c2 4 _ rfl
  have y5 := c2 5 _ rfl
  clear c2 gc
  clear hsz8
  go_wp2_with fail
  refine (countI_any B 32 (by decide) _ _ RD.out).mono ?_
  rintro e V9 ⟨rfl, hr, hx⟩
  have RD9 := Lib.hid hr
  have XX9 := Lib.hid (XX.out.trans hx)
  have hsz9 := hx.size
  have ga := (hx.block w.heap.size hla (by omega)).trans GA.out
  have gc := (hx.block b hlb (by omega)).trans GC.out
  clear hr hx RD XX
  have RD := RD9
  have XX := XX9
  clear RD9 XX9
  have hla9 : w.heap.size < V9.heap.size := by omega
  try clear hla
  have hla := hla9
  clear hla9 GA
  have GA := Lib.hid ga
  try clear f1 l1 n1 z0 z1 z2 z3 z4 z5
  obtain ⟨c1, f1, l1, n1⟩ := block_cells ga
  have z0 := c1 0 _ rfl
  have z1 := c1 1 _ rfl
  have z2 := c1 2 _ rfl
  have z3 := c1 3 _ rfl
  have z4 := c1 4 _ rfl
  have z5 := c1 5 _ rfl
  clear c1 ga
  have hlb9 : b < V9.heap.size := by omega
  clear hlb GC
  have hlb := hlb9
  clear hlb9
  have GC := Lib.hid gc
  try clear f2 l2 n2 y0 y1 y2 y3 y4 y5
  obtain ⟨c2, f2, l2, n2⟩ := block_cells gc
  have y0 := c2 0 _ rfl
  have y1 := c2 1 _ rfl
  have y2 := c2 2 _ rfl
  have y3 := c2 3 _ rfl
  have y4 := c2 4 _ rfl
  have y5 := c2 5 _ rfl
  clear c2 gc
  clear hsz9
  obtain ⟨e1, e2, e3, e4⟩ := RD.out.at
  have hBA : ¬ B = w.heap.size := by omega
  have hAB : ¬ w.heap.size = B := by omega
  have hBC : ¬ B = b := by omega
  have hCB : ¬ b = B := by omega
  go_wp2_with fail
  refine bodyPost_cell6 (A := w.heap.size) (t := 2) (v0 := .int .i64 6) (v1 := .int .i64 d) (v2 := .int .i64 0) (v3 := .int .i64 0) (v4 := .int .i64 imm) (v5 := .int .i64 2) Try.results40 rfl ?_ rfl ?_
  · refine six_stores (x0 := .int .i64 0) (x1 := .int .i64 0) (x2 := .int .i64 0) (x3 := .int .i64 0) (x4 := .int .i64 0) (x5 := .int .i64 0) ?_
    repeat' (with_reducible first | exact GA.out | exact hba | exact hBA | refine block_else ?_ ?_)
  refine ⟨rfl, ?_, ?_⟩
  · repeat' (with_reducible first | exact RD.out | exact hBw | exact hBb | refine Rd.bad ?_ | refine Rd.put ?_ ?_)
  · repeat' (with_reducible first | exact XX.out | exact Nat.le_refl _ | exact hwb | refine Ex.setB ?_ _ | refine Ex.put ?_ ?_ _)

set_option maxHeartbeats 4000000 in
theorem move3 (B : Nat) (d imm : Int) (hd : 0 ≤ d ∧ d ≤ 31) (hi : 0 ≤ imm ∧ imm ≤ 1000000000) (ws : List (List UInt8)) (w : World) (h : Rd w B (regL d :: [44] :: (35 :: intL imm) :: [44] :: [76, 83, 76] :: (35 :: intL 48) :: ws)) :
    Calls Try.prog 40 #[(.pointer (some ⟨B, 0, none⟩))] w (RetR B (.agg #[.int .i64 6, .int .i64 d, .int .i64 0, .int .i64 0, .int .i64 imm, .int .i64 3]) ws w) := by
  have RD := Lib.hid h
  have hBw := h.at.2.2.1
  have XX := Lib.hid (Ex.refl B w)
  clear h
  go_enter Try.func40, Try.ntmps40
  go_wp2_with fail
  obtain ⟨U1, hU⟩ : ∃ U1, U1 = w.alloc (.cells #[.int .i64 0, .int .i64 0, .int .i64 0, .int .i64 0, .int .i64 0, .int .i64 0] 24) := ⟨_, rfl⟩
  have hnA : U1.heap[w.heap.size]? = some (.cells #[.int .i64 0, .int .i64 0, .int .i64 0, .int .i64 0, .int .i64 0, .int .i64 0] 24) := by first | (rw [hU]; exact heap_new _ _ _ rfl) | rw [hU]
  have RD1 : Hid (Rd U1 B _) := Lib.hid (by rw [hU]; exact RD.out.new _)
  have XX1 : Hid (Ex B w U1) := Lib.hid (by rw [hU]; exact XX.out.new _)
  have hs1 : U1.heap.size = w.heap.size + 1 := by rw [hU]; simp
  rw [← hU]
  clear hU RD XX
  have RD := RD1
  have XX := XX1
  clear RD1 XX1
  have GA := Lib.hid hnA
  have hBa : B < w.heap.size := hBw
  have hla : w.heap.size < U1.heap.size := by omega
  clear hnA hs1
  refine (rreg_any B d hd.1 hd.2 _ _ RD.out).mono ?_
  rintro e V2 ⟨rfl, hr, hx⟩
  have RD2 := Lib.hid hr
  have XX2 := Lib.hid (XX.out.trans hx)
  have hsz2 := hx.size
  have ga := (hx.block w.heap.size hla (by omega)).trans GA.out
  clear hr hx RD XX
  have RD := RD2
  have XX := XX2
  clear RD2 XX2
  have hla2 : w.heap.size < V2.heap.size := by omega
  try clear hla
  have hla := hla2
  clear hla2 GA
  have GA := Lib.hid ga
  try clear f1 l1 n1 z0 z1 z2 z3 z4 z5
  obtain ⟨c1, f1, l1, n1⟩ := block_cells ga
  have z0 := c1 0 _ rfl
  have z1 := c1 1 _ rfl
  have z2 := c1 2 _ rfl
  have z3 := c1 3 _ rfl
  have z4 := c1 4 _ rfl
  have z5 := c1 5 _ rfl
  clear c1 ga
  clear hsz2
  go_wp2_with fail
  try clear f1 l1 n1 z0 z1 z2 z3 z4 z5
  obtain ⟨U3, hU⟩ : ∃ U3, U3 = V2.alloc (.cells #[.int .i64 6, .int .i64 d, .int .i64 0, .int .i64 0, .int .i64 0, .int .i64 0] 24) := ⟨_, rfl⟩
  have hnC : U3.heap[V2.heap.size]? = some (.cells #[.int .i64 6, .int .i64 d, .int .i64 0, .int .i64 0, .int .i64 0, .int .i64 0] 24) := by first | (rw [hU]; exact heap_new _ _ _ rfl) | rw [hU]
  have RD3 : Hid (Rd U3 B _) := Lib.hid (by rw [hU]; exact RD.out.new _)
  have XX3 : Hid (Ex B w U3) := Lib.hid (by rw [hU]; exact XX.out.new _)
  have hs3 : U3.heap.size = V2.heap.size + 1 := by rw [hU]; simp
  have GA3 : Hid (U3.heap[w.heap.size]? = some (.cells #[.int .i64 0, .int .i64 0, .int .i64 0, .int .i64 0, .int .i64 0, .int .i64 0] 24)) := Lib.hid (by rw [hU]; exact heap_old _ _ _ _ GA.out)
  rw [← hU]
  clear hU RD XX
  have RD := RD3
  have XX := XX3
  clear RD3 XX3
  clear GA
  have GA := GA3
  clear GA3
  have GC := Lib.hid hnC
  obtain ⟨b, hb⟩ : ∃ b, b = V2.heap.size := ⟨_, rfl⟩
  rw [← hb] at GC hnC hs3 ⊢
  have hBb : B < b := by have := XX.out.size; omega
  have hwb : w.heap.size ≤ b := by omega
  have hlb : b < U3.heap.size := by omega
  have hla : w.heap.size < U3.heap.size := by omega
  have hab : ¬ w.heap.size = b := by omega
  have hba : ¬ b = w.heap.size := by omega
  clear hb hnC hs3
  refine (must_any B [44] _ _ RD.out).mono ?_
  rintro e V4 ⟨rfl, hr, hx⟩
  have RD4 := Lib.hid hr
  have XX4 := Lib.hid (XX.out.trans hx)
  have hsz4 := hx.size
  have ga := (hx.block w.heap.size hla (by omega)).trans GA.out
  have gc := (hx.block b hlb (by omega)).trans GC.out
  clear hr hx RD XX
  have RD := RD4
  have XX := XX4
  clear RD4 XX4
  have hla4 : w.heap.size < V4.heap.size := by omega
  try clear hla
  have hla := hla4
  clear hla4 GA
  have GA := Lib.hid ga
  try clear f1 l1 n1 z0 z1 z2 z3 z4 z5
  obtain ⟨c1, f1, l1, n1⟩ := block_cells ga
  have z0 := c1 0 _ rfl
  have z1 := c1 1 _ rfl
  have z2 := c1 2 _ rfl
  have z3 := c1 3 _ rfl
  have z4 := c1 4 _ rfl
  have z5 := c1 5 _ rfl
  clear c1 ga
  have hlb4 : b < V4.heap.size := by omega
  clear hlb GC
  have hlb := hlb4
  clear hlb4
  have GC := Lib.hid gc
  try clear f2 l2 n2 y0 y1 y2 y3 y4 y5
  obtain ⟨c2, f2, l2, n2⟩ := block_cells gc
  have y0 := c2 0 _ rfl
  have y1 := c2 1 _ rfl
  have y2 := c2 2 _ rfl
  have y3 := c2 3 _ rfl
  have y4 := c2 4 _ rfl
  have y5 := c2 5 _ rfl
  clear c2 gc
  clear hsz4
  go_wp2_with fail
  refine (countI_any B imm hi _ _ RD.out).mono ?_
  rintro e V5 ⟨rfl, hr, hx⟩
  have RD5 := Lib.hid hr
  have XX5 := Lib.hid (XX.out.trans hx)
  have hsz5 := hx.size
  have ga := (hx.block w.heap.size hla (by omega)).trans GA.out
  have gc := (hx.block b hlb (by omega)).trans GC.out
  clear hr hx RD XX
  have RD := RD5
  have XX := XX5
  clear RD5 XX5
  have hla5 : w.heap.size < V5.heap.size := by omega
  try clear hla
  have hla := hla5
  clear hla5 GA
  have GA := Lib.hid ga
  try clear f1 l1 n1 z0 z1 z2 z3 z4 z5
  obtain ⟨c1, f1, l1, n1⟩ := block_cells ga
  have z0 := c1 0 _ rfl
  have z1 := c1 1 _ rfl
  have z2 := c1 2 _ rfl
  have z3 := c1 3 _ rfl
  have z4 := c1 4 _ rfl
  have z5 := c1 5 _ rfl
  clear c1 ga
  have hlb5 : b < V5.heap.size := by omega
  clear hlb GC
  have hlb := hlb5
  clear hlb5
  have GC := Lib.hid gc
  try clear f2 l2 n2 y0 y1 y2 y3 y4 y5
  obtain ⟨c2, f2, l2, n2⟩ := block_cells gc
  have y0 := c2 0 _ rfl
  have y1 := c2 1 _ rfl
  have y2 := c2 2 _ rfl
  have y3 := c2 3 _ rfl
  have y4 := c2 4 _ rfl
  have y5 := c2 5 _ rfl
  clear c2 gc
  clear hsz5
  go_wp2_with fail
  try clear f1 l1 n1 z0 z1 z2 z3 z4 z5
  try clear f2 l2 n2 y0 y1 y2 y3 y4 y5
  obtain ⟨W6, hU⟩ : ∃ W6, W6 = V5.setCell ⟨b, 4, none⟩ (.int .i64 imm) := ⟨_, rfl⟩
  have GC6 : Hid (W6.heap[b]? = some (.cells #[.int .i64 6, .int .i64 d, .int .i64 0, .int .i64 0, .int .i64 imm, .int .i64 0] 24)) := Lib.hid (by rw [hU]; exact block_set GC.out rfl)
  have GA6 : Hid (W6.heap[w.heap.size]? = some (.cells #[.int .i64 0, .int .i64 0, .int .i64 0, .int .i64 0, .int .i64 0, .int .i64 0] 24)) := Lib.hid (by rw [hU]; exact block_else GA.out hba)
  have RD6 : Hid (Rd W6 B _) := Lib.hid (by rw [hU]; exact RD.out.put hBb)
  have XX6 : Hid (Ex B w W6) := Lib.hid (by rw [hU]; exact XX.out.put hwb _)
  have hs6 : W6.heap.size = V5.heap.size := by rw [hU]; simp
  rw [← hU]
  clear hU RD XX GA GC
  have RD := RD6
  have XX := XX6
  have GA := GA6
  have GC := GC6
  clear RD6 XX6 GA6 GC6
  have hlb6 : b < W6.heap.size := by omega
  have hla6 : w.heap.size < W6.heap.size := by omega
  clear hlb hla hs6
  have hlb := hlb6
  have hla := hla6
  clear hlb6 hla6
  refine (may_yes B [44] _ _ RD.out).mono ?_
  rintro e V7 ⟨rfl, hr, hx⟩
  have RD7 := Lib.hid hr
  have XX7 := Lib.hid (XX.out.trans hx)
  have hsz7 := hx.size
  have ga := (hx.block w.heap.size hla (by omega)).trans GA.out
  have gc := (hx.block b hlb (by omega)).trans GC.out
  clear hr hx RD XX
  have RD := RD7
  have XX := XX7
  clear RD7 XX7
  have hla7 : w.heap.size < V7.heap.size := by omega
  try clear hla
  have hla := hla7
  clear hla7 GA
  have GA := Lib.hid ga
  try clear f1 l1 n1 z0 z1 z2 z3 z4 z5
  obtain ⟨c1, f1, l1, n1⟩ := block_cells ga
  have z0 := c1 0 _ rfl
  have z1 := c1 1 _ rfl
  have z2 := c1 2 _ rfl
  have z3 := c1 3 _ rfl
  have z4 := c1 4 _ rfl
  have z5 := c1 5 _ rfl
  clear c1 ga
  have hlb7 : b < V7.heap.size := by omega
  clear hlb GC
  have hlb := hlb7
  clear hlb7
  have GC := Lib.hid gc
  try clear f2 l2 n2 y0 y1 y2 y3 y4 y5
  obtain ⟨c2, f2, l2, n2⟩ := block_cells gc
  have y0 := c2 0 _ rfl
  have y1 := c2 1 _ rfl
  have y2 := c2 2 _ rfl
  have y3 := c2 3 _ rfl
  have y4 := c2 4 _ rfl
  have y5 := c2 5 _ rfl
  clear c2 gc
  clear hsz7
  go_wp2_with fail
  refine (must_any B [76, 83, 76] _ _ RD.out).mono ?_
  rintro e V8 ⟨rfl, hr, hx⟩
  have RD8 := Lib.hid hr
  have XX8 := Lib.hid (XX.out.trans hx)
  have hsz8 := hx.size
  have ga := (hx.block w.heap.size hla (by omega)).trans GA.out
  have gc := (hx.block b hlb (by omega)).trans GC.out
  clear hr hx RD XX
  have RD := RD8
  have XX := XX8
  clear RD8 XX8
  have hla8 : w.heap.size < V8.heap.size := by omega
  try clear hla
  have hla := hla8
  clear hla8 GA
  have GA := Lib.hid ga
  try clear f1 l1 n1 z0 z1 z2 z3 z4 z5
  obtain ⟨c1, f1, l1, n1⟩ := block_cells ga
  have z0 := c1 0 _ rfl
  have z1 := c1 1 _ rfl
  have z2 := c1 2 _ rfl
  have z3 := c1 3 _ rfl
  have z4 := c1 4 _ rfl
  have z5 := c1 5 _ rfl
  clear c1 ga
  have hlb8 : b < V8.heap.size := by omega
  clear hlb GC
  have hlb := hlb8
  clear hlb8
  have GC := Lib.hid gc
  try clear f2 l2 n2 y0 y1 y2 y3 y4 y5
  obtain ⟨c2, f2, l2, n2⟩ := block_cells gc
  have y0 := c2 0 _ rfl
  have y1 := c2 1 _ rfl
  have y2 := c2 2 _ rfl
  have y3 := c2 3 _ rfl
  have y4 := c2 4 _ rfl
  have y5 := c2 5 _ rfl
  clear c2 gc
  clear hsz8
  go_wp2_with fail
  refine (countI_any B 48 (by decide) _ _ RD.out).mono ?_
  rintro e V9 ⟨rfl, hr, hx⟩
  have RD9 := Lib.hid hr
  have XX9 := Lib.hid (XX.out.trans hx)
  have hsz9 := hx.size
  have ga := (hx.block w.heap.size hla (by omega)).trans GA.out
  have gc := (hx.block b hlb (by omega)).trans GC.out
  clear hr hx RD XX
  have RD := RD9
  have XX := XX9
  clear RD9 XX9
  have hla9 : w.heap.size < V9.heap.size := by omega
  try clear hla
  have hla := hla9
  clear hla9 GA
  have GA := Lib.hid ga
  try clear f1 l1 n1 z0 z1 z2 z3 z4 z5
  obtain ⟨c1, f1, l1, n1⟩ := block_cells ga
  have z0 := c1 0 _ rfl
  have z1 := c1 1 _ rfl
  have z2 := c1 2 _ rfl
  have z3 := c1 3 _ rfl
  have z4 := c1 4 _ rfl
  have z5 := c1 5 _ rfl
  clear c1 ga
  have hlb9 : b < V9.heap.size := by omega
  clear hlb GC
  have hlb := hlb9
  clear hlb9
  have GC := Lib.hid gc
  try clear f2 l2 n2 y0 y1 y2 y3 y4 y5
  obtain ⟨c2, f2, l2, n2⟩ := block_cells gc
  have y0 := c2 0 _ rfl
  have y1 := c2 1 _ rfl
  have y2 := c2 2 _ rfl
  have y3 := c2 3 _ rfl
  have y4 := c2 4 _ rfl
  have y5 := c2 5 _ rfl
  clear c2 gc
  clear hsz9
  obtain ⟨e1, e2, e3, e4⟩ := RD.out.at
  have hBA : ¬ B = w.heap.size := by omega
  have hAB : ¬ w.heap.size = B := by omega
  have hBC : ¬ B = b := by omega
  have hCB : ¬ b = B := by omega
  go_wp2_with fail
  refine bodyPost_cell6 (A := w.heap.size) (t := 2) (v0 := .int .i64 6) (v1 := .int .i64 d) (v2 := .int .i64 0) (v3 := .int .i64 0) (v4 := .int .i64 imm) (v5 := .int .i64 3) Try.results40 rfl ?_ rfl ?_
  · refine six_stores (x0 := .int .i64 0) (x1 := .int .i64 0) (x2 := .int .i64 0) (x3 := .int .i64 0) (x4 := .int .i64 0) (x5 := .int .i64 0) ?_
    repeat' (with_reducible first | exact GA.out | exact hba | exact hBA | refine block_else ?_ ?_)
  refine ⟨rfl, ?_, ?_⟩
  · repeat' (with_reducible first | exact RD.out | exact hBw | exact hBb | refine Rd.bad ?_ | refine Rd.put ?_ ?_)
  · repeat' (with_reducible first | exact XX.out | exact Nat.le_refl _ | exact hwb | refine Ex.setB ?_ _ | refine Ex.put ?_ ?_ _)

set_option maxHeartbeats 4000000 in
theorem add_i (B : Nat) (d n imm : Int) (hd : 0 ≤ d ∧ d ≤ 31) (hn : 0 ≤ n ∧ n ≤ 31) (hi : 0 ≤ imm ∧ imm ≤ 1000000000) (ws : List (List UInt8)) (w : World) (h : Rd w B (regL d :: [44] :: regL n :: [44] :: (35 :: intL imm) :: ws)) :
    Calls Try.prog 41 #[(.pointer (some ⟨B, 0, none⟩))] w (RetR B (.agg #[.int .i64 7, .int .i64 d, .int .i64 n, .int .i64 0, .int .i64 imm, .int .i64 0]) ws w) := by
  have RD := Lib.hid h
  have hBw := h.at.2.2.1
  have XX := Lib.hid (Ex.refl B w)
  clear h
  go_enter Try.func41, Try.ntmps41
  go_wp2_with fail
  obtain ⟨U1, hU⟩ : ∃ U1, U1 = w.alloc (.cells #[.int .i64 0, .int .i64 0, .int .i64 0, .int .i64 0, .int .i64 0, .int .i64 0] 24) := ⟨_, rfl⟩
  have hnA : U1.heap[w.heap.size]? = some (.cells #[.int .i64 0, .int .i64 0, .int .i64 0, .int .i64 0, .int .i64 0, .int .i64 0] 24) := by first | (rw [hU]; exact heap_new _ _ _ rfl) | rw [hU]
  have RD1 : Hid (Rd U1 B _) := Lib.hid (by rw [hU]; exact RD.out.new _)
  have XX1 : Hid (Ex B w U1) := Lib.hid (by rw [hU]; exact XX.out.new _)
  have hs1 : U1.heap.size = w.heap.size + 1 := by rw [hU]; simp
  rw [← hU]
  clear hU RD XX
  have RD := RD1
  have XX := XX1
  clear RD1 XX1
  have GA := Lib.hid hnA
  have hBa : B < w.heap.size := hBw
  have hla : w.heap.size < U1.heap.size := by omega
  clear hnA hs1
  refine (rreg_any B d hd.1 hd.2 _ _ RD.out).mono ?_
  rintro e V2 ⟨rfl, hr, hx⟩
  have RD2 := Lib.hid hr
  have XX2 := Lib.hid (XX.out.trans hx)
  have hsz2 := hx.size
  have ga := (hx.block w.heap.size hla (by omega)).trans GA.out
  clear hr hx RD XX
  have RD := RD2
  have XX := XX2
  clear RD2 XX2
  have hla2 : w.heap.size < V2.heap.size := by omega
  try clear hla
  have hla := hla2
  clear hla2 GA
  have GA := Lib.hid ga
  try clear f1 l1 n1 z0 z1 z2 z3 z4 z5
  obtain ⟨c1, f1, l1, n1⟩ := block_cells ga
  have z0 := c1 0 _ rfl
  have z1 := c1 1 _ rfl
  have z2 := c1 2 _ rfl
  have z3 := c1 3 _ rfl
  have z4 := c1 4 _ rfl
  have z5 := c1 5 _ rfl
  clear c1 ga
  clear hsz2
  go_wp2_with fail
  try clear f1 l1 n1 z0 z1 z2 z3 z4 z5
  obtain ⟨U3, hU⟩ : ∃ U3, U3 = V2.alloc (.cells #[.int .i64 8, .int .i64 d, .int .i64 0, .int .i64 0, .int .i64 0, .int .i64 0] 24) := ⟨_, rfl⟩
  have hnC : U3.heap[V2.heap.size]? = some (.cells #[.int .i64 8, .int .i64 d, .int .i64 0, .int .i64 0, .int .i64 0, .int .i64 0] 24) := by first | (rw [hU]; exact heap_new _ _ _ rfl) | rw [hU]
  have RD3 : Hid (Rd U3 B _) := Lib.hid (by rw [hU]; exact RD.out.new _)
  have XX3 : Hid (Ex B w U3) := Lib.hid (by rw [hU]; exact XX.out.new _)
  have hs3 : U3.heap.size = V2.heap.size + 1 := by rw [hU]; simp
  have GA3 : Hid (U3.heap[w.heap.size]? = some (.cells #[.int .i64 0, .int .i64 0, .int .i64 0, .int .i64 0, .int .i64 0, .int .i64 0] 24)) := Lib.hid (by rw [hU]; exact heap_old _ _ _ _ GA.out)
  rw [← hU]
  clear hU RD XX
  have RD := RD3
  have XX := XX3
  clear RD3 XX3
  clear GA
  have GA := GA3
  clear GA3
  have GC := Lib.hid hnC
  obtain ⟨b, hb⟩ : ∃ b, b = V2.heap.size := ⟨_, rfl⟩
  rw [← hb] at GC hnC hs3 ⊢
  have hBb : B < b := by have := XX.out.size; omega
  have hwb : w.heap.size ≤ b := by omega
  have hlb : b < U3.heap.size := by omega
  have hla : w.heap.size < U3.heap.size := by omega
  have hab : ¬ w.heap.size = b := by omega
  have hba : ¬ b = w.heap.size := by omega
  clear hb hnC hs3
  refine (must_any B [44] _ _ RD.out).mono ?_
  rintro e V4 ⟨rfl, hr, hx⟩
  have RD4 := Lib.hid hr
  have XX4 := Lib.hid (XX.out.trans hx)
  have hsz4 := hx.size
  have ga := (hx.block w.heap.size hla (by omega)).trans GA.out
  have gc := (hx.block b hlb (by omega)).trans GC.out
  clear hr hx RD XX
  have RD := RD4
  have XX := XX4
  clear RD4 XX4
  have hla4 : w.heap.size < V4.heap.size := by omega
  try clear hla
  have hla := hla4
  clear hla4 GA
  have GA := Lib.hid ga
  try clear f1 l1 n1 z0 z1 z2 z3 z4 z5
  obtain ⟨c1, f1, l1, n1⟩ := block_cells ga
  have z0 := c1 0 _ rfl
  have z1 := c1 1 _ rfl
  have z2 := c1 2 _ rfl
  have z3 := c1 3 _ rfl
  have z4 := c1 4 _ rfl
  have z5 := c1 5 _ rfl
  clear c1 ga
  have hlb4 : b < V4.heap.size := by omega
  clear hlb GC
  have hlb := hlb4
  clear hlb4
  have GC := Lib.hid gc
  try clear f2 l2 n2 y0 y1 y2 y3 y4 y5
  obtain ⟨c2, f2, l2, n2⟩ := block_cells gc
  have y0 := c2 0 _ rfl
  have y1 := c2 1 _ rfl
  have y2 := c2 2 _ rfl
  have y3 := c2 3 _ rfl
  have y4 := c2 4 _ rfl
  have y5 := c2 5 _ rfl
  clear c2 gc
  clear hsz4
  go_wp2_with fail
  refine (rreg_any B n hn.1 hn.2 _ _ RD.out).mono ?_
  rintro e V5 ⟨rfl, hr, hx⟩
  have RD5 := Lib.hid hr
  have XX5 := Lib.hid (XX.out.trans hx)
  have hsz5 := hx.size
  have ga := (hx.block w.heap.size hla (by omega)).trans GA.out
  have gc := (hx.block b hlb (by omega)).trans GC.out
  clear hr hx RD XX
  have RD := RD5
  have XX := XX5
  clear RD5 XX5
  have hla5 : w.heap.size < V5.heap.size := by omega
  try clear hla
  have hla := hla5
  clear hla5 GA
  have GA := Lib.hid ga
  try clear f1 l1 n1 z0 z1 z2 z3 z4 z5
  obtain ⟨c1, f1, l1, n1⟩ := block_cells ga
  have z0 := c1 0 _ rfl
  have z1 := c1 1 _ rfl
  have z2 := c1 2 _ rfl
  have z3 := c1 3 _ rfl
  have z4 := c1 4 _ rfl
  have z5 := c1 5 _ rfl
  clear c1 ga
  have hlb5 : b < V5.heap.size := by omega
  clear hlb GC
  have hlb := hlb5
  clear hlb5
  have GC := Lib.hid gc
  try clear f2 l2 n2 y0 y1 y2 y3 y4 y5
  obtain ⟨c2, f2, l2, n2⟩ := block_cells gc
  have y0 := c2 0 _ rfl
  have y1 := c2 1 _ rfl
  have y2 := c2 2 _ rfl
  have y3 := c2 3 _ rfl
  have y4 := c2 4 _ rfl
  have y5 := c2 5 _ rfl
  clear c2 gc
  clear hsz5
  go_wp2_with fail
  try clear f1 l1 n1 z0 z1 z2 z3 z4 z5
  try clear f2 l2 n2 y0 y1 y2 y3 y4 y5
  obtain ⟨W6, hU⟩ : ∃ W6, W6 = V5.setCell ⟨b, 2, none⟩ (.int .i64 n) := ⟨_, rfl⟩
  have GC6 : Hid (W6.heap[b]? = some (.cells #[.int .i64 8, .int .i64 d, .int .i64 n, .int .i64 0, .int .i64 0, .int .i64 0] 24)) := Lib.hid (by rw [hU]; exact block_set GC.out rfl)
  have GA6 : Hid (W6.heap[w.heap.size]? = some (.cells #[.int .i64 0, .int .i64 0, .int .i64 0, .int .i64 0, .int .i64 0, .int .i64 0] 24)) := Lib.hid (by rw [hU]; exact block_else GA.out hba)
  have RD6 : Hid (Rd W6 B _) := Lib.hid (by rw [hU]; exact RD.out.put hBb)
  have XX6 : Hid (Ex B w W6) := Lib.hid (by rw [hU]; exact XX.out.put hwb _)
  have hs6 : W6.heap.size = V5.heap.size := by rw [hU]; simp
  rw [← hU]
  clear hU RD XX GA GC
  have RD := RD6
  have XX := XX6
  have GA := GA6
  have GC := GC6
  clear RD6 XX6 GA6 GC6
  have hlb6 : b < W6.heap.size := by omega
  have hla6 : w.heap.size < W6.heap.size := by omega
  clear hlb hla hs6
  have hlb := hlb6
  have hla := hla6
  clear hlb6 hla6
  refine (must_any B [44] _ _ RD.out).mono ?_
  rintro e V7 ⟨rfl, hr, hx⟩
  have RD7 := Lib.hid hr
  have XX7 := Lib.hid (XX.out.trans hx)
  have hsz7 := hx.size
  have ga := (hx.block w.heap.size hla (by omega)).trans GA.out
  have gc := (hx.block b hlb (by omega)).trans GC.out
  clear hr hx RD XX
  have RD := RD7
  have XX := XX7
  clear RD7 XX7
  have hla7 : w.heap.size < V7.heap.size := by omega
  try clear hla
  have hla := hla7
  clear hla7 GA
  have GA := Lib.hid ga
  try clear f1 l1 n1 z0 z1 z2 z3 z4 z5
  obtain ⟨c1, f1, l1, n1⟩ := block_cells ga
  have z0 := c1 0 _ rfl
  have z1 := c1 1 _ rfl
  have z2 := c1 2 _ rfl
  have z3 := c1 3 _ rfl
  have z4 := c1 4 _ rfl
  have z5 := c1 5 _ rfl
  clear c1 ga
  have hlb7 : b < V7.heap.size := by omega
  clear hlb GC
  have hlb := hlb7
  clear hlb7
  have GC := Lib.hid gc
  try clear f2 l2 n2 y0 y1 y2 y3 y4 y5
  obtain ⟨c2, f2, l2, n2⟩ := block_cells gc
  have y0 := c2 0 _ rfl
  have y1 := c2 1 _ rfl
  have y2 := c2 2 _ rfl
  have y3 := c2 3 _ rfl
  have y4 := c2 4 _ rfl
  have y5 := c2 5 _ rfl
  clear c2 gc
  clear hsz7
  obtain ⟨g, o, q, c, e1, e2⟩ := RD.out.head
  have hq : (0 : Int) < (q : Int) + 1 := by omega
  have hq2 : (0 : Int) ≤ (q : Int) := by omega
  go_wp2_with fail
  refine (pre_any ((35 :: intL imm)) [35] _).mono ?_
  have hpre : Lib.hasPrefix ((35 :: intL imm)) [35] = true := by simp [Lib.hasPrefix, List.isPrefixOf]
  rw [hpre]
  clear hpre
  rintro e V8 ⟨rfl, hb⟩
  have RDx := Lib.hid (RD.out.ex hb (Nat.le_refl _))
  have XXx := Lib.hid (XX.out.trans (Ex.of_below hb))
  have ga := (hb.block w.heap.size hla).trans GA.out
  have gc := (hb.block b hlb).trans GC.out
  have hsz := hb.size
  clear RD XX GA GC hb e1 e2 hq hq2
  have RD := RDx
  have XX := XXx
  have GA := Lib.hid ga
  have GC := Lib.hid gc
  have hla2 : w.heap.size < V8.heap.size := by omega
  have hlb2 : b < V8.heap.size := by omega
  clear RDx XXx hsz hla hlb
  have hla := hla2
  have hlb := hlb2
  clear hla2 hlb2
  try clear f1 l1 n1 z0 z1 z2 z3 z4 z5
  try clear f2 l2 n2 y0 y1 y2 y3 y4 y5
  obtain ⟨c1, f1, l1, n1⟩ := block_cells ga
  have z0 := c1 0 _ rfl
  have z1 := c1 1 _ rfl
  have z2 := c1 2 _ rfl
  have z3 := c1 3 _ rfl
  have z4 := c1 4 _ rfl
  have z5 := c1 5 _ rfl
  clear c1 ga
  obtain ⟨c2, f2, l2, n2⟩ := block_cells gc
  have y0 := c2 0 _ rfl
  have y1 := c2 1 _ rfl
  have y2 := c2 2 _ rfl
  have y3 := c2 3 _ rfl
  have y4 := c2 4 _ rfl
  have y5 := c2 5 _ rfl
  clear c2 gc
  go_wp2_with fail
  refine (countI_any B imm hi _ _ RD.out).mono ?_
  rintro e V9 ⟨rfl, hr, hx⟩
  have RD9 := Lib.hid hr
  have XX9 := Lib.hid (XX.out.trans hx)
  have hsz9 := hx.size
  have ga := (hx.block w.heap.size hla (by omega)).trans GA.out
  have gc := (hx.block b hlb (by omega)).trans GC.out
  clear hr hx RD XX
  have RD := RD9
  have XX := XX9
  clear RD9 XX9
  have hla9 : w.heap.size < V9.heap.size := by omega
  try clear hla
  have hla := hla9
  clear hla9 GA
  have GA := Lib.hid ga
  try clear f1 l1 n1 z0 z1 z2 z3 z4 z5
  obtain ⟨c1, f1, l1, n1⟩ := block_cells ga
  have z0 := c1 0 _ rfl
  have z1 := c1 1 _ rfl
  have z2 := c1 2 _ rfl
  have z3 := c1 3 _ rfl
  have z4 := c1 4 _ rfl
  have z5 := c1 5 _ rfl
  clear c1 ga
  have hlb9 : b < V9.heap.size := by omega
  clear hlb GC
  have hlb := hlb9
  clear hlb9
  have GC := Lib.hid gc
  try clear f2 l2 n2 y0 y1 y2 y3 y4 y5
  obtain ⟨c2, f2, l2, n2⟩ := block_cells gc
  have y0 := c2 0 _ rfl
  have y1 := c2 1 _ rfl
  have y2 := c2 2 _ rfl
  have y3 := c2 3 _ rfl
  have y4 := c2 4 _ rfl
  have y5 := c2 5 _ rfl
  clear c2 gc
  clear hsz9
  go_wp2_with fail
  refine bodyPost_cell6 (A := w.heap.size) (t := 2) (v0 := .int .i64 7) (v1 := .int .i64 d) (v2 := .int .i64 n) (v3 := .int .i64 0) (v4 := .int .i64 imm) (v5 := .int .i64 0) Try.results41 rfl ?_ rfl ?_
  · refine six_stores (x0 := .int .i64 0) (x1 := .int .i64 0) (x2 := .int .i64 0) (x3 := .int .i64 0) (x4 := .int .i64 0) (x5 := .int .i64 0) ?_
    repeat' (with_reducible first | exact GA.out | exact hba | exact hBA | refine block_else ?_ ?_)
  refine ⟨rfl, ?_, ?_⟩
  · repeat' (with_reducible first | exact RD.out | exact hBw | exact hBb | refine Rd.bad ?_ | refine Rd.put ?_ ?_)
  · repeat' (with_reducible first | exact XX.out | exact Nat.le_refl _ | exact hwb | refine Ex.setB ?_ _ | refine Ex.put ?_ ?_ _)

set_option maxHeartbeats 4000000 in
theorem add_r (B : Nat) (d n m : Int) (hd : 0 ≤ d ∧ d ≤ 31) (hn : 0 ≤ n ∧ n ≤ 31) (hm : 0 ≤ m ∧ m ≤ 31) (ws : List (List UInt8)) (w : World) (h : Rd w B (regL d :: [44] :: regL n :: [44] :: regL m :: ws)) :
    Calls Try.prog 41 #[(.pointer (some ⟨B, 0, none⟩))] w (RetR B (.agg #[.int .i64 8, .int .i64 d, .int .i64 n, .int .i64 m, .int .i64 0, .int .i64 0]) ws w) := by
  have RD := Lib.hid h
  have hBw := h.at.2.2.1
  have XX := Lib.hid (Ex.refl B w)
  clear h
  go_enter Try.func41, Try.ntmps41
  go_wp2_with fail
  obtain ⟨U1, hU⟩ : ∃ U1, U1 = w.alloc (.cells #[.int .i64 0, .int .i64 0, .int .i64 0, .int .i64 0, .int .i64 0, .int .i64 0] 24) := ⟨_, rfl⟩
  have hnA : U1.heap[w.heap.size]? = some (.cells #[.int .i64 0, .int .i64 0, .int .i64 0, .int .i64 0, .int .i64 0, .int .i64 0] 24) := by first | (rw [hU]; exact heap_new _ _ _ rfl) | rw [hU]
  have RD1 : Hid (Rd U1 B _) := Lib.hid (by rw [hU]; exact RD.out.new _)
  have XX1 : Hid (Ex B w U1) := Lib.hid (by rw [hU]; exact XX.out.new _)
  have hs1 : U1.heap.size = w.heap.size + 1 := by rw [hU]; simp
  rw [← hU]
  clear hU RD XX
  have RD := RD1
  have XX := XX1
  clear RD1 XX1
  have GA := Lib.hid hnA
  have hBa : B < w.heap.size := hBw
  have hla : w.heap.size < U1.heap.size := by omega
  clear hnA hs1
  refine (rreg_any B d hd.1 hd.2 _ _ RD.out).mono ?_
  rintro e V2 ⟨rfl, hr, hx⟩
  have RD2 := Lib.hid hr
  have XX2 := Lib.hid (XX.out.trans hx)
  have hsz2 := hx.size
  have ga := (hx.block w.heap.size hla (by omega)).trans GA.out
  clear hr hx RD XX
  have RD := RD2
  have XX := XX2
  clear RD2 XX2
  have hla2 : w.heap.size < V2.heap.size := by omega
  try clear hla
  have hla := hla2
  clear hla2 GA
  have GA := Lib.hid ga
  try clear f1 l1 n1 z0 z1 z2 z3 z4 z5
  obtain ⟨c1, f1, l1, n1⟩ := block_cells ga
  have z0 := c1 0 _ rfl
  have z1 := c1 1 _ rfl
  have z2 := c1 2 _ rfl
  have z3 := c1 3 _ rfl
  have z4 := c1 4 _ rfl
  have z5 := c1 5 _ rfl
  clear c1 ga
  clear hsz2
  go_wp2_with fail
  try clear f1 l1 n1 z0 z1 z2 z3 z4 z5
  obtain ⟨U3, hU⟩ : ∃ U3, U3 = V2.alloc (.cells #[.int .i64 8, .int .i64 d, .int .i64 0, .int .i64 0, .int .i64 0, .int .i64 0] 24) := ⟨_, rfl⟩
  have hnC : U3.heap[V2.heap.size]? = some (.cells #[.int .i64 8, .int .i64 d, .int .i64 0, .int .i64 0, .int .i64 0, .int .i64 0] 24) := by first | (rw [hU]; exact heap_new _ _ _ rfl) | rw [hU]
  have RD3 : Hid (Rd U3 B _) := Lib.hid (by rw [hU]; exact RD.out.new _)
  have XX3 : Hid (Ex B w U3) := Lib.hid (by rw [hU]; exact XX.out.new _)
  have hs3 : U3.heap.size = V2.heap.size + 1 := by rw [hU]; simp
  have GA3 : Hid (U3.heap[w.heap.size]? = some (.cells #[.int .i64 0, .int .i64 0, .int .i64 0, .int .i64 0, .int .i64 0, .int .i64 0] 24)) := Lib.hid (by rw [hU]; exact heap_old _ _ _ _ GA.out)
  rw [← hU]
  clear hU RD XX
  have RD := RD3
  have XX := XX3
  clear RD3 XX3
  clear GA
  have GA := GA3
  clear GA3
  have GC := Lib.hid hnC
  obtain ⟨b, hb⟩ : ∃ b, b = V2.heap.size := ⟨_, rfl⟩
  rw [← hb] at GC hnC hs3 ⊢
  have hBb : B < b := by have := XX.out.size; omega
  have hwb : w.heap.size ≤ b := by omega
  have hlb : b < U3.heap.size := by omega
  have hla : w.heap.size < U3.heap.size := by omega
  have hab : ¬ w.heap.size = b := by omega
  have hba : ¬ b = w.heap.size := by omega
  clear hb hnC hs3
  refine (must_any B [44] _ _ RD.out).mono ?_
  rintro e V4 ⟨rfl, hr, hx⟩
  have RD4 := Lib.hid hr
  have XX4 := Lib.hid (XX.out.trans hx)
  have hsz4 := hx.size
  have ga := (hx.block w.heap.size hla (by omega)).trans GA.out
  have gc := (hx.block b hlb (by omega)).trans GC.out
  clear hr hx RD XX
  have RD := RD4
  have XX := XX4
  clear RD4 XX4
  have hla4 : w.heap.size < V4.heap.size := by omega
  try clear hla
  have hla := hla4
  clear hla4 GA
  have GA := Lib.hid ga
  try clear f1 l1 n1 z0 z1 z2 z3 z4 z5
  obtain ⟨c1, f1, l1, n1⟩ := block_cells ga
  have z0 := c1 0 _ rfl
  have z1 := c1 1 _ rfl
  have z2 := c1 2 _ rfl
  have z3 := c1 3 _ rfl
  have z4 := c1 4 _ rfl
  have z5 := c1 5 _ rfl
  clear c1 ga
  have hlb4 : b < V4.heap.size := by omega
  clear hlb GC
  have hlb := hlb4
  clear hlb4
  have GC := Lib.hid gc
  try clear f2 l2 n2 y0 y1 y2 y3 y4 y5
  obtain ⟨c2, f2, l2, n2⟩ := block_cells gc
  have y0 := c2 0 _ rfl
  have y1 := c2 1 _ rfl
  have y2 := c2 2 _ rfl
  have y3 := c2 3 _ rfl
  have y4 := c2 4 _ rfl
  have y5 := c2 5 _ rfl
  clear c2 gc
  clear hsz4
  go_wp2_with fail
  refine (rreg_any B n hn.1 hn.2 _ _ RD.out).mono ?_
  rintro e V5 ⟨rfl, hr, hx⟩
  have RD5 := Lib.hid hr
  have XX5 := Lib.hid (XX.out.trans hx)
  have hsz5 := hx.size
  have ga := (hx.block w.heap.size hla (by omega)).trans GA.out
  have gc := (hx.block b hlb (by omega)).trans GC.out
  clear hr hx RD XX
  have RD := RD5
  have XX := XX5
  clear RD5 XX5
  have hla5 : w.heap.size < V5.heap.size := by omega
  try clear hla
  have hla := hla5
  clear hla5 GA
  have GA := Lib.hid ga
  try clear f1 l1 n1 z0 z1 z2 z3 z4 z5
  obtain ⟨c1, f1, l1, n1⟩ := block_cells ga
  have z0 := c1 0 _ rfl
  have z1 := c1 1 _ rfl
  have z2 := c1 2 _ rfl
  have z3 := c1 3 _ rfl
  have z4 := c1 4 _ rfl
  have z5 := c1 5 _ rfl
  clear c1 ga
  have hlb5 : b < V5.heap.size := by omega
  clear hlb GC
  have hlb := hlb5
  clear hlb5
  have GC := Lib.hid gc
  try clear f2 l2 n2 y0 y1 y2 y3 y4 y5
  obtain ⟨c2, f2, l2, n2⟩ := block_cells gc
  have y0 := c2 0 _ rfl
  have y1 := c2 1 _ rfl
  have y2 := c2 2 _ rfl
  have y3 := c2 3 _ rfl
  have y4 := c2 4 _ rfl
  have y5 := c2 5 _ rfl
  clear c2 gc
  clear hsz5
  go_wp2_with fail
  try clear f1 l1 n1 z0 z1 z2 z3 z4 z5
  try clear f2 l2 n2 y0 y1 y2 y3 y4 y5
  obtain ⟨W6, hU⟩ : ∃ W6, W6 = V5.setCell ⟨b, 2, none⟩ (.int .i64 n) := ⟨_, rfl⟩
  have GC6 : Hid (W6.heap[b]? = some (.cells #[.int .i64 8, .int .i64 d, .int .i64 n, .int .i64 0, .int .i64 0, .int .i64 0] 24)) := Lib.hid (by rw [hU]; exact block_set GC.out rfl)
  have GA6 : Hid (W6.heap[w.heap.size]? = some (.cells #[.int .i64 0, .int .i64 0, .int .i64 0, .int .i64 0, .int .i64 0, .int .i64 0] 24)) := Lib.hid (by rw [hU]; exact block_else GA.out hba)
  have RD6 : Hid (Rd W6 B _) := Lib.hid (by rw [hU]; exact RD.out.put hBb)
  have XX6 : Hid (Ex B w W6) := Lib.hid (by rw [hU]; exact XX.out.put hwb _)
  have hs6 : W6.heap.size = V5.heap.size := by rw [hU]; simp
  rw [← hU]
  clear hU RD XX GA GC
  have RD := RD6
  have XX := XX6
  have GA := GA6
  have GC := GC6
  clear RD6 XX6 GA6 GC6
  have hlb6 : b < W6.heap.size := by omega
  have hla6 : w.heap.size < W6.heap.size := by omega
  clear hlb hla hs6
  have hlb := hlb6
  have hla := hla6
  clear hlb6 hla6
  refine (must_any B [44] _ _ RD.out).mono ?_
  rintro e V7 ⟨rfl, hr, hx⟩
  have RD7 := Lib.hid hr
  have XX7 := Lib.hid (XX.out.trans hx)
  have hsz7 := hx.size
  have ga := (hx.block w.heap.size hla (by omega)).trans GA.out
  have gc := (hx.block b hlb (by omega)).trans GC.out
  clear hr hx RD XX
  have RD := RD7
  have XX := XX7
  clear RD7 XX7
  have hla7 : w.heap.size < V7.heap.size := by omega
  try clear hla
  have hla := hla7
  clear hla7 GA
  have GA := Lib.hid ga
  try clear f1 l1 n1 z0 z1 z2 z3 z4 z5
  obtain ⟨c1, f1, l1, n1⟩ := block_cells ga
  have z0 := c1 0 _ rfl
  have z1 := c1 1 _ rfl
  have z2 := c1 2 _ rfl
  have z3 := c1 3 _ rfl
  have z4 := c1 4 _ rfl
  have z5 := c1 5 _ rfl
  clear c1 ga
  have hlb7 : b < V7.heap.size := by omega
  clear hlb GC
  have hlb := hlb7
  clear hlb7
  have GC := Lib.hid gc
  try clear f2 l2 n2 y0 y1 y2 y3 y4 y5
  obtain ⟨c2, f2, l2, n2⟩ := block_cells gc
  have y0 := c2 0 _ rfl
  have y1 := c2 1 _ rfl
  have y2 := c2 2 _ rfl
  have y3 := c2 3 _ rfl
  have y4 := c2 4 _ rfl
  have y5 := c2 5 _ rfl
  clear c2 gc
  clear hsz7
  obtain ⟨g, o, q, c, e1, e2⟩ := RD.out.head
  have hq : (0 : Int) < (q : Int) + 1 := by omega
  have hq2 : (0 : Int) ≤ (q : Int) := by omega
  go_wp2_with fail
  refine (pre_any (regL m) [35] _).mono ?_
  have hpre : Lib.hasPrefix (regL m) [35] = false := by unfold regL; split <;> simp [Lib.hasPrefix, List.isPrefixOf]
  rw [hpre]
  clear hpre
  rintro e V8 ⟨rfl, hb⟩
  have RDx := Lib.hid (RD.out.ex hb (Nat.le_refl _))
  have XXx := Lib.hid (XX.out.trans (Ex.of_below hb))
  have ga := (hb.block w.heap.size hla).trans GA.out
  have gc := (hb.block b hlb).trans GC.out
  have hsz := hb.size
  clear RD XX GA GC hb e1 e2 hq hq2
  have RD := RDx
  have XX := XXx
  have GA := Lib.hid ga
  have GC := Lib.hid gc
  have hla2 : w.heap.size < V8.heap.size := by omega
  have hlb2 : b < V8.heap.size := by omega
  clear RDx XXx hsz hla hlb
  have hla := hla2
  have hlb := hlb2
  clear hla2 hlb2
  try clear f1 l1 n1 z0 z1 z2 z3 z4 z5
  try clear f2 l2 n2 y0 y1 y2 y3 y4 y5
  obtain ⟨c1, f1, l1, n1⟩ := block_cells ga
  have z0 := c1 0 _ rfl
  have z1 := c1 1 _ rfl
  have z2 := c1 2 _ rfl
  have z3 := c1 3 _ rfl
  have z4 := c1 4 _ rfl
  have z5 := c1 5 _ rfl
  clear c1 ga
  obtain ⟨c2, f2, l2, n2⟩ := block_cells gc
  have y0 := c2 0 _ rfl
  have y1 := c2 1 _ rfl
  have y2 := c2 2 _ rfl
  have y3 := c2 3 _ rfl
  have y4 := c2 4 _ rfl
  have y5 := c2 5 _ rfl
  clear c2 gc
  go_wp2_with fail
  refine (rreg_any B m hm.1 hm.2 _ _ RD.out).mono ?_
  rintro e V9 ⟨rfl, hr, hx⟩
  have RD9 := Lib.hid hr
  have XX9 := Lib.hid (XX.out.trans hx)
  have hsz9 := hx.size
  have ga := (hx.block w.heap.size hla (by omega)).trans GA.out
  have gc := (hx.block b hlb (by omega)).trans GC.out
  clear hr hx RD XX
  have RD := RD9
  have XX := XX9
  clear RD9 XX9
  have hla9 : w.heap.size < V9.heap.size := by omega
  try clear hla
  have hla := hla9
  clear hla9 GA
  have GA := Lib.hid ga
  try clear f1 l1 n1 z0 z1 z2 z3 z4 z5
  obtain ⟨c1, f1, l1, n1⟩ := block_cells ga
  have z0 := c1 0 _ rfl
  have z1 := c1 1 _ rfl
  have z2 := c1 2 _ rfl
  have z3 := c1 3 _ rfl
  have z4 := c1 4 _ rfl
  have z5 := c1 5 _ rfl
  clear c1 ga
  have hlb9 : b < V9.heap.size := by omega
  clear hlb GC
  have hlb := hlb9
  clear hlb9
  have GC := Lib.hid gc
  try clear f2 l2 n2 y0 y1 y2 y3 y4 y5
  obtain ⟨c2, f2, l2, n2⟩ := block_cells gc
  have y0 := c2 0 _ rfl
  have y1 := c2 1 _ rfl
  have y2 := c2 2 _ rfl
  have y3 := c2 3 _ rfl
  have y4 := c2 4 _ rfl
  have y5 := c2 5 _ rfl
  clear c2 gc
  clear hsz9
  go_wp2_with fail
  refine bodyPost_cell6 (A := w.heap.size) (t := 2) (v0 := .int .i64 8) (v1 := .int .i64 d) (v2 := .int .i64 n) (v3 := .int .i64 m) (v4 := .int .i64 0) (v5 := .int .i64 0) Try.results41 rfl ?_ rfl ?_
  · refine six_stores (x0 := .int .i64 0) (x1 := .int .i64 0) (x2 := .int .i64 0) (x3 := .int .i64 0) (x4 := .int .i64 0) (x5 := .int .i64 0) ?_
    repeat' (with_reducible first | exact GA.out | exact hba | exact hBA | refine block_else ?_ ?_)
  refine ⟨rfl, ?_, ?_⟩
  · repeat' (with_reducible first | exact RD.out | exact hBw | exact hBb | refine Rd.bad ?_ | refine Rd.put ?_ ?_)
  · repeat' (with_reducible first | exact XX.out | exact Nat.le_refl _ | exact hwb | refine Ex.setB ?_ _ | refine Ex.put ?_ ?_ _)

set_option maxHeartbeats 4000000 in
theorem flush0 (B : Nat) (K : Nat) (hK : K < 8) (h4 : (K : Int) % 4 = 0) (ws : List (List UInt8)) (w : World) (h : Rd w B (flushL (K : Int) :: ws)) :
    Calls Try.prog 48 #[(.pointer (some ⟨B, 0, none⟩))] w (RetR B (.agg #[.int .i64 21, .int .i64 31, .int .i64 0, .int .i64 0, .int .i64 0, .int .i64 (K : Int)]) ws w) := by
  have ht : ((K : Int) % 4 != 0) = false := by simpa using h4
  clear h4
  have RD := Lib.hid h
  have hBw := h.at.2.2.1
  have XX := Lib.hid (Ex.refl B w)
  clear h
  go_enter Try.func48, Try.ntmps48
  go_wp2_with fail
  obtain ⟨U1, hU⟩ : ∃ U1, U1 = w.alloc (.cells #[.int .i64 0, .int .i64 0, .int .i64 0, .int .i64 0, .int .i64 0, .int .i64 0] 24) := ⟨_, rfl⟩
  have hnA : U1.heap[w.heap.size]? = some (.cells #[.int .i64 0, .int .i64 0, .int .i64 0, .int .i64 0, .int .i64 0, .int .i64 0] 24) := by first | (rw [hU]; exact heap_new _ _ _ rfl) | rw [hU]
  have RD1 : Hid (Rd U1 B _) := Lib.hid (by rw [hU]; exact RD.out.new _)
  have XX1 : Hid (Ex B w U1) := Lib.hid (by rw [hU]; exact XX.out.new _)
  have hs1 : U1.heap.size = w.heap.size + 1 := by rw [hU]; simp
  rw [← hU]
  clear hU RD XX
  have RD := RD1
  have XX := XX1
  clear RD1 XX1
  have GA := Lib.hid hnA
  have hBa : B < w.heap.size := hBw
  have hla : w.heap.size < U1.heap.size := by omega
  clear hnA hs1
  refine (kind_flush B K hK trivial _ _ RD.out).mono ?_
  rintro e V2 ⟨rfl, hr, hx⟩
  have RD2 := Lib.hid hr
  have XX2 := Lib.hid (XX.out.trans hx)
  have hsz2 := hx.size
  have ga := (hx.block w.heap.size hla (by omega)).trans GA.out
  clear hr hx RD XX
  have RD := RD2
  have XX := XX2
  clear RD2 XX2
  have hla2 : w.heap.size < V2.heap.size := by omega
  try clear hla
  have hla := hla2
  clear hla2 GA
  have GA := Lib.hid ga
  try clear f1 l1 n1 z0 z1 z2 z3 z4 z5
  obtain ⟨c1, f1, l1, n1⟩ := block_cells ga
  have z0 := c1 0 _ rfl
  have z1 := c1 1 _ rfl
  have z2 := c1 2 _ rfl
  have z3 := c1 3 _ rfl
  have z4 := c1 4 _ rfl
  have z5 := c1 5 _ rfl
  clear c1 ga
  clear hsz2
  go_wp2_with fail
  have hwb := XX.out.size
  have hBb : B < V2.heap.size := by omega
  refine bodyPost_cell6 (A := w.heap.size) (t := 2) (v0 := .int .i64 21) (v1 := .int .i64 31) (v2 := .int .i64 0) (v3 := .int .i64 0) (v4 := .int .i64 0) (v5 := .int .i64 (K : Int)) Try.results48 rfl ?_ rfl ?_
  · exact heap_old _ _ _ _ (six_stores GA.out)
  refine ⟨rfl, ?_, ?_⟩
  · repeat' (with_reducible first | exact RD.out | exact hBw | exact hBb | refine Rd.new ?_ _ | refine Rd.put ?_ ?_)
  · repeat' (with_reducible first | exact XX.out | exact Nat.le_refl _ | exact hwb | refine Ex.new ?_ _ | refine Ex.put ?_ ?_ _)

set_option maxHeartbeats 4000000 in
theorem flush1 (B : Nat) (K : Nat) (hK : K < 8) (h4 : ¬ (K : Int) % 4 = 0) (d : Int) (hd : 0 ≤ d ∧ d ≤ 31) (ws : List (List UInt8)) (w : World) (h : Rd w B (flushL (K : Int) :: [44] :: regL d :: ws)) :
    Calls Try.prog 48 #[(.pointer (some ⟨B, 0, none⟩))] w (RetR B (.agg #[.int .i64 21, .int .i64 d, .int .i64 0, .int .i64 0, .int .i64 0, .int .i64 (K : Int)]) ws w) := by
  have ht : ((K : Int) % 4 != 0) = true := by simpa using h4
  clear h4
  have RD := Lib.hid h
  have hBw := h.at.2.2.1
  have XX := Lib.hid (Ex.refl B w)
  clear h
  go_enter Try.func48, Try.ntmps48
  go_wp2_with fail
  obtain ⟨U1, hU⟩ : ∃ U1, U1 = w.alloc (.cells #[.int .i64 0, .int .i64 0, .int .i64 0, .int .i64 0, .int .i64 0, .int .i64 0] 24) := ⟨_, rfl⟩
  have hnA : U1.heap[w.heap.size]? = some (.cells #[.int .i64 0, .int .i64 0, .int .i64 0, .int .i64 0, .int .i64 0, .int .i64 0] 24) := by first | (rw [hU]; exact heap_new _ _ _ rfl) | rw [hU]
  have RD1 : Hid (Rd U1 B _) := Lib.hid (by rw [hU]; exact RD.out.new _)
  have XX1 : Hid (Ex B w U1) := Lib.hid (by rw [hU]; exact XX.out.new _)
  have hs1 : U1.heap.size = w.heap.size + 1 := by rw [hU]; simp
  rw [← hU]
  clear hU RD XX
  have RD := RD1
  have XX := XX1
  clear RD1 XX1
  have GA := Lib.hid hnA
  have hBa : B < w.heap.size := hBw
  have hla : w.heap.size < U1.heap.size := by omega
  clear hnA hs1
  refine (kind_flush B K hK trivial _ _ RD.out).mono ?_
  rintro e V2 ⟨rfl, hr, hx⟩
  have RD2 := Lib.hid hr
  have XX2 := Lib.hid (XX.out.trans hx)
  have hsz2 := hx.size
  have ga := (hx.block w.heap.size hla (by omega)).trans GA.out
  clear hr hx RD XX
  have RD := RD2
  have XX := XX2
  clear RD2 XX2
  have hla2 : w.heap.size < V2.heap.size := by omega
  try clear hla
  have hla := hla2
  clear hla2 GA
  have GA := Lib.hid ga
  try clear f1 l1 n1 z0 z1 z2 z3 z4 z5
  obtain ⟨c1, f1, l1, n1⟩ := block_cells ga
  have z0 := c1 0 _ rfl
  have z1 := c1 1 _ rfl
  have z2 := c1 2 _ rfl
  have z3 := c1 3 _ rfl
  have z4 := c1 4 _ rfl
  have z5 := c1 5 _ rfl
  clear c1 ga
  clear hsz2
  go_wp2_with fail
  try clear f1 l1 n1 z0 z1 z2 z3 z4 z5
  obtain ⟨U3, hU⟩ : ∃ U3, U3 = V2.alloc (.cells #[.int .i64 21, .int .i64 31, .int .i64 0, .int .i64 0, .int .i64 0, .int .i64 (K : Int)] 24) := ⟨_, rfl⟩
  have hnC : U3.heap[V2.heap.size]? = some (.cells #[.int .i64 21, .int .i64 31, .int .i64 0, .int .i64 0, .int .i64 0, .int .i64 (K : Int)] 24) := by first | (rw [hU]; exact heap_new _ _ _ rfl) | rw [hU]
  have RD3 : Hid (Rd U3 B _) := Lib.hid (by rw [hU]; exact RD.out.new _)
  have XX3 : Hid (Ex B w U3) := Lib.hid (by rw [hU]; exact XX.out.new _)
  have hs3 : U3.heap.size = V2.heap.size + 1 := by rw [hU]; simp
  have GA3 : Hid (U3.heap[w.heap.size]? = some (.cells #[.int .i64 0, .int .i64 0, .int .i64 0, .int .i64 0, .int .i64 0, .int .i64 0] 24)) := Lib.hid (by rw [hU]; exact heap_old _ _ _ _ GA.out)
  rw [← hU]
  clear hU RD XX
  have RD := RD3
  have XX := XX3
  clear RD3 XX3
  clear GA
  have GA := GA3
  clear GA3
  have GC := Lib.hid hnC
  obtain ⟨b, hb⟩ : ∃ b, b = V2.heap.size := ⟨_, rfl⟩
  rw [← hb] at GC hnC hs3 ⊢
  have hBb : B < b := by have := XX.out.size; omega
  have hwb : w.heap.size ≤ b := by omega
  have hlb : b < U3.heap.size := by omega
  have hla : w.heap.size < U3.heap.size := by omega
  have hab : ¬ w.heap.size = b := by omega
  have hba : ¬ b = w.heap.size := by omega
  clear hb hnC hs3
  refine (must_any B [44] _ _ RD.out).mono ?_
  rintro e V4 ⟨rfl, hr, hx⟩
  have RD4 := Lib.hid hr
  have XX4 := Lib.hid (XX.out.trans hx)
  have hsz4 := hx.size
  have ga := (hx.block w.heap.size hla (by omega)).trans GA.out
  have gc := (hx.block b hlb (by omega)).trans GC.out
  clear hr hx RD XX
  have RD := RD4
  have XX := XX4
  clear RD4 XX4
  have hla4 : w.heap.size < V4.heap.size := by omega
  try clear hla
  have hla := hla4
  clear hla4 GA
  have GA := Lib.hid ga
  try clear f1 l1 n1 z0 z1 z2 z3 z4 z5
  obtain ⟨c1, f1, l1, n1⟩ := block_cells ga
  have z0 := c1 0 _ rfl
  have z1 := c1 1 _ rfl
  have z2 := c1 2 _ rfl
  have z3 := c1 3 _ rfl
  have z4 := c1 4 _ rfl
  have z5 := c1 5 _ rfl
  clear c1 ga
  have hlb4 : b < V4.heap.size := by omega
  clear hlb GC
  have hlb := hlb4
  clear hlb4
  have GC := Lib.hid gc
  try clear f2 l2 n2 y0 y1 y2 y3 y4 y5
  obtain ⟨c2, f2, l2, n2⟩ := block_cells gc
  have y0 := c2 0 _ rfl
  have y1 := c2 1 _ rfl
  have y2 := c2 2 _ rfl
  have y3 := c2 3 _ rfl
  have y4 := c2 4 _ rfl
  have y5 := c2 5 _ rfl
  clear c2 gc
  clear hsz4
  go_wp2_with fail
  refine (rreg_any B d hd.1 hd.2 _ _ RD.out).mono ?_
  rintro e V5 ⟨rfl, hr, hx⟩
  have RD5 := Lib.hid hr
  have XX5 := Lib.hid (XX.out.trans hx)
  have hsz5 := hx.size
  have ga := (hx.block w.heap.size hla (by omega)).trans GA.out
  have gc := (hx.block b hlb (by omega)).trans GC.out
  clear hr hx RD XX
  have RD := RD5
  have XX := XX5
  clear RD5 XX5
  have hla5 : w.heap.size < V5.heap.size := by omega
  try clear hla
  have hla := hla5
  clear hla5 GA
  have GA := Lib.hid ga
  try clear f1 l1 n1 z0 z1 z2 z3 z4 z5
  obtain ⟨c1, f1, l1, n1⟩ := block_cells ga
  have z0 := c1 0 _ rfl
  have z1 := c1 1 _ rfl
  have z2 := c1 2 _ rfl
  have z3 := c1 3 _ rfl
  have z4 := c1 4 _ rfl
  have z5 := c1 5 _ rfl
  clear c1 ga
  have hlb5 : b < V5.heap.size := by omega
  clear hlb GC
  have hlb := hlb5
  clear hlb5
  have GC := Lib.hid gc
  try clear f2 l2 n2 y0 y1 y2 y3 y4 y5
  obtain ⟨c2, f2, l2, n2⟩ := block_cells gc
  have y0 := c2 0 _ rfl
  have y1 := c2 1 _ rfl
  have y2 := c2 2 _ rfl
  have y3 := c2 3 _ rfl
  have y4 := c2 4 _ rfl
  have y5 := c2 5 _ rfl
  clear c2 gc
  clear hsz5
  go_wp2_with fail
  refine bodyPost_cell6 (A := w.heap.size) (t := 2) (v0 := .int .i64 21) (v1 := .int .i64 d) (v2 := .int .i64 0) (v3 := .int .i64 0) (v4 := .int .i64 0) (v5 := .int .i64 (K : Int)) Try.results48 rfl ?_ rfl ?_
  · refine six_stores (x0 := .int .i64 0) (x1 := .int .i64 0) (x2 := .int .i64 0) (x3 := .int .i64 0) (x4 := .int .i64 0) (x5 := .int .i64 0) ?_
    repeat' (with_reducible first | exact GA.out | exact hba | exact hBA | refine block_else ?_ ?_)
  refine ⟨rfl, ?_, ?_⟩
  · repeat' (with_reducible first | exact RD.out | exact hBw | exact hBb | refine Rd.bad ?_ | refine Rd.put ?_ ?_)
  · repeat' (with_reducible first | exact XX.out | exact Nat.le_refl _ | exact hwb | refine Ex.setB ?_ _ | refine Ex.put ?_ ?_ _)

end Go.Proofs.Ytdlodacogldinaa
