/- Contract of the reader's instr, one for each kind of instruction. (Written by gen_told.py.) -/
import Derived.Test.YtdlodacogldinaaMeth
namespace Go.Proofs.Ytdlodacogldinaa
open Go.RowKit
set_option linter.unusedSimpArgs false
set_option linter.unusedVariables false

set_option maxHeartbeats 8000000 in
theorem instr_1 (B : Nat) (w : World) (h : Rd w B ([78, 79, 80] :: [])) :
    Calls Try.prog 22 #[(.pointer (some ⟨B, 0, none⟩))] w (RetR B (.agg #[.int .i64 1, .int .i64 0, .int .i64 0, .int .i64 0, .int .i64 0, .int .i64 0]) [] w) := by
  have RD := Lib.hid h
  have hBw := h.at.2.2.1
  have XX := Lib.hid (Ex.refl B w)
  clear h
  go_enter Try.func22, Try.ntmps22
  go_wp2_with fail
  obtain ⟨U1, hU⟩ : ∃ U1, U1 = w.alloc (.cells #[.int .i64 0, .int .i64 0, .int .i64 0, .int .i64 0, .int .i64 0, .int .i64 0] 24) := ⟨_, rfl⟩
  have hnA : U1.heap[w.heap.size]? = some (.cells #[.int .i64 0, .int .i64 0, .int .i64 0, .int .i64 0, .int .i64 0, .int .i64 0] 24) := by first | (rw [hU]; exact heap_new _ _ _ rfl) | rw [hU]
  have RD1 : Hid (Rd U1 B _) := Lib.hid (by rw [hU]; exact RD.out.new _)
  have XX1 : Hid (Ex B w U1) := Lib.hid (by rw [hU]; exact XX.out.new _)
  have hs1 : U1.heap.size = w.heap.size + 1 := by rw [hU]; simp
  rw [← hU]
  clear hU RD XX
  have RD := RD1
  have XX := XX1
  clear RD1 XX1
  have GA := Lib.hid hnA
  have hla : w.heap.size < U1.heap.size := by omega
  clear hnA hs1
  refine (next_any B _ _ _ RD.out).mono ?_
  rintro e V2 ⟨rfl, hr, hx⟩
  have RD2 := Lib.hid hr
  have XX2 := Lib.hid (XX.out.trans hx)
  have hsz := hx.size
  have ga := (hx.block w.heap.size hla (by omega)).trans GA.out
  clear hr hx RD XX
  have RD := RD2
  have XX := XX2
  clear RD2 XX2
  have hla2 : w.heap.size < V2.heap.size := by omega
  clear hla hsz GA
  have hla := hla2
  clear hla2
  have GA := Lib.hid ga
  try clear f1 l1 n1 z0 z1 z2 z3 z4 z5
  obtain ⟨c1, f1, l1, n1⟩ := block_cells ga
  have z0 := c1 0 _ rfl
  have z1 := c1 1 _ rfl
  have z2 := c1 2 _ rfl
  have z3 := c1 3 _ rfl
  have z4 := c1 4 _ rfl
  have z5 := c1 5 _ rfl
  clear c1 ga
  go_wp2_with fail
  refine bodyPost_cell6 (A := w.heap.size) (t := 2) (v0 := .int .i64 1) (v1 := .int .i64 0) (v2 := .int .i64 0) (v3 := .int .i64 0) (v4 := .int .i64 0) (v5 := .int .i64 0) Try.results22 rfl ?_ rfl ?_
  · refine six_stores (x0 := .int .i64 0) (x1 := .int .i64 0) (x2 := .int .i64 0) (x3 := .int .i64 0) (x4 := .int .i64 0) (x5 := .int .i64 0) ?_
    repeat' (with_reducible first | exact GA.out | exact hba | refine block_else ?_ ?_)
  refine ⟨rfl, ?_, ?_⟩
  · repeat' (with_reducible first | exact RD.out | exact hBw | exact hBb | refine Rd.put ?_ ?_)
  · repeat' (with_reducible first | exact XX.out | exact Nat.le_refl _ | exact hwb | refine Ex.put ?_ ?_ _)

set_option maxHeartbeats 8000000 in
theorem instr_20 (B : Nat) (w : World) (h : Rd w B ([73, 83, 66] :: [])) :
    Calls Try.prog 22 #[(.pointer (some ⟨B, 0, none⟩))] w (RetR B (.agg #[.int .i64 20, .int .i64 0, .int .i64 0, .int .i64 0, .int .i64 0, .int .i64 0]) [] w) := by
  have RD := Lib.hid h
  have hBw := h.at.2.2.1
  have XX := Lib.hid (Ex.refl B w)
  clear h
  go_enter Try.func22, Try.ntmps22
  go_wp2_with fail
  obtain ⟨U1, hU⟩ : ∃ U1, U1 = w.alloc (.cells #[.int .i64 0, .int .i64 0, .int .i64 0, .int .i64 0, .int .i64 0, .int .i64 0] 24) := ⟨_, rfl⟩
  have hnA : U1.heap[w.heap.size]? = some (.cells #[.int .i64 0, .int .i64 0, .int .i64 0, .int .i64 0, .int .i64 0, .int .i64 0] 24) := by first | (rw [hU]; exact heap_new _ _ _ rfl) | rw [hU]
  have RD1 : Hid (Rd U1 B _) := Lib.hid (by rw [hU]; exact RD.out.new _)
  have XX1 : Hid (Ex B w U1) := Lib.hid (by rw [hU]; exact XX.out.new _)
  have hs1 : U1.heap.size = w.heap.size + 1 := by rw [hU]; simp
  rw [← hU]
  clear hU RD XX
  have RD := RD1
  have XX := XX1
  clear RD1 XX1
  have GA := Lib.hid hnA
  have hla : w.heap.size < U1.heap.size := by omega
  clear hnA hs1
  refine (next_any B _ _ _ RD.out).mono ?_
  rintro e V2 ⟨rfl, hr, hx⟩
  have RD2 := Lib.hid hr
  have XX2 := Lib.hid (XX.out.trans hx)
  have hsz := hx.size
  have ga := (hx.block w.heap.size hla (by omega)).trans GA.out
  clear hr hx RD XX
  have RD := RD2
  have XX := XX2
  clear RD2 XX2
  have hla2 : w.heap.size < V2.heap.size := by omega
  clear hla hsz GA
  have hla := hla2
  clear hla2
  have GA := Lib.hid ga
  try clear f1 l1 n1 z0 z1 z2 z3 z4 z5
  obtain ⟨c1, f1, l1, n1⟩ := block_cells ga
  have z0 := c1 0 _ rfl
  have z1 := c1 1 _ rfl
  have z2 := c1 2 _ rfl
  have z3 := c1 3 _ rfl
  have z4 := c1 4 _ rfl
  have z5 := c1 5 _ rfl
  clear c1 ga
  go_wp2_with fail
  refine bodyPost_cell6 (A := w.heap.size) (t := 2) (v0 := .int .i64 20) (v1 := .int .i64 0) (v2 := .int .i64 0) (v3 := .int .i64 0) (v4 := .int .i64 0) (v5 := .int .i64 0) Try.results22 rfl ?_ rfl ?_
  · refine six_stores (x0 := .int .i64 0) (x1 := .int .i64 0) (x2 := .int .i64 0) (x3 := .int .i64 0) (x4 := .int .i64 0) (x5 := .int .i64 0) ?_
    repeat' (with_reducible first | exact GA.out | exact hba | refine block_else ?_ ?_)
  refine ⟨rfl, ?_, ?_⟩
  · repeat' (with_reducible first | exact RD.out | exact hBw | exact hBb | refine Rd.put ?_ ?_)
  · repeat' (with_reducible first | exact XX.out | exact Nat.le_refl _ | exact hwb | refine Ex.put ?_ ?_ _)

set_option maxHeartbeats 8000000 in
theorem instr_22 (B : Nat) (w : World) (h : Rd w B ([69, 82, 69, 84] :: [])) :
    Calls Try.prog 22 #[(.pointer (some ⟨B, 0, none⟩))] w (RetR B (.agg #[.int .i64 22, .int .i64 0, .int .i64 0, .int .i64 0, .int .i64 0, .int .i64 0]) [] w) := by
  have RD := Lib.hid h
  have hBw := h.at.2.2.1
  have XX := Lib.hid (Ex.refl B w)
  clear h
  go_enter Try.func22, Try.ntmps22
  go_wp2_with fail
  obtain ⟨U1, hU⟩ : ∃ U1, U1 = w.alloc (.cells #[.int .i64 0, .int .i64 0, .int .i64 0, .int .i64 0, .int .i64 0, .int .i64 0] 24) := ⟨_, rfl⟩
  have hnA : U1.heap[w.heap.size]? = some (.cells #[.int .i64 0, .int .i64 0, .int .i64 0, .int .i64 0, .int .i64 0, .int .i64 0] 24) := by first | (rw [hU]; exact heap_new _ _ _ rfl) | rw [hU]
  have RD1 : Hid (Rd U1 B _) := Lib.hid (by rw [hU]; exact RD.out.new _)
  have XX1 : Hid (Ex B w U1) := Lib.hid (by rw [hU]; exact XX.out.new _)
  have hs1 : U1.heap.size = w.heap.size + 1 := by rw [hU]; simp
  rw [← hU]
  clear hU RD XX
  have RD := RD1
  have XX := XX1
  clear RD1 XX1
  have GA := Lib.hid hnA
  have hla : w.heap.size < U1.heap.size := by omega
  clear hnA hs1
  refine (next_any B _ _ _ RD.out).mono ?_
  rintro e V2 ⟨rfl, hr, hx⟩
  have RD2 := Lib.hid hr
  have XX2 := Lib.hid (XX.out.trans hx)
  have hsz := hx.size
  have ga := (hx.block w.heap.size hla (by omega)).trans GA.out
  clear hr hx RD XX
  have RD := RD2
  have XX := XX2
  clear RD2 XX2
  have hla2 : w.heap.size < V2.heap.size := by omega
  clear hla hsz GA
  have hla := hla2
  clear hla2
  have GA := Lib.hid ga
  try clear f1 l1 n1 z0 z1 z2 z3 z4 z5
  obtain ⟨c1, f1, l1, n1⟩ := block_cells ga
  have z0 := c1 0 _ rfl
  have z1 := c1 1 _ rfl
  have z2 := c1 2 _ rfl
  have z3 := c1 3 _ rfl
  have z4 := c1 4 _ rfl
  have z5 := c1 5 _ rfl
  clear c1 ga
  go_wp2_with fail
  refine bodyPost_cell6 (A := w.heap.size) (t := 2) (v0 := .int .i64 22) (v1 := .int .i64 0) (v2 := .int .i64 0) (v3 := .int .i64 0) (v4 := .int .i64 0) (v5 := .int .i64 0) Try.results22 rfl ?_ rfl ?_
  · refine six_stores (x0 := .int .i64 0) (x1 := .int .i64 0) (x2 := .int .i64 0) (x3 := .int .i64 0) (x4 := .int .i64 0) (x5 := .int .i64 0) ?_
    repeat' (with_reducible first | exact GA.out | exact hba | refine block_else ?_ ?_)
  refine ⟨rfl, ?_, ?_⟩
  · repeat' (with_reducible first | exact RD.out | exact hBw | exact hBb | refine Rd.put ?_ ?_)
  · repeat' (with_reducible first | exact XX.out | exact Nat.le_refl _ | exact hwb | refine Ex.put ?_ ?_ _)

set_option maxHeartbeats 8000000 in
theorem instr_2_0 (B : Nat) (d n : Int) (hd : 0 ≤ d ∧ d ≤ 31) (hn : 0 ≤ n ∧ n ≤ 31) (w : World) (h : Rd w B ([76, 68, 82] :: regL d :: [44] :: [91] :: regL n :: [93] :: [])) :
    Calls Try.prog 22 #[(.pointer (some ⟨B, 0, none⟩))] w (RetR B (.agg #[.int .i64 2, .int .i64 d, .int .i64 n, .int .i64 0, .int .i64 0, .int .i64 0]) [] w) := by
  have RD := Lib.hid h
  have hBw := h.at.2.2.1
  have XX := Lib.hid (Ex.refl B w)
  clear h
  go_enter Try.func22, Try.ntmps22
  go_wp2_with fail
  obtain ⟨U1, hU⟩ : ∃ U1, U1 = w.alloc (.cells #[.int .i64 0, .int .i64 0, .int .i64 0, .int .i64 0, .int .i64 0, .int .i64 0] 24) := ⟨_, rfl⟩
  have hnA : U1.heap[w.heap.size]? = some (.cells #[.int .i64 0, .int .i64 0, .int .i64 0, .int .i64 0, .int .i64 0, .int .i64 0] 24) := by first | (rw [hU]; exact heap_new _ _ _ rfl) | rw [hU]
  have RD1 : Hid (Rd U1 B _) := Lib.hid (by rw [hU]; exact RD.out.new _)
  have XX1 : Hid (Ex B w U1) := Lib.hid (by rw [hU]; exact XX.out.new _)
  have hs1 : U1.heap.size = w.heap.size + 1 := by rw [hU]; simp
  rw [← hU]
  clear hU RD XX
  have RD := RD1
  have XX := XX1
  clear RD1 XX1
  have GA := Lib.hid hnA
  have hla : w.heap.size < U1.heap.size := by omega
  clear hnA hs1
  refine (next_any B _ _ _ RD.out).mono ?_
  rintro e V2 ⟨rfl, hr, hx⟩
  have RD2 := Lib.hid hr
  have XX2 := Lib.hid (XX.out.trans hx)
  have hsz := hx.size
  have ga := (hx.block w.heap.size hla (by omega)).trans GA.out
  clear hr hx RD XX
  have RD := RD2
  have XX := XX2
  clear RD2 XX2
  have hla2 : w.heap.size < V2.heap.size := by omega
  clear hla hsz GA
  have hla := hla2
  clear hla2
  have GA := Lib.hid ga
  try clear f1 l1 n1 z0 z1 z2 z3 z4 z5
  obtain ⟨c1, f1, l1, n1⟩ := block_cells ga
  have z0 := c1 0 _ rfl
  have z1 := c1 1 _ rfl
  have z2 := c1 2 _ rfl
  have z3 := c1 3 _ rfl
  have z4 := c1 4 _ rfl
  have z5 := c1 5 _ rfl
  clear c1 ga
  go_wp2_with fail
  refine (memory0 B 2 d n hd hn [] _ RD.out).mono ?_
  rintro e V3 ⟨rfl, hr, hx⟩
  have RD3 := Lib.hid hr
  have XX3 := Lib.hid (XX.out.trans hx)
  have hsz := hx.size
  have ga := (hx.block w.heap.size hla (by omega)).trans GA.out
  clear hr hx RD XX
  have RD := RD3
  have XX := XX3
  clear RD3 XX3
  have hla2 : w.heap.size < V3.heap.size := by omega
  clear hla hsz GA
  have hla := hla2
  clear hla2
  have GA := Lib.hid ga
  try clear f1 l1 n1 z0 z1 z2 z3 z4 z5
  obtain ⟨c1, f1, l1, n1⟩ := block_cells ga
  have z0 := c1 0 _ rfl
  have z1 := c1 1 _ rfl
  have z2 := c1 2 _ rfl
  have z3 := c1 3 _ rfl
  have z4 := c1 4 _ rfl
  have z5 := c1 5 _ rfl
  clear c1 ga
  go_wp2_with fail
  refine bodyPost_cell6 (A := w.heap.size) (t := 2) (v0 := .int .i64 2) (v1 := .int .i64 d) (v2 := .int .i64 n) (v3 := .int .i64 0) (v4 := .int .i64 0) (v5 := .int .i64 0) Try.results22 rfl ?_ rfl ?_
  · refine six_stores (x0 := .int .i64 0) (x1 := .int .i64 0) (x2 := .int .i64 0) (x3 := .int .i64 0) (x4 := .int .i64 0) (x5 := .int .i64 0) ?_
    repeat' (with_reducible first | exact GA.out | exact hba | refine block_else ?_ ?_)
  refine ⟨rfl, ?_, ?_⟩
  · repeat' (with_reducible first | exact RD.out | exact hBw | exact hBb | refine Rd.put ?_ ?_)
  · repeat' (with_reducible first | exact XX.out | exact Nat.le_refl _ | exact hwb | refine Ex.put ?_ ?_ _)

set_option maxHeartbeats 8000000 in
theorem instr_2_1 (B : Nat) (d n imm : Int) (hd : 0 ≤ d ∧ d ≤ 31) (hn : 0 ≤ n ∧ n ≤ 31) (hi : 0 ≤ imm ∧ imm ≤ 1000000000) (w : World) (h : Rd w B ([76, 68, 82] :: regL d :: [44] :: [91] :: regL n :: [44] :: (35 :: intL imm) :: [93] :: [])) :
    Calls Try.prog 22 #[(.pointer (some ⟨B, 0, none⟩))] w (RetR B (.agg #[.int .i64 2, .int .i64 d, .int .i64 n, .int .i64 0, .int .i64 imm, .int .i64 0]) [] w) := by
  have RD := Lib.hid h
  have hBw := h.at.2.2.1
  have XX := Lib.hid (Ex.refl B w)
  clear h
  go_enter Try.func22, Try.ntmps22
  go_wp2_with fail
  obtain ⟨U1, hU⟩ : ∃ U1, U1 = w.alloc (.cells #[.int .i64 0, .int .i64 0, .int .i64 0, .int .i64 0, .int .i64 0, .int .i64 0] 24) := ⟨_, rfl⟩
  have hnA : U1.heap[w.heap.size]? = some (.cells #[.int .i64 0, .int .i64 0, .int .i64 0, .int .i64 0, .int .i64 0, .int .i64 0] 24) := by first | (rw [hU]; exact heap_new _ _ _ rfl) | rw [hU]
  have RD1 : Hid (Rd U1 B _) := Lib.hid (by rw [hU]; exact RD.out.new _)
  have XX1 : Hid (Ex B w U1) := Lib.hid (by rw [hU]; exact XX.out.new _)
  have hs1 : U1.heap.size = w.heap.size + 1 := by rw [hU]; simp
  rw [← hU]
  clear hU RD XX
  have RD := RD1
  have XX := XX1
  clear RD1 XX1
  have GA := Lib.hid hnA
  have hla : w.heap.size < U1.heap.size := by omega
  clear hnA hs1
  refine (next_any B _ _ _ RD.out).mono ?_
  rintro e V2 ⟨rfl, hr, hx⟩
  have RD2 := Lib.hid hr
  have XX2 := Lib.hid (XX.out.trans hx)
  have hsz := hx.size
  have ga := (hx.block w.heap.size hla (by omega)).trans GA.out
  clear hr hx RD XX
  have RD := RD2
  have XX := XX2
  clear RD2 XX2
  have hla2 : w.heap.size < V2.heap.size := by omega
  clear hla hsz GA
  have hla := hla2
  clear hla2
  have GA := Lib.hid ga
  try clear f1 l1 n1 z0 z1 z2 z3 z4 z5
  obtain ⟨c1, f1, l1, n1⟩ := block_cells ga
  have z0 := c1 0 _ rfl
  have z1 := c1 1 _ rfl
  have z2 := c1 2 _ rfl
  have z3 := c1 3 _ rfl
  have z4 := c1 4 _ rfl
  have z5 := c1 5 _ rfl
  clear c1 ga
  go_wp2_with fail
  refine (memory1 B 2 d n imm hd hn hi [] _ RD.out).mono ?_
  rintro e V3 ⟨rfl, hr, hx⟩
  have RD3 := Lib.hid hr
  have XX3 := Lib.hid (XX.out.trans hx)
  have hsz := hx.size
  have ga := (hx.block w.heap.size hla (by omega)).trans GA.out
  clear hr hx RD XX
  have RD := RD3
  have XX := XX3
  clear RD3 XX3
  have hla2 : w.heap.size < V3.heap.size := by omega
  clear hla hsz GA
  have hla := hla2
  clear hla2
  have GA := Lib.hid ga
  try clear f1 l1 n1 z0 z1 z2 z3 z4 z5
  obtain ⟨c1, f1, l1, n1⟩ := block_cells ga
  have z0 := c1 0 _ rfl
  have z1 := c1 1 _ rfl
  have z2 := c1 2 _ rfl
  have z3 := c1 3 _ rfl
  have z4 := c1 4 _ rfl
  have z5 := c1 5 _ rfl
  clear c1 ga
  go_wp2_with fail
  refine bodyPost_cell6 (A := w.heap.size) (t := 2) (v0 := .int .i64 2) (v1 := .int .i64 d) (v2 := .int .i64 n) (v3 := .int .i64 0) (v4 := .int .i64 imm) (v5 := .int .i64 0) Try.results22 rfl ?_ rfl ?_
  · refine six_stores (x0 := .int .i64 0) (x1 := .int .i64 0) (x2 := .int .i64 0) (x3 := .int .i64 0) (x4 := .int .i64 0) (x5 := .int .i64 0) ?_
    repeat' (with_reducible first | exact GA.out | exact hba | refine block_else ?_ ?_)
  refine ⟨rfl, ?_, ?_⟩
  · repeat' (with_reducible first | exact RD.out | exact hBw | exact hBb | refine Rd.put ?_ ?_)
  · repeat' (with_reducible first | exact XX.out | exact Nat.le_refl _ | exact hwb | refine Ex.put ?_ ?_ _)

set_option maxHeartbeats 8000000 in
theorem instr_3_0 (B : Nat) (d n : Int) (hd : 0 ≤ d ∧ d ≤ 31) (hn : 0 ≤ n ∧ n ≤ 31) (w : World) (h : Rd w B ([83, 84, 82] :: regL d :: [44] :: [91] :: regL n :: [93] :: [])) :
    Calls Try.prog 22 #[(.pointer (some ⟨B, 0, none⟩))] w (RetR B (.agg #[.int .i64 3, .int .i64 d, .int .i64 n, .int .i64 0, .int .i64 0, .int .i64 0]) [] w) := by
  have RD := Lib.hid h
  have hBw := h.at.2.2.1
  have XX := Lib.hid (Ex.refl B w)
  clear h
  go_enter Try.func22, Try.ntmps22
  go_wp2_with fail
  obtain ⟨U1, hU⟩ : ∃ U1, U1 = w.alloc (.cells #[.int .i64 0, .int .i64 0, .int .i64 0, .int .i64 0, .int .i64 0, .int .i64 0] 24) := ⟨_, rfl⟩
  have hnA : U1.heap[w.heap.size]? = some (.cells #[.int .i64 0, .int .i64 0, .int .i64 0, .int .i64 0, .int .i64 0, .int .i64 0] 24) := by first | (rw [hU]; exact heap_new _ _ _ rfl) | rw [hU]
  have RD1 : Hid (Rd U1 B _) := Lib.hid (by rw [hU]; exact RD.out.new _)
  have XX1 : Hid (Ex B w U1) := Lib.hid (by rw [hU]; exact XX.out.new _)
  have hs1 : U1.heap.size = w.heap.size + 1 := by rw [hU]; simp
  rw [← hU]
  clear hU RD XX
  have RD := RD1
  have XX := XX1
  clear RD1 XX1
  have GA := Lib.hid hnA
  have hla : w.heap.size < U1.heap.size := by omega
  clear hnA hs1
  refine (next_any B _ _ _ RD.out).mono ?_
  rintro e V2 ⟨rfl, hr, hx⟩
  have RD2 := Lib.hid hr
  have XX2 := Lib.hid (XX.out.trans hx)
  have hsz := hx.size
  have ga := (hx.block w.heap.size hla (by omega)).trans GA.out
  clear hr hx RD XX
  have RD := RD2
  have XX := XX2
  clear RD2 XX2
  have hla2 : w.heap.size < V2.heap.size := by omega
  clear hla hsz GA
  have hla := hla2
  clear hla2
  have GA := Lib.hid ga
  try clear f1 l1 n1 z0 z1 z2 z3 z4 z5
  obtain ⟨c1, f1, l1, n1⟩ := block_cells ga
  have z0 := c1 0 _ rfl
  have z1 := c1 1 _ rfl
  have z2 := c1 2 _ rfl
  have z3 := c1 3 _ rfl
  have z4 := c1 4 _ rfl
  have z5 := c1 5 _ rfl
  clear c1 ga
  go_wp2_with fail
  refine (memory0 B 3 d n hd hn [] _ RD.out).mono ?_
  rintro e V3 ⟨rfl, hr, hx⟩
  have RD3 := Lib.hid hr
  have XX3 := Lib.hid (XX.out.trans hx)
  have hsz := hx.size
  have ga := (hx.block w.heap.size hla (by omega)).trans GA.out
  clear hr hx RD XX
  have RD := RD3
  have XX := XX3
  clear RD3 XX3
  have hla2 : w.heap.size < V3.heap.size := by omega
  clear hla hsz GA
  have hla := hla2
  clear hla2
  have GA := Lib.hid ga
  try clear f1 l1 n1 z0 z1 z2 z3 z4 z5
  obtain ⟨c1, f1, l1, n1⟩ := block_cells ga
  have z0 := c1 0 _ rfl
  have z1 := c1 1 _ rfl
  have z2 := c1 2 _ rfl
  have z3 := c1 3 _ rfl
  have z4 := c1 4 _ rfl
  have z5 := c1 5 _ rfl
  clear c1 ga
  go_wp2_with fail
  refine bodyPost_cell6 (A := w.heap.size) (t := 2) (v0 := .int .i64 3) (v1 := .int .i64 d) (v2 := .int .i64 n) (v3 := .int .i64 0) (v4 := .int .i64 0) (v5 := .int .i64 0) Try.results22 rfl ?_ rfl ?_
  · refine six_stores (x0 := .int .i64 0) (x1 := .int .i64 0) (x2 := .int .i64 0) (x3 := .int .i64 0) (x4 := .int .i64 0) (x5 := .int .i64 0) ?_
    repeat' (with_reducible first | exact GA.out | exact hba | refine block_else ?_ ?_)
  refine ⟨rfl, ?_, ?_⟩
  · repeat' (with_reducible first | exact RD.out | exact hBw | exact hBb | refine Rd.put ?_ ?_)
  · repeat' (with_reducible first | exact XX.out | exact Nat.le_refl _ | exact hwb | refine Ex.put ?_ ?_ _)

set_option maxHeartbeats 8000000 in
theorem instr_3_1 (B : Nat) (d n imm : Int) (hd : 0 ≤ d ∧ d ≤ 31) (hn : 0 ≤ n ∧ n ≤ 31) (hi : 0 ≤ imm ∧ imm ≤ 1000000000) (w : World) (h : Rd w B ([83, 84, 82] :: regL d :: [44] :: [91] :: regL n :: [44] :: (35 :: intL imm) :: [93] :: [])) :
    Calls Try.prog 22 #[(.pointer (some ⟨B, 0, none⟩))] w (RetR B (.agg #[.int .i64 3, .int .i64 d, .int .i64 n, .int .i64 0, .int .i64 imm, .int .i64 0]) [] w) := by
  have RD := Lib.hid h
  have hBw := h.at.2.2.1
  have XX := Lib.hid (Ex.refl B w)
  clear h
  go_enter Try.func22, Try.ntmps22
  go_wp2_with fail
  obtain ⟨U1, hU⟩ : ∃ U1, U1 = w.alloc (.cells #[.int .i64 0, .int .i64 0, .int .i64 0, .int .i64 0, .int .i64 0, .int .i64 0] 24) := ⟨_, rfl⟩
  have hnA : U1.heap[w.heap.size]? = some (.cells #[.int .i64 0, .int .i64 0, .int .i64 0, .int .i64 0, .int .i64 0, .int .i64 0] 24) := by first | (rw [hU]; exact heap_new _ _ _ rfl) | rw [hU]
  have RD1 : Hid (Rd U1 B _) := Lib.hid (by rw [hU]; exact RD.out.new _)
  have XX1 : Hid (Ex B w U1) := Lib.hid (by rw [hU]; exact XX.out.new _)
  have hs1 : U1.heap.size = w.heap.size + 1 := by rw [hU]; simp
  rw [← hU]
  clear hU RD XX
  have RD := RD1
  have XX := XX1
  clear RD1 XX1
  have GA := Lib.hid hnA
  have hla : w.heap.size < U1.heap.size := by omega
  clear hnA hs1
  refine (next_any B _ _ _ RD.out).mono ?_
  rintro e V2 ⟨rfl, hr, hx⟩
  have RD2 := Lib.hid hr
  have XX2 := Lib.hid (XX.out.trans hx)
  have hsz := hx.size
  have ga := (hx.block w.heap.size hla (by omega)).trans GA.out
  clear hr hx RD XX
  have RD := RD2
  have XX := XX2
  clear RD2 XX2
  have hla2 : w.heap.size < V2.heap.size := by omega
  clear hla hsz GA
  have hla := hla2
  clear hla2
  have GA := Lib.hid ga
  try clear f1 l1 n1 z0 z1 z2 z3 z4 z5
  obtain ⟨c1, f1, l1, n1⟩ := block_cells ga
  have z0 := c1 0 _ rfl
  have z1 := c1 1 _ rfl
  have z2 := c1 2 _ rfl
  have z3 := c1 3 _ rfl
  have z4 := c1 4 _ rfl
  have z5 := c1 5 _ rfl
  clear c1 ga
  go_wp2_with fail
  refine (memory1 B 3 d n imm hd hn hi [] _ RD.out).mono ?_
  rintro e V3 ⟨rfl, hr, hx⟩
  have RD3 := Lib.hid hr
  have XX3 := Lib.hid (XX.out.trans hx)
  have hsz := hx.size
  have ga := (hx.block w.heap.size hla (by omega)).trans GA.out
  clear hr hx RD XX
  have RD := RD3
  have XX := XX3
  clear RD3 XX3
  have hla2 : w.heap.size < V3.heap.size := by omega
  clear hla hsz GA
  have hla := hla2
  clear hla2
  have GA := Lib.hid ga
  try clear f1 l1 n1 z0 z1 z2 z3 z4 z5
  obtain ⟨c1, f1, l1, n1⟩ := block_cells ga
  have z0 := c1 0 _ rfl
  have z1 := c1 1 _ rfl
  have z2 := c1 2 _ rfl
  have z3 := c1 3 _ rfl
  have z4 := c1 4 _ rfl
  have z5 := c1 5 _ rfl
  clear c1 ga
  go_wp2_with fail
  refine bodyPost_cell6 (A := w.heap.size) (t := 2) (v0 := .int .i64 3) (v1 := .int .i64 d) (v2 := .int .i64 n) (v3 := .int .i64 0) (v4 := .int .i64 imm) (v5 := .int .i64 0) Try.results22 rfl ?_ rfl ?_
  · refine six_stores (x0 := .int .i64 0) (x1 := .int .i64 0) (x2 := .int .i64 0) (x3 := .int .i64 0) (x4 := .int .i64 0) (x5 := .int .i64 0) ?_
    repeat' (with_reducible first | exact GA.out | exact hba | refine block_else ?_ ?_)
  refine ⟨rfl, ?_, ?_⟩
  · repeat' (with_reducible first | exact RD.out | exact hBw | exact hBb | refine Rd.put ?_ ?_)
  · repeat' (with_reducible first | exact XX.out | exact Nat.le_refl _ | exact hwb | refine Ex.put ?_ ?_ _)

set_option maxHeartbeats 8000000 in
theorem instr_4 (B : Nat) (d n : Int) (hd : 0 ≤ d ∧ d ≤ 31) (hn : 0 ≤ n ∧ n ≤ 31) (w : World) (h : Rd w B ([76, 68, 65, 82] :: regL d :: [44] :: [91] :: regL n :: [93] :: [])) :
    Calls Try.prog 22 #[(.pointer (some ⟨B, 0, none⟩))] w (RetR B (.agg #[.int .i64 4, .int .i64 d, .int .i64 n, .int .i64 0, .int .i64 0, .int .i64 0]) [] w) := by
  have RD := Lib.hid h
  have hBw := h.at.2.2.1
  have XX := Lib.hid (Ex.refl B w)
  clear h
  go_enter Try.func22, Try.ntmps22
  go_wp2_with fail
  obtain ⟨U1, hU⟩ : ∃ U1, U1 = w.alloc (.cells #[.int .i64 0, .int .i64 0, .int .i64 0, .int .i64 0, .int .i64 0, .int .i64 0] 24) := ⟨_, rfl⟩
  have hnA : U1.heap[w.heap.size]? = some (.cells #[.int .i64 0, .int .i64 0, .int .i64 0, .int .i64 0, .int .i64 0, .int .i64 0] 24) := by first | (rw [hU]; exact heap_new _ _ _ rfl) | rw [hU]
  have RD1 : Hid (Rd U1 B _) := Lib.hid (by rw [hU]; exact RD.out.new _)
  have XX1 : Hid (Ex B w U1) := Lib.hid (by rw [hU]; exact XX.out.new _)
  have hs1 : U1.heap.size = w.heap.size + 1 := by rw [hU]; simp
  rw [← hU]
  clear hU RD XX
  have RD := RD1
  have XX := XX1
  clear RD1 XX1
  have GA := Lib.hid hnA
  have hla : w.heap.size < U1.heap.size := by omega
  clear hnA hs1
  refine (next_any B _ _ _ RD.out).mono ?_
  rintro e V2 ⟨rfl, hr, hx⟩
  have RD2 := Lib.hid hr
  have XX2 := Lib.hid (XX.out.trans hx)
  have hsz := hx.size
  have ga := (hx.block w.heap.size hla (by omega)).trans GA.out
  clear hr hx RD XX
  have RD := RD2
  have XX := XX2
  clear RD2 XX2
  have hla2 : w.heap.size < V2.heap.size := by omega
  clear hla hsz GA
  have hla := hla2
  clear hla2
  have GA := Lib.hid ga
  try clear f1 l1 n1 z0 z1 z2 z3 z4 z5
  obtain ⟨c1, f1, l1, n1⟩ := block_cells ga
  have z0 := c1 0 _ rfl
  have z1 := c1 1 _ rfl
  have z2 := c1 2 _ rfl
  have z3 := c1 3 _ rfl
  have z4 := c1 4 _ rfl
  have z5 := c1 5 _ rfl
  clear c1 ga
  go_wp2_with fail
  refine (memory0 B 4 d n hd hn [] _ RD.out).mono ?_
  rintro e V3 ⟨rfl, hr, hx⟩
  have RD3 := Lib.hid hr
  have XX3 := Lib.hid (XX.out.trans hx)
  have hsz := hx.size
  have ga := (hx.block w.heap.size hla (by omega)).trans GA.out
  clear hr hx RD XX
  have RD := RD3
  have XX := XX3
  clear RD3 XX3
  have hla2 : w.heap.size < V3.heap.size := by omega
  clear hla hsz GA
  have hla := hla2
  clear hla2
  have GA := Lib.hid ga
  try clear f1 l1 n1 z0 z1 z2 z3 z4 z5
  obtain ⟨c1, f1, l1, n1⟩ := block_cells ga
  have z0 := c1 0 _ rfl
  have z1 := c1 1 _ rfl
  have z2 := c1 2 _ rfl
  have z3 := c1 3 _ rfl
  have z4 := c1 4 _ rfl
  have z5 := c1 5 _ rfl
  clear c1 ga
  go_wp2_with fail
  refine bodyPost_cell6 (A := w.heap.size) (t := 2) (v0 := .int .i64 4) (v1 := .int .i64 d) (v2 := .int .i64 n) (v3 := .int .i64 0) (v4 := .int .i64 0) (v5 := .int .i64 0) Try.results22 rfl ?_ rfl ?_
  · refine six_stores (x0 := .int .i64 0) (x1 := .int .i64 0) (x2 := .int .i64 0) (x3 := .int .i64 0) (x4 := .int .i64 0) (x5 := .int .i64 0) ?_
    repeat' (with_reducible first | exact GA.out | exact hba | refine block_else ?_ ?_)
  refine ⟨rfl, ?_, ?_⟩
  · repeat' (with_reducible first | exact RD.out | exact hBw | exact hBb | refine Rd.put ?_ ?_)
  · repeat' (with_reducible first | exact XX.out | exact Nat.le_refl _ | exact hwb | refine Ex.put ?_ ?_ _)

set_option maxHeartbeats 8000000 in
theorem instr_5 (B : Nat) (d n : Int) (hd : 0 ≤ d ∧ d ≤ 31) (hn : 0 ≤ n ∧ n ≤ 31) (w : World) (h : Rd w B ([83, 84, 76, 82] :: regL d :: [44] :: [91] :: regL n :: [93] :: [])) :
    Calls Try.prog 22 #[(.pointer (some ⟨B, 0, none⟩))] w (RetR B (.agg #[.int .i64 5, .int .i64 d, .int .i64 n, .int .i64 0, .int .i64 0, .int .i64 0]) [] w) := by
  have RD := Lib.hid h
  have hBw := h.at.2.2.1
  have XX := Lib.hid (Ex.refl B w)
  clear h
  go_enter Try.func22, Try.ntmps22
  go_wp2_with fail
  obtain ⟨U1, hU⟩ : ∃ U1, U1 = w.alloc (.cells #[.int .i64 0, .int .i64 0, .int .i64 0, .int .i64 0, .int .i64 0, .int .i64 0] 24) := ⟨_, rfl⟩
  have hnA : U1.heap[w.heap.size]? = some (.cells #[.int .i64 0, .int .i64 0, .int .i64 0, .int .i64 0, .int .i64 0, .int .i64 0] 24) := by first | (rw [hU]; exact heap_new _ _ _ rfl) | rw [hU]
  have RD1 : Hid (Rd U1 B _) := Lib.hid (by rw [hU]; exact RD.out.new _)
  have XX1 : Hid (Ex B w U1) := Lib.hid (by rw [hU]; exact XX.out.new _)
  have hs1 : U1.heap.size = w.heap.size + 1 := by rw [hU]; simp
  rw [← hU]
  clear hU RD XX
  have RD := RD1
  have XX := XX1
  clear RD1 XX1
  have GA := Lib.hid hnA
  have hla : w.heap.size < U1.heap.size := by omega
  clear hnA hs1
  refine (next_any B _ _ _ RD.out).mono ?_
  rintro e V2 ⟨rfl, hr, hx⟩
  have RD2 := Lib.hid hr
  have XX2 := Lib.hid (XX.out.trans hx)
  have hsz := hx.size
  have ga := (hx.block w.heap.size hla (by omega)).trans GA.out
  clear hr hx RD XX
  have RD := RD2
  have XX := XX2
  clear RD2 XX2
  have hla2 : w.heap.size < V2.heap.size := by omega
  clear hla hsz GA
  have hla := hla2
  clear hla2
  have GA := Lib.hid ga
  try clear f1 l1 n1 z0 z1 z2 z3 z4 z5
  obtain ⟨c1, f1, l1, n1⟩ := block_cells ga
  have z0 := c1 0 _ rfl
  have z1 := c1 1 _ rfl
  have z2 := c1 2 _ rfl
  have z3 := c1 3 _ rfl
  have z4 := c1 4 _ rfl
  have z5 := c1 5 _ rfl
  clear c1 ga
  go_wp2_with fail
  refine (memory0 B 5 d n hd hn [] _ RD.out).mono ?_
  rintro e V3 ⟨rfl, hr, hx⟩
  have RD3 := Lib.hid hr
  have XX3 := Lib.hid (XX.out.trans hx)
  have hsz := hx.size
  have ga := (hx.block w.heap.size hla (by omega)).trans GA.out
  clear hr hx RD XX
  have RD := RD3
  have XX := XX3
  clear RD3 XX3
  have hla2 : w.heap.size < V3.heap.size := by omega
  clear hla hsz GA
  have hla := hla2
  clear hla2
  have GA := Lib.hid ga
  try clear f1 l1 n1 z0 z1 z2 z3 z4 z5
  obtain ⟨c1, f1, l1, n1⟩ := block_cells ga
  have z0 := c1 0 _ rfl
  have z1 := c1 1 _ rfl
  have z2 := c1 2 _ rfl
  have z3 := c1 3 _ rfl
  have z4 := c1 4 _ rfl
  have z5 := c1 5 _ rfl
  clear c1 ga
  go_wp2_with fail
  refine bodyPost_cell6 (A := w.heap.size) (t := 2) (v0 := .int .i64 5) (v1 := .int .i64 d) (v2 := .int .i64 n) (v3 := .int .i64 0) (v4 := .int .i64 0) (v5 := .int .i64 0) Try.results22 rfl ?_ rfl ?_
  · refine six_stores (x0 := .int .i64 0) (x1 := .int .i64 0) (x2 := .int .i64 0) (x3 := .int .i64 0) (x4 := .int .i64 0) (x5 := .int .i64 0) ?_
    repeat' (with_reducible first | exact GA.out | exact hba | refine block_else ?_ ?_)
  refine ⟨rfl, ?_, ?_⟩
  · repeat' (with_reducible first | exact RD.out | exact hBw | exact hBb | refine Rd.put ?_ ?_)
  · repeat' (with_reducible first | exact XX.out | exact Nat.le_refl _ | exact hwb | refine Ex.put ?_ ?_ _)

set_option maxHeartbeats 8000000 in
theorem instr_6_0 (B : Nat) (d imm : Int) (hd : 0 ≤ d ∧ d ≤ 31) (hi : 0 ≤ imm ∧ imm ≤ 1000000000) (w : World) (h : Rd w B ([77, 79, 86] :: regL d :: [44] :: (35 :: intL imm) :: [])) :
    Calls Try.prog 22 #[(.pointer (some ⟨B, 0, none⟩))] w (RetR B (.agg #[.int .i64 6, .int .i64 d, .int .i64 0, .int .i64 0, .int .i64 imm, .int .i64 0]) [] w) := by
  have RD := Lib.hid h
  have hBw := h.at.2.2.1
  have XX := Lib.hid (Ex.refl B w)
  clear h
  go_enter Try.func22, Try.ntmps22
  go_wp2_with fail
  obtain ⟨U1, hU⟩ : ∃ U1, U1 = w.alloc (.cells #[.int .i64 0, .int .i64 0, .int .i64 0, .int .i64 0, .int .i64 0, .int .i64 0] 24) := ⟨_, rfl⟩
  have hnA : U1.heap[w.heap.size]? = some (.cells #[.int .i64 0, .int .i64 0, .int .i64 0, .int .i64 0, .int .i64 0, .int .i64 0] 24) := by first | (rw [hU]; exact heap_new _ _ _ rfl) | rw [hU]
  have RD1 : Hid (Rd U1 B _) := Lib.hid (by rw [hU]; exact RD.out.new _)
  have XX1 : Hid (Ex B w U1) := Lib.hid (by rw [hU]; exact XX.out.new _)
  have hs1 : U1.heap.size = w.heap.size + 1 := by rw [hU]; simp
  rw [← hU]
  clear hU RD XX
  have RD := RD1
  have XX := XX1
  clear RD1 XX1
  have GA := Lib.hid hnA
  have hla : w.heap.size < U1.heap.size := by omega
  clear hnA hs1
  refine (next_any B _ _ _ RD.out).mono ?_
  rintro e V2 ⟨rfl, hr, hx⟩
  have RD2 := Lib.hid hr
  have XX2 := Lib.hid (XX.out.trans hx)
  have hsz := hx.size
  have ga := (hx.block w.heap.size hla (by omega)).trans GA.out
  clear hr hx RD XX
  have RD := RD2
  have XX := XX2
  clear RD2 XX2
  have hla2 : w.heap.size < V2.heap.size := by omega
  clear hla hsz GA
  have hla := hla2
  clear hla2
  have GA := Lib.hid ga
  try clear f1 l1 n1 z0 z1 z2 z3 z4 z5
  obtain ⟨c1, f1, l1, n1⟩ := block_cells ga
  have z0 := c1 0 _ rfl
  have z1 := c1 1 _ rfl
  have z2 := c1 2 _ rfl
  have z3 := c1 3 _ rfl
  have z4 := c1 4 _ rfl
  have z5 := c1 5 _ rfl
  clear c1 ga
  go_wp2_with fail
  refine (move0 B d imm hd hi _ RD.out).mono ?_
  rintro e V3 ⟨rfl, hr, hx⟩
  have RD3 := Lib.hid hr
  have XX3 := Lib.hid (XX.out.trans hx)
  have hsz := hx.size
  have ga := (hx.block w.heap.size hla (by omega)).trans GA.out
  clear hr hx RD XX
  have RD := RD3
  have XX := XX3
  clear RD3 XX3
  have hla2 : w.heap.size < V3.heap.size := by omega
  clear hla hsz GA
  have hla := hla2
  clear hla2
  have GA := Lib.hid ga
  try clear f1 l1 n1 z0 z1 z2 z3 z4 z5
  obtain ⟨c1, f1, l1, n1⟩ := block_cells ga
  have z0 := c1 0 _ rfl
  have z1 := c1 1 _ rfl
  have z2 := c1 2 _ rfl
  have z3 := c1 3 _ rfl
  have z4 := c1 4 _ rfl
  have z5 := c1 5 _ rfl
  clear c1 ga
  go_wp2_with fail
  refine bodyPost_cell6 (A := w.heap.size) (t := 2) (v0 := .int .i64 6) (v1 := .int .i64 d) (v2 := .int .i64 0) (v3 := .int .i64 0) (v4 := .int .i64 imm) (v5 := .int .i64 0) Try.results22 rfl ?_ rfl ?_
  · refine six_stores (x0 := .int .i64 0) (x1 := .int .i64 0) (x2 := .int .i64 0) (x3 := .int .i64 0) (x4 := .int .i64 0) (x5 := .int .i64 0) ?_
    repeat' (with_reducible first | exact GA.out | exact hba | refine block_else ?_ ?_)
  refine ⟨rfl, ?_, ?_⟩
  · repeat' (with_reducible first | exact RD.out | exact hBw | exact hBb | refine Rd.put ?_ ?_)
  · repeat' (with_reducible first | exact XX.out | exact Nat.le_refl _ | exact hwb | refine Ex.put ?_ ?_ _)

set_option maxHeartbeats 8000000 in
theorem instr_6_1 (B : Nat) (d imm : Int) (hd : 0 ≤ d ∧ d ≤ 31) (hi : 0 ≤ imm ∧ imm ≤ 1000000000) (w : World) (h : Rd w B ([77, 79, 86, 90] :: regL d :: [44] :: (35 :: intL imm) :: [44] :: [76, 83, 76] :: (35 :: intL 16) :: [])) :
    Calls Try.prog 22 #[(.pointer (some ⟨B, 0, none⟩))] w (RetR B (.agg #[.int .i64 6, .int .i64 d, .int .i64 0, .int .i64 0, .int .i64 imm, .int .i64 1]) [] w) := by
  have RD := Lib.hid h
  have hBw := h.at.2.2.1
  have XX := Lib.hid (Ex.refl B w)
  clear h
  go_enter Try.func22, Try.ntmps22
  go_wp2_with fail
  obtain ⟨U1, hU⟩ : ∃ U1, U1 = w.alloc (.cells #[.int .i64 0, .int .i64 0, .int .i64 0, .int .i64 0, .int .i64 0, .int .i64 0] 24) := ⟨_, rfl⟩
  have hnA : U1.heap[w.heap.size]? = some (.cells #[.int .i64 0, .int .i64 0, .int .i64 0, .int .i64 0, .int .i64 0, .int .i64 0] 24) := by first | (rw [hU]; exact heap_new _ _ _ rfl) | rw [hU]
  have RD1 : Hid (Rd U1 B _) := Lib.hid (by rw [hU]; exact RD.out.new _)
  have XX1 : Hid (Ex B w U1) := Lib.hid (by rw [hU]; exact XX.out.new _)
  have hs1 : U1.heap.size = w.heap.size + 1 := by rw [hU]; simp
  rw [← hU]
  clear hU RD XX
  have RD := RD1
  have XX := XX1
  clear RD1 XX1
  have GA := Lib.hid hnA
  have hla : w.heap.size < U1.heap.size := by omega
  clear hnA hs1
  refine (next_any B _ _ _ RD.out).mono ?_
  rintro e V2 ⟨rfl, hr, hx⟩
  have RD2 := Lib.hid hr
  have XX2 := Lib.hid (XX.out.trans hx)
  have hsz := hx.size
  have ga := (hx.block w.heap.size hla (by omega)).trans GA.out
  clear hr hx RD XX
  have RD := RD2
  have XX := XX2
  clear RD2 XX2
  have hla2 : w.heap.size < V2.heap.size := by omega
  clear hla hsz GA
  have hla := hla2
  clear hla2
  have GA := Lib.hid ga
  try clear f1 l1 n1 z0 z1 z2 z3 z4 z5
  obtain ⟨c1, f1, l1, n1⟩ := block_cells ga
  have z0 := c1 0 _ rfl
  have z1 := c1 1 _ rfl
  have z2 := c1 2 _ rfl
  have z3 := c1 3 _ rfl
  have z4 := c1 4 _ rfl
  have z5 := c1 5 _ rfl
  clear c1 ga
  go_wp2_with fail
  refine (move1 B d imm hd hi [] _ RD.out).mono ?_
  rintro e V3 ⟨rfl, hr, hx⟩
  have RD3 := Lib.hid hr
  have XX3 := Lib.hid (XX.out.trans hx)
  have hsz := hx.size
  have ga := (hx.block w.heap.size hla (by omega)).trans GA.out
  clear hr hx RD XX
  have RD := RD3
  have XX := XX3
  clear RD3 XX3
  have hla2 : w.heap.size < V3.heap.size := by omega
  clear hla hsz GA
  have hla := hla2
  clear hla2
  have GA := Lib.hid ga
  try clear f1 l1 n1 z0 z1 z2 z3 z4 z5
  obtain ⟨c1, f1, l1, n1⟩ := block_cells ga
  have z0 := c1 0 _ rfl
  have z1 := c1 1 _ rfl
  have z2 := c1 2 _ rfl
  have z3 := c1 3 _ rfl
  have z4 := c1 4 _ rfl
  have z5 := c1 5 _ rfl
  clear c1 ga
  go_wp2_with fail
  refine bodyPost_cell6 (A := w.heap.size) (t := 2) (v0 := .int .i64 6) (v1 := .int .i64 d) (v2 := .int .i64 0) (v3 := .int .i64 0) (v4 := .int .i64 imm) (v5 := .int .i64 1) Try.results22 rfl ?_ rfl ?_
  · refine six_stores (x0 := .int .i64 0) (x1 := .int .i64 0) (x2 := .int .i64 0) (x3 := .int .i64 0) (x4 := .int .i64 0) (x5 := .int .i64 0) ?_
    repeat' (with_reducible first | exact GA.out | exact hba | refine block_else ?_ ?_)
  refine ⟨rfl, ?_, ?_⟩
  · repeat' (with_reducible first | exact RD.out | exact hBw | exact hBb | refine Rd.put ?_ ?_)
  · repeat' (with_reducible first | exact XX.out | exact Nat.le_refl _ | exact hwb | refine Ex.put ?_ ?_ _)

set_option maxHeartbeats 8000000 in
theorem instr_6_2 (B : Nat) (d imm : Int) (hd : 0 ≤ d ∧ d ≤ 31) (hi : 0 ≤ imm ∧ imm ≤ 1000000000) (w : World) (h : Rd w B ([77, 79, 86, 90] :: regL d :: [44] :: (35 :: intL imm) :: [44] :: [76, 83, 76] :: (35 :: intL 32) :: [])) :
    Calls Try.prog 22 #[(.pointer (some ⟨B, 0, none⟩))] w (RetR B (.agg #[.int .i64 6, .int .i64 d, .int .i64 0, .int .i64 0, .int .i64 imm, .int .i64 2]) [] w) := by
  have RD := Lib.hid h
  have hBw := h.at.2.2.1
  have XX := Lib.hid (Ex.refl B w)
  clear h
  go_enter Try.func22, Try.ntmps22
  go_wp2_with fail
  obtain ⟨U1, hU⟩ : ∃ U1, U1 = w.alloc (.cells #[.int .i64 0, .int .i64 0, .int .i64 0, .int .i64 0, .int .i64 0, .int .i64 0] 24) := ⟨_, rfl⟩
  have hnA : U1.heap[w.heap.size]? = some (.cells #[.int .i64 0, .int .i64 0, .int .i64 0, .int .i64 0, .int .i64 0, .int .i64 0] 24) := by first | (rw [hU]; exact heap_new _ _ _ rfl) | rw [hU]
  have RD1 : Hid (Rd U1 B _) := Lib.hid (by rw [hU]; exact RD.out.new _)
  have XX1 : Hid (Ex B w U1) := Lib.hid (by rw [hU]; exact XX.out.new _)
  have hs1 : U1.heap.size = w.heap.size + 1 := by rw [hU]; simp
  rw [← hU]
  clear hU RD XX
  have RD := RD1
  have XX := XX1
  clear RD1 XX1
  have GA := Lib.hid hnA
  have hla : w.heap.size < U1.heap.size := by omega
  clear hnA hs1
  refine (next_any B _ _ _ RD.out).mono ?_
  rintro e V2 ⟨rfl, hr, hx⟩
  have RD2 := Lib.hid hr
  have XX2 := Lib.hid (XX.out.trans hx)
  have hsz := hx.size
  have ga := (hx.block w.heap.size hla (by omega)).trans GA.out
  clear hr hx RD XX
  have RD := RD2
  have XX := XX2
  clear RD2 XX2
  have hla2 : w.heap.size < V2.heap.size := by omega
  clear hla hsz GA
  have hla := hla2
  clear hla2
  have GA := Lib.hid ga
  try clear f1 l1 n1 z0 z1 z2 z3 z4 z5
  obtain ⟨c1, f1, l1, n1⟩ := block_cells ga
  have z0 := c1 0 _ rfl
  have z1 := c1 1 _ rfl
  have z2 := c1 2 _ rfl
  have z3 := c1 3 _ rfl
  have z4 := c1 4 _ rfl
  have z5 := c1 5 _ rfl
  clear c1 ga
  go_wp2_with fail
  refine (move2 B d imm hd hi [] _ RD.out).mono ?_
  rintro e V3 ⟨rfl, hr, hx⟩
  have RD3 := Lib.hid hr
  have XX3 := Lib.hid (XX.out.trans hx)
  have hsz := hx.size
  have ga := (hx.block w.heap.size hla (by omega)).trans GA.out
  clear hr hx RD XX
  have RD := RD3
  have XX := XX3
  clear RD3 XX3
  have hla2 : w.heap.size < V3.heap.size := by omega
  clear hla hsz GA
  have hla := hla2
  clear hla2
  have GA := Lib.hid ga
  try clear f1 l1 n1 z0 z1 z2 z3 z4 z5
  obtain ⟨c1, f1, l1, n1⟩ := block_cells ga
  have z0 := c1 0 _ rfl
  have z1 := c1 1 _ rfl
  have z2 := c1 2 _ rfl
  have z3 := c1 3 _ rfl
  have z4 := c1 4 _ rfl
  have z5 := c1 5 _ rfl
  clear c1 ga
  go_wp2_with fail
  refine bodyPost_cell6 (A := w.heap.size) (t := 2) (v0 := .int .i64 6) (v1 := .int .i64 d) (v2 := .int .i64 0) (v3 := .int .i64 0) (v4 := .int .i64 imm) (v5 := .int .i64 2) Try.results22 rfl ?_ rfl ?_
  · refine six_stores (x0 := .int .i64 0) (x1 := .int .i64 0) (x2 := .int .i64 0) (x3 := .int .i64 0) (x4 := .int .i64 0) (x5 := .int .i64 0) ?_
    repeat' (with_reducible first | exact GA.out | exact hba | refine block_else ?_ ?_)
  refine ⟨rfl, ?_, ?_⟩
  · repeat' (with_reducible first | exact RD.out | exact hBw | exact hBb | refine Rd.put ?_ ?_)
  · repeat' (with_reducible first | exact XX.out | exact Nat.le_refl _ | exact hwb | refine Ex.put ?_ ?_ _)

set_option maxHeartbeats 8000000 in
theorem instr_6_3 (B : Nat) (d imm : Int) (hd : 0 ≤ d ∧ d ≤ 31) (hi : 0 ≤ imm ∧ imm ≤ 1000000000) (w : World) (h : Rd w B ([77, 79, 86, 90] :: regL d :: [44] :: (35 :: intL imm) :: [44] :: [76, 83, 76] :: (35 :: intL 48) :: [])) :
    Calls Try.prog 22 #[(.pointer (some ⟨B, 0, none⟩))] w (RetR B (.agg #[.int .i64 6, .int .i64 d, .int .i64 0, .int .i64 0, .int .i64 imm, .int .i64 3]) [] w) := by
  have RD := Lib.hid h
  have hBw := h.at.2.2.1
  have XX := Lib.hid (Ex.refl B w)
  clear h
  go_enter Try.func22, Try.ntmps22
  go_wp2_with fail
  obtain ⟨U1, hU⟩ : ∃ U1, U1 = w.alloc (.cells #[.int .i64 0, .int .i64 0, .int .i64 0, .int .i64 0, .int .i64 0, .int .i64 0] 24) := ⟨_, rfl⟩
  have hnA : U1.heap[w.heap.size]? = some (.cells #[.int .i64 0, .int .i64 0, .int .i64 0, .int .i64 0, .int .i64 0, .int .i64 0] 24) := by first | (rw [hU]; exact heap_new _ _ _ rfl) | rw [hU]
  have RD1 : Hid (Rd U1 B _) := Lib.hid (by rw [hU]; exact RD.out.new _)
  have XX1 : Hid (Ex B w U1) := Lib.hid (by rw [hU]; exact XX.out.new _)
  have hs1 : U1.heap.size = w.heap.size + 1 := by rw [hU]; simp
  rw [← hU]
  clear hU RD XX
  have RD := RD1
  have XX := XX1
  clear RD1 XX1
  have GA := Lib.hid hnA
  have hla : w.heap.size < U1.heap.size := by omega
  clear hnA hs1
  refine (next_any B _ _ _ RD.out).mono ?_
  rintro e V2 ⟨rfl, hr, hx⟩
  have RD2 := Lib.hid hr
  have XX2 := Lib.hid (XX.out.trans hx)
  have hsz := hx.size
  have ga := (hx.block w.heap.size hla (by omega)).trans GA.out
  clear hr hx RD XX
  have RD := RD2
  have XX := XX2
  clear RD2 XX2
  have hla2 : w.heap.size < V2.heap.size := by omega
  clear hla hsz GA
  have hla := hla2
  clear hla2
  have GA := Lib.hid ga
  try clear f1 l1 n1 z0 z1 z2 z3 z4 z5
  obtain ⟨c1, f1, l1, n1⟩ := block_cells ga
  have z0 := c1 0 _ rfl
  have z1 := c1 1 _ rfl
  have z2 := c1 2 _ rfl
  have z3 := c1 3 _ rfl
  have z4 := c1 4 _ rfl
  have z5 := c1 5 _ rfl
  clear c1 ga
  go_wp2_with fail
  refine (move3 B d imm hd hi [] _ RD.out).mono ?_
  rintro e V3 ⟨rfl, hr, hx⟩
  have RD3 := Lib.hid hr
  have XX3 := Lib.hid (XX.out.trans hx)
  have hsz := hx.size
  have ga := (hx.block w.heap.size hla (by omega)).trans GA.out
  clear hr hx RD XX
  have RD := RD3
  have XX := XX3
  clear RD3 XX3
  have hla2 : w.heap.size < V3.heap.size := by omega
  clear hla hsz GA
  have hla := hla2
  clear hla2
  have GA := Lib.hid ga
  try clear f1 l1 n1 z0 z1 z2 z3 z4 z5
  obtain ⟨c1, f1, l1, n1⟩ := block_cells ga
  have z0 := c1 0 _ rfl
  have z1 := c1 1 _ rfl
  have z2 := c1 2 _ rfl
  have z3 := c1 3 _ rfl
  have z4 := c1 4 _ rfl
  have z5 := c1 5 _ rfl
  clear c1 ga
  go_wp2_with fail
  refine bodyPost_cell6 (A := w.heap.size) (t := 2) (v0 := .int .i64 6) (v1 := .int .i64 d) (v2 := .int .i64 0) (v3 := .int .i64 0) (v4 := .int .i64 imm) (v5 := .int .i64 3) Try.results22 rfl ?_ rfl ?_
  · refine six_stores (x0 := .int .i64 0) (x1 := .int .i64 0) (x2 := .int .i64 0) (x3 := .int .i64 0) (x4 := .int .i64 0) (x5 := .int .i64 0) ?_
    repeat' (with_reducible first | exact GA.out | exact hba | refine block_else ?_ ?_)
  refine ⟨rfl, ?_, ?_⟩
  · repeat' (with_reducible first | exact RD.out | exact hBw | exact hBb | refine Rd.put ?_ ?_)
  · repeat' (with_reducible first | exact XX.out | exact Nat.le_refl _ | exact hwb | refine Ex.put ?_ ?_ _)

set_option maxHeartbeats 8000000 in
theorem instr_7 (B : Nat) (d n imm : Int) (hd : 0 ≤ d ∧ d ≤ 31) (hn : 0 ≤ n ∧ n ≤ 31) (hi : 0 ≤ imm ∧ imm ≤ 1000000000) (w : World) (h : Rd w B ([65, 68, 68] :: regL d :: [44] :: regL n :: [44] :: (35 :: intL imm) :: [])) :
    Calls Try.prog 22 #[(.pointer (some ⟨B, 0, none⟩))] w (RetR B (.agg #[.int .i64 7, .int .i64 d, .int .i64 n, .int .i64 0, .int .i64 imm, .int .i64 0]) [] w) := by
  have RD := Lib.hid h
  have hBw := h.at.2.2.1
  have XX := Lib.hid (Ex.refl B w)
  clear h
  go_enter Try.func22, Try.ntmps22
  go_wp2_with fail
  obtain ⟨U1, hU⟩ : ∃ U1, U1 = w.alloc (.cells #[.int .i64 0, .int .i64 0, .int .i64 0, .int .i64 0, .int .i64 0, .int .i64 0] 24) := ⟨_, rfl⟩
  have hnA : U1.heap[w.heap.size]? = some (.cells #[.int .i64 0, .int .i64 0, .int .i64 0, .int .i64 0, .int .i64 0, .int .i64 0] 24) := by first | (rw [hU]; exact heap_new _ _ _ rfl) | rw [hU]
  have RD1 : Hid (Rd U1 B _) := Lib.hid (by rw [hU]; exact RD.out.new _)
  have XX1 : Hid (Ex B w U1) := Lib.hid (by rw [hU]; exact XX.out.new _)
  have hs1 : U1.heap.size = w.heap.size + 1 := by rw [hU]; simp
  rw [← hU]
  clear hU RD XX
  have RD := RD1
  have XX := XX1
  clear RD1 XX1
  have GA := Lib.hid hnA
  have hla : w.heap.size < U1.heap.size := by omega
  clear hnA hs1
  refine (next_any B _ _ _ RD.out).mono ?_
  rintro e V2 ⟨rfl, hr, hx⟩
  have RD2 := Lib.hid hr
  have XX2 := Lib.hid (XX.out.trans hx)
  have hsz := hx.size
  have ga := (hx.block w.heap.size hla (by omega)).trans GA.out
  clear hr hx RD XX
  have RD := RD2
  have XX := XX2
  clear RD2 XX2
  have hla2 : w.heap.size < V2.heap.size := by omega
  clear hla hsz GA
  have hla := hla2
  clear hla2
  have GA := Lib.hid ga
  try clear f1 l1 n1 z0 z1 z2 z3 z4 z5
  obtain ⟨c1, f1, l1, n1⟩ := block_cells ga
  have z0 := c1 0 _ rfl
  have z1 := c1 1 _ rfl
  have z2 := c1 2 _ rfl
  have z3 := c1 3 _ rfl
  have z4 := c1 4 _ rfl
  have z5 := c1 5 _ rfl
  clear c1 ga
  go_wp2_with fail
  refine (add_i B d n imm hd hn hi [] _ RD.out).mono ?_
  rintro e V3 ⟨rfl, hr, hx⟩
  have RD3 := Lib.hid hr
  have XX3 := Lib.hid (XX.out.trans hx)
  have hsz := hx.size
  have ga := (hx.block w.heap.size hla (by omega)).trans GA.out
  clear hr hx RD XX
  have RD := RD3
  have XX := XX3
  clear RD3 XX3
  have hla2 : w.heap.size < V3.heap.size := by omega
  clear hla hsz GA
  have hla := hla2
  clear hla2
  have GA := Lib.hid ga
  try clear f1 l1 n1 z0 z1 z2 z3 z4 z5
  obtain ⟨c1, f1, l1, n1⟩ := block_cells ga
  have z0 := c1 0 _ rfl
  have z1 := c1 1 _ rfl
  have z2 := c1 2 _ rfl
  have z3 := c1 3 _ rfl
  have z4 := c1 4 _ rfl
  have z5 := c1 5 _ rfl
  clear c1 ga
  go_wp2_with fail
  refine bodyPost_cell6 (A := w.heap.size) (t := 2) (v0 := .int .i64 7) (v1 := .int .i64 d) (v2 := .int .i64 n) (v3 := .int .i64 0) (v4 := .int .i64 imm) (v5 := .int .i64 0) Try.results22 rfl ?_ rfl ?_
  · refine six_stores (x0 := .int .i64 0) (x1 := .int .i64 0) (x2 := .int .i64 0) (x3 := .int .i64 0) (x4 := .int .i64 0) (x5 := .int .i64 0) ?_
    repeat' (with_reducible first | exact GA.out | exact hba | refine block_else ?_ ?_)
  refine ⟨rfl, ?_, ?_⟩
  · repeat' (with_reducible first | exact RD.out | exact hBw | exact hBb | refine Rd.put ?_ ?_)
  · repeat' (with_reducible first | exact XX.out | exact Nat.le_refl _ | exact hwb | refine Ex.put ?_ ?_ _)

set_option maxHeartbeats 8000000 in
theorem instr_8 (B : Nat) (d n m : Int) (hd : 0 ≤ d ∧ d ≤ 31) (hn : 0 ≤ n ∧ n ≤ 31) (hm : 0 ≤ m ∧ m ≤ 31) (w : World) (h : Rd w B ([65, 68, 68] :: regL d :: [44] :: regL n :: [44] :: regL m :: [])) :
    Calls Try.prog 22 #[(.pointer (some ⟨B, 0, none⟩))] w (RetR B (.agg #[.int .i64 8, .int .i64 d, .int .i64 n, .int .i64 m, .int .i64 0, .int .i64 0]) [] w) := by
  have RD := Lib.hid h
  have hBw := h.at.2.2.1
  have XX := Lib.hid (Ex.refl B w)
  clear h
  go_enter Try.func22, Try.ntmps22
  go_wp2_with fail
  obtain ⟨U1, hU⟩ : ∃ U1, U1 = w.alloc (.cells #[.int .i64 0, .int .i64 0, .int .i64 0, .int .i64 0, .int .i64 0, .int .i64 0] 24) := ⟨_, rfl⟩
  have hnA : U1.heap[w.heap.size]? = some (.cells #[.int .i64 0, .int .i64 0, .int .i64 0, .int .i64 0, .int .i64 0, .int .i64 0] 24) := by first | (rw [hU]; exact heap_new _ _ _ rfl) | rw [hU]
  have RD1 : Hid (Rd U1 B _) := Lib.hid (by rw [hU]; exact RD.out.new _)
  have XX1 : Hid (Ex B w U1) := Lib.hid (by rw [hU]; exact XX.out.new _)
  have hs1 : U1.heap.size = w.heap.size + 1 := by rw [hU]; simp
  rw [← hU]
  clear hU RD XX
  have RD := RD1
  have XX := XX1
  clear RD1 XX1
  have GA := Lib.hid hnA
  have hla : w.heap.size < U1.heap.size := by omega
  clear hnA hs1
  refine (next_any B _ _ _ RD.out).mono ?_
  rintro e V2 ⟨rfl, hr, hx⟩
  have RD2 := Lib.hid hr
  have XX2 := Lib.hid (XX.out.trans hx)
  have hsz := hx.size
  have ga := (hx.block w.heap.size hla (by omega)).trans GA.out
  clear hr hx RD XX
  have RD := RD2
  have XX := XX2
  clear RD2 XX2
  have hla2 : w.heap.size < V2.heap.size := by omega
  clear hla hsz GA
  have hla := hla2
  clear hla2
  have GA := Lib.hid ga
  try clear f1 l1 n1 z0 z1 z2 z3 z4 z5
  obtain ⟨c1, f1, l1, n1⟩ := block_cells ga
  have z0 := c1 0 _ rfl
  have z1 := c1 1 _ rfl
  have z2 := c1 2 _ rfl
  have z3 := c1 3 _ rfl
  have z4 := c1 4 _ rfl
  have z5 := c1 5 _ rfl
  clear c1 ga
  go_wp2_with fail
  refine (add_r B d n m hd hn hm [] _ RD.out).mono ?_
  rintro e V3 ⟨rfl, hr, hx⟩
  have RD3 := Lib.hid hr
  have XX3 := Lib.hid (XX.out.trans hx)
  have hsz := hx.size
  have ga := (hx.block w.heap.size hla (by omega)).trans GA.out
  clear hr hx RD XX
  have RD := RD3
  have XX := XX3
  clear RD3 XX3
  have hla2 : w.heap.size < V3.heap.size := by omega
  clear hla hsz GA
  have hla := hla2
  clear hla2
  have GA := Lib.hid ga
  try clear f1 l1 n1 z0 z1 z2 z3 z4 z5
  obtain ⟨c1, f1, l1, n1⟩ := block_cells ga
  have z0 := c1 0 _ rfl
  have z1 := c1 1 _ rfl
  have z2 := c1 2 _ rfl
  have z3 := c1 3 _ rfl
  have z4 := c1 4 _ rfl
  have z5 := c1 5 _ rfl
  clear c1 ga
  go_wp2_with fail
  refine bodyPost_cell6 (A := w.heap.size) (t := 2) (v0 := .int .i64 8) (v1 := .int .i64 d) (v2 := .int .i64 n) (v3 := .int .i64 m) (v4 := .int .i64 0) (v5 := .int .i64 0) Try.results22 rfl ?_ rfl ?_
  · refine six_stores (x0 := .int .i64 0) (x1 := .int .i64 0) (x2 := .int .i64 0) (x3 := .int .i64 0) (x4 := .int .i64 0) (x5 := .int .i64 0) ?_
    repeat' (with_reducible first | exact GA.out | exact hba | refine block_else ?_ ?_)
  refine ⟨rfl, ?_, ?_⟩
  · repeat' (with_reducible first | exact RD.out | exact hBw | exact hBb | refine Rd.put ?_ ?_)
  · repeat' (with_reducible first | exact XX.out | exact Nat.le_refl _ | exact hwb | refine Ex.put ?_ ?_ _)

set_option maxHeartbeats 8000000 in
theorem instr_9 (B : Nat) (d n m : Int) (hd : 0 ≤ d ∧ d ≤ 31) (hn : 0 ≤ n ∧ n ≤ 31) (hm : 0 ≤ m ∧ m ≤ 31) (w : World) (h : Rd w B ([83, 85, 66] :: regL d :: [44] :: regL n :: [44] :: regL m :: [])) :
    Calls Try.prog 22 #[(.pointer (some ⟨B, 0, none⟩))] w (RetR B (.agg #[.int .i64 9, .int .i64 d, .int .i64 n, .int .i64 m, .int .i64 0, .int .i64 0]) [] w) := by
  have RD := Lib.hid h
  have hBw := h.at.2.2.1
  have XX := Lib.hid (Ex.refl B w)
  clear h
  go_enter Try.func22, Try.ntmps22
  go_wp2_with fail
  obtain ⟨U1, hU⟩ : ∃ U1, U1 = w.alloc (.cells #[.int .i64 0, .int .i64 0, .int .i64 0, .int .i64 0, .int .i64 0, .int .i64 0] 24) := ⟨_, rfl⟩
  have hnA : U1.heap[w.heap.size]? = some (.cells #[.int .i64 0, .int .i64 0, .int .i64 0, .int .i64 0, .int .i64 0, .int .i64 0] 24) := by first | (rw [hU]; exact heap_new _ _ _ rfl) | rw [hU]
  have RD1 : Hid (Rd U1 B _) := Lib.hid (by rw [hU]; exact RD.out.new _)
  have XX1 : Hid (Ex B w U1) := Lib.hid (by rw [hU]; exact XX.out.new _)
  have hs1 : U1.heap.size = w.heap.size + 1 := by rw [hU]; simp
  rw [← hU]
  clear hU RD XX
  have RD := RD1
  have XX := XX1
  clear RD1 XX1
  have GA := Lib.hid hnA
  have hla : w.heap.size < U1.heap.size := by omega
  clear hnA hs1
  refine (next_any B _ _ _ RD.out).mono ?_
  rintro e V2 ⟨rfl, hr, hx⟩
  have RD2 := Lib.hid hr
  have XX2 := Lib.hid (XX.out.trans hx)
  have hsz := hx.size
  have ga := (hx.block w.heap.size hla (by omega)).trans GA.out
  clear hr hx RD XX
  have RD := RD2
  have XX := XX2
  clear RD2 XX2
  have hla2 : w.heap.size < V2.heap.size := by omega
  clear hla hsz GA
  have hla := hla2
  clear hla2
  have GA := Lib.hid ga
  try clear f1 l1 n1 z0 z1 z2 z3 z4 z5
  obtain ⟨c1, f1, l1, n1⟩ := block_cells ga
  have z0 := c1 0 _ rfl
  have z1 := c1 1 _ rfl
  have z2 := c1 2 _ rfl
  have z3 := c1 3 _ rfl
  have z4 := c1 4 _ rfl
  have z5 := c1 5 _ rfl
  clear c1 ga
  go_wp2_with fail
  refine (rthree_any B 9 d n m hd hn hm [] _ RD.out).mono ?_
  rintro e V3 ⟨rfl, hr, hx⟩
  have RD3 := Lib.hid hr
  have XX3 := Lib.hid (XX.out.trans hx)
  have hsz := hx.size
  have ga := (hx.block w.heap.size hla (by omega)).trans GA.out
  clear hr hx RD XX
  have RD := RD3
  have XX := XX3
  clear RD3 XX3
  have hla2 : w.heap.size < V3.heap.size := by omega
  clear hla hsz GA
  have hla := hla2
  clear hla2
  have GA := Lib.hid ga
  try clear f1 l1 n1 z0 z1 z2 z3 z4 z5
  obtain ⟨c1, f1, l1, n1⟩ := block_cells ga
  have z0 := c1 0 _ rfl
  have z1 := c1 1 _ rfl
  have z2 := c1 2 _ rfl
  have z3 := c1 3 _ rfl
  have z4 := c1 4 _ rfl
  have z5 := c1 5 _ rfl
  clear c1 ga
  go_wp2_with fail
  refine bodyPost_cell6 (A := w.heap.size) (t := 2) (v0 := .int .i64 9) (v1 := .int .i64 d) (v2 := .int .i64 n) (v3 := .int .i64 m) (v4 := .int .i64 0) (v5 := .int .i64 0) Try.results22 rfl ?_ rfl ?_
  · refine six_stores (x0 := .int .i64 0) (x1 := .int .i64 0) (x2 := .int .i64 0) (x3 := .int .i64 0) (x4 := .int .i64 0) (x5 := .int .i64 0) ?_
    repeat' (with_reducible first | exact GA.out | exact hba | refine block_else ?_ ?_)
  refine ⟨rfl, ?_, ?_⟩
  · repeat' (with_reducible first | exact RD.out | exact hBw | exact hBb | refine Rd.put ?_ ?_)
  · repeat' (with_reducible first | exact XX.out | exact Nat.le_refl _ | exact hwb | refine Ex.put ?_ ?_ _)

set_option maxHeartbeats 8000000 in
theorem instr_10 (B : Nat) (d n m : Int) (hd : 0 ≤ d ∧ d ≤ 31) (hn : 0 ≤ n ∧ n ≤ 31) (hm : 0 ≤ m ∧ m ≤ 31) (w : World) (h : Rd w B ([65, 78, 68] :: regL d :: [44] :: regL n :: [44] :: regL m :: [])) :
    Calls Try.prog 22 #[(.pointer (some ⟨B, 0, none⟩))] w (RetR B (.agg #[.int .i64 10, .int .i64 d, .int .i64 n, .int .i64 m, .int .i64 0, .int .i64 0]) [] w) := by
  have RD := Lib.hid h
  have hBw := h.at.2.2.1
  have XX := Lib.hid (Ex.refl B w)
  clear h
  go_enter Try.func22, Try.ntmps22
  go_wp2_with fail
  obtain ⟨U1, hU⟩ : ∃ U1, U1 = w.alloc (.cells #[.int .i64 0, .int .i64 0, .int .i64 0, .int .i64 0, .int .i64 0, .int .i64 0] 24) := ⟨_, rfl⟩
  have hnA : U1.heap[w.heap.size]? = some (.cells #[.int .i64 0, .int .i64 0, .int .i64 0, .int .i64 0, .int .i64 0, .int .i64 0] 24) := by first | (rw [hU]; exact heap_new _ _ _ rfl) | rw [hU]
  have RD1 : Hid (Rd U1 B _) := Lib.hid (by rw [hU]; exact RD.out.new _)
  have XX1 : Hid (Ex B w U1) := Lib.hid (by rw [hU]; exact XX.out.new _)
  have hs1 : U1.heap.size = w.heap.size + 1 := by rw [hU]; simp
  rw [← hU]
  clear hU RD XX
  have RD := RD1
  have XX := XX1
  clear RD1 XX1
  have GA := Lib.hid hnA
  have hla : w.heap.size < U1.heap.size := by omega
  clear hnA hs1
  refine (next_any B _ _ _ RD.out).mono ?_
  rintro e V2 ⟨rfl, hr, hx⟩
  have RD2 := Lib.hid hr
  have XX2 := Lib.hid (XX.out.trans hx)
  have hsz := hx.size
  have ga := (hx.block w.heap.size hla (by omega)).trans GA.out
  clear hr hx RD XX
  have RD := RD2
  have XX := XX2
  clear RD2 XX2
  have hla2 : w.heap.size < V2.heap.size := by omega
  clear hla hsz GA
  have hla := hla2
  clear hla2
  have GA := Lib.hid ga
  try clear f1 l1 n1 z0 z1 z2 z3 z4 z5
  obtain ⟨c1, f1, l1, n1⟩ := block_cells ga
  have z0 := c1 0 _ rfl
  have z1 := c1 1 _ rfl
  have z2 := c1 2 _ rfl
  have z3 := c1 3 _ rfl
  have z4 := c1 4 _ rfl
  have z5 := c1 5 _ rfl
  clear c1 ga
  go_wp2_with fail
  refine (rthree_any B 10 d n m hd hn hm [] _ RD.out).mono ?_
  rintro e V3 ⟨rfl, hr, hx⟩
  have RD3 := Lib.hid hr
  have XX3 := Lib.hid (XX.out.trans hx)
  have hsz := hx.size
  have ga := (hx.block w.heap.size hla (by omega)).trans GA.out
  clear hr hx RD XX
  have RD := RD3
  have XX := XX3
  clear RD3 XX3
  have hla2 : w.heap.size < V3.heap.size := by omega
  clear hla hsz GA
  have hla := hla2
  clear hla2
  have GA := Lib.hid ga
  try clear f1 l1 n1 z0 z1 z2 z3 z4 z5
  obtain ⟨c1, f1, l1, n1⟩ := block_cells ga
  have z0 := c1 0 _ rfl
  have z1 := c1 1 _ rfl
  have z2 := c1 2 _ rfl
  have z3 := c1 3 _ rfl
  have z4 := c1 4 _ rfl
  have z5 := c1 5 _ rfl
  clear c1 ga
  go_wp2_with fail
  refine bodyPost_cell6 (A := w.heap.size) (t := 2) (v0 := .int .i64 10) (v1 := .int .i64 d) (v2 := .int .i64 n) (v3 := .int .i64 m) (v4 := .int .i64 0) (v5 := .int .i64 0) Try.results22 rfl ?_ rfl ?_
  · refine six_stores (x0 := .int .i64 0) (x1 := .int .i64 0) (x2 := .int .i64 0) (x3 := .int .i64 0) (x4 := .int .i64 0) (x5 := .int .i64 0) ?_
    repeat' (with_reducible first | exact GA.out | exact hba | refine block_else ?_ ?_)
  refine ⟨rfl, ?_, ?_⟩
  · repeat' (with_reducible first | exact RD.out | exact hBw | exact hBb | refine Rd.put ?_ ?_)
  · repeat' (with_reducible first | exact XX.out | exact Nat.le_refl _ | exact hwb | refine Ex.put ?_ ?_ _)

set_option maxHeartbeats 8000000 in
theorem instr_11 (B : Nat) (d n m : Int) (hd : 0 ≤ d ∧ d ≤ 31) (hn : 0 ≤ n ∧ n ≤ 31) (hm : 0 ≤ m ∧ m ≤ 31) (w : World) (h : Rd w B ([79, 82, 82] :: regL d :: [44] :: regL n :: [44] :: regL m :: [])) :
    Calls Try.prog 22 #[(.pointer (some ⟨B, 0, none⟩))] w (RetR B (.agg #[.int .i64 11, .int .i64 d, .int .i64 n, .int .i64 m, .int .i64 0, .int .i64 0]) [] w) := by
  have RD := Lib.hid h
  have hBw := h.at.2.2.1
  have XX := Lib.hid (Ex.refl B w)
  clear h
  go_enter Try.func22, Try.ntmps22
  go_wp2_with fail
  obtain ⟨U1, hU⟩ : ∃ U1, U1 = w.alloc (.cells #[.int .i64 0, .int .i64 0, .int .i64 0, .int .i64 0, .int .i64 0, .int .i64 0] 24) := ⟨_, rfl⟩
  have hnA : U1.heap[w.heap.size]? = some (.cells #[.int .i64 0, .int .i64 0, .int .i64 0, .int .i64 0, .int .i64 0, .int .i64 0] 24) := by first | (rw [hU]; exact heap_new _ _ _ rfl) | rw [hU]
  have RD1 : Hid (Rd U1 B _) := Lib.hid (by rw [hU]; exact RD.out.new _)
  have XX1 : Hid (Ex B w U1) := Lib.hid (by rw [hU]; exact XX.out.new _)
  have hs1 : U1.heap.size = w.heap.size + 1 := by rw [hU]; simp
  rw [← hU]
  clear hU RD XX
  have RD := RD1
  have XX := XX1
  clear RD1 XX1
  have GA := Lib.hid hnA
  have hla : w.heap.size < U1.heap.size := by omega
  clear hnA hs1
  refine (next_any B _ _ _ RD.out).mono ?_
  rintro e V2 ⟨rfl, hr, hx⟩
  have RD2 := Lib.hid hr
  have XX2 := Lib.hid (XX.out.trans hx)
  have hsz := hx.size
  have ga := (hx.block w.heap.size hla (by omega)).trans GA.out
  clear hr hx RD XX
  have RD := RD2
  have XX := XX2
  clear RD2 XX2
  have hla2 : w.heap.size < V2.heap.size := by omega
  clear hla hsz GA
  have hla := hla2
  clear hla2
  have GA := Lib.hid ga
  try clear f1 l1 n1 z0 z1 z2 z3 z4 z5
  obtain ⟨c1, f1, l1, n1⟩ := block_cells ga
  have z0 := c1 0 _ rfl
  have z1 := c1 1 _ rfl
  have z2 := c1 2 _ rfl
  have z3 := c1 3 _ rfl
  have z4 := c1 4 _ rfl
  have z5 := c1 5 _ rfl
  clear c1 ga
  go_wp2_with fail
  refine (rthree_any B 11 d n m hd hn hm [] _ RD.out).mono ?_
  rintro e V3 ⟨rfl, hr, hx⟩
  have RD3 := Lib.hid hr
  have XX3 := Lib.hid (XX.out.trans hx)
  have hsz := hx.size
  have ga := (hx.block w.heap.size hla (by omega)).trans GA.out
  clear hr hx RD XX
  have RD := RD3
  have XX := XX3
  clear RD3 XX3
  have hla2 : w.heap.size < V3.heap.size := by omega
  clear hla hsz GA
  have hla := hla2
  clear hla2
  have GA := Lib.hid ga
  try clear f1 l1 n1 z0 z1 z2 z3 z4 z5
  obtain ⟨c1, f1, l1, n1⟩ := block_cells ga
  have z0 := c1 0 _ rfl
  have z1 := c1 1 _ rfl
  have z2 := c1 2 _ rfl
  have z3 := c1 3 _ rfl
  have z4 := c1 4 _ rfl
  have z5 := c1 5 _ rfl
  clear c1 ga
  go_wp2_with fail
  refine bodyPost_cell6 (A := w.heap.size) (t := 2) (v0 := .int .i64 11) (v1 := .int .i64 d) (v2 := .int .i64 n) (v3 := .int .i64 m) (v4 := .int .i64 0) (v5 := .int .i64 0) Try.results22 rfl ?_ rfl ?_
  · refine six_stores (x0 := .int .i64 0) (x1 := .int .i64 0) (x2 := .int .i64 0) (x3 := .int .i64 0) (x4 := .int .i64 0) (x5 := .int .i64 0) ?_
    repeat' (with_reducible first | exact GA.out | exact hba | refine block_else ?_ ?_)
  refine ⟨rfl, ?_, ?_⟩
  · repeat' (with_reducible first | exact RD.out | exact hBw | exact hBb | refine Rd.put ?_ ?_)
  · repeat' (with_reducible first | exact XX.out | exact Nat.le_refl _ | exact hwb | refine Ex.put ?_ ?_ _)

set_option maxHeartbeats 8000000 in
theorem instr_12 (B : Nat) (d n m : Int) (hd : 0 ≤ d ∧ d ≤ 31) (hn : 0 ≤ n ∧ n ≤ 31) (hm : 0 ≤ m ∧ m ≤ 31) (w : World) (h : Rd w B ([69, 79, 82] :: regL d :: [44] :: regL n :: [44] :: regL m :: [])) :
    Calls Try.prog 22 #[(.pointer (some ⟨B, 0, none⟩))] w (RetR B (.agg #[.int .i64 12, .int .i64 d, .int .i64 n, .int .i64 m, .int .i64 0, .int .i64 0]) [] w) := by
  have RD := Lib.hid h
  have hBw := h.at.2.2.1
  have XX := Lib.hid (Ex.refl B w)
  clear h
  go_enter Try.func22, Try.ntmps22
  go_wp2_with fail
  obtain ⟨U1, hU⟩ : ∃ U1, U1 = w.alloc (.cells #[.int .i64 0, .int .i64 0, .int .i64 0, .int .i64 0, .int .i64 0, .int .i64 0] 24) := ⟨_, rfl⟩
  have hnA : U1.heap[w.heap.size]? = some (.cells #[.int .i64 0, .int .i64 0, .int .i64 0, .int .i64 0, .int .i64 0, .int .i64 0] 24) := by first | (rw [hU]; exact heap_new _ _ _ rfl) | rw [hU]
  have RD1 : Hid (Rd U1 B _) := Lib.hid (by rw [hU]; exact RD.out.new _)
  have XX1 : Hid (Ex B w U1) := Lib.hid (by rw [hU]; exact XX.out.new _)
  have hs1 : U1.heap.size = w.heap.size + 1 := by rw [hU]; simp
  rw [← hU]
  clear hU RD XX
  have RD := RD1
  have XX := XX1
  clear RD1 XX1
  have GA := Lib.hid hnA
  have hla : w.heap.size < U1.heap.size := by omega
  clear hnA hs1
  refine (next_any B _ _ _ RD.out).mono ?_
  rintro e V2 ⟨rfl, hr, hx⟩
  have RD2 := Lib.hid hr
  have XX2 := Lib.hid (XX.out.trans hx)
  have hsz := hx.size
  have ga := (hx.block w.heap.size hla (by omega)).trans GA.out
  clear hr hx RD XX
  have RD := RD2
  have XX := XX2
  clear RD2 XX2
  have hla2 : w.heap.size < V2.heap.size := by omega
  clear hla hsz GA
  have hla := hla2
  clear hla2
  have GA := Lib.hid ga
  try clear f1 l1 n1 z0 z1 z2 z3 z4 z5
  obtain ⟨c1, f1, l1, n1⟩ := block_cells ga
  have z0 := c1 0 _ rfl
  have z1 := c1 1 _ rfl
  have z2 := c1 2 _ rfl
  have z3 := c1 3 _ rfl
  have z4 := c1 4 _ rfl
  have z5 := c1 5 _ rfl
  clear c1 ga
  go_wp2_with fail
  refine (rthree_any B 12 d n m hd hn hm [] _ RD.out).mono ?_
  rintro e V3 ⟨rfl, hr, hx⟩
  have RD3 := Lib.hid hr
  have XX3 := Lib.hid (XX.out.trans hx)
  have hsz := hx.size
  have ga := (hx.block w.heap.size hla (by omega)).trans GA.out
  clear hr hx RD XX
  have RD := RD3
  have XX := XX3
  clear RD3 XX3
  have hla2 : w.heap.size < V3.heap.size := by omega
  clear hla hsz GA
  have hla := hla2
  clear hla2
  have GA := Lib.hid ga
  try clear f1 l1 n1 z0 z1 z2 z3 z4 z5
  obtain ⟨c1, f1, l1, n1⟩ := block_cells ga
  have z0 := c1 0 _ rfl
  have z1 := c1 1 _ rfl
  have z2 := c1 2 _ rfl
  have z3 := c1 3 _ rfl
  have z4 := c1 4 _ rfl
  have z5 := c1 5 _ rfl
  clear c1 ga
  go_wp2_with fail
  refine bodyPost_cell6 (A := w.heap.size) (t := 2) (v0 := .int .i64 12) (v1 := .int .i64 d) (v2 := .int .i64 n) (v3 := .int .i64 m) (v4 := .int .i64 0) (v5 := .int .i64 0) Try.results22 rfl ?_ rfl ?_
  · refine six_stores (x0 := .int .i64 0) (x1 := .int .i64 0) (x2 := .int .i64 0) (x3 := .int .i64 0) (x4 := .int .i64 0) (x5 := .int .i64 0) ?_
    repeat' (with_reducible first | exact GA.out | exact hba | refine block_else ?_ ?_)
  refine ⟨rfl, ?_, ?_⟩
  · repeat' (with_reducible first | exact RD.out | exact hBw | exact hBb | refine Rd.put ?_ ?_)
  · repeat' (with_reducible first | exact XX.out | exact Nat.le_refl _ | exact hwb | refine Ex.put ?_ ?_ _)

set_option maxHeartbeats 8000000 in
theorem instr_13 (B : Nat) (d n m : Int) (hd : 0 ≤ d ∧ d ≤ 31) (hn : 0 ≤ n ∧ n ≤ 31) (hm : 0 ≤ m ∧ m ≤ 31) (w : World) (h : Rd w B ([83, 85, 66, 83] :: regL d :: [44] :: regL n :: [44] :: regL m :: [])) :
    Calls Try.prog 22 #[(.pointer (some ⟨B, 0, none⟩))] w (RetR B (.agg #[.int .i64 13, .int .i64 d, .int .i64 n, .int .i64 m, .int .i64 0, .int .i64 0]) [] w) := by
  have RD := Lib.hid h
  have hBw := h.at.2.2.1
  have XX := Lib.hid (Ex.refl B w)
  clear h
  go_enter Try.func22, Try.ntmps22
  go_wp2_with fail
  obtain ⟨U1, hU⟩ : ∃ U1, U1 = w.alloc (.cells #[.int .i64 0, .int .i64 0, .int .i64 0, .int .i64 0, .int .i64 0, .int .i64 0] 24) := ⟨_, rfl⟩
  have hnA : U1.heap[w.heap.size]? = some (.cells #[.int .i64 0, .int .i64 0, .int .i64 0, .int .i64 0, .int .i64 0, .int .i64 0] 24) := by first | (rw [hU]; exact heap_new _ _ _ rfl) | rw [hU]
  have RD1 : Hid (Rd U1 B _) := Lib.hid (by rw [hU]; exact RD.out.new _)
  have XX1 : Hid (Ex B w U1) := Lib.hid (by rw [hU]; exact XX.out.new _)
  have hs1 : U1.heap.size = w.heap.size + 1 := by rw [hU]; simp
  rw [← hU]
  clear hU RD XX
  have RD := RD1
  have XX := XX1
  clear RD1 XX1
  have GA := Lib.hid hnA
  have hla : w.heap.size < U1.heap.size := by omega
  clear hnA hs1
  refine (next_any B _ _ _ RD.out).mono ?_
  rintro e V2 ⟨rfl, hr, hx⟩
  have RD2 := Lib.hid hr
  have XX2 := Lib.hid (XX.out.trans hx)
  have hsz := hx.size
  have ga := (hx.block w.heap.size hla (by omega)).trans GA.out
  clear hr hx RD XX
  have RD := RD2
  have XX := XX2
  clear RD2 XX2
  have hla2 : w.heap.size < V2.heap.size := by omega
  clear hla hsz GA
  have hla := hla2
  clear hla2
  have GA := Lib.hid ga
  try clear f1 l1 n1 z0 z1 z2 z3 z4 z5
  obtain ⟨c1, f1, l1, n1⟩ := block_cells ga
  have z0 := c1 0 _ rfl
  have z1 := c1 1 _ rfl
  have z2 := c1 2 _ rfl
  have z3 := c1 3 _ rfl
  have z4 := c1 4 _ rfl
  have z5 := c1 5 _ rfl
  clear c1 ga
  go_wp2_with fail
  refine (rthree_any B 13 d n m hd hn hm [] _ RD.out).mono ?_
  rintro e V3 ⟨rfl, hr, hx⟩
  have RD3 := Lib.hid hr
  have XX3 := Lib.hid (XX.out.trans hx)
  have hsz := hx.size
  have ga := (hx.block w.heap.size hla (by omega)).trans GA.out
  clear hr hx RD XX
  have RD := RD3
  have XX := XX3
  clear RD3 XX3
  have hla2 : w.heap.size < V3.heap.size := by omega
  clear hla hsz GA
  have hla := hla2
  clear hla2
  have GA := Lib.hid ga
  try clear f1 l1 n1 z0 z1 z2 z3 z4 z5
  obtain ⟨c1, f1, l1, n1⟩ := block_cells ga
  have z0 := c1 0 _ rfl
  have z1 := c1 1 _ rfl
  have z2 := c1 2 _ rfl
  have z3 := c1 3 _ rfl
  have z4 := c1 4 _ rfl
  have z5 := c1 5 _ rfl
  clear c1 ga
  go_wp2_with fail
  refine bodyPost_cell6 (A := w.heap.size) (t := 2) (v0 := .int .i64 13) (v1 := .int .i64 d) (v2 := .int .i64 n) (v3 := .int .i64 m) (v4 := .int .i64 0) (v5 := .int .i64 0) Try.results22 rfl ?_ rfl ?_
  · refine six_stores (x0 := .int .i64 0) (x1 := .int .i64 0) (x2 := .int .i64 0) (x3 := .int .i64 0) (x4 := .int .i64 0) (x5 := .int .i64 0) ?_
    repeat' (with_reducible first | exact GA.out | exact hba | refine block_else ?_ ?_)
  refine ⟨rfl, ?_, ?_⟩
  · repeat' (with_reducible first | exact RD.out | exact hBw | exact hBb | refine Rd.put ?_ ?_)
  · repeat' (with_reducible first | exact XX.out | exact Nat.le_refl _ | exact hwb | refine Ex.put ?_ ?_ _)

set_option maxHeartbeats 8000000 in
theorem instr_14 (B : Nat) (imm : Int) (hi : -1000000000 ≤ imm ∧ imm ≤ 1000000000) (w : World) (h : Rd w B ([66] :: targetL imm :: [])) :
    Calls Try.prog 22 #[(.pointer (some ⟨B, 0, none⟩))] w (RetR B (.agg #[.int .i64 14, .int .i64 0, .int .i64 0, .int .i64 0, .int .i64 imm, .int .i64 0]) [] w) := by
  have RD := Lib.hid h
  have hBw := h.at.2.2.1
  have XX := Lib.hid (Ex.refl B w)
  clear h
  go_enter Try.func22, Try.ntmps22
  go_wp2_with fail
  obtain ⟨U1, hU⟩ : ∃ U1, U1 = w.alloc (.cells #[.int .i64 0, .int .i64 0, .int .i64 0, .int .i64 0, .int .i64 0, .int .i64 0] 24) := ⟨_, rfl⟩
  have hnA : U1.heap[w.heap.size]? = some (.cells #[.int .i64 0, .int .i64 0, .int .i64 0, .int .i64 0, .int .i64 0, .int .i64 0] 24) := by first | (rw [hU]; exact heap_new _ _ _ rfl) | rw [hU]
  have RD1 : Hid (Rd U1 B _) := Lib.hid (by rw [hU]; exact RD.out.new _)
  have XX1 : Hid (Ex B w U1) := Lib.hid (by rw [hU]; exact XX.out.new _)
  have hs1 : U1.heap.size = w.heap.size + 1 := by rw [hU]; simp
  rw [← hU]
  clear hU RD XX
  have RD := RD1
  have XX := XX1
  clear RD1 XX1
  have GA := Lib.hid hnA
  have hla : w.heap.size < U1.heap.size := by omega
  clear hnA hs1
  refine (next_any B _ _ _ RD.out).mono ?_
  rintro e V2 ⟨rfl, hr, hx⟩
  have RD2 := Lib.hid hr
  have XX2 := Lib.hid (XX.out.trans hx)
  have hsz := hx.size
  have ga := (hx.block w.heap.size hla (by omega)).trans GA.out
  clear hr hx RD XX
  have RD := RD2
  have XX := XX2
  clear RD2 XX2
  have hla2 : w.heap.size < V2.heap.size := by omega
  clear hla hsz GA
  have hla := hla2
  clear hla2
  have GA := Lib.hid ga
  try clear f1 l1 n1 z0 z1 z2 z3 z4 z5
  obtain ⟨c1, f1, l1, n1⟩ := block_cells ga
  have z0 := c1 0 _ rfl
  have z1 := c1 1 _ rfl
  have z2 := c1 2 _ rfl
  have z3 := c1 3 _ rfl
  have z4 := c1 4 _ rfl
  have z5 := c1 5 _ rfl
  clear c1 ga
  go_wp2_with fail
  refine (branch_any B imm hi.1 hi.2 [] _ RD.out).mono ?_
  rintro e V3 ⟨rfl, hr, hx⟩
  have RD3 := Lib.hid hr
  have XX3 := Lib.hid (XX.out.trans hx)
  have hsz := hx.size
  have ga := (hx.block w.heap.size hla (by omega)).trans GA.out
  clear hr hx RD XX
  have RD := RD3
  have XX := XX3
  clear RD3 XX3
  have hla2 : w.heap.size < V3.heap.size := by omega
  clear hla hsz GA
  have hla := hla2
  clear hla2
  have GA := Lib.hid ga
  try clear f1 l1 n1 z0 z1 z2 z3 z4 z5
  obtain ⟨c1, f1, l1, n1⟩ := block_cells ga
  have z0 := c1 0 _ rfl
  have z1 := c1 1 _ rfl
  have z2 := c1 2 _ rfl
  have z3 := c1 3 _ rfl
  have z4 := c1 4 _ rfl
  have z5 := c1 5 _ rfl
  clear c1 ga
  go_wp2_with fail
  refine bodyPost_cell6 (A := w.heap.size) (t := 2) (v0 := .int .i64 14) (v1 := .int .i64 0) (v2 := .int .i64 0) (v3 := .int .i64 0) (v4 := .int .i64 imm) (v5 := .int .i64 0) Try.results22 rfl ?_ rfl ?_
  · refine six_stores (x0 := .int .i64 0) (x1 := .int .i64 0) (x2 := .int .i64 0) (x3 := .int .i64 0) (x4 := .int .i64 0) (x5 := .int .i64 0) ?_
    repeat' (with_reducible first | exact GA.out | exact hba | refine block_else ?_ ?_)
  refine ⟨rfl, ?_, ?_⟩
  · repeat' (with_reducible first | exact RD.out | exact hBw | exact hBb | refine Rd.put ?_ ?_)
  · repeat' (with_reducible first | exact XX.out | exact Nat.le_refl _ | exact hwb | refine Ex.put ?_ ?_ _)

set_option maxHeartbeats 8000000 in
theorem instr_17_0 (B : Nat) (imm : Int) (hi : -1000000000 ≤ imm ∧ imm ≤ 1000000000) (w : World) (h : Rd w B ([66, 46, 69, 81] :: targetL imm :: [])) :
    Calls Try.prog 22 #[(.pointer (some ⟨B, 0, none⟩))] w (RetR B (.agg #[.int .i64 17, .int .i64 0, .int .i64 0, .int .i64 0, .int .i64 imm, .int .i64 0]) [] w) := by
  have RD := Lib.hid h
  have hBw := h.at.2.2.1
  have XX := Lib.hid (Ex.refl B w)
  clear h
  go_enter Try.func22, Try.ntmps22
  go_wp2_with fail
  obtain ⟨U1, hU⟩ : ∃ U1, U1 = w.alloc (.cells #[.int .i64 0, .int .i64 0, .int .i64 0, .int .i64 0, .int .i64 0, .int .i64 0] 24) := ⟨_, rfl⟩
  have hnA : U1.heap[w.heap.size]? = some (.cells #[.int .i64 0, .int .i64 0, .int .i64 0, .int .i64 0, .int .i64 0, .int .i64 0] 24) := by first | (rw [hU]; exact heap_new _ _ _ rfl) | rw [hU]
  have RD1 : Hid (Rd U1 B _) := Lib.hid (by rw [hU]; exact RD.out.new _)
  have XX1 : Hid (Ex B w U1) := Lib.hid (by rw [hU]; exact XX.out.new _)
  have hs1 : U1.heap.size = w.heap.size + 1 := by rw [hU]; simp
  rw [← hU]
  clear hU RD XX
  have RD := RD1
  have XX := XX1
  clear RD1 XX1
  have GA := Lib.hid hnA
  have hla : w.heap.size < U1.heap.size := by omega
  clear hnA hs1
  refine (next_any B _ _ _ RD.out).mono ?_
  rintro e V2 ⟨rfl, hr, hx⟩
  have RD2 := Lib.hid hr
  have XX2 := Lib.hid (XX.out.trans hx)
  have hsz := hx.size
  have ga := (hx.block w.heap.size hla (by omega)).trans GA.out
  clear hr hx RD XX
  have RD := RD2
  have XX := XX2
  clear RD2 XX2
  have hla2 : w.heap.size < V2.heap.size := by omega
  clear hla hsz GA
  have hla := hla2
  clear hla2
  have GA := Lib.hid ga
  try clear f1 l1 n1 z0 z1 z2 z3 z4 z5
  obtain ⟨c1, f1, l1, n1⟩ := block_cells ga
  have z0 := c1 0 _ rfl
  have z1 := c1 1 _ rfl
  have z2 := c1 2 _ rfl
  have z3 := c1 3 _ rfl
  have z4 := c1 4 _ rfl
  have z5 := c1 5 _ rfl
  clear c1 ga
  go_wp2_with fail
  refine (branch_any B imm hi.1 hi.2 [] _ RD.out).mono ?_
  rintro e V3 ⟨rfl, hr, hx⟩
  have RD3 := Lib.hid hr
  have XX3 := Lib.hid (XX.out.trans hx)
  have hsz := hx.size
  have ga := (hx.block w.heap.size hla (by omega)).trans GA.out
  clear hr hx RD XX
  have RD := RD3
  have XX := XX3
  clear RD3 XX3
  have hla2 : w.heap.size < V3.heap.size := by omega
  clear hla hsz GA
  have hla := hla2
  clear hla2
  have GA := Lib.hid ga
  try clear f1 l1 n1 z0 z1 z2 z3 z4 z5
  obtain ⟨c1, f1, l1, n1⟩ := block_cells ga
  have z0 := c1 0 _ rfl
  have z1 := c1 1 _ rfl
  have z2 := c1 2 _ rfl
  have z3 := c1 3 _ rfl
  have z4 := c1 4 _ rfl
  have z5 := c1 5 _ rfl
  clear c1 ga
  go_wp2_with fail
  refine bodyPost_cell6 (A := w.heap.size) (t := 2) (v0 := .int .i64 17) (v1 := .int .i64 0) (v2 := .int .i64 0) (v3 := .int .i64 0) (v4 := .int .i64 imm) (v5 := .int .i64 0) Try.results22 rfl ?_ rfl ?_
  · refine six_stores (x0 := .int .i64 0) (x1 := .int .i64 0) (x2 := .int .i64 0) (x3 := .int .i64 0) (x4 := .int .i64 0) (x5 := .int .i64 0) ?_
    repeat' (with_reducible first | exact GA.out | exact hba | refine block_else ?_ ?_)
  refine ⟨rfl, ?_, ?_⟩
  · repeat' (with_reducible first | exact RD.out | exact hBw | exact hBb | refine Rd.put ?_ ?_)
  · repeat' (with_reducible first | exact XX.out | exact Nat.le_refl _ | exact hwb | refine Ex.put ?_ ?_ _)

set_option maxHeartbeats 8000000 in
theorem instr_17_1 (B : Nat) (imm : Int) (hi : -1000000000 ≤ imm ∧ imm ≤ 1000000000) (w : World) (h : Rd w B ([66, 46, 78, 69] :: targetL imm :: [])) :
    Calls Try.prog 22 #[(.pointer (some ⟨B, 0, none⟩))] w (RetR B (.agg #[.int .i64 17, .int .i64 0, .int .i64 0, .int .i64 0, .int .i64 imm, .int .i64 1]) [] w) := by
  have RD := Lib.hid h
  have hBw := h.at.2.2.1
  have XX := Lib.hid (Ex.refl B w)
  clear h
  go_enter Try.func22, Try.ntmps22
  go_wp2_with fail
  obtain ⟨U1, hU⟩ : ∃ U1, U1 = w.alloc (.cells #[.int .i64 0, .int .i64 0, .int .i64 0, .int .i64 0, .int .i64 0, .int .i64 0] 24) := ⟨_, rfl⟩
  have hnA : U1.heap[w.heap.size]? = some (.cells #[.int .i64 0, .int .i64 0, .int .i64 0, .int .i64 0, .int .i64 0, .int .i64 0] 24) := by first | (rw [hU]; exact heap_new _ _ _ rfl) | rw [hU]
  have RD1 : Hid (Rd U1 B _) := Lib.hid (by rw [hU]; exact RD.out.new _)
  have XX1 : Hid (Ex B w U1) := Lib.hid (by rw [hU]; exact XX.out.new _)
  have hs1 : U1.heap.size = w.heap.size + 1 := by rw [hU]; simp
  rw [← hU]
  clear hU RD XX
  have RD := RD1
  have XX := XX1
  clear RD1 XX1
  have GA := Lib.hid hnA
  have hla : w.heap.size < U1.heap.size := by omega
  clear hnA hs1
  refine (next_any B _ _ _ RD.out).mono ?_
  rintro e V2 ⟨rfl, hr, hx⟩
  have RD2 := Lib.hid hr
  have XX2 := Lib.hid (XX.out.trans hx)
  have hsz := hx.size
  have ga := (hx.block w.heap.size hla (by omega)).trans GA.out
  clear hr hx RD XX
  have RD := RD2
  have XX := XX2
  clear RD2 XX2
  have hla2 : w.heap.size < V2.heap.size := by omega
  clear hla hsz GA
  have hla := hla2
  clear hla2
  have GA := Lib.hid ga
  try clear f1 l1 n1 z0 z1 z2 z3 z4 z5
  obtain ⟨c1, f1, l1, n1⟩ := block_cells ga
  have z0 := c1 0 _ rfl
  have z1 := c1 1 _ rfl
  have z2 := c1 2 _ rfl
  have z3 := c1 3 _ rfl
  have z4 := c1 4 _ rfl
  have z5 := c1 5 _ rfl
  clear c1 ga
  go_wp2_with fail
  refine (branch_any B imm hi.1 hi.2 [] _ RD.out).mono ?_
  rintro e V3 ⟨rfl, hr, hx⟩
  have RD3 := Lib.hid hr
  have XX3 := Lib.hid (XX.out.trans hx)
  have hsz := hx.size
  have ga := (hx.block w.heap.size hla (by omega)).trans GA.out
  clear hr hx RD XX
  have RD := RD3
  have XX := XX3
  clear RD3 XX3
  have hla2 : w.heap.size < V3.heap.size := by omega
  clear hla hsz GA
  have hla := hla2
  clear hla2
  have GA := Lib.hid ga
  try clear f1 l1 n1 z0 z1 z2 z3 z4 z5
  obtain ⟨c1, f1, l1, n1⟩ := block_cells ga
  have z0 := c1 0 _ rfl
  have z1 := c1 1 _ rfl
  have z2 := c1 2 _ rfl
  have z3 := c1 3 _ rfl
  have z4 := c1 4 _ rfl
  have z5 := c1 5 _ rfl
  clear c1 ga
  go_wp2_with fail
  refine bodyPost_cell6 (A := w.heap.size) (t := 2) (v0 := .int .i64 17) (v1 := .int .i64 0) (v2 := .int .i64 0) (v3 := .int .i64 0) (v4 := .int .i64 imm) (v5 := .int .i64 1) Try.results22 rfl ?_ rfl ?_
  · refine six_stores (x0 := .int .i64 0) (x1 := .int .i64 0) (x2 := .int .i64 0) (x3 := .int .i64 0) (x4 := .int .i64 0) (x5 := .int .i64 0) ?_
    repeat' (with_reducible first | exact GA.out | exact hba | refine block_else ?_ ?_)
  refine ⟨rfl, ?_, ?_⟩
  · repeat' (with_reducible first | exact RD.out | exact hBw | exact hBb | refine Rd.put ?_ ?_)
  · repeat' (with_reducible first | exact XX.out | exact Nat.le_refl _ | exact hwb | refine Ex.put ?_ ?_ _)

set_option maxHeartbeats 8000000 in
theorem instr_15 (B : Nat) (d imm : Int) (hd : 0 ≤ d ∧ d ≤ 31) (hi : -1000000000 ≤ imm ∧ imm ≤ 1000000000) (w : World) (h : Rd w B ([67, 66, 90] :: regL d :: [44] :: targetL imm :: [])) :
    Calls Try.prog 22 #[(.pointer (some ⟨B, 0, none⟩))] w (RetR B (.agg #[.int .i64 15, .int .i64 d, .int .i64 0, .int .i64 0, .int .i64 imm, .int .i64 0]) [] w) := by
  have RD := Lib.hid h
  have hBw := h.at.2.2.1
  have XX := Lib.hid (Ex.refl B w)
  clear h
  go_enter Try.func22, Try.ntmps22
  go_wp2_with fail
  obtain ⟨U1, hU⟩ : ∃ U1, U1 = w.alloc (.cells #[.int .i64 0, .int .i64 0, .int .i64 0, .int .i64 0, .int .i64 0, .int .i64 0] 24) := ⟨_, rfl⟩
  have hnA : U1.heap[w.heap.size]? = some (.cells #[.int .i64 0, .int .i64 0, .int .i64 0, .int .i64 0, .int .i64 0, .int .i64 0] 24) := by first | (rw [hU]; exact heap_new _ _ _ rfl) | rw [hU]
  have RD1 : Hid (Rd U1 B _) := Lib.hid (by rw [hU]; exact RD.out.new _)
  have XX1 : Hid (Ex B w U1) := Lib.hid (by rw [hU]; exact XX.out.new _)
  have hs1 : U1.heap.size = w.heap.size + 1 := by rw [hU]; simp
  rw [← hU]
  clear hU RD XX
  have RD := RD1
  have XX := XX1
  clear RD1 XX1
  have GA := Lib.hid hnA
  have hla : w.heap.size < U1.heap.size := by omega
  clear hnA hs1
  refine (next_any B _ _ _ RD.out).mono ?_
  rintro e V2 ⟨rfl, hr, hx⟩
  have RD2 := Lib.hid hr
  have XX2 := Lib.hid (XX.out.trans hx)
  have hsz := hx.size
  have ga := (hx.block w.heap.size hla (by omega)).trans GA.out
  clear hr hx RD XX
  have RD := RD2
  have XX := XX2
  clear RD2 XX2
  have hla2 : w.heap.size < V2.heap.size := by omega
  clear hla hsz GA
  have hla := hla2
  clear hla2
  have GA := Lib.hid ga
  try clear f1 l1 n1 z0 z1 z2 z3 z4 z5
  obtain ⟨c1, f1, l1, n1⟩ := block_cells ga
  have z0 := c1 0 _ rfl
  have z1 := c1 1 _ rfl
  have z2 := c1 2 _ rfl
  have z3 := c1 3 _ rfl
  have z4 := c1 4 _ rfl
  have z5 := c1 5 _ rfl
  clear c1 ga
  go_wp2_with fail
  refine (test_any B 15 d imm hd hi [] _ RD.out).mono ?_
  rintro e V3 ⟨rfl, hr, hx⟩
  have RD3 := Lib.hid hr
  have XX3 := Lib.hid (XX.out.trans hx)
  have hsz := hx.size
  have ga := (hx.block w.heap.size hla (by omega)).trans GA.out
  clear hr hx RD XX
  have RD := RD3
  have XX := XX3
  clear RD3 XX3
  have hla2 : w.heap.size < V3.heap.size := by omega
  clear hla hsz GA
  have hla := hla2
  clear hla2
  have GA := Lib.hid ga
  try clear f1 l1 n1 z0 z1 z2 z3 z4 z5
  obtain ⟨c1, f1, l1, n1⟩ := block_cells ga
  have z0 := c1 0 _ rfl
  have z1 := c1 1 _ rfl
  have z2 := c1 2 _ rfl
  have z3 := c1 3 _ rfl
  have z4 := c1 4 _ rfl
  have z5 := c1 5 _ rfl
  clear c1 ga
  go_wp2_with fail
  refine bodyPost_cell6 (A := w.heap.size) (t := 2) (v0 := .int .i64 15) (v1 := .int .i64 d) (v2 := .int .i64 0) (v3 := .int .i64 0) (v4 := .int .i64 imm) (v5 := .int .i64 0) Try.results22 rfl ?_ rfl ?_
  · refine six_stores (x0 := .int .i64 0) (x1 := .int .i64 0) (x2 := .int .i64 0) (x3 := .int .i64 0) (x4 := .int .i64 0) (x5 := .int .i64 0) ?_
    repeat' (with_reducible first | exact GA.out | exact hba | refine block_else ?_ ?_)
  refine ⟨rfl, ?_, ?_⟩
  · repeat' (with_reducible first | exact RD.out | exact hBw | exact hBb | refine Rd.put ?_ ?_)
  · repeat' (with_reducible first | exact XX.out | exact Nat.le_refl _ | exact hwb | refine Ex.put ?_ ?_ _)

set_option maxHeartbeats 8000000 in
theorem instr_16 (B : Nat) (d imm : Int) (hd : 0 ≤ d ∧ d ≤ 31) (hi : -1000000000 ≤ imm ∧ imm ≤ 1000000000) (w : World) (h : Rd w B ([67, 66, 78, 90] :: regL d :: [44] :: targetL imm :: [])) :
    Calls Try.prog 22 #[(.pointer (some ⟨B, 0, none⟩))] w (RetR B (.agg #[.int .i64 16, .int .i64 d, .int .i64 0, .int .i64 0, .int .i64 imm, .int .i64 0]) [] w) := by
  have RD := Lib.hid h
  have hBw := h.at.2.2.1
  have XX := Lib.hid (Ex.refl B w)
  clear h
  go_enter Try.func22, Try.ntmps22
  go_wp2_with fail
  obtain ⟨U1, hU⟩ : ∃ U1, U1 = w.alloc (.cells #[.int .i64 0, .int .i64 0, .int .i64 0, .int .i64 0, .int .i64 0, .int .i64 0] 24) := ⟨_, rfl⟩
  have hnA : U1.heap[w.heap.size]? = some (.cells #[.int .i64 0, .int .i64 0, .int .i64 0, .int .i64 0, .int .i64 0, .int .i64 0] 24) := by first | (rw [hU]; exact heap_new _ _ _ rfl) | rw [hU]
  have RD1 : Hid (Rd U1 B _) := Lib.hid (by rw [hU]; exact RD.out.new _)
  have XX1 : Hid (Ex B w U1) := Lib.hid (by rw [hU]; exact XX.out.new _)
  have hs1 : U1.heap.size = w.heap.size + 1 := by rw [hU]; simp
  rw [← hU]
  clear hU RD XX
  have RD := RD1
  have XX := XX1
  clear RD1 XX1
  have GA := Lib.hid hnA
  have hla : w.heap.size < U1.heap.size := by omega
  clear hnA hs1
  refine (next_any B _ _ _ RD.out).mono ?_
  rintro e V2 ⟨rfl, hr, hx⟩
  have RD2 := Lib.hid hr
  have XX2 := Lib.hid (XX.out.trans hx)
  have hsz := hx.size
  have ga := (hx.block w.heap.size hla (by omega)).trans GA.out
  clear hr hx RD XX
  have RD := RD2
  have XX := XX2
  clear RD2 XX2
  have hla2 : w.heap.size < V2.heap.size := by omega
  clear hla hsz GA
  have hla := hla2
  clear hla2
  have GA := Lib.hid ga
  try clear f1 l1 n1 z0 z1 z2 z3 z4 z5
  obtain ⟨c1, f1, l1, n1⟩ := block_cells ga
  have z0 := c1 0 _ rfl
  have z1 := c1 1 _ rfl
  have z2 := c1 2 _ rfl
  have z3 := c1 3 _ rfl
  have z4 := c1 4 _ rfl
  have z5 := c1 5 _ rfl
  clear c1 ga
  go_wp2_with fail
  refine (test_any B 16 d imm hd hi [] _ RD.out).mono ?_
  rintro e V3 ⟨rfl, hr, hx⟩
  have RD3 := Lib.hid hr
  have XX3 := Lib.hid (XX.out.trans hx)
  have hsz := hx.size
  have ga := (hx.block w.heap.size hla (by omega)).trans GA.out
  clear hr hx RD XX
  have RD := RD3
  have XX := XX3
  clear RD3 XX3
  have hla2 : w.heap.size < V3.heap.size := by omega
  clear hla hsz GA
  have hla := hla2
  clear hla2
  have GA := Lib.hid ga
  try clear f1 l1 n1 z0 z1 z2 z3 z4 z5
  obtain ⟨c1, f1, l1, n1⟩ := block_cells ga
  have z0 := c1 0 _ rfl
  have z1 := c1 1 _ rfl
  have z2 := c1 2 _ rfl
  have z3 := c1 3 _ rfl
  have z4 := c1 4 _ rfl
  have z5 := c1 5 _ rfl
  clear c1 ga
  go_wp2_with fail
  refine bodyPost_cell6 (A := w.heap.size) (t := 2) (v0 := .int .i64 16) (v1 := .int .i64 d) (v2 := .int .i64 0) (v3 := .int .i64 0) (v4 := .int .i64 imm) (v5 := .int .i64 0) Try.results22 rfl ?_ rfl ?_
  · refine six_stores (x0 := .int .i64 0) (x1 := .int .i64 0) (x2 := .int .i64 0) (x3 := .int .i64 0) (x4 := .int .i64 0) (x5 := .int .i64 0) ?_
    repeat' (with_reducible first | exact GA.out | exact hba | refine block_else ?_ ?_)
  refine ⟨rfl, ?_, ?_⟩
  · repeat' (with_reducible first | exact RD.out | exact hBw | exact hBb | refine Rd.put ?_ ?_)
  · repeat' (with_reducible first | exact XX.out | exact Nat.le_refl _ | exact hwb | refine Ex.put ?_ ?_ _)

set_option maxHeartbeats 8000000 in
theorem instr_18 (B : Nat) (K : Nat) (hK : K < 16) (hg : (K = 9 ∨ K = 10 ∨ K = 11 ∨ K = 13 ∨ K = 14 ∨ K = 15)) (w : World) (h : Rd w B ([68, 77, 66] :: barrierL (K : Int) :: [])) :
    Calls Try.prog 22 #[(.pointer (some ⟨B, 0, none⟩))] w (RetR B (.agg #[.int .i64 18, .int .i64 0, .int .i64 0, .int .i64 0, .int .i64 0, .int .i64 (K : Int)]) [] w) := by
  have RD := Lib.hid h
  have hBw := h.at.2.2.1
  have XX := Lib.hid (Ex.refl B w)
  clear h
  go_enter Try.func22, Try.ntmps22
  go_wp2_with fail
  obtain ⟨U1, hU⟩ : ∃ U1, U1 = w.alloc (.cells #[.int .i64 0, .int .i64 0, .int .i64 0, .int .i64 0, .int .i64 0, .int .i64 0] 24) := ⟨_, rfl⟩
  have hnA : U1.heap[w.heap.size]? = some (.cells #[.int .i64 0, .int .i64 0, .int .i64 0, .int .i64 0, .int .i64 0, .int .i64 0] 24) := by first | (rw [hU]; exact heap_new _ _ _ rfl) | rw [hU]
  have RD1 : Hid (Rd U1 B _) := Lib.hid (by rw [hU]; exact RD.out.new _)
  have XX1 : Hid (Ex B w U1) := Lib.hid (by rw [hU]; exact XX.out.new _)
  have hs1 : U1.heap.size = w.heap.size + 1 := by rw [hU]; simp
  rw [← hU]
  clear hU RD XX
  have RD := RD1
  have XX := XX1
  clear RD1 XX1
  have GA := Lib.hid hnA
  have hla : w.heap.size < U1.heap.size := by omega
  clear hnA hs1
  refine (next_any B _ _ _ RD.out).mono ?_
  rintro e V2 ⟨rfl, hr, hx⟩
  have RD2 := Lib.hid hr
  have XX2 := Lib.hid (XX.out.trans hx)
  have hsz := hx.size
  have ga := (hx.block w.heap.size hla (by omega)).trans GA.out
  clear hr hx RD XX
  have RD := RD2
  have XX := XX2
  clear RD2 XX2
  have hla2 : w.heap.size < V2.heap.size := by omega
  clear hla hsz GA
  have hla := hla2
  clear hla2
  have GA := Lib.hid ga
  try clear f1 l1 n1 z0 z1 z2 z3 z4 z5
  obtain ⟨c1, f1, l1, n1⟩ := block_cells ga
  have z0 := c1 0 _ rfl
  have z1 := c1 1 _ rfl
  have z2 := c1 2 _ rfl
  have z3 := c1 3 _ rfl
  have z4 := c1 4 _ rfl
  have z5 := c1 5 _ rfl
  clear c1 ga
  go_wp2_with fail
  refine (kind_barrier B K hK hg [] _ RD.out).mono ?_
  rintro e V3 ⟨rfl, hr, hx⟩
  have RD3 := Lib.hid hr
  have XX3 := Lib.hid (XX.out.trans hx)
  have hsz := hx.size
  have ga := (hx.block w.heap.size hla (by omega)).trans GA.out
  clear hr hx RD XX
  have RD := RD3
  have XX := XX3
  clear RD3 XX3
  have hla2 : w.heap.size < V3.heap.size := by omega
  clear hla hsz GA
  have hla := hla2
  clear hla2
  have GA := Lib.hid ga
  try clear f1 l1 n1 z0 z1 z2 z3 z4 z5
  obtain ⟨c1, f1, l1, n1⟩ := block_cells ga
  have z0 := c1 0 _ rfl
  have z1 := c1 1 _ rfl
  have z2 := c1 2 _ rfl
  have z3 := c1 3 _ rfl
  have z4 := c1 4 _ rfl
  have z5 := c1 5 _ rfl
  clear c1 ga
  go_wp2_with fail
  refine bodyPost_cell6 (A := w.heap.size) (t := 2) (v0 := .int .i64 18) (v1 := .int .i64 0) (v2 := .int .i64 0) (v3 := .int .i64 0) (v4 := .int .i64 0) (v5 := .int .i64 (K : Int)) Try.results22 rfl ?_ rfl ?_
  · refine six_stores (x0 := .int .i64 0) (x1 := .int .i64 0) (x2 := .int .i64 0) (x3 := .int .i64 0) (x4 := .int .i64 0) (x5 := .int .i64 0) ?_
    repeat' (with_reducible first | exact GA.out | exact hba | refine block_else ?_ ?_)
  refine ⟨rfl, ?_, ?_⟩
  · repeat' (with_reducible first | exact RD.out | exact hBw | exact hBb | refine Rd.put ?_ ?_)
  · repeat' (with_reducible first | exact XX.out | exact Nat.le_refl _ | exact hwb | refine Ex.put ?_ ?_ _)

set_option maxHeartbeats 8000000 in
theorem instr_19 (B : Nat) (K : Nat) (hK : K < 16) (hg : (K = 9 ∨ K = 10 ∨ K = 11 ∨ K = 13 ∨ K = 14 ∨ K = 15)) (w : World) (h : Rd w B ([68, 83, 66] :: barrierL (K : Int) :: [])) :
    Calls Try.prog 22 #[(.pointer (some ⟨B, 0, none⟩))] w (RetR B (.agg #[.int .i64 19, .int .i64 0, .int .i64 0, .int .i64 0, .int .i64 0, .int .i64 (K : Int)]) [] w) := by
  have RD := Lib.hid h
  have hBw := h.at.2.2.1
  have XX := Lib.hid (Ex.refl B w)
  clear h
  go_enter Try.func22, Try.ntmps22
  go_wp2_with fail
  obtain ⟨U1, hU⟩ : ∃ U1, U1 = w.alloc (.cells #[.int .i64 0, .int .i64 0, .int .i64 0, .int .i64 0, .int .i64 0, .int .i64 0] 24) := ⟨_, rfl⟩
  have hnA : U1.heap[w.heap.size]? = some (.cells #[.int .i64 0, .int .i64 0, .int .i64 0, .int .i64 0, .int .i64 0, .int .i64 0] 24) := by first | (rw [hU]; exact heap_new _ _ _ rfl) | rw [hU]
  have RD1 : Hid (Rd U1 B _) := Lib.hid (by rw [hU]; exact RD.out.new _)
  have XX1 : Hid (Ex B w U1) := Lib.hid (by rw [hU]; exact XX.out.new _)
  have hs1 : U1.heap.size = w.heap.size + 1 := by rw [hU]; simp
  rw [← hU]
  clear hU RD XX
  have RD := RD1
  have XX := XX1
  clear RD1 XX1
  have GA := Lib.hid hnA
  have hla : w.heap.size < U1.heap.size := by omega
  clear hnA hs1
  refine (next_any B _ _ _ RD.out).mono ?_
  rintro e V2 ⟨rfl, hr, hx⟩
  have RD2 := Lib.hid hr
  have XX2 := Lib.hid (XX.out.trans hx)
  have hsz := hx.size
  have ga := (hx.block w.heap.size hla (by omega)).trans GA.out
  clear hr hx RD XX
  have RD := RD2
  have XX := XX2
  clear RD2 XX2
  have hla2 : w.heap.size < V2.heap.size := by omega
  clear hla hsz GA
  have hla := hla2
  clear hla2
  have GA := Lib.hid ga
  try clear f1 l1 n1 z0 z1 z2 z3 z4 z5
  obtain ⟨c1, f1, l1, n1⟩ := block_cells ga
  have z0 := c1 0 _ rfl
  have z1 := c1 1 _ rfl
  have z2 := c1 2 _ rfl
  have z3 := c1 3 _ rfl
  have z4 := c1 4 _ rfl
  have z5 := c1 5 _ rfl
  clear c1 ga
  go_wp2_with fail
  refine (kind_barrier B K hK hg [] _ RD.out).mono ?_
  rintro e V3 ⟨rfl, hr, hx⟩
  have RD3 := Lib.hid hr
  have XX3 := Lib.hid (XX.out.trans hx)
  have hsz := hx.size
  have ga := (hx.block w.heap.size hla (by omega)).trans GA.out
  clear hr hx RD XX
  have RD := RD3
  have XX := XX3
  clear RD3 XX3
  have hla2 : w.heap.size < V3.heap.size := by omega
  clear hla hsz GA
  have hla := hla2
  clear hla2
  have GA := Lib.hid ga
  try clear f1 l1 n1 z0 z1 z2 z3 z4 z5
  obtain ⟨c1, f1, l1, n1⟩ := block_cells ga
  have z0 := c1 0 _ rfl
  have z1 := c1 1 _ rfl
  have z2 := c1 2 _ rfl
  have z3 := c1 3 _ rfl
  have z4 := c1 4 _ rfl
  have z5 := c1 5 _ rfl
  clear c1 ga
  go_wp2_with fail
  refine bodyPost_cell6 (A := w.heap.size) (t := 2) (v0 := .int .i64 19) (v1 := .int .i64 0) (v2 := .int .i64 0) (v3 := .int .i64 0) (v4 := .int .i64 0) (v5 := .int .i64 (K : Int)) Try.results22 rfl ?_ rfl ?_
  · refine six_stores (x0 := .int .i64 0) (x1 := .int .i64 0) (x2 := .int .i64 0) (x3 := .int .i64 0) (x4 := .int .i64 0) (x5 := .int .i64 0) ?_
    repeat' (with_reducible first | exact GA.out | exact hba | refine block_else ?_ ?_)
  refine ⟨rfl, ?_, ?_⟩
  · repeat' (with_reducible first | exact RD.out | exact hBw | exact hBb | refine Rd.put ?_ ?_)
  · repeat' (with_reducible first | exact XX.out | exact Nat.le_refl _ | exact hwb | refine Ex.put ?_ ?_ _)

set_option maxHeartbeats 8000000 in
theorem instr_21_0 (B : Nat) (K : Nat) (hK : K < 8) (h4 : (K : Int) % 4 = 0) (w : World) (h : Rd w B ([84, 76, 66, 73] :: flushL (K : Int) :: [])) :
    Calls Try.prog 22 #[(.pointer (some ⟨B, 0, none⟩))] w (RetR B (.agg #[.int .i64 21, .int .i64 31, .int .i64 0, .int .i64 0, .int .i64 0, .int .i64 (K : Int)]) [] w) := by
  have RD := Lib.hid h
  have hBw := h.at.2.2.1
  have XX := Lib.hid (Ex.refl B w)
  clear h
  go_enter Try.func22, Try.ntmps22
  go_wp2_with fail
  obtain ⟨U1, hU⟩ : ∃ U1, U1 = w.alloc (.cells #[.int .i64 0, .int .i64 0, .int .i64 0, .int .i64 0, .int .i64 0, .int .i64 0] 24) := ⟨_, rfl⟩
  have hnA : U1.heap[w.heap.size]? = some (.cells #[.int .i64 0, .int .i64 0, .int .i64 0, .int .i64 0, .int .i64 0, .int .i64 0] 24) := by first | (rw [hU]; exact heap_new _ _ _ rfl) | rw [hU]
  have RD1 : Hid (Rd U1 B _) := Lib.hid (by rw [hU]; exact RD.out.new _)
  have XX1 : Hid (Ex B w U1) := Lib.hid (by rw [hU]; exact XX.out.new _)
  have hs1 : U1.heap.size = w.heap.size + 1 := by rw [hU]; simp
  rw [← hU]
  clear hU RD XX
  have RD := RD1
  have XX := XX1
  clear RD1 XX1
  have GA := Lib.hid hnA
  have hla : w.heap.size < U1.heap.size := by omega
  clear hnA hs1
  refine (next_any B _ _ _ RD.out).mono ?_
  rintro e V2 ⟨rfl, hr, hx⟩
  have RD2 := Lib.hid hr
  have XX2 := Lib.hid (XX.out.trans hx)
  have hsz := hx.size
  have ga := (hx.block w.heap.size hla (by omega)).trans GA.out
  clear hr hx RD XX
  have RD := RD2
  have XX := XX2
  clear RD2 XX2
  have hla2 : w.heap.size < V2.heap.size := by omega
  clear hla hsz GA
  have hla := hla2
  clear hla2
  have GA := Lib.hid ga
  try clear f1 l1 n1 z0 z1 z2 z3 z4 z5
  obtain ⟨c1, f1, l1, n1⟩ := block_cells ga
  have z0 := c1 0 _ rfl
  have z1 := c1 1 _ rfl
  have z2 := c1 2 _ rfl
  have z3 := c1 3 _ rfl
  have z4 := c1 4 _ rfl
  have z5 := c1 5 _ rfl
  clear c1 ga
  go_wp2_with fail
  refine (flush0 B K hK h4 [] _ RD.out).mono ?_
  rintro e V3 ⟨rfl, hr, hx⟩
  have RD3 := Lib.hid hr
  have XX3 := Lib.hid (XX.out.trans hx)
  have hsz := hx.size
  have ga := (hx.block w.heap.size hla (by omega)).trans GA.out
  clear hr hx RD XX
  have RD := RD3
  have XX := XX3
  clear RD3 XX3
  have hla2 : w.heap.size < V3.heap.size := by omega
  clear hla hsz GA
  have hla := hla2
  clear hla2
  have GA := Lib.hid ga
  try clear f1 l1 n1 z0 z1 z2 z3 z4 z5
  obtain ⟨c1, f1, l1, n1⟩ := block_cells ga
  have z0 := c1 0 _ rfl
  have z1 := c1 1 _ rfl
  have z2 := c1 2 _ rfl
  have z3 := c1 3 _ rfl
  have z4 := c1 4 _ rfl
  have z5 := c1 5 _ rfl
  clear c1 ga
  go_wp2_with fail
  refine bodyPost_cell6 (A := w.heap.size) (t := 2) (v0 := .int .i64 21) (v1 := .int .i64 31) (v2 := .int .i64 0) (v3 := .int .i64 0) (v4 := .int .i64 0) (v5 := .int .i64 (K : Int)) Try.results22 rfl ?_ rfl ?_
  · refine six_stores (x0 := .int .i64 0) (x1 := .int .i64 0) (x2 := .int .i64 0) (x3 := .int .i64 0) (x4 := .int .i64 0) (x5 := .int .i64 0) ?_
    repeat' (with_reducible first | exact GA.out | exact hba | refine block_else ?_ ?_)
  refine ⟨rfl, ?_, ?_⟩
  · repeat' (with_reducible first | exact RD.out | exact hBw | exact hBb | refine Rd.put ?_ ?_)
  · repeat' (with_reducible first | exact XX.out | exact Nat.le_refl _ | exact hwb | refine Ex.put ?_ ?_ _)

set_option maxHeartbeats 8000000 in
theorem instr_21_1 (B : Nat) (K : Nat) (hK : K < 8) (h4 : ¬ (K : Int) % 4 = 0) (d : Int) (hd : 0 ≤ d ∧ d ≤ 31) (w : World) (h : Rd w B ([84, 76, 66, 73] :: flushL (K : Int) :: [44] :: regL d :: [])) :
    Calls Try.prog 22 #[(.pointer (some ⟨B, 0, none⟩))] w (RetR B (.agg #[.int .i64 21, .int .i64 d, .int .i64 0, .int .i64 0, .int .i64 0, .int .i64 (K : Int)]) [] w) := by
  have RD := Lib.hid h
  have hBw := h.at.2.2.1
  have XX := Lib.hid (Ex.refl B w)
  clear h
  go_enter Try.func22, Try.ntmps22
  go_wp2_with fail
  obtain ⟨U1, hU⟩ : ∃ U1, U1 = w.alloc (.cells #[.int .i64 0, .int .i64 0, .int .i64 0, .int .i64 0, .int .i64 0, .int .i64 0] 24) := ⟨_, rfl⟩
  have hnA : U1.heap[w.heap.size]? = some (.cells #[.int .i64 0, .int .i64 0, .int .i64 0, .int .i64 0, .int .i64 0, .int .i64 0] 24) := by first | (rw [hU]; exact heap_new _ _ _ rfl) | rw [hU]
  have RD1 : Hid (Rd U1 B _) := Lib.hid (by rw [hU]; exact RD.out.new _)
  have XX1 : Hid (Ex B w U1) := Lib.hid (by rw [hU]; exact XX.out.new _)
  have hs1 : U1.heap.size = w.heap.size + 1 := by rw [hU]; simp
  rw [← hU]
  clear hU RD XX
  have RD := RD1
  have XX := XX1
  clear RD1 XX1
  have GA := Lib.hid hnA
  have hla : w.heap.size < U1.heap.size := by omega
  clear hnA hs1
  refine (next_any B _ _ _ RD.out).mono ?_
  rintro e V2 ⟨rfl, hr, hx⟩
  have RD2 := Lib.hid hr
  have XX2 := Lib.hid (XX.out.trans hx)
  have hsz := hx.size
  have ga := (hx.block w.heap.size hla (by omega)).trans GA.out
  clear hr hx RD XX
  have RD := RD2
  have XX := XX2
  clear RD2 XX2
  have hla2 : w.heap.size < V2.heap.size := by omega
  clear hla hsz GA
  have hla := hla2
  clear hla2
  have GA := Lib.hid ga
  try clear f1 l1 n1 z0 z1 z2 z3 z4 z5
  obtain ⟨c1, f1, l1, n1⟩ := block_cells ga
  have z0 := c1 0 _ rfl
  have z1 := c1 1 _ rfl
  have z2 := c1 2 _ rfl
  have z3 := c1 3 _ rfl
  have z4 := c1 4 _ rfl
  have z5 := c1 5 _ rfl
  clear c1 ga
  go_wp2_with fail
  refine (flush1 B K hK h4 d hd [] _ RD.out).mono ?_
  rintro e V3 ⟨rfl, hr, hx⟩
  have RD3 := Lib.hid hr
  have XX3 := Lib.hid (XX.out.trans hx)
  have hsz := hx.size
  have ga := (hx.block w.heap.size hla (by omega)).trans GA.out
  clear hr hx RD XX
  have RD := RD3
  have XX := XX3
  clear RD3 XX3
  have hla2 : w.heap.size < V3.heap.size := by omega
  clear hla hsz GA
  have hla := hla2
  clear hla2
  have GA := Lib.hid ga
  try clear f1 l1 n1 z0 z1 z2 z3 z4 z5
  obtain ⟨c1, f1, l1, n1⟩ := block_cells ga
  have z0 := c1 0 _ rfl
  have z1 := c1 1 _ rfl
  have z2 := c1 2 _ rfl
  have z3 := c1 3 _ rfl
  have z4 := c1 4 _ rfl
  have z5 := c1 5 _ rfl
  clear c1 ga
  go_wp2_with fail
  refine bodyPost_cell6 (A := w.heap.size) (t := 2) (v0 := .int .i64 21) (v1 := .int .i64 d) (v2 := .int .i64 0) (v3 := .int .i64 0) (v4 := .int .i64 0) (v5 := .int .i64 (K : Int)) Try.results22 rfl ?_ rfl ?_
  · refine six_stores (x0 := .int .i64 0) (x1 := .int .i64 0) (x2 := .int .i64 0) (x3 := .int .i64 0) (x4 := .int .i64 0) (x5 := .int .i64 0) ?_
    repeat' (with_reducible first | exact GA.out | exact hba | refine block_else ?_ ?_)
  refine ⟨rfl, ?_, ?_⟩
  · repeat' (with_reducible first | exact RD.out | exact hBw | exact hBb | refine Rd.put ?_ ?_)
  · repeat' (with_reducible first | exact XX.out | exact Nat.le_refl _ | exact hwb | refine Ex.put ?_ ?_ _)

set_option maxHeartbeats 8000000 in
theorem instr_13_c (B : Nat) (n m : Int) (hn : 0 ≤ n ∧ n ≤ 31) (hm : 0 ≤ m ∧ m ≤ 31) (w : World) (h : Rd w B ([67, 77, 80] :: regL n :: [44] :: regL m :: [])) :
    Calls Try.prog 22 #[(.pointer (some ⟨B, 0, none⟩))] w (RetR B (.agg #[.int .i64 13, .int .i64 31, .int .i64 n, .int .i64 m, .int .i64 0, .int .i64 0]) [] w) := by
  have RD := Lib.hid h
  have hBw := h.at.2.2.1
  have XX := Lib.hid (Ex.refl B w)
  clear h
  go_enter Try.func22, Try.ntmps22
  go_wp2_with fail
  obtain ⟨U1, hU⟩ : ∃ U1, U1 = w.alloc (.cells #[.int .i64 0, .int .i64 0, .int .i64 0, .int .i64 0, .int .i64 0, .int .i64 0] 24) := ⟨_, rfl⟩
  have hnA : U1.heap[w.heap.size]? = some (.cells #[.int .i64 0, .int .i64 0, .int .i64 0, .int .i64 0, .int .i64 0, .int .i64 0] 24) := by first | (rw [hU]; exact heap_new _ _ _ rfl) | rw [hU]
  have RD1 : Hid (Rd U1 B _) := Lib.hid (by rw [hU]; exact RD.out.new _)
  have XX1 : Hid (Ex B w U1) := Lib.hid (by rw [hU]; exact XX.out.new _)
  have hs1 : U1.heap.size = w.heap.size + 1 := by rw [hU]; simp
  rw [← hU]
  clear hU RD XX
  have RD := RD1
  have XX := XX1
  clear RD1 XX1
  have GA := Lib.hid hnA
  have hla : w.heap.size < U1.heap.size := by omega
  clear hnA hs1
  refine (next_any B _ _ _ RD.out).mono ?_
  rintro e V2 ⟨rfl, hr, hx⟩
  have RD2 := Lib.hid hr
  have XX2 := Lib.hid (XX.out.trans hx)
  have hsz := hx.size
  have ga := (hx.block w.heap.size hla (by omega)).trans GA.out
  clear hr hx RD XX
  have RD := RD2
  have XX := XX2
  clear RD2 XX2
  have hla2 : w.heap.size < V2.heap.size := by omega
  clear hla hsz GA
  have hla := hla2
  clear hla2
  have GA := Lib.hid ga
  try clear f1 l1 n1 z0 z1 z2 z3 z4 z5
  obtain ⟨c1, f1, l1, n1⟩ := block_cells ga
  have z0 := c1 0 _ rfl
  have z1 := c1 1 _ rfl
  have z2 := c1 2 _ rfl
  have z3 := c1 3 _ rfl
  have z4 := c1 4 _ rfl
  have z5 := c1 5 _ rfl
  clear c1 ga
  go_wp2_with fail
  refine (rreg_any B n hn.1 hn.2 _ _ RD.out).mono ?_
  rintro e V3 ⟨rfl, hr, hx⟩
  have RD3 := Lib.hid hr
  have XX3 := Lib.hid (XX.out.trans hx)
  have hsz := hx.size
  have ga := (hx.block w.heap.size hla (by omega)).trans GA.out
  clear hr hx RD XX
  have RD := RD3
  have XX := XX3
  clear RD3 XX3
  have hla2 : w.heap.size < V3.heap.size := by omega
  clear hla hsz GA
  have hla := hla2
  clear hla2
  have GA := Lib.hid ga
  try clear f1 l1 n1 z0 z1 z2 z3 z4 z5
  obtain ⟨c1, f1, l1, n1⟩ := block_cells ga
  have z0 := c1 0 _ rfl
  have z1 := c1 1 _ rfl
  have z2 := c1 2 _ rfl
  have z3 := c1 3 _ rfl
  have z4 := c1 4 _ rfl
  have z5 := c1 5 _ rfl
  clear c1 ga
  go_wp2_with fail
  try clear f1 l1 n1 z0 z1 z2 z3 z4 z5
  obtain ⟨U4, hU⟩ : ∃ U4, U4 = V3.alloc (.cells #[.int .i64 13, .int .i64 31, .int .i64 n, .int .i64 0, .int .i64 0, .int .i64 0] 24) := ⟨_, rfl⟩
  have hnC : U4.heap[V3.heap.size]? = some (.cells #[.int .i64 13, .int .i64 31, .int .i64 n, .int .i64 0, .int .i64 0, .int .i64 0] 24) := by first | (rw [hU]; exact heap_new _ _ _ rfl) | rw [hU]
  have RD4 : Hid (Rd U4 B _) := Lib.hid (by rw [hU]; exact RD.out.new _)
  have XX4 : Hid (Ex B w U4) := Lib.hid (by rw [hU]; exact XX.out.new _)
  have hs4 : U4.heap.size = V3.heap.size + 1 := by rw [hU]; simp
  have GA4 : Hid (U4.heap[w.heap.size]? = some (.cells #[.int .i64 0, .int .i64 0, .int .i64 0, .int .i64 0, .int .i64 0, .int .i64 0] 24)) := Lib.hid (by rw [hU]; exact heap_old _ _ _ _ GA.out)
  rw [← hU]
  clear hU RD GA
  have RD := RD4
  have GA := GA4
  clear RD4 GA4
  obtain ⟨b, hb⟩ : ∃ b, b = V3.heap.size := ⟨_, rfl⟩
  rw [← hb] at hnC hs4 ⊢
  have hBb : B < b := by have := XX.out.size; omega
  have hwb : w.heap.size ≤ b := by omega
  have hlb : b < U4.heap.size := by omega
  have hla4 : w.heap.size < U4.heap.size := by omega
  have hab : ¬ w.heap.size = b := by omega
  have hba : ¬ b = w.heap.size := by omega
  have GC := Lib.hid hnC
  clear XX hb hs4 hnC hla
  have XX := XX4
  have hla := hla4
  clear XX4 hla4
  refine (must_any B [44] _ _ RD.out).mono ?_
  rintro e V5 ⟨rfl, hr, hx⟩
  have RD5 := Lib.hid hr
  have XX5 := Lib.hid (XX.out.trans hx)
  have hsz := hx.size
  have ga := (hx.block w.heap.size hla (by omega)).trans GA.out
  have gc := (hx.block b hlb (by omega)).trans GC.out
  clear hr hx RD XX
  have RD := RD5
  have XX := XX5
  clear RD5 XX5
  have hla2 : w.heap.size < V5.heap.size := by omega
  have hlb2 : b < V5.heap.size := by omega
  clear hla hlb hsz GA GC
  have hla := hla2
  have hlb := hlb2
  clear hla2 hlb2
  have GA := Lib.hid ga
  have GC := Lib.hid gc
  try clear f1 l1 n1 z0 z1 z2 z3 z4 z5
  try clear f2 l2 n2 y0 y1 y2 y3 y4 y5
  obtain ⟨c1, f1, l1, n1⟩ := block_cells ga
  have z0 := c1 0 _ rfl
  have z1 := c1 1 _ rfl
  have z2 := c1 2 _ rfl
  have z3 := c1 3 _ rfl
  have z4 := c1 4 _ rfl
  have z5 := c1 5 _ rfl
  obtain ⟨c2, f2, l2, n2⟩ := block_cells gc
  have y0 := c2 0 _ rfl
  have y1 := c2 1 _ rfl
  have y2 := c2 2 _ rfl
  have y3 := c2 3 _ rfl
  have y4 := c2 4 _ rfl
  have y5 := c2 5 _ rfl
  clear c1 ga c2 gc
  go_wp2_with fail
  refine (rreg_any B m hm.1 hm.2 _ _ RD.out).mono ?_
  rintro e V6 ⟨rfl, hr, hx⟩
  have RD6 := Lib.hid hr
  have XX6 := Lib.hid (XX.out.trans hx)
  have hsz := hx.size
  have ga := (hx.block w.heap.size hla (by omega)).trans GA.out
  have gc := (hx.block b hlb (by omega)).trans GC.out
  clear hr hx RD XX
  have RD := RD6
  have XX := XX6
  clear RD6 XX6
  have hla2 : w.heap.size < V6.heap.size := by omega
  have hlb2 : b < V6.heap.size := by omega
  clear hla hlb hsz GA GC
  have hla := hla2
  have hlb := hlb2
  clear hla2 hlb2
  have GA := Lib.hid ga
  have GC := Lib.hid gc
  try clear f1 l1 n1 z0 z1 z2 z3 z4 z5
  try clear f2 l2 n2 y0 y1 y2 y3 y4 y5
  obtain ⟨c1, f1, l1, n1⟩ := block_cells ga
  have z0 := c1 0 _ rfl
  have z1 := c1 1 _ rfl
  have z2 := c1 2 _ rfl
  have z3 := c1 3 _ rfl
  have z4 := c1 4 _ rfl
  have z5 := c1 5 _ rfl
  obtain ⟨c2, f2, l2, n2⟩ := block_cells gc
  have y0 := c2 0 _ rfl
  have y1 := c2 1 _ rfl
  have y2 := c2 2 _ rfl
  have y3 := c2 3 _ rfl
  have y4 := c2 4 _ rfl
  have y5 := c2 5 _ rfl
  clear c1 ga c2 gc
  go_wp2_with fail
  refine bodyPost_cell6 (A := w.heap.size) (t := 2) (v0 := .int .i64 13) (v1 := .int .i64 31) (v2 := .int .i64 n) (v3 := .int .i64 m) (v4 := .int .i64 0) (v5 := .int .i64 0) Try.results22 rfl ?_ rfl ?_
  · refine six_stores (x0 := .int .i64 0) (x1 := .int .i64 0) (x2 := .int .i64 0) (x3 := .int .i64 0) (x4 := .int .i64 0) (x5 := .int .i64 0) ?_
    repeat' (with_reducible first | exact GA.out | exact hba | refine block_else ?_ ?_)
  refine ⟨rfl, ?_, ?_⟩
  · repeat' (with_reducible first | exact RD.out | exact hBw | exact hBb | refine Rd.put ?_ ?_)
  · repeat' (with_reducible first | exact XX.out | exact Nat.le_refl _ | exact hwb | refine Ex.put ?_ ?_ _)

set_option maxHeartbeats 8000000 in
theorem instr_23 (B : Nat) (d : Int) (hd : 0 ≤ d ∧ d ≤ 31) (K : Nat) (hK : K < 3) (w : World) (h : Rd w B ([77, 82, 83] :: regL d :: [44] :: systemL (K : Int) :: [])) :
    Calls Try.prog 22 #[(.pointer (some ⟨B, 0, none⟩))] w (RetR B (.agg #[.int .i64 23, .int .i64 d, .int .i64 0, .int .i64 0, .int .i64 0, .int .i64 (K : Int)]) [] w) := by
  have RD := Lib.hid h
  have hBw := h.at.2.2.1
  have XX := Lib.hid (Ex.refl B w)
  clear h
  go_enter Try.func22, Try.ntmps22
  go_wp2_with fail
  obtain ⟨U1, hU⟩ : ∃ U1, U1 = w.alloc (.cells #[.int .i64 0, .int .i64 0, .int .i64 0, .int .i64 0, .int .i64 0, .int .i64 0] 24) := ⟨_, rfl⟩
  have hnA : U1.heap[w.heap.size]? = some (.cells #[.int .i64 0, .int .i64 0, .int .i64 0, .int .i64 0, .int .i64 0, .int .i64 0] 24) := by first | (rw [hU]; exact heap_new _ _ _ rfl) | rw [hU]
  have RD1 : Hid (Rd U1 B _) := Lib.hid (by rw [hU]; exact RD.out.new _)
  have XX1 : Hid (Ex B w U1) := Lib.hid (by rw [hU]; exact XX.out.new _)
  have hs1 : U1.heap.size = w.heap.size + 1 := by rw [hU]; simp
  rw [← hU]
  clear hU RD XX
  have RD := RD1
  have XX := XX1
  clear RD1 XX1
  have GA := Lib.hid hnA
  have hla : w.heap.size < U1.heap.size := by omega
  clear hnA hs1
  refine (next_any B _ _ _ RD.out).mono ?_
  rintro e V2 ⟨rfl, hr, hx⟩
  have RD2 := Lib.hid hr
  have XX2 := Lib.hid (XX.out.trans hx)
  have hsz := hx.size
  have ga := (hx.block w.heap.size hla (by omega)).trans GA.out
  clear hr hx RD XX
  have RD := RD2
  have XX := XX2
  clear RD2 XX2
  have hla2 : w.heap.size < V2.heap.size := by omega
  clear hla hsz GA
  have hla := hla2
  clear hla2
  have GA := Lib.hid ga
  try clear f1 l1 n1 z0 z1 z2 z3 z4 z5
  obtain ⟨c1, f1, l1, n1⟩ := block_cells ga
  have z0 := c1 0 _ rfl
  have z1 := c1 1 _ rfl
  have z2 := c1 2 _ rfl
  have z3 := c1 3 _ rfl
  have z4 := c1 4 _ rfl
  have z5 := c1 5 _ rfl
  clear c1 ga
  go_wp2_with fail
  refine (rreg_any B d hd.1 hd.2 _ _ RD.out).mono ?_
  rintro e V3 ⟨rfl, hr, hx⟩
  have RD3 := Lib.hid hr
  have XX3 := Lib.hid (XX.out.trans hx)
  have hsz := hx.size
  have ga := (hx.block w.heap.size hla (by omega)).trans GA.out
  clear hr hx RD XX
  have RD := RD3
  have XX := XX3
  clear RD3 XX3
  have hla2 : w.heap.size < V3.heap.size := by omega
  clear hla hsz GA
  have hla := hla2
  clear hla2
  have GA := Lib.hid ga
  try clear f1 l1 n1 z0 z1 z2 z3 z4 z5
  obtain ⟨c1, f1, l1, n1⟩ := block_cells ga
  have z0 := c1 0 _ rfl
  have z1 := c1 1 _ rfl
  have z2 := c1 2 _ rfl
  have z3 := c1 3 _ rfl
  have z4 := c1 4 _ rfl
  have z5 := c1 5 _ rfl
  clear c1 ga
  go_wp2_with fail
  try clear f1 l1 n1 z0 z1 z2 z3 z4 z5
  obtain ⟨U4, hU⟩ : ∃ U4, U4 = V3.alloc (.cells #[.int .i64 23, .int .i64 d, .int .i64 0, .int .i64 0, .int .i64 0, .int .i64 0] 24) := ⟨_, rfl⟩
  have hnC : U4.heap[V3.heap.size]? = some (.cells #[.int .i64 23, .int .i64 d, .int .i64 0, .int .i64 0, .int .i64 0, .int .i64 0] 24) := by first | (rw [hU]; exact heap_new _ _ _ rfl) | rw [hU]
  have RD4 : Hid (Rd U4 B _) := Lib.hid (by rw [hU]; exact RD.out.new _)
  have XX4 : Hid (Ex B w U4) := Lib.hid (by rw [hU]; exact XX.out.new _)
  have hs4 : U4.heap.size = V3.heap.size + 1 := by rw [hU]; simp
  have GA4 : Hid (U4.heap[w.heap.size]? = some (.cells #[.int .i64 0, .int .i64 0, .int .i64 0, .int .i64 0, .int .i64 0, .int .i64 0] 24)) := Lib.hid (by rw [hU]; exact heap_old _ _ _ _ GA.out)
  rw [← hU]
  clear hU RD GA
  have RD := RD4
  have GA := GA4
  clear RD4 GA4
  obtain ⟨b, hb⟩ : ∃ b, b = V3.heap.size := ⟨_, rfl⟩
  rw [← hb] at hnC hs4 ⊢
  have hBb : B < b := by have := XX.out.size; omega
  have hwb : w.heap.size ≤ b := by omega
  have hlb : b < U4.heap.size := by omega
  have hla4 : w.heap.size < U4.heap.size := by omega
  have hab : ¬ w.heap.size = b := by omega
  have hba : ¬ b = w.heap.size := by omega
  have GC := Lib.hid hnC
  clear XX hb hs4 hnC hla
  have XX := XX4
  have hla := hla4
  clear XX4 hla4
  refine (must_any B [44] _ _ RD.out).mono ?_
  rintro e V5 ⟨rfl, hr, hx⟩
  have RD5 := Lib.hid hr
  have XX5 := Lib.hid (XX.out.trans hx)
  have hsz := hx.size
  have ga := (hx.block w.heap.size hla (by omega)).trans GA.out
  have gc := (hx.block b hlb (by omega)).trans GC.out
  clear hr hx RD XX
  have RD := RD5
  have XX := XX5
  clear RD5 XX5
  have hla2 : w.heap.size < V5.heap.size := by omega
  have hlb2 : b < V5.heap.size := by omega
  clear hla hlb hsz GA GC
  have hla := hla2
  have hlb := hlb2
  clear hla2 hlb2
  have GA := Lib.hid ga
  have GC := Lib.hid gc
  try clear f1 l1 n1 z0 z1 z2 z3 z4 z5
  try clear f2 l2 n2 y0 y1 y2 y3 y4 y5
  obtain ⟨c1, f1, l1, n1⟩ := block_cells ga
  have z0 := c1 0 _ rfl
  have z1 := c1 1 _ rfl
  have z2 := c1 2 _ rfl
  have z3 := c1 3 _ rfl
  have z4 := c1 4 _ rfl
  have z5 := c1 5 _ rfl
  obtain ⟨c2, f2, l2, n2⟩ := block_cells gc
  have y0 := c2 0 _ rfl
  have y1 := c2 1 _ rfl
  have y2 := c2 2 _ rfl
  have y3 := c2 3 _ rfl
  have y4 := c2 4 _ rfl
  have y5 := c2 5 _ rfl
  clear c1 ga c2 gc
  go_wp2_with fail
  refine (kind_system B K hK trivial _ _ RD.out).mono ?_
  rintro e V6 ⟨rfl, hr, hx⟩
  have RD6 := Lib.hid hr
  have XX6 := Lib.hid (XX.out.trans hx)
  have hsz := hx.size
  have ga := (hx.block w.heap.size hla (by omega)).trans GA.out
  have gc := (hx.block b hlb (by omega)).trans GC.out
  clear hr hx RD XX
  have RD := RD6
  have XX := XX6
  clear RD6 XX6
  have hla2 : w.heap.size < V6.heap.size := by omega
  have hlb2 : b < V6.heap.size := by omega
  clear hla hlb hsz GA GC
  have hla := hla2
  have hlb := hlb2
  clear hla2 hlb2
  have GA := Lib.hid ga
  have GC := Lib.hid gc
  try clear f1 l1 n1 z0 z1 z2 z3 z4 z5
  try clear f2 l2 n2 y0 y1 y2 y3 y4 y5
  obtain ⟨c1, f1, l1, n1⟩ := block_cells ga
  have z0 := c1 0 _ rfl
  have z1 := c1 1 _ rfl
  have z2 := c1 2 _ rfl
  have z3 := c1 3 _ rfl
  have z4 := c1 4 _ rfl
  have z5 := c1 5 _ rfl
  obtain ⟨c2, f2, l2, n2⟩ := block_cells gc
  have y0 := c2 0 _ rfl
  have y1 := c2 1 _ rfl
  have y2 := c2 2 _ rfl
  have y3 := c2 3 _ rfl
  have y4 := c2 4 _ rfl
  have y5 := c2 5 _ rfl
  clear c1 ga c2 gc
  go_wp2_with fail
  refine bodyPost_cell6 (A := w.heap.size) (t := 2) (v0 := .int .i64 23) (v1 := .int .i64 d) (v2 := .int .i64 0) (v3 := .int .i64 0) (v4 := .int .i64 0) (v5 := .int .i64 (K : Int)) Try.results22 rfl ?_ rfl ?_
  · refine six_stores (x0 := .int .i64 0) (x1 := .int .i64 0) (x2 := .int .i64 0) (x3 := .int .i64 0) (x4 := .int .i64 0) (x5 := .int .i64 0) ?_
    repeat' (with_reducible first | exact GA.out | exact hba | refine block_else ?_ ?_)
  refine ⟨rfl, ?_, ?_⟩
  · repeat' (with_reducible first | exact RD.out | exact hBw | exact hBb | refine Rd.put ?_ ?_)
  · repeat' (with_reducible first | exact XX.out | exact Nat.le_refl _ | exact hwb | refine Ex.put ?_ ?_ _)

end Go.Proofs.Ytdlodacogldinaa
