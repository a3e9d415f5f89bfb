/- Contract of asm.Parse at a text that tells an instruction. -/
import Derived.Test.YtdlodacogldinaaRoun
namespace Go.Proofs.Ytdlodacogldinaa
open Go.RowKit
set_option linter.unusedSimpArgs false
set_option linter.unusedVariables false

theorem bodyPost_cell6t {fn : Func} {R : Ending → World → Prop} {a : Act} {W : World} {A : Nat} {t u : Tmp} {v0 v1 v2 v3 v4 v5 e : Value} (hr : fn.results = #[.cell t 24, .tmp u]) (ht : a.tmps[t]? = some (.pointer (some ⟨A, 0, none⟩))) (hu : a.tmps.getD u undef = e)
    (hc : W.heap[A]? = some (.cells #[v0, v1, v2, v3, v4, v5] 24)) (hd : a.defers = []) (hR : R (.returned (.tuple #[.agg #[v0, v1, v2, v3, v4, v5], e])) W) : bodyPost Try.prog fn R .ret a W := by
  obtain ⟨c, f, l, n⟩ := block_cells hc
  have c0 := c 0 _ rfl
  have c1 := c 1 _ rfl
  have c2 := c 2 _ rfl
  have c3 := c 3 _ rfl
  have c4 := c 4 _ rfl
  have c5 := c 5 _ rfl
  refine bodyPost_ret (v := .tuple #[.agg #[v0, v1, v2, v3, v4, v5], e]) ?_ hd hR
  simp at c0 c1 c2 c3 c4 c5
  simp only [Array.getD_eq_getD_getElem?] at hu
  simp [results, hr, go_sem, ht, hu, c0, c1, c2, c3, c4, c5]

/-- A reader that is new. -/
theorem Rd.fresh {w : World} {base cap : Nat} {ao : Option Addr} {ws : List (List UInt8)} (h : w.ownsRow base 9 1 (.slice ao ws.length cap) ws.length (strsV ws)) (hne : ws ≠ []) :
    Rd (w.alloc (.cells #[.slice ao ws.length cap, .bool false] 49)) w.heap.size ws := by
  rcases h.2 with ⟨hv, hl⟩ | ⟨g, cap', cur, hv, hg, hh, hn, hm, hsz, htk⟩
  · exact absurd (List.eq_nil_of_length_eq_zero hl) hne
  · simp only [Value.slice.injEq] at hv
    obtain ⟨rfl, -, rfl⟩ := hv
    have hgl := (Array.getElem?_eq_some_iff.1 hh).1
    refine ⟨g, 0, cap, heap_new _ _ _ rfl, hgl, by simp; omega, hn, hm, fun i hi => ?_⟩
    have h1 : (w.alloc (.cells #[.slice (some ⟨g, 0, none⟩) ws.length cap, .bool false] 49)).heap[g]? = w.heap[g]? := (heap_old _ _ _ _ hh).trans hh.symm
    rw [cell_eq h1]
    have := h.cellAt i (by rw [Nat.mul_one]; exact hi)
    rw [Nat.zero_add, this]
    simp [strsV, strV, hi]

set_option maxHeartbeats 8000000 in
theorem parse_told (x : X) (hr : rightP x) (T : List UInt8) (ws : List (List UInt8)) (hlen : T.length ≤ 1000) (hasc : ∀ c ∈ T, c.toNat < 128) (hw : wordsL T = ws) (hne : ws ≠ [])
    (hi : ∀ B w, Rd w B ws → Calls Try.prog 22 #[(.pointer (some ⟨B, 0, none⟩))] w (RetR B (instrV x) [] w)) (w : World) : Calls Try.prog 7 #[(.string ⟨(T).toArray⟩)] w (RetB (.tuple #[instrV x, .int .i64 0]) w) := by
  have cW : Hid (∀ V, Calls Try.prog 21 #[(.string ⟨(T).toArray⟩)] V (RetStrs ws V)) := Lib.hid fun V => by rw [← hw]; exact words_any T hlen hasc V
  have cX : Hid (∀ V, Calls Try.prog 6 #[instrV x] V (RetB (.int .i64 0) V)) := Lib.hid fun V => by
    have := iright_any x V
    rw [errX_yes hr] at this
    exact this
  have HI := Lib.hid hi
  obtain ⟨op, d, n, m, imm, kind⟩ := x
  simp only [instrV] at cX HI ⊢
  clear hi hw hlen hasc hr
  go_enter Try.func7, Try.ntmps7
  go_wp2_with fail
  obtain ⟨U1, hU⟩ : ∃ U1, U1 = w.alloc (.cells #[.int .i64 0, .int .i64 0, .int .i64 0, .int .i64 0, .int .i64 0, .int .i64 0] 24) := ⟨_, rfl⟩
  have hnA : U1.heap[w.heap.size]? = some (.cells #[.int .i64 0, .int .i64 0, .int .i64 0, .int .i64 0, .int .i64 0, .int .i64 0] 24) := by first | (rw [hU]; exact heap_new _ _ _ rfl) | rw [hU]
  have B1 : Below w.heap.size w U1 := by rw [hU]; repeat' (first | with_reducible exact Below.refl _ _ | with_reducible assumption | with_reducible apply below_drewN | with_reducible apply Below.drew | with_reducible refine Below.setCell ?_ ?_ _ | with_reducible refine Below.alloc ?_ ?_ _ | omega | (simp; done) | (simp; omega))
  have hs1 : U1.heap.size = w.heap.size + 1 := by rw [hU]; simp
  rw [← hU]
  clear hU
  refine (cW.out _).mono ?_
  rintro e V2 ⟨ao, cap, rfl, hrow, hb⟩
  have B2 : Below w.heap.size w V2 := B1.trans (hb.mono (by omega))
  have hA2 := (hb.block w.heap.size (by omega)).trans hnA
  have HFR := Lib.hid (Rd.fresh hrow hne)
  have hs2 := hb.size
  have GA := Lib.hid hA2
  have hla : w.heap.size < V2.heap.size := by omega
  obtain ⟨mw, hmw⟩ : ∃ mw, mw = ws.length := ⟨_, rfl⟩
  rw [← hmw] at HFR ⊢
  clear hb hrow hne hnA hA2 B1 hs1 hs2 hmw
  go_wp2_with fail
  obtain ⟨U3, hU⟩ : ∃ U3, U3 = V2.alloc (.cells #[.slice ao mw cap, .bool false] 49) := ⟨_, rfl⟩
  have RD : Hid (Rd U3 V2.heap.size ws) := Lib.hid (by rw [hU]; exact HFR.out)
  have B3 : Below w.heap.size w U3 := by rw [hU]; repeat' (first | with_reducible exact Below.refl _ _ | with_reducible assumption | with_reducible apply below_drewN | with_reducible apply Below.drew | with_reducible refine Below.setCell ?_ ?_ _ | with_reducible refine Below.alloc ?_ ?_ _ | omega | (simp; done) | (simp; omega))
  have GA3 : Hid (U3.heap[w.heap.size]? = some (.cells #[.int .i64 0, .int .i64 0, .int .i64 0, .int .i64 0, .int .i64 0, .int .i64 0] 24)) := Lib.hid (by rw [hU]; exact heap_old _ _ _ _ GA.out)
  have hs3 : U3.heap.size = V2.heap.size + 1 := by rw [hU]; simp
  try rw [← hU]
  obtain ⟨B, hB⟩ : ∃ B, B = V2.heap.size := ⟨_, rfl⟩
  rw [← hB] at RD hs3 hla ⊢
  clear hU hB HFR GA B2
  have hla3 : w.heap.size < U3.heap.size := by omega
  refine (HI.out B _ RD.out).mono ?_
  rintro e V4 ⟨rfl, hr4, hx⟩
  have RD4 := Lib.hid hr4
  have B4 : Below w.heap.size w V4 := B3.trans (hx.below (by omega) (by omega))
  have hs4 := hx.size
  have GA4 := Lib.hid ((hx.block w.heap.size hla3 (by omega)).trans GA3.out)
  clear hx hr4 GA3 B3 RD
  obtain ⟨e1, e2, e3, e4⟩ := RD4.out.at
  obtain ⟨g, o, c, q1, q2, q3, q4, q5, q6⟩ := RD4.out
  obtain ⟨k1, k2, k3, k4⟩ := block_cells q1
  have e0 : V4.cell? ⟨B, 0, none⟩ = some (.slice (some ⟨g, o, none⟩) 0 c) := k1 0 _ rfl
  clear k1 k2 k3 k4 q1 q6 q4 q5
  obtain ⟨c1, f1, l1, n1⟩ := block_cells GA4.out
  have z0 := c1 0 _ rfl
  have z1 := c1 1 _ rfl
  have z2 := c1 2 _ rfl
  have z3 := c1 3 _ rfl
  have z4 := c1 4 _ rfl
  have z5 := c1 5 _ rfl
  have hBw : w.heap.size < B := hla
  clear c1
  go_wp2_with fail
  refine (cX.out _).mono ?_
  rintro e V5 ⟨rfl, hb⟩
  obtain ⟨U5, hU⟩ : ∃ U5, U5 = V4.alloc (.cells #[.int .i64 op, .int .i64 d, .int .i64 n, .int .i64 m, .int .i64 imm, .int .i64 kind] 24) := ⟨_, rfl⟩
  have hb5 : Below U5.heap.size U5 V5 := by rw [hU]; exact hb
  have hC5 : U5.heap[V4.heap.size]? = some (.cells #[.int .i64 op, .int .i64 d, .int .i64 n, .int .i64 m, .int .i64 imm, .int .i64 kind] 24) := by first | (rw [hU]; exact heap_new _ _ _ rfl) | rw [hU]
  have hA5 : U5.heap[w.heap.size]? = some (.cells #[.int .i64 0, .int .i64 0, .int .i64 0, .int .i64 0, .int .i64 0, .int .i64 0] 24) := by rw [hU]; exact heap_old _ _ _ _ GA4.out
  have hs5 : U5.heap.size = V4.heap.size + 1 := by rw [hU]; simp
  have B5 : Below w.heap.size w U5 := by rw [hU]; repeat' (first | with_reducible exact Below.refl _ _ | with_reducible assumption | with_reducible apply below_drewN | with_reducible apply Below.drew | with_reducible refine Below.setCell ?_ ?_ _ | with_reducible refine Below.alloc ?_ ?_ _ | omega | (simp; done) | (simp; omega))
  have B6 : Below w.heap.size w V5 := B5.trans (hb5.mono (by omega))
  have gc := (hb5.block V4.heap.size (by omega)).trans hC5
  have ga := (hb5.block w.heap.size (by omega)).trans hA5
  clear hb hU hC5 hA5 B5 z0 z1 z2 z3 z4 z5 f1 l1 n1 e0 e1 e2 e3 e4
  have GA5 := Lib.hid ga
  obtain ⟨b, hbb⟩ : ∃ b, b = V4.heap.size := ⟨_, rfl⟩
  rw [← hbb] at gc ⊢
  have hab : ¬ w.heap.size = b := by omega
  have hba : ¬ b = w.heap.size := by omega
  clear hbb hb5 hs5
  obtain ⟨c1, f1, l1, n1⟩ := block_cells ga
  have z0 := c1 0 _ rfl
  have z1 := c1 1 _ rfl
  have z2 := c1 2 _ rfl
  have z3 := c1 3 _ rfl
  have z4 := c1 4 _ rfl
  have z5 := c1 5 _ rfl
  obtain ⟨c2, f2, l2, n2⟩ := block_cells gc
  have y0 := c2 0 _ rfl
  have y1 := c2 1 _ rfl
  have y2 := c2 2 _ rfl
  have y3 := c2 3 _ rfl
  have y4 := c2 4 _ rfl
  have y5 := c2 5 _ rfl
  clear c1 c2 ga gc
  go_wp2_with fail
  refine bodyPost_cell6t (A := w.heap.size) (t := 2) (u := 3) (v0 := .int .i64 op) (v1 := .int .i64 d) (v2 := .int .i64 n) (v3 := .int .i64 m) (v4 := .int .i64 imm) (v5 := .int .i64 kind) Try.results7 rfl rfl ?_ rfl ?_
  · refine six_stores (x0 := .int .i64 0) (x1 := .int .i64 0) (x2 := .int .i64 0) (x3 := .int .i64 0) (x4 := .int .i64 0) (x5 := .int .i64 0) GA5.out
  refine ⟨rfl, ?_⟩
  exact (((((B6.setCell (Nat.le_refl _) _).setCell (Nat.le_refl _) _).setCell (Nat.le_refl _) _).setCell (Nat.le_refl _) _).setCell (Nat.le_refl _) _).setCell (Nat.le_refl _) _

end Go.Proofs.Ytdlodacogldinaa
