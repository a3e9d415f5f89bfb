/- The contract of isa.Decode. -/
import Derived.Test.YtdlodacogldinaaIsai
namespace Go.Proofs.Ytdlodacogldinaa
open Go.RowKit
set_option linter.unusedSimpArgs false
set_option linter.unusedVariables false

theorem RetO.yes {o : Option X} {w w' : World} {e : Ending} {x : X} (h : RetO o w e w') (hx : o = some x) : RetB (.tuple #[instrV x, .bool true]) w e w' := by
  obtain ⟨y, rfl, h2, h3⟩ := h
  rw [h2 x hx, hx]
  exact ⟨rfl, h3⟩
theorem RetO.no {o : Option X} {w w' : World} {e : Ending} (h : RetO o w e w') (hx : o = none) : ∃ y, e = .returned (.tuple #[instrV y, .bool false]) ∧ Below w.heap.size w w' := by
  obtain ⟨y, rfl, h2, h3⟩ := h
  exact ⟨y, by rw [hx]; rfl, h3⟩

set_option maxHeartbeats 2000000 in
theorem decode0 (a : Int) (ha : U32 a) (x : X)  (h0 : memX a = some x) (w : World) : Calls Try.prog 4 #[.int .u32 a] w (RetB (.tuple #[instrV x, .int .i64 0]) w) := by
  have HU := Lib.hid ha
  have H0 := Lib.hid h0
  clear ha h0
  go_enter Try.func4, Try.ntmps4
  go_wp2_with (first | (go_at_call 9; refine (memory_any _ HU.out _).mono ?_; intro e w1 hr; obtain ⟨rfl, hb⟩ := hr.yes H0.out; have B : Below w.heap.size w w1 := Below.trans (by repeat' (first | with_reducible exact Below.refl _ _ | with_reducible assumption | with_reducible apply below_drewN | with_reducible apply Below.drew | with_reducible refine Below.setCell ?_ ?_ _ | with_reducible refine Below.alloc ?_ ?_ _ | omega | (simp; done) | (simp; omega))) (hb.mono (by first | omega | (simp; done) | (simp; omega))); have Bz := B.size; obtain ⟨k1, k2, k3, k4⟩ := keepB hb w.heap.size (by first | omega | (simp; done) | (simp; omega)); clear hr hb))
  refine bodyPost_ret (v := .tuple #[instrV x, .int .i64 0]) ?_ rfl ⟨rfl, ?_⟩
  · simp [results, Try.results4, go_sem, *]
  · go_tidy
    repeat' (first | with_reducible exact Below.refl _ _ | with_reducible assumption | with_reducible apply below_drewN | with_reducible apply Below.drew | with_reducible refine Below.setCell ?_ ?_ _ | with_reducible refine Below.alloc ?_ ?_ _ | omega | (simp; done) | (simp; omega))

set_option maxHeartbeats 2000000 in
theorem decode1 (a : Int) (ha : U32 a) (x : X) (h0 : memX a = none) (h1 : movX a = some x) (w : World) : Calls Try.prog 4 #[.int .u32 a] w (RetB (.tuple #[instrV x, .int .i64 0]) w) := by
  have HU := Lib.hid ha
  have H0 := Lib.hid h0
  have H1 := Lib.hid h1
  clear ha h0 h1
  go_enter Try.func4, Try.ntmps4
  go_wp2_with (first | (go_at_call 9; refine (memory_any _ HU.out _).mono ?_; intro e w1 hr; obtain ⟨y0, rfl, hb⟩ := hr.no H0.out; have B : Below w.heap.size w w1 := Below.trans (by repeat' (first | with_reducible exact Below.refl _ _ | with_reducible assumption | with_reducible apply below_drewN | with_reducible apply Below.drew | with_reducible refine Below.setCell ?_ ?_ _ | with_reducible refine Below.alloc ?_ ?_ _ | omega | (simp; done) | (simp; omega))) (hb.mono (by first | omega | (simp; done) | (simp; omega))); have Bz := B.size; obtain ⟨k1, k2, k3, k4⟩ := keepB hb w.heap.size (by first | omega | (simp; done) | (simp; omega)); clear hr hb) | (go_at_call 10; refine (moves_any _ HU.out _).mono ?_; intro e w2 hr; obtain ⟨rfl, hb⟩ := hr.yes H1.out; have B : Below w.heap.size w w2 := Below.trans (by repeat' (first | with_reducible exact Below.refl _ _ | with_reducible assumption | with_reducible apply below_drewN | with_reducible apply Below.drew | with_reducible refine Below.setCell ?_ ?_ _ | with_reducible refine Below.alloc ?_ ?_ _ | omega | (simp; done) | (simp; omega))) (hb.mono (by first | omega | (simp; done) | (simp; omega))); have Bz := B.size; obtain ⟨k1, k2, k3, k4⟩ := keepB hb w.heap.size (by first | omega | (simp; done) | (simp; omega)); clear hr hb))
  refine bodyPost_ret (v := .tuple #[instrV x, .int .i64 0]) ?_ rfl ⟨rfl, ?_⟩
  · simp [results, Try.results4, go_sem, *]
  · go_tidy
    repeat' (first | with_reducible exact Below.refl _ _ | with_reducible assumption | with_reducible apply below_drewN | with_reducible apply Below.drew | with_reducible refine Below.setCell ?_ ?_ _ | with_reducible refine Below.alloc ?_ ?_ _ | omega | (simp; done) | (simp; omega))

set_option maxHeartbeats 2000000 in
theorem decode2 (a : Int) (ha : U32 a) (x : X) (h0 : memX a = none) (h1 : movX a = none) (h2 : brX a = some x) (w : World) : Calls Try.prog 4 #[.int .u32 a] w (RetB (.tuple #[instrV x, .int .i64 0]) w) := by
  have HU := Lib.hid ha
  have H0 := Lib.hid h0
  have H1 := Lib.hid h1
  have H2 := Lib.hid h2
  clear ha h0 h1 h2
  go_enter Try.func4, Try.ntmps4
  go_wp2_with (first | (go_at_call 9; refine (memory_any _ HU.out _).mono ?_; intro e w1 hr; obtain ⟨y0, rfl, hb⟩ := hr.no H0.out; have B : Below w.heap.size w w1 := Below.trans (by repeat' (first | with_reducible exact Below.refl _ _ | with_reducible assumption | with_reducible apply below_drewN | with_reducible apply Below.drew | with_reducible refine Below.setCell ?_ ?_ _ | with_reducible refine Below.alloc ?_ ?_ _ | omega | (simp; done) | (simp; omega))) (hb.mono (by first | omega | (simp; done) | (simp; omega))); have Bz := B.size; obtain ⟨k1, k2, k3, k4⟩ := keepB hb w.heap.size (by first | omega | (simp; done) | (simp; omega)); clear hr hb) | (go_at_call 10; refine (moves_any _ HU.out _).mono ?_; intro e w2 hr; obtain ⟨y1, rfl, hb⟩ := hr.no H1.out; have B : Below w.heap.size w w2 := Below.trans (by repeat' (first | with_reducible exact Below.refl _ _ | with_reducible assumption | with_reducible apply below_drewN | with_reducible apply Below.drew | with_reducible refine Below.setCell ?_ ?_ _ | with_reducible refine Below.alloc ?_ ?_ _ | omega | (simp; done) | (simp; omega))) (hb.mono (by first | omega | (simp; done) | (simp; omega))); have Bz := B.size; obtain ⟨k1, k2, k3, k4⟩ := keepB hb w.heap.size (by first | omega | (simp; done) | (simp; omega)); clear hr hb) | (go_at_call 11; refine (branches_any _ HU.out _).mono ?_; intro e w3 hr; obtain ⟨rfl, hb⟩ := hr.yes H2.out; have B : Below w.heap.size w w3 := Below.trans (by repeat' (first | with_reducible exact Below.refl _ _ | with_reducible assumption | with_reducible apply below_drewN | with_reducible apply Below.drew | with_reducible refine Below.setCell ?_ ?_ _ | with_reducible refine Below.alloc ?_ ?_ _ | omega | (simp; done) | (simp; omega))) (hb.mono (by first | omega | (simp; done) | (simp; omega))); have Bz := B.size; obtain ⟨k1, k2, k3, k4⟩ := keepB hb w.heap.size (by first | omega | (simp; done) | (simp; omega)); clear hr hb))
  refine bodyPost_ret (v := .tuple #[instrV x, .int .i64 0]) ?_ rfl ⟨rfl, ?_⟩
  · simp [results, Try.results4, go_sem, *]
  · go_tidy
    repeat' (first | with_reducible exact Below.refl _ _ | with_reducible assumption | with_reducible apply below_drewN | with_reducible apply Below.drew | with_reducible refine Below.setCell ?_ ?_ _ | with_reducible refine Below.alloc ?_ ?_ _ | omega | (simp; done) | (simp; omega))

set_option maxHeartbeats 2000000 in
theorem decode3 (a : Int) (ha : U32 a) (x : X) (h0 : memX a = none) (h1 : movX a = none) (h2 : brX a = none) (h3 : othX a = some x) (w : World) : Calls Try.prog 4 #[.int .u32 a] w (RetB (.tuple #[instrV x, .int .i64 0]) w) := by
  have HU := Lib.hid ha
  have H0 := Lib.hid h0
  have H1 := Lib.hid h1
  have H2 := Lib.hid h2
  have H3 := Lib.hid h3
  clear ha h0 h1 h2 h3
  go_enter Try.func4, Try.ntmps4
  go_wp2_with (first | (go_at_call 9; refine (memory_any _ HU.out _).mono ?_; intro e w1 hr; obtain ⟨y0, rfl, hb⟩ := hr.no H0.out; have B : Below w.heap.size w w1 := Below.trans (by repeat' (first | with_reducible exact Below.refl _ _ | with_reducible assumption | with_reducible apply below_drewN | with_reducible apply Below.drew | with_reducible refine Below.setCell ?_ ?_ _ | with_reducible refine Below.alloc ?_ ?_ _ | omega | (simp; done) | (simp; omega))) (hb.mono (by first | omega | (simp; done) | (simp; omega))); have Bz := B.size; obtain ⟨k1, k2, k3, k4⟩ := keepB hb w.heap.size (by first | omega | (simp; done) | (simp; omega)); clear hr hb) | (go_at_call 10; refine (moves_any _ HU.out _).mono ?_; intro e w2 hr; obtain ⟨y1, rfl, hb⟩ := hr.no H1.out; have B : Below w.heap.size w w2 := Below.trans (by repeat' (first | with_reducible exact Below.refl _ _ | with_reducible assumption | with_reducible apply below_drewN | with_reducible apply Below.drew | with_reducible refine Below.setCell ?_ ?_ _ | with_reducible refine Below.alloc ?_ ?_ _ | omega | (simp; done) | (simp; omega))) (hb.mono (by first | omega | (simp; done) | (simp; omega))); have Bz := B.size; obtain ⟨k1, k2, k3, k4⟩ := keepB hb w.heap.size (by first | omega | (simp; done) | (simp; omega)); clear hr hb) | (go_at_call 11; refine (branches_any _ HU.out _).mono ?_; intro e w3 hr; obtain ⟨y2, rfl, hb⟩ := hr.no H2.out; have B : Below w.heap.size w w3 := Below.trans (by repeat' (first | with_reducible exact Below.refl _ _ | with_reducible assumption | with_reducible apply below_drewN | with_reducible apply Below.drew | with_reducible refine Below.setCell ?_ ?_ _ | with_reducible refine Below.alloc ?_ ?_ _ | omega | (simp; done) | (simp; omega))) (hb.mono (by first | omega | (simp; done) | (simp; omega))); have Bz := B.size; obtain ⟨k1, k2, k3, k4⟩ := keepB hb w.heap.size (by first | omega | (simp; done) | (simp; omega)); clear hr hb) | (go_at_call 12; refine (others_any _ HU.out _).mono ?_; intro e w4 hr; obtain ⟨rfl, hb⟩ := hr.yes H3.out; have B : Below w.heap.size w w4 := Below.trans (by repeat' (first | with_reducible exact Below.refl _ _ | with_reducible assumption | with_reducible apply below_drewN | with_reducible apply Below.drew | with_reducible refine Below.setCell ?_ ?_ _ | with_reducible refine Below.alloc ?_ ?_ _ | omega | (simp; done) | (simp; omega))) (hb.mono (by first | omega | (simp; done) | (simp; omega))); have Bz := B.size; obtain ⟨k1, k2, k3, k4⟩ := keepB hb w.heap.size (by first | omega | (simp; done) | (simp; omega)); clear hr hb))
  refine bodyPost_ret (v := .tuple #[instrV x, .int .i64 0]) ?_ rfl ⟨rfl, ?_⟩
  · simp [results, Try.results4, go_sem, *]
  · go_tidy
    repeat' (first | with_reducible exact Below.refl _ _ | with_reducible assumption | with_reducible apply below_drewN | with_reducible apply Below.drew | with_reducible refine Below.setCell ?_ ?_ _ | with_reducible refine Below.alloc ?_ ?_ _ | omega | (simp; done) | (simp; omega))

set_option maxHeartbeats 2000000 in
theorem decode4 (a : Int) (ha : U32 a) (h0 : memX a = none) (h1 : movX a = none) (h2 : brX a = none) (h3 : othX a = none) (w : World) : Calls Try.prog 4 #[.int .u32 a] w (RetB (.tuple #[instrV X.zero, .int .i64 31]) w) := by
  have HU := Lib.hid ha
  have H0 := Lib.hid h0
  have H1 := Lib.hid h1
  have H2 := Lib.hid h2
  have H3 := Lib.hid h3
  clear ha h0 h1 h2 h3
  go_enter Try.func4, Try.ntmps4
  go_wp2_with (first | (go_at_call 9; refine (memory_any _ HU.out _).mono ?_; intro e w1 hr; obtain ⟨y0, rfl, hb⟩ := hr.no H0.out; have B : Below w.heap.size w w1 := Below.trans (by repeat' (first | with_reducible exact Below.refl _ _ | with_reducible assumption | with_reducible apply below_drewN | with_reducible apply Below.drew | with_reducible refine Below.setCell ?_ ?_ _ | with_reducible refine Below.alloc ?_ ?_ _ | omega | (simp; done) | (simp; omega))) (hb.mono (by first | omega | (simp; done) | (simp; omega))); have Bz := B.size; obtain ⟨k1, k2, k3, k4⟩ := keepB hb w.heap.size (by first | omega | (simp; done) | (simp; omega)); clear hr hb) | (go_at_call 10; refine (moves_any _ HU.out _).mono ?_; intro e w2 hr; obtain ⟨y1, rfl, hb⟩ := hr.no H1.out; have B : Below w.heap.size w w2 := Below.trans (by repeat' (first | with_reducible exact Below.refl _ _ | with_reducible assumption | with_reducible apply below_drewN | with_reducible apply Below.drew | with_reducible refine Below.setCell ?_ ?_ _ | with_reducible refine Below.alloc ?_ ?_ _ | omega | (simp; done) | (simp; omega))) (hb.mono (by first | omega | (simp; done) | (simp; omega))); have Bz := B.size; obtain ⟨k1, k2, k3, k4⟩ := keepB hb w.heap.size (by first | omega | (simp; done) | (simp; omega)); clear hr hb) | (go_at_call 11; refine (branches_any _ HU.out _).mono ?_; intro e w3 hr; obtain ⟨y2, rfl, hb⟩ := hr.no H2.out; have B : Below w.heap.size w w3 := Below.trans (by repeat' (first | with_reducible exact Below.refl _ _ | with_reducible assumption | with_reducible apply below_drewN | with_reducible apply Below.drew | with_reducible refine Below.setCell ?_ ?_ _ | with_reducible refine Below.alloc ?_ ?_ _ | omega | (simp; done) | (simp; omega))) (hb.mono (by first | omega | (simp; done) | (simp; omega))); have Bz := B.size; obtain ⟨k1, k2, k3, k4⟩ := keepB hb w.heap.size (by first | omega | (simp; done) | (simp; omega)); clear hr hb) | (go_at_call 12; refine (others_any _ HU.out _).mono ?_; intro e w4 hr; obtain ⟨y3, rfl, hb⟩ := hr.no H3.out; have B : Below w.heap.size w w4 := Below.trans (by repeat' (first | with_reducible exact Below.refl _ _ | with_reducible assumption | with_reducible apply below_drewN | with_reducible apply Below.drew | with_reducible refine Below.setCell ?_ ?_ _ | with_reducible refine Below.alloc ?_ ?_ _ | omega | (simp; done) | (simp; omega))) (hb.mono (by first | omega | (simp; done) | (simp; omega))); have Bz := B.size; obtain ⟨k1, k2, k3, k4⟩ := keepB hb w.heap.size (by first | omega | (simp; done) | (simp; omega)); clear hr hb))
  refine bodyPost_ret (v := .tuple #[instrV X.zero, .int .i64 31]) ?_ rfl ⟨rfl, ?_⟩
  · simp [results, Try.results4, go_sem, *, X.zero]
  · go_tidy
    repeat' (first | with_reducible exact Below.refl _ _ | with_reducible assumption | with_reducible apply below_drewN | with_reducible apply Below.drew | with_reducible refine Below.setCell ?_ ?_ _ | with_reducible refine Below.alloc ?_ ?_ _ | omega | (simp; done) | (simp; omega))

def decE (o : Option X) : Int := if o.isSome then 0 else 31

theorem decode_any (a : Int) (ha : U32 a) (w : World) : Calls Try.prog 4 #[.int .u32 a] w (RetB (.tuple #[instrV ((decX a).getD X.zero), .int .i64 (decE (decX a))]) w) := by
  unfold decX
  rcases h0 : memX a with _ | x
  · rcases h1 : movX a with _ | x
    · rcases h2 : brX a with _ | x
      · rcases h3 : othX a with _ | x
        · exact decode4 a ha h0 h1 h2 h3 w
        · exact decode3 a ha x h0 h1 h2 h3 w
      · exact decode2 a ha x h0 h1 h2 w
    · exact decode1 a ha x h0 h1 w
  · exact decode0 a ha x h0 w

end Go.Proofs.Ytdlodacogldinaa