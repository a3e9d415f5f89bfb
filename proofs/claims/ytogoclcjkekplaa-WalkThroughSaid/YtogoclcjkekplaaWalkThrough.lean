/- The statement WalkThrough: an access by any two descriptors comes where they say. No conditions. -/
import Derived.Test.YtogoclcjkekplaaAwake08
import Derived.Test.YtogoclcjkekplaaRows
namespace Go.Proofs.Ytogoclcjkekplaa
open Go.RowKit Go.ChangeShapes Go.WideShapes Go.ChangeAt

set_option maxHeartbeats 4000000 in
theorem walkThrough_walk (a b : Int) (t va : Int) (wr : Bool) (ha : U64 a) (hb0 : U64 b) (_ht : U64 t) (hva : U64 va) (w : World) :
    Calls Try.prog 4 #[.int .u64 a, .int .u64 b, .agg #[.int .u64 t, .int .u64 va, .bool wr]] w (RetB (.bool true) w) := by
  go_enter Try.func4, Try.ntmps4
  go_wp2_with fail
  refine (awake_any _).mono ?_
  rintro e w1 ⟨rfl, hb⟩
  have B1 : Below w.heap.size w w1 := Below.trans (by repeat' (first | with_reducible exact Below.refl _ _ | with_reducible assumption | with_reducible apply below_drewN | with_reducible apply Below.drew | with_reducible refine Below.setCell ?_ ?_ _ | with_reducible refine Below.alloc ?_ ?_ _ | omega | (simp; done) | (simp; omega))) (hb.mono (by first | omega | (simp; done) | (simp; omega)))
  have Bz1 := B1.size
  obtain ⟨k1, k2, k3, k4⟩ := keepB hb w.heap.size (by first | omega | (simp; done) | (simp; omega))
  clear hb
  go_wp2_with fail
  refine (through_any a b va wr _ ha hb0 hva).mono ?_
  obtain ⟨f, hf⟩ : ∃ f, f = throughF a b va wr := ⟨_, rfl⟩
  obtain ⟨z, hz⟩ : ∃ z, z = throughZ a b va wr := ⟨_, rfl⟩
  have HF := Lib.hid hf
  have HZ := Lib.hid hz
  clear hf hz
  rw [← HF.out, ← HZ.out]
  obtain ⟨fk, fl, fw⟩ := f
  rintro e w2 ⟨rfl, hb⟩
  simp only [faultV]
  have B2 : Below w1.heap.size w1 w2 := hb
  have Bz2 := hb.size
  obtain ⟨m1, m2, m3, m4⟩ := keepB hb w.heap.size k3
  clear hb
  go_wp2_with fail
  obtain ⟨x2, hx2⟩ : ∃ x2, x2 = w2.alloc (.cells #[.int .i64 fk, .int .i64 fl, .bool fw] 36) := ⟨_, rfl⟩
  have hs2 : x2.heap.size = w2.heap.size + 1 := by rw [hx2]; simp
  have BX2 : Below w2.heap.size w2 x2 := by rw [hx2]; repeat' (first | with_reducible exact Below.refl _ _ | with_reducible assumption | with_reducible apply below_drewN | with_reducible apply Below.drew | with_reducible refine Below.setCell ?_ ?_ _ | with_reducible refine Below.alloc ?_ ?_ _ | omega | (simp; done) | (simp; omega))
  have h7 : x2.heap[w2.heap.size]? = some (.cells #[.int .i64 fk, .int .i64 fl, .bool fw] 36) := by rw [hx2]; (repeat (first | assumption | (refine heap_new _ _ _ ?_; simp; done) | refine heap_old _ _ _ _ ?_))
  rw [← hx2]
  clear hx2
  refine (refThrough_any a b va wr _ ha hb0 hva).mono ?_
  rw [← HF.out, ← HZ.out]
  rintro e w3 ⟨rfl, hb⟩
  simp only [faultV]
  have B3 : Below w2.heap.size w2 w3 := BX2.trans (hb.mono (by omega))
  have Bz3 := B3.size
  have hs3 := hb.size
  have g7 := (hb.block w2.heap.size (by omega)).trans h7
  obtain ⟨i1, i2, i3, i4⟩ := keepB B3 w.heap.size m3
  clear hb h7 BX2
  go_wp2_with fail
  obtain ⟨x3, hx3⟩ : ∃ x3, x3 = w3.alloc (.cells #[.int .i64 fk, .int .i64 fl, .bool fw] 36) := ⟨_, rfl⟩
  have hs4 : x3.heap.size = w3.heap.size + 1 := by rw [hx3]; simp
  have BX3 : Below w3.heap.size w3 x3 := by rw [hx3]; repeat' (first | with_reducible exact Below.refl _ _ | with_reducible assumption | with_reducible apply below_drewN | with_reducible apply Below.drew | with_reducible refine Below.setCell ?_ ?_ _ | with_reducible refine Below.alloc ?_ ?_ _ | omega | (simp; done) | (simp; omega))
  have h9 : x3.heap[w3.heap.size]? = some (.cells #[.int .i64 fk, .int .i64 fl, .bool fw] 36) := by rw [hx3]; (repeat (first | assumption | (refine heap_new _ _ _ ?_; simp; done) | refine heap_old _ _ _ _ ?_))
  have h7 := (BX3.block w2.heap.size (by omega)).trans g7
  rw [← hx3]
  clear hx3 g7
  refine (leaf_any a b _ ha hb0).mono ?_
  obtain ⟨d, hd⟩ : ∃ d, d = leafD a b := ⟨_, rfl⟩
  obtain ⟨lv, hlv⟩ : ∃ lv, lv = leafL a := ⟨_, rfl⟩
  have HD := Lib.hid hd
  have HLV := Lib.hid hlv
  clear hd hlv
  rw [← HD.out, ← HLV.out]
  obtain ⟨dv, dt, dout, du, dr, ds, dn⟩ := d
  rintro e w4 ⟨rfl, hb⟩
  simp only [descV]
  have B4 : Below w3.heap.size w3 w4 := BX3.trans (hb.mono (by omega))
  have Bz4 := B4.size
  have hs5 := hb.size
  have g7 := (hb.block w2.heap.size (by omega)).trans h7
  have g9 := (hb.block w3.heap.size (by omega)).trans h9
  obtain ⟨j1, j2, j3, j4⟩ := keepB B4 w.heap.size i3
  clear hb h7 h9 BX3
  go_wp2_with fail
  obtain ⟨x4, hx4⟩ : ∃ x4, x4 = w4.alloc (.cells #[.bool dv, .bool dt, .int .u64 dout, .bool du, .bool dr, .bool ds, .bool dn] 46) := ⟨_, rfl⟩
  have hs6 : x4.heap.size = w4.heap.size + 1 := by rw [hx4]; simp
  have BX4 : Below w4.heap.size w4 x4 := by rw [hx4]; repeat' (first | with_reducible exact Below.refl _ _ | with_reducible assumption | with_reducible apply below_drewN | with_reducible apply Below.drew | with_reducible refine Below.setCell ?_ ?_ _ | with_reducible refine Below.alloc ?_ ?_ _ | omega | (simp; done) | (simp; omega))
  have h11 : x4.heap[w4.heap.size]? = some (.cells #[.bool dv, .bool dt, .int .u64 dout, .bool du, .bool dr, .bool ds, .bool dn] 46) := by rw [hx4]; (repeat (first | assumption | (refine heap_new _ _ _ ?_; simp; done) | refine heap_old _ _ _ _ ?_))
  have h7 := (BX4.block w2.heap.size (by omega)).trans g7
  have h9 := (BX4.block w3.heap.size (by omega)).trans g9
  rw [← hx4]
  clear hx4 g7 g9
  refine (refLeaf_any a b _ ha hb0).mono ?_
  rw [← HD.out, ← HLV.out]
  rintro e w5 ⟨rfl, hb⟩
  simp only [descV]
  have B5 : Below w4.heap.size w4 w5 := BX4.trans (hb.mono (by omega))
  have Bz5 := B5.size
  have hs7 := hb.size
  have G7 := Lib.hid ((hb.block w2.heap.size (by omega)).trans h7)
  have G9 := Lib.hid ((hb.block w3.heap.size (by omega)).trans h9)
  have G11 := Lib.hid ((hb.block w4.heap.size (by omega)).trans h11)
  obtain ⟨o1, o2, o3, o4⟩ := keepB B5 w.heap.size j3
  clear hb h7 h9 h11 BX4
  go_wp2_with fail
  obtain ⟨x5, hx5⟩ : ∃ x5, x5 = w5.alloc (.cells #[.bool dv, .bool dt, .int .u64 dout, .bool du, .bool dr, .bool ds, .bool dn] 46) := ⟨_, rfl⟩
  have hs8 : x5.heap.size = w5.heap.size + 1 := by rw [hx5]; simp
  have BX5 : Below w5.heap.size w5 x5 := by rw [hx5]; repeat' (first | with_reducible exact Below.refl _ _ | with_reducible assumption | with_reducible apply below_drewN | with_reducible apply Below.drew | with_reducible refine Below.setCell ?_ ?_ _ | with_reducible refine Below.alloc ?_ ?_ _ | omega | (simp; done) | (simp; omega))
  have h13 : x5.heap[w5.heap.size]? = some (.cells #[.bool dv, .bool dt, .int .u64 dout, .bool du, .bool dr, .bool ds, .bool dn] 46) := by rw [hx5]; (repeat (first | assumption | (refine heap_new _ _ _ ?_; simp; done) | refine heap_old _ _ _ _ ?_))
  have h7 := (BX5.block w2.heap.size (by omega)).trans G7.out
  have h9 := (BX5.block w3.heap.size (by omega)).trans G9.out
  have h11 := (BX5.block w4.heap.size (by omega)).trans G11.out
  rw [← hx5]
  obtain ⟨p1, p2, p3, p4⟩ := keepB BX5 w.heap.size o3
  obtain ⟨c7, -, -, -⟩ := block_cells h7
  obtain ⟨c9, -, -, -⟩ := block_cells h9
  obtain ⟨c11, -, -, -⟩ := block_cells h11
  obtain ⟨c13, -, -, -⟩ := block_cells h13
  have e70 := c7 0 _ rfl
  have e71 := c7 1 _ rfl
  have e72 := c7 2 _ rfl
  have e90 := c9 0 _ rfl
  have e91 := c9 1 _ rfl
  have e92 := c9 2 _ rfl
  have e110 := c11 0 _ rfl
  have e111 := c11 1 _ rfl
  have e112 := c11 2 _ rfl
  have e113 := c11 3 _ rfl
  have e114 := c11 4 _ rfl
  have e115 := c11 5 _ rfl
  have e116 := c11 6 _ rfl
  have e130 := c13 0 _ rfl
  have e131 := c13 1 _ rfl
  have e132 := c13 2 _ rfl
  have e133 := c13 3 _ rfl
  have e134 := c13 4 _ rfl
  have e135 := c13 5 _ rfl
  have e136 := c13 6 _ rfl
  have Bx : Below w.heap.size w x5 := B1.trans (Below.mono (B2.trans (Below.mono (B3.trans (Below.mono (B4.trans (Below.mono (B5.trans (BX5.mono Bz5)) Bz4)) Bz3)) Bz2)) Bz1)
  clear hx5 h7 h9 h11 h13 c7 c9 c11 c13 G7 G9 G11 BX5
  obtain ⟨g, hg⟩ : ∃ g, g = beforeF va wr := ⟨_, rfl⟩
  have cB : Hid (∀ W, Calls Try.prog 19 #[.int .u64 va, .bool wr] W (RetB (faultV g) W)) := Lib.hid fun W => by rw [hg]; exact before_any va wr W hva
  have cC : Hid (∀ W, Calls Try.prog 20 #[.int .u64 va, .bool wr] W (RetB (faultV g) W)) := Lib.hid fun W => by rw [hg]; exact refBefore_any va wr W hva
  clear hg
  obtain ⟨gk, gl, gw⟩ := g
  simp only [faultV] at cB cC
  refine wp_region_qbn (by kernel_rfl) (by kernel_rfl) (fun kq => ?_); have kq0 := kq w.heap.size (by first | omega | (simp; done) | (simp; omega)); have kq1 := kq w2.heap.size (by first | omega | (simp; done) | (simp; omega)); have kq2 := kq w3.heap.size (by first | omega | (simp; done) | (simp; omega)); have kq3 := kq w4.heap.size (by first | omega | (simp; done) | (simp; omega)); have kq4 := kq w5.heap.size (by first | omega | (simp; done) | (simp; omega)); clear kq; (repeat (go_big_quiet_step (first | (go_at_call 19; exact quietB (cB.out _)) | (go_at_call 20; exact quietB (cC.out _))))); refine wpQuiet_nil ?_; clear kq0 kq1 kq2 kq3 kq4; intro wq hb
  have Bq := Bx.trans (hb.mono Bx.size)
  clear hb
  go_wp2_with fail
  go_ret
  exact ⟨rfl, Bq⟩

set_option maxRecDepth 100000
set_option maxRecDepth 100000 in
theorem walkThrough_lifted (os : Os) (started : os.Started) (H : Type) (enc : TypeId × Value → H) :
    ReturnsInHanded {} Try.checked os 4 .any (Rows.walkThroughSpec.pre6 enc Try.prog Try.f4 Rows.walkThroughRow.domain false) (Rows.walkThroughSpec.post enc Try.prog Try.f4 false true false false) := by
  refine returnsInHanded_of_change (C := Try.checked) own started (by kernel_rfl) Try.func4
    (ChangeSpec.witness6 (enc := enc) (C := Try.checked) false ⟨#[], #[.int .u64 0, .int .u64 0, .agg #[.int .u64 0, .int .u64 0, .bool false]], []⟩ 8 (by kernel_rfl) (by kernel_rfl) (by kernel_rfl) (by kernel_rfl)) ?_
  intro W base args ds gs before hval0 hW _ _
  have hval : ∀ (j : Nat) t v, Try.f4.params[j]? = some t → args[j]? = some v → Value.okWide Try.prog W .any base t v := hval0
  have hW' := hW
  obtain ⟨p, q, hA0, hV, rfl, hfz, hnd⟩ := hW
  have hA : DataW.TrodAll enc Try.prog W 0 (fun _ => true) true Try.f4.params.toList args.toList ds p := hA0
  rw [Try.params4] at hA hval
  obtain ⟨v0, vs0, d0, ds0, p0, q0, hargs, rfl, rfl, h0, r0⟩ := trodAll_cons hA
  obtain ⟨v1, vs1, d1, ds1, p1, q1, rfl, rfl, rfl, h1, r1⟩ := trodAll_cons r0
  obtain ⟨v2, vs2, d2, ds2, p2, q2, rfl, rfl, rfl, h2, r2⟩ := trodAll_cons r1
  obtain ⟨rfl, rfl, rfl⟩ := trodAll_nil r2
  obtain rfl : args = #[v0, v1, v2] := by cases args; simp_all
  obtain ⟨rfl, rfl⟩ := trodVars_none hV
  obtain ⟨a0, rfl, w0⟩ := arg_u64 Try.underlying23 (hval 0 23 v0 rfl rfl)
  obtain ⟨a1, rfl, w1⟩ := arg_u64 Try.underlying23 (hval 1 23 v1 rfl rfl)
  obtain ⟨t2, v2, b2, rfl, w2, x2⟩ := arg_ask (hval 2 25 v2 rfl rfl)
  refine (walkThrough_walk (w := W) a0 a1 t2 v2 b2 w0 w1 w2 x2).mono fun e W' ⟨he, hb⟩ => ?_
  subst he
  exact ⟨_, rfl, post_law laid hW' rfl (by kernel_rfl) rfl Try.underlying4 rfl hb⟩

/-- The statement. -/
theorem walkThrough_holds : Rows.WalkThroughSaid :=
  OpenClaim.holds_of_wide 4 Try.f4 rfl rfl rfl rfl rfl rfl rfl ⟨rfl, rfl, rfl, rfl, rfl⟩ rfl rfl rfl rfl rfl (by kernel_rfl) Try.func4 (by kernel_rfl)
    (of_decide_eq_true (by kernel_rfl)) (by unfold Func.isWrapper; first | (rw [if_pos (by decide +kernel)]; kernel_rfl) | (rw [if_neg (by decide +kernel)]; exact ⟨rfl, rfl⟩))
    (fun os started H enc _ => walkThrough_lifted os started H enc)
#print axioms walkThrough_holds
