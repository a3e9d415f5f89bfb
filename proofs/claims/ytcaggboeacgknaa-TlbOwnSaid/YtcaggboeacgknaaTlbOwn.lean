/- The statement TlbOwn: proved of every input, without condition. -/
import Derived.Test.YtcaggboeacgknaaRows
import Derived.Test.YtcaggboeacgknaaAwake09
namespace Go.Proofs.Ytcaggboeacgknaa
open Go.ChangeShapes Go.WideShapes Go.ChangeAt Go.RowKit
set_option linter.unusedVariables false

theorem p12 : (2 : Int) ^ (12 : Int).toNat = 4096 := rfl
theorem p21 : (2 : Int) ^ (21 : Int).toNat = 2097152 := rfl
theorem d12 (a : Int) : downZ a 12 = a / 4096 * 4096 := by unfold downZ; rw [if_neg (by decide), if_neg (by decide), p12]
theorem d21 (a : Int) : downZ a 21 = a / 2097152 * 2097152 := by unfold downZ; rw [if_neg (by decide), if_neg (by decide), p21]

/-- An address within the page of an entry that was filled. -/
def atZ (e : E) (off : Int) : Int := IntKind.u64.wrap (e.page + off % 4096)

theorem fill_ok (s va f l : Int) (hva : U64 va) (hf : U64 f) (hl : U64 l) : U64 (fillE s va f l).page ∧ U64 (fillE s va f l).first ∧ U64 (fillE s va f l).last ∧ ((fillE s va f l).page % 4096 = 0) := by
  unfold fillE
  split
  · split
    · exact ⟨u64_downZ hva 21, hf, (show U64 0 from ⟨by decide, by decide⟩), by show downZ va 21 % 4096 = 0; rw [d21]; omega⟩
    · exact ⟨u64_downZ hva 12, hf, hl, by show downZ va 12 % 4096 = 0; rw [d12]; omega⟩
  · exact ⟨⟨by decide, by decide⟩, ⟨by decide, by decide⟩, ⟨by decide, by decide⟩, rfl⟩

theorem u64_wrap (x : Int) : U64 (IntKind.u64.wrap x) := by rw [IntKind.wrap_u64]; exact ⟨by omega, by omega⟩

theorem fill_covers (s va f l off : Int) (hva : U64 va) (h : keptB (leafD f l) = true) :
    coversB (fillE s va f l) va = true ∧ coversB (fillE s va f l) (atZ (fillE s va f l) off) = true ∧ (fillE s va f l).space = s := by
  have hB := kept_block f l h
  obtain ⟨v0, v1⟩ := hva
  unfold fillE
  rw [if_pos h]
  by_cases hL : leafL f = 1
  · rw [if_pos hL]
    have hb : blockB f = true := by rw [hB, hL]; rfl
    refine ⟨?_, ?_, rfl⟩
    · simp [coversB, bitsZ, hb]
    · simp only [coversB, bitsZ, hb, if_true, atZ, IntKind.wrap_u64, d21, beq_iff_eq]
      omega
  · rw [if_neg hL]
    have hb : blockB f = false := by rw [hB]; simpa using hL
    refine ⟨?_, ?_, rfl⟩
    · simp [coversB, bitsZ, hb]
    · simp only [coversB, bitsZ, hb, atZ, IntKind.wrap_u64, beq_iff_eq, Bool.false_eq_true, if_false, d12]
      omega

set_option maxHeartbeats 2000000 in
theorem tlbOwn_walk (e : E) (off : Int) (he : e.ok) (ho : U64 off) (w : World) : Calls Try.prog 5 #[entV e, .int .u64 off] w (RetB (.bool true) w) := by
  obtain ⟨s, p, f, l⟩ := e
  obtain ⟨-, hp, hf, hl⟩ := he
  simp only at hp hf hl
  have Hp := Lib.hid hp
  have Hf := Lib.hid hf
  have Hl := Lib.hid hl
  obtain ⟨o0, o1⟩ := ho
  cases hk : keptB (leafD f l)
  · have HK := Lib.hid hk
    clear hp hf hl hk
    simp only [entV]
    go_enter Try.func5, Try.ntmps5
    go_wp2_with (first | (go_at_call 12; refine (awake_any _).mono ?_; rintro e w1 ⟨rfl, hb⟩; have B : Below w.heap.size w w1 := Below.trans (by repeat' (first | with_reducible exact Below.refl _ _ | with_reducible assumption | with_reducible apply below_drewN | with_reducible apply Below.drew | with_reducible refine Below.setCell ?_ ?_ _ | with_reducible refine Below.alloc ?_ ?_ _ | omega | (simp; done) | (simp; omega))) (hb.mono (by first | omega | (simp; done) | (simp; omega))); have Bz := B.size; obtain ⟨k1, k2, k3, k4⟩ := keepB hb w.heap.size (by first | omega | (simp; done) | (simp; omega)); clear hb) | (go_at_call 13; refine (fill_any _ _ _ _ _ Hp.out Hf.out Hl.out).mono ?_; rintro e w2 ⟨rfl, hb⟩; have B : Below w.heap.size w w2 := Below.trans (by repeat' (first | with_reducible exact Below.refl _ _ | with_reducible assumption | with_reducible apply below_drewN | with_reducible apply Below.drew | with_reducible refine Below.setCell ?_ ?_ _ | with_reducible refine Below.alloc ?_ ?_ _ | omega | (simp; done) | (simp; omega))) (hb.mono (by first | omega | (simp; done) | (simp; omega))); have Bz := B.size; obtain ⟨k1, k2, k3, k4⟩ := keepB hb w.heap.size (by first | omega | (simp; done) | (simp; omega)); clear hb; rw [HK.out]))
    go_ret
    exact ⟨rfl, by repeat' (first | with_reducible exact Below.refl _ _ | with_reducible assumption | with_reducible apply below_drewN | with_reducible apply Below.drew | with_reducible refine Below.setCell ?_ ?_ _ | with_reducible refine Below.alloc ?_ ?_ _ | omega | (simp; done) | (simp; omega))⟩
  · have HK := Lib.hid hk
    obtain ⟨x1, x2, x3, x4⟩ := fill_ok s p f l hp hf hl
    obtain ⟨c1, c2, c3⟩ := fill_covers s p f l off hp hk
    have HX1 := Lib.hid x1
    have HX2 := Lib.hid x2
    have HX3 := Lib.hid x3
    have HU := Lib.hid (u64_wrap ((fillE s p f l).page + off % 4096))
    have S1 := Lib.hid (show servesB (fillE s p f l) s p = true by unfold servesB; rw [c1, c3]; simp)
    have S2 := Lib.hid (show servesB (fillE s p f l) s (IntKind.u64.wrap ((fillE s p f l).page + off % 4096)) = true by unfold servesB; rw [c3]; simpa [atZ] using c2)
    have T1 := Lib.hid (show takesB ⟨1, p, s⟩ (fillE s p f l) = true from S1.out)
    have T2 := Lib.hid (show takesB ⟨2, p, 0⟩ (fillE s p f l) = true from c1)
    have T3 := Lib.hid (show takesB ⟨0, 0, 0⟩ (fillE s p f l) = true from rfl)
    have H0 := Lib.hid (show U64 0 from ⟨by decide, by decide⟩)
    clear hp hf hl hk x1 x2 x3 x4 c1 c2 c3
    simp only [entV]
    go_enter Try.func5, Try.ntmps5
    go_wp2_with (first | (go_at_call 12; refine (awake_any _).mono ?_; rintro e w1 ⟨rfl, hb⟩; have B : Below w.heap.size w w1 := Below.trans (by repeat' (first | with_reducible exact Below.refl _ _ | with_reducible assumption | with_reducible apply below_drewN | with_reducible apply Below.drew | with_reducible refine Below.setCell ?_ ?_ _ | with_reducible refine Below.alloc ?_ ?_ _ | omega | (simp; done) | (simp; omega))) (hb.mono (by first | omega | (simp; done) | (simp; omega))); have Bz := B.size; obtain ⟨k1, k2, k3, k4⟩ := keepB hb w.heap.size (by first | omega | (simp; done) | (simp; omega)); clear hb) | (go_at_call 13; refine (fill_any _ _ _ _ _ Hp.out Hf.out Hl.out).mono ?_; rintro e w2 ⟨rfl, hb⟩; have B : Below w.heap.size w w2 := Below.trans (by repeat' (first | with_reducible exact Below.refl _ _ | with_reducible assumption | with_reducible apply below_drewN | with_reducible apply Below.drew | with_reducible refine Below.setCell ?_ ?_ _ | with_reducible refine Below.alloc ?_ ?_ _ | omega | (simp; done) | (simp; omega))) (hb.mono (by first | omega | (simp; done) | (simp; omega))); have Bz := B.size; obtain ⟨k1, k2, k3, k4⟩ := keepB hb w.heap.size (by first | omega | (simp; done) | (simp; omega)); clear hb; rw [HK.out]))
    refine (serves_any (fillE s p f l) _ _ _ HX2.out HX3.out Hp.out).mono ?_
    rintro e w3 ⟨rfl, hb⟩
    have B : Below w.heap.size w w3 := Below.trans (by repeat' (first | with_reducible exact Below.refl _ _ | with_reducible assumption | with_reducible apply below_drewN | with_reducible apply Below.drew | with_reducible refine Below.setCell ?_ ?_ _ | with_reducible refine Below.alloc ?_ ?_ _ | omega | (simp; done) | (simp; omega))) (hb.mono (by first | omega | (simp; done) | (simp; omega))); have Bz := B.size
    obtain ⟨k1, k2, k3, k4⟩ := keepB hb w.heap.size (by first | omega | (simp; done) | (simp; omega))
    obtain ⟨k1, k2, k3, k4⟩ := keepB hb w2.heap.size (by first | omega | (simp; done) | (simp; omega))
    clear hb
    rw [S1.out]
    go_wp2_with fail
    refine (serves_any (fillE s p f l) _ _ _ HX2.out HX3.out HU.out).mono ?_
    rintro e w4 ⟨rfl, hb⟩
    have B : Below w.heap.size w w4 := Below.trans (by repeat' (first | with_reducible exact Below.refl _ _ | with_reducible assumption | with_reducible apply below_drewN | with_reducible apply Below.drew | with_reducible refine Below.setCell ?_ ?_ _ | with_reducible refine Below.alloc ?_ ?_ _ | omega | (simp; done) | (simp; omega))) (hb.mono (by first | omega | (simp; done) | (simp; omega))); have Bz := B.size
    obtain ⟨k1, k2, k3, k4⟩ := keepB hb w.heap.size (by first | omega | (simp; done) | (simp; omega))
    obtain ⟨k1, k2, k3, k4⟩ := keepB hb w2.heap.size (by first | omega | (simp; done) | (simp; omega))
    clear hb
    rw [S2.out]
    go_wp2_with fail
    refine (takes_any ⟨1, p, s⟩ (fillE s p f l) _ Hp.out HX2.out HX3.out).mono ?_
    rintro e w5 ⟨rfl, hb⟩
    have B : Below w.heap.size w w5 := Below.trans (by repeat' (first | with_reducible exact Below.refl _ _ | with_reducible assumption | with_reducible apply below_drewN | with_reducible apply Below.drew | with_reducible refine Below.setCell ?_ ?_ _ | with_reducible refine Below.alloc ?_ ?_ _ | omega | (simp; done) | (simp; omega))) (hb.mono (by first | omega | (simp; done) | (simp; omega))); have Bz := B.size
    obtain ⟨k1, k2, k3, k4⟩ := keepB hb w.heap.size (by first | omega | (simp; done) | (simp; omega))
    obtain ⟨k1, k2, k3, k4⟩ := keepB hb w2.heap.size (by first | omega | (simp; done) | (simp; omega))
    clear hb
    rw [T1.out]
    go_wp2_with fail
    refine (takes_any ⟨2, p, 0⟩ (fillE s p f l) _ Hp.out HX2.out HX3.out).mono ?_
    rintro e w6 ⟨rfl, hb⟩
    have B : Below w.heap.size w w6 := Below.trans (by repeat' (first | with_reducible exact Below.refl _ _ | with_reducible assumption | with_reducible apply below_drewN | with_reducible apply Below.drew | with_reducible refine Below.setCell ?_ ?_ _ | with_reducible refine Below.alloc ?_ ?_ _ | omega | (simp; done) | (simp; omega))) (hb.mono (by first | omega | (simp; done) | (simp; omega))); have Bz := B.size
    obtain ⟨k1, k2, k3, k4⟩ := keepB hb w.heap.size (by first | omega | (simp; done) | (simp; omega))
    obtain ⟨k1, k2, k3, k4⟩ := keepB hb w2.heap.size (by first | omega | (simp; done) | (simp; omega))
    clear hb
    rw [T2.out]
    go_wp2_with fail
    refine (takes_any ⟨0, 0, 0⟩ (fillE s p f l) _ H0.out HX2.out HX3.out).mono ?_
    rintro e w7 ⟨rfl, hb⟩
    have B : Below w.heap.size w w7 := Below.trans (by repeat' (first | with_reducible exact Below.refl _ _ | with_reducible assumption | with_reducible apply below_drewN | with_reducible apply Below.drew | with_reducible refine Below.setCell ?_ ?_ _ | with_reducible refine Below.alloc ?_ ?_ _ | omega | (simp; done) | (simp; omega))) (hb.mono (by first | omega | (simp; done) | (simp; omega))); have Bz := B.size
    clear hb
    rw [T3.out]
    go_wp2_with fail
    go_ret
    exact ⟨rfl, by repeat' (first | with_reducible exact Below.refl _ _ | with_reducible assumption | with_reducible apply below_drewN | with_reducible apply Below.drew | with_reducible refine Below.setCell ?_ ?_ _ | with_reducible refine Below.alloc ?_ ?_ _ | omega | (simp; done) | (simp; omega))⟩

set_option maxRecDepth 100000 in
theorem tlbOwn_lifted (os : Os) (started : os.Started) (H : Type) (enc : TypeId × Value → H) :
    ReturnsInHanded {} Try.checked os 5 .any (Rows.tlbOwnSpec.pre6 enc Try.prog Try.f5 Rows.tlbOwnRow.domain false) (Rows.tlbOwnSpec.post enc Try.prog Try.f5 false true false false) := by
  refine returnsInHanded_of_change (C := Try.checked) own started (by kernel_rfl) Try.func5
    (ChangeSpec.witness6 (enc := enc) (C := Try.checked) false ⟨#[], #[entV E.zero, .int .u64 0], []⟩ 8 (by kernel_rfl) (by kernel_rfl) (by kernel_rfl) (by kernel_rfl)) ?_
  intro W base args ds gs before hval0 hW _ _
  have hval : ∀ (j : Nat) t v, Try.f5.params[j]? = some t → args[j]? = some v → Value.okWide Try.prog W .any base t v := hval0
  have hW' := hW
  obtain ⟨p, q, hA0, hV, rfl, hfz, hnd⟩ := hW
  have hA : DataW.TrodAll enc Try.prog W 0 (fun _ => true) true Try.f5.params.toList args.toList ds p := hA0
  rw [Try.params5] at hA hval
  obtain ⟨v0, vs0, d0, ds0, p0, q0, hargs, rfl, rfl, h0, r0⟩ := trodAll_cons hA
  obtain ⟨v1, vs1, d1, ds1, p1, q1, rfl, rfl, rfl, h1, r1⟩ := trodAll_cons r0
  obtain ⟨rfl, rfl, rfl⟩ := trodAll_nil r1
  obtain rfl : args = #[v0, v1] := by cases args; simp_all
  obtain ⟨rfl, rfl⟩ := trodVars_none hV
  obtain ⟨a0, rfl, w0⟩ := arg_way (hval 0 24 v0 rfl rfl)
  obtain ⟨a1, rfl, w1⟩ := arg_u64 Try.underlying22 (hval 1 22 v1 rfl rfl)
  refine (tlbOwn_walk a0 a1 w0 w1 W).mono fun e W' ⟨he, hb⟩ => ?_
  subst he
  exact ⟨_, rfl, post_law laid hW' rfl (by kernel_rfl) rfl Try.underlying4 rfl hb⟩

/-- The statement. -/
theorem tlbOwn_holds : Rows.TlbOwnSaid :=
  OpenClaim.holds_of_wide 5 Try.f5 rfl rfl rfl rfl rfl rfl rfl ⟨rfl, rfl, rfl, rfl, rfl⟩ rfl rfl rfl rfl rfl (by kernel_rfl) Try.func5 (by kernel_rfl)
    (of_decide_eq_true (by kernel_rfl)) (by unfold Func.isWrapper; first | (rw [if_pos (by decide +kernel)]; kernel_rfl) | (rw [if_neg (by decide +kernel)]; exact ⟨rfl, rfl⟩))
    (fun os started H enc _ => tlbOwn_lifted os started H enc)
#print axioms tlbOwn_holds

end Go.Proofs.Ytcaggboeacgknaa
