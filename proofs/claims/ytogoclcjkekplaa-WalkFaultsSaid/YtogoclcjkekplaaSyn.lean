/- Contracts of walk.Syndrome and of its reference. -/
import Derived.Test.YtogoclcjkekplaaWalkb
namespace Go.Proofs.Ytogoclcjkekplaa
open Go.RowKit

def synB (wr : Bool) : Int := if wr = true then 2516582464 else 2516582400
/-- What is told of a fault's kind and level. -/
def synK (f : Fa) : Int := if f.kind = 2 then 4 else if f.kind = 3 then (4 + f.level) % 64 else if f.kind = 4 then (8 + f.level) % 64 else if f.kind = 5 then (12 + f.level) % 64 else 33
/-- A fault's word. -/
def synZ (f : Fa) : Int := if f.kind = 0 then 0 else synB f.write + synK f

theorem putB_any (a hi lo v : Int) (w : World) (ha : U64 a) (hv : U64 v) : Calls Try.prog 49 #[.int .u64 a, .int .i64 hi, .int .i64 lo, .int .u64 v] w (RetB (.int .u64 (putZ a hi lo v)) w) := (put_any a hi lo v w ha hv).mono fun _ _ h => h.b

theorem put1 : putZ 0 31 26 37 = 2483027968 := by decide +kernel
theorem put2 : putZ 2483027968 25 25 1 = 2516582400 := by decide +kernel
theorem put3 : putZ 2516582400 6 6 1 = 2516582464 := by decide +kernel
theorem put4 (b : Bool) (s : Int) : putZ (synB b) 5 0 s = synB b + s % 64 := by
  unfold putZ
  rw [if_pos (by decide)]
  simp only [Int.sub_zero]
  have e1 : (2 : Int) ^ (0 : Int).toNat = 1 := rfl
  have e2 : (2 : Int) ^ ((5 : Int) + 1).toNat = 64 := rfl
  rw [e1, e2]
  cases b <;> simp [synB] <;> omega
theorem u64_lit' (n : Int) (h : (decide (0 ≤ n) && decide (n < 18446744073709551616)) = true) : U64 n := by
  simp only [Bool.and_eq_true, decide_eq_true_eq] at h
  exact h
theorem u64_wrap (x : Int) : U64 (IntKind.u64.wrap x) := by
  rw [IntKind.wrap_u64]
  exact ⟨Int.emod_nonneg _ (by decide), Int.emod_lt_of_pos _ (by decide)⟩
theorem wrap_64 (n x : Int) : IntKind.u64.wrap (n + IntKind.u64.wrap x) % 64 = (n + x) % 64 := by
  rw [IntKind.wrap_u64, IntKind.wrap_u64]
  omega


set_option maxRecDepth 100000 in
set_option maxHeartbeats 4000000 in
theorem syn_any (k l : Int) (b : Bool) (w : World) : Calls Try.prog 27 #[.agg #[.int .i64 k, .int .i64 l, .bool b]] w (RetB (.int .u64 (synZ ⟨k, l, b⟩)) w) := by
  have P1 := Lib.hid put1
  have P2 := Lib.hid put2
  have P3 := Lib.hid put3
  by_cases h0 : k = 0
  · subst h0
    go_enter Try.func27, Try.ntmps27
    go_wp2_with fail
    go_ret
    exact ⟨rfl, by repeat' (first | with_reducible exact Below.refl _ _ | with_reducible assumption | with_reducible apply below_drewN | with_reducible apply Below.drew | with_reducible refine Below.setCell ?_ ?_ _ | with_reducible refine Below.alloc ?_ ?_ _ | omega | (simp; done) | (simp; omega))⟩
  · by_cases h2 : k = 2
    · subst h2
      clear h0
      cases b
      · go_enter Try.func27, Try.ntmps27
        go_wp2_with fail
        refine (putB_any 0 31 26 37 _ (u64_lit' _ rfl) (u64_lit' _ rfl)).mono ?_
        rw [P1.out]
        rintro e w1 ⟨rfl, hb⟩
        have B : Below w.heap.size w w1 := Below.trans (by repeat' (first | with_reducible exact Below.refl _ _ | with_reducible assumption | with_reducible apply below_drewN | with_reducible apply Below.drew | with_reducible refine Below.setCell ?_ ?_ _ | with_reducible refine Below.alloc ?_ ?_ _ | omega | (simp; done) | (simp; omega))) (hb.mono (by first | omega | (simp; done) | (simp; omega))); have Bz := B.size
        obtain ⟨k1, k2, k3, k4⟩ := keepB hb w.heap.size (by first | omega | (simp; done) | (simp; omega))
        clear hb
        go_wp2_with fail
        refine (putB_any 2483027968 25 25 1 _ (u64_lit' _ rfl) (u64_lit' _ rfl)).mono ?_
        rw [P2.out]
        rintro e w2 ⟨rfl, hb⟩
        obtain ⟨m1, m2, m3, m4⟩ := keepB hb w.heap.size k3
        have B : Below w.heap.size w w2 := Below.trans (by repeat' (first | with_reducible exact Below.refl _ _ | with_reducible assumption | with_reducible apply below_drewN | with_reducible apply Below.drew | with_reducible refine Below.setCell ?_ ?_ _ | with_reducible refine Below.alloc ?_ ?_ _ | omega | (simp; done) | (simp; omega))) (hb.mono (by first | omega | (simp; done) | (simp; omega))); have Bz := B.size
        clear hb
        go_wp2_with fail
        refine (putB_any (synB false) 5 0 (4) _ (u64_lit' _ rfl) (u64_lit' _ rfl)).mono ?_
        rw [put4]
        rintro e w4 ⟨rfl, hb⟩
        have B : Below w.heap.size w w4 := Below.trans (by repeat' (first | with_reducible exact Below.refl _ _ | with_reducible assumption | with_reducible apply below_drewN | with_reducible apply Below.drew | with_reducible refine Below.setCell ?_ ?_ _ | with_reducible refine Below.alloc ?_ ?_ _ | omega | (simp; done) | (simp; omega))) (hb.mono (by first | omega | (simp; done) | (simp; omega))); have Bz := B.size
        clear hb
        go_wp2_with fail
        go_ret
        exact ⟨by simp [synZ, synK, faultV], by repeat' (first | with_reducible exact Below.refl _ _ | with_reducible assumption | with_reducible apply below_drewN | with_reducible apply Below.drew | with_reducible refine Below.setCell ?_ ?_ _ | with_reducible refine Below.alloc ?_ ?_ _ | omega | (simp; done) | (simp; omega))⟩
      · go_enter Try.func27, Try.ntmps27
        go_wp2_with fail
        refine (putB_any 0 31 26 37 _ (u64_lit' _ rfl) (u64_lit' _ rfl)).mono ?_
        rw [P1.out]
        rintro e w1 ⟨rfl, hb⟩
        have B : Below w.heap.size w w1 := Below.trans (by repeat' (first | with_reducible exact Below.refl _ _ | with_reducible assumption | with_reducible apply below_drewN | with_reducible apply Below.drew | with_reducible refine Below.setCell ?_ ?_ _ | with_reducible refine Below.alloc ?_ ?_ _ | omega | (simp; done) | (simp; omega))) (hb.mono (by first | omega | (simp; done) | (simp; omega))); have Bz := B.size
        obtain ⟨k1, k2, k3, k4⟩ := keepB hb w.heap.size (by first | omega | (simp; done) | (simp; omega))
        clear hb
        go_wp2_with fail
        refine (putB_any 2483027968 25 25 1 _ (u64_lit' _ rfl) (u64_lit' _ rfl)).mono ?_
        rw [P2.out]
        rintro e w2 ⟨rfl, hb⟩
        obtain ⟨m1, m2, m3, m4⟩ := keepB hb w.heap.size k3
        have B : Below w.heap.size w w2 := Below.trans (by repeat' (first | with_reducible exact Below.refl _ _ | with_reducible assumption | with_reducible apply below_drewN | with_reducible apply Below.drew | with_reducible refine Below.setCell ?_ ?_ _ | with_reducible refine Below.alloc ?_ ?_ _ | omega | (simp; done) | (simp; omega))) (hb.mono (by first | omega | (simp; done) | (simp; omega))); have Bz := B.size
        clear hb
        go_wp2_with fail
        refine (putB_any 2516582400 6 6 1 _ (u64_lit' _ rfl) (u64_lit' _ rfl)).mono ?_
        rw [P3.out]
        rintro e w3 ⟨rfl, hb⟩
        obtain ⟨n1, n2, n3, n4⟩ := keepB hb w.heap.size m3
        have B : Below w.heap.size w w3 := Below.trans (by repeat' (first | with_reducible exact Below.refl _ _ | with_reducible assumption | with_reducible apply below_drewN | with_reducible apply Below.drew | with_reducible refine Below.setCell ?_ ?_ _ | with_reducible refine Below.alloc ?_ ?_ _ | omega | (simp; done) | (simp; omega))) (hb.mono (by first | omega | (simp; done) | (simp; omega))); have Bz := B.size
        clear hb
        go_wp2_with fail
        refine (putB_any (synB true) 5 0 (4) _ (u64_lit' _ rfl) (u64_lit' _ rfl)).mono ?_
        rw [put4]
        rintro e w4 ⟨rfl, hb⟩
        have B : Below w.heap.size w w4 := Below.trans (by repeat' (first | with_reducible exact Below.refl _ _ | with_reducible assumption | with_reducible apply below_drewN | with_reducible apply Below.drew | with_reducible refine Below.setCell ?_ ?_ _ | with_reducible refine Below.alloc ?_ ?_ _ | omega | (simp; done) | (simp; omega))) (hb.mono (by first | omega | (simp; done) | (simp; omega))); have Bz := B.size
        clear hb
        go_wp2_with fail
        go_ret
        exact ⟨by simp [synZ, synK, faultV], by repeat' (first | with_reducible exact Below.refl _ _ | with_reducible assumption | with_reducible apply below_drewN | with_reducible apply Below.drew | with_reducible refine Below.setCell ?_ ?_ _ | with_reducible refine Below.alloc ?_ ?_ _ | omega | (simp; done) | (simp; omega))⟩
    · by_cases h3 : k = 3
      · subst h3
        clear h0 h2
        cases b
        · go_enter Try.func27, Try.ntmps27
          go_wp2_with fail
          refine (putB_any 0 31 26 37 _ (u64_lit' _ rfl) (u64_lit' _ rfl)).mono ?_
          rw [P1.out]
          rintro e w1 ⟨rfl, hb⟩
          have B : Below w.heap.size w w1 := Below.trans (by repeat' (first | with_reducible exact Below.refl _ _ | with_reducible assumption | with_reducible apply below_drewN | with_reducible apply Below.drew | with_reducible refine Below.setCell ?_ ?_ _ | with_reducible refine Below.alloc ?_ ?_ _ | omega | (simp; done) | (simp; omega))) (hb.mono (by first | omega | (simp; done) | (simp; omega))); have Bz := B.size
          obtain ⟨k1, k2, k3, k4⟩ := keepB hb w.heap.size (by first | omega | (simp; done) | (simp; omega))
          clear hb
          go_wp2_with fail
          refine (putB_any 2483027968 25 25 1 _ (u64_lit' _ rfl) (u64_lit' _ rfl)).mono ?_
          rw [P2.out]
          rintro e w2 ⟨rfl, hb⟩
          obtain ⟨m1, m2, m3, m4⟩ := keepB hb w.heap.size k3
          have B : Below w.heap.size w w2 := Below.trans (by repeat' (first | with_reducible exact Below.refl _ _ | with_reducible assumption | with_reducible apply below_drewN | with_reducible apply Below.drew | with_reducible refine Below.setCell ?_ ?_ _ | with_reducible refine Below.alloc ?_ ?_ _ | omega | (simp; done) | (simp; omega))) (hb.mono (by first | omega | (simp; done) | (simp; omega))); have Bz := B.size
          clear hb
          go_wp2_with fail
          refine (putB_any (synB false) 5 0 (IntKind.u64.wrap (4 + IntKind.u64.wrap l)) _ (u64_lit' _ rfl) (u64_wrap _)).mono ?_
          rw [put4]
          rintro e w4 ⟨rfl, hb⟩
          have B : Below w.heap.size w w4 := Below.trans (by repeat' (first | with_reducible exact Below.refl _ _ | with_reducible assumption | with_reducible apply below_drewN | with_reducible apply Below.drew | with_reducible refine Below.setCell ?_ ?_ _ | with_reducible refine Below.alloc ?_ ?_ _ | omega | (simp; done) | (simp; omega))) (hb.mono (by first | omega | (simp; done) | (simp; omega))); have Bz := B.size
          clear hb
          go_wp2_with fail
          go_ret
          exact ⟨by rw [wrap_64]; simp [synZ, synK], by repeat' (first | with_reducible exact Below.refl _ _ | with_reducible assumption | with_reducible apply below_drewN | with_reducible apply Below.drew | with_reducible refine Below.setCell ?_ ?_ _ | with_reducible refine Below.alloc ?_ ?_ _ | omega | (simp; done) | (simp; omega))⟩
        · go_enter Try.func27, Try.ntmps27
          go_wp2_with fail
          refine (putB_any 0 31 26 37 _ (u64_lit' _ rfl) (u64_lit' _ rfl)).mono ?_
          rw [P1.out]
          rintro e w1 ⟨rfl, hb⟩
          have B : Below w.heap.size w w1 := Below.trans (by repeat' (first | with_reducible exact Below.refl _ _ | with_reducible assumption | with_reducible apply below_drewN | with_reducible apply Below.drew | with_reducible refine Below.setCell ?_ ?_ _ | with_reducible refine Below.alloc ?_ ?_ _ | omega | (simp; done) | (simp; omega))) (hb.mono (by first | omega | (simp; done) | (simp; omega))); have Bz := B.size
          obtain ⟨k1, k2, k3, k4⟩ := keepB hb w.heap.size (by first | omega | (simp; done) | (simp; omega))
          clear hb
          go_wp2_with fail
          refine (putB_any 2483027968 25 25 1 _ (u64_lit' _ rfl) (u64_lit' _ rfl)).mono ?_
          rw [P2.out]
          rintro e w2 ⟨rfl, hb⟩
          obtain ⟨m1, m2, m3, m4⟩ := keepB hb w.heap.size k3
          have B : Below w.heap.size w w2 := Below.trans (by repeat' (first | with_reducible exact Below.refl _ _ | with_reducible assumption | with_reducible apply below_drewN | with_reducible apply Below.drew | with_reducible refine Below.setCell ?_ ?_ _ | with_reducible refine Below.alloc ?_ ?_ _ | omega | (simp; done) | (simp; omega))) (hb.mono (by first | omega | (simp; done) | (simp; omega))); have Bz := B.size
          clear hb
          go_wp2_with fail
          refine (putB_any 2516582400 6 6 1 _ (u64_lit' _ rfl) (u64_lit' _ rfl)).mono ?_
          rw [P3.out]
          rintro e w3 ⟨rfl, hb⟩
          obtain ⟨n1, n2, n3, n4⟩ := keepB hb w.heap.size m3
          have B : Below w.heap.size w w3 := Below.trans (by repeat' (first | with_reducible exact Below.refl _ _ | with_reducible assumption | with_reducible apply below_drewN | with_reducible apply Below.drew | with_reducible refine Below.setCell ?_ ?_ _ | with_reducible refine Below.alloc ?_ ?_ _ | omega | (simp; done) | (simp; omega))) (hb.mono (by first | omega | (simp; done) | (simp; omega))); have Bz := B.size
          clear hb
          go_wp2_with fail
          refine (putB_any (synB true) 5 0 (IntKind.u64.wrap (4 + IntKind.u64.wrap l)) _ (u64_lit' _ rfl) (u64_wrap _)).mono ?_
          rw [put4]
          rintro e w4 ⟨rfl, hb⟩
          have B : Below w.heap.size w w4 := Below.trans (by repeat' (first | with_reducible exact Below.refl _ _ | with_reducible assumption | with_reducible apply below_drewN | with_reducible apply Below.drew | with_reducible refine Below.setCell ?_ ?_ _ | with_reducible refine Below.alloc ?_ ?_ _ | omega | (simp; done) | (simp; omega))) (hb.mono (by first | omega | (simp; done) | (simp; omega))); have Bz := B.size
          clear hb
          go_wp2_with fail
          go_ret
          exact ⟨by rw [wrap_64]; simp [synZ, synK], by repeat' (first | with_reducible exact Below.refl _ _ | with_reducible assumption | with_reducible apply below_drewN | with_reducible apply Below.drew | with_reducible refine Below.setCell ?_ ?_ _ | with_reducible refine Below.alloc ?_ ?_ _ | omega | (simp; done) | (simp; omega))⟩
      · by_cases h4 : k = 4
        · subst h4
          clear h0 h2 h3
          cases b
          · go_enter Try.func27, Try.ntmps27
            go_wp2_with fail
            refine (putB_any 0 31 26 37 _ (u64_lit' _ rfl) (u64_lit' _ rfl)).mono ?_
            rw [P1.out]
            rintro e w1 ⟨rfl, hb⟩
            have B : Below w.heap.size w w1 := Below.trans (by repeat' (first | with_reducible exact Below.refl _ _ | with_reducible assumption | with_reducible apply below_drewN | with_reducible apply Below.drew | with_reducible refine Below.setCell ?_ ?_ _ | with_reducible refine Below.alloc ?_ ?_ _ | omega | (simp; done) | (simp; omega))) (hb.mono (by first | omega | (simp; done) | (simp; omega))); have Bz := B.size
            obtain ⟨k1, k2, k3, k4⟩ := keepB hb w.heap.size (by first | omega | (simp; done) | (simp; omega))
            clear hb
            go_wp2_with fail
            refine (putB_any 2483027968 25 25 1 _ (u64_lit' _ rfl) (u64_lit' _ rfl)).mono ?_
            rw [P2.out]
            rintro e w2 ⟨rfl, hb⟩
            obtain ⟨m1, m2, m3, m4⟩ := keepB hb w.heap.size k3
            have B : Below w.heap.size w w2 := Below.trans (by repeat' (first | with_reducible exact Below.refl _ _ | with_reducible assumption | with_reducible apply below_drewN | with_reducible apply Below.drew | with_reducible refine Below.setCell ?_ ?_ _ | with_reducible refine Below.alloc ?_ ?_ _ | omega | (simp; done) | (simp; omega))) (hb.mono (by first | omega | (simp; done) | (simp; omega))); have Bz := B.size
            clear hb
            go_wp2_with fail
            refine (putB_any (synB false) 5 0 (IntKind.u64.wrap (8 + IntKind.u64.wrap l)) _ (u64_lit' _ rfl) (u64_wrap _)).mono ?_
            rw [put4]
            rintro e w4 ⟨rfl, hb⟩
            have B : Below w.heap.size w w4 := Below.trans (by repeat' (first | with_reducible exact Below.refl _ _ | with_reducible assumption | with_reducible apply below_drewN | with_reducible apply Below.drew | with_reducible refine Below.setCell ?_ ?_ _ | with_reducible refine Below.alloc ?_ ?_ _ | omega | (simp; done) | (simp; omega))) (hb.mono (by first | omega | (simp; done) | (simp; omega))); have Bz := B.size
            clear hb
            go_wp2_with fail
            go_ret
            exact ⟨by rw [wrap_64]; simp [synZ, synK], by repeat' (first | with_reducible exact Below.refl _ _ | with_reducible assumption | with_reducible apply below_drewN | with_reducible apply Below.drew | with_reducible refine Below.setCell ?_ ?_ _ | with_reducible refine Below.alloc ?_ ?_ _ | omega | (simp; done) | (simp; omega))⟩
          · go_enter Try.func27, Try.ntmps27
            go_wp2_with fail
            refine (putB_any 0 31 26 37 _ (u64_lit' _ rfl) (u64_lit' _ rfl)).mono ?_
            rw [P1.out]
            rintro e w1 ⟨rfl, hb⟩
            have B : Below w.heap.size w w1 := Below.trans (by repeat' (first | with_reducible exact Below.refl _ _ | with_reducible assumption | with_reducible apply below_drewN | with_reducible apply Below.drew | with_reducible refine Below.setCell ?_ ?_ _ | with_reducible refine Below.alloc ?_ ?_ _ | omega | (simp; done) | (simp; omega))) (hb.mono (by first | omega | (simp; done) | (simp; omega))); have Bz := B.size
            obtain ⟨k1, k2, k3, k4⟩ := keepB hb w.heap.size (by first | omega | (simp; done) | (simp; omega))
            clear hb
            go_wp2_with fail
            refine (putB_any 2483027968 25 25 1 _ (u64_lit' _ rfl) (u64_lit' _ rfl)).mono ?_
            rw [P2.out]
            rintro e w2 ⟨rfl, hb⟩
            obtain ⟨m1, m2, m3, m4⟩ := keepB hb w.heap.size k3
            have B : Below w.heap.size w w2 := Below.trans (by repeat' (first | with_reducible exact Below.refl _ _ | with_reducible assumption | with_reducible apply below_drewN | with_reducible apply Below.drew | with_reducible refine Below.setCell ?_ ?_ _ | with_reducible refine Below.alloc ?_ ?_ _ | omega | (simp; done) | (simp; omega))) (hb.mono (by first | omega | (simp; done) | (simp; omega))); have Bz := B.size
            clear hb
            go_wp2_with fail
            refine (putB_any 2516582400 6 6 1 _ (u64_lit' _ rfl) (u64_lit' _ rfl)).mono ?_
            rw [P3.out]
            rintro e w3 ⟨rfl, hb⟩
            obtain ⟨n1, n2, n3, n4⟩ := keepB hb w.heap.size m3
            have B : Below w.heap.size w w3 := Below.trans (by repeat' (first | with_reducible exact Below.refl _ _ | with_reducible assumption | with_reducible apply below_drewN | with_reducible apply Below.drew | with_reducible refine Below.setCell ?_ ?_ _ | with_reducible refine Below.alloc ?_ ?_ _ | omega | (simp; done) | (simp; omega))) (hb.mono (by first | omega | (simp; done) | (simp; omega))); have Bz := B.size
            clear hb
            go_wp2_with fail
            refine (putB_any (synB true) 5 0 (IntKind.u64.wrap (8 + IntKind.u64.wrap l)) _ (u64_lit' _ rfl) (u64_wrap _)).mono ?_
            rw [put4]
            rintro e w4 ⟨rfl, hb⟩
            have B : Below w.heap.size w w4 := Below.trans (by repeat' (first | with_reducible exact Below.refl _ _ | with_reducible assumption | with_reducible apply below_drewN | with_reducible apply Below.drew | with_reducible refine Below.setCell ?_ ?_ _ | with_reducible refine Below.alloc ?_ ?_ _ | omega | (simp; done) | (simp; omega))) (hb.mono (by first | omega | (simp; done) | (simp; omega))); have Bz := B.size
            clear hb
            go_wp2_with fail
            go_ret
            exact ⟨by rw [wrap_64]; simp [synZ, synK], by repeat' (first | with_reducible exact Below.refl _ _ | with_reducible assumption | with_reducible apply below_drewN | with_reducible apply Below.drew | with_reducible refine Below.setCell ?_ ?_ _ | with_reducible refine Below.alloc ?_ ?_ _ | omega | (simp; done) | (simp; omega))⟩
        · by_cases h5 : k = 5
          · subst h5
            clear h0 h2 h3 h4
            cases b
            · go_enter Try.func27, Try.ntmps27
              go_wp2_with fail
              refine (putB_any 0 31 26 37 _ (u64_lit' _ rfl) (u64_lit' _ rfl)).mono ?_
              rw [P1.out]
              rintro e w1 ⟨rfl, hb⟩
              have B : Below w.heap.size w w1 := Below.trans (by repeat' (first | with_reducible exact Below.refl _ _ | with_reducible assumption | with_reducible apply below_drewN | with_reducible apply Below.drew | with_reducible refine Below.setCell ?_ ?_ _ | with_reducible refine Below.alloc ?_ ?_ _ | omega | (simp; done) | (simp; omega))) (hb.mono (by first | omega | (simp; done) | (simp; omega))); have Bz := B.size
              obtain ⟨k1, k2, k3, k4⟩ := keepB hb w.heap.size (by first | omega | (simp; done) | (simp; omega))
              clear hb
              go_wp2_with fail
              refine (putB_any 2483027968 25 25 1 _ (u64_lit' _ rfl) (u64_lit' _ rfl)).mono ?_
              rw [P2.out]
              rintro e w2 ⟨rfl, hb⟩
              obtain ⟨m1, m2, m3, m4⟩ := keepB hb w.heap.size k3
              have B : Below w.heap.size w w2 := Below.trans (by repeat' (first | with_reducible exact Below.refl _ _ | with_reducible assumption | with_reducible apply below_drewN | with_reducible apply Below.drew | with_reducible refine Below.setCell ?_ ?_ _ | with_reducible refine Below.alloc ?_ ?_ _ | omega | (simp; done) | (simp; omega))) (hb.mono (by first | omega | (simp; done) | (simp; omega))); have Bz := B.size
              clear hb
              go_wp2_with fail
              refine (putB_any (synB false) 5 0 (IntKind.u64.wrap (12 + IntKind.u64.wrap l)) _ (u64_lit' _ rfl) (u64_wrap _)).mono ?_
              rw [put4]
              rintro e w4 ⟨rfl, hb⟩
              have B : Below w.heap.size w w4 := Below.trans (by repeat' (first | with_reducible exact Below.refl _ _ | with_reducible assumption | with_reducible apply below_drewN | with_reducible apply Below.drew | with_reducible refine Below.setCell ?_ ?_ _ | with_reducible refine Below.alloc ?_ ?_ _ | omega | (simp; done) | (simp; omega))) (hb.mono (by first | omega | (simp; done) | (simp; omega))); have Bz := B.size
              clear hb
              go_wp2_with fail
              go_ret
              exact ⟨by rw [wrap_64]; simp [synZ, synK], by repeat' (first | with_reducible exact Below.refl _ _ | with_reducible assumption | with_reducible apply below_drewN | with_reducible apply Below.drew | with_reducible refine Below.setCell ?_ ?_ _ | with_reducible refine Below.alloc ?_ ?_ _ | omega | (simp; done) | (simp; omega))⟩
            · go_enter Try.func27, Try.ntmps27
              go_wp2_with fail
              refine (putB_any 0 31 26 37 _ (u64_lit' _ rfl) (u64_lit' _ rfl)).mono ?_
              rw [P1.out]
              rintro e w1 ⟨rfl, hb⟩
              have B : Below w.heap.size w w1 := Below.trans (by repeat' (first | with_reducible exact Below.refl _ _ | with_reducible assumption | with_reducible apply below_drewN | with_reducible apply Below.drew | with_reducible refine Below.setCell ?_ ?_ _ | with_reducible refine Below.alloc ?_ ?_ _ | omega | (simp; done) | (simp; omega))) (hb.mono (by first | omega | (simp; done) | (simp; omega))); have Bz := B.size
              obtain ⟨k1, k2, k3, k4⟩ := keepB hb w.heap.size (by first | omega | (simp; done) | (simp; omega))
              clear hb
              go_wp2_with fail
              refine (putB_any 2483027968 25 25 1 _ (u64_lit' _ rfl) (u64_lit' _ rfl)).mono ?_
              rw [P2.out]
              rintro e w2 ⟨rfl, hb⟩
              obtain ⟨m1, m2, m3, m4⟩ := keepB hb w.heap.size k3
              have B : Below w.heap.size w w2 := Below.trans (by repeat' (first | with_reducible exact Below.refl _ _ | with_reducible assumption | with_reducible apply below_drewN | with_reducible apply Below.drew | with_reducible refine Below.setCell ?_ ?_ _ | with_reducible refine Below.alloc ?_ ?_ _ | omega | (simp; done) | (simp; omega))) (hb.mono (by first | omega | (simp; done) | (simp; omega))); have Bz := B.size
              clear hb
              go_wp2_with fail
              refine (putB_any 2516582400 6 6 1 _ (u64_lit' _ rfl) (u64_lit' _ rfl)).mono ?_
              rw [P3.out]
              rintro e w3 ⟨rfl, hb⟩
              obtain ⟨n1, n2, n3, n4⟩ := keepB hb w.heap.size m3
              have B : Below w.heap.size w w3 := Below.trans (by repeat' (first | with_reducible exact Below.refl _ _ | with_reducible assumption | with_reducible apply below_drewN | with_reducible apply Below.drew | with_reducible refine Below.setCell ?_ ?_ _ | with_reducible refine Below.alloc ?_ ?_ _ | omega | (simp; done) | (simp; omega))) (hb.mono (by first | omega | (simp; done) | (simp; omega))); have Bz := B.size
              clear hb
              go_wp2_with fail
              refine (putB_any (synB true) 5 0 (IntKind.u64.wrap (12 + IntKind.u64.wrap l)) _ (u64_lit' _ rfl) (u64_wrap _)).mono ?_
              rw [put4]
              rintro e w4 ⟨rfl, hb⟩
              have B : Below w.heap.size w w4 := Below.trans (by repeat' (first | with_reducible exact Below.refl _ _ | with_reducible assumption | with_reducible apply below_drewN | with_reducible apply Below.drew | with_reducible refine Below.setCell ?_ ?_ _ | with_reducible refine Below.alloc ?_ ?_ _ | omega | (simp; done) | (simp; omega))) (hb.mono (by first | omega | (simp; done) | (simp; omega))); have Bz := B.size
              clear hb
              go_wp2_with fail
              go_ret
              exact ⟨by rw [wrap_64]; simp [synZ, synK], by repeat' (first | with_reducible exact Below.refl _ _ | with_reducible assumption | with_reducible apply below_drewN | with_reducible apply Below.drew | with_reducible refine Below.setCell ?_ ?_ _ | with_reducible refine Below.alloc ?_ ?_ _ | omega | (simp; done) | (simp; omega))⟩
          · have HN : Hid (synZ ⟨k, l, b⟩ = synB b + 33) := Lib.hid (by simp [synZ, synK, h0, h2, h3, h4, h5])
            cases b
            · go_enter Try.func27, Try.ntmps27
              go_wp2_with fail
              refine (putB_any 0 31 26 37 _ (u64_lit' _ rfl) (u64_lit' _ rfl)).mono ?_
              rw [P1.out]
              rintro e w1 ⟨rfl, hb⟩
              have B : Below w.heap.size w w1 := Below.trans (by repeat' (first | with_reducible exact Below.refl _ _ | with_reducible assumption | with_reducible apply below_drewN | with_reducible apply Below.drew | with_reducible refine Below.setCell ?_ ?_ _ | with_reducible refine Below.alloc ?_ ?_ _ | omega | (simp; done) | (simp; omega))) (hb.mono (by first | omega | (simp; done) | (simp; omega))); have Bz := B.size
              obtain ⟨k1, k2, k3, k4⟩ := keepB hb w.heap.size (by first | omega | (simp; done) | (simp; omega))
              clear hb
              go_wp2_with fail
              refine (putB_any 2483027968 25 25 1 _ (u64_lit' _ rfl) (u64_lit' _ rfl)).mono ?_
              rw [P2.out]
              rintro e w2 ⟨rfl, hb⟩
              obtain ⟨m1, m2, m3, m4⟩ := keepB hb w.heap.size k3
              have B : Below w.heap.size w w2 := Below.trans (by repeat' (first | with_reducible exact Below.refl _ _ | with_reducible assumption | with_reducible apply below_drewN | with_reducible apply Below.drew | with_reducible refine Below.setCell ?_ ?_ _ | with_reducible refine Below.alloc ?_ ?_ _ | omega | (simp; done) | (simp; omega))) (hb.mono (by first | omega | (simp; done) | (simp; omega))); have Bz := B.size
              clear hb
              go_wp2_with fail
              refine (putB_any (synB false) 5 0 (33) _ (u64_lit' _ rfl) (u64_lit' _ rfl)).mono ?_
              rw [put4]
              rintro e w4 ⟨rfl, hb⟩
              have B : Below w.heap.size w w4 := Below.trans (by repeat' (first | with_reducible exact Below.refl _ _ | with_reducible assumption | with_reducible apply below_drewN | with_reducible apply Below.drew | with_reducible refine Below.setCell ?_ ?_ _ | with_reducible refine Below.alloc ?_ ?_ _ | omega | (simp; done) | (simp; omega))) (hb.mono (by first | omega | (simp; done) | (simp; omega))); have Bz := B.size
              clear hb
              go_wp2_with fail
              go_ret
              exact ⟨by rw [HN.out]; rfl, by repeat' (first | with_reducible exact Below.refl _ _ | with_reducible assumption | with_reducible apply below_drewN | with_reducible apply Below.drew | with_reducible refine Below.setCell ?_ ?_ _ | with_reducible refine Below.alloc ?_ ?_ _ | omega | (simp; done) | (simp; omega))⟩
            · go_enter Try.func27, Try.ntmps27
              go_wp2_with fail
              refine (putB_any 0 31 26 37 _ (u64_lit' _ rfl) (u64_lit' _ rfl)).mono ?_
              rw [P1.out]
              rintro e w1 ⟨rfl, hb⟩
              have B : Below w.heap.size w w1 := Below.trans (by repeat' (first | with_reducible exact Below.refl _ _ | with_reducible assumption | with_reducible apply below_drewN | with_reducible apply Below.drew | with_reducible refine Below.setCell ?_ ?_ _ | with_reducible refine Below.alloc ?_ ?_ _ | omega | (simp; done) | (simp; omega))) (hb.mono (by first | omega | (simp; done) | (simp; omega))); have Bz := B.size
              obtain ⟨k1, k2, k3, k4⟩ := keepB hb w.heap.size (by first | omega | (simp; done) | (simp; omega))
              clear hb
              go_wp2_with fail
              refine (putB_any 2483027968 25 25 1 _ (u64_lit' _ rfl) (u64_lit' _ rfl)).mono ?_
              rw [P2.out]
              rintro e w2 ⟨rfl, hb⟩
              obtain ⟨m1, m2, m3, m4⟩ := keepB hb w.heap.size k3
              have B : Below w.heap.size w w2 := Below.trans (by repeat' (first | with_reducible exact Below.refl _ _ | with_reducible assumption | with_reducible apply below_drewN | with_reducible apply Below.drew | with_reducible refine Below.setCell ?_ ?_ _ | with_reducible refine Below.alloc ?_ ?_ _ | omega | (simp; done) | (simp; omega))) (hb.mono (by first | omega | (simp; done) | (simp; omega))); have Bz := B.size
              clear hb
              go_wp2_with fail
              refine (putB_any 2516582400 6 6 1 _ (u64_lit' _ rfl) (u64_lit' _ rfl)).mono ?_
              rw [P3.out]
              rintro e w3 ⟨rfl, hb⟩
              obtain ⟨n1, n2, n3, n4⟩ := keepB hb w.heap.size m3
              have B : Below w.heap.size w w3 := Below.trans (by repeat' (first | with_reducible exact Below.refl _ _ | with_reducible assumption | with_reducible apply below_drewN | with_reducible apply Below.drew | with_reducible refine Below.setCell ?_ ?_ _ | with_reducible refine Below.alloc ?_ ?_ _ | omega | (simp; done) | (simp; omega))) (hb.mono (by first | omega | (simp; done) | (simp; omega))); have Bz := B.size
              clear hb
              go_wp2_with fail
              refine (putB_any (synB true) 5 0 (33) _ (u64_lit' _ rfl) (u64_lit' _ rfl)).mono ?_
              rw [put4]
              rintro e w4 ⟨rfl, hb⟩
              have B : Below w.heap.size w w4 := Below.trans (by repeat' (first | with_reducible exact Below.refl _ _ | with_reducible assumption | with_reducible apply below_drewN | with_reducible apply Below.drew | with_reducible refine Below.setCell ?_ ?_ _ | with_reducible refine Below.alloc ?_ ?_ _ | omega | (simp; done) | (simp; omega))) (hb.mono (by first | omega | (simp; done) | (simp; omega))); have Bz := B.size
              clear hb
              go_wp2_with fail
              go_ret
              exact ⟨by rw [HN.out]; rfl, by repeat' (first | with_reducible exact Below.refl _ _ | with_reducible assumption | with_reducible apply below_drewN | with_reducible apply Below.drew | with_reducible refine Below.setCell ?_ ?_ _ | with_reducible refine Below.alloc ?_ ?_ _ | omega | (simp; done) | (simp; omega))⟩


set_option maxRecDepth 100000 in
set_option maxHeartbeats 4000000 in
theorem rsyn_any (k l : Int) (b : Bool) (w : World) : Calls Try.prog 28 #[.agg #[.int .i64 k, .int .i64 l, .bool b]] w (RetB (.int .u64 (synZ ⟨k, l, b⟩)) w) := by
  obtain ⟨x, hx⟩ : ∃ x, x = IntKind.u64.wrap l := ⟨_, rfl⟩
  have hxl : x % 64 = l % 64 := by rw [hx, IntKind.wrap_u64]; omega
  have hx0 : 0 ≤ x := by rw [hx]; exact (u64_wrap l).1
  have E1 : IntKind.u64.wrap l = x := hx.symm
  have E2 : x.tmod 64 = l % 64 := by rw [Int.tmod_eq_emod_of_nonneg hx0, hxl]
  have hb1 : 0 ≤ l % 64 ∧ l % 64 < 64 := by omega
  have E3 : IntKind.u64.wrap (l % 64 + 64) = l % 64 + 64 := by rw [IntKind.wrap_u64]; omega
  have E4 : (l % 64 + 64).tmod 64 = l % 64 := by rw [Int.tmod_eq_emod_of_nonneg (by omega)]; omega
  have E5 : ∀ n : Int, 0 ≤ n → n < 64 → IntKind.u64.wrap (n + l % 64) = n + l % 64 ∧ (n + l % 64).tmod 64 = (n + l) % 64 := fun n h1 h2 => ⟨by rw [IntKind.wrap_u64]; omega, by rw [Int.tmod_eq_emod_of_nonneg (by omega)]; omega⟩
  obtain ⟨F1, F2⟩ := E5 4 (by decide) (by decide)
  obtain ⟨F3, F4⟩ := E5 8 (by decide) (by decide)
  obtain ⟨F5, F6⟩ := E5 12 (by decide) (by decide)
  have E6 : ∀ (c y : Int), 0 ≤ c → c < 3000000000 → 0 ≤ y → y < 64 → IntKind.u64.wrap (c + y) = c + y := fun c y h1 h2 h3 h4 => by rw [IntKind.wrap_u64]; omega
  have G1 := E6 2516582400 ((4 + l) % 64) (by decide) (by decide) (by omega) (by omega)
  have G2 := E6 2516582400 ((8 + l) % 64) (by decide) (by decide) (by omega) (by omega)
  have G3 := E6 2516582400 ((12 + l) % 64) (by decide) (by decide) (by omega) (by omega)
  have G4 := E6 2516582464 ((4 + l) % 64) (by decide) (by decide) (by omega) (by omega)
  have G5 := E6 2516582464 ((8 + l) % 64) (by decide) (by decide) (by omega) (by omega)
  have G6 := E6 2516582464 ((12 + l) % 64) (by decide) (by decide) (by omega) (by omega)
  have W1 : IntKind.u64.wrap (2516582400 + 64) = 2516582464 := by decide +kernel
  have W2 : IntKind.u64.wrap (2516582400 + 4) = 2516582404 := by decide +kernel
  have W3 : IntKind.u64.wrap (2516582464 + 4) = 2516582468 := by decide +kernel
  have W4 : IntKind.u64.wrap (2516582400 + 33) = 2516582433 := by decide +kernel
  have W5 : IntKind.u64.wrap (2516582464 + 33) = 2516582497 := by decide +kernel
  clear E5 E6 hx hxl hx0 hb1
  by_cases h0 : k = 0
  · subst h0
    cases b
    · go_enter Try.func28, Try.ntmps28
      go_wp2_with fail
      go_ret
      exact ⟨by simp [synZ, synK, synB], by repeat' (first | with_reducible exact Below.refl _ _ | with_reducible assumption | with_reducible apply below_drewN | with_reducible apply Below.drew | with_reducible refine Below.setCell ?_ ?_ _ | with_reducible refine Below.alloc ?_ ?_ _ | omega | (simp; done) | (simp; omega))⟩
    · go_enter Try.func28, Try.ntmps28
      go_wp2_with fail
      go_ret
      exact ⟨by simp [synZ, synK, synB], by repeat' (first | with_reducible exact Below.refl _ _ | with_reducible assumption | with_reducible apply below_drewN | with_reducible apply Below.drew | with_reducible refine Below.setCell ?_ ?_ _ | with_reducible refine Below.alloc ?_ ?_ _ | omega | (simp; done) | (simp; omega))⟩
  · by_cases h2 : k = 2
    · subst h2
      clear h0
      cases b
      · go_enter Try.func28, Try.ntmps28
        go_wp2_with fail
        go_ret
        exact ⟨by simp [synZ, synK, synB], by repeat' (first | with_reducible exact Below.refl _ _ | with_reducible assumption | with_reducible apply below_drewN | with_reducible apply Below.drew | with_reducible refine Below.setCell ?_ ?_ _ | with_reducible refine Below.alloc ?_ ?_ _ | omega | (simp; done) | (simp; omega))⟩
      · go_enter Try.func28, Try.ntmps28
        go_wp2_with fail
        go_ret
        exact ⟨by simp [synZ, synK, synB], by repeat' (first | with_reducible exact Below.refl _ _ | with_reducible assumption | with_reducible apply below_drewN | with_reducible apply Below.drew | with_reducible refine Below.setCell ?_ ?_ _ | with_reducible refine Below.alloc ?_ ?_ _ | omega | (simp; done) | (simp; omega))⟩
    · by_cases h3 : k = 3
      · subst h3
        clear h0 h2
        cases b
        · go_enter Try.func28, Try.ntmps28
          go_wp2_with fail
          go_ret
          exact ⟨by simp [synZ, synK, synB], by repeat' (first | with_reducible exact Below.refl _ _ | with_reducible assumption | with_reducible apply below_drewN | with_reducible apply Below.drew | with_reducible refine Below.setCell ?_ ?_ _ | with_reducible refine Below.alloc ?_ ?_ _ | omega | (simp; done) | (simp; omega))⟩
        · go_enter Try.func28, Try.ntmps28
          go_wp2_with fail
          go_ret
          exact ⟨by simp [synZ, synK, synB], by repeat' (first | with_reducible exact Below.refl _ _ | with_reducible assumption | with_reducible apply below_drewN | with_reducible apply Below.drew | with_reducible refine Below.setCell ?_ ?_ _ | with_reducible refine Below.alloc ?_ ?_ _ | omega | (simp; done) | (simp; omega))⟩
      · by_cases h4 : k = 4
        · subst h4
          clear h0 h2 h3
          cases b
          · go_enter Try.func28, Try.ntmps28
            go_wp2_with fail
            go_ret
            exact ⟨by simp [synZ, synK, synB], by repeat' (first | with_reducible exact Below.refl _ _ | with_reducible assumption | with_reducible apply below_drewN | with_reducible apply Below.drew | with_reducible refine Below.setCell ?_ ?_ _ | with_reducible refine Below.alloc ?_ ?_ _ | omega | (simp; done) | (simp; omega))⟩
          · go_enter Try.func28, Try.ntmps28
            go_wp2_with fail
            go_ret
            exact ⟨by simp [synZ, synK, synB], by repeat' (first | with_reducible exact Below.refl _ _ | with_reducible assumption | with_reducible apply below_drewN | with_reducible apply Below.drew | with_reducible refine Below.setCell ?_ ?_ _ | with_reducible refine Below.alloc ?_ ?_ _ | omega | (simp; done) | (simp; omega))⟩
        · by_cases h5 : k = 5
          · subst h5
            clear h0 h2 h3 h4
            cases b
            · go_enter Try.func28, Try.ntmps28
              go_wp2_with fail
              go_ret
              exact ⟨by simp [synZ, synK, synB], by repeat' (first | with_reducible exact Below.refl _ _ | with_reducible assumption | with_reducible apply below_drewN | with_reducible apply Below.drew | with_reducible refine Below.setCell ?_ ?_ _ | with_reducible refine Below.alloc ?_ ?_ _ | omega | (simp; done) | (simp; omega))⟩
            · go_enter Try.func28, Try.ntmps28
              go_wp2_with fail
              go_ret
              exact ⟨by simp [synZ, synK, synB], by repeat' (first | with_reducible exact Below.refl _ _ | with_reducible assumption | with_reducible apply below_drewN | with_reducible apply Below.drew | with_reducible refine Below.setCell ?_ ?_ _ | with_reducible refine Below.alloc ?_ ?_ _ | omega | (simp; done) | (simp; omega))⟩
          · have HN : Hid (synZ ⟨k, l, b⟩ = synB b + 33) := Lib.hid (by simp [synZ, synK, h0, h2, h3, h4, h5])
            cases b
            · go_enter Try.func28, Try.ntmps28
              go_wp2_with fail
              go_ret
              exact ⟨by rw [HN.out]; rfl, by repeat' (first | with_reducible exact Below.refl _ _ | with_reducible assumption | with_reducible apply below_drewN | with_reducible apply Below.drew | with_reducible refine Below.setCell ?_ ?_ _ | with_reducible refine Below.alloc ?_ ?_ _ | omega | (simp; done) | (simp; omega))⟩
            · go_enter Try.func28, Try.ntmps28
              go_wp2_with fail
              go_ret
              exact ⟨by rw [HN.out]; rfl, by repeat' (first | with_reducible exact Below.refl _ _ | with_reducible assumption | with_reducible apply below_drewN | with_reducible apply Below.drew | with_reducible refine Below.setCell ?_ ?_ _ | with_reducible refine Below.alloc ?_ ?_ _ | omega | (simp; done) | (simp; omega))⟩

end Go.Proofs.Ytogoclcjkekplaa
