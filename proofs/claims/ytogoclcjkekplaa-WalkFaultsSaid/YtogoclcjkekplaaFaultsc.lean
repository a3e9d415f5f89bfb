/- Contract of granuleref08.Faults. -/
import Derived.Test.YtogoclcjkekplaaFaultsb
namespace Go.Proofs.Ytogoclcjkekplaa
open Go.RowKit

def flatf (L : List Fa) : List Value := L.flatMap fun f => [.int .i64 f.kind, .int .i64 f.level, .bool f.write]
theorem flatf_append (L M : List Fa) : flatf (L ++ M) = flatf L ++ flatf M := by simp [flatf]
theorem flatf_len (L : List Fa) : (flatf L).length = L.length * 3 := by
  induction L with
  | nil => rfl
  | cons a L ih => simp only [flatf, List.flatMap_cons, List.length_append, List.length_cons, List.length_nil] at ih ⊢; omega
theorem flatf_cells (L : List Fa) : ∀ u ∈ flatf L, u.oneCell' = true := by
  intro u hu
  unfold flatf at hu
  obtain ⟨p, _, hp⟩ := List.mem_flatMap.1 hu
  simp at hp
  rcases hp with rfl | rfl | rfl <;> rfl
theorem flatf_at : ∀ (L : List Fa) (j : Nat) (h : j < L.length), (flatf L)[j * 3]? = some (.int .i64 L[j].kind) ∧ (flatf L)[j * 3 + 1]? = some (.int .i64 L[j].level) ∧ (flatf L)[j * 3 + 2]? = some (.bool L[j].write)
  | [], j, h => by simp at h
  | a :: L, 0, _ => ⟨rfl, rfl, rfl⟩
  | a :: L, j + 1, h => by
    have := flatf_at L j (by simpa using h)
    rw [show (j + 1) * 3 = j * 3 + 3 by omega]
    simpa [flatf] using this

/-- The faults of the first p kinds and levels. -/
def flP (p : Nat) : List Fa := (List.range p).flatMap fun q => if (decide (q % 3 = 0)) = decide (q / 3 < 2) then [⟨(q / 3 : Nat) + 1, (q % 3 : Nat), false⟩, ⟨(q / 3 : Nat) + 1, (q % 3 : Nat), true⟩] else []
theorem flP_len (p : Nat) : (flP p).length ≤ 2 * p := by
  unfold flP
  induction p with
  | zero => simp
  | succ p ih =>
    rw [List.range_succ, List.flatMap_append, List.length_append]
    simp only [List.flatMap_cons, List.flatMap_nil, List.append_nil]
    have : ∀ (c : Prop) [Decidable c] (x y : Fa), (if c then [x, y] else []).length ≤ 2 := fun c _ x y => by split <;> simp
    exact Nat.le_trans (Nat.add_le_add ih (this _ _ _)) (by omega)
theorem flP_succ (K Lv : Nat) (h1 : 1 ≤ K) (h2 : Lv < 3) : flP ((K - 1) * 3 + (Lv + 1)) = flP ((K - 1) * 3 + Lv) ++ (if decide (Lv = 0) = decide (K = 1 ∨ K = 2) then [⟨(K : Nat), (Lv : Nat), false⟩, ⟨(K : Nat), (Lv : Nat), true⟩] else []) := by
  unfold flP
  rw [show (K - 1) * 3 + (Lv + 1) = ((K - 1) * 3 + Lv) + 1 by omega, List.range_succ, List.flatMap_append]
  simp only [List.flatMap_cons, List.flatMap_nil, List.append_nil]
  have e1 : ((K - 1) * 3 + Lv) % 3 = Lv := by omega
  have e2 : ((K - 1) * 3 + Lv) / 3 = K - 1 := by omega
  have e3 : (((K - 1 : Nat) : Int) + 1) = (K : Nat) := by omega
  have e4 : decide (K - 1 < 2) = decide (K = 1 ∨ K = 2) := by
    apply decide_eq_decide.2
    omega
  rw [e1, e2, e3, e4]

theorem infofR : (Try.prog.info? 36).map (fun i => (i.zero, i.size, i.bytes)) = some (some (.agg #[.int .i64 0, .int .i64 0, .bool false]), 3, 24) := by kernel_rfl

theorem six_new (w : World) (a b c d e f : Value) (t : TypeId) : ∀ (j : Nat) (u : Value), [a, b, c, d, e, f][j]? = some u → (w.alloc (.cells #[a, b, c, d, e, f] t)).cell? ((⟨w.heap.size, 0, none⟩ : Addr).add j) = some u := by
  intro j u hj
  match j, hj with
  | 0, hj => simp at hj; subst hj; simp [Addr.add]
  | 1, hj => simp at hj; subst hj; simp [Addr.add]
  | 2, hj => simp at hj; subst hj; simp [Addr.add]
  | 3, hj => simp at hj; subst hj; simp [Addr.add]
  | 4, hj => simp at hj; subst hj; simp [Addr.add]
  | 5, hj => simp at hj; subst hj; simp [Addr.add]

set_option maxRecDepth 100000 in
set_option maxHeartbeats 8000000 in
theorem faults_any (w : World) : Calls Try.prog 30 #[] w (fun e w' => ∃ ao cap, e = .returned (.slice ao (flP 15).length cap) ∧ w'.ownsRow w.heap.size 36 3 (.slice ao (flP 15).length cap) (flP 15).length (flatf (flP 15)) ∧ Below w.heap.size w w') := by
  obtain ⟨i0, hi, hz0, hz1, hz2⟩ := info_parts infofR
  go_enter Try.func30, Try.ntmps30
  go_wp2_with fail
  go_loopw [1, 2] (fun o i wr => ∃ K : Nat, i = .int .i64 (K : Nat) ∧ 1 ≤ K ∧ K ≤ 6 ∧ wr.ownsRow w.heap.size 36 3 o (flP ((K - 1) * 3)).length (flatf (flP ((K - 1) * 3))) ∧ Below w.heap.size w wr) (fun _ i _ => 6 - (intOf i).toNat)
  case atStart => exact ⟨1, rfl, by omega, by omega, World.ownsRow_nil _ _ _ _, Below.refl _ _⟩
  case round =>
    obtain ⟨K, rfl, hK1, hK2, hown, hB⟩ := hrel
    have HO := Lib.hid hown
    obtain ⟨o, oc, rfl⟩ := ownsRow_form hown
    clear hown
    by_cases hk : K ≤ 5
    · have hk' : decide (((K : Nat) : Int) ≤ 5) = true := decide_eq_true (by omega)
      go_wp2_with fail
      try rw [hk']
      go_loopw [1, 3] (fun o i V => ∃ Lv : Nat, i = .int .i64 (Lv : Nat) ∧ Lv ≤ 3 ∧ V.ownsRow w.heap.size 36 3 o (flP ((K - 1) * 3 + Lv)).length (flatf (flP ((K - 1) * 3 + Lv))) ∧ Below w.heap.size w V) (fun _ i _ => 3 - (intOf i).toNat)
      case atStart => exact ⟨0, rfl, by omega, HO.out, hB⟩
      case round =>
        clear hB HO
        obtain ⟨Lv, rfl, hL, hown, hB⟩ := hrel
        obtain ⟨o', oc', rfl⟩ := ownsRow_form hown
        have hlen := flP_len ((K - 1) * 3 + Lv)
        have HO := Lib.hid hown
        have hBs := hB.size
        clear hown
        by_cases hlv : Lv < 3
        · have HS := Lib.hid (flP_succ K Lv hK1 hlv)
          have hll : (flP ((K - 1) * 3 + Lv)).length ≤ 60 := by omega
          generalize flP ((K - 1) * 3 + Lv) = F at HO HS hll
          clear hlen
          by_cases hc : decide (Lv = 0) = decide (K = 1 ∨ K = 2)
          · rw [if_pos hc] at HS
            have hc1 : (Lv = 0 ∧ (K = 1 ∨ K = 2)) ∨ (¬ Lv = 0 ∧ ¬ K = 1 ∧ ¬ K = 2) := by
              rw [decide_eq_decide] at hc
              omega
            clear hc
            rcases hc1 with ⟨c1, c2 | c2⟩ | ⟨c1, c2, c3⟩
            · have d1 : (((Lv : Nat) : Int) == 0) = true := by simp; omega
              have d2 : (((K : Nat) : Int) == 1) = true := by simp; omega
              clear c1 c2
              go_wp2_with (at_builtin; refine wpList_append_gen rfl (.tmp 21) (.tmp 28) 69 rfl w.heap.size 36 i0 (.agg #[.int .i64 0, .int .i64 0, .bool false]) 3 24 Try.underlying69 hi hz0 hz1 hz2 rfl (by decide) _ _ _ rfl (HO.out.alloc _) (some ⟨wr.heap.size, 0, none⟩) 2 2 [.int .i64 ((K : Nat) : Int), .int .i64 ((Lv : Nat) : Int), .bool false, .int .i64 ((K : Nat) : Int), .int .i64 ((Lv : Nat) : Int), .bool true] rfl (fun h => (by cases h)) rfl (fun ad h => (by cases h; exact six_new _ _ _ _ _ _ _ _)) (flatf_cells [⟨((K : Nat) : Int), ((Lv : Nat) : Int), false⟩, ⟨((K : Nat) : Int), ((Lv : Nat) : Int), true⟩]) (by unfold maxLen; omega) (by omega) (by simp; omega) ?_; intro a2 c2 w1 ho hg _; have G2 := Lib.hid ho; have B2 := Lib.hid ((hB.alloc hBs _).grown hg (by simp; omega) (fun k h => (HO.out.lt k h).1)); clear ho hg)
              go_roundw
              case rel => exact ⟨Lv + 1, by go_num, by omega, by rw [HS.out, flatf_append, List.length_append]; exact G2.out, B2.out⟩
              case measure => first | (simp [intOf]; done) | (simp [intOf]; omega)
            · have d1 : (((Lv : Nat) : Int) == 0) = true := by simp; omega
              have d2 : (((K : Nat) : Int) == 1) = false := by simp; omega
              have d3 : (((K : Nat) : Int) == 2) = true := by simp; omega
              clear c1 c2
              go_wp2_with (at_builtin; refine wpList_append_gen rfl (.tmp 21) (.tmp 28) 69 rfl w.heap.size 36 i0 (.agg #[.int .i64 0, .int .i64 0, .bool false]) 3 24 Try.underlying69 hi hz0 hz1 hz2 rfl (by decide) _ _ _ rfl (HO.out.alloc _) (some ⟨wr.heap.size, 0, none⟩) 2 2 [.int .i64 ((K : Nat) : Int), .int .i64 ((Lv : Nat) : Int), .bool false, .int .i64 ((K : Nat) : Int), .int .i64 ((Lv : Nat) : Int), .bool true] rfl (fun h => (by cases h)) rfl (fun ad h => (by cases h; exact six_new _ _ _ _ _ _ _ _)) (flatf_cells [⟨((K : Nat) : Int), ((Lv : Nat) : Int), false⟩, ⟨((K : Nat) : Int), ((Lv : Nat) : Int), true⟩]) (by unfold maxLen; omega) (by omega) (by simp; omega) ?_; intro a2 c2 w1 ho hg _; have G2 := Lib.hid ho; have B2 := Lib.hid ((hB.alloc hBs _).grown hg (by simp; omega) (fun k h => (HO.out.lt k h).1)); clear ho hg)
              go_roundw
              case rel => exact ⟨Lv + 1, by go_num, by omega, by rw [HS.out, flatf_append, List.length_append]; exact G2.out, B2.out⟩
              case measure => first | (simp [intOf]; done) | (simp [intOf]; omega)
            · have d1 : (((Lv : Nat) : Int) == 0) = false := by simp; omega
              have d2 : (((K : Nat) : Int) == 1) = false := by simp; omega
              have d3 : (((K : Nat) : Int) == 2) = false := by simp; omega
              clear c1 c2 c3
              go_wp2_with (at_builtin; refine wpList_append_gen rfl (.tmp 21) (.tmp 28) 69 rfl w.heap.size 36 i0 (.agg #[.int .i64 0, .int .i64 0, .bool false]) 3 24 Try.underlying69 hi hz0 hz1 hz2 rfl (by decide) _ _ _ rfl (HO.out.alloc _) (some ⟨wr.heap.size, 0, none⟩) 2 2 [.int .i64 ((K : Nat) : Int), .int .i64 ((Lv : Nat) : Int), .bool false, .int .i64 ((K : Nat) : Int), .int .i64 ((Lv : Nat) : Int), .bool true] rfl (fun h => (by cases h)) rfl (fun ad h => (by cases h; exact six_new _ _ _ _ _ _ _ _)) (flatf_cells [⟨((K : Nat) : Int), ((Lv : Nat) : Int), false⟩, ⟨((K : Nat) : Int), ((Lv : Nat) : Int), true⟩]) (by unfold maxLen; omega) (by omega) (by simp; omega) ?_; intro a2 c2 w1 ho hg _; have G2 := Lib.hid ho; have B2 := Lib.hid ((hB.alloc hBs _).grown hg (by simp; omega) (fun k h => (HO.out.lt k h).1)); clear ho hg)
              go_roundw
              case rel => exact ⟨Lv + 1, by go_num, by omega, by rw [HS.out, flatf_append, List.length_append]; exact G2.out, B2.out⟩
              case measure => first | (simp [intOf]; done) | (simp [intOf]; omega)
          · rw [if_neg hc, List.append_nil] at HS
            have hc1 : (Lv = 0 ∧ ¬ K = 1 ∧ ¬ K = 2) ∨ (¬ Lv = 0 ∧ K = 1) ∨ (¬ Lv = 0 ∧ K = 2) := by
              rw [decide_eq_decide] at hc
              omega
            clear hc
            rcases hc1 with ⟨c1, c2, c3⟩ | ⟨c1, c2⟩ | ⟨c1, c2⟩
            · have d1 : (((Lv : Nat) : Int) == 0) = true := by simp; omega
              have d2 : (((K : Nat) : Int) == 1) = false := by simp; omega
              have d3 : (((K : Nat) : Int) == 2) = false := by simp; omega
              clear c1 c2 c3
              go_wp2_with fail
              go_roundw
              case rel => exact ⟨Lv + 1, by go_num, by omega, by rw [HS.out]; exact HO.out, hB⟩
              case measure => first | (simp [intOf]; done) | (simp [intOf]; omega)
            · have d1 : (((Lv : Nat) : Int) == 0) = false := by simp; omega
              have d2 : (((K : Nat) : Int) == 1) = true := by simp; omega
              clear c1 c2
              go_wp2_with fail
              go_roundw
              case rel => exact ⟨Lv + 1, by go_num, by omega, by rw [HS.out]; exact HO.out, hB⟩
              case measure => first | (simp [intOf]; done) | (simp [intOf]; omega)
            · have d1 : (((Lv : Nat) : Int) == 0) = false := by simp; omega
              have d2 : (((K : Nat) : Int) == 1) = false := by simp; omega
              have d3 : (((K : Nat) : Int) == 2) = true := by simp; omega
              clear c1 c2
              go_wp2_with fail
              go_roundw
              case rel => exact ⟨Lv + 1, by go_num, by omega, by rw [HS.out]; exact HO.out, hB⟩
              case measure => first | (simp [intOf]; done) | (simp [intOf]; omega)
        · obtain rfl : Lv = 3 := by omega
          rw [show (K - 1) * 3 + 3 = (K + 1 - 1) * 3 by omega] at HO ⊢
          go_wp2_with fail
          go_roundw
          case rel => exact ⟨K + 1, by go_num, by omega, by omega, HO.out, hB⟩
          case measure => first | (simp [intOf]; done) | (simp [intOf]; omega)
    · obtain rfl : K = 6 := by omega
      go_wp2_with fail
      go_ret
      exact ⟨_, _, rfl, HO.out, hB⟩

end Go.Proofs.Ytogoclcjkekplaa
