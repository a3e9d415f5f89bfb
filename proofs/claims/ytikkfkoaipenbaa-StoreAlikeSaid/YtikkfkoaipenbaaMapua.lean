/- Maps of package store: what they hold; the contract of find. -/
import Derived.Test.YtikkfkoaipenbaaBase
import Derived.Test.YtikkfkoaipenbaaProg
import Derived.Test.YtikkfkoaipenbaaPairs
import Derived.BigQuiet
import Derived.Deep.QuietTactic
namespace Go.Proofs.Ytikkfkoaipenbaa
open Go.RowKit

/-- A map's value holds these pairs. -/
structure MapuIs (w : World) (ks vs : Value) (L : List (Int × Int)) : Prop where
  keys : w.ownsRow 0 23 1 ks L.length (L.map fun p => .int .u64 p.1)
  vals : w.ownsRow 0 23 1 vs L.length (L.map fun p => .int .u64 p.2)

theorem MapuIs.below {w w' : World} {ks vs : Value} {L : List (Int × Int)} (h : MapuIs w ks vs L) (hb : Below w.heap.size w w') : MapuIs w' ks vs L :=
  ⟨ownsRow_below h.keys hb, ownsRow_below h.vals hb⟩

theorem MapuIs.nil (w : World) : MapuIs w (.slice none 0 0) (.slice none 0 0) [] := ⟨World.ownsRow_nil _ _ _ _, World.ownsRow_nil _ _ _ _⟩

/-- A key, where it lies. -/
theorem MapuIs.key {w : World} {vs : Value} {g cap n : Nat} {L : List (Int × Int)} (h : MapuIs w (.slice (some ⟨g, 0, none⟩) n cap) vs L) (j : Nat) (hj : j < L.length) : w.cell? ⟨g, j, none⟩ = some (.int .u64 (L[j].1)) := by
  have h1 := h.keys
  rcases h1.2 with ⟨hv, _⟩ | ⟨g', cap', cur, hv, _⟩
  · cases hv
  · simp only [Value.slice.injEq, Option.some.injEq, Addr.mk.injEq, and_true, true_and] at hv
    obtain ⟨rfl, rfl, rfl⟩ := hv
    rw [h1.cellAt j (by omega)]
    simp [hj]
theorem MapuIs.val {w : World} {ks : Value} {g cap n : Nat} {L : List (Int × Int)} (h : MapuIs w ks (.slice (some ⟨g, 0, none⟩) n cap) L) (j : Nat) (hj : j < L.length) : w.cell? ⟨g, j, none⟩ = some (.int .u64 (L[j].2)) := by
  have h1 := h.vals
  rcases h1.2 with ⟨hv, _⟩ | ⟨g', cap', cur, hv, _⟩
  · cases hv
  · simp only [Value.slice.injEq, Option.some.injEq, Addr.mk.injEq, and_true, true_and] at hv
    obtain ⟨rfl, rfl, rfl⟩ := hv
    rw [h1.cellAt j (by omega)]
    simp [hj]

theorem findu_nil (vs : Value) (k : Int) (w : World) :
    Calls Try.prog 46 #[.agg #[.slice none 0 0, vs], .int .u64 k] w (RetB (.tuple #[.int .i64 0, .bool false]) w) := by
  go_enter Try.func46, Try.ntmps46
  go_wp2_with fail
  go_quiet (fail)
  go_wp2_with fail
  go_loop [6, 7] (fun lo hi => lo = .int .i64 0 ∧ hi = .int .i64 0) (fun _ _ => 0)
  case atStart => exact ⟨rfl, rfl⟩
  case round =>
    obtain ⟨rfl, rfl⟩ := hrel
    go_wp2_with fail
    go_quiet (fail)
    go_wp2_with fail
    go_ret2
    exact ⟨rfl, by repeat' (first | with_reducible exact Below.refl _ _ | with_reducible assumption | with_reducible apply below_drewN | with_reducible apply Below.drew | with_reducible refine Below.setCell ?_ ?_ _ | with_reducible refine Below.alloc ?_ ?_ _ | omega | (simp; done) | (simp; omega))⟩

set_option maxHeartbeats 1000000 in
theorem findu_some (g cap : Nat) (vs : Value) (L : List (Int × Int)) (k : Int) (w : World) (hg : g < w.heap.size) (hm : MapuIs w (.slice (some ⟨g, 0, none⟩) L.length cap) vs L) (hs : Sorted L) (hlen : L.length ≤ 1000) :
    Calls Try.prog 46 #[.agg #[.slice (some ⟨g, 0, none⟩) L.length cap, vs], .int .u64 k] w (RetB (.tuple #[.int .i64 (posL L k : Nat), .bool (hasL L k)]) w) := by
  have hkey := Lib.hid hm.key
  have hpi := Lib.hid (pos_iff L k hs)
  have hhi := Lib.hid (has_iff L k hs)
  have hpl := posL_le L k
  have hne : g ≠ w.heap.size := Nat.ne_of_lt hg
  obtain ⟨n, hn⟩ : ∃ n, n = L.length := ⟨_, rfl⟩
  have HN := Lib.hid hn
  rw [← hn] at hlen hpl ⊢
  clear hn hs hm
  go_enter Try.func46, Try.ntmps46
  go_wp2_with fail
  go_quiet (fail)
  go_wp2_with fail
  go_loop [6, 7] (fun lo hi => ∃ a b : Nat, a ≤ posL L k ∧ posL L k ≤ b ∧ b ≤ n ∧ lo = .int .i64 a ∧ hi = .int .i64 b) (fun lo hi => (intOf hi - intOf lo).toNat)
  case atStart => exact ⟨0, n, by omega, by omega, by omega, rfl, rfl⟩
  case round =>
    obtain ⟨a, b, h1, h2, h3, rfl, rfl⟩ := hrel
    by_cases hlt : a < b
    · have hmid : (a + b) / 2 < L.length := by have := HN.out; omega
      have hc := hkey.out ((a + b) / 2) hmid
      have hp := hpi.out ((a + b) / 2) hmid
      generalize (L[(a + b) / 2]'hmid).1 = km at hc hp
      by_cases hk : km < k
      · have h4 := hp.1 hk
        clear hp hmid
        go_wp2_with fail
        go_round
        case rel => exact ⟨(a + b) / 2 + 1, b, by omega, h2, h3, by go_num, rfl⟩
        case measure => simp [intOf]; omega
      · have h4 : posL L k ≤ (a + b) / 2 := Nat.not_lt.1 (fun h => hk (hp.2 h))
        clear hp hmid
        go_wp2_with fail
        go_round
        case rel => exact ⟨a, (a + b) / 2, h1, h4, by omega, rfl, by go_num⟩
        case measure => simp [intOf]; omega
    · obtain rfl : a = b := by omega
      have hab : a = posL L k := by omega
      subst hab
      by_cases hp : posL L k < n
      · have hmid : posL L k < L.length := by have := HN.out; omega
        have hc := hkey.out (posL L k) hmid
        have hb : hasL L k = (L[posL L k].1 == k) := by
          rw [Bool.eq_iff_iff, hhi.out]
          simp [hmid]
        generalize (L[posL L k]'hmid).1 = kp at hc hb
        have HB := Lib.hid hb
        clear hb hmid
        go_wp2_with fail
        go_quiet (fail)
        go_wp2_with fail
        go_ret2
        exact ⟨by rw [HB.out]; rfl, by repeat' (first | with_reducible exact Below.refl _ _ | with_reducible assumption | with_reducible apply below_drewN | with_reducible apply Below.drew | with_reducible refine Below.setCell ?_ ?_ _ | with_reducible refine Below.alloc ?_ ?_ _ | omega | (simp; done) | (simp; omega))⟩
      · have hb : hasL L k = false := by
          rw [Bool.eq_false_iff, ne_eq, hhi.out]
          rintro ⟨h, _⟩
          have := HN.out
          omega
        have HB := Lib.hid hb
        have hd : decide (posL L k < n) = false := by simpa using hp
        clear hb
        go_wp2_with fail
        go_quiet (fail)
        go_wp2_with fail
        go_ret2
        exact ⟨by rw [HB.out]; rfl, by repeat' (first | with_reducible exact Below.refl _ _ | with_reducible assumption | with_reducible apply below_drewN | with_reducible apply Below.drew | with_reducible refine Below.setCell ?_ ?_ _ | with_reducible refine Below.alloc ?_ ?_ _ | omega | (simp; done) | (simp; omega))⟩

/-- THE CONTRACT OF find. -/
theorem findu_any (ks vs : Value) (L : List (Int × Int)) (k : Int) (w : World) (hm : MapuIs w ks vs L) (hs : Sorted L) (hlen : L.length ≤ 1000) :
    Calls Try.prog 46 #[.agg #[ks, vs], .int .u64 k] w (RetB (.tuple #[.int .i64 (posL L k : Nat), .bool (hasL L k)]) w) := by
  have hk := hm.keys
  rcases hk.2 with ⟨rfl, h0⟩ | ⟨g, cap, cur, rfl, _, hg, _⟩
  · obtain rfl := List.eq_nil_of_length_eq_zero h0
    exact findu_nil vs k w
  · exact findu_some g cap vs L k w (Array.getElem?_eq_some_iff.1 hg).1 hm hs hlen

end Go.Proofs.Ytikkfkoaipenbaa
