/- Maps of package store: Get, Len, With. -/
import Derived.Test.YtikkfkoaipenbaaMapua
import Derived.Test.YtikkfkoaipenbaaTwo
namespace Go.Proofs.Ytikkfkoaipenbaa
open Go.RowKit

theorem getu_any (ks vs : Value) (L : List (Int × Int)) (k : Int) (w : World) (hm : MapuIs w ks vs L) (hs : Sorted L) (hlen : L.length ≤ 1000) :
    Calls Try.prog 39 #[.agg #[ks, vs], .int .u64 k] w (RetB (.tuple #[.int .u64 (getL L k), .bool (hasL L k)]) w) := by
  cases hh : hasL L k
  · have HH := Lib.hid hh
    have HG := Lib.hid (show getL L k = 0 by unfold getL; rw [hh]; rfl)
    have HM := Lib.hid hm
    have HS := Lib.hid hs
    clear hh hm hs
    go_enter Try.func39, Try.ntmps39
    go_wp2_with fail
    refine (findu_any ks vs L k _ (HM.out.below (by repeat' (first | with_reducible exact Below.refl _ _ | with_reducible assumption | with_reducible apply below_drewN | with_reducible apply Below.drew | with_reducible refine Below.setCell ?_ ?_ _ | with_reducible refine Below.alloc ?_ ?_ _ | omega | (simp; done) | (simp; omega)))) HS.out hlen).mono ?_
    rintro e w1 ⟨rfl, hb⟩
    have B : Below w.heap.size w w1 := Below.trans (by repeat' (first | with_reducible exact Below.refl _ _ | with_reducible assumption | with_reducible apply below_drewN | with_reducible apply Below.drew | with_reducible refine Below.setCell ?_ ?_ _ | with_reducible refine Below.alloc ?_ ?_ _ | omega | (simp; done) | (simp; omega))) (hb.mono (by first | omega | (simp; done) | (simp; omega))); have Bz := B.size
    clear hb
    rw [HH.out]
    go_wp2_with fail
    go_ret2
    exact ⟨by rw [HG.out]; rfl, by repeat' (first | with_reducible exact Below.refl _ _ | with_reducible assumption | with_reducible apply below_drewN | with_reducible apply Below.drew | with_reducible refine Below.setCell ?_ ?_ _ | with_reducible refine Below.alloc ?_ ?_ _ | omega | (simp; done) | (simp; omega))⟩
  · have h1 := (has_iff L k hs).1 hh
    obtain ⟨hp, hkey⟩ := h1
    have hv := hm.vals
    rcases hv.2 with ⟨_, h0⟩ | ⟨g, cap, cur, rfl, _, hg, _⟩
    · omega
    · have hgl := (Array.getElem?_eq_some_iff.1 hg).1
      have hval := hm.val (posL L k) hp
      have HG := Lib.hid (show getL L k = L[posL L k].2 by unfold getL; rw [if_pos hh]; simp [hp])
      generalize (L[posL L k]'hp).2 = x at hval HG
      have HH := Lib.hid hh
      have HM := Lib.hid hm
      have HS := Lib.hid hs
      obtain ⟨n, hn⟩ : ∃ n, n = L.length := ⟨_, rfl⟩
      have HN := Lib.hid hn
      have hp' : posL L k < n := by rw [hn]; exact hp
      clear hh hm hs hkey hv hg hp hn
      rw [← HN.out]
      go_enter Try.func39, Try.ntmps39
      go_wp2_with fail
      refine (findu_any ks _ L k _ (by rw [HN.out]; exact HM.out.below (by repeat' (first | with_reducible exact Below.refl _ _ | with_reducible assumption | with_reducible apply below_drewN | with_reducible apply Below.drew | with_reducible refine Below.setCell ?_ ?_ _ | with_reducible refine Below.alloc ?_ ?_ _ | omega | (simp; done) | (simp; omega)))) HS.out hlen).mono ?_
      rintro e w1 ⟨rfl, hb⟩
      have B : Below w.heap.size w w1 := Below.trans (by repeat' (first | with_reducible exact Below.refl _ _ | with_reducible assumption | with_reducible apply below_drewN | with_reducible apply Below.drew | with_reducible refine Below.setCell ?_ ?_ _ | with_reducible refine Below.alloc ?_ ?_ _ | omega | (simp; done) | (simp; omega))) (hb.mono (by first | omega | (simp; done) | (simp; omega))); have Bz := B.size
      obtain ⟨k1, k2, k3, k4⟩ := keepB hb w.heap.size (by first | omega | (simp; done) | (simp; omega))
      have hc : w1.cell? ⟨g, posL L k, none⟩ = some (.int .u64 x) := by rw [B.cell (p := ⟨g, posL L k, none⟩) hgl]; exact hval
      clear hb hval
      rw [HH.out]
      go_wp2_with fail
      go_ret2
      exact ⟨by rw [HG.out]; rfl, by repeat' (first | with_reducible exact Below.refl _ _ | with_reducible assumption | with_reducible apply below_drewN | with_reducible apply Below.drew | with_reducible refine Below.setCell ?_ ?_ _ | with_reducible refine Below.alloc ?_ ?_ _ | omega | (simp; done) | (simp; omega))⟩

theorem lenu_any (ks vs : Value) (L : List (Int × Int)) (w : World) (hm : MapuIs w ks vs L) : Calls Try.prog 42 #[.agg #[ks, vs]] w (RetB (.int .i64 (L.length : Nat)) w) := by
  obtain ⟨ao, cap, rfl⟩ := ownsRow_form hm.keys
  clear hm
  go_enter Try.func42, Try.ntmps42
  go_wp2_with fail
  go_ret
  exact ⟨rfl, by repeat' (first | with_reducible exact Below.refl _ _ | with_reducible assumption | with_reducible apply below_drewN | with_reducible apply Below.drew | with_reducible refine Below.setCell ?_ ?_ _ | with_reducible refine Below.alloc ?_ ?_ _ | omega | (simp; done) | (simp; omega))⟩

end Go.Proofs.Ytikkfkoaipenbaa
