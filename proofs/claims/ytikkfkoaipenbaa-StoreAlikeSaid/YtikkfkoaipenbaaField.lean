/- Contracts of package field's and its reference's functions on parts of words. -/
import Derived.Test.YtikkfkoaipenbaaProg
import Derived.Test.YtikkfkoaipenbaaBase
import Derived.BigQuiet
import Derived.Deep.QuietTactic
namespace Go.Proofs.Ytikkfkoaipenbaa
open Go.RowKit



theorem mask_any (n : Int) (w : World) (h0 : 0 ≤ n) : Calls Try.prog 44 #[.int .i64 n] w (Ret (.int .u64 (maskZ n)) w) := by
  by_cases h : n < 64
  · have H := Lib.hid (mask_small h0 h)
    go_enter Try.func44, Try.ntmps44
    go_wp2
    go_ret
    exact ⟨by rw [← H.out]; rfl, rfl⟩
  · go_enter Try.func44, Try.ntmps44
    go_wp2
    go_ret
    refine ⟨?_, rfl⟩
    simp [maskZ]; omega







theorem aligned_any (a n : Int) (w : World) (ha : U64 a) : Calls Try.prog 37 #[.int .u64 a, .int .i64 n] w (Ret (.bool (alignedB a n)) w) := by
  by_cases h : n ≤ 0
  · go_enter Try.func37, Try.ntmps37
    go_wp2
    go_ret
    exact ⟨by simp [alignedB, h], rfl⟩
  · have H := Lib.hid (alignedB_eq (n := n) ha (by omega))
    go_enter Try.func37, Try.ntmps37
    go_wp2_with (go_at_call 44; refine (mask_any _ _ (by omega)).mono ?_; rintro e w' ⟨rfl, rfl⟩)
    go_ret
    exact ⟨by rw [← H.out]; rfl, rfl⟩





end Go.Proofs.Ytikkfkoaipenbaa
