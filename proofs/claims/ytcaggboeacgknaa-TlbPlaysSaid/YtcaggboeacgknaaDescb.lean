/- Contracts of package desc's functions: those that make words and addresses. -/
import Derived.Test.YtcaggboeacgknaaDesc
namespace Go.Proofs.Ytcaggboeacgknaa
set_option linter.unusedSimpArgs false
set_option linter.unusedVariables false
open Go.RowKit



/-- May it be kept? -/
def keptB (d : D) : Bool := d.valid && !d.table && d.used

theorem kept_any (d : D) (w : World) : Calls Try.prog 37 #[descV d] w (RetB (.bool (keptB d)) w) := by
  obtain ⟨v, t, o, u, r, s, n⟩ := d
  simp only [descV]
  cases v <;> cases t <;> cases u
  all_goals
    go_enter Try.func37, Try.ntmps37
    go_wp2
    go_ret
    exact ⟨rfl, by repeat' (first | with_reducible exact Below.refl _ _ | with_reducible assumption | with_reducible apply below_drewN | with_reducible apply Below.drew | with_reducible refine Below.setCell ?_ ?_ _ | with_reducible refine Below.alloc ?_ ?_ _ | omega | (simp; done) | (simp; omega))⟩







end Go.Proofs.Ytcaggboeacgknaa
