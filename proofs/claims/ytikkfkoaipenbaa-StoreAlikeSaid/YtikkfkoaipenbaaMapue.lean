/- Maps of package store: a store into a block of another kind leaves a map. -/
import Derived.Test.YtikkfkoaipenbaaMapud
import Derived.Test.YtikkfkoaipenbaaOwn
namespace Go.Proofs.Ytikkfkoaipenbaa
open Go.RowKit

theorem MapuIs.set {w : World} {ks vs : Value} {L : List (Int × Int)} (h : MapuIs w ks vs L) {B : Nat} {cs : Array Value} {t : TypeId} {fz : Nat × Nat} (hB : w.heap[B]? = some (.cells cs t fz)) (h1 : t ≠ 23) (h2 : t ≠ 23) (o : Nat) (u : Value) :
    MapuIs (w.setCell ⟨B, o, none⟩ u) ks vs L :=
  ⟨ownsRow_set_type h.keys hB h1 o u, ownsRow_set_type h.vals hB h2 o u⟩

end Go.Proofs.Ytikkfkoaipenbaa
