/- Maps of package store: a store into a block of another kind leaves a map. -/
import Derived.Test.YtikkfkoaipenbaaMapid
import Derived.Test.YtikkfkoaipenbaaOwn
namespace Go.Proofs.Ytikkfkoaipenbaa
open Go.RowKit

theorem MapiIs.set {w : World} {ks vs : Value} {L : List (Int × Int)} (h : MapiIs w ks vs L) {B : Nat} {cs : Array Value} {t : TypeId} {fz : Nat × Nat} (hB : w.heap[B]? = some (.cells cs t fz)) (h1 : t ≠ 23) (h2 : t ≠ 3) (o : Nat) (u : Value) :
    MapiIs (w.setCell ⟨B, o, none⟩ u) ks vs L :=
  ⟨ownsRow_set_type h.keys hB h1 o u, ownsRow_set_type h.vals hB h2 o u⟩

end Go.Proofs.Ytikkfkoaipenbaa
