/- Slices of records of two numbers. -/
import Derived.Test.YtikkfkoaipenbaaOwn
import Derived.Test.YtikkfkoaipenbaaProg
namespace Go.Proofs.Ytikkfkoaipenbaa
open Go.RowKit

/-- Records, laid flat. -/
def flatp (L : List (Int × Int)) : List Value := L.flatMap fun p => [.int .u64 p.1, .int .i64 p.2]
theorem flatp_len (L : List (Int × Int)) : (flatp L).length = L.length * 2 := by
  induction L with
  | nil => rfl
  | cons a L ih => simp only [flatp, List.flatMap_cons, List.length_append, List.length_cons, List.length_nil] at ih ⊢; omega
theorem flatp_append (L M : List (Int × Int)) : flatp (L ++ M) = flatp L ++ flatp M := by simp [flatp]
theorem flatp_one (x : Int × Int) : flatp [x] = [.int .u64 x.1, .int .i64 x.2] := rfl
theorem flatp_snoc (L : List (Int × Int)) (x : Int × Int) : flatp (L ++ [x]) = flatp L ++ [.int .u64 x.1, .int .i64 x.2] := by rw [flatp_append, flatp_one]
theorem flatp_take (L : List (Int × Int)) (n : Nat) : (flatp L).take (n * 2) = flatp (L.take n) := by
  induction L generalizing n with
  | nil => simp [flatp]
  | cons a L ih =>
    cases n with
    | zero => rfl
    | succ n =>
      rw [show (n + 1) * 2 = n * 2 + 2 by omega]
      simp only [flatp, List.flatMap_cons, List.cons_append, List.nil_append, List.take_succ_cons] at ih ⊢
      rw [ih]
theorem flatp_drop (L : List (Int × Int)) (n : Nat) : (flatp L).drop (n * 2) = flatp (L.drop n) := by
  induction L generalizing n with
  | nil => simp [flatp]
  | cons a L ih =>
    cases n with
    | zero => rfl
    | succ n =>
      rw [show (n + 1) * 2 = n * 2 + 2 by omega]
      simp only [flatp, List.flatMap_cons, List.cons_append, List.nil_append, List.drop_succ_cons] at ih ⊢
      rw [ih]
theorem flatp_at (L : List (Int × Int)) (j : Nat) (h : j < L.length) : (flatp L)[j * 2]? = some (.int .u64 L[j].1) ∧ (flatp L)[j * 2 + 1]? = some (.int .i64 L[j].2) := by
  induction L generalizing j with
  | nil => simp at h
  | cons a L ih =>
    cases j with
    | zero => exact ⟨rfl, rfl⟩
    | succ j =>
      have := ih j (by simpa using h)
      rw [show (j + 1) * 2 = j * 2 + 2 by omega]
      simpa [flatp] using this
theorem flatp_cells (L : List (Int × Int)) : ∀ u ∈ flatp L, u.oneCell' = true := by
  intro u hu
  unfold flatp at hu
  obtain ⟨p, _, hp⟩ := List.mem_flatMap.1 hu
  simp at hp
  rcases hp with rfl | rfl <;> rfl

/-- A slice of records, wherever it lies. -/
def Atp (w : World) (ao : Option Addr) (l : List (Int × Int)) : Prop :=
  (ao = none → l = []) ∧ ∀ ad, ao = some ad → ∀ (j : Nat) (u : Value), (flatp l)[j]? = some u → w.cell? (ad.add j) = some u

theorem Atp.pair {w : World} {ad : Addr} {l : List (Int × Int)} (h : Atp w (some ad) l) (j : Nat) (hj : j < l.length) :
    w.cell? (ad.add (j * 2)) = some (.int .u64 l[j].1) ∧ w.cell? ⟨(ad.add (j * 2)).block, (ad.add (j * 2)).off + 1, none⟩ = some (.int .i64 l[j].2) := by
  obtain ⟨h1, h2⟩ := flatp_at l j hj
  refine ⟨h.2 ad rfl _ _ h1, ?_⟩
  have := h.2 ad rfl _ _ h2
  rw [← Go.Deep.add_add] at this
  exact this

theorem Atp.below {w w' : World} {ao : Option Addr} {l : List (Int × Int)} (h : Atp w ao l) (hb : Below w.heap.size w w') : Atp w' ao l := by
  refine ⟨h.1, fun ad e j u hj => ?_⟩
  have := h.2 ad e j u hj
  rw [hb.cell (cell_lt this)]
  exact this

theorem Atp.take {w : World} {ao : Option Addr} {l : List (Int × Int)} (h : Atp w ao l) (n : Nat) : Atp w ao (l.take n) := by
  refine ⟨fun e => by rw [h.1 e]; simp, fun ad e j u hj => h.2 ad e j u ?_⟩
  rw [← flatp_take, List.getElem?_take] at hj
  split at hj
  · exact hj
  · cases hj

theorem Atp.of_row {w : World} {base : Nat} {ao : Option Addr} {n cap : Nat} {l : List (Int × Int)} (h : w.ownsRow base 49 2 (.slice ao n cap) n (flatp l)) : Atp w ao l := by
  have hl : l.length * 2 = n * 2 := by rw [← flatp_len]; exact h.1
  refine ⟨fun e => ?_, fun ad e j u hj => ?_⟩
  · subst e
    obtain ⟨rfl, -⟩ := ownsRow_none' h
    exact List.eq_nil_of_length_eq_zero (by omega)
  · subst e
    exact ownsRow_atN h j u hj

theorem infopR : (Try.prog.info? 49).map (fun i => (i.zero, i.size, i.bytes)) = some (some (.agg #[.int .u64 0, .int .i64 0]), 2, 16) := by kernel_rfl

/-- The call returns a slice of its own that holds these records. -/
def RetRowp (L : List (Int × Int)) (w : World) (e : Ending) (w' : World) : Prop :=
  ∃ ao cap, e = .returned (.slice ao L.length cap) ∧ w'.ownsRow w.heap.size 49 2 (.slice ao L.length cap) L.length (flatp L) ∧ Below w.heap.size w w'

end Go.Proofs.Ytikkfkoaipenbaa
