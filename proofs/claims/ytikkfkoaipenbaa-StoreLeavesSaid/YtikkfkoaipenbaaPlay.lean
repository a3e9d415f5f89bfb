/- Changes, played: in plain Lean. -/
import Derived.Test.YtikkfkoaipenbaaPairsc
namespace Go.Proofs.Ytikkfkoaipenbaa

/-- A list without a number; one in which it has a thing. -/
def drpL (l : List (Int × Int)) (k : Int) : List (Int × Int) := l.filter fun p => decide (p.1 ≠ k)
def srtL (l : List (Int × Int)) : List (Int × Int) := l.foldl insL []

def mapStep (L : List (Int × Int)) (p : Bool × Int × Int) : List (Int × Int) := if p.1 = true then withoutL L p.2.1 else withL L p.2.1 p.2.2
def refStep (M : List (Int × Int)) (p : Bool × Int × Int) : List (Int × Int) := if p.1 = true then drpL M p.2.1 else drpL M p.2.1 ++ [(p.2.1, p.2.2)]

/-- A map, and a list of the same things. -/
structure Alike (L M : List (Int × Int)) : Prop where
  rise : Sorted L
  once : M.Pairwise fun a b => a.1 ≠ b.1
  same : ∀ p, p ∈ L ↔ p ∈ M

theorem mem_drp (M : List (Int × Int)) (k : Int) (p : Int × Int) : p ∈ drpL M k ↔ p.1 ≠ k ∧ p ∈ M := by
  unfold drpL
  rw [List.mem_filter]
  simp [and_comm]

theorem Alike.nil : Alike [] [] := ⟨List.Pairwise.nil, List.Pairwise.nil, fun _ => Iff.rfl⟩

theorem Alike.without {L M : List (Int × Int)} (h : Alike L M) (k : Int) : Alike (withoutL L k) (drpL M k) :=
  ⟨sorted_without h.rise k, h.once.sublist List.filter_sublist, fun p => by rw [mem_without L h.rise k p, mem_drp, h.same]⟩

theorem Alike.with {L M : List (Int × Int)} (h : Alike L M) (k v : Int) : Alike (withL L k v) (drpL M k ++ [(k, v)]) := by
  refine ⟨sorted_with h.rise k v, ?_, fun p => ?_⟩
  · rw [List.pairwise_append]
    refine ⟨h.once.sublist List.filter_sublist, List.pairwise_singleton _ _, ?_⟩
    intro a ha b hb
    simp at hb
    subst hb
    exact ((mem_drp M k a).1 ha).1
  · rw [mem_with L h.rise k v p, List.mem_append, mem_drp, h.same]
    simp only [List.mem_singleton]
    constructor
    · rintro (h | h)
      · exact .inr h
      · exact .inl h
    · rintro (h | h)
      · exact .inr h
      · exact .inl h

theorem Alike.step {L M : List (Int × Int)} (h : Alike L M) (p : Bool × Int × Int) : Alike (mapStep L p) (refStep M p) := by
  unfold mapStep refStep
  split
  · exact h.without _
  · exact h.with _ _

theorem Alike.play : ∀ (l : List (Bool × Int × Int)) {L M : List (Int × Int)}, Alike L M → Alike (l.foldl mapStep L) (l.foldl refStep M)
  | [], _, _, h => h
  | p :: l, _, _, h => Alike.play l (h.step p)

theorem once_last {M : List (Int × Int)} (h : M.Pairwise fun a b => a.1 ≠ b.1) {k v : Int} (hm : (k, v) ∈ M) : lastL M k = some v := by
  induction M with
  | nil => simp at hm
  | cons a M ih =>
    have h1 := (List.pairwise_cons.1 h).1
    have h2 := (List.pairwise_cons.1 h).2
    simp only [lastL]
    rcases List.mem_cons.1 hm with rfl | hm'
    · have : lastL M k = none := (lastL_none M k).2 fun p hp => fun e => h1 p hp e.symm
      rw [this]
      simp
    · rw [ih h2 hm']

/-- What a number has. -/
theorem Alike.get {L M : List (Int × Int)} (h : Alike L M) (k : Int) : getL L k = readL M k ∧ hasL L k = (lastL M k).isSome := by
  cases hh : hasL L k
  · have hn : lastL M k = none := (lastL_none M k).2 fun p hp e => by
      have : hasL L k = true := (has_mem L k).2 ⟨p.2, (h.same _).2 (by rw [← e]; exact hp)⟩
      rw [hh] at this
      cases this
    rw [get_no hh, readL, hn]
    exact ⟨rfl, rfl⟩
  · obtain ⟨v, hv⟩ := (has_mem L k).1 hh
    have hl := once_last h.once ((h.same _).1 hv)
    rw [get_mem h.rise hv, readL, hl]
    exact ⟨rfl, rfl⟩

theorem srt_gen : ∀ (M out : List (Int × Int)), Sorted out → (∀ p ∈ M, hasL out p.1 = false) → (M.Pairwise fun a b => a.1 ≠ b.1) → Sorted (M.foldl insL out) ∧ ∀ p, p ∈ M.foldl insL out ↔ p ∈ out ∨ p ∈ M
  | [], out, hs, _, _ => ⟨hs, fun p => by simp⟩
  | a :: M, out, hs, hf, hp => by
    have hfa := hf a (by simp)
    have hia := insL_with out a hfa
    have hs' : Sorted (insL out a) := by rw [hia]; exact sorted_with hs _ _
    have hm' : ∀ p, p ∈ insL out a ↔ p = a ∨ p ∈ out := fun p => by
      rw [hia, mem_with out hs]
      constructor
      · rintro (h | ⟨_, h⟩)
        · exact .inl h
        · exact .inr h
      · rintro (h | h)
        · exact .inl h
        · refine .inr ⟨fun e => ?_, h⟩
          have : hasL out a.1 = true := (has_mem out a.1).2 ⟨p.2, by rw [← e]; exact h⟩
          rw [hfa] at this
          cases this
    obtain ⟨g1, g2⟩ := srt_gen M (insL out a) hs' (fun p hpm => by
      rw [Bool.eq_false_iff, ne_eq, has_mem]
      rintro ⟨v, hv⟩
      rcases (hm' _).1 hv with h | h
      · exact (List.pairwise_cons.1 hp).1 p hpm (congrArg Prod.fst h).symm
      · have : hasL out p.1 = true := (has_mem out p.1).2 ⟨v, h⟩
        rw [hf p (by simp [hpm])] at this
        cases this) (List.pairwise_cons.1 hp).2
    refine ⟨g1, fun p => ?_⟩
    rw [List.foldl_cons, g2, hm', List.mem_cons]
    constructor
    · rintro ((h | h) | h)
      · exact .inr (.inl h)
      · exact .inl h
      · exact .inr (.inr h)
    · rintro (h | h | h)
      · exact .inl (.inr h)
      · exact .inl (.inl h)
      · exact .inr h

/-- The list, rising, is the map. -/
theorem Alike.sorted {L M : List (Int × Int)} (h : Alike L M) : srtL M = L := by
  obtain ⟨g1, g2⟩ := srt_gen M [] List.Pairwise.nil (fun p _ => rfl) h.once
  exact sorted_ext g1 h.rise fun p => by rw [srtL, g2, h.same]; simp

end Go.Proofs.Ytikkfkoaipenbaa
