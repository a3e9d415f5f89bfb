/- Rows and stores elsewhere. Of whatever program. -/
import Derived.Test.YtdlodacogldinaaTwo
namespace Go.Proofs.Ytdlodacogldinaa
set_option linter.unusedSimpArgs false
set_option linter.unusedVariables false
open Go.RowKit

theorem cell_lt {w : World} {p : Addr} {v : Value} (h : w.cell? p = some v) : p.block < w.heap.size := by
  unfold World.cell? at h
  cases hb : w.heap[p.block]? with
  | none => simp [hb] at h
  | some o => exact (Array.getElem?_eq_some_iff.1 hb).1

theorem ownsRow_none' {w : World} {base : Nat} {e : TypeId} {size n cap : Nat} {xs : List Value} (h : w.ownsRow base e size (.slice none n cap) n xs) : n = 0 ∧ cap = 0 := by
  rcases h.2 with ⟨hv, rfl⟩ | ⟨g, c, _, hv, _⟩
  · simp only [Value.slice.injEq] at hv
    exact ⟨rfl, hv.2.2⟩
  · simp at hv
theorem ownsRow_atN {w : World} {base : Nat} {e : TypeId} {size n cap : Nat} {ad : Addr} {xs : List Value} (h : w.ownsRow base e size (.slice (some ad) n cap) n xs) : ∀ (j : Nat) (u : Value), xs[j]? = some u → w.cell? (ad.add j) = some u := by
  rcases h.2 with ⟨hv, _⟩ | ⟨g, c, _, hv, _⟩
  · simp at hv
  · simp only [Value.slice.injEq, Option.some.injEq] at hv
    obtain ⟨rfl, -, rfl⟩ := hv
    exact h.cells rfl
theorem ownsRow_capN {w : World} {base : Nat} {e : TypeId} {size : Nat} {ao : Option Addr} {n cap : Nat} {xs : List Value} (h : w.ownsRow base e size (.slice ao n cap) n xs) : n ≤ cap ∧ cap ≤ 9223372036854775807 := by
  rcases h.2 with ⟨hv, rfl⟩ | ⟨g, c, _, hv, _, _, h1, h2, _⟩
  · simp only [Value.slice.injEq] at hv
    exact ⟨Nat.zero_le _, by omega⟩
  · simp only [Value.slice.injEq] at hv
    obtain ⟨rfl, -, rfl⟩ := hv
    unfold maxLen at h2
    exact ⟨h1, h2⟩

/-- The first p of a row. -/
theorem ownsRow_take {w : World} {base : Nat} {e : TypeId} {size : Nat} {ao : Option Addr} {n cap : Nat} {xs : List Value} (h : w.ownsRow base e size (.slice ao n cap) n xs) {p : Nat} (hp : p ≤ n) : w.ownsRow base e size (.slice ao p cap) p (xs.take (p * size)) := by
  have hl := h.1
  have hm : p * size ≤ n * size := Nat.mul_le_mul_right _ hp
  refine ⟨by rw [List.length_take]; omega, ?_⟩
  rcases h.2 with ⟨hv, rfl⟩ | ⟨g, c, cur, hv, hg, hh, h1, h2, h3, h4⟩
  · simp only [Value.slice.injEq] at hv
    obtain ⟨rfl, -, rfl⟩ := hv
    obtain rfl : p = 0 := by omega
    exact .inl ⟨rfl, rfl⟩
  · simp only [Value.slice.injEq] at hv
    obtain ⟨rfl, -, rfl⟩ := hv
    refine .inr ⟨g, cap, cur, rfl, hg, hh, by omega, h2, h3, ?_⟩
    rw [← h4, List.take_take, Nat.min_eq_left hm]

/-- What is behind the first p, to be appended: however the walk spells its address. -/
theorem src_dropN {w : World} {base : Nat} {e : TypeId} {size : Nat} {ao : Option Addr} {n cap : Nat} {xs : List Value} (h : w.ownsRow base e size (.slice ao n cap) n xs) {p : Nat} (hp : p ≤ n) (A : Option Addr) (c : Nat)
    (hA : (A = ao ∧ cap = p) ∨ (A = Option.map (fun x => x.add (p * size)) ao ∧ ¬ cap = p)) (hc : c = cap - p) :
    (A = none → n - p = 0 ∧ c = 0) ∧ (xs.drop (p * size)).length = (n - p) * size ∧ ∀ ad, A = some ad → ∀ (j : Nat) (u : Value), (xs.drop (p * size))[j]? = some u → w.cell? (ad.add j) = some u := by
  have hl := h.1
  have hcap := ownsRow_capN h
  subst hc
  refine ⟨?_, by rw [List.length_drop, hl, Nat.sub_mul], ?_⟩
  · intro hn
    have : ao = none := by
      rcases hA with ⟨rfl, _⟩ | ⟨rfl, _⟩
      · exact hn
      · simpa using hn
    subst this
    obtain ⟨rfl, rfl⟩ := ownsRow_none' h
    exact ⟨by omega, by omega⟩
  · intro ad had j u hj
    rw [List.getElem?_drop] at hj
    have hlt := (List.getElem?_eq_some_iff.1 hj).1
    have hpn : ¬ cap = p := by
      rintro rfl
      obtain rfl : n = cap := by omega
      omega
    rcases hA with ⟨_, hA⟩ | ⟨hA, _⟩
    · exact absurd hA hpn
    · rw [hA] at had
      obtain ⟨a0, rfl, rfl⟩ := Option.map_eq_some_iff.1 had
      rw [Go.Deep.add_add]
      exact ownsRow_atN h (p * size + j) u hj

/-- A store into a block of another type leaves a row. -/
theorem ownsRow_set_type {w : World} {base : Nat} {e : TypeId} {size : Nat} {v : Value} {n : Nat} {xs : List Value} (h : w.ownsRow base e size v n xs) {B : Nat} {cs : Array Value} {t : TypeId} {fz : Nat × Nat}
    (hB : w.heap[B]? = some (.cells cs t fz)) (ht : t ≠ e) (o : Nat) (u : Value) : (w.setCell ⟨B, o, none⟩ u).ownsRow base e size v n xs := by
  obtain ⟨h1, h2⟩ := h
  refine ⟨h1, ?_⟩
  rcases h2 with h2 | ⟨g, cap, cur, hv, hg, hh, r⟩
  · exact Or.inl h2
  · refine Or.inr ⟨g, cap, cur, hv, hg, ?_, r⟩
    have hne : B ≠ g := by
      rintro rfl
      rw [hB] at hh
      simp only [Option.some.injEq, Obj.cells.injEq] at hh
      exact ht hh.2.1
    simp only [World.setCell, Array.getElem?_modify, if_neg hne]
    exact hh

/-- What a store leaves of a block. -/
theorem heap_setCell_cells {w : World} {B o : Nat} {u : Value} {cs : Array Value} {t : TypeId} {fz : Nat × Nat} (hB : w.heap[B]? = some (.cells cs t fz)) : (w.setCell ⟨B, o, none⟩ u).heap[B]? = some (.cells (cs.setIfInBounds o u) t fz) := by
  simp only [World.setCell, Array.getElem?_modify, if_true, hB, Option.map_some]
  rfl

/-- A new block, and the blocks that were there. -/
theorem heap_new (w : World) (o : Obj) (n : Nat) (h : n = w.heap.size) : (w.alloc o).heap[n]? = some o := by
  subst h
  simp only [World.alloc, Array.getElem?_push_size]
theorem heap_old (w : World) (o : Obj) (n : Nat) (x : Obj) (h : w.heap[n]? = some x) : (w.alloc o).heap[n]? = some x := by
  rw [((Below.refl w.heap.size w).alloc (Nat.le_refl _) o).block n (Array.getElem?_eq_some_iff.1 h).1]
  exact h

/-- What a block of cells says. -/
theorem block_cells {w : World} {B : Nat} {cs : Array Value} {t : TypeId} (h : w.heap[B]? = some (.cells cs t)) :
    (∀ o v, cs[o]? = some v → w.cell? ⟨B, o, none⟩ = some v) ∧ (∀ o, w.frozen? ⟨B, o, none⟩ = false) ∧ B < w.heap.size ∧ B ≠ w.heap.size := by
  have hl := (Array.getElem?_eq_some_iff.1 h).1
  refine ⟨fun o v hv => ?_, fun o => ?_, hl, Nat.ne_of_lt hl⟩
  · simp [World.cell?, h, hv]
  · simp [World.frozen?, h]

/-- .. behind a store. -/
theorem block_set {w : World} {B o : Nat} {u : Value} {cs cs' : Array Value} {t : TypeId} (h : w.heap[B]? = some (.cells cs t)) (e : cs.setIfInBounds o u = cs') : (w.setCell ⟨B, o, none⟩ u).heap[B]? = some (.cells cs' t) := by
  subst e
  exact heap_setCell_cells h
theorem block_else {w : World} {B B' o : Nat} {u : Value} {x : Obj} (h : w.heap[B]? = some x) (e : B' ≠ B) : (w.setCell ⟨B', o, none⟩ u).heap[B]? = some x := by
  simp only [World.setCell, Array.getElem?_modify, if_neg e]
  exact h

/-- Behind an append to a new row: what was owned, and is. -/
theorem ins_rest {w wr wa : World} {N : Nat} {e : TypeId} {size : Nat} {out : Value} {n : Nat} {xs : List Value} {o : Obj} (HO : wr.ownsRow N e size out n xs) (hN : N ≤ wr.heap.size) (hB : Below N w wr)
    (hg : (wr.alloc o).grownBy wa (some wr.heap.size)) : wa.ownsRow N e size out n xs ∧ Below N w wa ∧ wr.heap.size ≤ wa.heap.size ∧ (∀ k, out.ownBlock = some k → N ≤ k ∧ k < wr.heap.size) := by
  refine ⟨(HO.alloc o).kept hg ?_, (hB.alloc hN o).grown hg (by simp; omega) (fun k hk => ?_), ?_, HO.lt⟩
  · by_cases hv : out.ownBlock = none
    · exact .inl hv
    · obtain ⟨k, hk⟩ := Option.ne_none_iff_exists'.1 hv
      refine .inr fun e' => ?_
      have := (HO.lt k hk).2
      rw [hk] at e'
      cases e'
      omega
  · cases hk
    exact hN
  · have := hg.size
    simp at this
    omega

/-- Behind an append to the first row: the new row stays. -/
theorem ins_put {w wa wb : World} {N B : Nat} {e : TypeId} {size : Nat} {out rest : Value} {m : Nat} {ys : List Value} {o : Obj} (hr : wa.ownsRow B e size rest m ys) (hN : N ≤ wa.heap.size) (hB : Below N w wa)
    (hk : ∀ k, out.ownBlock = some k → N ≤ k ∧ k < B) (hg : (wa.alloc o).grownBy wb out.ownBlock) : wb.ownsRow B e size rest m ys ∧ Below N w wb ∧ wa.heap.size ≤ wb.heap.size := by
  refine ⟨(hr.alloc o).kept hg ?_, (hB.alloc hN o).grown hg (by simp; omega) (fun k h => (hk k h).1), ?_⟩
  · by_cases hv : rest.ownBlock = none
    · exact .inl hv
    · obtain ⟨k, hk'⟩ := Option.ne_none_iff_exists'.1 hv
      refine .inr fun e' => ?_
      have h1 := (hr.lt k hk').1
      have h2 := (hk k (by rw [← e', hk'])).2
      omega
  · have := hg.size
    simp at this
    omega

theorem two_new (w : World) (x y : Value) (e : TypeId) : ∀ (j : Nat) (u : Value), [x, y][j]? = some u → (w.alloc (.cells #[x, y] e)).cell? ((⟨w.heap.size, 0, none⟩ : Addr).add j) = some u := by
  intro j u hj
  match j, hj with
  | 0, hj => simp at hj; subst hj; simp [Addr.add]
  | 1, hj => simp at hj; subst hj; simp [Addr.add]

theorem two_new' (w : World) (x y : Value) (e : TypeId) (b : Nat) (hb : b = w.heap.size) : ∀ (j : Nat) (u : Value), [x, y][j]? = some u → (w.alloc (.cells #[x, y] e)).cell? ((⟨b, 0, none⟩ : Addr).add j) = some u := by
  subst hb
  exact two_new w x y e

end Go.Proofs.Ytdlodacogldinaa
