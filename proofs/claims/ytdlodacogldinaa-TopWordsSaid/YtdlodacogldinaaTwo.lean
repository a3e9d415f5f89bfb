/- append of whatever source, at a plain operation and within a region that draws; two rows of the call's own that grow, held in a block of two cells. Of whatever program. -/
import Derived.Test.YtdlodacogldinaaBase
import Derived.Maps.AppendAt
import Derived.Deep.RegionLaw
import Derived.Deep.Slices
namespace Go.Proofs.Ytdlodacogldinaa
set_option linter.unusedSimpArgs false
set_option linter.unusedVariables false
open Go.RowKit

theorem ownsRow_form {w : World} {base : Nat} {e : TypeId} {size : Nat} {v : Value} {n : Nat} {xs : List Value} (h : w.ownsRow base e size v n xs) : ∃ ao cap, v = .slice ao n cap := by
  rcases h.2 with ⟨rfl, rfl⟩ | ⟨g, cap, _, rfl, _⟩
  · exact ⟨none, 0, rfl⟩
  · exact ⟨_, _, rfl⟩

theorem ownsRow_base {w : World} {base base' : Nat} {e : TypeId} {size : Nat} {v : Value} {n : Nat} {xs : List Value} (h : w.ownsRow base e size v n xs) (hb : base' ≤ base) : w.ownsRow base' e size v n xs := by
  refine ⟨h.1, ?_⟩
  rcases h.2 with hn | ⟨g, cap, cur, rfl, hg, r⟩
  · exact .inl hn
  · exact .inr ⟨g, cap, cur, rfl, by omega, r⟩

/-- What is owned stays owned where the blocks below N, its own among them, are as they were. -/
theorem ownsRow_belowN {w0 w w' : World} {N base : Nat} {e : TypeId} {size : Nat} {v : Value} {n : Nat} {xs : List Value} (h : w0.ownsRow base e size v n xs) (hN : w0.heap.size ≤ N) (hb : Below N w w') (hw : ∀ k, k < w0.heap.size → w.heap[k]? = w0.heap[k]?) : w'.ownsRow base e size v n xs := by
  refine ⟨h.1, ?_⟩
  rcases h.2 with hn | ⟨g, cap, cur, rfl, hg, hgg, rest⟩
  · exact .inl hn
  · have hlt := (Array.getElem?_eq_some_iff.1 hgg).1
    exact .inr ⟨g, cap, cur, rfl, hg, by rw [hb.block g (by omega), hw g hlt]; exact hgg, rest⟩

section
variable {P : Program}

/-- THE LAW: whatever is appended: nil, nothing, or cells that lie somewhere. -/
theorem run_append_gen (w : World) (base : Nat) (t ty e : TypeId) (i : TypeInfo) (z : Value) (size bytes : Nat) (ht : P.underlying t = some (.slice e)) (hi : P.info? e = some i) (hz : i.zero = some z)
    (hsize : i.size = size) (hby : i.bytes = bytes) (hzs : z.cells.size = size) (hsz : 0 < size)
    (v : Value) (n : Nat) (xs : List Value) (hown : w.ownsRow base e size v n xs)
    (ao : Option Addr) (m c : Nat) (news : List Value) (hnone : ao = none → m = 0 ∧ c = 0) (hl : news.length = m * size) (hnews : ∀ ad, ao = some ad → ∀ j u, news[j]? = some u → w.cell? (ad.add j) = some u) (h1 : ∀ u ∈ news, u.oneCell' = true)
    (h63 : n + m ≤ maxLen) (hbytes : (n + m) * bytes ≤ 140737488355328) (hbase : base ≤ w.heap.size) :
    ∃ ao' cap' w', (Builtin.append_ #[t, t] ty #[v, .slice ao m c]).run P w = .ok (.slice ao' (n + m) cap') w' ∧ w'.ownsRow base e size (.slice ao' (n + m) cap') (n + m) (xs ++ news) ∧ w.grownBy w' v.ownBlock ∧
      ((Value.slice ao' (n + m) cap').ownBlock = v.ownBlock ∨ (Value.slice ao' (n + m) cap').ownBlock = some w.heap.size) := by
  cases ao with
  | some ad =>
    obtain ⟨v', w', hr, h2, h3, _, h5⟩ := run_append_own_at (P := P) w base t ty e i z size bytes ht hi hz hsize hby hzs hsz v n xs hown ad m c news hl (hnews ad rfl) h1 h63 hbytes hbase
    obtain ⟨ao', cap', rfl⟩ := ownsRow_form h2
    exact ⟨ao', cap', w', hr, h2, h3, h5⟩
  | none =>
    obtain ⟨rfl, rfl⟩ := hnone rfl
    obtain rfl : news = [] := List.eq_nil_of_length_eq_zero (by simpa using hl)
    obtain ⟨ao', cap', rfl⟩ := ownsRow_form hown
    exact ⟨ao', cap', w, run_append_owned_none (P := P) w base t ty e i size ht hi _ n xs hown, by simpa using hown, World.grownBy.refl _ _, .inl rfl⟩

theorem wp_append_gen {o : Oper} {a : Act} {w : World} {K : Act → World → Prop} {Q : Exit → Act → World → Prop} (s x : Operand) (t : TypeId)
    (ho : o.op = .call { callee := .builtin .append, args := #[s, x], argTypes := #[t, t] })
    (base : Nat) (e : TypeId) (i : TypeInfo) (z : Value) (size bytes : Nat) (ht : P.underlying t = some (.slice e)) (hi : P.info? e = some i) (hz : i.zero = some z)
    (hsize : i.size = size) (hby : i.bytes = bytes) (hzs : z.cells.size = size) (hsz : 0 < size)
    (v : Value) (n : Nat) (xs : List Value) (hs : a.eval s = v) (hown : w.ownsRow base e size v n xs)
    (ao : Option Addr) (m c : Nat) (news : List Value) (hx : a.eval x = .slice ao m c) (hnone : ao = none → m = 0 ∧ c = 0) (hl : news.length = m * size) (hnews : ∀ ad, ao = some ad → ∀ j u, news[j]? = some u → w.cell? (ad.add j) = some u) (h1 : ∀ u ∈ news, u.oneCell' = true)
    (h63 : n + m ≤ maxLen) (hbytes : (n + m) * bytes ≤ 140737488355328) (hbase : base ≤ w.heap.size)
    (hK : ∀ ao' cap' w', w'.ownsRow base e size (.slice ao' (n + m) cap') (n + m) (xs ++ news) → w.grownBy w' v.ownBlock →
      ((Value.slice ao' (n + m) cap').ownBlock = v.ownBlock ∨ (Value.slice ao' (n + m) cap').ownBlock = some w.heap.size) → K (a.put o.dst (.slice ao' (n + m) cap')) w') : o.wp P a w K Q := by
  obtain ⟨ao', cap', w', hrun, r1, r2, r3⟩ := run_append_gen (P := P) w base t o.type e i z size bytes ht hi hz hsize hby hzs hsz v n xs hown ao m c news hnone hl hnews h1 h63 hbytes hbase
  unfold Oper.wp
  simp [execOp, ho, resolve, invoke, builtin, hs, hx, hrun, Result.andThen]
  exact hK _ _ _ r1 r2 r3

theorem wpList_append_gen {ops : Array Oper} {rest : List Oper} {o : Oper} {a : Act} {w : World} {Q : Exit → Act → World → Prop} (hgd : o.guard = none) (s x : Operand) (t : TypeId)
    (ho : o.op = .call { callee := .builtin .append, args := #[s, x], argTypes := #[t, t] })
    (base : Nat) (e : TypeId) (i : TypeInfo) (z : Value) (size bytes : Nat) (ht : P.underlying t = some (.slice e)) (hi : P.info? e = some i) (hz : i.zero = some z)
    (hsize : i.size = size) (hby : i.bytes = bytes) (hzs : z.cells.size = size) (hsz : 0 < size)
    (v : Value) (n : Nat) (xs : List Value) (hs : a.eval s = v) (hown : w.ownsRow base e size v n xs)
    (ao : Option Addr) (m c : Nat) (news : List Value) (hx : a.eval x = .slice ao m c) (hnone : ao = none → m = 0 ∧ c = 0) (hl : news.length = m * size) (hnews : ∀ ad, ao = some ad → ∀ j u, news[j]? = some u → w.cell? (ad.add j) = some u) (h1 : ∀ u ∈ news, u.oneCell' = true)
    (h63 : n + m ≤ maxLen) (hbytes : (n + m) * bytes ≤ 140737488355328) (hbase : base ≤ w.heap.size)
    (hK : ∀ ao' cap' w', w'.ownsRow base e size (.slice ao' (n + m) cap') (n + m) (xs ++ news) → w.grownBy w' v.ownBlock →
      ((Value.slice ao' (n + m) cap').ownBlock = v.ownBlock ∨ (Value.slice ao' (n + m) cap').ownBlock = some w.heap.size) → wpList P ops Q rest (a.put o.dst (.slice ao' (n + m) cap')) w') :
    wpList P ops Q (o :: rest) a w := by
  refine wpList_plain hgd fun K hK' => ?_
  exact wp_append_gen s x t ho base e i z size bytes ht hi hz hsize hby hzs hsz v n xs hs hown ao m c news hx hnone hl hnews h1 h63 hbytes hbase (fun ao' cap' w' r1 r2 r3 => hK' _ _ (hK ao' cap' w' r1 r2 r3))

theorem step_append_gen {ops : Array Oper} {o : Oper} {a : Act} {w : World} {K : Act → World → Prop} {Q : Exit → Act → World → Prop} {E : Prop} (hgd : o.guard = none) (s x : Operand) (t : TypeId)
    (ho : o.op = .call { callee := .builtin .append, args := #[s, x], argTypes := #[t, t] })
    (base : Nat) (e : TypeId) (i : TypeInfo) (z : Value) (size bytes : Nat) (ht : P.underlying t = some (.slice e)) (hi : P.info? e = some i) (hz : i.zero = some z)
    (hsize : i.size = size) (hby : i.bytes = bytes) (hzs : z.cells.size = size) (hsz : 0 < size)
    (v : Value) (n : Nat) (xs : List Value) (hs : a.eval s = v) (hown : w.ownsRow base e size v n xs)
    (ao : Option Addr) (m c : Nat) (news : List Value) (hx : a.eval x = .slice ao m c) (hnone : ao = none → m = 0 ∧ c = 0) (hl : news.length = m * size) (hnews : ∀ ad, ao = some ad → ∀ j u, news[j]? = some u → w.cell? (ad.add j) = some u) (h1 : ∀ u ∈ news, u.oneCell' = true)
    (h63 : n + m ≤ maxLen) (hbytes : (n + m) * bytes ≤ 140737488355328) (hbase : base ≤ w.heap.size)
    (hK : ∀ ao' cap' w', w'.ownsRow base e size (.slice ao' (n + m) cap') (n + m) (xs ++ news) → w.grownBy w' v.ownBlock →
      ((Value.slice ao' (n + m) cap').ownBlock = v.ownBlock ∨ (Value.slice ao' (n + m) cap').ownBlock = some w.heap.size) → K (a.put o.dst (.slice ao' (n + m) cap')) w') :
    if Region.wanted o (yielded ops a.tmps) = true then Oper.wp P o a w K Q else E := by
  have hw : Region.wanted o (yielded ops a.tmps) = true := by simp [Region.wanted, hgd]
  rw [if_pos hw]
  exact wp_append_gen s x t ho base e i z size bytes ht hi hz hsize hby hzs hsz v n xs hs hown ao m c news hx hnone hl hnews h1 h63 hbytes hbase hK
end

/-- Two values that own no row together. -/
def Apart (v1 v2 : Value) : Prop := ∀ k, v1.ownBlock = some k → v2.ownBlock ≠ some k
theorem Apart.symm {v1 v2 : Value} (h : Apart v1 v2) : Apart v2 v1 := fun k h2 h1 => h k h1 h2

theorem ownsRow_cap {w : World} {base : Nat} {e : TypeId} {size : Nat} {ao : Option Addr} {n cap : Nat} {xs : List Value} (h : w.ownsRow base e size (.slice ao n cap) n xs) : n ≤ cap ∧ cap ≤ 9223372036854775807 := by
  rcases h.2 with ⟨hv, rfl⟩ | ⟨g, c, _, hv, _, _, h1, h2, _⟩
  · simp only [Value.slice.injEq] at hv
    exact ⟨Nat.zero_le _, by omega⟩
  · simp only [Value.slice.injEq] at hv
    obtain ⟨rfl, -, rfl⟩ := hv
    unfold maxLen at h2
    exact ⟨h1, h2⟩

theorem ownsRow_none {w : World} {base : Nat} {e : TypeId} {size : Nat} {n cap : Nat} {xs : List Value} (h : w.ownsRow base e size (.slice none n cap) n xs) : n = 0 ∧ cap = 0 := by
  rcases h.2 with ⟨hv, rfl⟩ | ⟨g, c, _, hv, _⟩
  · simp only [Value.slice.injEq] at hv
    exact ⟨rfl, hv.2.2⟩
  · simp at hv

theorem ownsRow_at {w : World} {base : Nat} {e : TypeId} {n cap : Nat} {ad : Addr} {xs : List Value} (h : w.ownsRow base e 1 (.slice (some ad) n cap) n xs) : ∀ (j : Nat) (u : Value), xs[j]? = some u → w.cell? (ad.add j) = some u := by
  rcases h.2 with ⟨hv, _⟩ | ⟨g, c, _, hv, _⟩
  · simp at hv
  · simp only [Value.slice.injEq, Option.some.injEq] at hv
    obtain ⟨rfl, -, rfl⟩ := hv
    exact h.cells rfl

/-- The first p of a row, to be appended. -/
theorem src_take {w : World} {base : Nat} {e : TypeId} {ao : Option Addr} {n cap : Nat} {xs : List Value} (h : w.ownsRow base e 1 (.slice ao n cap) n xs) {p : Nat} (hp : p ≤ n) :
    (ao = none → p = 0 ∧ cap = 0) ∧ (xs.take p).length = p * 1 ∧ ∀ ad, ao = some ad → ∀ (j : Nat) (u : Value), (xs.take p)[j]? = some u → w.cell? (ad.add j) = some u := by
  have hl := h.1
  refine ⟨?_, by rw [List.length_take]; omega, ?_⟩
  · rintro rfl
    obtain ⟨rfl, rfl⟩ := ownsRow_none h
    exact ⟨by omega, rfl⟩
  · rintro ad rfl j u hj
    rw [List.getElem?_take] at hj
    split at hj
    · exact ownsRow_at h j u hj
    · cases hj

/-- What is behind the first p. -/
theorem src_drop {w : World} {base : Nat} {e : TypeId} {ao : Option Addr} {n cap : Nat} {xs : List Value} (h : w.ownsRow base e 1 (.slice ao n cap) n xs) {p : Nat} (hp : p ≤ n) :
    ((if cap = p then ao else Option.map (fun x => x.add p) ao) = none → n - p = 0 ∧ cap - p = 0) ∧ (xs.drop p).length = (n - p) * 1 ∧
      ∀ ad, (if cap = p then ao else Option.map (fun x => x.add p) ao) = some ad → ∀ (j : Nat) (u : Value), (xs.drop p)[j]? = some u → w.cell? (ad.add j) = some u := by
  have hl := h.1
  have hc := ownsRow_cap h
  refine ⟨?_, by rw [List.length_drop]; omega, ?_⟩
  · intro hn
    have : ao = none := by split at hn <;> simp_all
    subst this
    obtain ⟨rfl, rfl⟩ := ownsRow_none h
    exact ⟨by omega, by omega⟩
  · intro ad had j u hj
    rw [List.getElem?_drop] at hj
    have hlt := (List.getElem?_eq_some_iff.1 hj).1
    rw [if_neg (by omega)] at had
    obtain ⟨a0, rfl, rfl⟩ := Option.map_eq_some_iff.1 had
    rw [Go.Deep.add_add]
    exact ownsRow_at h (p + j) u hj

theorem src_takeA {w : World} {base : Nat} {e : TypeId} {ao : Option Addr} {n cap : Nat} {xs : List Value} (h : w.ownsRow base e 1 (.slice ao n cap) n xs) {p : Nat} (hp : p ≤ n) (c : Nat) (hc : c = cap) : ao = none → p = 0 ∧ c = 0 := by
  subst hc; exact (src_take h hp).1

/-- .. however the walk spells its address. -/
theorem src_dropA {w : World} {base : Nat} {e : TypeId} {ao : Option Addr} {n cap : Nat} {xs : List Value} (h : w.ownsRow base e 1 (.slice ao n cap) n xs) {p : Nat} (hp : p ≤ n) (A : Option Addr) (c : Nat)
    (hA : (A = ao ∧ cap = p) ∨ (A = Option.map (fun x => x.add p) ao ∧ ¬ cap = p)) (hc : c = cap - p) :
    (A = none → n - p = 0 ∧ c = 0) ∧ (xs.drop p).length = (n - p) * 1 ∧ ∀ ad, A = some ad → ∀ (j : Nat) (u : Value), (xs.drop p)[j]? = some u → w.cell? (ad.add j) = some u := by
  have hs := src_drop h hp
  subst hc
  rcases hA with ⟨rfl, hA⟩ | ⟨rfl, hA⟩
  · rwa [if_pos hA] at hs
  · rwa [if_neg hA] at hs

/-- Two rows of the call's own, their values in the block B of two cells; below N nothing has turned since w0. -/
structure Two (w0 : World) (N B base : Nat) (e1 e2 : TypeId) (wr : World) (v1 v2 : Value) (n1 n2 : Nat) (xs1 xs2 : List Value) : Prop where
  below : Below N w0 wr
  nb : N ≤ B
  bb : B < base
  size : base ≤ wr.heap.size
  own1 : wr.ownsRow base e1 1 v1 n1 xs1
  own2 : wr.ownsRow base e2 1 v2 n2 xs2
  apart : Apart v1 v2
  c1 : wr.cell? ⟨B, 0, none⟩ = some v1
  c2 : wr.cell? ⟨B, 1, none⟩ = some v2
  f1 : wr.frozen? ⟨B, 0, none⟩ = false
  f2 : wr.frozen? ⟨B, 1, none⟩ = false

/-- .. whatever their addresses and capacities. -/
def ExTwo (w0 : World) (N B base : Nat) (e1 e2 : TypeId) (n1 n2 : Nat) (xs1 xs2 : List Value) (wr : World) : Prop :=
  ∃ a1 c1 a2 c2, Two w0 N B base e1 e2 wr (.slice a1 n1 c1) (.slice a2 n2 c2) n1 n2 xs1 xs2

section
variable {w0 : World} {N B base : Nat} {e1 e2 : TypeId} {wr : World} {v1 v2 : Value} {n1 n2 : Nat} {xs1 xs2 : List Value}

/-- A new block. -/
theorem Two.alloc (h : Two w0 N B base e1 e2 wr v1 v2 n1 n2 xs1 xs2) (o : Obj) : Two w0 N B base e1 e2 (wr.alloc o) v1 v2 n1 n2 xs1 xs2 := by
  have hB : B < wr.heap.size := Nat.lt_of_lt_of_le h.bb h.size
  have hb : Below wr.heap.size wr (wr.alloc o) := (Below.refl _ _).alloc (Nat.le_refl _) o
  exact ⟨h.below.alloc (by have := h.nb; omega) o, h.nb, h.bb, Nat.le_trans h.size (by simp), h.own1.alloc o, h.own2.alloc o, h.apart, by rw [hb.cell (p := ⟨B, 0, none⟩) hB]; exact h.c1, by rw [hb.cell (p := ⟨B, 1, none⟩) hB]; exact h.c2,
    by rw [hb.frozen (p := ⟨B, 0, none⟩) hB]; exact h.f1, by rw [hb.frozen (p := ⟨B, 1, none⟩) hB]; exact h.f2⟩

theorem Two.drew (h : Two w0 N B base e1 e2 wr v1 v2 n1 n2 xs1 xs2) : Two w0 N B base e1 e2 wr.drew v1 v2 n1 n2 xs1 xs2 :=
  ⟨h.below.drew, h.nb, h.bb, h.size, h.own1, h.own2, h.apart, h.c1, h.c2, h.f1, h.f2⟩

/-- The first row has grown: the world behind the append, its value not yet stored. -/
theorem Two.grown1 (h : Two w0 N B base e1 e2 wr v1 v2 n1 n2 xs1 xs2) {wa : World} (hg : wr.grownBy wa v1.ownBlock) :
    Below N w0 wa ∧ base ≤ wa.heap.size ∧ wa.cell? ⟨B, 0, none⟩ = some v1 ∧ wa.cell? ⟨B, 1, none⟩ = some v2 ∧ wa.frozen? ⟨B, 0, none⟩ = false ∧ wa.frozen? ⟨B, 1, none⟩ = false ∧ wa.ownsRow base e2 1 v2 n2 xs2 := by
  have hB : B < wr.heap.size := Nat.lt_of_lt_of_le h.bb h.size
  have hne : some B ≠ v1.ownBlock := fun e => by have := (h.own1.lt B e.symm).1; have := h.bb; omega
  have hk := hg.block B hB hne
  refine ⟨h.below.grown hg (by have := h.nb; omega) (fun k hk => by have := (h.own1.lt k hk).1; have := h.nb; have := h.bb; omega), Nat.le_trans h.size hg.size, ?_, ?_, ?_, ?_, ?_⟩
  · rw [World.cell?_of_block (w := wr) (a := ⟨B, 0, none⟩) hk]; exact h.c1
  · rw [World.cell?_of_block (w := wr) (a := ⟨B, 1, none⟩) hk]; exact h.c2
  · rw [World.frozen?_of_block (w := wr) (a := ⟨B, 0, none⟩) hk]; exact h.f1
  · rw [World.frozen?_of_block (w := wr) (a := ⟨B, 1, none⟩) hk]; exact h.f2
  · exact h.own2.kept hg (by
      by_cases hv : v2.ownBlock = none
      · exact .inl hv
      · exact .inr (fun e => by
          obtain ⟨k, hk⟩ := Option.ne_none_iff_exists'.1 hv
          exact h.apart k (by rw [← e, hk]) hk))

theorem Two.grown2 (h : Two w0 N B base e1 e2 wr v1 v2 n1 n2 xs1 xs2) {wa : World} (hg : wr.grownBy wa v2.ownBlock) :
    Below N w0 wa ∧ base ≤ wa.heap.size ∧ wa.cell? ⟨B, 0, none⟩ = some v1 ∧ wa.cell? ⟨B, 1, none⟩ = some v2 ∧ wa.frozen? ⟨B, 0, none⟩ = false ∧ wa.frozen? ⟨B, 1, none⟩ = false ∧ wa.ownsRow base e1 1 v1 n1 xs1 := by
  have hB : B < wr.heap.size := Nat.lt_of_lt_of_le h.bb h.size
  have hne : some B ≠ v2.ownBlock := fun e => by have := (h.own2.lt B e.symm).1; have := h.bb; omega
  have hk := hg.block B hB hne
  refine ⟨h.below.grown hg (by have := h.nb; omega) (fun k hk => by have := (h.own2.lt k hk).1; have := h.nb; have := h.bb; omega), Nat.le_trans h.size hg.size, ?_, ?_, ?_, ?_, ?_⟩
  · rw [World.cell?_of_block (w := wr) (a := ⟨B, 0, none⟩) hk]; exact h.c1
  · rw [World.cell?_of_block (w := wr) (a := ⟨B, 1, none⟩) hk]; exact h.c2
  · rw [World.frozen?_of_block (w := wr) (a := ⟨B, 0, none⟩) hk]; exact h.f1
  · rw [World.frozen?_of_block (w := wr) (a := ⟨B, 1, none⟩) hk]; exact h.f2
  · exact h.own1.kept hg (by
      by_cases hv : v1.ownBlock = none
      · exact .inl hv
      · exact .inr (fun e => by
          obtain ⟨k, hk⟩ := Option.ne_none_iff_exists'.1 hv
          exact h.apart k hk (by rw [← e, hk])))

theorem frozen_setCell (w : World) (a b : Addr) (v : Value) : (w.setCell a v).frozen? b = w.frozen? b := by
  by_cases h : b.block = a.block
  · simp only [World.frozen?, World.setCell, Array.getElem?_modify, h, if_true]
    cases hb : w.heap[a.block]? with
    | none => rfl
    | some o => cases o <;> rfl
  · simp only [World.frozen?, World.setCell, Array.getElem?_modify, if_neg (Ne.symm h)]

theorem cell_setCell_same (w : World) (B o : Nat) (u v : Value) (h : w.cell? ⟨B, o, none⟩ = some u) : (w.setCell ⟨B, o, none⟩ v).cell? ⟨B, o, none⟩ = some v := by
  have := h
  unfold World.cell? at h
  simp only [World.cell?, World.setCell, Array.getElem?_modify, if_true]
  cases hb : w.heap[B]? with
  | none => simp [hb] at h
  | some ob =>
    rw [hb] at h
    cases ob <;> simp at h ⊢
    have hlt := (Array.getElem?_eq_some_iff.1 h).1
    simp [hlt]

theorem cell_setCell_far (w : World) (B o o' : Nat) (v : Value) (h : o ≠ o') : (w.setCell ⟨B, o, none⟩ v).cell? ⟨B, o', none⟩ = w.cell? ⟨B, o', none⟩ := by
  simp only [World.cell?, World.setCell, Array.getElem?_modify, if_true]
  cases hb : w.heap[B]? with
  | none => rfl
  | some ob =>
    cases ob <;> simp
    rw [Array.getElem?_setIfInBounds_ne h]

/-- .. and behind the store. -/
theorem Two.stored1 (h : Two w0 N B base e1 e2 wr v1 v2 n1 n2 xs1 xs2) {wa : World} {v1' : Value} {m : Nat} {news : List Value} (hg : wr.grownBy wa v1.ownBlock) (ho : wa.ownsRow base e1 1 v1' (n1 + m) (xs1 ++ news))
    (hat : v1'.ownBlock = v1.ownBlock ∨ v1'.ownBlock = some wr.heap.size) : Two w0 N B base e1 e2 (wa.setCell ⟨B, 0, none⟩ v1') v1' v2 (n1 + m) n2 (xs1 ++ news) xs2 := by
  obtain ⟨g1, g2, g3, g4, g5, g6, g7⟩ := h.grown1 hg
  refine ⟨g1.setCell h.nb _, h.nb, h.bb, by simpa [World.setCell] using g2, ?_, ownsRow_setCell_below g7 h.bb _, ?_, cell_setCell_same _ _ _ _ _ g3, by rw [cell_setCell_far _ _ _ _ _ (by decide)]; exact g4, by rw [frozen_setCell]; exact g5, by rw [frozen_setCell]; exact g6⟩
  · exact ownsRow_setCell_below ho h.bb _
  · intro k hk
    rcases hat with e | e
    · exact h.apart k (by rw [← e]; exact hk)
    · intro e2'
      have := (h.own2.lt k e2').2
      rw [e] at hk
      have := Option.some.inj hk
      omega

theorem Two.stored2 (h : Two w0 N B base e1 e2 wr v1 v2 n1 n2 xs1 xs2) {wa : World} {v2' : Value} {m : Nat} {news : List Value} (hg : wr.grownBy wa v2.ownBlock) (ho : wa.ownsRow base e2 1 v2' (n2 + m) (xs2 ++ news))
    (hat : v2'.ownBlock = v2.ownBlock ∨ v2'.ownBlock = some wr.heap.size) : Two w0 N B base e1 e2 (wa.setCell ⟨B, 1, none⟩ v2') v1 v2' n1 (n2 + m) xs1 (xs2 ++ news) := by
  obtain ⟨g1, g2, g3, g4, g5, g6, g7⟩ := h.grown2 hg
  refine ⟨g1.setCell h.nb _, h.nb, h.bb, by simpa [World.setCell] using g2, ownsRow_setCell_below g7 h.bb _, ?_, ?_, by rw [cell_setCell_far _ _ _ _ _ (by decide)]; exact g3, cell_setCell_same _ _ _ _ _ g4, by rw [frozen_setCell]; exact g5, by rw [frozen_setCell]; exact g6⟩
  · exact ownsRow_setCell_below ho h.bb _
  · intro k hk e2'
    rcases hat with e | e
    · exact h.apart k hk (by rw [← e]; exact e2')
    · have := (h.own1.lt k hk).2
      rw [e] at e2'
      have := Option.some.inj e2'
      omega
end

/-- As 'Two', but the block's cells may lag behind: they hold u1, u2. -/
structure Mid (w0 : World) (N B base : Nat) (e1 e2 : TypeId) (wr : World) (u1 u2 v1 v2 : Value) (n1 n2 : Nat) (xs1 xs2 : List Value) : Prop where
  below : Below N w0 wr
  nb : N ≤ B
  bb : B < base
  size : base ≤ wr.heap.size
  own1 : wr.ownsRow base e1 1 v1 n1 xs1
  own2 : wr.ownsRow base e2 1 v2 n2 xs2
  apart : Apart v1 v2
  c1 : wr.cell? ⟨B, 0, none⟩ = some u1
  c2 : wr.cell? ⟨B, 1, none⟩ = some u2
  f1 : wr.frozen? ⟨B, 0, none⟩ = false
  f2 : wr.frozen? ⟨B, 1, none⟩ = false

theorem Two.mid {w0 : World} {N B base : Nat} {e1 e2 : TypeId} {wr : World} {v1 v2 : Value} {n1 n2 : Nat} {xs1 xs2 : List Value} (h : Two w0 N B base e1 e2 wr v1 v2 n1 n2 xs1 xs2) : Mid w0 N B base e1 e2 wr v1 v2 v1 v2 n1 n2 xs1 xs2 :=
  ⟨h.below, h.nb, h.bb, h.size, h.own1, h.own2, h.apart, h.c1, h.c2, h.f1, h.f2⟩

section
variable {w0 : World} {N B base : Nat} {e1 e2 : TypeId} {wr : World} {u1 u2 v1 v2 : Value} {n1 n2 : Nat} {xs1 xs2 : List Value}

theorem Mid.grown1 (h : Mid w0 N B base e1 e2 wr u1 u2 v1 v2 n1 n2 xs1 xs2) {wa : World} {v1' : Value} {m : Nat} {news : List Value} (ho : wa.ownsRow base e1 1 v1' (n1 + m) (xs1 ++ news)) (hg : wr.grownBy wa v1.ownBlock)
    (hat : v1'.ownBlock = v1.ownBlock ∨ v1'.ownBlock = some wr.heap.size) : Mid w0 N B base e1 e2 wa u1 u2 v1' v2 (n1 + m) n2 (xs1 ++ news) xs2 := by
  have hB : B < wr.heap.size := Nat.lt_of_lt_of_le h.bb h.size
  have hne : some B ≠ v1.ownBlock := fun e => by have := (h.own1.lt B e.symm).1; have := h.bb; omega
  have hk := hg.block B hB hne
  refine ⟨h.below.grown hg (by have := h.nb; omega) (fun k hk => by have := (h.own1.lt k hk).1; have := h.nb; have := h.bb; omega), h.nb, h.bb, Nat.le_trans h.size hg.size, ho, ?_, ?_, ?_, ?_, ?_, ?_⟩
  · exact h.own2.kept hg (by
      by_cases hv : v2.ownBlock = none
      · exact .inl hv
      · exact .inr (fun e => by
          obtain ⟨k, hk⟩ := Option.ne_none_iff_exists'.1 hv
          exact h.apart k (by rw [← e, hk]) hk))
  · intro k hk
    rcases hat with e | e
    · exact h.apart k (by rw [← e]; exact hk)
    · intro e2'
      have := (h.own2.lt k e2').2
      rw [e] at hk
      have := Option.some.inj hk
      omega
  · rw [World.cell?_of_block (w := wr) (a := ⟨B, 0, none⟩) hk]; exact h.c1
  · rw [World.cell?_of_block (w := wr) (a := ⟨B, 1, none⟩) hk]; exact h.c2
  · rw [World.frozen?_of_block (w := wr) (a := ⟨B, 0, none⟩) hk]; exact h.f1
  · rw [World.frozen?_of_block (w := wr) (a := ⟨B, 1, none⟩) hk]; exact h.f2

theorem Mid.grown2 (h : Mid w0 N B base e1 e2 wr u1 u2 v1 v2 n1 n2 xs1 xs2) {wa : World} {v2' : Value} {m : Nat} {news : List Value} (ho : wa.ownsRow base e2 1 v2' (n2 + m) (xs2 ++ news)) (hg : wr.grownBy wa v2.ownBlock)
    (hat : v2'.ownBlock = v2.ownBlock ∨ v2'.ownBlock = some wr.heap.size) : Mid w0 N B base e1 e2 wa u1 u2 v1 v2' n1 (n2 + m) xs1 (xs2 ++ news) := by
  have hB : B < wr.heap.size := Nat.lt_of_lt_of_le h.bb h.size
  have hne : some B ≠ v2.ownBlock := fun e => by have := (h.own2.lt B e.symm).1; have := h.bb; omega
  have hk := hg.block B hB hne
  refine ⟨h.below.grown hg (by have := h.nb; omega) (fun k hk => by have := (h.own2.lt k hk).1; have := h.nb; have := h.bb; omega), h.nb, h.bb, Nat.le_trans h.size hg.size, ?_, ho, ?_, ?_, ?_, ?_, ?_⟩
  · exact h.own1.kept hg (by
      by_cases hv : v1.ownBlock = none
      · exact .inl hv
      · exact .inr (fun e => by
          obtain ⟨k, hk⟩ := Option.ne_none_iff_exists'.1 hv
          exact h.apart k hk (by rw [← e, hk])))
  · intro k hk e2'
    rcases hat with e | e
    · exact h.apart k hk (by rw [← e]; exact e2')
    · have := (h.own1.lt k hk).2
      rw [e] at e2'
      have := Option.some.inj e2'
      omega
  · rw [World.cell?_of_block (w := wr) (a := ⟨B, 0, none⟩) hk]; exact h.c1
  · rw [World.cell?_of_block (w := wr) (a := ⟨B, 1, none⟩) hk]; exact h.c2
  · rw [World.frozen?_of_block (w := wr) (a := ⟨B, 0, none⟩) hk]; exact h.f1
  · rw [World.frozen?_of_block (w := wr) (a := ⟨B, 1, none⟩) hk]; exact h.f2

theorem Mid.store1 (h : Mid w0 N B base e1 e2 wr u1 v2 v1 v2 n1 n2 xs1 xs2) : Two w0 N B base e1 e2 (wr.setCell ⟨B, 0, none⟩ v1) v1 v2 n1 n2 xs1 xs2 :=
  ⟨h.below.setCell h.nb _, h.nb, h.bb, by simpa [World.setCell] using h.size, ownsRow_setCell_below h.own1 h.bb _, ownsRow_setCell_below h.own2 h.bb _, h.apart, cell_setCell_same _ _ _ _ _ h.c1,
    by rw [cell_setCell_far _ _ _ _ _ (by decide)]; exact h.c2, by rw [frozen_setCell]; exact h.f1, by rw [frozen_setCell]; exact h.f2⟩

theorem Mid.store2 (h : Mid w0 N B base e1 e2 wr v1 u2 v1 v2 n1 n2 xs1 xs2) : Two w0 N B base e1 e2 (wr.setCell ⟨B, 1, none⟩ v2) v1 v2 n1 n2 xs1 xs2 :=
  ⟨h.below.setCell h.nb _, h.nb, h.bb, by simpa [World.setCell] using h.size, ownsRow_setCell_below h.own1 h.bb _, ownsRow_setCell_below h.own2 h.bb _, h.apart, by rw [cell_setCell_far _ _ _ _ _ (by decide)]; exact h.c1,
    cell_setCell_same _ _ _ _ _ h.c2, by rw [frozen_setCell]; exact h.f1, by rw [frozen_setCell]; exact h.f2⟩
end

end Go.Proofs.Ytdlodacogldinaa
