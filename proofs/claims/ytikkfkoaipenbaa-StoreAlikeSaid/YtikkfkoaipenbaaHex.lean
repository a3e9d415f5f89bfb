/- Texts of numbers, and a memory's text: in plain Lean. -/
import Derived.Test.YtikkfkoaipenbaaPlain
namespace Go.Proofs.Ytikkfkoaipenbaa

/-- The hexadecimal digits of a number, the low one first. -/
def hexR (w : Nat) : List Nat := if h : w / 16 = 0 then [w % 16] else w % 16 :: hexR (w / 16)
termination_by w
decreasing_by omega

theorem hexR_eq (w : Nat) : hexR w = w % 16 :: if w / 16 = 0 then [] else hexR (w / 16) := by
  rw [hexR]
  split <;> rfl

/-- The number of digits. -/
def unhex : List Nat → Nat
  | [] => 0
  | d :: l => d + 16 * unhex l
theorem unhex_hexR (w : Nat) : unhex (hexR w) = w := by
  induction w using Nat.strongRecOn with
  | _ w ih =>
    rw [hexR_eq]
    split
    · simp only [unhex]; omega
    · rename_i h
      simp only [unhex]
      rw [ih (w / 16) (by omega)]
      omega
theorem hexR_lt (w : Nat) : ∀ d ∈ hexR w, d < 16 := by
  induction w using Nat.strongRecOn with
  | _ w ih =>
    rw [hexR_eq]
    intro d hd
    rcases List.mem_cons.1 hd with rfl | hd
    · omega
    · split at hd
      · simp at hd
      · exact ih (w / 16) (by omega) d hd

/-- A digit's byte. -/
def digN (d : Nat) : Nat := if d < 10 then 48 + d else 87 + d
theorem digN_inj {a b : Nat} (h : digN a = digN b) (ha : a < 16) (hb : b < 16) : a = b := by
  unfold digN at h
  split at h <;> split at h <;> omega
theorem map_dig : ∀ (l m : List Nat), (∀ d ∈ l, d < 16) → (∀ d ∈ m, d < 16) → l.map digN = m.map digN → l = m
  | [], [], _, _, _ => rfl
  | [], b :: m, _, _, h => by simp at h
  | a :: l, [], _, _, h => by simp at h
  | a :: l, b :: m, h1, h2, h => by
    simp only [List.map_cons, List.cons.injEq] at h
    rw [digN_inj h.1 (h1 a (by simp)) (h2 b (by simp)), map_dig l m (fun d hd => h1 d (by simp [hd])) (fun d hd => h2 d (by simp [hd])) h.2]

/-- A number's text. -/
def hexT (w : Nat) : List Nat := 48 :: 120 :: ((hexR w).map digN).reverse
theorem hexT_inj {a b : Nat} (h : hexT a = hexT b) : a = b := by
  unfold hexT at h
  simp only [List.cons.injEq, true_and, List.reverse_inj] at h
  have := map_dig _ _ (hexR_lt a) (hexR_lt b) h
  rw [← unhex_hexR a, this, unhex_hexR]
theorem hexT_no (w : Nat) : ∀ d ∈ hexT w, d ≠ 61 ∧ d ≠ 32 ∧ d < 256 := by
  intro d hd
  unfold hexT at hd
  rcases List.mem_cons.1 hd with rfl | hd
  · decide
  · rcases List.mem_cons.1 hd with rfl | hd
    · decide
    · rw [List.mem_reverse] at hd
      obtain ⟨e, he, rfl⟩ := List.mem_map.1 hd
      have := hexR_lt w e he
      unfold digN
      split <;> omega

theorem cut_at {c : Nat} : ∀ (x y r s : List Nat), (∀ d ∈ x, d ≠ c) → (∀ d ∈ y, d ≠ c) → x ++ c :: r = y ++ c :: s → x = y ∧ r = s
  | [], [], r, s, _, _, h => by simpa using h
  | [], b :: y, r, s, _, h2, h => by
    simp only [List.nil_append, List.cons_append, List.cons.injEq] at h
    exact absurd h.1.symm (h2 b (by simp))
  | a :: x, [], r, s, h1, _, h => by
    simp only [List.nil_append, List.cons_append, List.cons.injEq] at h
    exact absurd h.1 (h1 a (by simp))
  | a :: x, b :: y, r, s, h1, h2, h => by
    simp only [List.cons_append, List.cons.injEq] at h
    obtain ⟨e1, e2⟩ := cut_at x y r s (fun d hd => h1 d (by simp [hd])) (fun d hd => h2 d (by simp [hd])) h.2
    exact ⟨by rw [h.1, e1], e2⟩

/-- A memory's text. -/
def keyT : List (Nat × Nat) → List Nat
  | [] => []
  | p :: l => hexT p.1 ++ 61 :: (hexT p.2 ++ 32 :: keyT l)
theorem keyT_inj : ∀ (l m : List (Nat × Nat)), keyT l = keyT m → l = m
  | [], [], _ => rfl
  | [], b :: m, h => by simp [keyT, hexT] at h
  | a :: l, [], h => by simp [keyT, hexT] at h
  | a :: l, b :: m, h => by
    simp only [keyT] at h
    obtain ⟨e1, h2⟩ := cut_at _ _ _ _ (fun d hd => (hexT_no _ d hd).1) (fun d hd => (hexT_no _ d hd).1) h
    obtain ⟨e2, h3⟩ := cut_at _ _ _ _ (fun d hd => (hexT_no _ d hd).2.1) (fun d hd => (hexT_no _ d hd).2.1) h2
    rw [keyT_inj l m h3, Prod.ext (hexT_inj e1) (hexT_inj e2)]
theorem keyT_append (l : List (Nat × Nat)) (p : Nat × Nat) : keyT (l ++ [p]) = keyT l ++ (hexT p.1 ++ 61 :: (hexT p.2 ++ [32])) := by
  induction l with
  | nil => simp [keyT]
  | cons a l ih => simp [keyT, ih]

end Go.Proofs.Ytikkfkoaipenbaa
