/- Instructions and their words, plainly: no program in sight. -/
import Derived.Test.YtdlodacogldinaaPlain
namespace Go.Proofs.Ytdlodacogldinaa
open Go.RowKit
set_option linter.unusedSimpArgs false
set_option linter.unusedVariables false

/-- A number that uint32 holds. -/
def U32 (a : Int) : Prop := 0 ≤ a ∧ a < 4294967296

/-- An instruction. -/
structure X where
  op : Int
  d : Int
  n : Int
  m : Int
  imm : Int
  kind : Int
  deriving DecidableEq

def X.zero : X := ⟨0, 0, 0, 0, 0, 0⟩

/-- An invalidation's part of the word. -/
def flushZ (k : Int) : Int := (if 4 ≤ k then 1024 else 0) + (if k.tmod 4 = 1 then 32 else if k.tmod 4 = 3 then 64 else if k.tmod 4 = 2 then 96 else 0)
/-- A system register's part. -/
def systemZ (k : Int) : Int := if k = 0 then 20992 else if k = 1 then 24576 else 16416

/-- May an instruction be? -/
def rightP (x : X) : Prop :=
  (x.op = 1 ∧ x.d = 0 ∧ x.n = 0 ∧ x.m = 0 ∧ x.imm = 0 ∧ x.kind = 0) ∨
  (x.op = 2 ∧ 0 ≤ x.d ∧ x.d ≤ 31 ∧ 0 ≤ x.n ∧ x.n ≤ 31 ∧ x.m = 0 ∧ 0 ≤ x.imm ∧ x.imm ≤ 32767 ∧ x.imm % 8 = 0 ∧ x.kind = 0) ∨
  (x.op = 3 ∧ 0 ≤ x.d ∧ x.d ≤ 31 ∧ 0 ≤ x.n ∧ x.n ≤ 31 ∧ x.m = 0 ∧ 0 ≤ x.imm ∧ x.imm ≤ 32767 ∧ x.imm % 8 = 0 ∧ x.kind = 0) ∨
  (x.op = 4 ∧ 0 ≤ x.d ∧ x.d ≤ 31 ∧ 0 ≤ x.n ∧ x.n ≤ 31 ∧ x.m = 0 ∧ x.imm = 0 ∧ x.kind = 0) ∨
  (x.op = 5 ∧ 0 ≤ x.d ∧ x.d ≤ 31 ∧ 0 ≤ x.n ∧ x.n ≤ 31 ∧ x.m = 0 ∧ x.imm = 0 ∧ x.kind = 0) ∨
  (x.op = 6 ∧ 0 ≤ x.d ∧ x.d ≤ 31 ∧ x.n = 0 ∧ x.m = 0 ∧ 0 ≤ x.imm ∧ x.imm ≤ 65535 ∧ 0 ≤ x.kind ∧ x.kind ≤ 3) ∨
  (x.op = 7 ∧ 0 ≤ x.d ∧ x.d ≤ 31 ∧ 0 ≤ x.n ∧ x.n ≤ 31 ∧ x.m = 0 ∧ 0 ≤ x.imm ∧ x.imm ≤ 4095 ∧ x.kind = 0) ∨
  (x.op = 8 ∧ 0 ≤ x.d ∧ x.d ≤ 31 ∧ 0 ≤ x.n ∧ x.n ≤ 31 ∧ 0 ≤ x.m ∧ x.m ≤ 31 ∧ x.imm = 0 ∧ x.kind = 0) ∨
  (x.op = 9 ∧ 0 ≤ x.d ∧ x.d ≤ 31 ∧ 0 ≤ x.n ∧ x.n ≤ 31 ∧ 0 ≤ x.m ∧ x.m ≤ 31 ∧ x.imm = 0 ∧ x.kind = 0) ∨
  (x.op = 10 ∧ 0 ≤ x.d ∧ x.d ≤ 31 ∧ 0 ≤ x.n ∧ x.n ≤ 31 ∧ 0 ≤ x.m ∧ x.m ≤ 31 ∧ x.imm = 0 ∧ x.kind = 0) ∨
  (x.op = 11 ∧ 0 ≤ x.d ∧ x.d ≤ 31 ∧ 0 ≤ x.n ∧ x.n ≤ 31 ∧ 0 ≤ x.m ∧ x.m ≤ 31 ∧ x.imm = 0 ∧ x.kind = 0) ∨
  (x.op = 12 ∧ 0 ≤ x.d ∧ x.d ≤ 31 ∧ 0 ≤ x.n ∧ x.n ≤ 31 ∧ 0 ≤ x.m ∧ x.m ≤ 31 ∧ x.imm = 0 ∧ x.kind = 0) ∨
  (x.op = 13 ∧ 0 ≤ x.d ∧ x.d ≤ 31 ∧ 0 ≤ x.n ∧ x.n ≤ 31 ∧ 0 ≤ x.m ∧ x.m ≤ 31 ∧ x.imm = 0 ∧ x.kind = 0) ∨
  (x.op = 14 ∧ x.d = 0 ∧ x.n = 0 ∧ x.m = 0 ∧ -33554432 ≤ x.imm ∧ x.imm ≤ 33554431 ∧ x.kind = 0) ∨
  (x.op = 15 ∧ 0 ≤ x.d ∧ x.d ≤ 31 ∧ x.n = 0 ∧ x.m = 0 ∧ -262144 ≤ x.imm ∧ x.imm ≤ 262143 ∧ x.kind = 0) ∨
  (x.op = 16 ∧ 0 ≤ x.d ∧ x.d ≤ 31 ∧ x.n = 0 ∧ x.m = 0 ∧ -262144 ≤ x.imm ∧ x.imm ≤ 262143 ∧ x.kind = 0) ∨
  (x.op = 17 ∧ x.d = 0 ∧ x.n = 0 ∧ x.m = 0 ∧ -262144 ≤ x.imm ∧ x.imm ≤ 262143 ∧ 0 ≤ x.kind ∧ x.kind ≤ 1) ∨
  (x.op = 18 ∧ x.d = 0 ∧ x.n = 0 ∧ x.m = 0 ∧ x.imm = 0 ∧ (x.kind = 9 ∨ x.kind = 10 ∨ x.kind = 11 ∨ x.kind = 13 ∨ x.kind = 14 ∨ x.kind = 15)) ∨
  (x.op = 19 ∧ x.d = 0 ∧ x.n = 0 ∧ x.m = 0 ∧ x.imm = 0 ∧ (x.kind = 9 ∨ x.kind = 10 ∨ x.kind = 11 ∨ x.kind = 13 ∨ x.kind = 14 ∨ x.kind = 15)) ∨
  (x.op = 20 ∧ x.d = 0 ∧ x.n = 0 ∧ x.m = 0 ∧ x.imm = 0 ∧ x.kind = 0) ∨
  (x.op = 21 ∧ 0 ≤ x.d ∧ x.d ≤ 31 ∧ x.n = 0 ∧ x.m = 0 ∧ x.imm = 0 ∧ 0 ≤ x.kind ∧ x.kind ≤ 7 ∧ (x.kind % 4 = 0 → x.d = 31)) ∨
  (x.op = 22 ∧ x.d = 0 ∧ x.n = 0 ∧ x.m = 0 ∧ x.imm = 0 ∧ x.kind = 0) ∨
  (x.op = 23 ∧ 0 ≤ x.d ∧ x.d ≤ 31 ∧ x.n = 0 ∧ x.m = 0 ∧ x.imm = 0 ∧ 0 ≤ x.kind ∧ x.kind ≤ 2)
noncomputable instance (x : X) : Decidable (rightP x) := Classical.propDecidable _

/-- The word of an instruction that is right. -/
def wordX (x : X) : Int :=
  if x.op = 1 then 3573751839 else
  if x.op = 2 then 4181721088 + x.d + x.n * 32 + x.imm / 8 * 1024 else
  if x.op = 3 then 4177526784 + x.d + x.n * 32 + x.imm / 8 * 1024 else
  if x.op = 4 then 3370122240 + x.d + x.n * 32 else
  if x.op = 5 then 3365927936 + x.d + x.n * 32 else
  if x.op = 6 then 3531603968 + x.d + x.kind * 2097152 + x.imm * 32 else
  if x.op = 7 then 2432696320 + x.d + x.n * 32 + x.imm * 1024 else
  if x.op = 8 then 2332033024 + x.d + x.n * 32 + x.m * 65536 else
  if x.op = 9 then 3405774848 + x.d + x.n * 32 + x.m * 65536 else
  if x.op = 10 then 2315255808 + x.d + x.n * 32 + x.m * 65536 else
  if x.op = 11 then 2852126720 + x.d + x.n * 32 + x.m * 65536 else
  if x.op = 12 then 3388997632 + x.d + x.n * 32 + x.m * 65536 else
  if x.op = 13 then 3942645760 + x.d + x.n * 32 + x.m * 65536 else
  if x.op = 14 then 335544320 + x.imm % 67108864 else
  if x.op = 15 then 3019898880 + x.d + x.imm % 524288 * 32 else
  if x.op = 16 then 3036676096 + x.d + x.imm % 524288 * 32 else
  if x.op = 17 then 1409286144 + x.kind + x.imm % 524288 * 32 else
  if x.op = 18 then 3573756095 + x.kind * 256 else
  if x.op = 19 then 3573756063 + x.kind * 256 else
  if x.op = 20 then 3573759967 else
  if x.op = 21 then 3574104832 + x.d + flushZ x.kind else
  if x.op = 22 then 3600745440 else
  3577217024 + x.d + systemZ x.kind

def signZ (n size : Int) : Int := if size / 2 ≤ n then n - size else n

/-- What the code masks away. -/
def aluZ (w : Int) : Int := w / 2097152 * 2097152 + w / 1024 % 64 * 1024
def barZ (w : Int) : Int := w / 4096 * 4096 + w % 256

def memX (w : Int) : Option X :=
  if w / 1024 = 3291135 then some ⟨4, w % 32, w / 32 % 32, 0, 0, 0⟩ else
  if w / 1024 = 3287039 then some ⟨5, w % 32, w / 32 % 32, 0, 0, 0⟩ else
  if w / 4194304 = 997 then some ⟨2, w % 32, w / 32 % 32, 0, 8 * (w / 1024 % 4096), 0⟩ else
  if w / 4194304 = 996 then some ⟨3, w % 32, w / 32 % 32, 0, 8 * (w / 1024 % 4096), 0⟩ else none

def aluX (w op : Int) : X := ⟨op, w % 32, w / 32 % 32, w / 65536 % 32, 0, 0⟩
def movX (w : Int) : Option X :=
  if w / 8388608 = 421 then some ⟨6, w % 32, 0, 0, w / 32 % 65536, w / 2097152 % 4⟩ else
  if w / 4194304 = 580 then some ⟨7, w % 32, w / 32 % 32, 0, w / 1024 % 4096, 0⟩ else
  if aluZ w = 2332033024 then some (aluX w 8) else
  if aluZ w = 3405774848 then some (aluX w 9) else
  if aluZ w = 2315255808 then some (aluX w 10) else
  if aluZ w = 2852126720 then some (aluX w 11) else
  if aluZ w = 3388997632 then some (aluX w 12) else
  if aluZ w = 3942645760 then some (aluX w 13) else
  none

def brX (w : Int) : Option X :=
  if w / 67108864 = 5 then some ⟨14, 0, 0, 0, signZ (w % 67108864) 67108864, 0⟩ else
  if w / 16777216 = 180 then some ⟨15, w % 32, 0, 0, signZ (w / 32 % 524288) 524288, 0⟩ else
  if w / 16777216 = 181 then some ⟨16, w % 32, 0, 0, signZ (w / 32 % 524288) 524288, 0⟩ else
  if w / 16777216 = 84 ∧ w % 32 ≤ 1 then some ⟨17, 0, 0, 0, signZ (w / 32 % 524288) 524288, w % 32⟩ else
  if w = 3600745440 then some ⟨22, 0, 0, 0, 0, 0⟩ else none

def barrB (k : Int) : Bool := k == 9 || k == 10 || k == 11 || k == 13 || k == 14 || k == 15
/-- The invalidations and system registers, in the order in which they are tried. -/
def cand (w : Int) (j : Nat) : X := ⟨if j < 8 then 21 else 23, w % 32, 0, 0, 0, (j % 8 : Nat)⟩
noncomputable def goodX (w : Int) (x : X) : Bool := decide (rightP x ∧ wordX x = w)
noncomputable def tailX (w : Int) : Option X := ((List.range 16).map (cand w)).find? (goodX w)
noncomputable def othX (w : Int) : Option X :=
  if w = 3573751839 then some ⟨1, 0, 0, 0, 0, 0⟩ else
  if w = 3573759967 then some ⟨20, 0, 0, 0, 0, 0⟩ else
  if barZ w = 3573756095 ∧ barrB (w / 256 % 16) = true then some ⟨18, 0, 0, 0, 0, w / 256 % 16⟩ else
  if barZ w = 3573756063 ∧ barrB (w / 256 % 16) = true then some ⟨19, 0, 0, 0, 0, w / 256 % 16⟩ else tailX w

noncomputable def decX (w : Int) : Option X := (memX w).or ((movX w).or ((brX w).or (othX w)))

theorem barrB_iff {k : Int} : barrB k = true ↔ (k = 9 ∨ k = 10 ∨ k = 11 ∨ k = 13 ∨ k = 14 ∨ k = 15) := by simp [barrB, or_assoc]

theorem mem_some {w : Int} {x : X} (hw : U32 w) (h : memX w = some x) : rightP x ∧ wordX x = w := by
  obtain ⟨h0, h1⟩ := hw
  unfold memX at h
  repeat' (split at h)
  all_goals first | (cases h; done) | (obtain rfl := Option.some.inj h; refine ⟨?_, ?_⟩ <;> simp [rightP, wordX] <;> omega)
theorem mov_some {w : Int} {x : X} (hw : U32 w) (h : movX w = some x) : rightP x ∧ wordX x = w := by
  obtain ⟨h0, h1⟩ := hw
  unfold movX aluZ aluX at h
  repeat' (split at h)
  all_goals first | (cases h; done) | (obtain rfl := Option.some.inj h; refine ⟨?_, ?_⟩ <;> simp [rightP, wordX] <;> omega)
theorem br_some {w : Int} {x : X} (hw : U32 w) (h : brX w = some x) : rightP x ∧ wordX x = w := by
  obtain ⟨h0, h1⟩ := hw
  unfold brX signZ at h
  repeat' (split at h)
  all_goals first | (cases h; done) | (obtain rfl := Option.some.inj h; refine ⟨?_, ?_⟩ <;> simp [rightP, wordX] <;> omega)
theorem good_iff {w : Int} {x : X} : goodX w x = true ↔ rightP x ∧ wordX x = w := by simp [goodX]
theorem tail_some {w : Int} {x : X} (h : tailX w = some x) : rightP x ∧ wordX x = w := good_iff.1 (List.find?_some h)
theorem oth_some {w : Int} {x : X} (hw : U32 w) (h : othX w = some x) : rightP x ∧ wordX x = w := by
  obtain ⟨h0, h1⟩ := hw
  unfold othX at h
  simp only [barrB_iff] at h
  unfold barZ at h
  repeat' (split at h)
  all_goals first | exact tail_some h | (obtain rfl := Option.some.inj h; refine ⟨?_, ?_⟩ <;> simp [rightP, wordX] <;> omega)
theorem dec_some {w : Int} {x : X} (hw : U32 w) (h : decX w = some x) : rightP x ∧ wordX x = w := by
  unfold decX at h
  rcases h1 : memX w with _ | y
  · rw [h1, Option.none_or] at h
    rcases h2 : movX w with _ | y
    · rw [h2, Option.none_or] at h
      rcases h3 : brX w with _ | y
      · rw [h3, Option.none_or] at h
        exact oth_some hw h
      · rw [h3, Option.some_or] at h
        exact br_some hw (by rw [h3]; exact h)
    · rw [h2, Option.some_or] at h
      exact mov_some hw (by rw [h2]; exact h)
  · rw [h1, Option.some_or] at h
    exact mem_some hw (by rw [h1]; exact h)

theorem word_u32 {x : X} (h : rightP x) : U32 (wordX x) := by
  obtain ⟨op, d, n, m, imm, kind⟩ := x
  unfold rightP at h
  simp only at h
  rcases h with h | h | h | h | h | h | h | h | h | h | h | h | h | h | h | h | h | h | h | h | h | h | h
  all_goals
    obtain ⟨rfl, h⟩ := h
    simp only [wordX, U32, flushZ, systemZ]
    omega

/-- The constants of the tail. -/
def tz (j : Nat) : Int := if j < 8 then (3574104832 + flushZ (j : Nat)) / 32 else (3577217024 + systemZ ((j : Int) - 8)) / 32
theorem tz_inj : ∀ j, j < 11 → ∀ k, k < 11 → tz j = tz k → j = k := by decide +kernel
theorem tz_good {w : Int} {j : Nat} (hj : j < 16) (h : goodX w (cand w j) = true) : j < 11 ∧ w / 32 = tz j := by
  obtain ⟨h1, h2⟩ := good_iff.1 h
  have hc : j = 0 ∨ j = 1 ∨ j = 2 ∨ j = 3 ∨ j = 4 ∨ j = 5 ∨ j = 6 ∨ j = 7 ∨ j = 8 ∨ j = 9 ∨ j = 10 ∨ j = 11 ∨ j = 12 ∨ j = 13 ∨ j = 14 ∨ j = 15 := by omega
  clear h hj
  rcases hc with rfl | rfl | rfl | rfl | rfl | rfl | rfl | rfl | rfl | rfl | rfl | rfl | rfl | rfl | rfl | rfl
  all_goals
    simp [cand, rightP] at h1
    try simp [cand, wordX, flushZ, systemZ] at h2
    try (refine ⟨by decide, ?_⟩; simp [tz, flushZ, systemZ]; omega)
theorem tail_cand {w : Int} {j : Nat} (hj : j < 16) (h : goodX w (cand w j) = true) : tailX w = some (cand w j) := by
  unfold tailX
  rcases hf : ((List.range 16).map (cand w)).find? (goodX w) with _ | y
  · exact absurd h (by rw [List.find?_eq_none] at hf; exact hf _ (List.mem_map_of_mem (List.mem_range.2 hj)))
  · obtain ⟨k, hk, rfl⟩ := List.mem_map.1 (List.mem_of_find?_eq_some hf)
    have h1 := tz_good hj h
    have h2 := tz_good (List.mem_range.1 hk) (List.find?_some hf)
    rw [tz_inj j h1.1 k h2.1 (by rw [← h1.2, ← h2.2])]

theorem decw1 {d n m imm kind : Int} (h : rightP ⟨1, d, n, m, imm, kind⟩) : decX (wordX ⟨1, d, n, m, imm, kind⟩) = some ⟨1, d, n, m, imm, kind⟩ := by
  have hg := True.intro
  simp [rightP] at h
  have hw : wordX ⟨1, d, n, m, imm, kind⟩ = 3573751839 := by simp [wordX]
  rw [hw]
  generalize hwv : (3573751839 : Int) = w
  have e_memX : memX w = none := by
    unfold memX
    rw [if_neg (by omega)]
    rw [if_neg (by omega)]
    rw [if_neg (by omega)]
    rw [if_neg (by omega)]
  have e_movX : movX w = none := by
    unfold movX aluZ aluX
    rw [if_neg (by omega)]
    rw [if_neg (by omega)]
    rw [if_neg (by omega)]
    rw [if_neg (by omega)]
    rw [if_neg (by omega)]
    rw [if_neg (by omega)]
    rw [if_neg (by omega)]
    rw [if_neg (by omega)]
  have e_brX : brX w = none := by
    unfold brX signZ
    rw [if_neg (by omega)]
    rw [if_neg (by omega)]
    rw [if_neg (by omega)]
    rw [if_neg (by omega)]
    rw [if_neg (by omega)]
  have e_othX : othX w = some ⟨1, d, n, m, imm, kind⟩ := by
    unfold othX barZ
    rw [if_pos (by omega)]
    congr 2 <;> omega
  unfold decX
  rw [e_memX, Option.none_or, e_movX, Option.none_or, e_brX, Option.none_or, e_othX]

theorem decw2 {d n m imm kind : Int} (h : rightP ⟨2, d, n, m, imm, kind⟩) : decX (wordX ⟨2, d, n, m, imm, kind⟩) = some ⟨2, d, n, m, imm, kind⟩ := by
  have hg := True.intro
  simp [rightP] at h
  have hw : wordX ⟨2, d, n, m, imm, kind⟩ = 4181721088 + d + n * 32 + imm / 8 * 1024 := by simp [wordX]
  rw [hw]
  generalize hwv : (4181721088 + d + n * 32 + imm / 8 * 1024 : Int) = w
  have e_memX : memX w = some ⟨2, d, n, m, imm, kind⟩ := by
    unfold memX
    rw [if_neg (by omega)]
    rw [if_neg (by omega)]
    rw [if_pos (by omega)]
    congr 2 <;> omega
  unfold decX
  rw [e_memX, Option.some_or]

theorem decw3 {d n m imm kind : Int} (h : rightP ⟨3, d, n, m, imm, kind⟩) : decX (wordX ⟨3, d, n, m, imm, kind⟩) = some ⟨3, d, n, m, imm, kind⟩ := by
  have hg := True.intro
  simp [rightP] at h
  have hw : wordX ⟨3, d, n, m, imm, kind⟩ = 4177526784 + d + n * 32 + imm / 8 * 1024 := by simp [wordX]
  rw [hw]
  generalize hwv : (4177526784 + d + n * 32 + imm / 8 * 1024 : Int) = w
  have e_memX : memX w = some ⟨3, d, n, m, imm, kind⟩ := by
    unfold memX
    rw [if_neg (by omega)]
    rw [if_neg (by omega)]
    rw [if_neg (by omega)]
    rw [if_pos (by omega)]
    congr 2 <;> omega
  unfold decX
  rw [e_memX, Option.some_or]

theorem decw4 {d n m imm kind : Int} (h : rightP ⟨4, d, n, m, imm, kind⟩) : decX (wordX ⟨4, d, n, m, imm, kind⟩) = some ⟨4, d, n, m, imm, kind⟩ := by
  have hg := True.intro
  simp [rightP] at h
  have hw : wordX ⟨4, d, n, m, imm, kind⟩ = 3370122240 + d + n * 32 := by simp [wordX]
  rw [hw]
  generalize hwv : (3370122240 + d + n * 32 : Int) = w
  have e_memX : memX w = some ⟨4, d, n, m, imm, kind⟩ := by
    unfold memX
    rw [if_pos (by omega)]
    congr 2 <;> omega
  unfold decX
  rw [e_memX, Option.some_or]

theorem decw5 {d n m imm kind : Int} (h : rightP ⟨5, d, n, m, imm, kind⟩) : decX (wordX ⟨5, d, n, m, imm, kind⟩) = some ⟨5, d, n, m, imm, kind⟩ := by
  have hg := True.intro
  simp [rightP] at h
  have hw : wordX ⟨5, d, n, m, imm, kind⟩ = 3365927936 + d + n * 32 := by simp [wordX]
  rw [hw]
  generalize hwv : (3365927936 + d + n * 32 : Int) = w
  have e_memX : memX w = some ⟨5, d, n, m, imm, kind⟩ := by
    unfold memX
    rw [if_neg (by omega)]
    rw [if_pos (by omega)]
    congr 2 <;> omega
  unfold decX
  rw [e_memX, Option.some_or]

theorem decw6 {d n m imm kind : Int} (h : rightP ⟨6, d, n, m, imm, kind⟩) : decX (wordX ⟨6, d, n, m, imm, kind⟩) = some ⟨6, d, n, m, imm, kind⟩ := by
  have hg := True.intro
  simp [rightP] at h
  have hw : wordX ⟨6, d, n, m, imm, kind⟩ = 3531603968 + d + kind * 2097152 + imm * 32 := by simp [wordX]
  rw [hw]
  generalize hwv : (3531603968 + d + kind * 2097152 + imm * 32 : Int) = w
  have e_memX : memX w = none := by
    unfold memX
    rw [if_neg (by omega)]
    rw [if_neg (by omega)]
    rw [if_neg (by omega)]
    rw [if_neg (by omega)]
  have e_movX : movX w = some ⟨6, d, n, m, imm, kind⟩ := by
    unfold movX aluZ aluX
    rw [if_pos (by omega)]
    congr 2 <;> omega
  unfold decX
  rw [e_memX, Option.none_or, e_movX, Option.some_or]

theorem decw7 {d n m imm kind : Int} (h : rightP ⟨7, d, n, m, imm, kind⟩) : decX (wordX ⟨7, d, n, m, imm, kind⟩) = some ⟨7, d, n, m, imm, kind⟩ := by
  have hg := True.intro
  simp [rightP] at h
  have hw : wordX ⟨7, d, n, m, imm, kind⟩ = 2432696320 + d + n * 32 + imm * 1024 := by simp [wordX]
  rw [hw]
  generalize hwv : (2432696320 + d + n * 32 + imm * 1024 : Int) = w
  have e_memX : memX w = none := by
    unfold memX
    rw [if_neg (by omega)]
    rw [if_neg (by omega)]
    rw [if_neg (by omega)]
    rw [if_neg (by omega)]
  have e_movX : movX w = some ⟨7, d, n, m, imm, kind⟩ := by
    unfold movX aluZ aluX
    rw [if_neg (by omega)]
    rw [if_pos (by omega)]
    congr 2 <;> omega
  unfold decX
  rw [e_memX, Option.none_or, e_movX, Option.some_or]

theorem decw8 {d n m imm kind : Int} (h : rightP ⟨8, d, n, m, imm, kind⟩) : decX (wordX ⟨8, d, n, m, imm, kind⟩) = some ⟨8, d, n, m, imm, kind⟩ := by
  have hg := True.intro
  simp [rightP] at h
  have hw : wordX ⟨8, d, n, m, imm, kind⟩ = 2332033024 + d + n * 32 + m * 65536 := by simp [wordX]
  rw [hw]
  generalize hwv : (2332033024 + d + n * 32 + m * 65536 : Int) = w
  have e_memX : memX w = none := by
    unfold memX
    rw [if_neg (by omega)]
    rw [if_neg (by omega)]
    rw [if_neg (by omega)]
    rw [if_neg (by omega)]
  have e_movX : movX w = some ⟨8, d, n, m, imm, kind⟩ := by
    unfold movX aluZ aluX
    rw [if_neg (by omega)]
    rw [if_neg (by omega)]
    rw [if_pos (by omega)]
    congr 2 <;> omega
  unfold decX
  rw [e_memX, Option.none_or, e_movX, Option.some_or]

theorem decw9 {d n m imm kind : Int} (h : rightP ⟨9, d, n, m, imm, kind⟩) : decX (wordX ⟨9, d, n, m, imm, kind⟩) = some ⟨9, d, n, m, imm, kind⟩ := by
  have hg := True.intro
  simp [rightP] at h
  have hw : wordX ⟨9, d, n, m, imm, kind⟩ = 3405774848 + d + n * 32 + m * 65536 := by simp [wordX]
  rw [hw]
  generalize hwv : (3405774848 + d + n * 32 + m * 65536 : Int) = w
  have e_memX : memX w = none := by
    unfold memX
    rw [if_neg (by omega)]
    rw [if_neg (by omega)]
    rw [if_neg (by omega)]
    rw [if_neg (by omega)]
  have e_movX : movX w = some ⟨9, d, n, m, imm, kind⟩ := by
    unfold movX aluZ aluX
    rw [if_neg (by omega)]
    rw [if_neg (by omega)]
    rw [if_neg (by omega)]
    rw [if_pos (by omega)]
    congr 2 <;> omega
  unfold decX
  rw [e_memX, Option.none_or, e_movX, Option.some_or]

theorem decw10 {d n m imm kind : Int} (h : rightP ⟨10, d, n, m, imm, kind⟩) : decX (wordX ⟨10, d, n, m, imm, kind⟩) = some ⟨10, d, n, m, imm, kind⟩ := by
  have hg := True.intro
  simp [rightP] at h
  have hw : wordX ⟨10, d, n, m, imm, kind⟩ = 2315255808 + d + n * 32 + m * 65536 := by simp [wordX]
  rw [hw]
  generalize hwv : (2315255808 + d + n * 32 + m * 65536 : Int) = w
  have e_memX : memX w = none := by
    unfold memX
    rw [if_neg (by omega)]
    rw [if_neg (by omega)]
    rw [if_neg (by omega)]
    rw [if_neg (by omega)]
  have e_movX : movX w = some ⟨10, d, n, m, imm, kind⟩ := by
    unfold movX aluZ aluX
    rw [if_neg (by omega)]
    rw [if_neg (by omega)]
    rw [if_neg (by omega)]
    rw [if_neg (by omega)]
    rw [if_pos (by omega)]
    congr 2 <;> omega
  unfold decX
  rw [e_memX, Option.none_or, e_movX, Option.some_or]

theorem decw11 {d n m imm kind : Int} (h : rightP ⟨11, d, n, m, imm, kind⟩) : decX (wordX ⟨11, d, n, m, imm, kind⟩) = some ⟨11, d, n, m, imm, kind⟩ := by
  have hg := True.intro
  simp [rightP] at h
  have hw : wordX ⟨11, d, n, m, imm, kind⟩ = 2852126720 + d + n * 32 + m * 65536 := by simp [wordX]
  rw [hw]
  generalize hwv : (2852126720 + d + n * 32 + m * 65536 : Int) = w
  have e_memX : memX w = none := by
    unfold memX
    rw [if_neg (by omega)]
    rw [if_neg (by omega)]
    rw [if_neg (by omega)]
    rw [if_neg (by omega)]
  have e_movX : movX w = some ⟨11, d, n, m, imm, kind⟩ := by
    unfold movX aluZ aluX
    rw [if_neg (by omega)]
    rw [if_neg (by omega)]
    rw [if_neg (by omega)]
    rw [if_neg (by omega)]
    rw [if_neg (by omega)]
    rw [if_pos (by omega)]
    congr 2 <;> omega
  unfold decX
  rw [e_memX, Option.none_or, e_movX, Option.some_or]

theorem decw12 {d n m imm kind : Int} (h : rightP ⟨12, d, n, m, imm, kind⟩) : decX (wordX ⟨12, d, n, m, imm, kind⟩) = some ⟨12, d, n, m, imm, kind⟩ := by
  have hg := True.intro
  simp [rightP] at h
  have hw : wordX ⟨12, d, n, m, imm, kind⟩ = 3388997632 + d + n * 32 + m * 65536 := by simp [wordX]
  rw [hw]
  generalize hwv : (3388997632 + d + n * 32 + m * 65536 : Int) = w
  have e_memX : memX w = none := by
    unfold memX
    rw [if_neg (by omega)]
    rw [if_neg (by omega)]
    rw [if_neg (by omega)]
    rw [if_neg (by omega)]
  have e_movX : movX w = some ⟨12, d, n, m, imm, kind⟩ := by
    unfold movX aluZ aluX
    rw [if_neg (by omega)]
    rw [if_neg (by omega)]
    rw [if_neg (by omega)]
    rw [if_neg (by omega)]
    rw [if_neg (by omega)]
    rw [if_neg (by omega)]
    rw [if_pos (by omega)]
    congr 2 <;> omega
  unfold decX
  rw [e_memX, Option.none_or, e_movX, Option.some_or]

theorem decw13 {d n m imm kind : Int} (h : rightP ⟨13, d, n, m, imm, kind⟩) : decX (wordX ⟨13, d, n, m, imm, kind⟩) = some ⟨13, d, n, m, imm, kind⟩ := by
  have hg := True.intro
  simp [rightP] at h
  have hw : wordX ⟨13, d, n, m, imm, kind⟩ = 3942645760 + d + n * 32 + m * 65536 := by simp [wordX]
  rw [hw]
  generalize hwv : (3942645760 + d + n * 32 + m * 65536 : Int) = w
  have e_memX : memX w = none := by
    unfold memX
    rw [if_neg (by omega)]
    rw [if_neg (by omega)]
    rw [if_neg (by omega)]
    rw [if_neg (by omega)]
  have e_movX : movX w = some ⟨13, d, n, m, imm, kind⟩ := by
    unfold movX aluZ aluX
    rw [if_neg (by omega)]
    rw [if_neg (by omega)]
    rw [if_neg (by omega)]
    rw [if_neg (by omega)]
    rw [if_neg (by omega)]
    rw [if_neg (by omega)]
    rw [if_neg (by omega)]
    rw [if_pos (by omega)]
    congr 2 <;> omega
  unfold decX
  rw [e_memX, Option.none_or, e_movX, Option.some_or]

theorem decw14 {d n m imm kind : Int} (h : rightP ⟨14, d, n, m, imm, kind⟩) : decX (wordX ⟨14, d, n, m, imm, kind⟩) = some ⟨14, d, n, m, imm, kind⟩ := by
  have hg := True.intro
  simp [rightP] at h
  have hw : wordX ⟨14, d, n, m, imm, kind⟩ = 335544320 + imm % 67108864 := by simp [wordX]
  rw [hw]
  generalize hwv : (335544320 + imm % 67108864 : Int) = w
  have e_memX : memX w = none := by
    unfold memX
    rw [if_neg (by omega)]
    rw [if_neg (by omega)]
    rw [if_neg (by omega)]
    rw [if_neg (by omega)]
  have e_movX : movX w = none := by
    unfold movX aluZ aluX
    rw [if_neg (by omega)]
    rw [if_neg (by omega)]
    rw [if_neg (by omega)]
    rw [if_neg (by omega)]
    rw [if_neg (by omega)]
    rw [if_neg (by omega)]
    rw [if_neg (by omega)]
    rw [if_neg (by omega)]
  have e_brX : brX w = some ⟨14, d, n, m, imm, kind⟩ := by
    unfold brX signZ
    rw [if_pos (by omega)]
    congr 2 <;> first | omega | (split <;> omega)
  unfold decX
  rw [e_memX, Option.none_or, e_movX, Option.none_or, e_brX, Option.some_or]

theorem decw15 {d n m imm kind : Int} (h : rightP ⟨15, d, n, m, imm, kind⟩) : decX (wordX ⟨15, d, n, m, imm, kind⟩) = some ⟨15, d, n, m, imm, kind⟩ := by
  have hg := True.intro
  simp [rightP] at h
  have hw : wordX ⟨15, d, n, m, imm, kind⟩ = 3019898880 + d + imm % 524288 * 32 := by simp [wordX]
  rw [hw]
  generalize hwv : (3019898880 + d + imm % 524288 * 32 : Int) = w
  have e_memX : memX w = none := by
    unfold memX
    rw [if_neg (by omega)]
    rw [if_neg (by omega)]
    rw [if_neg (by omega)]
    rw [if_neg (by omega)]
  have e_movX : movX w = none := by
    unfold movX aluZ aluX
    rw [if_neg (by omega)]
    rw [if_neg (by omega)]
    rw [if_neg (by omega)]
    rw [if_neg (by omega)]
    rw [if_neg (by omega)]
    rw [if_neg (by omega)]
    rw [if_neg (by omega)]
    rw [if_neg (by omega)]
  have e_brX : brX w = some ⟨15, d, n, m, imm, kind⟩ := by
    unfold brX signZ
    rw [if_neg (by omega)]
    rw [if_pos (by omega)]
    congr 2 <;> first | omega | (split <;> omega)
  unfold decX
  rw [e_memX, Option.none_or, e_movX, Option.none_or, e_brX, Option.some_or]

theorem decw16 {d n m imm kind : Int} (h : rightP ⟨16, d, n, m, imm, kind⟩) : decX (wordX ⟨16, d, n, m, imm, kind⟩) = some ⟨16, d, n, m, imm, kind⟩ := by
  have hg := True.intro
  simp [rightP] at h
  have hw : wordX ⟨16, d, n, m, imm, kind⟩ = 3036676096 + d + imm % 524288 * 32 := by simp [wordX]
  rw [hw]
  generalize hwv : (3036676096 + d + imm % 524288 * 32 : Int) = w
  have e_memX : memX w = none := by
    unfold memX
    rw [if_neg (by omega)]
    rw [if_neg (by omega)]
    rw [if_neg (by omega)]
    rw [if_neg (by omega)]
  have e_movX : movX w = none := by
    unfold movX aluZ aluX
    rw [if_neg (by omega)]
    rw [if_neg (by omega)]
    rw [if_neg (by omega)]
    rw [if_neg (by omega)]
    rw [if_neg (by omega)]
    rw [if_neg (by omega)]
    rw [if_neg (by omega)]
    rw [if_neg (by omega)]
  have e_brX : brX w = some ⟨16, d, n, m, imm, kind⟩ := by
    unfold brX signZ
    rw [if_neg (by omega)]
    rw [if_neg (by omega)]
    rw [if_pos (by omega)]
    congr 2 <;> first | omega | (split <;> omega)
  unfold decX
  rw [e_memX, Option.none_or, e_movX, Option.none_or, e_brX, Option.some_or]

theorem decw17 {d n m imm kind : Int} (h : rightP ⟨17, d, n, m, imm, kind⟩) : decX (wordX ⟨17, d, n, m, imm, kind⟩) = some ⟨17, d, n, m, imm, kind⟩ := by
  have hg := True.intro
  simp [rightP] at h
  have hw : wordX ⟨17, d, n, m, imm, kind⟩ = 1409286144 + kind + imm % 524288 * 32 := by simp [wordX]
  rw [hw]
  generalize hwv : (1409286144 + kind + imm % 524288 * 32 : Int) = w
  have e_memX : memX w = none := by
    unfold memX
    rw [if_neg (by omega)]
    rw [if_neg (by omega)]
    rw [if_neg (by omega)]
    rw [if_neg (by omega)]
  have e_movX : movX w = none := by
    unfold movX aluZ aluX
    rw [if_neg (by omega)]
    rw [if_neg (by omega)]
    rw [if_neg (by omega)]
    rw [if_neg (by omega)]
    rw [if_neg (by omega)]
    rw [if_neg (by omega)]
    rw [if_neg (by omega)]
    rw [if_neg (by omega)]
  have e_brX : brX w = some ⟨17, d, n, m, imm, kind⟩ := by
    unfold brX signZ
    rw [if_neg (by omega)]
    rw [if_neg (by omega)]
    rw [if_neg (by omega)]
    rw [if_pos (by omega)]
    congr 2 <;> first | omega | (split <;> omega)
  unfold decX
  rw [e_memX, Option.none_or, e_movX, Option.none_or, e_brX, Option.some_or]

theorem decw18 {d n m imm kind : Int} (h : rightP ⟨18, d, n, m, imm, kind⟩) : decX (wordX ⟨18, d, n, m, imm, kind⟩) = some ⟨18, d, n, m, imm, kind⟩ := by
  have hg := True.intro
  simp [rightP] at h
  have hw : wordX ⟨18, d, n, m, imm, kind⟩ = 3573756095 + kind * 256 := by simp [wordX]
  rw [hw]
  generalize hwv : (3573756095 + kind * 256 : Int) = w
  have e_memX : memX w = none := by
    unfold memX
    rw [if_neg (by omega)]
    rw [if_neg (by omega)]
    rw [if_neg (by omega)]
    rw [if_neg (by omega)]
  have e_movX : movX w = none := by
    unfold movX aluZ aluX
    rw [if_neg (by omega)]
    rw [if_neg (by omega)]
    rw [if_neg (by omega)]
    rw [if_neg (by omega)]
    rw [if_neg (by omega)]
    rw [if_neg (by omega)]
    rw [if_neg (by omega)]
    rw [if_neg (by omega)]
  have e_brX : brX w = none := by
    unfold brX signZ
    rw [if_neg (by omega)]
    rw [if_neg (by omega)]
    rw [if_neg (by omega)]
    rw [if_neg (by omega)]
    rw [if_neg (by omega)]
  have e_othX : othX w = some ⟨18, d, n, m, imm, kind⟩ := by
    unfold othX barZ
    rw [if_neg (by omega)]
    rw [if_neg (by omega)]
    rw [if_pos ⟨by omega, barrB_iff.2 (by omega)⟩]
    congr 2 <;> omega
  unfold decX
  rw [e_memX, Option.none_or, e_movX, Option.none_or, e_brX, Option.none_or, e_othX]

theorem decw19 {d n m imm kind : Int} (h : rightP ⟨19, d, n, m, imm, kind⟩) : decX (wordX ⟨19, d, n, m, imm, kind⟩) = some ⟨19, d, n, m, imm, kind⟩ := by
  have hg := True.intro
  simp [rightP] at h
  have hw : wordX ⟨19, d, n, m, imm, kind⟩ = 3573756063 + kind * 256 := by simp [wordX]
  rw [hw]
  generalize hwv : (3573756063 + kind * 256 : Int) = w
  have e_memX : memX w = none := by
    unfold memX
    rw [if_neg (by omega)]
    rw [if_neg (by omega)]
    rw [if_neg (by omega)]
    rw [if_neg (by omega)]
  have e_movX : movX w = none := by
    unfold movX aluZ aluX
    rw [if_neg (by omega)]
    rw [if_neg (by omega)]
    rw [if_neg (by omega)]
    rw [if_neg (by omega)]
    rw [if_neg (by omega)]
    rw [if_neg (by omega)]
    rw [if_neg (by omega)]
    rw [if_neg (by omega)]
  have e_brX : brX w = none := by
    unfold brX signZ
    rw [if_neg (by omega)]
    rw [if_neg (by omega)]
    rw [if_neg (by omega)]
    rw [if_neg (by omega)]
    rw [if_neg (by omega)]
  have e_othX : othX w = some ⟨19, d, n, m, imm, kind⟩ := by
    unfold othX barZ
    rw [if_neg (by omega)]
    rw [if_neg (by omega)]
    rw [if_neg (by omega)]
    rw [if_pos ⟨by omega, barrB_iff.2 (by omega)⟩]
    congr 2 <;> omega
  unfold decX
  rw [e_memX, Option.none_or, e_movX, Option.none_or, e_brX, Option.none_or, e_othX]

theorem decw20 {d n m imm kind : Int} (h : rightP ⟨20, d, n, m, imm, kind⟩) : decX (wordX ⟨20, d, n, m, imm, kind⟩) = some ⟨20, d, n, m, imm, kind⟩ := by
  have hg := True.intro
  simp [rightP] at h
  have hw : wordX ⟨20, d, n, m, imm, kind⟩ = 3573759967 := by simp [wordX]
  rw [hw]
  generalize hwv : (3573759967 : Int) = w
  have e_memX : memX w = none := by
    unfold memX
    rw [if_neg (by omega)]
    rw [if_neg (by omega)]
    rw [if_neg (by omega)]
    rw [if_neg (by omega)]
  have e_movX : movX w = none := by
    unfold movX aluZ aluX
    rw [if_neg (by omega)]
    rw [if_neg (by omega)]
    rw [if_neg (by omega)]
    rw [if_neg (by omega)]
    rw [if_neg (by omega)]
    rw [if_neg (by omega)]
    rw [if_neg (by omega)]
    rw [if_neg (by omega)]
  have e_brX : brX w = none := by
    unfold brX signZ
    rw [if_neg (by omega)]
    rw [if_neg (by omega)]
    rw [if_neg (by omega)]
    rw [if_neg (by omega)]
    rw [if_neg (by omega)]
  have e_othX : othX w = some ⟨20, d, n, m, imm, kind⟩ := by
    unfold othX barZ
    rw [if_neg (by omega)]
    rw [if_pos (by omega)]
    congr 2 <;> omega
  unfold decX
  rw [e_memX, Option.none_or, e_movX, Option.none_or, e_brX, Option.none_or, e_othX]

theorem decw21 {d n m imm kind : Int} (h : rightP ⟨21, d, n, m, imm, kind⟩) : decX (wordX ⟨21, d, n, m, imm, kind⟩) = some ⟨21, d, n, m, imm, kind⟩ := by
  have hg := h
  simp [rightP] at h
  have hw : wordX ⟨21, d, n, m, imm, kind⟩ = 3574104832 + d + flushZ kind := by simp [wordX]
  have hk : kind = 0 ∨ kind = 1 ∨ kind = 2 ∨ kind = 3 ∨ kind = 4 ∨ kind = 5 ∨ kind = 6 ∨ kind = 7 := by omega
  have hj : ∃ j, j < 16 ∧ (j % 8 : Nat) = kind ∧ (if j < 8 then (21 : Int) else 23) = 21 := ⟨kind.toNat + 0, by omega, by omega, by rw [if_pos (by omega)]⟩
  have hb : ∃ c, flushZ kind = c ∧ 0 ≤ c ∧ c % 32 = 0 ∧ c ≤ 24576 := by rcases hk with rfl | rfl | rfl | rfl | rfl | rfl | rfl | rfl <;> exact ⟨_, rfl, by decide, by decide, by decide⟩
  have hb2 : flushZ kind ≤ 1120 := by rcases hk with rfl | rfl | rfl | rfl | rfl | rfl | rfl | rfl <;> decide
  obtain ⟨c, hc, hc0, hc1, hc2⟩ := hb
  rw [hc] at hw
  rw [hc] at hb2
  obtain ⟨j, hj0, hj1, hj2⟩ := hj
  generalize hwv : wordX ⟨21, d, n, m, imm, kind⟩ = w at hw
  have ec : cand w j = ⟨21, d, n, m, imm, kind⟩ := by unfold cand; rw [hj1, hj2, show w % 32 = d by omega]; obtain ⟨_, h2⟩ := h; congr 1 <;> omega
  have ht := tail_cand (w := w) hj0 (by rw [ec]; exact good_iff.2 ⟨hg, hwv⟩)
  rw [ec] at ht
  clear hg hwv ec hj1 hj2 hk hc
  have e_memX : memX w = none := by
    unfold memX
    rw [if_neg (by omega)]
    rw [if_neg (by omega)]
    rw [if_neg (by omega)]
    rw [if_neg (by omega)]
  have e_movX : movX w = none := by
    unfold movX aluZ aluX
    rw [if_neg (by omega)]
    rw [if_neg (by omega)]
    rw [if_neg (by omega)]
    rw [if_neg (by omega)]
    rw [if_neg (by omega)]
    rw [if_neg (by omega)]
    rw [if_neg (by omega)]
    rw [if_neg (by omega)]
  have e_brX : brX w = none := by
    unfold brX signZ
    rw [if_neg (by omega)]
    rw [if_neg (by omega)]
    rw [if_neg (by omega)]
    rw [if_neg (by omega)]
    rw [if_neg (by omega)]
  have e_othX : othX w = some ⟨21, d, n, m, imm, kind⟩ := by
    unfold othX barZ
    rw [if_neg (by omega)]
    rw [if_neg (by omega)]
    rw [if_neg (by omega)]
    rw [if_neg (by omega)]
    exact ht
  unfold decX
  rw [e_memX, Option.none_or, e_movX, Option.none_or, e_brX, Option.none_or, e_othX]

theorem decw22 {d n m imm kind : Int} (h : rightP ⟨22, d, n, m, imm, kind⟩) : decX (wordX ⟨22, d, n, m, imm, kind⟩) = some ⟨22, d, n, m, imm, kind⟩ := by
  have hg := True.intro
  simp [rightP] at h
  have hw : wordX ⟨22, d, n, m, imm, kind⟩ = 3600745440 := by simp [wordX]
  rw [hw]
  generalize hwv : (3600745440 : Int) = w
  have e_memX : memX w = none := by
    unfold memX
    rw [if_neg (by omega)]
    rw [if_neg (by omega)]
    rw [if_neg (by omega)]
    rw [if_neg (by omega)]
  have e_movX : movX w = none := by
    unfold movX aluZ aluX
    rw [if_neg (by omega)]
    rw [if_neg (by omega)]
    rw [if_neg (by omega)]
    rw [if_neg (by omega)]
    rw [if_neg (by omega)]
    rw [if_neg (by omega)]
    rw [if_neg (by omega)]
    rw [if_neg (by omega)]
  have e_brX : brX w = some ⟨22, d, n, m, imm, kind⟩ := by
    unfold brX signZ
    rw [if_neg (by omega)]
    rw [if_neg (by omega)]
    rw [if_neg (by omega)]
    rw [if_neg (by omega)]
    rw [if_pos (by omega)]
    congr 2 <;> omega
  unfold decX
  rw [e_memX, Option.none_or, e_movX, Option.none_or, e_brX, Option.some_or]

theorem decw23 {d n m imm kind : Int} (h : rightP ⟨23, d, n, m, imm, kind⟩) : decX (wordX ⟨23, d, n, m, imm, kind⟩) = some ⟨23, d, n, m, imm, kind⟩ := by
  have hg := h
  simp [rightP] at h
  have hw : wordX ⟨23, d, n, m, imm, kind⟩ = 3577217024 + d + systemZ kind := by simp [wordX]
  have hk : kind = 0 ∨ kind = 1 ∨ kind = 2 := by omega
  have hj : ∃ j, j < 16 ∧ (j % 8 : Nat) = kind ∧ (if j < 8 then (21 : Int) else 23) = 23 := ⟨kind.toNat + 8, by omega, by omega, by rw [if_neg (by omega)]⟩
  have hb : ∃ c, systemZ kind = c ∧ 0 ≤ c ∧ c % 32 = 0 ∧ c ≤ 24576 := by rcases hk with rfl | rfl | rfl <;> exact ⟨_, rfl, by decide, by decide, by decide⟩
  obtain ⟨c, hc, hc0, hc1, hc2⟩ := hb
  rw [hc] at hw
  obtain ⟨j, hj0, hj1, hj2⟩ := hj
  generalize hwv : wordX ⟨23, d, n, m, imm, kind⟩ = w at hw
  have ec : cand w j = ⟨23, d, n, m, imm, kind⟩ := by unfold cand; rw [hj1, hj2, show w % 32 = d by omega]; obtain ⟨_, h2⟩ := h; congr 1 <;> omega
  have ht := tail_cand (w := w) hj0 (by rw [ec]; exact good_iff.2 ⟨hg, hwv⟩)
  rw [ec] at ht
  clear hg hwv ec hj1 hj2 hk hc
  have e_memX : memX w = none := by
    unfold memX
    rw [if_neg (by omega)]
    rw [if_neg (by omega)]
    rw [if_neg (by omega)]
    rw [if_neg (by omega)]
  have e_movX : movX w = none := by
    unfold movX aluZ aluX
    rw [if_neg (by omega)]
    rw [if_neg (by omega)]
    rw [if_neg (by omega)]
    rw [if_neg (by omega)]
    rw [if_neg (by omega)]
    rw [if_neg (by omega)]
    rw [if_neg (by omega)]
    rw [if_neg (by omega)]
  have e_brX : brX w = none := by
    unfold brX signZ
    rw [if_neg (by omega)]
    rw [if_neg (by omega)]
    rw [if_neg (by omega)]
    rw [if_neg (by omega)]
    rw [if_neg (by omega)]
  have e_othX : othX w = some ⟨23, d, n, m, imm, kind⟩ := by
    unfold othX barZ
    rw [if_neg (by omega)]
    rw [if_neg (by omega)]
    rw [if_neg (by omega)]
    rw [if_neg (by omega)]
    exact ht
  unfold decX
  rw [e_memX, Option.none_or, e_movX, Option.none_or, e_brX, Option.none_or, e_othX]

theorem dec_word {x : X} (h : rightP x) : decX (wordX x) = some x := by
  obtain ⟨op, d, n, m, imm, kind⟩ := x
  have h' := h
  unfold rightP at h'
  simp only at h'
  rcases h' with h' | h' | h' | h' | h' | h' | h' | h' | h' | h' | h' | h' | h' | h' | h' | h' | h' | h' | h' | h' | h' | h' | h'

  · obtain ⟨rfl, _⟩ := h'; exact decw1 h
  · obtain ⟨rfl, _⟩ := h'; exact decw2 h
  · obtain ⟨rfl, _⟩ := h'; exact decw3 h
  · obtain ⟨rfl, _⟩ := h'; exact decw4 h
  · obtain ⟨rfl, _⟩ := h'; exact decw5 h
  · obtain ⟨rfl, _⟩ := h'; exact decw6 h
  · obtain ⟨rfl, _⟩ := h'; exact decw7 h
  · obtain ⟨rfl, _⟩ := h'; exact decw8 h
  · obtain ⟨rfl, _⟩ := h'; exact decw9 h
  · obtain ⟨rfl, _⟩ := h'; exact decw10 h
  · obtain ⟨rfl, _⟩ := h'; exact decw11 h
  · obtain ⟨rfl, _⟩ := h'; exact decw12 h
  · obtain ⟨rfl, _⟩ := h'; exact decw13 h
  · obtain ⟨rfl, _⟩ := h'; exact decw14 h
  · obtain ⟨rfl, _⟩ := h'; exact decw15 h
  · obtain ⟨rfl, _⟩ := h'; exact decw16 h
  · obtain ⟨rfl, _⟩ := h'; exact decw17 h
  · obtain ⟨rfl, _⟩ := h'; exact decw18 h
  · obtain ⟨rfl, _⟩ := h'; exact decw19 h
  · obtain ⟨rfl, _⟩ := h'; exact decw20 h
  · obtain ⟨rfl, _⟩ := h'; exact decw21 h
  · obtain ⟨rfl, _⟩ := h'; exact decw22 h
  · obtain ⟨rfl, _⟩ := h'; exact decw23 h
theorem word_inj {x y : X} (hx : rightP x) (hy : rightP y) (h : wordX x = wordX y) : x = y := by
  have h1 := dec_word hx
  rw [h, dec_word hy] at h1
  exact (Option.some.inj h1).symm

end Go.Proofs.Ytdlodacogldinaa