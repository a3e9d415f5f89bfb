/- Each instruction that is right is told by a text that is read as it. (Written by gen_roun.py.) -/
import Derived.Test.YtdlodacogldinaaTold
import Derived.Test.YtdlodacogldinaaPrintb
namespace Go.Proofs.Ytdlodacogldinaa
open Go.RowKit
set_option linter.unusedSimpArgs false
set_option linter.unusedVariables false

/-- Bytes of a word. -/
def okB (l : List UInt8) : Bool := l.all fun c => !sepC c && decide (c.toNat < 128)
def ascB (l : List UInt8) : Bool := l.all fun c => decide (c.toNat < 128)
theorem okB_app (a c : List UInt8) : okB (a ++ c) = (okB a && okB c) := by unfold okB; rw [List.all_append]
theorem okB_word {l : List UInt8} (h : okB l = true) (hn : l ≠ []) : isWord l := by
  refine ⟨hn, fun c hc => ?_⟩
  have := List.all_eq_true.1 h c hc
  simp at this
  exact this.1
theorem okB_asc {l : List UInt8} (h : okB l = true) : ascB l = true := by
  unfold ascB
  rw [List.all_eq_true]
  intro c hc
  have := List.all_eq_true.1 h c hc
  simp at this
  simpa using this.2
theorem ascB_app (a c : List UInt8) : ascB (a ++ c) = (ascB a && ascB c) := by unfold ascB; rw [List.all_append]
theorem ascB_cons (x : UInt8) (l : List UInt8) : ascB (x :: l) = (decide (x.toNat < 128) && ascB l) := by unfold ascB; rw [List.all_cons]
theorem ascB_all {l : List UInt8} (h : ascB l = true) : ∀ c ∈ l, c.toNat < 128 := fun c hc => by simpa using List.all_eq_true.1 h c hc
theorem digB_ok : ∀ d : Fin 10, okB [digB d.val] = true := by decide +kernel
theorem decL_ok (k : Nat) : ∀ n, n < 10 ^ (k + 1) → okB (decL n) = true := by
  induction k with
  | zero => intro n h; rw [decL_eq, if_pos (by simpa using h)]; exact digB_ok ⟨n, by simpa using h⟩
  | succ k ih =>
    intro n h
    rw [decL_eq]
    split
    · exact digB_ok ⟨n, by omega⟩
    · rw [okB_app, ih (n / 10) (by rw [Nat.pow_succ] at h; omega), digB_ok ⟨n % 10, by omega⟩]
      rfl
theorem intL_ok {i : Int} (h0 : -10000000000 < i) (h1 : i < 10000000000) : okB (intL i) = true := by
  have := decL_ok 10 i.natAbs (by omega)
  unfold intL
  split
  · rw [show (45 :: decL i.natAbs) = [45] ++ decL i.natAbs from rfl, okB_app, this]; rfl
  · exact this
theorem hash_ok {i : Int} (h0 : -10000000000 < i) (h1 : i < 10000000000) : okB (35 :: intL i) = true := by
  rw [show (35 :: intL i) = [35] ++ intL i from rfl, okB_app, intL_ok h0 h1]; rfl
theorem regL_ok {i : Int} (h : 0 ≤ i ∧ i ≤ 31) : okB (regL i) = true := by
  unfold regL
  split
  · rfl
  · rw [show (88 :: intL i) = [88] ++ intL i from rfl, okB_app, intL_ok (by omega) (by omega)]; rfl
theorem regL_nil (i : Int) : regL i ≠ [] := by unfold regL; split <;> simp
theorem targetL_ok {i : Int} (h0 : -10000000000 < i) (h1 : i < 10000000000) : okB (targetL i) = true := by
  unfold targetL
  split
  · rw [show (46 :: intL i) = [46] ++ intL i from rfl, okB_app, intL_ok h0 h1]; rfl
  · rw [okB_app, intL_ok h0 h1]; rfl
theorem targetL_nil (i : Int) : targetL i ≠ [] := by unfold targetL; split <;> simp
theorem barrierL_ok : ∀ b : Fin 16, (b.val = 9 ∨ b.val = 10 ∨ b.val = 11 ∨ b.val = 13 ∨ b.val = 14 ∨ b.val = 15) → okB (barrierL (b.val : Int)) = true ∧ barrierL (b.val : Int) ≠ [] := by decide +kernel
theorem flushL_ok : ∀ b : Fin 8, okB (flushL (b.val : Int)) = true ∧ flushL (b.val : Int) ≠ [] := by decide +kernel
theorem systemL_ok : ∀ b : Fin 3, okB (systemL (b.val : Int)) = true ∧ systemL (b.val : Int) ≠ [] := by decide +kernel
theorem wordsL_last {t : List UInt8} (h : isWord t) : wordsL t = [t] := by
  have := wordsL_cons (r := []) h (.inl rfl)
  rw [List.append_nil, wordsL_nil] at this
  exact this

/-- An instruction is told by a text that is read as it. -/
def Told (x : X) : Prop := ∃ (T : List UInt8) (ws : List (List UInt8)), (∀ w, Calls Try.prog 5 #[instrV x] w (RetB (.string ⟨(T).toArray⟩) w)) ∧ T.length ≤ 1000 ∧ (∀ c ∈ T, c.toNat < 128) ∧ wordsL T = ws ∧ ws ≠ [] ∧
  ∀ B w, Rd w B ws → Calls Try.prog 22 #[(.pointer (some ⟨B, 0, none⟩))] w (RetR B (instrV x) [] w)

set_option maxHeartbeats 2000000 in
theorem told_1 (hr : rightP ⟨1, 0, 0, 0, 0, 0⟩) : Told ⟨1, 0, 0, 0, 0, 0⟩ := by
  refine ⟨[78, 79, 80], [[78, 79, 80]], fun w => print_1 hr w, ?_, ?_, ?_, by simp, fun B w h => instr_1 B w h⟩
  · simp only [List.length_cons, List.length_append, List.length_nil]; omega
  · refine ascB_all ?_
    simp only [ascB_cons]
    try rfl
  · rw [wordsL_last (t := [78, 79, 80]) (okB_word (by decide) (by decide))]

set_option maxHeartbeats 2000000 in
theorem told_20 (hr : rightP ⟨20, 0, 0, 0, 0, 0⟩) : Told ⟨20, 0, 0, 0, 0, 0⟩ := by
  refine ⟨[73, 83, 66], [[73, 83, 66]], fun w => print_20 hr w, ?_, ?_, ?_, by simp, fun B w h => instr_20 B w h⟩
  · simp only [List.length_cons, List.length_append, List.length_nil]; omega
  · refine ascB_all ?_
    simp only [ascB_cons]
    try rfl
  · rw [wordsL_last (t := [73, 83, 66]) (okB_word (by decide) (by decide))]

set_option maxHeartbeats 2000000 in
theorem told_22 (hr : rightP ⟨22, 0, 0, 0, 0, 0⟩) : Told ⟨22, 0, 0, 0, 0, 0⟩ := by
  refine ⟨[69, 82, 69, 84], [[69, 82, 69, 84]], fun w => print_22 hr w, ?_, ?_, ?_, by simp, fun B w h => instr_22 B w h⟩
  · simp only [List.length_cons, List.length_append, List.length_nil]; omega
  · refine ascB_all ?_
    simp only [ascB_cons]
    try rfl
  · rw [wordsL_last (t := [69, 82, 69, 84]) (okB_word (by decide) (by decide))]

set_option maxHeartbeats 2000000 in
theorem told_2_0 (d n : Int) (hd : 0 ≤ d ∧ d ≤ 31) (hn : 0 ≤ n ∧ n ≤ 31) (hr : rightP ⟨2, d, n, 0, 0, 0⟩) : Told ⟨2, d, n, 0, 0, 0⟩ := by
  have hdo := regL_ok hd
  have hld := regL_len hd.1 hd.2
  have hno := regL_ok hn
  have hln := regL_len hn.1 hn.2
  refine ⟨76 :: 68 :: 82 :: 32 :: (regL d ++ 44 :: 91 :: (regL n ++ [93])), [[76, 68, 82], regL d, [44], [91], regL n, [93]], fun w => print_2_0 d n hd hn hr w, ?_, ?_, ?_, by simp, fun B w h => instr_2_0 B d n hd hn w h⟩
  · simp only [List.length_cons, List.length_append, List.length_nil]; omega
  · refine ascB_all ?_
    simp only [ascB_cons, ascB_app, okB_asc hdo, okB_asc hno]
    try rfl
  · rw [show (76 :: 68 :: 82 :: 32 :: (regL d ++ 44 :: 91 :: (regL n ++ [93])) : List UInt8) = ([76, 68, 82]) ++ (32 :: (regL d ++ 44 :: 91 :: (regL n ++ [93]))) from rfl, wordsL_cons (t := [76, 68, 82]) (r := 32 :: (regL d ++ 44 :: 91 :: (regL n ++ [93]))) (okB_word (by decide) (by decide)) (.inr ⟨32, _, rfl, rfl⟩)]; rw [wordsL_blank 32 _ rfl]; rw [show ((regL d ++ 44 :: 91 :: (regL n ++ [93])) : List UInt8) = (regL d) ++ (44 :: 91 :: (regL n ++ [93])) from rfl, wordsL_cons (t := regL d) (r := 44 :: 91 :: (regL n ++ [93])) (okB_word hdo (regL_nil _)) (.inr ⟨44, _, rfl, rfl⟩)]; rw [wordsL_sign 44 (91 :: (regL n ++ [93])) rfl rfl]; rw [wordsL_sign 91 ((regL n ++ [93])) rfl rfl]; rw [show ((regL n ++ [93]) : List UInt8) = (regL n) ++ ([93]) from rfl, wordsL_cons (t := regL n) (r := [93]) (okB_word hno (regL_nil _)) (.inr ⟨93, _, rfl, rfl⟩)]; rw [wordsL_sign 93 ([]) rfl rfl]; rw [wordsL_nil]

set_option maxHeartbeats 2000000 in
theorem told_2_1 (d n imm : Int) (hd : 0 ≤ d ∧ d ≤ 31) (hn : 0 ≤ n ∧ n ≤ 31) (hi : 0 ≤ imm ∧ imm ≤ 32767) (hne : ¬ imm = 0) (hr : rightP ⟨2, d, n, 0, imm, 0⟩) : Told ⟨2, d, n, 0, imm, 0⟩ := by
  have hdo := regL_ok hd
  have hld := regL_len hd.1 hd.2
  have hno := regL_ok hn
  have hln := regL_len hn.1 hn.2
  have hio := hash_ok (i := imm) (by omega) (by omega)
  have hli := intL_len (i := imm) (by omega) (by omega)
  refine ⟨76 :: 68 :: 82 :: 32 :: (regL d ++ 44 :: 91 :: (regL n ++ 44 :: ((35 :: intL imm) ++ [93]))), [[76, 68, 82], regL d, [44], [91], regL n, [44], (35 :: intL imm), [93]], fun w => print_2_1 d n imm hd hn hi hne hr w, ?_, ?_, ?_, by simp, fun B w h => instr_2_1 B d n imm hd hn ⟨hi.1, by omega⟩ w h⟩
  · simp only [List.length_cons, List.length_append, List.length_nil]; omega
  · refine ascB_all ?_
    simp only [ascB_cons, ascB_app, okB_asc hdo, okB_asc hio, okB_asc hno]
    try rfl
  · rw [show (76 :: 68 :: 82 :: 32 :: (regL d ++ 44 :: 91 :: (regL n ++ 44 :: ((35 :: intL imm) ++ [93]))) : List UInt8) = ([76, 68, 82]) ++ (32 :: (regL d ++ 44 :: 91 :: (regL n ++ 44 :: ((35 :: intL imm) ++ [93])))) from rfl, wordsL_cons (t := [76, 68, 82]) (r := 32 :: (regL d ++ 44 :: 91 :: (regL n ++ 44 :: ((35 :: intL imm) ++ [93])))) (okB_word (by decide) (by decide)) (.inr ⟨32, _, rfl, rfl⟩)]; rw [wordsL_blank 32 _ rfl]; rw [show ((regL d ++ 44 :: 91 :: (regL n ++ 44 :: ((35 :: intL imm) ++ [93]))) : List UInt8) = (regL d) ++ (44 :: 91 :: (regL n ++ 44 :: ((35 :: intL imm) ++ [93]))) from rfl, wordsL_cons (t := regL d) (r := 44 :: 91 :: (regL n ++ 44 :: ((35 :: intL imm) ++ [93]))) (okB_word hdo (regL_nil _)) (.inr ⟨44, _, rfl, rfl⟩)]; rw [wordsL_sign 44 (91 :: (regL n ++ 44 :: ((35 :: intL imm) ++ [93]))) rfl rfl]; rw [wordsL_sign 91 ((regL n ++ 44 :: ((35 :: intL imm) ++ [93]))) rfl rfl]; rw [show ((regL n ++ 44 :: ((35 :: intL imm) ++ [93])) : List UInt8) = (regL n) ++ (44 :: ((35 :: intL imm) ++ [93])) from rfl, wordsL_cons (t := regL n) (r := 44 :: ((35 :: intL imm) ++ [93])) (okB_word hno (regL_nil _)) (.inr ⟨44, _, rfl, rfl⟩)]; rw [wordsL_sign 44 (((35 :: intL imm) ++ [93])) rfl rfl]; rw [show (((35 :: intL imm) ++ [93]) : List UInt8) = ((35 :: intL imm)) ++ ([93]) from rfl, wordsL_cons (t := (35 :: intL imm)) (r := [93]) (okB_word hio (by simp)) (.inr ⟨93, _, rfl, rfl⟩)]; rw [wordsL_sign 93 ([]) rfl rfl]; rw [wordsL_nil]

set_option maxHeartbeats 2000000 in
theorem told_3_0 (d n : Int) (hd : 0 ≤ d ∧ d ≤ 31) (hn : 0 ≤ n ∧ n ≤ 31) (hr : rightP ⟨3, d, n, 0, 0, 0⟩) : Told ⟨3, d, n, 0, 0, 0⟩ := by
  have hdo := regL_ok hd
  have hld := regL_len hd.1 hd.2
  have hno := regL_ok hn
  have hln := regL_len hn.1 hn.2
  refine ⟨83 :: 84 :: 82 :: 32 :: (regL d ++ 44 :: 91 :: (regL n ++ [93])), [[83, 84, 82], regL d, [44], [91], regL n, [93]], fun w => print_3_0 d n hd hn hr w, ?_, ?_, ?_, by simp, fun B w h => instr_3_0 B d n hd hn w h⟩
  · simp only [List.length_cons, List.length_append, List.length_nil]; omega
  · refine ascB_all ?_
    simp only [ascB_cons, ascB_app, okB_asc hdo, okB_asc hno]
    try rfl
  · rw [show (83 :: 84 :: 82 :: 32 :: (regL d ++ 44 :: 91 :: (regL n ++ [93])) : List UInt8) = ([83, 84, 82]) ++ (32 :: (regL d ++ 44 :: 91 :: (regL n ++ [93]))) from rfl, wordsL_cons (t := [83, 84, 82]) (r := 32 :: (regL d ++ 44 :: 91 :: (regL n ++ [93]))) (okB_word (by decide) (by decide)) (.inr ⟨32, _, rfl, rfl⟩)]; rw [wordsL_blank 32 _ rfl]; rw [show ((regL d ++ 44 :: 91 :: (regL n ++ [93])) : List UInt8) = (regL d) ++ (44 :: 91 :: (regL n ++ [93])) from rfl, wordsL_cons (t := regL d) (r := 44 :: 91 :: (regL n ++ [93])) (okB_word hdo (regL_nil _)) (.inr ⟨44, _, rfl, rfl⟩)]; rw [wordsL_sign 44 (91 :: (regL n ++ [93])) rfl rfl]; rw [wordsL_sign 91 ((regL n ++ [93])) rfl rfl]; rw [show ((regL n ++ [93]) : List UInt8) = (regL n) ++ ([93]) from rfl, wordsL_cons (t := regL n) (r := [93]) (okB_word hno (regL_nil _)) (.inr ⟨93, _, rfl, rfl⟩)]; rw [wordsL_sign 93 ([]) rfl rfl]; rw [wordsL_nil]

set_option maxHeartbeats 2000000 in
theorem told_3_1 (d n imm : Int) (hd : 0 ≤ d ∧ d ≤ 31) (hn : 0 ≤ n ∧ n ≤ 31) (hi : 0 ≤ imm ∧ imm ≤ 32767) (hne : ¬ imm = 0) (hr : rightP ⟨3, d, n, 0, imm, 0⟩) : Told ⟨3, d, n, 0, imm, 0⟩ := by
  have hdo := regL_ok hd
  have hld := regL_len hd.1 hd.2
  have hno := regL_ok hn
  have hln := regL_len hn.1 hn.2
  have hio := hash_ok (i := imm) (by omega) (by omega)
  have hli := intL_len (i := imm) (by omega) (by omega)
  refine ⟨83 :: 84 :: 82 :: 32 :: (regL d ++ 44 :: 91 :: (regL n ++ 44 :: ((35 :: intL imm) ++ [93]))), [[83, 84, 82], regL d, [44], [91], regL n, [44], (35 :: intL imm), [93]], fun w => print_3_1 d n imm hd hn hi hne hr w, ?_, ?_, ?_, by simp, fun B w h => instr_3_1 B d n imm hd hn ⟨hi.1, by omega⟩ w h⟩
  · simp only [List.length_cons, List.length_append, List.length_nil]; omega
  · refine ascB_all ?_
    simp only [ascB_cons, ascB_app, okB_asc hdo, okB_asc hio, okB_asc hno]
    try rfl
  · rw [show (83 :: 84 :: 82 :: 32 :: (regL d ++ 44 :: 91 :: (regL n ++ 44 :: ((35 :: intL imm) ++ [93]))) : List UInt8) = ([83, 84, 82]) ++ (32 :: (regL d ++ 44 :: 91 :: (regL n ++ 44 :: ((35 :: intL imm) ++ [93])))) from rfl, wordsL_cons (t := [83, 84, 82]) (r := 32 :: (regL d ++ 44 :: 91 :: (regL n ++ 44 :: ((35 :: intL imm) ++ [93])))) (okB_word (by decide) (by decide)) (.inr ⟨32, _, rfl, rfl⟩)]; rw [wordsL_blank 32 _ rfl]; rw [show ((regL d ++ 44 :: 91 :: (regL n ++ 44 :: ((35 :: intL imm) ++ [93]))) : List UInt8) = (regL d) ++ (44 :: 91 :: (regL n ++ 44 :: ((35 :: intL imm) ++ [93]))) from rfl, wordsL_cons (t := regL d) (r := 44 :: 91 :: (regL n ++ 44 :: ((35 :: intL imm) ++ [93]))) (okB_word hdo (regL_nil _)) (.inr ⟨44, _, rfl, rfl⟩)]; rw [wordsL_sign 44 (91 :: (regL n ++ 44 :: ((35 :: intL imm) ++ [93]))) rfl rfl]; rw [wordsL_sign 91 ((regL n ++ 44 :: ((35 :: intL imm) ++ [93]))) rfl rfl]; rw [show ((regL n ++ 44 :: ((35 :: intL imm) ++ [93])) : List UInt8) = (regL n) ++ (44 :: ((35 :: intL imm) ++ [93])) from rfl, wordsL_cons (t := regL n) (r := 44 :: ((35 :: intL imm) ++ [93])) (okB_word hno (regL_nil _)) (.inr ⟨44, _, rfl, rfl⟩)]; rw [wordsL_sign 44 (((35 :: intL imm) ++ [93])) rfl rfl]; rw [show (((35 :: intL imm) ++ [93]) : List UInt8) = ((35 :: intL imm)) ++ ([93]) from rfl, wordsL_cons (t := (35 :: intL imm)) (r := [93]) (okB_word hio (by simp)) (.inr ⟨93, _, rfl, rfl⟩)]; rw [wordsL_sign 93 ([]) rfl rfl]; rw [wordsL_nil]

set_option maxHeartbeats 2000000 in
theorem told_4 (d n : Int) (hd : 0 ≤ d ∧ d ≤ 31) (hn : 0 ≤ n ∧ n ≤ 31) (hr : rightP ⟨4, d, n, 0, 0, 0⟩) : Told ⟨4, d, n, 0, 0, 0⟩ := by
  have hdo := regL_ok hd
  have hld := regL_len hd.1 hd.2
  have hno := regL_ok hn
  have hln := regL_len hn.1 hn.2
  refine ⟨76 :: 68 :: 65 :: 82 :: 32 :: (regL d ++ 44 :: 91 :: (regL n ++ [93])), [[76, 68, 65, 82], regL d, [44], [91], regL n, [93]], fun w => print_4 d n hd hn hr w, ?_, ?_, ?_, by simp, fun B w h => instr_4 B d n hd hn w h⟩
  · simp only [List.length_cons, List.length_append, List.length_nil]; omega
  · refine ascB_all ?_
    simp only [ascB_cons, ascB_app, okB_asc hdo, okB_asc hno]
    try rfl
  · rw [show (76 :: 68 :: 65 :: 82 :: 32 :: (regL d ++ 44 :: 91 :: (regL n ++ [93])) : List UInt8) = ([76, 68, 65, 82]) ++ (32 :: (regL d ++ 44 :: 91 :: (regL n ++ [93]))) from rfl, wordsL_cons (t := [76, 68, 65, 82]) (r := 32 :: (regL d ++ 44 :: 91 :: (regL n ++ [93]))) (okB_word (by decide) (by decide)) (.inr ⟨32, _, rfl, rfl⟩)]; rw [wordsL_blank 32 _ rfl]; rw [show ((regL d ++ 44 :: 91 :: (regL n ++ [93])) : List UInt8) = (regL d) ++ (44 :: 91 :: (regL n ++ [93])) from rfl, wordsL_cons (t := regL d) (r := 44 :: 91 :: (regL n ++ [93])) (okB_word hdo (regL_nil _)) (.inr ⟨44, _, rfl, rfl⟩)]; rw [wordsL_sign 44 (91 :: (regL n ++ [93])) rfl rfl]; rw [wordsL_sign 91 ((regL n ++ [93])) rfl rfl]; rw [show ((regL n ++ [93]) : List UInt8) = (regL n) ++ ([93]) from rfl, wordsL_cons (t := regL n) (r := [93]) (okB_word hno (regL_nil _)) (.inr ⟨93, _, rfl, rfl⟩)]; rw [wordsL_sign 93 ([]) rfl rfl]; rw [wordsL_nil]

set_option maxHeartbeats 2000000 in
theorem told_5 (d n : Int) (hd : 0 ≤ d ∧ d ≤ 31) (hn : 0 ≤ n ∧ n ≤ 31) (hr : rightP ⟨5, d, n, 0, 0, 0⟩) : Told ⟨5, d, n, 0, 0, 0⟩ := by
  have hdo := regL_ok hd
  have hld := regL_len hd.1 hd.2
  have hno := regL_ok hn
  have hln := regL_len hn.1 hn.2
  refine ⟨83 :: 84 :: 76 :: 82 :: 32 :: (regL d ++ 44 :: 91 :: (regL n ++ [93])), [[83, 84, 76, 82], regL d, [44], [91], regL n, [93]], fun w => print_5 d n hd hn hr w, ?_, ?_, ?_, by simp, fun B w h => instr_5 B d n hd hn w h⟩
  · simp only [List.length_cons, List.length_append, List.length_nil]; omega
  · refine ascB_all ?_
    simp only [ascB_cons, ascB_app, okB_asc hdo, okB_asc hno]
    try rfl
  · rw [show (83 :: 84 :: 76 :: 82 :: 32 :: (regL d ++ 44 :: 91 :: (regL n ++ [93])) : List UInt8) = ([83, 84, 76, 82]) ++ (32 :: (regL d ++ 44 :: 91 :: (regL n ++ [93]))) from rfl, wordsL_cons (t := [83, 84, 76, 82]) (r := 32 :: (regL d ++ 44 :: 91 :: (regL n ++ [93]))) (okB_word (by decide) (by decide)) (.inr ⟨32, _, rfl, rfl⟩)]; rw [wordsL_blank 32 _ rfl]; rw [show ((regL d ++ 44 :: 91 :: (regL n ++ [93])) : List UInt8) = (regL d) ++ (44 :: 91 :: (regL n ++ [93])) from rfl, wordsL_cons (t := regL d) (r := 44 :: 91 :: (regL n ++ [93])) (okB_word hdo (regL_nil _)) (.inr ⟨44, _, rfl, rfl⟩)]; rw [wordsL_sign 44 (91 :: (regL n ++ [93])) rfl rfl]; rw [wordsL_sign 91 ((regL n ++ [93])) rfl rfl]; rw [show ((regL n ++ [93]) : List UInt8) = (regL n) ++ ([93]) from rfl, wordsL_cons (t := regL n) (r := [93]) (okB_word hno (regL_nil _)) (.inr ⟨93, _, rfl, rfl⟩)]; rw [wordsL_sign 93 ([]) rfl rfl]; rw [wordsL_nil]

set_option maxHeartbeats 2000000 in
theorem told_6_0 (d imm : Int) (hd : 0 ≤ d ∧ d ≤ 31) (hi : 0 ≤ imm ∧ imm ≤ 65535) (hr : rightP ⟨6, d, 0, 0, imm, 0⟩) : Told ⟨6, d, 0, 0, imm, 0⟩ := by
  have hdo := regL_ok hd
  have hld := regL_len hd.1 hd.2
  have hio := hash_ok (i := imm) (by omega) (by omega)
  have hli := intL_len (i := imm) (by omega) (by omega)
  refine ⟨77 :: 79 :: 86 :: 32 :: (regL d ++ 44 :: (35 :: intL imm)), [[77, 79, 86], regL d, [44], (35 :: intL imm)], fun w => print_6_0 d imm hd hi hr w, ?_, ?_, ?_, by simp, fun B w h => instr_6_0 B d imm hd ⟨hi.1, by omega⟩ w h⟩
  · simp only [List.length_cons, List.length_append, List.length_nil]; omega
  · refine ascB_all ?_
    simp only [ascB_cons, ascB_app, okB_asc hdo, okB_asc hio]
    try rfl
  · rw [show (77 :: 79 :: 86 :: 32 :: (regL d ++ 44 :: (35 :: intL imm)) : List UInt8) = ([77, 79, 86]) ++ (32 :: (regL d ++ 44 :: (35 :: intL imm))) from rfl, wordsL_cons (t := [77, 79, 86]) (r := 32 :: (regL d ++ 44 :: (35 :: intL imm))) (okB_word (by decide) (by decide)) (.inr ⟨32, _, rfl, rfl⟩)]; rw [wordsL_blank 32 _ rfl]; rw [show ((regL d ++ 44 :: (35 :: intL imm)) : List UInt8) = (regL d) ++ (44 :: (35 :: intL imm)) from rfl, wordsL_cons (t := regL d) (r := 44 :: (35 :: intL imm)) (okB_word hdo (regL_nil _)) (.inr ⟨44, _, rfl, rfl⟩)]; rw [wordsL_sign 44 ((35 :: intL imm)) rfl rfl]; rw [wordsL_last (t := (35 :: intL imm)) (okB_word hio (by simp))]

set_option maxHeartbeats 2000000 in
theorem told_6_1 (d imm : Int) (hd : 0 ≤ d ∧ d ≤ 31) (hi : 0 ≤ imm ∧ imm ≤ 65535) (hr : rightP ⟨6, d, 0, 0, imm, 1⟩) : Told ⟨6, d, 0, 0, imm, 1⟩ := by
  have hdo := regL_ok hd
  have hld := regL_len hd.1 hd.2
  have hio := hash_ok (i := imm) (by omega) (by omega)
  have hli := intL_len (i := imm) (by omega) (by omega)
  have hko := hash_ok (i := 16) (by omega) (by omega)
  have hlk := intL_len (i := 16) (by omega) (by omega)
  refine ⟨77 :: 79 :: 86 :: 90 :: 32 :: (regL d ++ 44 :: ((35 :: intL imm) ++ 44 :: 76 :: 83 :: 76 :: 32 :: (35 :: intL 16))), [[77, 79, 86, 90], regL d, [44], (35 :: intL imm), [44], [76, 83, 76], (35 :: intL 16)], fun w => print_6_1 d imm hd hi hr w, ?_, ?_, ?_, by simp, fun B w h => instr_6_1 B d imm hd ⟨hi.1, by omega⟩ w h⟩
  · simp only [List.length_cons, List.length_append, List.length_nil]; omega
  · refine ascB_all ?_
    simp only [ascB_cons, ascB_app, okB_asc hdo, okB_asc hio, okB_asc hko]
    try rfl
  · rw [show (77 :: 79 :: 86 :: 90 :: 32 :: (regL d ++ 44 :: ((35 :: intL imm) ++ 44 :: 76 :: 83 :: 76 :: 32 :: (35 :: intL 16))) : List UInt8) = ([77, 79, 86, 90]) ++ (32 :: (regL d ++ 44 :: ((35 :: intL imm) ++ 44 :: 76 :: 83 :: 76 :: 32 :: (35 :: intL 16)))) from rfl, wordsL_cons (t := [77, 79, 86, 90]) (r := 32 :: (regL d ++ 44 :: ((35 :: intL imm) ++ 44 :: 76 :: 83 :: 76 :: 32 :: (35 :: intL 16)))) (okB_word (by decide) (by decide)) (.inr ⟨32, _, rfl, rfl⟩)]; rw [wordsL_blank 32 _ rfl]; rw [show ((regL d ++ 44 :: ((35 :: intL imm) ++ 44 :: 76 :: 83 :: 76 :: 32 :: (35 :: intL 16))) : List UInt8) = (regL d) ++ (44 :: ((35 :: intL imm) ++ 44 :: 76 :: 83 :: 76 :: 32 :: (35 :: intL 16))) from rfl, wordsL_cons (t := regL d) (r := 44 :: ((35 :: intL imm) ++ 44 :: 76 :: 83 :: 76 :: 32 :: (35 :: intL 16))) (okB_word hdo (regL_nil _)) (.inr ⟨44, _, rfl, rfl⟩)]; rw [wordsL_sign 44 (((35 :: intL imm) ++ 44 :: 76 :: 83 :: 76 :: 32 :: (35 :: intL 16))) rfl rfl]; rw [show (((35 :: intL imm) ++ 44 :: 76 :: 83 :: 76 :: 32 :: (35 :: intL 16)) : List UInt8) = ((35 :: intL imm)) ++ (44 :: 76 :: 83 :: 76 :: 32 :: (35 :: intL 16)) from rfl, wordsL_cons (t := (35 :: intL imm)) (r := 44 :: 76 :: 83 :: 76 :: 32 :: (35 :: intL 16)) (okB_word hio (by simp)) (.inr ⟨44, _, rfl, rfl⟩)]; rw [wordsL_sign 44 (76 :: 83 :: 76 :: 32 :: (35 :: intL 16)) rfl rfl]; rw [show (76 :: 83 :: 76 :: 32 :: (35 :: intL 16) : List UInt8) = ([76, 83, 76]) ++ (32 :: (35 :: intL 16)) from rfl, wordsL_cons (t := [76, 83, 76]) (r := 32 :: (35 :: intL 16)) (okB_word (by decide) (by decide)) (.inr ⟨32, _, rfl, rfl⟩)]; rw [wordsL_blank 32 _ rfl]; rw [wordsL_last (t := (35 :: intL 16)) (okB_word hko (by simp))]

set_option maxHeartbeats 2000000 in
theorem told_6_2 (d imm : Int) (hd : 0 ≤ d ∧ d ≤ 31) (hi : 0 ≤ imm ∧ imm ≤ 65535) (hr : rightP ⟨6, d, 0, 0, imm, 2⟩) : Told ⟨6, d, 0, 0, imm, 2⟩ := by
  have hdo := regL_ok hd
  have hld := regL_len hd.1 hd.2
  have hio := hash_ok (i := imm) (by omega) (by omega)
  have hli := intL_len (i := imm) (by omega) (by omega)
  have hko := hash_ok (i := 32) (by omega) (by omega)
  have hlk := intL_len (i := 32) (by omega) (by omega)
  refine ⟨77 :: 79 :: 86 :: 90 :: 32 :: (regL d ++ 44 :: ((35 :: intL imm) ++ 44 :: 76 :: 83 :: 76 :: 32 :: (35 :: intL 32))), [[77, 79, 86, 90], regL d, [44], (35 :: intL imm), [44], [76, 83, 76], (35 :: intL 32)], fun w => print_6_2 d imm hd hi hr w, ?_, ?_, ?_, by simp, fun B w h => instr_6_2 B d imm hd ⟨hi.1, by omega⟩ w h⟩
  · simp only [List.length_cons, List.length_append, List.length_nil]; omega
  · refine ascB_all ?_
    simp only [ascB_cons, ascB_app, okB_asc hdo, okB_asc hio, okB_asc hko]
    try rfl
  · rw [show (77 :: 79 :: 86 :: 90 :: 32 :: (regL d ++ 44 :: ((35 :: intL imm) ++ 44 :: 76 :: 83 :: 76 :: 32 :: (35 :: intL 32))) : List UInt8) = ([77, 79, 86, 90]) ++ (32 :: (regL d ++ 44 :: ((35 :: intL imm) ++ 44 :: 76 :: 83 :: 76 :: 32 :: (35 :: intL 32)))) from rfl, wordsL_cons (t := [77, 79, 86, 90]) (r := 32 :: (regL d ++ 44 :: ((35 :: intL imm) ++ 44 :: 76 :: 83 :: 76 :: 32 :: (35 :: intL 32)))) (okB_word (by decide) (by decide)) (.inr ⟨32, _, rfl, rfl⟩)]; rw [wordsL_blank 32 _ rfl]; rw [show ((regL d ++ 44 :: ((35 :: intL imm) ++ 44 :: 76 :: 83 :: 76 :: 32 :: (35 :: intL 32))) : List UInt8) = (regL d) ++ (44 :: ((35 :: intL imm) ++ 44 :: 76 :: 83 :: 76 :: 32 :: (35 :: intL 32))) from rfl, wordsL_cons (t := regL d) (r := 44 :: ((35 :: intL imm) ++ 44 :: 76 :: 83 :: 76 :: 32 :: (35 :: intL 32))) (okB_word hdo (regL_nil _)) (.inr ⟨44, _, rfl, rfl⟩)]; rw [wordsL_sign 44 (((35 :: intL imm) ++ 44 :: 76 :: 83 :: 76 :: 32 :: (35 :: intL 32))) rfl rfl]; rw [show (((35 :: intL imm) ++ 44 :: 76 :: 83 :: 76 :: 32 :: (35 :: intL 32)) : List UInt8) = ((35 :: intL imm)) ++ (44 :: 76 :: 83 :: 76 :: 32 :: (35 :: intL 32)) from rfl, wordsL_cons (t := (35 :: intL imm)) (r := 44 :: 76 :: 83 :: 76 :: 32 :: (35 :: intL 32)) (okB_word hio (by simp)) (.inr ⟨44, _, rfl, rfl⟩)]; rw [wordsL_sign 44 (76 :: 83 :: 76 :: 32 :: (35 :: intL 32)) rfl rfl]; rw [show (76 :: 83 :: 76 :: 32 :: (35 :: intL 32) : List UInt8) = ([76, 83, 76]) ++ (32 :: (35 :: intL 32)) from rfl, wordsL_cons (t := [76, 83, 76]) (r := 32 :: (35 :: intL 32)) (okB_word (by decide) (by decide)) (.inr ⟨32, _, rfl, rfl⟩)]; rw [wordsL_blank 32 _ rfl]; rw [wordsL_last (t := (35 :: intL 32)) (okB_word hko (by simp))]

set_option maxHeartbeats 2000000 in
theorem told_6_3 (d imm : Int) (hd : 0 ≤ d ∧ d ≤ 31) (hi : 0 ≤ imm ∧ imm ≤ 65535) (hr : rightP ⟨6, d, 0, 0, imm, 3⟩) : Told ⟨6, d, 0, 0, imm, 3⟩ := by
  have hdo := regL_ok hd
  have hld := regL_len hd.1 hd.2
  have hio := hash_ok (i := imm) (by omega) (by omega)
  have hli := intL_len (i := imm) (by omega) (by omega)
  have hko := hash_ok (i := 48) (by omega) (by omega)
  have hlk := intL_len (i := 48) (by omega) (by omega)
  refine ⟨77 :: 79 :: 86 :: 90 :: 32 :: (regL d ++ 44 :: ((35 :: intL imm) ++ 44 :: 76 :: 83 :: 76 :: 32 :: (35 :: intL 48))), [[77, 79, 86, 90], regL d, [44], (35 :: intL imm), [44], [76, 83, 76], (35 :: intL 48)], fun w => print_6_3 d imm hd hi hr w, ?_, ?_, ?_, by simp, fun B w h => instr_6_3 B d imm hd ⟨hi.1, by omega⟩ w h⟩
  · simp only [List.length_cons, List.length_append, List.length_nil]; omega
  · refine ascB_all ?_
    simp only [ascB_cons, ascB_app, okB_asc hdo, okB_asc hio, okB_asc hko]
    try rfl
  · rw [show (77 :: 79 :: 86 :: 90 :: 32 :: (regL d ++ 44 :: ((35 :: intL imm) ++ 44 :: 76 :: 83 :: 76 :: 32 :: (35 :: intL 48))) : List UInt8) = ([77, 79, 86, 90]) ++ (32 :: (regL d ++ 44 :: ((35 :: intL imm) ++ 44 :: 76 :: 83 :: 76 :: 32 :: (35 :: intL 48)))) from rfl, wordsL_cons (t := [77, 79, 86, 90]) (r := 32 :: (regL d ++ 44 :: ((35 :: intL imm) ++ 44 :: 76 :: 83 :: 76 :: 32 :: (35 :: intL 48)))) (okB_word (by decide) (by decide)) (.inr ⟨32, _, rfl, rfl⟩)]; rw [wordsL_blank 32 _ rfl]; rw [show ((regL d ++ 44 :: ((35 :: intL imm) ++ 44 :: 76 :: 83 :: 76 :: 32 :: (35 :: intL 48))) : List UInt8) = (regL d) ++ (44 :: ((35 :: intL imm) ++ 44 :: 76 :: 83 :: 76 :: 32 :: (35 :: intL 48))) from rfl, wordsL_cons (t := regL d) (r := 44 :: ((35 :: intL imm) ++ 44 :: 76 :: 83 :: 76 :: 32 :: (35 :: intL 48))) (okB_word hdo (regL_nil _)) (.inr ⟨44, _, rfl, rfl⟩)]; rw [wordsL_sign 44 (((35 :: intL imm) ++ 44 :: 76 :: 83 :: 76 :: 32 :: (35 :: intL 48))) rfl rfl]; rw [show (((35 :: intL imm) ++ 44 :: 76 :: 83 :: 76 :: 32 :: (35 :: intL 48)) : List UInt8) = ((35 :: intL imm)) ++ (44 :: 76 :: 83 :: 76 :: 32 :: (35 :: intL 48)) from rfl, wordsL_cons (t := (35 :: intL imm)) (r := 44 :: 76 :: 83 :: 76 :: 32 :: (35 :: intL 48)) (okB_word hio (by simp)) (.inr ⟨44, _, rfl, rfl⟩)]; rw [wordsL_sign 44 (76 :: 83 :: 76 :: 32 :: (35 :: intL 48)) rfl rfl]; rw [show (76 :: 83 :: 76 :: 32 :: (35 :: intL 48) : List UInt8) = ([76, 83, 76]) ++ (32 :: (35 :: intL 48)) from rfl, wordsL_cons (t := [76, 83, 76]) (r := 32 :: (35 :: intL 48)) (okB_word (by decide) (by decide)) (.inr ⟨32, _, rfl, rfl⟩)]; rw [wordsL_blank 32 _ rfl]; rw [wordsL_last (t := (35 :: intL 48)) (okB_word hko (by simp))]

set_option maxHeartbeats 2000000 in
theorem told_7 (d n imm : Int) (hd : 0 ≤ d ∧ d ≤ 31) (hn : 0 ≤ n ∧ n ≤ 31) (hi : 0 ≤ imm ∧ imm ≤ 4095) (hr : rightP ⟨7, d, n, 0, imm, 0⟩) : Told ⟨7, d, n, 0, imm, 0⟩ := by
  have hdo := regL_ok hd
  have hld := regL_len hd.1 hd.2
  have hno := regL_ok hn
  have hln := regL_len hn.1 hn.2
  have hio := hash_ok (i := imm) (by omega) (by omega)
  have hli := intL_len (i := imm) (by omega) (by omega)
  refine ⟨65 :: 68 :: 68 :: 32 :: (regL d ++ 44 :: (regL n ++ 44 :: (35 :: intL imm))), [[65, 68, 68], regL d, [44], regL n, [44], (35 :: intL imm)], fun w => print_7 d n imm hd hn hi hr w, ?_, ?_, ?_, by simp, fun B w h => instr_7 B d n imm hd hn ⟨hi.1, by omega⟩ w h⟩
  · simp only [List.length_cons, List.length_append, List.length_nil]; omega
  · refine ascB_all ?_
    simp only [ascB_cons, ascB_app, okB_asc hdo, okB_asc hio, okB_asc hno]
    try rfl
  · rw [show (65 :: 68 :: 68 :: 32 :: (regL d ++ 44 :: (regL n ++ 44 :: (35 :: intL imm))) : List UInt8) = ([65, 68, 68]) ++ (32 :: (regL d ++ 44 :: (regL n ++ 44 :: (35 :: intL imm)))) from rfl, wordsL_cons (t := [65, 68, 68]) (r := 32 :: (regL d ++ 44 :: (regL n ++ 44 :: (35 :: intL imm)))) (okB_word (by decide) (by decide)) (.inr ⟨32, _, rfl, rfl⟩)]; rw [wordsL_blank 32 _ rfl]; rw [show ((regL d ++ 44 :: (regL n ++ 44 :: (35 :: intL imm))) : List UInt8) = (regL d) ++ (44 :: (regL n ++ 44 :: (35 :: intL imm))) from rfl, wordsL_cons (t := regL d) (r := 44 :: (regL n ++ 44 :: (35 :: intL imm))) (okB_word hdo (regL_nil _)) (.inr ⟨44, _, rfl, rfl⟩)]; rw [wordsL_sign 44 ((regL n ++ 44 :: (35 :: intL imm))) rfl rfl]; rw [show ((regL n ++ 44 :: (35 :: intL imm)) : List UInt8) = (regL n) ++ (44 :: (35 :: intL imm)) from rfl, wordsL_cons (t := regL n) (r := 44 :: (35 :: intL imm)) (okB_word hno (regL_nil _)) (.inr ⟨44, _, rfl, rfl⟩)]; rw [wordsL_sign 44 ((35 :: intL imm)) rfl rfl]; rw [wordsL_last (t := (35 :: intL imm)) (okB_word hio (by simp))]

set_option maxHeartbeats 2000000 in
theorem told_8 (d n m : Int) (hd : 0 ≤ d ∧ d ≤ 31) (hn : 0 ≤ n ∧ n ≤ 31) (hm : 0 ≤ m ∧ m ≤ 31) (hr : rightP ⟨8, d, n, m, 0, 0⟩) : Told ⟨8, d, n, m, 0, 0⟩ := by
  have hdo := regL_ok hd
  have hld := regL_len hd.1 hd.2
  have hno := regL_ok hn
  have hln := regL_len hn.1 hn.2
  have hmo := regL_ok hm
  have hlm := regL_len hm.1 hm.2
  refine ⟨65 :: 68 :: 68 :: 32 :: (regL d ++ 44 :: (regL n ++ 44 :: regL m)), [[65, 68, 68], regL d, [44], regL n, [44], regL m], fun w => print_8 d n m hd hn hm hr w, ?_, ?_, ?_, by simp, fun B w h => instr_8 B d n m hd hn hm w h⟩
  · simp only [List.length_cons, List.length_append, List.length_nil]; omega
  · refine ascB_all ?_
    simp only [ascB_cons, ascB_app, okB_asc hdo, okB_asc hmo, okB_asc hno]
    try rfl
  · rw [show (65 :: 68 :: 68 :: 32 :: (regL d ++ 44 :: (regL n ++ 44 :: regL m)) : List UInt8) = ([65, 68, 68]) ++ (32 :: (regL d ++ 44 :: (regL n ++ 44 :: regL m))) from rfl, wordsL_cons (t := [65, 68, 68]) (r := 32 :: (regL d ++ 44 :: (regL n ++ 44 :: regL m))) (okB_word (by decide) (by decide)) (.inr ⟨32, _, rfl, rfl⟩)]; rw [wordsL_blank 32 _ rfl]; rw [show ((regL d ++ 44 :: (regL n ++ 44 :: regL m)) : List UInt8) = (regL d) ++ (44 :: (regL n ++ 44 :: regL m)) from rfl, wordsL_cons (t := regL d) (r := 44 :: (regL n ++ 44 :: regL m)) (okB_word hdo (regL_nil _)) (.inr ⟨44, _, rfl, rfl⟩)]; rw [wordsL_sign 44 ((regL n ++ 44 :: regL m)) rfl rfl]; rw [show ((regL n ++ 44 :: regL m) : List UInt8) = (regL n) ++ (44 :: regL m) from rfl, wordsL_cons (t := regL n) (r := 44 :: regL m) (okB_word hno (regL_nil _)) (.inr ⟨44, _, rfl, rfl⟩)]; rw [wordsL_sign 44 (regL m) rfl rfl]; rw [wordsL_last (t := regL m) (okB_word hmo (regL_nil _))]

set_option maxHeartbeats 2000000 in
theorem told_9 (d n m : Int) (hd : 0 ≤ d ∧ d ≤ 31) (hn : 0 ≤ n ∧ n ≤ 31) (hm : 0 ≤ m ∧ m ≤ 31) (hr : rightP ⟨9, d, n, m, 0, 0⟩) : Told ⟨9, d, n, m, 0, 0⟩ := by
  have hdo := regL_ok hd
  have hld := regL_len hd.1 hd.2
  have hno := regL_ok hn
  have hln := regL_len hn.1 hn.2
  have hmo := regL_ok hm
  have hlm := regL_len hm.1 hm.2
  refine ⟨83 :: 85 :: 66 :: 32 :: (regL d ++ 44 :: (regL n ++ 44 :: regL m)), [[83, 85, 66], regL d, [44], regL n, [44], regL m], fun w => print_9 d n m hd hn hm hr w, ?_, ?_, ?_, by simp, fun B w h => instr_9 B d n m hd hn hm w h⟩
  · simp only [List.length_cons, List.length_append, List.length_nil]; omega
  · refine ascB_all ?_
    simp only [ascB_cons, ascB_app, okB_asc hdo, okB_asc hmo, okB_asc hno]
    try rfl
  · rw [show (83 :: 85 :: 66 :: 32 :: (regL d ++ 44 :: (regL n ++ 44 :: regL m)) : List UInt8) = ([83, 85, 66]) ++ (32 :: (regL d ++ 44 :: (regL n ++ 44 :: regL m))) from rfl, wordsL_cons (t := [83, 85, 66]) (r := 32 :: (regL d ++ 44 :: (regL n ++ 44 :: regL m))) (okB_word (by decide) (by decide)) (.inr ⟨32, _, rfl, rfl⟩)]; rw [wordsL_blank 32 _ rfl]; rw [show ((regL d ++ 44 :: (regL n ++ 44 :: regL m)) : List UInt8) = (regL d) ++ (44 :: (regL n ++ 44 :: regL m)) from rfl, wordsL_cons (t := regL d) (r := 44 :: (regL n ++ 44 :: regL m)) (okB_word hdo (regL_nil _)) (.inr ⟨44, _, rfl, rfl⟩)]; rw [wordsL_sign 44 ((regL n ++ 44 :: regL m)) rfl rfl]; rw [show ((regL n ++ 44 :: regL m) : List UInt8) = (regL n) ++ (44 :: regL m) from rfl, wordsL_cons (t := regL n) (r := 44 :: regL m) (okB_word hno (regL_nil _)) (.inr ⟨44, _, rfl, rfl⟩)]; rw [wordsL_sign 44 (regL m) rfl rfl]; rw [wordsL_last (t := regL m) (okB_word hmo (regL_nil _))]

set_option maxHeartbeats 2000000 in
theorem told_10 (d n m : Int) (hd : 0 ≤ d ∧ d ≤ 31) (hn : 0 ≤ n ∧ n ≤ 31) (hm : 0 ≤ m ∧ m ≤ 31) (hr : rightP ⟨10, d, n, m, 0, 0⟩) : Told ⟨10, d, n, m, 0, 0⟩ := by
  have hdo := regL_ok hd
  have hld := regL_len hd.1 hd.2
  have hno := regL_ok hn
  have hln := regL_len hn.1 hn.2
  have hmo := regL_ok hm
  have hlm := regL_len hm.1 hm.2
  refine ⟨65 :: 78 :: 68 :: 32 :: (regL d ++ 44 :: (regL n ++ 44 :: regL m)), [[65, 78, 68], regL d, [44], regL n, [44], regL m], fun w => print_10 d n m hd hn hm hr w, ?_, ?_, ?_, by simp, fun B w h => instr_10 B d n m hd hn hm w h⟩
  · simp only [List.length_cons, List.length_append, List.length_nil]; omega
  · refine ascB_all ?_
    simp only [ascB_cons, ascB_app, okB_asc hdo, okB_asc hmo, okB_asc hno]
    try rfl
  · rw [show (65 :: 78 :: 68 :: 32 :: (regL d ++ 44 :: (regL n ++ 44 :: regL m)) : List UInt8) = ([65, 78, 68]) ++ (32 :: (regL d ++ 44 :: (regL n ++ 44 :: regL m))) from rfl, wordsL_cons (t := [65, 78, 68]) (r := 32 :: (regL d ++ 44 :: (regL n ++ 44 :: regL m))) (okB_word (by decide) (by decide)) (.inr ⟨32, _, rfl, rfl⟩)]; rw [wordsL_blank 32 _ rfl]; rw [show ((regL d ++ 44 :: (regL n ++ 44 :: regL m)) : List UInt8) = (regL d) ++ (44 :: (regL n ++ 44 :: regL m)) from rfl, wordsL_cons (t := regL d) (r := 44 :: (regL n ++ 44 :: regL m)) (okB_word hdo (regL_nil _)) (.inr ⟨44, _, rfl, rfl⟩)]; rw [wordsL_sign 44 ((regL n ++ 44 :: regL m)) rfl rfl]; rw [show ((regL n ++ 44 :: regL m) : List UInt8) = (regL n) ++ (44 :: regL m) from rfl, wordsL_cons (t := regL n) (r := 44 :: regL m) (okB_word hno (regL_nil _)) (.inr ⟨44, _, rfl, rfl⟩)]; rw [wordsL_sign 44 (regL m) rfl rfl]; rw [wordsL_last (t := regL m) (okB_word hmo (regL_nil _))]

set_option maxHeartbeats 2000000 in
theorem told_11 (d n m : Int) (hd : 0 ≤ d ∧ d ≤ 31) (hn : 0 ≤ n ∧ n ≤ 31) (hm : 0 ≤ m ∧ m ≤ 31) (hr : rightP ⟨11, d, n, m, 0, 0⟩) : Told ⟨11, d, n, m, 0, 0⟩ := by
  have hdo := regL_ok hd
  have hld := regL_len hd.1 hd.2
  have hno := regL_ok hn
  have hln := regL_len hn.1 hn.2
  have hmo := regL_ok hm
  have hlm := regL_len hm.1 hm.2
  refine ⟨79 :: 82 :: 82 :: 32 :: (regL d ++ 44 :: (regL n ++ 44 :: regL m)), [[79, 82, 82], regL d, [44], regL n, [44], regL m], fun w => print_11 d n m hd hn hm hr w, ?_, ?_, ?_, by simp, fun B w h => instr_11 B d n m hd hn hm w h⟩
  · simp only [List.length_cons, List.length_append, List.length_nil]; omega
  · refine ascB_all ?_
    simp only [ascB_cons, ascB_app, okB_asc hdo, okB_asc hmo, okB_asc hno]
    try rfl
  · rw [show (79 :: 82 :: 82 :: 32 :: (regL d ++ 44 :: (regL n ++ 44 :: regL m)) : List UInt8) = ([79, 82, 82]) ++ (32 :: (regL d ++ 44 :: (regL n ++ 44 :: regL m))) from rfl, wordsL_cons (t := [79, 82, 82]) (r := 32 :: (regL d ++ 44 :: (regL n ++ 44 :: regL m))) (okB_word (by decide) (by decide)) (.inr ⟨32, _, rfl, rfl⟩)]; rw [wordsL_blank 32 _ rfl]; rw [show ((regL d ++ 44 :: (regL n ++ 44 :: regL m)) : List UInt8) = (regL d) ++ (44 :: (regL n ++ 44 :: regL m)) from rfl, wordsL_cons (t := regL d) (r := 44 :: (regL n ++ 44 :: regL m)) (okB_word hdo (regL_nil _)) (.inr ⟨44, _, rfl, rfl⟩)]; rw [wordsL_sign 44 ((regL n ++ 44 :: regL m)) rfl rfl]; rw [show ((regL n ++ 44 :: regL m) : List UInt8) = (regL n) ++ (44 :: regL m) from rfl, wordsL_cons (t := regL n) (r := 44 :: regL m) (okB_word hno (regL_nil _)) (.inr ⟨44, _, rfl, rfl⟩)]; rw [wordsL_sign 44 (regL m) rfl rfl]; rw [wordsL_last (t := regL m) (okB_word hmo (regL_nil _))]

set_option maxHeartbeats 2000000 in
theorem told_12 (d n m : Int) (hd : 0 ≤ d ∧ d ≤ 31) (hn : 0 ≤ n ∧ n ≤ 31) (hm : 0 ≤ m ∧ m ≤ 31) (hr : rightP ⟨12, d, n, m, 0, 0⟩) : Told ⟨12, d, n, m, 0, 0⟩ := by
  have hdo := regL_ok hd
  have hld := regL_len hd.1 hd.2
  have hno := regL_ok hn
  have hln := regL_len hn.1 hn.2
  have hmo := regL_ok hm
  have hlm := regL_len hm.1 hm.2
  refine ⟨69 :: 79 :: 82 :: 32 :: (regL d ++ 44 :: (regL n ++ 44 :: regL m)), [[69, 79, 82], regL d, [44], regL n, [44], regL m], fun w => print_12 d n m hd hn hm hr w, ?_, ?_, ?_, by simp, fun B w h => instr_12 B d n m hd hn hm w h⟩
  · simp only [List.length_cons, List.length_append, List.length_nil]; omega
  · refine ascB_all ?_
    simp only [ascB_cons, ascB_app, okB_asc hdo, okB_asc hmo, okB_asc hno]
    try rfl
  · rw [show (69 :: 79 :: 82 :: 32 :: (regL d ++ 44 :: (regL n ++ 44 :: regL m)) : List UInt8) = ([69, 79, 82]) ++ (32 :: (regL d ++ 44 :: (regL n ++ 44 :: regL m))) from rfl, wordsL_cons (t := [69, 79, 82]) (r := 32 :: (regL d ++ 44 :: (regL n ++ 44 :: regL m))) (okB_word (by decide) (by decide)) (.inr ⟨32, _, rfl, rfl⟩)]; rw [wordsL_blank 32 _ rfl]; rw [show ((regL d ++ 44 :: (regL n ++ 44 :: regL m)) : List UInt8) = (regL d) ++ (44 :: (regL n ++ 44 :: regL m)) from rfl, wordsL_cons (t := regL d) (r := 44 :: (regL n ++ 44 :: regL m)) (okB_word hdo (regL_nil _)) (.inr ⟨44, _, rfl, rfl⟩)]; rw [wordsL_sign 44 ((regL n ++ 44 :: regL m)) rfl rfl]; rw [show ((regL n ++ 44 :: regL m) : List UInt8) = (regL n) ++ (44 :: regL m) from rfl, wordsL_cons (t := regL n) (r := 44 :: regL m) (okB_word hno (regL_nil _)) (.inr ⟨44, _, rfl, rfl⟩)]; rw [wordsL_sign 44 (regL m) rfl rfl]; rw [wordsL_last (t := regL m) (okB_word hmo (regL_nil _))]

set_option maxHeartbeats 2000000 in
theorem told_13 (d n m : Int) (hd : 0 ≤ d ∧ d ≤ 31) (hn : 0 ≤ n ∧ n ≤ 31) (hm : 0 ≤ m ∧ m ≤ 31) (hne : ¬ d = 31) (hr : rightP ⟨13, d, n, m, 0, 0⟩) : Told ⟨13, d, n, m, 0, 0⟩ := by
  have hdo := regL_ok hd
  have hld := regL_len hd.1 hd.2
  have hno := regL_ok hn
  have hln := regL_len hn.1 hn.2
  have hmo := regL_ok hm
  have hlm := regL_len hm.1 hm.2
  refine ⟨83 :: 85 :: 66 :: 83 :: 32 :: (regL d ++ 44 :: (regL n ++ 44 :: regL m)), [[83, 85, 66, 83], regL d, [44], regL n, [44], regL m], fun w => print_13 d n m hd hn hm hne hr w, ?_, ?_, ?_, by simp, fun B w h => instr_13 B d n m hd hn hm w h⟩
  · simp only [List.length_cons, List.length_append, List.length_nil]; omega
  · refine ascB_all ?_
    simp only [ascB_cons, ascB_app, okB_asc hdo, okB_asc hmo, okB_asc hno]
    try rfl
  · rw [show (83 :: 85 :: 66 :: 83 :: 32 :: (regL d ++ 44 :: (regL n ++ 44 :: regL m)) : List UInt8) = ([83, 85, 66, 83]) ++ (32 :: (regL d ++ 44 :: (regL n ++ 44 :: regL m))) from rfl, wordsL_cons (t := [83, 85, 66, 83]) (r := 32 :: (regL d ++ 44 :: (regL n ++ 44 :: regL m))) (okB_word (by decide) (by decide)) (.inr ⟨32, _, rfl, rfl⟩)]; rw [wordsL_blank 32 _ rfl]; rw [show ((regL d ++ 44 :: (regL n ++ 44 :: regL m)) : List UInt8) = (regL d) ++ (44 :: (regL n ++ 44 :: regL m)) from rfl, wordsL_cons (t := regL d) (r := 44 :: (regL n ++ 44 :: regL m)) (okB_word hdo (regL_nil _)) (.inr ⟨44, _, rfl, rfl⟩)]; rw [wordsL_sign 44 ((regL n ++ 44 :: regL m)) rfl rfl]; rw [show ((regL n ++ 44 :: regL m) : List UInt8) = (regL n) ++ (44 :: regL m) from rfl, wordsL_cons (t := regL n) (r := 44 :: regL m) (okB_word hno (regL_nil _)) (.inr ⟨44, _, rfl, rfl⟩)]; rw [wordsL_sign 44 (regL m) rfl rfl]; rw [wordsL_last (t := regL m) (okB_word hmo (regL_nil _))]

set_option maxHeartbeats 2000000 in
theorem told_13_c (n m : Int) (hn : 0 ≤ n ∧ n ≤ 31) (hm : 0 ≤ m ∧ m ≤ 31) (hr : rightP ⟨13, 31, n, m, 0, 0⟩) : Told ⟨13, 31, n, m, 0, 0⟩ := by
  have hno := regL_ok hn
  have hln := regL_len hn.1 hn.2
  have hmo := regL_ok hm
  have hlm := regL_len hm.1 hm.2
  refine ⟨67 :: 77 :: 80 :: 32 :: (regL n ++ 44 :: regL m), [[67, 77, 80], regL n, [44], regL m], fun w => print_13_c n m hn hm hr w, ?_, ?_, ?_, by simp, fun B w h => instr_13_c B n m hn hm w h⟩
  · simp only [List.length_cons, List.length_append, List.length_nil]; omega
  · refine ascB_all ?_
    simp only [ascB_cons, ascB_app, okB_asc hmo, okB_asc hno]
    try rfl
  · rw [show (67 :: 77 :: 80 :: 32 :: (regL n ++ 44 :: regL m) : List UInt8) = ([67, 77, 80]) ++ (32 :: (regL n ++ 44 :: regL m)) from rfl, wordsL_cons (t := [67, 77, 80]) (r := 32 :: (regL n ++ 44 :: regL m)) (okB_word (by decide) (by decide)) (.inr ⟨32, _, rfl, rfl⟩)]; rw [wordsL_blank 32 _ rfl]; rw [show ((regL n ++ 44 :: regL m) : List UInt8) = (regL n) ++ (44 :: regL m) from rfl, wordsL_cons (t := regL n) (r := 44 :: regL m) (okB_word hno (regL_nil _)) (.inr ⟨44, _, rfl, rfl⟩)]; rw [wordsL_sign 44 (regL m) rfl rfl]; rw [wordsL_last (t := regL m) (okB_word hmo (regL_nil _))]

set_option maxHeartbeats 2000000 in
theorem told_14 (imm : Int) (hi : -33554432 ≤ imm ∧ imm ≤ 33554431) (hr : rightP ⟨14, 0, 0, 0, imm, 0⟩) : Told ⟨14, 0, 0, 0, imm, 0⟩ := by
  have hto := targetL_ok (i := imm) (by omega) (by omega)
  have hlt := targetL_len (i := imm) (by omega) (by omega)
  refine ⟨66 :: 32 :: targetL imm, [[66], targetL imm], fun w => print_14 imm hi hr w, ?_, ?_, ?_, by simp, fun B w h => instr_14 B imm ⟨by omega, by omega⟩ w h⟩
  · simp only [List.length_cons, List.length_append, List.length_nil]; omega
  · refine ascB_all ?_
    simp only [ascB_cons, ascB_app, okB_asc hto]
    try rfl
  · rw [show (66 :: 32 :: targetL imm : List UInt8) = ([66]) ++ (32 :: targetL imm) from rfl, wordsL_cons (t := [66]) (r := 32 :: targetL imm) (okB_word (by decide) (by decide)) (.inr ⟨32, _, rfl, rfl⟩)]; rw [wordsL_blank 32 _ rfl]; rw [wordsL_last (t := targetL imm) (okB_word hto (targetL_nil _))]

set_option maxHeartbeats 2000000 in
theorem told_15 (d imm : Int) (hd : 0 ≤ d ∧ d ≤ 31) (hi : -33554432 ≤ imm ∧ imm ≤ 33554431) (hr : rightP ⟨15, d, 0, 0, imm, 0⟩) : Told ⟨15, d, 0, 0, imm, 0⟩ := by
  have hdo := regL_ok hd
  have hld := regL_len hd.1 hd.2
  have hto := targetL_ok (i := imm) (by omega) (by omega)
  have hlt := targetL_len (i := imm) (by omega) (by omega)
  refine ⟨67 :: 66 :: 90 :: 32 :: (regL d ++ 44 :: targetL imm), [[67, 66, 90], regL d, [44], targetL imm], fun w => print_15 d imm hd hi hr w, ?_, ?_, ?_, by simp, fun B w h => instr_15 B d imm hd ⟨by omega, by omega⟩ w h⟩
  · simp only [List.length_cons, List.length_append, List.length_nil]; omega
  · refine ascB_all ?_
    simp only [ascB_cons, ascB_app, okB_asc hdo, okB_asc hto]
    try rfl
  · rw [show (67 :: 66 :: 90 :: 32 :: (regL d ++ 44 :: targetL imm) : List UInt8) = ([67, 66, 90]) ++ (32 :: (regL d ++ 44 :: targetL imm)) from rfl, wordsL_cons (t := [67, 66, 90]) (r := 32 :: (regL d ++ 44 :: targetL imm)) (okB_word (by decide) (by decide)) (.inr ⟨32, _, rfl, rfl⟩)]; rw [wordsL_blank 32 _ rfl]; rw [show ((regL d ++ 44 :: targetL imm) : List UInt8) = (regL d) ++ (44 :: targetL imm) from rfl, wordsL_cons (t := regL d) (r := 44 :: targetL imm) (okB_word hdo (regL_nil _)) (.inr ⟨44, _, rfl, rfl⟩)]; rw [wordsL_sign 44 (targetL imm) rfl rfl]; rw [wordsL_last (t := targetL imm) (okB_word hto (targetL_nil _))]

set_option maxHeartbeats 2000000 in
theorem told_16 (d imm : Int) (hd : 0 ≤ d ∧ d ≤ 31) (hi : -33554432 ≤ imm ∧ imm ≤ 33554431) (hr : rightP ⟨16, d, 0, 0, imm, 0⟩) : Told ⟨16, d, 0, 0, imm, 0⟩ := by
  have hdo := regL_ok hd
  have hld := regL_len hd.1 hd.2
  have hto := targetL_ok (i := imm) (by omega) (by omega)
  have hlt := targetL_len (i := imm) (by omega) (by omega)
  refine ⟨67 :: 66 :: 78 :: 90 :: 32 :: (regL d ++ 44 :: targetL imm), [[67, 66, 78, 90], regL d, [44], targetL imm], fun w => print_16 d imm hd hi hr w, ?_, ?_, ?_, by simp, fun B w h => instr_16 B d imm hd ⟨by omega, by omega⟩ w h⟩
  · simp only [List.length_cons, List.length_append, List.length_nil]; omega
  · refine ascB_all ?_
    simp only [ascB_cons, ascB_app, okB_asc hdo, okB_asc hto]
    try rfl
  · rw [show (67 :: 66 :: 78 :: 90 :: 32 :: (regL d ++ 44 :: targetL imm) : List UInt8) = ([67, 66, 78, 90]) ++ (32 :: (regL d ++ 44 :: targetL imm)) from rfl, wordsL_cons (t := [67, 66, 78, 90]) (r := 32 :: (regL d ++ 44 :: targetL imm)) (okB_word (by decide) (by decide)) (.inr ⟨32, _, rfl, rfl⟩)]; rw [wordsL_blank 32 _ rfl]; rw [show ((regL d ++ 44 :: targetL imm) : List UInt8) = (regL d) ++ (44 :: targetL imm) from rfl, wordsL_cons (t := regL d) (r := 44 :: targetL imm) (okB_word hdo (regL_nil _)) (.inr ⟨44, _, rfl, rfl⟩)]; rw [wordsL_sign 44 (targetL imm) rfl rfl]; rw [wordsL_last (t := targetL imm) (okB_word hto (targetL_nil _))]

set_option maxHeartbeats 2000000 in
theorem told_17_0 (imm : Int) (hi : -33554432 ≤ imm ∧ imm ≤ 33554431) (hr : rightP ⟨17, 0, 0, 0, imm, 0⟩) : Told ⟨17, 0, 0, 0, imm, 0⟩ := by
  have hto := targetL_ok (i := imm) (by omega) (by omega)
  have hlt := targetL_len (i := imm) (by omega) (by omega)
  refine ⟨66 :: 46 :: 69 :: 81 :: 32 :: targetL imm, [[66, 46, 69, 81], targetL imm], fun w => print_17_0 imm hi hr w, ?_, ?_, ?_, by simp, fun B w h => instr_17_0 B imm ⟨by omega, by omega⟩ w h⟩
  · simp only [List.length_cons, List.length_append, List.length_nil]; omega
  · refine ascB_all ?_
    simp only [ascB_cons, ascB_app, okB_asc hto]
    try rfl
  · rw [show (66 :: 46 :: 69 :: 81 :: 32 :: targetL imm : List UInt8) = ([66, 46, 69, 81]) ++ (32 :: targetL imm) from rfl, wordsL_cons (t := [66, 46, 69, 81]) (r := 32 :: targetL imm) (okB_word (by decide) (by decide)) (.inr ⟨32, _, rfl, rfl⟩)]; rw [wordsL_blank 32 _ rfl]; rw [wordsL_last (t := targetL imm) (okB_word hto (targetL_nil _))]

set_option maxHeartbeats 2000000 in
theorem told_17_1 (imm : Int) (hi : -33554432 ≤ imm ∧ imm ≤ 33554431) (hr : rightP ⟨17, 0, 0, 0, imm, 1⟩) : Told ⟨17, 0, 0, 0, imm, 1⟩ := by
  have hto := targetL_ok (i := imm) (by omega) (by omega)
  have hlt := targetL_len (i := imm) (by omega) (by omega)
  refine ⟨66 :: 46 :: 78 :: 69 :: 32 :: targetL imm, [[66, 46, 78, 69], targetL imm], fun w => print_17_1 imm hi hr w, ?_, ?_, ?_, by simp, fun B w h => instr_17_1 B imm ⟨by omega, by omega⟩ w h⟩
  · simp only [List.length_cons, List.length_append, List.length_nil]; omega
  · refine ascB_all ?_
    simp only [ascB_cons, ascB_app, okB_asc hto]
    try rfl
  · rw [show (66 :: 46 :: 78 :: 69 :: 32 :: targetL imm : List UInt8) = ([66, 46, 78, 69]) ++ (32 :: targetL imm) from rfl, wordsL_cons (t := [66, 46, 78, 69]) (r := 32 :: targetL imm) (okB_word (by decide) (by decide)) (.inr ⟨32, _, rfl, rfl⟩)]; rw [wordsL_blank 32 _ rfl]; rw [wordsL_last (t := targetL imm) (okB_word hto (targetL_nil _))]

set_option maxHeartbeats 2000000 in
theorem told_18 (K : Nat) (hK : K < 16) (hg : (K = 9 ∨ K = 10 ∨ K = 11 ∨ K = 13 ∨ K = 14 ∨ K = 15)) (hr : rightP ⟨18, 0, 0, 0, 0, (K : Int)⟩) : Told ⟨18, 0, 0, 0, 0, (K : Int)⟩ := by
  have hb := barrierL_ok ⟨K, hK⟩ hg
  have hbo := hb.1
  have hbn := hb.2
  simp only at hbo hbn
  clear hb
  have hlb := barrierL_len (K : Int)
  refine ⟨68 :: 77 :: 66 :: 32 :: barrierL (K : Int), [[68, 77, 66], barrierL (K : Int)], fun w => print_18 (K : Int) (by omega) hr w, ?_, ?_, ?_, by simp, fun B w h => instr_18 B K hK hg w h⟩
  · simp only [List.length_cons, List.length_append, List.length_nil]; omega
  · refine ascB_all ?_
    simp only [ascB_cons, ascB_app, okB_asc hbo]
    try rfl
  · rw [show (68 :: 77 :: 66 :: 32 :: barrierL (K : Int) : List UInt8) = ([68, 77, 66]) ++ (32 :: barrierL (K : Int)) from rfl, wordsL_cons (t := [68, 77, 66]) (r := 32 :: barrierL (K : Int)) (okB_word (by decide) (by decide)) (.inr ⟨32, _, rfl, rfl⟩)]; rw [wordsL_blank 32 _ rfl]; rw [wordsL_last (t := barrierL (K : Int)) (okB_word hbo hbn)]

set_option maxHeartbeats 2000000 in
theorem told_19 (K : Nat) (hK : K < 16) (hg : (K = 9 ∨ K = 10 ∨ K = 11 ∨ K = 13 ∨ K = 14 ∨ K = 15)) (hr : rightP ⟨19, 0, 0, 0, 0, (K : Int)⟩) : Told ⟨19, 0, 0, 0, 0, (K : Int)⟩ := by
  have hb := barrierL_ok ⟨K, hK⟩ hg
  have hbo := hb.1
  have hbn := hb.2
  simp only at hbo hbn
  clear hb
  have hlb := barrierL_len (K : Int)
  refine ⟨68 :: 83 :: 66 :: 32 :: barrierL (K : Int), [[68, 83, 66], barrierL (K : Int)], fun w => print_19 (K : Int) (by omega) hr w, ?_, ?_, ?_, by simp, fun B w h => instr_19 B K hK hg w h⟩
  · simp only [List.length_cons, List.length_append, List.length_nil]; omega
  · refine ascB_all ?_
    simp only [ascB_cons, ascB_app, okB_asc hbo]
    try rfl
  · rw [show (68 :: 83 :: 66 :: 32 :: barrierL (K : Int) : List UInt8) = ([68, 83, 66]) ++ (32 :: barrierL (K : Int)) from rfl, wordsL_cons (t := [68, 83, 66]) (r := 32 :: barrierL (K : Int)) (okB_word (by decide) (by decide)) (.inr ⟨32, _, rfl, rfl⟩)]; rw [wordsL_blank 32 _ rfl]; rw [wordsL_last (t := barrierL (K : Int)) (okB_word hbo hbn)]

set_option maxHeartbeats 2000000 in
theorem told_21_0 (K : Nat) (hK : K < 8) (h4 : (K : Int) % 4 = 0) (hr : rightP ⟨21, 31, 0, 0, 0, (K : Int)⟩) : Told ⟨21, 31, 0, 0, 0, (K : Int)⟩ := by
  have hb := flushL_ok ⟨K, hK⟩
  have hbo := hb.1
  have hbn := hb.2
  simp only at hbo hbn
  clear hb
  have hlb := flushL_len (K : Int)
  refine ⟨84 :: 76 :: 66 :: 73 :: 32 :: flushL (K : Int), [[84, 76, 66, 73], flushL (K : Int)], fun w => print_21_0 31 (K : Int) (by decide) (by omega) h4 hr w, ?_, ?_, ?_, by simp, fun B w h => instr_21_0 B K hK h4 w h⟩
  · simp only [List.length_cons, List.length_append, List.length_nil]; omega
  · refine ascB_all ?_
    simp only [ascB_cons, ascB_app, okB_asc hbo]
    try rfl
  · rw [show (84 :: 76 :: 66 :: 73 :: 32 :: flushL (K : Int) : List UInt8) = ([84, 76, 66, 73]) ++ (32 :: flushL (K : Int)) from rfl, wordsL_cons (t := [84, 76, 66, 73]) (r := 32 :: flushL (K : Int)) (okB_word (by decide) (by decide)) (.inr ⟨32, _, rfl, rfl⟩)]; rw [wordsL_blank 32 _ rfl]; rw [wordsL_last (t := flushL (K : Int)) (okB_word hbo hbn)]

set_option maxHeartbeats 2000000 in
theorem told_21_1 (d : Int) (hd : 0 ≤ d ∧ d ≤ 31) (K : Nat) (hK : K < 8) (h4 : ¬ (K : Int) % 4 = 0) (hr : rightP ⟨21, d, 0, 0, 0, (K : Int)⟩) : Told ⟨21, d, 0, 0, 0, (K : Int)⟩ := by
  have hdo := regL_ok hd
  have hld := regL_len hd.1 hd.2
  have hb := flushL_ok ⟨K, hK⟩
  have hbo := hb.1
  have hbn := hb.2
  simp only at hbo hbn
  clear hb
  have hlb := flushL_len (K : Int)
  refine ⟨84 :: 76 :: 66 :: 73 :: 32 :: (flushL (K : Int) ++ 44 :: regL d), [[84, 76, 66, 73], flushL (K : Int), [44], regL d], fun w => print_21_1 d (K : Int) hd (by omega) h4 hr w, ?_, ?_, ?_, by simp, fun B w h => instr_21_1 B K hK h4 d hd w h⟩
  · simp only [List.length_cons, List.length_append, List.length_nil]; omega
  · refine ascB_all ?_
    simp only [ascB_cons, ascB_app, okB_asc hbo, okB_asc hdo]
    try rfl
  · rw [show (84 :: 76 :: 66 :: 73 :: 32 :: (flushL (K : Int) ++ 44 :: regL d) : List UInt8) = ([84, 76, 66, 73]) ++ (32 :: (flushL (K : Int) ++ 44 :: regL d)) from rfl, wordsL_cons (t := [84, 76, 66, 73]) (r := 32 :: (flushL (K : Int) ++ 44 :: regL d)) (okB_word (by decide) (by decide)) (.inr ⟨32, _, rfl, rfl⟩)]; rw [wordsL_blank 32 _ rfl]; rw [show ((flushL (K : Int) ++ 44 :: regL d) : List UInt8) = (flushL (K : Int)) ++ (44 :: regL d) from rfl, wordsL_cons (t := flushL (K : Int)) (r := 44 :: regL d) (okB_word hbo hbn) (.inr ⟨44, _, rfl, rfl⟩)]; rw [wordsL_sign 44 (regL d) rfl rfl]; rw [wordsL_last (t := regL d) (okB_word hdo (regL_nil _))]

set_option maxHeartbeats 2000000 in
theorem told_23 (d : Int) (hd : 0 ≤ d ∧ d ≤ 31) (K : Nat) (hK : K < 3) (hr : rightP ⟨23, d, 0, 0, 0, (K : Int)⟩) : Told ⟨23, d, 0, 0, 0, (K : Int)⟩ := by
  have hdo := regL_ok hd
  have hld := regL_len hd.1 hd.2
  have hb := systemL_ok ⟨K, hK⟩
  have hbo := hb.1
  have hbn := hb.2
  simp only at hbo hbn
  clear hb
  have hlb := systemL_len (K : Int)
  refine ⟨77 :: 82 :: 83 :: 32 :: (regL d ++ 44 :: systemL (K : Int)), [[77, 82, 83], regL d, [44], systemL (K : Int)], fun w => print_23 d (K : Int) hd (by omega) hr w, ?_, ?_, ?_, by simp, fun B w h => instr_23 B d hd K hK w h⟩
  · simp only [List.length_cons, List.length_append, List.length_nil]; omega
  · refine ascB_all ?_
    simp only [ascB_cons, ascB_app, okB_asc hbo, okB_asc hdo]
    try rfl
  · rw [show (77 :: 82 :: 83 :: 32 :: (regL d ++ 44 :: systemL (K : Int)) : List UInt8) = ([77, 82, 83]) ++ (32 :: (regL d ++ 44 :: systemL (K : Int))) from rfl, wordsL_cons (t := [77, 82, 83]) (r := 32 :: (regL d ++ 44 :: systemL (K : Int))) (okB_word (by decide) (by decide)) (.inr ⟨32, _, rfl, rfl⟩)]; rw [wordsL_blank 32 _ rfl]; rw [show ((regL d ++ 44 :: systemL (K : Int)) : List UInt8) = (regL d) ++ (44 :: systemL (K : Int)) from rfl, wordsL_cons (t := regL d) (r := 44 :: systemL (K : Int)) (okB_word hdo (regL_nil _)) (.inr ⟨44, _, rfl, rfl⟩)]; rw [wordsL_sign 44 (systemL (K : Int)) rfl rfl]; rw [wordsL_last (t := systemL (K : Int)) (okB_word hbo hbn)]

/-- Each that is right. -/
theorem told_of_right (x : X) (h : rightP x) : Told x := by
  obtain ⟨op, d, n, m, imm, kind⟩ := x
  have hr := h
  unfold rightP at h
  simp only at h
  rcases h with ⟨rfl, rfl, rfl, rfl, rfl, rfl⟩ | ⟨rfl, a1, a2, b1, b2, rfl, c1, c2, c3, rfl⟩ | ⟨rfl, a1, a2, b1, b2, rfl, c1, c2, c3, rfl⟩ | ⟨rfl, a1, a2, b1, b2, rfl, rfl, rfl⟩ | ⟨rfl, a1, a2, b1, b2, rfl, rfl, rfl⟩ | ⟨rfl, a1, a2, rfl, rfl, c1, c2, k1, k2⟩ | ⟨rfl, a1, a2, b1, b2, rfl, c1, c2, rfl⟩ | ⟨rfl, a1, a2, b1, b2, m1, m2, rfl, rfl⟩ | ⟨rfl, a1, a2, b1, b2, m1, m2, rfl, rfl⟩ | ⟨rfl, a1, a2, b1, b2, m1, m2, rfl, rfl⟩ | ⟨rfl, a1, a2, b1, b2, m1, m2, rfl, rfl⟩ | ⟨rfl, a1, a2, b1, b2, m1, m2, rfl, rfl⟩ | ⟨rfl, a1, a2, b1, b2, m1, m2, rfl, rfl⟩ | ⟨rfl, rfl, rfl, rfl, c1, c2, rfl⟩ | ⟨rfl, a1, a2, rfl, rfl, c1, c2, rfl⟩ | ⟨rfl, a1, a2, rfl, rfl, c1, c2, rfl⟩ | ⟨rfl, rfl, rfl, rfl, c1, c2, k1, k2⟩ | ⟨rfl, rfl, rfl, rfl, rfl, hk⟩ | ⟨rfl, rfl, rfl, rfl, rfl, hk⟩ | ⟨rfl, rfl, rfl, rfl, rfl, rfl⟩ | ⟨rfl, a1, a2, rfl, rfl, rfl, k1, k2, h4⟩ | ⟨rfl, rfl, rfl, rfl, rfl, rfl⟩ | ⟨rfl, a1, a2, rfl, rfl, rfl, k1, k2⟩
  · exact told_1 hr
  · by_cases e : imm = 0
    · subst e; exact told_2_0 d n ⟨a1, a2⟩ ⟨b1, b2⟩ hr
    · exact told_2_1 d n imm ⟨a1, a2⟩ ⟨b1, b2⟩ ⟨c1, c2⟩ e hr
  · by_cases e : imm = 0
    · subst e; exact told_3_0 d n ⟨a1, a2⟩ ⟨b1, b2⟩ hr
    · exact told_3_1 d n imm ⟨a1, a2⟩ ⟨b1, b2⟩ ⟨c1, c2⟩ e hr
  · exact told_4 d n ⟨a1, a2⟩ ⟨b1, b2⟩ hr
  · exact told_5 d n ⟨a1, a2⟩ ⟨b1, b2⟩ hr
  · rcases (by omega : kind = 0 ∨ kind = 1 ∨ kind = 2 ∨ kind = 3) with rfl | rfl | rfl | rfl
    · exact told_6_0 d imm ⟨a1, a2⟩ ⟨c1, c2⟩ hr
    · exact told_6_1 d imm ⟨a1, a2⟩ ⟨c1, c2⟩ hr
    · exact told_6_2 d imm ⟨a1, a2⟩ ⟨c1, c2⟩ hr
    · exact told_6_3 d imm ⟨a1, a2⟩ ⟨c1, c2⟩ hr
  · exact told_7 d n imm ⟨a1, a2⟩ ⟨b1, b2⟩ ⟨c1, c2⟩ hr
  · exact told_8 d n m ⟨a1, a2⟩ ⟨b1, b2⟩ ⟨m1, m2⟩ hr
  · exact told_9 d n m ⟨a1, a2⟩ ⟨b1, b2⟩ ⟨m1, m2⟩ hr
  · exact told_10 d n m ⟨a1, a2⟩ ⟨b1, b2⟩ ⟨m1, m2⟩ hr
  · exact told_11 d n m ⟨a1, a2⟩ ⟨b1, b2⟩ ⟨m1, m2⟩ hr
  · exact told_12 d n m ⟨a1, a2⟩ ⟨b1, b2⟩ ⟨m1, m2⟩ hr
  · by_cases e : d = 31
    · subst e; exact told_13_c n m ⟨b1, b2⟩ ⟨m1, m2⟩ hr
    · exact told_13 d n m ⟨a1, a2⟩ ⟨b1, b2⟩ ⟨m1, m2⟩ e hr
  · exact told_14 imm ⟨c1, c2⟩ hr
  · exact told_15 d imm ⟨a1, a2⟩ ⟨by omega, by omega⟩ hr
  · exact told_16 d imm ⟨a1, a2⟩ ⟨by omega, by omega⟩ hr
  · rcases (by omega : kind = 0 ∨ kind = 1) with rfl | rfl
    · exact told_17_0 imm ⟨by omega, by omega⟩ hr
    · exact told_17_1 imm ⟨by omega, by omega⟩ hr
  · obtain ⟨K, rfl⟩ : ∃ K : Nat, kind = (K : Int) := ⟨kind.natAbs, by omega⟩
    exact told_18 K (by omega) (by omega) hr
  · obtain ⟨K, rfl⟩ : ∃ K : Nat, kind = (K : Int) := ⟨kind.natAbs, by omega⟩
    exact told_19 K (by omega) (by omega) hr
  · exact told_20 hr
  · obtain ⟨K, rfl⟩ : ∃ K : Nat, kind = (K : Int) := ⟨kind.natAbs, by omega⟩
    by_cases e : (K : Int) % 4 = 0
    · obtain rfl := h4 e
      exact told_21_0 K (by omega) e hr
    · exact told_21_1 d ⟨a1, a2⟩ K (by omega) e hr
  · exact told_22 hr
  · obtain ⟨K, rfl⟩ : ∃ K : Nat, kind = (K : Int) := ⟨kind.natAbs, by omega⟩
    exact told_23 d ⟨a1, a2⟩ K (by omega) hr

end Go.Proofs.Ytdlodacogldinaa
