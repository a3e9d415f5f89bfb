/- Contracts of package isa: the parts of a word. -/
import Derived.Test.YtdlodacogldinaaIsab
namespace Go.Proofs.Ytdlodacogldinaa
open Go.RowKit
set_option linter.unusedSimpArgs false
set_option linter.unusedVariables false

def baseX (op : Int) : Int :=
  if op = 1 then 3573751839 else if op = 20 then 3573759967 else if op = 22 then 3600745440 else if op = 4 then 3370122240 else if op = 5 then 3365927936 else
  if op = 8 then 2332033024 else if op = 9 then 3405774848 else if op = 10 then 2315255808 else if op = 11 then 2852126720 else if op = 12 then 3388997632 else if op = 13 then 3942645760 else 0

set_option maxHeartbeats 2000000 in
theorem base_any (op : Int) (w : World) : Calls Try.prog 23 #[.int .i64 op] w (Ret (.int .u32 (baseX op)) w) := by
  by_cases h : op = 1 ∨ op = 20 ∨ op = 22 ∨ op = 4 ∨ op = 5 ∨ op = 8 ∨ op = 9 ∨ op = 10 ∨ op = 11 ∨ op = 12 ∨ op = 13
  · rcases h with rfl | rfl | rfl | rfl | rfl | rfl | rfl | rfl | rfl | rfl | rfl
    all_goals
      go_enter Try.func23, Try.ntmps23
      go_wp2
      go_ret
      exact ⟨rfl, rfl⟩
  · have E : baseX op = 0 := by
      unfold baseX
      repeat rw [if_neg (by omega)]
    rw [E]
    have n1 : (op == 1) = false := by simp; omega
    have n20 : (op == 20) = false := by simp; omega
    have n22 : (op == 22) = false := by simp; omega
    have n4 : (op == 4) = false := by simp; omega
    have n5 : (op == 5) = false := by simp; omega
    have n8 : (op == 8) = false := by simp; omega
    have n9 : (op == 9) = false := by simp; omega
    have n10 : (op == 10) = false := by simp; omega
    have n11 : (op == 11) = false := by simp; omega
    have n12 : (op == 12) = false := by simp; omega
    have n13 : (op == 13) = false := by simp; omega
    clear h E
    go_enter Try.func23, Try.ntmps23
    go_wp2
    go_ret
    exact ⟨rfl, rfl⟩

theorem flush_any (k : Int) (w : World) (hk : 0 ≤ k ∧ k ≤ 7) : Calls Try.prog 26 #[.int .i64 k] w (Ret (.int .u32 (flushZ k)) w) := by
  have h : k = 0 ∨ k = 1 ∨ k = 2 ∨ k = 3 ∨ k = 4 ∨ k = 5 ∨ k = 6 ∨ k = 7 := by omega
  clear hk
  rcases h with rfl | rfl | rfl | rfl | rfl | rfl | rfl | rfl
  all_goals
    go_enter Try.func26, Try.ntmps26
    go_wp2
    go_ret
    exact ⟨rfl, rfl⟩

theorem system_any (k : Int) (w : World) (hk : 0 ≤ k ∧ k ≤ 2) : Calls Try.prog 27 #[.int .i64 k] w (Ret (.int .u32 (systemZ k)) w) := by
  have h : k = 0 ∨ k = 1 ∨ k = 2 := by omega
  clear hk
  rcases h with rfl | rfl | rfl
  all_goals
    go_enter Try.func27, Try.ntmps27
    go_wp2
    go_ret
    exact ⟨rfl, rfl⟩

/-- A word with three registers. -/
def threeZ (b m n d : Int) : Int := bits .or .u32 (bits .or .u32 (bits .or .u32 b (IntKind.u32.wrap (IntKind.u32.wrap m * 65536))) (IntKind.u32.wrap (IntKind.u32.wrap n * 32))) (IntKind.u32.wrap d)

theorem three_raw (b : Int) (x : X) (w : World) : Calls Try.prog 24 #[.int .u32 b, instrV x] w (RetB (.int .u32 (threeZ b x.m x.n x.d)) w) := by
  obtain ⟨op, d, n, m, imm, kind⟩ := x
  simp only [instrV]
  go_enter Try.func24, Try.ntmps24
  go_wp2
  go_ret
  exact ⟨by simp [threeZ, IntKind.wrap_u32'], by repeat' (first | with_reducible exact Below.refl _ _ | with_reducible assumption | with_reducible apply below_drewN | with_reducible apply Below.drew | with_reducible refine Below.setCell ?_ ?_ _ | with_reducible refine Below.alloc ?_ ?_ _ | omega | (simp; done) | (simp; omega))⟩

theorem wrap32 {a : Int} (h0 : 0 ≤ a) (h1 : a < 4294967296) : IntKind.u32.wrap a = a := by rw [IntKind.wrap_u32']; omega

/-- Parts that don't meet. -/
theorem or_low32 (k : Nat) {a b : Int} (ha : 0 ≤ a) (ha' : a < 4294967296) (hb : 0 ≤ b) (hk : b < 2 ^ k) (hd : a % 2 ^ k = 0) (hk32 : k ≤ 32) : bits .or .u32 a b = a + b := by
  obtain ⟨x, rfl⟩ := Int.eq_ofNat_of_zero_le ha
  obtain ⟨y, rfl⟩ := Int.eq_ofNat_of_zero_le hb
  have p : (2 : Nat) ^ k ≤ 2 ^ 32 := Nat.pow_le_pow_right (by decide) hk32
  have e32 : (2 : Nat) ^ 32 = 4294967296 := by decide
  rw [← cast_pow] at hk hd
  have hy : y < 2 ^ k := by omega
  have hx : x % 2 ^ k = 0 := by
    rw [← Int.natCast_emod] at hd
    omega
  rw [u32_or_nat _ _ (by omega) (by omega)]
  obtain ⟨q, rfl⟩ : ∃ q, x = 2 ^ k * q := ⟨x / 2 ^ k, by have := Nat.div_add_mod x (2 ^ k); omega⟩
  rw [← Nat.two_pow_add_eq_or_of_lt hy q]
  rfl

theorem three_eq {b m n d : Int} (hb : U32 b) (hm : 0 ≤ m ∧ m ≤ 31) (hn : 0 ≤ n ∧ n ≤ 31) (hd : 0 ≤ d ∧ d ≤ 31)
    (h : b % 2097152 = 0 ∨ (m = 0 ∧ b % 1024 = 0) ∨ (m = 0 ∧ n = 0 ∧ d = 0)) : threeZ b m n d = b + d + n * 32 + m * 65536 := by
  obtain ⟨b0, b1⟩ := hb
  unfold threeZ
  rw [wrap32 (a := m) (by omega) (by omega), wrap32 (a := n) (by omega) (by omega), wrap32 (a := d) (by omega) (by omega), wrap32 (a := m * 65536) (by omega) (by omega), wrap32 (a := n * 32) (by omega) (by omega)]
  have z : ∀ c : Int, 0 ≤ c → c < 4294967296 → bits .or .u32 c 0 = c := fun c h0 h1 => by
    have := or_low32 0 (a := c) (b := 0) h0 h1 (by decide) (by decide) (by simp [Int.emod_one]) (by decide)
    simpa using this
  have p21 : (2 : Int) ^ 21 = 2097152 := rfl
  have p16 : (2 : Int) ^ 16 = 65536 := rfl
  have p10 : (2 : Int) ^ 10 = 1024 := rfl
  have p5 : (2 : Int) ^ 5 = 32 := rfl
  rcases h with h | ⟨rfl, h⟩ | ⟨rfl, rfl, rfl⟩
  · rw [or_low32 21 (a := b) (b := m * 65536) b0 b1 (by omega) (by omega) (by rw [p21]; omega) (by decide)]
    rw [or_low32 10 (a := b + m * 65536) (b := n * 32) (by omega) (by omega) (by omega) (by omega) (by rw [p10]; omega) (by decide)]
    rw [or_low32 5 (a := b + m * 65536 + n * 32) (b := d) (by omega) (by omega) (by omega) (by omega) (by rw [p5]; omega) (by decide)]
    omega
  · rw [show (0 : Int) * 65536 = 0 from rfl, z _ b0 b1]
    rw [or_low32 10 (a := b) (b := n * 32) (by omega) (by omega) (by omega) (by omega) (by rw [p10]; omega) (by decide)]
    rw [or_low32 5 (a := b + n * 32) (b := d) (by omega) (by omega) (by omega) (by omega) (by rw [p5]; omega) (by decide)]
    omega
  · rw [show (0 : Int) * 65536 = 0 from rfl, show (0 : Int) * 32 = 0 from rfl, z _ b0 b1, z _ b0 b1, z _ b0 b1]
    omega

theorem three_any (b : Int) (x : X) (w : World) (hb : U32 b) (hm : 0 ≤ x.m ∧ x.m ≤ 31) (hn : 0 ≤ x.n ∧ x.n ≤ 31) (hd : 0 ≤ x.d ∧ x.d ≤ 31)
    (h : b % 2097152 = 0 ∨ (x.m = 0 ∧ b % 1024 = 0) ∨ (x.m = 0 ∧ x.n = 0 ∧ x.d = 0)) :
    Calls Try.prog 24 #[.int .u32 b, instrV x] w (RetB (.int .u32 (b + x.d + x.n * 32 + x.m * 65536)) w) := by
  rw [← three_eq hb hm hn hd h]
  exact three_raw b x w

/-- So many low bits of a number at a place. -/
def partZ (a k s : Int) : Int := a % 2 ^ k.toNat * 2 ^ s.toNat

theorem part_any (a k s : Int) (w : World) (hk : (k = 12 ∧ s = 10) ∨ (k = 2 ∧ s = 21) ∨ (k = 16 ∧ s = 5) ∨ (k = 26 ∧ s = 0) ∨ (k = 19 ∧ s = 5)) :
    Calls Try.prog 25 #[.int .i64 a, .int .i64 k, .int .i64 s] w (RetQ (.int .u32 (partZ a k s)) w) := by
  have E : IntKind.u32.wrap (putZ 0 (wrap64 (wrap64 (s + k) - 1)) s (IntKind.u64.wrap a)) = partZ a k s := by
    obtain ⟨t, ht, hE⟩ : ∃ t, wrap64 (wrap64 (s + k) - 1) = t ∧ IntKind.u32.wrap (putZ 0 t s (IntKind.u64.wrap a)) = partZ a k s := by
      rcases hk with ⟨rfl, rfl⟩ | ⟨rfl, rfl⟩ | ⟨rfl, rfl⟩ | ⟨rfl, rfl⟩ | ⟨rfl, rfl⟩
      · refine ⟨21, by decide +kernel, ?_⟩
        rw [IntKind.wrap_u32', IntKind.wrap_u64]; simp [putZ, partZ, rightB]; omega
      · refine ⟨22, by decide +kernel, ?_⟩
        rw [IntKind.wrap_u32', IntKind.wrap_u64]; simp [putZ, partZ, rightB]; omega
      · refine ⟨20, by decide +kernel, ?_⟩
        rw [IntKind.wrap_u32', IntKind.wrap_u64]; simp [putZ, partZ, rightB]; omega
      · refine ⟨25, by decide +kernel, ?_⟩
        rw [IntKind.wrap_u32', IntKind.wrap_u64]; simp [putZ, partZ, rightB]; omega
      · refine ⟨23, by decide +kernel, ?_⟩
        rw [IntKind.wrap_u32', IntKind.wrap_u64]; simp [putZ, partZ, rightB]; omega
    rw [ht]
    exact hE
  have H := Lib.hid E
  have hu : U64 (IntKind.u64.wrap a) := by rw [IntKind.wrap_u64]; exact ⟨by omega, by omega⟩
  have HU := Lib.hid hu
  clear E hu hk
  go_enter Try.func25, Try.ntmps25
  go_wp2_with (go_at_call 49; refine (put_any _ _ _ _ _ ⟨by decide, by decide⟩ HU.out).mono ?_; rintro e w' ⟨rfl, n, rfl⟩)
  go_ret
  exact ⟨by rw [← H.out, IntKind.wrap_u32']; rfl, _, rfl⟩

end Go.Proofs.Ytdlodacogldinaa
