/- Contracts: what each function of the program computes, for the arguments that its theorem names; and from there the given statement. Conditions: those that each theorem states. -/
import Derived.Test.YtaedloehfgmcnaaCa
import Derived.Test.YtaedloehfgmcnaaPd
import Derived.Test.YtaedloehfgmcnaaFn
namespace Go.Proofs.Try
open Go.Psl
abbrev vu (n : Int) : V := .d (.lit (.int .u64 n))
theorem mul_parts (x1 x0 y1 y0 : Int) : (x1 * 4294967296 + x0) * (y1 * 4294967296 + y0) = x1 * y1 * 18446744073709551616 + (x1 * y0 + x0 * y1) * 4294967296 + x0 * y0 := by
  have e1 : (x1 * 4294967296) * (y1 * 4294967296) = x1 * y1 * 18446744073709551616 := by
    rw [show x1 * 4294967296 * (y1 * 4294967296) = x1 * y1 * (4294967296 * 4294967296) by rw [Int.mul_assoc, Int.mul_left_comm 4294967296, ← Int.mul_assoc]]; rfl
  rw [Int.mul_add, Int.add_mul, Int.add_mul, e1, Int.add_mul]
  have e2 : x0 * (y1 * 4294967296) = x0 * y1 * 4294967296 := by rw [Int.mul_assoc]
  have e3 : x1 * 4294967296 * y0 = x1 * y0 * 4294967296 := by rw [Int.mul_assoc, Int.mul_comm 4294967296, ← Int.mul_assoc]
  rw [e2, e3]
  omega
theorem mul_le' {a b c d : Int} (h1 : a ≤ c) (h2 : b ≤ d) (h0 : 0 ≤ b) (h3 : 0 ≤ c) : a * b ≤ c * d := Int.le_trans (Int.mul_le_mul_of_nonneg_right h1 h0) (Int.mul_le_mul_of_nonneg_left h2 h3)

theorem fn121 (x y : Int) (hx : 0 ≤ x ∧ x ≤ 1099511627776) (hy : 0 ≤ y ∧ y ≤ 1099511627776) : Ct prog 121 [vu x, vu y] (.tup [vu (x * y / 18446744073709551616), vu (x * y % 18446744073709551616)]) [] := by
  refine Ct.by gok eok mixed func121 c121 rfl (by simp [ntmps121]) (by simp) (by simp [ResIds]) fun E hE => ?_
  obtain ⟨x1, x0, rfl, hx1, hx1', hx0, hx0'⟩ : ∃ x1 x0 : Int, x = x1 * 4294967296 + x0 ∧ 0 ≤ x1 ∧ x1 ≤ 256 ∧ 0 ≤ x0 ∧ x0 < 4294967296 := ⟨x / 4294967296, x % 4294967296, by omega, by omega, by omega, by omega, by omega⟩
  obtain ⟨y1, y0, rfl, hy1, hy1', hy0, hy0'⟩ : ∃ y1 y0 : Int, y = y1 * 4294967296 + y0 ∧ 0 ≤ y1 ∧ y1 ≤ 256 ∧ 0 ≤ y0 ∧ y0 < 4294967296 := ⟨y / 4294967296, y % 4294967296, by omega, by omega, by omega, by omega, by omega⟩
  have a1 : bits .and .u64 (x1 * 4294967296 + x0) 4294967295 = x0 := by rw [and_mask (by omega) (by omega)]; omega
  have a2 : bits .and .u64 (y1 * 4294967296 + y0) 4294967295 = y0 := by rw [and_mask (by omega) (by omega)]; omega
  have a3 : (x1 * 4294967296 + x0) / 4294967296 = x1 := by omega
  have a4 : (y1 * 4294967296 + y0) / 4294967296 = y1 := by omega
  have m := mul_parts x1 x0 y1 y0
  have b11 : x1 * y1 ≤ 256 * 256 := mul_le' hx1' hy1' hy1 (by omega)
  have b10 : x1 * y0 ≤ 256 * 4294967295 := mul_le' hx1' (by omega) hy0 (by omega)
  have b01 : x0 * y1 ≤ 4294967295 * 256 := mul_le' (by omega) hy1' hy1 (by omega)
  have b00 : x0 * y0 ≤ 4294967295 * 4294967295 := mul_le' (by omega) (by omega) hy0 (by omega)
  have c11 := Int.mul_nonneg hx1 hy1
  have c10 := Int.mul_nonneg hx1 hy0
  have c01 := Int.mul_nonneg hx0 hy1
  have c00 := Int.mul_nonneg hx0 hy0
  generalize hp11 : x1 * y1 = p11 at *
  generalize hp10 : x1 * y0 = p10 at *
  generalize hp01 : x0 * y1 = p01 at *
  generalize hp00 : x0 * y0 = p00 at *
  have e1 : IntKind.wrap .u64 p00 = p00 := wrapu64 (by omega) (by omega)
  have e2 : IntKind.wrap .u64 p10 = p10 := wrapu64 (by omega) (by omega)
  have e3 : IntKind.wrap .u64 p01 = p01 := wrapu64 (by omega) (by omega)
  have e4 : IntKind.wrap .u64 p11 = p11 := wrapu64 (by omega) (by omega)
  have e5 : IntKind.wrap .u64 (p10 + p00 / 4294967296) = p10 + p00 / 4294967296 := wrapu64 (by omega) (by omega)
  have e6 : bits .and .u64 (p10 + p00 / 4294967296) 4294967295 = (p10 + p00 / 4294967296) % 4294967296 := and_mask (by omega) (by omega)
  have e7 : IntKind.wrap .u64 ((p10 + p00 / 4294967296) % 4294967296 + p01) = (p10 + p00 / 4294967296) % 4294967296 + p01 := wrapu64 (by omega) (by omega)
  have e8 : IntKind.wrap .u64 (p11 + (p10 + p00 / 4294967296) / 4294967296) = p11 + (p10 + p00 / 4294967296) / 4294967296 := wrapu64 (by omega) (by omega)
  have e9 : IntKind.wrap .u64 (p11 + (p10 + p00 / 4294967296) / 4294967296 + ((p10 + p00 / 4294967296) % 4294967296 + p01) / 4294967296) = p11 + (p10 + p00 / 4294967296) / 4294967296 + ((p10 + p00 / 4294967296) % 4294967296 + p01) / 4294967296 := wrapu64 (by omega) (by omega)
  simp [p121, a1, a2, a3, a4, hp11, hp10, hp01, hp00, e1, e2, e3, e4, e5, e6, e7, e8, e9]
  refine RetOk.by (fun _ => none) ?_
  simp [results121]
  rw [m]
  refine ⟨by omega, ?_⟩
  rw [wrapu_mod]
end Go.Proofs.Try
namespace Go.Proofs.Try
open Go.Psl
/-- how many bits a number has -/
def len64 (x : Int) : Int := if x = 0 then 0 else (Nat.log2 x.toNat : Int) + 1
theorem log2_shift (n k : Nat) (h : 2 ^ k ≤ n) : Nat.log2 n = Nat.log2 (n / 2 ^ k) + k := by
  induction k generalizing n with
  | zero => simp
  | succ k ih =>
    have h2 : 2 ≤ n := by
      have : 2 ^ 1 ≤ 2 ^ (k + 1) := Nat.pow_le_pow_right (by omega) (by omega)
      omega
    have h1 : Nat.log2 n = Nat.log2 (n / 2) + 1 := by rw [Nat.log2_def]; simp [h2]
    rw [h1, ih (n / 2) (by rw [Nat.pow_succ] at h; omega), Nat.div_div_eq_div_mul, Nat.pow_succ, Nat.mul_comm 2]
    omega
theorem len64_shift (x : Int) (k : Nat) (h : 2 ^ k ≤ x) : len64 (x / 2 ^ k) + k = len64 x := by
  obtain ⟨n, rfl⟩ := Int.eq_ofNat_of_zero_le (show 0 ≤ x from Int.le_trans (Int.pow_nonneg (by decide)) h)
  have h' : 2 ^ k ≤ n := by exact_mod_cast h
  have hp : 0 < 2 ^ k := Nat.pow_pos (by omega)
  have e : ((n : Int) / 2 ^ k) = ((n / 2 ^ k : Nat) : Int) := by push_cast; rfl
  have h1 : 1 ≤ n / 2 ^ k := by rw [Nat.le_div_iff_mul_le hp]; omega
  rw [e]
  unfold len64
  rw [if_neg (by omega), if_neg (by omega)]
  simp only [Int.toNat_natCast]
  rw [log2_shift n k h']
  omega
theorem len64_bounds (x : Int) (h : 1 ≤ x) : 2 ^ (len64 x - 1).toNat ≤ x ∧ x < 2 ^ (len64 x).toNat ∧ 1 ≤ len64 x := by
  obtain ⟨n, rfl⟩ := Int.eq_ofNat_of_zero_le (show 0 ≤ x by omega)
  unfold len64
  rw [if_neg (by omega)]
  have e1 : (((Nat.log2 (n : Int).toNat : Nat) : Int) + 1 - 1).toNat = Nat.log2 n := by simp
  have e2 : (((Nat.log2 (n : Int).toNat : Nat) : Int) + 1).toNat = Nat.log2 n + 1 := by simp
  rw [e1, e2]
  have h1 := Nat.log2_self_le (n := n) (by omega)
  have h2 := Nat.lt_log2_self (n := n)
  refine ⟨by exact_mod_cast h1, by exact_mod_cast h2, by omega⟩
set_option maxRecDepth 20000 in
theorem len8_tab : ∀ m : Fin 256, (⟨#[0, 1, 2, 2, 3, 3, 3, 3, 4, 4, 4, 4, 4, 4, 4, 4, 5, 5, 5, 5, 5, 5, 5, 5, 5, 5, 5, 5, 5, 5, 5, 5, 6, 6, 6, 6, 6, 6, 6, 6, 6, 6, 6, 6, 6, 6, 6, 6, 6, 6, 6, 6, 6, 6, 6, 6, 6, 6, 6, 6, 6, 6, 6, 6, 7, 7, 7, 7, 7, 7, 7, 7, 7, 7, 7, 7, 7, 7, 7, 7, 7, 7, 7, 7, 7, 7, 7, 7, 7, 7, 7, 7, 7, 7, 7, 7, 7, 7, 7, 7, 7, 7, 7, 7, 7, 7, 7, 7, 7, 7, 7, 7, 7, 7, 7, 7, 7, 7, 7, 7, 7, 7, 7, 7, 7, 7, 7, 7, 8, 8, 8, 8, 8, 8, 8, 8, 8, 8, 8, 8, 8, 8, 8, 8, 8, 8, 8, 8, 8, 8, 8, 8, 8, 8, 8, 8, 8, 8, 8, 8, 8, 8, 8, 8, 8, 8, 8, 8, 8, 8, 8, 8, 8, 8, 8, 8, 8, 8, 8, 8, 8, 8, 8, 8, 8, 8, 8, 8, 8, 8, 8, 8, 8, 8, 8, 8, 8, 8, 8, 8, 8, 8, 8, 8, 8, 8, 8, 8, 8, 8, 8, 8, 8, 8, 8, 8, 8, 8, 8, 8, 8, 8, 8, 8, 8, 8, 8, 8, 8, 8, 8, 8, 8, 8, 8, 8, 8, 8, 8, 8, 8, 8, 8, 8, 8, 8, 8, 8, 8, 8, 8, 8, 8, 8, 8, 8]⟩ : ByteArray)[m.val]?.map (·.toNat) = some (len64 m.val).toNat := by decide +kernel
set_option maxRecDepth 20000 in
theorem len8_at (n : Nat) (h : n < 256) : ∃ b, (⟨#[0, 1, 2, 2, 3, 3, 3, 3, 4, 4, 4, 4, 4, 4, 4, 4, 5, 5, 5, 5, 5, 5, 5, 5, 5, 5, 5, 5, 5, 5, 5, 5, 6, 6, 6, 6, 6, 6, 6, 6, 6, 6, 6, 6, 6, 6, 6, 6, 6, 6, 6, 6, 6, 6, 6, 6, 6, 6, 6, 6, 6, 6, 6, 6, 7, 7, 7, 7, 7, 7, 7, 7, 7, 7, 7, 7, 7, 7, 7, 7, 7, 7, 7, 7, 7, 7, 7, 7, 7, 7, 7, 7, 7, 7, 7, 7, 7, 7, 7, 7, 7, 7, 7, 7, 7, 7, 7, 7, 7, 7, 7, 7, 7, 7, 7, 7, 7, 7, 7, 7, 7, 7, 7, 7, 7, 7, 7, 7, 8, 8, 8, 8, 8, 8, 8, 8, 8, 8, 8, 8, 8, 8, 8, 8, 8, 8, 8, 8, 8, 8, 8, 8, 8, 8, 8, 8, 8, 8, 8, 8, 8, 8, 8, 8, 8, 8, 8, 8, 8, 8, 8, 8, 8, 8, 8, 8, 8, 8, 8, 8, 8, 8, 8, 8, 8, 8, 8, 8, 8, 8, 8, 8, 8, 8, 8, 8, 8, 8, 8, 8, 8, 8, 8, 8, 8, 8, 8, 8, 8, 8, 8, 8, 8, 8, 8, 8, 8, 8, 8, 8, 8, 8, 8, 8, 8, 8, 8, 8, 8, 8, 8, 8, 8, 8, 8, 8, 8, 8, 8, 8, 8, 8, 8, 8, 8, 8, 8, 8, 8, 8, 8, 8, 8, 8, 8, 8]⟩ : ByteArray)[n]? = some b ∧ (b.toNat : Int) = len64 n := by
  have := len8_tab ⟨n, h⟩
  simp only [Option.map_eq_some_iff] at this
  obtain ⟨b, h1, h2⟩ := this
  refine ⟨b, h1, ?_⟩
  rw [h2]
  have : 0 ≤ len64 n := by unfold len64; split <;> omega
  omega

set_option maxRecDepth 20000 in
theorem fn151 (x : Int) (hx : 0 ≤ x ∧ x ≤ 18446744073709551615) : Ct prog 151 [vu x] (vi (len64 x)) [] := by
  refine Ct.by gok eok mixed func151 c151 rfl (by simp [ntmps151]) (by simp) (by simp [ResIds]) fun E hE => ?_
  have fin : ∀ (y c : Int), 0 ≤ y → y < 256 → 0 ≤ c → c ≤ 56 → len64 y + c = len64 x → ∃ b, (⟨#[0, 1, 2, 2, 3, 3, 3, 3, 4, 4, 4, 4, 4, 4, 4, 4, 5, 5, 5, 5, 5, 5, 5, 5, 5, 5, 5, 5, 5, 5, 5, 5, 6, 6, 6, 6, 6, 6, 6, 6, 6, 6, 6, 6, 6, 6, 6, 6, 6, 6, 6, 6, 6, 6, 6, 6, 6, 6, 6, 6, 6, 6, 6, 6, 7, 7, 7, 7, 7, 7, 7, 7, 7, 7, 7, 7, 7, 7, 7, 7, 7, 7, 7, 7, 7, 7, 7, 7, 7, 7, 7, 7, 7, 7, 7, 7, 7, 7, 7, 7, 7, 7, 7, 7, 7, 7, 7, 7, 7, 7, 7, 7, 7, 7, 7, 7, 7, 7, 7, 7, 7, 7, 7, 7, 7, 7, 7, 7, 8, 8, 8, 8, 8, 8, 8, 8, 8, 8, 8, 8, 8, 8, 8, 8, 8, 8, 8, 8, 8, 8, 8, 8, 8, 8, 8, 8, 8, 8, 8, 8, 8, 8, 8, 8, 8, 8, 8, 8, 8, 8, 8, 8, 8, 8, 8, 8, 8, 8, 8, 8, 8, 8, 8, 8, 8, 8, 8, 8, 8, 8, 8, 8, 8, 8, 8, 8, 8, 8, 8, 8, 8, 8, 8, 8, 8, 8, 8, 8, 8, 8, 8, 8, 8, 8, 8, 8, 8, 8, 8, 8, 8, 8, 8, 8, 8, 8, 8, 8, 8, 8, 8, 8, 8, 8, 8, 8, 8, 8, 8, 8, 8, 8, 8, 8, 8, 8, 8, 8, 8, 8, 8, 8, 8, 8, 8, 8]⟩ : ByteArray)[y.toNat]? = some b ∧ IntKind.wrap .u8 y = y ∧ IntKind.wrap .i64 (b.toNat : Int) = (b.toNat : Int) ∧ IntKind.wrap .i64 (c + (b.toNat : Int)) = len64 x ∧ 0 ≤ y := fun y c h0 h1 h2 h3 h4 => by
    obtain ⟨b, q1, q2⟩ := len8_at y.toNat (by omega)
    have hb : (b.toNat : Int) < 256 := by have := b.toNat_lt; omega
    rw [Int.toNat_of_nonneg h0] at q2
    exact ⟨b, q1, by simp [IntKind.wrap, IntKind.bits, IntKind.signed]; omega, wrap64 (by omega) (by omega), by rw [wrap64 (by omega) (by omega)]; omega, h0⟩
  have e16 : IntKind.wrap .i64 16 = 16 := by decide
  have e8 : IntKind.wrap .i64 8 = 8 := by decide
  have e48 : IntKind.wrap .i64 48 = 48 := by decide
  have e40 : IntKind.wrap .i64 40 = 40 := by decide
  have e24 : IntKind.wrap .i64 24 = 24 := by decide
  have e56 : IntKind.wrap .i64 56 = 56 := by decide
  have s8 := fun (y : Int) (h : 256 ≤ y) => len64_shift y 8 (by simpa using h)
  have s16 := fun (y : Int) (h : 65536 ≤ y) => len64_shift y 16 (by simpa using h)
  have s32 := fun (y : Int) (h : 4294967296 ≤ y) => len64_shift y 32 (by simpa using h)
  simp at s8 s16 s32
  by_cases h1 : 4294967296 ≤ x
  · have q1 := s32 x h1
    by_cases h2 : 65536 ≤ x / 4294967296
    · have q2 := s16 _ h2
      by_cases h3 : 256 ≤ x / 4294967296 / 65536
      · have q3 := s8 _ h3
        obtain ⟨b, r1, r2, r3, r4, r0⟩ := fin (x / 4294967296 / 65536 / 256) 56 (by omega) (by omega) (by omega) (by omega) (by omega)
        simp [p151, h1, h2, h3, r0, r1, r2, r3, e48, e56]
        refine RetOk.by (fun _ => none) ?_
        simp [results151, r4]
      · obtain ⟨b, r1, r2, r3, r4, r0⟩ := fin (x / 4294967296 / 65536) 48 (by omega) (by omega) (by omega) (by omega) (by omega)
        simp [p151, h1, h2, h3, r0, r1, r2, r3, e48]
        refine RetOk.by (fun _ => none) ?_
        simp [results151, r4]
    · by_cases h3 : 256 ≤ x / 4294967296
      · have q3 := s8 _ h3
        obtain ⟨b, r1, r2, r3, r4, r0⟩ := fin (x / 4294967296 / 256) 40 (by omega) (by omega) (by omega) (by omega) (by omega)
        simp [p151, h1, h2, h3, r0, r1, r2, r3, e40]
        refine RetOk.by (fun _ => none) ?_
        simp [results151, r4]
      · obtain ⟨b, r1, r2, r3, r4, r0⟩ := fin (x / 4294967296) 32 (by omega) (by omega) (by omega) (by omega) (by omega)
        simp [p151, h1, h2, h3, r0, r1, r2, r3]
        refine RetOk.by (fun _ => none) ?_
        simp [results151, r4]
  · by_cases h2 : 65536 ≤ x
    · have q2 := s16 _ h2
      by_cases h3 : 256 ≤ x / 65536
      · have q3 := s8 _ h3
        obtain ⟨b, r1, r2, r3, r4, r0⟩ := fin (x / 65536 / 256) 24 (by omega) (by omega) (by omega) (by omega) (by omega)
        simp [p151, h1, h2, h3, r0, r1, r2, r3, e16, e24]
        refine RetOk.by (fun _ => none) ?_
        simp [results151, r4]
      · obtain ⟨b, r1, r2, r3, r4, r0⟩ := fin (x / 65536) 16 (by omega) (by omega) (by omega) (by omega) (by omega)
        simp [p151, h1, h2, h3, r0, r1, r2, r3, e16]
        refine RetOk.by (fun _ => none) ?_
        simp [results151, r4]
    · by_cases h3 : 256 ≤ x
      · have q3 := s8 _ h3
        obtain ⟨b, r1, r2, r3, r4, r0⟩ := fin (x / 256) 8 (by omega) (by omega) (by omega) (by omega) (by omega)
        simp [p151, h1, h2, h3, r0, r1, r2, r3, e8]
        refine RetOk.by (fun _ => none) ?_
        simp [results151, r4]
      · obtain ⟨b, r1, r2, r3, r4, r0⟩ := fin x 0 (by omega) (by omega) (by omega) (by omega) (by omega)
        rw [Int.zero_add, r3] at r4
        simp [p151, h1, h2, h3, r0, r1, r2, r3]
        refine RetOk.by (fun _ => none) ?_
        simp [results151, r4]
theorem len64_le (x : Int) (h0 : 0 ≤ x) (h1 : x ≤ 18446744073709551615) : 0 ≤ len64 x ∧ len64 x ≤ 64 := by
  by_cases h : x = 0
  · subst h; decide
  · obtain ⟨q1, q2, q3⟩ := len64_bounds x (by omega)
    refine ⟨by omega, ?_⟩
    have : ¬ 65 ≤ len64 x := fun hh => by
      have h2 : (2 : Int) ^ 64 ≤ 2 ^ (len64 x - 1).toNat := by
        have : 2 ^ 64 ≤ 2 ^ (len64 x - 1).toNat := Nat.pow_le_pow_right (by omega) (by omega)
        exact_mod_cast this
      have : (2 : Int) ^ 64 = 18446744073709551616 := by decide
      omega
    omega
theorem fn144 (x : Int) (hx : 0 ≤ x ∧ x ≤ 18446744073709551615) : Ct prog 144 [vu x] (vi (64 - len64 x)) [] := by
  refine Ct.by gok eok mixed func144 c144 rfl (by simp [ntmps144]) (by simp) (by simp [ResIds]) fun E hE => ?_
  simp [p144]
  refine ACall.mk _ _ _ (fn151 x hx) (by first | (simp; done) | simp [Bor_ls, Bor1_ls]) (by simp) (by first | (left; simp; done) | (right; simp; done)) ?_
  have := len64_le x hx.1 hx.2
  have e : IntKind.wrap .i64 (64 - len64 x) = 64 - len64 x := wrap64 (by omega) (by omega)
  simp [e]
  refine RetOk.by (fun _ => none) ?_
  simp [results144]
end Go.Proofs.Try
namespace Go.Proofs.Try
open Go.Psl
theorem wrapu_add_mul {a b c : Int} (h0 : 0 ≤ c) (h1 : c < 18446744073709551616) (h : ∃ k, a - b = c + k * 18446744073709551616) : IntKind.wrap .u64 (IntKind.wrap .u64 a - IntKind.wrap .u64 b) = c := by
  rw [wrapu_mod, wrapu_mod, wrapu_mod]
  obtain ⟨k, hk⟩ := h
  omega
/-- one digit of a long division, as the loop of Div64 finds it -/
theorem digit_lt {u v D : Int} (hD : 0 < D) (hu : u < D) (hv : v < 4294967296) : (u * 4294967296 + v) / D < 4294967296 := by
  rw [Int.ediv_lt_iff_lt_mul hD]
  have : u * 4294967296 + 4294967296 ≤ 4294967296 * D := by omega
  omega
theorem pow_pos' (s : Nat) : (1 : Int) ≤ 2 ^ s := by
  have : 0 < 2 ^ s := Nat.pow_pos (by omega)
  exact_mod_cast this
theorem pow_split (s t n : Nat) (h : s + t = n) : (2 : Int) ^ s * 2 ^ t = 2 ^ n := by rw [← h, Int.pow_add]

theorem fn123z (lo y : Int) (hlo : 0 ≤ lo ∧ lo ≤ 18446744073709551615) (hy : 1 ≤ y ∧ y ≤ 18446744073709551615) : Ct prog 123 [vu 0, vu lo, vu y] (.tup [vu (lo / y), vu (lo % y)]) [] := by
  refine Ct.by gok eok mixed func123 c123 rfl (by simp [ntmps123]) (by simp) (by simp [ResIds]) fun E hE => ?_
  have h1 : (y == 0) = false := by simp; omega
  have h2 : decide (y ≤ 0) = false := by simp; omega
  have h3 : ¬ y = 0 := by omega
  have h5 : ¬ y ≤ 0 := by omega
  have q0 : 0 ≤ lo / y := Int.ediv_nonneg hlo.1 (by omega)
  have q1 : lo / y ≤ lo := Int.ediv_le_self _ hlo.1
  have e1 : lo.tdiv y = lo / y := Int.tdiv_eq_ediv_of_nonneg hlo.1
  have e2 : lo.tmod y = lo % y := Int.tmod_eq_emod_of_nonneg hlo.1
  have e3 : IntKind.wrap .u64 (lo / y) = lo / y := wrapu64 q0 (by omega)
  simp [p123, h3, h5, e1, e2, e3]
  refine RetOk.by (fun _ => none) ?_
  simp [results123]

theorem fn123 (hi lo y : Int) (hhi : 1 ≤ hi ∧ hi < y) (hlo : 0 ≤ lo ∧ lo ≤ 18446744073709551615) (hy : y ≤ 18446744073709551615) : Ct prog 123 [vu hi, vu lo, vu y] (.tup [vu ((hi * 18446744073709551616 + lo) / y), vu ((hi * 18446744073709551616 + lo) % y)]) [] := by
  refine Ct.by gok eok mixed func123 c123 rfl (by simp [ntmps123]) (by simp) (by simp [ResIds]) fun E hE => ?_
  have h3 : ¬ y = 0 := by omega
  have h5 : ¬ y ≤ hi := by omega
  have h6 : ¬ hi = 0 := by omega
  simp [p123, h3, h5, h6]
  refine ACall.mk _ _ _ (fn144 y (by omega)) (by first | (simp; done) | simp [Bor_ls, Bor1_ls]) (by simp) (by first | (left; simp; done) | (right; simp; done)) ?_
  obtain ⟨b1, b2, b3⟩ := len64_bounds y (by omega)
  obtain ⟨b4, b5⟩ := len64_le y (by omega) hy
  obtain ⟨S, hS, hS2⟩ : ∃ S : Nat, 64 - len64 y = S ∧ S ≤ 63 := ⟨(64 - len64 y).toNat, by omega, by omega⟩
  obtain ⟨T, hT⟩ : ∃ T : Nat, S + T = 64 := ⟨64 - S, by omega⟩
  have p1 : (2 : Int) ^ S * 2 ^ T = 18446744073709551616 := by rw [pow_split S T 64 hT]; rfl
  have p2 := pow_pos' S
  have p3 := pow_pos' T
  have w1 : IntKind.wrap .u64 (S : Int) = S := wrapu64 (by omega) (by omega)
  have w2 : IntKind.wrap .u64 (64 - (S : Int)) = T := by rw [wrapu64 (by omega) (by omega)]; omega
  have eL : (len64 y).toNat = T := by omega
  have eL1 : (2 : Int) ^ (len64 y - 1).toNat * 2 = 2 ^ T := by
    obtain ⟨T', rfl⟩ : ∃ T', T = T' + 1 := ⟨T - 1, by omega⟩
    rw [show (len64 y - 1).toNat = T' by omega, Int.pow_succ]
  rw [eL] at b2
  -- y * 2 ^ S
  have d1 : y * 2 ^ S < 18446744073709551616 := by rw [← p1, Int.mul_comm]; exact Int.mul_lt_mul_of_pos_left b2 (by omega)
  have d2 : 9223372036854775808 ≤ y * 2 ^ S := by
    have : 2 ^ T * 2 ^ S ≤ y * 2 * 2 ^ S := Int.mul_le_mul_of_nonneg_right (by omega) (by omega)
    rw [Int.mul_comm (2 ^ T), p1] at this
    have e : y * 2 * 2 ^ S = 2 * (y * 2 ^ S) := by rw [Int.mul_comm y 2, Int.mul_assoc]
    omega
  have d3 : hi * 2 ^ S + 2 ^ S ≤ y * 2 ^ S := by
    have : (hi + 1) * 2 ^ S ≤ y * 2 ^ S := Int.mul_le_mul_of_nonneg_right (by omega) (by omega)
    rw [Int.add_mul, Int.one_mul] at this
    exact this
  have d4 : 0 ≤ hi * 2 ^ S := Int.mul_nonneg (by omega) (by omega)
  -- lo in two parts
  obtain ⟨lh, ll, hl, l1, l2, l3, l4⟩ : ∃ lh ll : Int, lo = lh * 2 ^ T + ll ∧ 0 ≤ lh ∧ lh < 2 ^ S ∧ 0 ≤ ll ∧ ll < 2 ^ T := by
    refine ⟨lo / 2 ^ T, lo % 2 ^ T, by rw [Int.mul_comm]; exact (Int.mul_ediv_add_emod lo (2 ^ T)).symm, Int.ediv_nonneg hlo.1 (by omega), ?_, Int.emod_nonneg _ (by omega), Int.emod_lt_of_pos _ (by omega)⟩
    rw [Int.ediv_lt_iff_lt_mul (by omega), p1]; omega
  have l5 : lo / 2 ^ T = lh := by
    rw [hl, Int.add_comm, Int.add_mul_ediv_right _ _ (by omega), Int.ediv_eq_zero_of_lt l3 l4]; omega
  have l6 : lo * 2 ^ S = lh * 18446744073709551616 + ll * 2 ^ S := by
    rw [hl, Int.add_mul, Int.mul_assoc, Int.mul_comm (2 ^ T), p1]
  have l7 : ll * 2 ^ S + 2 ^ S ≤ 18446744073709551616 := by
    have : (ll + 1) * 2 ^ S ≤ 2 ^ T * 2 ^ S := Int.mul_le_mul_of_nonneg_right (by omega) (by omega)
    rw [Int.add_mul, Int.one_mul, Int.mul_comm (2 ^ T), p1] at this
    exact this
  have l8 : 0 ≤ ll * 2 ^ S := Int.mul_nonneg l3 (by omega)
  have hU : (hi * 18446744073709551616 + lo) * 2 ^ S = (hi * 2 ^ S + lh) * 18446744073709551616 + ll * 2 ^ S := by
    rw [Int.add_mul, l6, Int.add_mul, Int.mul_right_comm]; omega
  have hor : bits .or .u64 (hi * 2 ^ S) lh = hi * 2 ^ S + lh := or_add S (by omega) l1 l2 (by omega)
  have v1 : IntKind.wrap .u64 (y * 2 ^ S) = y * 2 ^ S := wrapu64 (by omega) (by omega)
  have v2 : IntKind.wrap .u64 (hi * 2 ^ S) = hi * 2 ^ S := wrapu64 (by omega) (by omega)
  have v3 : IntKind.wrap .u64 (lo * 2 ^ S) = ll * 2 ^ S := by rw [wrapu_mod, l6]; omega
  have c1 : (0 : Int) ≤ S ∧ (S : Int) ≤ 64 := by omega
  have c2 : (0 : Int) ≤ T ∧ (T : Int) ≤ 64 := by omega
  have hN : ∀ q r, (hi * 18446744073709551616 + lo) * 2 ^ S = q * (y * 2 ^ S) + r → 0 ≤ r → r < y * 2 ^ S → q = (hi * 18446744073709551616 + lo) / y ∧ r / 2 ^ S = (hi * 18446744073709551616 + lo) % y := fun q r h1 h2 h3 => by
    generalize hi * 18446744073709551616 + lo = N at *
    have hq : q = N / y := by
      have e : N * 2 ^ S / (y * 2 ^ S) = N / y := Int.mul_ediv_mul_of_pos_left _ _ (by omega)
      rw [← e, h1, Int.add_comm, Int.add_mul_ediv_right _ _ (by omega), Int.ediv_eq_zero_of_lt h2 h3]; omega
    refine ⟨hq, ?_⟩
    have e2 : N * 2 ^ S = (q * y) * 2 ^ S + r := by rw [h1, Int.mul_assoc]
    have e3 : r = (N - q * y) * 2 ^ S := by rw [Int.sub_mul]; omega
    rw [e3, Int.mul_ediv_cancel _ (by omega), hq, Int.emod_def, Int.mul_comm]
  simp [hS, w1, w2, c1.1, c1.2, c2.1, c2.2, v1, v2, v3, l5, hor]
  generalize y * 2 ^ S = D at *
  generalize hu : hi * 2 ^ S + lh = u at *
  generalize ll * 2 ^ S = w at *
  have m1 : bits .and .u64 D 4294967295 = D % 4294967296 := and_mask (by omega) (by omega)
  have m2 : bits .and .u64 w 4294967295 = w % 4294967296 := and_mask (by omega) (by omega)
  obtain ⟨y1, y0, hy1, hy0⟩ : ∃ y1 y0 : Int, D / 4294967296 = y1 ∧ D % 4294967296 = y0 := ⟨_, _, rfl, rfl⟩
  obtain ⟨w1', w0, hw1, hw0⟩ : ∃ w1 w0 : Int, w / 4294967296 = w1 ∧ w % 4294967296 = w0 := ⟨_, _, rfl, rfl⟩
  have hDe : D = y1 * 4294967296 + y0 := by omega
  have hy1n : ¬ y1 = 0 := by omega
  have hu0 : 0 ≤ u := by omega
  have huD : u < D := by omega
  have td : ∀ a : Int, 0 ≤ a → a.tdiv y1 = a / y1 := fun a ha => Int.tdiv_eq_ediv_of_nonneg ha
  have dv : ∀ a : Int, 0 ≤ a → 0 ≤ a / y1 ∧ a / y1 ≤ a ∧ a / y1 * y1 + a % y1 = a ∧ 0 ≤ a % y1 ∧ a % y1 < y1 := fun a ha => ⟨Int.ediv_nonneg ha (by omega), Int.ediv_le_self _ ha, by rw [Int.mul_comm]; exact Int.mul_ediv_add_emod a y1, Int.emod_nonneg _ hy1n, Int.emod_lt_of_pos _ (by omega)⟩
  have dq : ∀ a v : Int, 0 ≤ a → 0 ≤ v → v < 4294967296 → (a * 4294967296 + v) / D ≤ a / y1 := fun a v ha hv hv' => by
    obtain ⟨z1, z2, z3, z4, z5⟩ := dv a ha
    have hlt : (a * 4294967296 + v) / D < a / y1 + 1 := by
      rw [Int.ediv_lt_iff_lt_mul (by omega), hDe]
      have e : (a / y1 + 1) * (y1 * 4294967296 + y0) = (a / y1 * y1) * 4294967296 + y1 * 4294967296 + (a / y1 + 1) * y0 := by
        rw [Int.add_mul, Int.one_mul, Int.mul_add, ← Int.mul_assoc, Int.add_mul, Int.one_mul]; omega
      have : 0 ≤ (a / y1 + 1) * y0 := Int.mul_nonneg (by omega) (by omega)
      omega
    omega
  obtain ⟨z1, z2, z3, z4, z5⟩ := dv u hu0
  have k1 : IntKind.wrap .u64 (u / y1) = u / y1 := wrapu64 z1 (by omega)
  have k2 : IntKind.wrap .u64 (u / y1 * y1) = u / y1 * y1 := wrapu64 (Int.mul_nonneg z1 (by omega)) (by omega)
  have k3 : IntKind.wrap .u64 (u - u / y1 * y1) = u - u / y1 * y1 := wrapu64 (by omega) (by omega)
  simp [m1, m2, hy1, hy0, hw1, hw0, hy1n, td u hu0, k1, k2, k3]
  -- the loop over one digit: what it does, in plain numbers
  have loopy : ∀ a v : Int, 0 ≤ a → a < D → 0 ≤ v → v < 4294967296 → ∃ Q : Int, Q = (a * 4294967296 + v) / D ∧ 0 ≤ Q ∧ Q < 4294967296 ∧ Q * D ≤ a * 4294967296 + v ∧ a * 4294967296 + v < Q * D + D ∧ Q ≤ a / y1 ∧
      (∀ q r, Q ≤ q → q * y1 + r = a → 4294967296 ≤ q ∨ 4294967296 * r + v < q * y0 → Q ≤ q - 1) ∧ (∀ q r, Q ≤ q → q * y1 + r = a → q * y0 ≤ 4294967296 * r + v → q = Q) ∧ (∀ q r, 0 ≤ q → q * y1 + r = a → 4294967296 ≤ r → q * y0 ≤ 4294967296 * r + v) := fun a v ha haD hv hv' => by
    refine ⟨_, rfl, Int.ediv_nonneg (by omega) (by omega), digit_lt (by omega) haD hv', Int.ediv_mul_le _ (by omega), ?_, dq a v ha hv hv', fun q r h1 h2 h3 => ?_, fun q r h1 h2 h3 => ?_, fun q r h1 h2 h3 => ?_⟩
    · have := Int.lt_ediv_add_one_mul_self (a * 4294967296 + v) (show 0 < D by omega)
      rw [Int.add_mul, Int.one_mul] at this
      exact this
    · rw [hDe] at h1 ⊢
      exact digit_step (by omega) (by omega) (by omega) (by omega) ha (by omega) hv hv' h1 h2 h3
    · rw [hDe] at h1 ⊢
      exact digit_done (by omega) (by omega) (by omega) h1 h2 h3
    · exact digit_break (by omega) (by omega) (by omega) h1 (by omega : a < y1 * 4294967296 + y0) hv h2 h3
  obtain ⟨Q1, _, a1, a2, a3, a4, a5, st1, dn1, br1⟩ := loopy u w1' hu0 huD (by omega) (by omega)
  refine pw_loopC (α := Int × Int) 0 (fun _ : Unit => ⟨slots [(2, vu D), (8, vu S), (9, vu y1), (10, vu y0), (11, vu u), (13, vu w1'), (14, vu w0), (15, vu Q1)], lk [], 0⟩) (fun _ => True) (fun x => ⟨slots [(2, vu D), (8, vu S), (9, vu y1), (10, vu y0), (11, vu u), (13, vu w1'), (14, vu w0), (15, vu x.1), (16, vu x.2)], lk [], 0⟩)
    (fun x => Q1 ≤ x.1 ∧ x.1 * y1 + x.2 = u ∧ 0 ≤ x.2 ∧ x.2 < 4294967296 ∧ x.1 ≤ u) (fun x => x.1.toNat) (u / y1, u - u / y1 * y1) ?_ ?_ ?_ fun _ _ => ?_
  · exact ⟨a5, by simp only; omega, by simp only; omega, by simp only; omega, z2⟩
  · refine Weak.mk hE (fun _ => none) _ _ _ ?_ ?_ ?_ ?_ ?_ <;> simp
  · rintro ⟨q, r⟩ ⟨i1, i2, i3, i4, i5⟩
    simp only at i1 i2 i3 i4 i5
    have step := st1 q r i1 i2
    have g1 : IntKind.wrap .u64 (r + y1) = r + y1 := wrapu64 (by omega) (by omega)
    have g2 : (q - 1) * y1 + (r + y1) = u := by rw [Int.sub_mul]; omega
    have go : Q1 ≤ q - 1 → IntKind.wrap .u64 (q - 1) = q - 1 := fun h => wrapu64 (by omega) (by omega)
    by_cases hc1 : 4294967296 ≤ q
    · have h1 := step (.inl hc1)
      by_cases hb : 4294967296 ≤ r + y1
      · have := dn1 _ _ h1 g2 (br1 _ _ (by omega) g2 hb)
        simp [p123l0, hc1, go h1, g1, hb]
        refine Weak.mk hE (fun _ => none) _ _ _ ?_ ?_ ?_ ?_ ?_ <;> simp [this]
      · simp [p123l0, hc1, go h1, g1, hb]
        refine ⟨q - 1, r + y1, ⟨h1, g2, by omega, by omega, by omega⟩, by omega, ?_⟩
        refine Weak.mk hE (fun _ => none) _ _ _ ?_ ?_ ?_ ?_ ?_ <;> simp
    · have n1 : 0 ≤ q * y0 := Int.mul_nonneg (by omega) (by omega)
      have n2 : q * y0 ≤ 4294967295 * 4294967295 := mul_le' (by omega) (by omega) (by omega) (by omega)
      have j1 : IntKind.wrap .u64 (q * y0) = q * y0 := wrapu64 n1 (by omega)
      have j2 : IntKind.wrap .u64 (4294967296 * r) = 4294967296 * r := wrapu64 (by omega) (by omega)
      have j3 : IntKind.wrap .u64 (4294967296 * r + w1') = 4294967296 * r + w1' := wrapu64 (by omega) (by omega)
      by_cases hc2 : 4294967296 * r + w1' < q * y0
      · have h1 := step (.inr hc2)
        by_cases hb : 4294967296 ≤ r + y1
        · have := dn1 _ _ h1 g2 (br1 _ _ (by omega) g2 hb)
          simp [p123l0, hc1, hc2, j1, j2, j3, go h1, g1, hb]
          refine Weak.mk hE (fun _ => none) _ _ _ ?_ ?_ ?_ ?_ ?_ <;> simp [this]
        · simp [p123l0, hc1, hc2, j1, j2, j3, go h1, g1, hb]
          refine ⟨q - 1, r + y1, ⟨h1, g2, by omega, by omega, by omega⟩, by omega, ?_⟩
          refine Weak.mk hE (fun _ => none) _ _ _ ?_ ?_ ?_ ?_ ?_ <;> simp
      · have := dn1 _ _ i1 i2 (by omega)
        simp [p123l0, hc1, hc2, j1, j2, j3]
        refine Weak.mk hE (fun _ => none) _ _ _ ?_ ?_ ?_ ?_ ?_ <;> simp [this]
  -- the second digit
  obtain ⟨R, hR⟩ : ∃ R : Int, R = u * 4294967296 + w1' - Q1 * D := ⟨_, rfl⟩
  have k4 : IntKind.wrap .u64 (IntKind.wrap .u64 (IntKind.wrap .u64 (u * 4294967296) + w1') - IntKind.wrap .u64 (Q1 * D)) = R := by
    rw [wrapu_mod, wrapu_mod, wrapu_mod, wrapu_mod]; omega
  have hR0 : 0 ≤ R ∧ R < D := by omega
  obtain ⟨x1, x2, x3, x4, x5⟩ := dv R hR0.1
  have k5 : IntKind.wrap .u64 (R / y1) = R / y1 := wrapu64 x1 (by omega)
  have k6 : IntKind.wrap .u64 (R / y1 * y1) = R / y1 * y1 := wrapu64 (Int.mul_nonneg x1 (by omega)) (by omega)
  have k7 : IntKind.wrap .u64 (R - R / y1 * y1) = R - R / y1 * y1 := wrapu64 (by omega) (by omega)
  simp [k4, hy1n, td R hR0.1, k5, k6, k7]
  obtain ⟨Q0, _, c1, c2, c3, c4, c5, st0, dn0, br0⟩ := loopy R w0 hR0.1 hR0.2 (by omega) (by omega)
  refine pw_loopC (α := Int × Int) 2 (fun _ : Unit => ⟨slots [(2, vu D), (8, vu S), (14, vu w0), (15, vu Q1), (17, vu R), (18, vu Q0)], lk [], 0⟩) (fun _ => True) (fun x => ⟨slots [(2, vu D), (8, vu S), (9, vu y1), (10, vu y0), (14, vu w0), (15, vu Q1), (17, vu R), (18, vu x.1), (16, vu x.2)], lk [], 0⟩)
    (fun x => Q0 ≤ x.1 ∧ x.1 * y1 + x.2 = R ∧ 0 ≤ x.2 ∧ x.2 < 4294967296 ∧ x.1 ≤ R) (fun x => x.1.toNat) (R / y1, R - R / y1 * y1) ?_ ?_ ?_ fun _ _ => ?_
  · exact ⟨c5, by simp only; omega, by simp only; omega, by simp only; omega, x2⟩
  · refine Weak.mk hE (fun _ => none) _ _ _ ?_ ?_ ?_ ?_ ?_ <;> simp
  · rintro ⟨q, r⟩ ⟨i1, i2, i3, i4, i5⟩
    simp only at i1 i2 i3 i4 i5
    have step := st0 q r i1 i2
    have g1 : IntKind.wrap .u64 (r + y1) = r + y1 := wrapu64 (by omega) (by omega)
    have g2 : (q - 1) * y1 + (r + y1) = R := by rw [Int.sub_mul]; omega
    have go : Q0 ≤ q - 1 → IntKind.wrap .u64 (q - 1) = q - 1 := fun h => wrapu64 (by omega) (by omega)
    by_cases hc1 : 4294967296 ≤ q
    · have h1 := step (.inl hc1)
      by_cases hb : 4294967296 ≤ r + y1
      · have := dn0 _ _ h1 g2 (br0 _ _ (by omega) g2 hb)
        simp [p123l1, hc1, go h1, g1, hb]
        refine Weak.mk hE (fun _ => none) _ _ _ ?_ ?_ ?_ ?_ ?_ <;> simp [this]
      · simp [p123l1, hc1, go h1, g1, hb]
        refine ⟨q - 1, r + y1, ⟨h1, g2, by omega, by omega, by omega⟩, by omega, ?_⟩
        refine Weak.mk hE (fun _ => none) _ _ _ ?_ ?_ ?_ ?_ ?_ <;> simp
    · have n1 : 0 ≤ q * y0 := Int.mul_nonneg (by omega) (by omega)
      have n2 : q * y0 ≤ 4294967295 * 4294967295 := mul_le' (by omega) (by omega) (by omega) (by omega)
      have j1 : IntKind.wrap .u64 (q * y0) = q * y0 := wrapu64 n1 (by omega)
      have j2 : IntKind.wrap .u64 (4294967296 * r) = 4294967296 * r := wrapu64 (by omega) (by omega)
      have j3 : IntKind.wrap .u64 (4294967296 * r + w0) = 4294967296 * r + w0 := wrapu64 (by omega) (by omega)
      by_cases hc2 : 4294967296 * r + w0 < q * y0
      · have h1 := step (.inr hc2)
        by_cases hb : 4294967296 ≤ r + y1
        · have := dn0 _ _ h1 g2 (br0 _ _ (by omega) g2 hb)
          simp [p123l1, hc1, hc2, j1, j2, j3, go h1, g1, hb]
          refine Weak.mk hE (fun _ => none) _ _ _ ?_ ?_ ?_ ?_ ?_ <;> simp [this]
        · simp [p123l1, hc1, hc2, j1, j2, j3, go h1, g1, hb]
          refine ⟨q - 1, r + y1, ⟨h1, g2, by omega, by omega, by omega⟩, by omega, ?_⟩
          refine Weak.mk hE (fun _ => none) _ _ _ ?_ ?_ ?_ ?_ ?_ <;> simp
      · have := dn0 _ _ i1 i2 (by omega)
        simp [p123l1, hc1, hc2, j1, j2, j3]
        refine Weak.mk hE (fun _ => none) _ _ _ ?_ ?_ ?_ ?_ ?_ <;> simp [this]
  obtain ⟨R0, hR0'⟩ : ∃ R0 : Int, R0 = R * 4294967296 + w0 - Q0 * D := ⟨_, rfl⟩
  have k8 : IntKind.wrap .u64 (IntKind.wrap .u64 (IntKind.wrap .u64 (R * 4294967296) + w0) - IntKind.wrap .u64 (Q0 * D)) = R0 := by
    rw [wrapu_mod, wrapu_mod, wrapu_mod, wrapu_mod]; omega
  have k9 : IntKind.wrap .u64 (Q1 * 4294967296) = Q1 * 4294967296 := wrapu64 (by omega) (by omega)
  have k10 : IntKind.wrap .u64 (Q1 * 4294967296 + Q0) = Q1 * 4294967296 + Q0 := wrapu64 (by omega) (by omega)
  have e5 : (Q1 * 4294967296 + Q0) * D = (Q1 * D) * 4294967296 + Q0 * D := by rw [Int.add_mul, Int.mul_right_comm]
  obtain ⟨n1, n2⟩ := hN (Q1 * 4294967296 + Q0) R0 (by rw [hU, e5]; omega) (by omega) (by omega)
  simp [k8, k9, k10, show (0 : Int) ≤ S by omega, show (S : Int) ≤ 64 by omega]
  refine RetOk.by (fun _ => none) ?_
  simp [results123, n1, n2]
end Go.Proofs.Try
namespace Go.Proofs.Try
open Go.Psl
/-- x * y / z, rounded down and up, cut off at 2 ^ 41 -/
def partS (P z : Int) : Int × Int := if P / z < 2199023255552 then (P / z, P % z) else (2199023255552, 0)
def upS (q : Int × Int) : Int := if 0 < q.2 then q.1 + 1 else q.1
def shareS (x y z : Int) : Int × Int :=
  let q := partS (max x (-x) * max y (-y)) z
  if decide (x < 0) != decide (y < 0) then (-(upS q), -q.1) else (q.1, upS q)
theorem partS_bounds {P z : Int} (hP : 0 ≤ P) (hz : 1 ≤ z) : 0 ≤ (partS P z).1 ∧ (partS P z).1 ≤ 2199023255552 := by
  have := Int.ediv_nonneg hP (show 0 ≤ z by omega)
  unfold partS; split <;> simp <;> omega
theorem mulmax {x y : Int} (hx : -1099511627776 ≤ x ∧ x ≤ 1099511627776) (hy : -1099511627776 ≤ y ∧ y ≤ 1099511627776) : 0 ≤ max x (-x) * max y (-y) ∧ max x (-x) * max y (-y) ≤ 1208925819614629174706176 := by
  refine ⟨Int.mul_nonneg (by omega) (by omega), ?_⟩
  have := mul_le' (a := max x (-x)) (b := max y (-y)) (c := 1099511627776) (d := 1099511627776) (by omega) (by omega) (by omega) (by omega)
  omega
theorem fn86 (x y z : Int) (hx : -1099511627776 ≤ x ∧ x ≤ 1099511627776) (hy : -1099511627776 ≤ y ∧ y ≤ 1099511627776) (hz : 1 ≤ z ∧ z ≤ 1099511627776) : Ct prog 86 [vi x, vi y, vi z] (vsp (shareS x y z).1 (shareS x y z).2) [] := by
  refine Ct.by gok eok mixed func86 c86 rfl (by simp [ntmps86]) (by simp) (by simp [ResIds]) fun E hE => ?_
  simp [p86]
  refine ACall.mk _ _ _ (fn122 x (by omega)) (by first | (simp; done) | simp [Bor_ls, Bor1_ls]) (by simp) (by first | (left; simp; done) | (right; simp; done)) ?_
  simp
  refine ACall.mk _ _ _ (fn122 y (by omega)) (by first | (simp; done) | simp [Bor_ls, Bor1_ls]) (by simp) (by first | (left; simp; done) | (right; simp; done)) ?_
  simp
  refine ACall.mk _ _ _ (fn121 (max x (-x)) (max y (-y)) (by omega) (by omega)) (by first | (simp; done) | simp [Bor_ls, Bor1_ls]) (by simp) (by first | (left; simp; done) | (right; simp; done)) ?_
  obtain ⟨P0, P1⟩ := mulmax hx hy
  generalize hP : max x (-x) * max y (-y) = P at *
  have wz : IntKind.wrap .u64 z = z := wrapu64 (by omega) (by omega)
  have hmod : 0 ≤ P % 18446744073709551616 ∧ P % 18446744073709551616 ≤ 18446744073709551615 := by omega
  have hP2 : P / 18446744073709551616 * 18446744073709551616 + P % 18446744073709551616 = P := by omega
  obtain ⟨b0, b1⟩ := partS_bounds P0 hz.1
  have b2 : 0 ≤ P / z := Int.ediv_nonneg P0 (by omega)
  have w1 : IntKind.wrap .i64 (partS P z).1 = (partS P z).1 := wrap64 (by omega) (by omega)
  have w2 : IntKind.wrap .i64 ((partS P z).1 + 1) = (partS P z).1 + 1 := wrap64 (by omega) (by omega)
  have w3 : IntKind.wrap .i64 (-((partS P z).1 + 1)) = -((partS P z).1 + 1) := wrap64 (by omega) (by omega)
  have w4 : IntKind.wrap .i64 (-(partS P z).1) = -(partS P z).1 := wrap64 (by omega) (by omega)
  by_cases hh : P / 18446744073709551616 < z
  · by_cases hq : P / z < 2199023255552
    · have eS : partS P z = (P / z, P % z) := if_pos hq
      have r0 : 0 ≤ P % z := Int.emod_nonneg _ (by omega)
      rw [eS] at w1 w2 w3 w4
      simp only at w1 w2 w3 w4
      by_cases h0 : P / 18446744073709551616 = 0
      · have e0 : P % 18446744073709551616 = P := by omega
        simp [wz, h0, e0, show (0 : Int) < z by omega]
        refine ACall.mk _ _ _ (fn123z P z (by omega) (by omega)) (by first | (simp; done) | simp [Bor_ls, Bor1_ls]) (by simp) (by first | (left; simp; done) | (right; simp; done)) ?_
        by_cases hr : 0 < P % z <;> by_cases hsx : x < 0 <;> by_cases hsy : y < 0 <;> simp [hq, hr, hsx, hsy, w1, w2, w3, w4, splice]
        all_goals
          refine RetOk.by (fun _ => none) ?_
          simp [results86, shareS, hP, eS, upS, hr, hsx, hsy]
      · simp [wz, hh]
        refine ACall.mk _ _ _ (fn123 (P / 18446744073709551616) (P % 18446744073709551616) z (by omega) hmod (by omega)) (by first | (simp; done) | simp [Bor_ls, Bor1_ls]) (by simp) (by first | (left; simp; done) | (right; simp; done)) ?_
        rw [hP2]
        by_cases hr : 0 < P % z <;> by_cases hsx : x < 0 <;> by_cases hsy : y < 0 <;> simp [hq, hr, hsx, hsy, w1, w2, w3, w4, splice]
        all_goals
          refine RetOk.by (fun _ => none) ?_
          simp [results86, shareS, hP, eS, upS, hr, hsx, hsy]
    · have eS : partS P z = (2199023255552, 0) := if_neg hq
      by_cases h0 : P / 18446744073709551616 = 0
      · have e0 : P % 18446744073709551616 = P := by omega
        simp [wz, h0, e0, show (0 : Int) < z by omega]
        refine ACall.mk _ _ _ (fn123z P z (by omega) (by omega)) (by first | (simp; done) | simp [Bor_ls, Bor1_ls]) (by simp) (by first | (left; simp; done) | (right; simp; done)) ?_
        by_cases hsx : x < 0 <;> by_cases hsy : y < 0 <;> simp [hq, hsx, hsy, splice, wrap64]
        all_goals
          refine RetOk.by (fun _ => none) ?_
          simp [results86, shareS, hP, eS, upS, hsx, hsy]
      · simp [wz, hh]
        refine ACall.mk _ _ _ (fn123 (P / 18446744073709551616) (P % 18446744073709551616) z (by omega) hmod (by omega)) (by first | (simp; done) | simp [Bor_ls, Bor1_ls]) (by simp) (by first | (left; simp; done) | (right; simp; done)) ?_
        rw [hP2]
        by_cases hsx : x < 0 <;> by_cases hsy : y < 0 <;> simp [hq, hsx, hsy, splice, wrap64]
        all_goals
          refine RetOk.by (fun _ => none) ?_
          simp [results86, shareS, hP, eS, upS, hsx, hsy]
  · have hq : ¬ P / z < 2199023255552 := by
      have : 2199023255552 ≤ P / z := by
        rw [Int.le_ediv_iff_mul_le (by omega)]
        omega
      omega
    have eS : partS P z = (2199023255552, 0) := if_neg hq
    by_cases hsx : x < 0 <;> by_cases hsy : y < 0 <;> simp [wz, hh, hsx, hsy, splice, wrap64]
    all_goals
      refine RetOk.by (fun _ => none) ?_
      simp [results86, shareS, hP, eS, upS, hsx, hsy]
end Go.Proofs.Try
namespace Go.Proofs.Try
open Go.Psl
def endS (a b c : Int × Int) (k : Nat) : Int × Int := shareS (if k % 2 = 1 then a.2 else a.1) (if k / 2 % 2 = 1 then b.2 else b.1) (if k / 4 = 1 then c.2 else c.1)
def endsS (a b c : Int × Int) : List (Int × Int) := [endS a b c 1, endS a b c 2, endS a b c 3, endS a b c 4, endS a b c 5, endS a b c 6, endS a b c 7]
def overS (a b c : Int × Int) : (Int × Int) × Int :=
  if okS a && okS b && okS c then (if c.1 < 1 then ((0, 0), 12) else sizedS (aroundS (endS a b c 0) (endsS a b c))) else ((0, 0), 10)
def endC (a b c : Int × Int) (i k : Nat) : List V := if k < i then [vi (endS a b c k).1, vi (endS a b c k).2] else [vi 0, vi 0]
def endCs (a b c : Int × Int) (i : Nat) : List V := endC a b c i 0 ++ endC a b c i 1 ++ endC a b c i 2 ++ endC a b c i 3 ++ endC a b c i 4 ++ endC a b c i 5 ++ endC a b c i 6 ++ endC a b c i 7
theorem endCs_zero (a b c : Int × Int) : endCs a b c 0 = List.replicate 16 (vi 0) := rfl
theorem endCs_len (a b c : Int × Int) (i : Nat) : (endCs a b c i).length = 16 := by
  have h : ∀ k, (endC a b c i k).length = 2 := fun k => by unfold endC; split <;> rfl
  simp [endCs, h]
theorem share_ends {a b c : Int × Int} (ha : okS a = true) (hb : okS b = true) (hc : okS c = true) (h1 : ¬ c.1 < 1) (k : Nat) : Ct prog 86 [vi (if k % 2 = 1 then a.2 else a.1), vi (if k / 2 % 2 = 1 then b.2 else b.1), vi (if k / 4 = 1 then c.2 else c.1)] (vsp (endS a b c k).1 (endS a b c k).2) [] := by
  rw [okS_iff] at ha hb hc
  refine fn86 _ _ _ ?_ ?_ ?_ <;> split <;> omega
set_option maxRecDepth 20000 in
theorem fn30 (a b c : Int × Int) : Ct prog 30 [vsp a.1 a.2, vsp b.1 b.2, vsp c.1 c.2] (vse (overS a b c)) [] := by
  refine Ct.by gok eok mixed func30 c30 rfl (by simp [ntmps30]) (by simp) (by simp [ResIds]) fun E hE => ?_
  simp [p30, repl, splice]
  refine ACall.mk _ _ _ (fn85 [a, b, c] (by simp)) (by first | (simp; done) | simp [Bor_ls]) (by simp) (by first | (left; simp; done) | (right; simp; done)) ?_
  by_cases h : (okS a && okS b && okS c) = true
  · have hf : fineS [a, b, c] = true := by simpa [fineS, Bool.and_assoc] using h
    have h' := h
    simp only [Bool.and_eq_true] at h'
    obtain ⟨⟨ha, hb⟩, hc⟩ := h'
    by_cases h1 : c.1 < 1
    · simp [hf, h1, splice]
      refine RetOk.by (fun _ => none) ?_
      simp [results30, overS, h, h1]
    · simp [hf, h1]
      refine pw_loopC (α := Nat) 1 (fun _ : Unit => ⟨slots [(6, .lp 0 0), (8, .lp 1 0)], lk [(0, [vi 0, vi 0]), (1, endCs a b c 8)], 2⟩) (fun _ => True) (fun i => ⟨slots [(3, .lp 2 0), (4, .lp 3 0), (5, .lp 4 0), (6, .lp 0 0), (8, .lp 1 0), (26, vi i)], lk [(0, [vi 0, vi 0]), (1, endCs a b c i), (2, [vi a.1, vi a.2]), (3, [vi b.1, vi b.2]), (4, [vi c.1, vi c.2])], 5⟩) (fun i => i ≤ 8) (fun i => 8 - i) 0 ?_ ?_ ?_ fun _ _ => ?_
      · simp
      · refine Weak.mk hE (lk [(0, 3145728), (1, 16777216), (2, 0), (3, 1048576), (4, 2097152)]) _ _ _ ?_ ?_ ?_ ?_ ?_ <;> simp [endCs, endC]
      · intro i hi
        simp [p30l0]
        by_cases hlt : i < 8
        · have hlt' : (i : Int) < 8 := by omega
          have hz : IntKind.wrap .i64 ((i : Int) + 1) = (i : Int) + 1 := wrap64 (by omega) (by omega)
          simp [hlt']
          refine pw_drawA [(18, 15), (19, 16)] (by kernel_rfl) ?_
          have e0 : bits .and .i64 0 1 = 0 := by decide
          have e1 : bits .and .i64 1 1 = 1 := by decide
          have e2 : bits .and .i64 2 1 = 0 := by decide
          have e3 : bits .and .i64 3 1 = 1 := by decide
          have e4 : bits .and .i64 4 1 = 0 := by decide
          have e5 : bits .and .i64 5 1 = 1 := by decide
          have e6 : bits .and .i64 6 1 = 0 := by decide
          have e7 : bits .and .i64 7 1 = 1 := by decide
          simp [inC, Nat.testBit, splice]
          have s0 := share_ends ha hb hc h1 0
          have s1 := share_ends ha hb hc h1 1
          have s2 := share_ends ha hb hc h1 2
          have s3 := share_ends ha hb hc h1 3
          have s4 := share_ends ha hb hc h1 4
          have s5 := share_ends ha hb hc h1 5
          have s6 := share_ends ha hb hc h1 6
          have s7 := share_ends ha hb hc h1 7
          simp at s0 s1 s2 s3 s4 s5 s6 s7
          have hi8 : i = 0 ∨ i = 1 ∨ i = 2 ∨ i = 3 ∨ i = 4 ∨ i = 5 ∨ i = 6 ∨ i = 7 := by omega
          rcases hi8 with rfl | rfl | rfl | rfl | rfl | rfl | rfl | rfl
          · simp [e0]
            refine ACall.mk _ _ _ (s0) (by first | (simp; done) | simp [Bor_ls, Bor1_ls]) (by simp) (by first | (left; simp; done) | (right; simp; done)) ?_
            simp [endCs, endC, splice, wrap64]
            refine ⟨1, by omega, by omega, ?_⟩
            refine Weak.mk hE (lk [(0, 0), (1, 1), (2, 2), (3, 3), (4, 4)]) _ _ _ ?_ ?_ ?_ ?_ ?_ <;> simp
          · simp [e0, e1]
            refine ACall.mk _ _ _ (s1) (by first | (simp; done) | simp [Bor_ls, Bor1_ls]) (by simp) (by first | (left; simp; done) | (right; simp; done)) ?_
            simp [endCs, endC, splice, wrap64]
            refine ⟨2, by omega, by omega, ?_⟩
            refine Weak.mk hE (lk [(0, 0), (1, 1), (2, 2), (3, 3), (4, 4)]) _ _ _ ?_ ?_ ?_ ?_ ?_ <;> simp
          · simp [e1, e2]
            refine ACall.mk _ _ _ (s2) (by first | (simp; done) | simp [Bor_ls, Bor1_ls]) (by simp) (by first | (left; simp; done) | (right; simp; done)) ?_
            simp [endCs, endC, splice, wrap64]
            refine ⟨3, by omega, by omega, ?_⟩
            refine Weak.mk hE (lk [(0, 0), (1, 1), (2, 2), (3, 3), (4, 4)]) _ _ _ ?_ ?_ ?_ ?_ ?_ <;> simp
          · simp [e1, e3]
            refine ACall.mk _ _ _ (s3) (by first | (simp; done) | simp [Bor_ls, Bor1_ls]) (by simp) (by first | (left; simp; done) | (right; simp; done)) ?_
            simp [endCs, endC, splice, wrap64]
            refine ⟨4, by omega, by omega, ?_⟩
            refine Weak.mk hE (lk [(0, 0), (1, 1), (2, 2), (3, 3), (4, 4)]) _ _ _ ?_ ?_ ?_ ?_ ?_ <;> simp
          · simp [e2, e4]
            refine ACall.mk _ _ _ (s4) (by first | (simp; done) | simp [Bor_ls, Bor1_ls]) (by simp) (by first | (left; simp; done) | (right; simp; done)) ?_
            simp [endCs, endC, splice, wrap64]
            refine ⟨5, by omega, by omega, ?_⟩
            refine Weak.mk hE (lk [(0, 0), (1, 1), (2, 2), (3, 3), (4, 4)]) _ _ _ ?_ ?_ ?_ ?_ ?_ <;> simp
          · simp [e2, e5]
            refine ACall.mk _ _ _ (s5) (by first | (simp; done) | simp [Bor_ls, Bor1_ls]) (by simp) (by first | (left; simp; done) | (right; simp; done)) ?_
            simp [endCs, endC, splice, wrap64]
            refine ⟨6, by omega, by omega, ?_⟩
            refine Weak.mk hE (lk [(0, 0), (1, 1), (2, 2), (3, 3), (4, 4)]) _ _ _ ?_ ?_ ?_ ?_ ?_ <;> simp
          · simp [e3, e6]
            refine ACall.mk _ _ _ (s6) (by first | (simp; done) | simp [Bor_ls, Bor1_ls]) (by simp) (by first | (left; simp; done) | (right; simp; done)) ?_
            simp [endCs, endC, splice, wrap64]
            refine ⟨7, by omega, by omega, ?_⟩
            refine Weak.mk hE (lk [(0, 0), (1, 1), (2, 2), (3, 3), (4, 4)]) _ _ _ ?_ ?_ ?_ ?_ ?_ <;> simp
          · simp [e3, e7]
            refine ACall.mk _ _ _ (s7) (by first | (simp; done) | simp [Bor_ls, Bor1_ls]) (by simp) (by first | (left; simp; done) | (right; simp; done)) ?_
            simp [endCs, endC, splice, wrap64]
            refine ⟨8, by omega, by omega, ?_⟩
            refine Weak.mk hE (lk [(0, 0), (1, 1), (2, 2), (3, 3), (4, 4)]) _ _ _ ?_ ?_ ?_ ?_ ?_ <;> simp
        · have : i = 8 := by omega
          subst this
          simp
          refine Weak.mk hE (lk [(0, 0), (1, 1)]) _ _ _ ?_ ?_ ?_ ?_ ?_ <;> simp [endCs, endC]
      · simp [endCs_len]
        refine ACall.mk _ _ _ (fn74 (endS a b c 0) (endsS a b c) (by simp [endsS])) (by first | (simp; done) | simp [Bor_ls, endsS, endCs, endC]) (by simp) (by first | (left; simp; done) | (right; simp; done)) ?_
        simp
        refine ACall.mk _ _ _ (fn87 (aroundS (endS a b c 0) (endsS a b c))) (by first | (simp; done) | simp [Bor_ls, Bor1_ls]) (by simp) (by first | (left; simp; done) | (right; simp; done)) ?_
        simp [splice]
        refine RetOk.by (fun _ => none) ?_
        simp [results30, overS, h, h1]
  · have hf : fineS [a, b, c] = false := by simpa [fineS, Bool.and_assoc] using h
    simp [hf, splice]
    refine RetOk.by (fun _ => none) ?_
    simp [results30, overS, h]
end Go.Proofs.Try
namespace Go.Proofs.Try
open Go.Psl
def mulS (a b : Int × Int) : (Int × Int) × Int := overS a b (1, 1)
theorem fn38 (a b : Int × Int) : Ct prog 38 [vsp a.1 a.2, vsp b.1 b.2] (vse (mulS a b)) [] := by
  refine Ct.by gok eok mixed func38 c38 rfl (by simp [ntmps38]) (by simp) (by simp [ResIds]) fun E hE => ?_
  simp [p38, splice]
  refine ACall.mk _ _ _ (fn30 a b (1, 1)) (by first | (simp; done) | simp [Bor_ls, Bor1_ls]) (by simp) (by first | (left; simp; done) | (right; simp; done)) ?_
  simp [splice]
  refine RetOk.by (fun _ => none) ?_
  simp [results38, mulS]
/-- the square root, bit by bit -/
def sqG (n : Int) : Nat → Int → Int
  | 0, r => r
  | k + 1, r => sqG n k (if (r + 2 ^ k) * (r + 2 ^ k) ≤ n then r + 2 ^ k else r)
def sqrtS (n : Int) : Int := sqG n 21 0
def isSqrt (n r : Int) : Prop := 0 ≤ r ∧ r * r ≤ n ∧ n < (r + 1) * (r + 1)
theorem sqG_inv (n : Int) : ∀ (k : Nat) (r : Int), 0 ≤ r → r * r ≤ n → n < (r + 2 ^ k) * (r + 2 ^ k) → isSqrt n (sqG n k r)
  | 0, r, h0, h1, h2 => ⟨h0, h1, by simp only [sqG]; simpa using h2⟩
  | k + 1, r, h0, h1, h2 => by
    have hp : (1 : Int) ≤ 2 ^ k := pow_pos' k
    have e : (2 : Int) ^ (k + 1) = 2 ^ k + 2 ^ k := by rw [Int.pow_succ]; omega
    simp only [sqG]
    split
    · rename_i h
      exact sqG_inv n k _ (by omega) h (by rw [e, ← Int.add_assoc] at h2; exact h2)
    · rename_i h
      exact sqG_inv n k _ h0 h1 (by omega)
theorem isSqrt_uniq {n r s : Int} (h1 : isSqrt n r) (h2 : isSqrt n s) : r = s := by
  obtain ⟨a1, a2, a3⟩ := h1
  obtain ⟨b1, b2, b3⟩ := h2
  have key : ∀ p q : Int, 0 ≤ p → 0 ≤ q → p * p ≤ n → n < (q + 1) * (q + 1) → p ≤ q := fun p q hp hq h h' => by
    refine Int.not_lt.1 fun hlt => ?_
    have : (q + 1) * (q + 1) ≤ p * p := mul_le' (by omega) (by omega) (by omega) (by omega)
    omega
  have := key r s a1 b1 a2 b3
  have := key s r b1 a1 b2 a3
  omega
theorem sqrtS_is (n : Int) (h : 0 ≤ n ∧ n ≤ 1099511627776) : isSqrt n (sqrtS n) := sqG_inv n 21 0 (by omega) (by omega) (by simp; omega)
theorem isSqrt_le {n r : Int} (h : isSqrt n r) (hn : n ≤ 1099511627776) : r ≤ 1048576 := by
  refine Int.not_lt.1 fun hlt => ?_
  have : (1048577 : Int) * 1048577 ≤ r * r := mul_le' (by omega) (by omega) (by omega) (by omega)
  have := h.2.1
  omega
theorem fn90 (n : Int) (h : 0 ≤ n ∧ n ≤ 1099511627776) : Ct prog 90 [vi n] (vi (sqrtS n)) [] := by
  refine Ct.by gok eok mixed func90 c90 rfl (by simp [ntmps90]) (by simp) (by simp [ResIds]) fun E hE => ?_
  simp [p90]
  refine pw_loopC (α := Int × Int) 0 (fun _ : Unit => ⟨slots [(3, vi (sqrtS n))], lk [], 0⟩) (fun _ => True) (fun x => ⟨slots [(0, vi n), (3, vi x.1), (4, vi x.2)], lk [], 0⟩) (fun x => 0 ≤ x.1 ∧ x.1 < x.2 ∧ x.2 ≤ 1048577 ∧ x.1 * x.1 ≤ n ∧ n < x.2 * x.2) (fun x => (x.2 - x.1).toNat) (0, 1048577) ?_ ?_ ?_ fun _ _ => ?_
  · simp; omega
  · refine Weak.mk hE (lk []) _ _ _ ?_ ?_ ?_ ?_ ?_ <;> simp
  · rintro ⟨lo, hi⟩ ⟨h1, h2, h3, h4, h5⟩
    simp only at h1 h2 h3 h4 h5
    have w1 : IntKind.wrap .i64 (hi - lo) = hi - lo := wrap64 (by omega) (by omega)
    have w2 : IntKind.wrap .i64 (lo + hi) = lo + hi := wrap64 (by omega) (by omega)
    have t : (lo + hi).tdiv 2 = (lo + hi) / 2 := Int.tdiv_eq_ediv_of_nonneg (by omega)
    have w3 : IntKind.wrap .i64 ((lo + hi) / 2) = (lo + hi) / 2 := wrap64 (by omega) (by omega)
    have m0 : 0 ≤ (lo + hi) / 2 := by omega
    have m1 : (lo + hi) / 2 * ((lo + hi) / 2) ≤ 1048577 * 1048577 := mul_le' (by omega) (by omega) m0 (by omega)
    have m2 := Int.mul_nonneg m0 m0
    have w4 : IntKind.wrap .i64 ((lo + hi) / 2 * ((lo + hi) / 2)) = (lo + hi) / 2 * ((lo + hi) / 2) := wrap64 (by omega) (by omega)
    by_cases hc : 1 < hi - lo
    · by_cases hm : (lo + hi) / 2 * ((lo + hi) / 2) ≤ n
      · simp [p90l0, w1, w2, t, w3, w4, hc, hm]
        refine ⟨(lo + hi) / 2, hi, ⟨m0, by omega, h3, hm, h5⟩, by omega, ?_⟩
        refine Weak.mk hE (lk []) _ _ _ ?_ ?_ ?_ ?_ ?_ <;> simp
      · simp [p90l0, w1, w2, t, w3, w4, hc, hm]
        refine ⟨lo, (lo + hi) / 2, ⟨h1, by omega, by omega, h4, by omega⟩, by omega, ?_⟩
        refine Weak.mk hE (lk []) _ _ _ ?_ ?_ ?_ ?_ ?_ <;> simp
    · have e : hi = lo + 1 := by omega
      have : lo = sqrtS n := isSqrt_uniq ⟨h1, h4, by rw [← e]; exact h5⟩ (sqrtS_is n h)
      simp [p90l0, w1, hc]
      refine Weak.mk hE (lk []) _ _ _ ?_ ?_ ?_ ?_ ?_ <;> simp [this]
  · simp
    refine RetOk.by (fun _ => none) ?_
    simp [results90]
def rootS (a : Int × Int) : (Int × Int) × Int :=
  if okS a then (if a.1 < 0 then ((0, 0), 2) else ((sqrtS a.1, if sqrtS a.2 * sqrtS a.2 = a.2 then sqrtS a.2 else sqrtS a.2 + 1), 0)) else ((0, 0), 10)
theorem fn32 (a : Int × Int) : Ct prog 32 [vsp a.1 a.2] (vse (rootS a)) [] := by
  refine Ct.by gok eok mixed func32 c32 rfl (by simp [ntmps32]) (by simp) (by simp [ResIds]) fun E hE => ?_
  simp [p32, repl, splice]
  refine ACall.mk _ _ _ (fn85 [a] (by simp)) (by first | (simp; done) | simp [Bor_ls]) (by simp) (by first | (left; simp; done) | (right; simp; done)) ?_
  by_cases h : okS a = true
  · have hf : fineS [a] = true := by simpa [fineS] using h
    have hh := okS_iff.1 h
    by_cases h1 : a.1 < 0
    · simp [hf, h1, splice]
      refine RetOk.by (fun _ => none) ?_
      simp [results32, rootS, h, h1]
    · simp [hf, h1, inC, Nat.testBit]
      refine ACall.mk _ _ _ (fn90 a.1 (by omega)) (by first | (simp; done) | simp [Bor_ls, Bor1_ls]) (by simp) (by first | (left; simp; done) | (right; simp; done)) ?_
      simp [inC, Nat.testBit]
      refine ACall.mk _ _ _ (fn90 a.2 (by omega)) (by first | (simp; done) | simp [Bor_ls, Bor1_ls]) (by simp) (by first | (left; simp; done) | (right; simp; done)) ?_
      have q := sqrtS_is a.2 (by omega)
      have ql := isSqrt_le q (by omega)
      have m := q.2.1
      have m2 := Int.mul_nonneg q.1 q.1
      have w : IntKind.wrap .i64 (sqrtS a.2 * sqrtS a.2) = sqrtS a.2 * sqrtS a.2 := wrap64 (by omega) (by omega)
      have w2 : IntKind.wrap .i64 (sqrtS a.2 + 1) = sqrtS a.2 + 1 := wrap64 (by have := q.1; omega) (by omega)
      have wa : IntKind.wrap .i64 a.2 = a.2 := wrap64 (by omega) (by omega)
      by_cases hq : sqrtS a.2 * sqrtS a.2 = a.2
      · simp [splice, wa, hq]
        refine RetOk.by (fun _ => none) ?_
        simp [results32, rootS, h, h1, hq]
      · simp [splice, w, w2, hq]
        refine RetOk.by (fun _ => none) ?_
        simp [results32, rootS, h, h1, hq]
  · have hf : fineS [a] = false := by simpa [fineS] using h
    simp [hf, splice]
    refine RetOk.by (fun _ => none) ?_
    simp [results32, rootS, h]
end Go.Proofs.Try
