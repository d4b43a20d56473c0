/- Contracts: what each function of the program computes, for the arguments that its theorem names; and from there the given statement. Conditions: those that each theorem states. -/
import Derived.Test.YtaedloehfgmcnaaSa
namespace Go.Proofs.Try
open Go.Psl
def anyN (T : Nat → Bool) : Nat → Bool
  | 0 => false
  | n + 1 => anyN T n || T n
theorem anyN_iff {T : Nat → Bool} : ∀ {n : Nat}, anyN T n = true ↔ ∃ m, m < n ∧ T m = true
  | 0 => by simp [anyN]
  | n + 1 => by
    rw [anyN, Bool.or_eq_true, anyN_iff]
    constructor
    · rintro (⟨m, h, h2⟩ | h)
      · exact ⟨m, by omega, h2⟩
      · exact ⟨n, by omega, h⟩
    · rintro ⟨m, h, h2⟩
      by_cases e : m = n
      · subst e; exact Or.inr h2
      · exact Or.inl ⟨m, by omega, h2⟩
def cxN (a : Int × Int) (w : Int) (n : Nat) : Int := if bits .and .i64 (n : Int) w = 0 then a.1 else a.2
theorem cx_end (a : Int × Int) (w : Int) (n : Nat) : endOf a (cxN a w n) := by unfold cxN; split; exact Or.inl rfl; exact Or.inr rfl
theorem cx_at {a b c : Int × Int} {x y z : Int} (hx : endOf a x) (hy : endOf b y) (hz : endOf c z) : ∃ m, m < 8 ∧ cxN a 1 m = x ∧ cxN b 2 m = y ∧ cxN c 4 m = z := by
  rcases hx with rfl | rfl <;> rcases hy with rfl | rfl <;> rcases hz with rfl | rfl
  · exact ⟨0, by omega, rfl, rfl, rfl⟩
  · exact ⟨4, by omega, rfl, rfl, rfl⟩
  · exact ⟨2, by omega, rfl, rfl, rfl⟩
  · exact ⟨6, by omega, rfl, rfl, rfl⟩
  · exact ⟨1, by omega, rfl, rfl, rfl⟩
  · exact ⟨5, by omega, rfl, rfl, rfl⟩
  · exact ⟨3, by omega, rfl, rfl, rfl⟩
  · exact ⟨7, by omega, rfl, rfl, rfl⟩
theorem large_of {a b c : Int × Int} (hc : 1 ≤ c.1) (hc2 : c.1 ≤ c.2) (h : (allS a b c).1 < -1099511627776 ∨ 1099511627776 < (allS a b c).2) : ∃ x y z, endOf a x ∧ endOf b y ∧ endOf c z ∧ (z * 1099511627776 < x * y ∨ x * y < -z * 1099511627776) := by
  obtain ⟨⟨e, he, h1⟩, e', he', h2⟩ := around_at (endsS a b c) (endS a b c 0)
  unfold allS at h
  rcases h with h | h
  · rw [h1] at h
    obtain ⟨x, y, z, hx, hy, hz, rfl⟩ := mem_ends he
    have hz1 := end_pos hz hc hc2
    rw [share_clamp x y z hz1] at h
    refine ⟨x, y, z, hx, hy, hz, Or.inr ?_⟩
    have : x * y / z < -1099511627776 := by unfold clampF at h; simp only at h; omega
    rw [Int.ediv_lt_iff_lt_mul (by omega)] at this
    omega
  · rw [h2] at h
    obtain ⟨x, y, z, hx, hy, hz, rfl⟩ := mem_ends he'
    have hz1 := end_pos hz hc hc2
    rw [share_clamp x y z hz1] at h
    refine ⟨x, y, z, hx, hy, hz, Or.inl ?_⟩
    have : -(x * y) / z < -1099511627776 := by unfold clampF at h; simp only at h; omega
    rw [Int.ediv_lt_iff_lt_mul (by omega)] at this
    omega
theorem in_low {a b c : Int × Int} {x y z : Int} (hx : a.1 ≤ x ∧ x ≤ a.2) (hy : b.1 ≤ y ∧ y ≤ b.2) (hz : c.1 ≤ z ∧ z ≤ c.2) (hc : 1 ≤ c.1) (h1 : -1099511627776 ≤ (allS a b c).1) : (allS a b c).1 * z ≤ x * y := by
  have h := all_low hx hy hz hc
  have : (allS a b c).1 ≤ x * y / z := by unfold clampF at h; omega
  exact (Int.le_ediv_iff_mul_le (by omega)).1 this
theorem in_high {a b c : Int × Int} {x y z : Int} (hx : a.1 ≤ x ∧ x ≤ a.2) (hy : b.1 ≤ y ∧ y ≤ b.2) (hz : c.1 ≤ z ∧ z ≤ c.2) (hc : 1 ≤ c.1) (h1 : (allS a b c).2 ≤ 1099511627776) : x * y ≤ (allS a b c).2 * z := by
  have h := all_high hx hy hz hc
  have : -(allS a b c).2 ≤ -(x * y) / z := by unfold clampF at h; omega
  have := (Int.le_ediv_iff_mul_le (show 0 < z by omega)).1 this
  rw [Int.neg_mul] at this
  omega
theorem end_in {a : Int × Int} {x : Int} (h : endOf a x) (ha : a.1 ≤ a.2) : a.1 ≤ x ∧ x ≤ a.2 := by rcases h with rfl | rfl <;> omega
theorem not_large {a b c : Int × Int} {x y z : Int} (hx : a.1 ≤ x ∧ x ≤ a.2) (hy : b.1 ≤ y ∧ y ≤ b.2) (hz : c.1 ≤ z ∧ z ≤ c.2) (hc : 1 ≤ c.1) (h1 : -1099511627776 ≤ (allS a b c).1) (h2 : (allS a b c).2 ≤ 1099511627776) : ¬ (z * 1099511627776 < x * y ∨ x * y < -z * 1099511627776) := by
  have l := in_low hx hy hz hc h1
  have h := in_high hx hy hz hc h2
  have e1 : (allS a b c).2 * z ≤ 1099511627776 * z := Int.mul_le_mul_of_nonneg_right h2 (by omega)
  have e2 : -1099511627776 * z ≤ (allS a b c).1 * z := Int.mul_le_mul_of_nonneg_right h1 (by omega)
  omega
theorem low_of {a b c : Int × Int} (hc : 1 ≤ c.1) (hc2 : c.1 ≤ c.2) (h : -1099511627776 ≤ (allS a b c).1 ∧ (allS a b c).1 ≤ 1099511627776) : ∃ x y z, endOf a x ∧ endOf b y ∧ endOf c z ∧ x * y < ((allS a b c).1 + 1) * z := by
  obtain ⟨⟨e, he, h1⟩, _⟩ := around_at (endsS a b c) (endS a b c 0)
  obtain ⟨x, y, z, hx, hy, hz, rfl⟩ := mem_ends he
  have hz1 := end_pos hz hc hc2
  rw [share_clamp x y z hz1] at h1
  refine ⟨x, y, z, hx, hy, hz, ?_⟩
  change (allS a b c).1 = clampF (x * y / z) at h1
  have : x * y / z = (allS a b c).1 := by rw [h1] at h ⊢; unfold clampF at h ⊢; omega
  rw [← this]
  exact Int.lt_ediv_add_one_mul_self _ (by omega)
theorem high_of {a b c : Int × Int} (hc : 1 ≤ c.1) (hc2 : c.1 ≤ c.2) (h : -1099511627776 ≤ (allS a b c).2 ∧ (allS a b c).2 ≤ 1099511627776) : ∃ x y z, endOf a x ∧ endOf b y ∧ endOf c z ∧ ((allS a b c).2 - 1) * z < x * y := by
  obtain ⟨_, e, he, h1⟩ := around_at (endsS a b c) (endS a b c 0)
  obtain ⟨x, y, z, hx, hy, hz, rfl⟩ := mem_ends he
  have hz1 := end_pos hz hc hc2
  rw [share_clamp x y z hz1] at h1
  refine ⟨x, y, z, hx, hy, hz, ?_⟩
  change (allS a b c).2 = clampF (-(-(x * y) / z)) at h1
  have e1 : -(x * y) / z = -(allS a b c).2 := by rw [h1] at h ⊢; unfold clampF at h ⊢; omega
  have := Int.lt_ediv_add_one_mul_self (-(x * y)) (show 0 < z by omega)
  rw [e1] at this
  have e2 : (-(allS a b c).2 + 1) * z = -(((allS a b c).2 - 1) * z) := by rw [← Int.neg_mul]; congr 1; omega
  omega
end Go.Proofs.Try
