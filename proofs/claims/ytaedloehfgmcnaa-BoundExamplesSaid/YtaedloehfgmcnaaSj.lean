/- Own lemmas and contracts of functions, used by the last text of this claim for the given statement. Conditions: those that each theorem states. -/
import Derived.Test.YtaedloehfgmcnaaSi
import Derived.Test.YtaedloehfgmcnaaSg
namespace Go.Proofs.Try
open Go.Psl
theorem digit_lt {u v D : Int} (hD : 0 < D) (hu : u < D) (hv : v < 4294967296) : (u * 4294967296 + v) / D < 4294967296 := by
  rw [Int.ediv_lt_iff_lt_mul hD]
  have : u * 4294967296 + 4294967296 ≤ 4294967296 * D := by omega
  omega
theorem pow_pos' (s : Nat) : (1 : Int) ≤ 2 ^ s := by
  have : 0 < 2 ^ s := Nat.pow_pos (by omega)
  exact_mod_cast this
theorem pow_split (s t n : Nat) (h : s + t = n) : (2 : Int) ^ s * 2 ^ t = 2 ^ n := by rw [← h, Int.pow_add]
theorem fn123z (lo y : Int) (hlo : 0 ≤ lo ∧ lo ≤ 18446744073709551615) (hy : 1 ≤ y ∧ y ≤ 18446744073709551615) : Ct prog 123 [vu 0, vu lo, vu y] (.tup [vu (lo / y), vu (lo % y)]) [] := by
  refine Ct.by gok eok mixed func123 c123 rfl (by simp [ntmps123]) (by simp) (by simp [ResIds]) fun E hE => ?_
  have h1 : (y == 0) = false := by simp; omega
  have h2 : decide (y ≤ 0) = false := by simp; omega
  have h3 : ¬ y = 0 := by omega
  have h5 : ¬ y ≤ 0 := by omega
  have q0 : 0 ≤ lo / y := Int.ediv_nonneg hlo.1 (by omega)
  have q1 : lo / y ≤ lo := Int.ediv_le_self _ hlo.1
  have e1 : lo.tdiv y = lo / y := Int.tdiv_eq_ediv_of_nonneg hlo.1
  have e2 : lo.tmod y = lo % y := Int.tmod_eq_emod_of_nonneg hlo.1
  have e3 : IntKind.wrap .u64 (lo / y) = lo / y := wrapu64 q0 (by omega)
  simp [p123, h3, h5, e1, e2, e3]
  refine RetOk.by (fun _ => none) ?_
  simp [results123]
theorem fn123 (hi lo y : Int) (hhi : 1 ≤ hi ∧ hi < y) (hlo : 0 ≤ lo ∧ lo ≤ 18446744073709551615) (hy : y ≤ 18446744073709551615) : Ct prog 123 [vu hi, vu lo, vu y] (.tup [vu ((hi * 18446744073709551616 + lo) / y), vu ((hi * 18446744073709551616 + lo) % y)]) [] := by
  refine Ct.by gok eok mixed func123 c123 rfl (by simp [ntmps123]) (by simp) (by simp [ResIds]) fun E hE => ?_
  have h3 : ¬ y = 0 := by omega
  have h5 : ¬ y ≤ hi := by omega
  have h6 : ¬ hi = 0 := by omega
  simp [p123, h3, h5, h6]
  refine ACall.mk _ _ _ (fn144 y (by omega)) (by first | (simp; done) | simp [Bor_ls, Bor1_ls]) (by simp) (by first | (left; simp; done) | (right; simp; done)) ?_
  obtain ⟨b1, b2, b3⟩ := len64_bounds y (by omega)
  obtain ⟨b4, b5⟩ := len64_le y (by omega) hy
  obtain ⟨S, hS, hS2⟩ : ∃ S : Nat, 64 - len64 y = S ∧ S ≤ 63 := ⟨(64 - len64 y).toNat, by omega, by omega⟩
  obtain ⟨T, hT⟩ : ∃ T : Nat, S + T = 64 := ⟨64 - S, by omega⟩
  have p1 : (2 : Int) ^ S * 2 ^ T = 18446744073709551616 := by rw [pow_split S T 64 hT]; rfl
  have p2 := pow_pos' S
  have p3 := pow_pos' T
  have w1 : IntKind.wrap .u64 (S : Int) = S := wrapu64 (by omega) (by omega)
  have w2 : IntKind.wrap .u64 (64 - (S : Int)) = T := by rw [wrapu64 (by omega) (by omega)]; omega
  have eL : (len64 y).toNat = T := by omega
  have eL1 : (2 : Int) ^ (len64 y - 1).toNat * 2 = 2 ^ T := by
    obtain ⟨T', rfl⟩ : ∃ T', T = T' + 1 := ⟨T - 1, by omega⟩
    rw [show (len64 y - 1).toNat = T' by omega, Int.pow_succ]
  rw [eL] at b2
  have d1 : y * 2 ^ S < 18446744073709551616 := by rw [← p1, Int.mul_comm]; exact Int.mul_lt_mul_of_pos_left b2 (by omega)
  have d2 : 9223372036854775808 ≤ y * 2 ^ S := by
    have : 2 ^ T * 2 ^ S ≤ y * 2 * 2 ^ S := Int.mul_le_mul_of_nonneg_right (by omega) (by omega)
    rw [Int.mul_comm (2 ^ T), p1] at this
    have e : y * 2 * 2 ^ S = 2 * (y * 2 ^ S) := by rw [Int.mul_comm y 2, Int.mul_assoc]
    omega
  have d3 : hi * 2 ^ S + 2 ^ S ≤ y * 2 ^ S := by
    have : (hi + 1) * 2 ^ S ≤ y * 2 ^ S := Int.mul_le_mul_of_nonneg_right (by omega) (by omega)
    rw [Int.add_mul, Int.one_mul] at this
    exact this
  have d4 : 0 ≤ hi * 2 ^ S := Int.mul_nonneg (by omega) (by omega)
  obtain ⟨lh, ll, hl, l1, l2, l3, l4⟩ : ∃ lh ll : Int, lo = lh * 2 ^ T + ll ∧ 0 ≤ lh ∧ lh < 2 ^ S ∧ 0 ≤ ll ∧ ll < 2 ^ T := by
    refine ⟨lo / 2 ^ T, lo % 2 ^ T, by rw [Int.mul_comm]; exact (Int.mul_ediv_add_emod lo (2 ^ T)).symm, Int.ediv_nonneg hlo.1 (by omega), ?_, Int.emod_nonneg _ (by omega), Int.emod_lt_of_pos _ (by omega)⟩
    rw [Int.ediv_lt_iff_lt_mul (by omega), p1]; omega
  have l5 : lo / 2 ^ T = lh := by
    rw [hl, Int.add_comm, Int.add_mul_ediv_right _ _ (by omega), Int.ediv_eq_zero_of_lt l3 l4]; omega
  have l6 : lo * 2 ^ S = lh * 18446744073709551616 + ll * 2 ^ S := by
    rw [hl, Int.add_mul, Int.mul_assoc, Int.mul_comm (2 ^ T), p1]
  have l7 : ll * 2 ^ S + 2 ^ S ≤ 18446744073709551616 := by
    have : (ll + 1) * 2 ^ S ≤ 2 ^ T * 2 ^ S := Int.mul_le_mul_of_nonneg_right (by omega) (by omega)
    rw [Int.add_mul, Int.one_mul, Int.mul_comm (2 ^ T), p1] at this
    exact this
  have l8 : 0 ≤ ll * 2 ^ S := Int.mul_nonneg l3 (by omega)
  have hU : (hi * 18446744073709551616 + lo) * 2 ^ S = (hi * 2 ^ S + lh) * 18446744073709551616 + ll * 2 ^ S := by
    rw [Int.add_mul, l6, Int.add_mul, Int.mul_right_comm]; omega
  have hor : bits .or .u64 (hi * 2 ^ S) lh = hi * 2 ^ S + lh := or_add S (by omega) l1 l2 (by omega)
  have v1 : IntKind.wrap .u64 (y * 2 ^ S) = y * 2 ^ S := wrapu64 (by omega) (by omega)
  have v2 : IntKind.wrap .u64 (hi * 2 ^ S) = hi * 2 ^ S := wrapu64 (by omega) (by omega)
  have v3 : IntKind.wrap .u64 (lo * 2 ^ S) = ll * 2 ^ S := by rw [wrapu_mod, l6]; omega
  have c1 : (0 : Int) ≤ S ∧ (S : Int) ≤ 64 := by omega
  have c2 : (0 : Int) ≤ T ∧ (T : Int) ≤ 64 := by omega
  have hN : ∀ q r, (hi * 18446744073709551616 + lo) * 2 ^ S = q * (y * 2 ^ S) + r → 0 ≤ r → r < y * 2 ^ S → q = (hi * 18446744073709551616 + lo) / y ∧ r / 2 ^ S = (hi * 18446744073709551616 + lo) % y := fun q r h1 h2 h3 => by
    generalize hi * 18446744073709551616 + lo = N at *
    have hq : q = N / y := by
      have e : N * 2 ^ S / (y * 2 ^ S) = N / y := Int.mul_ediv_mul_of_pos_left _ _ (by omega)
      rw [← e, h1, Int.add_comm, Int.add_mul_ediv_right _ _ (by omega), Int.ediv_eq_zero_of_lt h2 h3]; omega
    refine ⟨hq, ?_⟩
    have e2 : N * 2 ^ S = (q * y) * 2 ^ S + r := by rw [h1, Int.mul_assoc]
    have e3 : r = (N - q * y) * 2 ^ S := by rw [Int.sub_mul]; omega
    rw [e3, Int.mul_ediv_cancel _ (by omega), hq, Int.emod_def, Int.mul_comm]
  simp [hS, w1, w2, c1.1, c1.2, c2.1, c2.2, v1, v2, v3, l5, hor]
  generalize y * 2 ^ S = D at *
  generalize hu : hi * 2 ^ S + lh = u at *
  generalize ll * 2 ^ S = w at *
  have m1 : bits .and .u64 D 4294967295 = D % 4294967296 := and_mask (by omega) (by omega)
  have m2 : bits .and .u64 w 4294967295 = w % 4294967296 := and_mask (by omega) (by omega)
  obtain ⟨y1, y0, hy1, hy0⟩ : ∃ y1 y0 : Int, D / 4294967296 = y1 ∧ D % 4294967296 = y0 := ⟨_, _, rfl, rfl⟩
  obtain ⟨w1', w0, hw1, hw0⟩ : ∃ w1 w0 : Int, w / 4294967296 = w1 ∧ w % 4294967296 = w0 := ⟨_, _, rfl, rfl⟩
  have hDe : D = y1 * 4294967296 + y0 := by omega
  have hy1n : ¬ y1 = 0 := by omega
  have hu0 : 0 ≤ u := by omega
  have huD : u < D := by omega
  have td : ∀ a : Int, 0 ≤ a → a.tdiv y1 = a / y1 := fun a ha => Int.tdiv_eq_ediv_of_nonneg ha
  have dv : ∀ a : Int, 0 ≤ a → 0 ≤ a / y1 ∧ a / y1 ≤ a ∧ a / y1 * y1 + a % y1 = a ∧ 0 ≤ a % y1 ∧ a % y1 < y1 := fun a ha => ⟨Int.ediv_nonneg ha (by omega), Int.ediv_le_self _ ha, by rw [Int.mul_comm]; exact Int.mul_ediv_add_emod a y1, Int.emod_nonneg _ hy1n, Int.emod_lt_of_pos _ (by omega)⟩
  have dq : ∀ a v : Int, 0 ≤ a → 0 ≤ v → v < 4294967296 → (a * 4294967296 + v) / D ≤ a / y1 := fun a v ha hv hv' => by
    obtain ⟨z1, z2, z3, z4, z5⟩ := dv a ha
    have hlt : (a * 4294967296 + v) / D < a / y1 + 1 := by
      rw [Int.ediv_lt_iff_lt_mul (by omega), hDe]
      have e : (a / y1 + 1) * (y1 * 4294967296 + y0) = (a / y1 * y1) * 4294967296 + y1 * 4294967296 + (a / y1 + 1) * y0 := by
        rw [Int.add_mul, Int.one_mul, Int.mul_add, ← Int.mul_assoc, Int.add_mul, Int.one_mul]; omega
      have : 0 ≤ (a / y1 + 1) * y0 := Int.mul_nonneg (by omega) (by omega)
      omega
    omega
  obtain ⟨z1, z2, z3, z4, z5⟩ := dv u hu0
  have k1 : IntKind.wrap .u64 (u / y1) = u / y1 := wrapu64 z1 (by omega)
  have k2 : IntKind.wrap .u64 (u / y1 * y1) = u / y1 * y1 := wrapu64 (Int.mul_nonneg z1 (by omega)) (by omega)
  have k3 : IntKind.wrap .u64 (u - u / y1 * y1) = u - u / y1 * y1 := wrapu64 (by omega) (by omega)
  simp [m1, m2, hy1, hy0, hw1, hw0, hy1n, td u hu0, k1, k2, k3]
  have loopy : ∀ a v : Int, 0 ≤ a → a < D → 0 ≤ v → v < 4294967296 → ∃ Q : Int, Q = (a * 4294967296 + v) / D ∧ 0 ≤ Q ∧ Q < 4294967296 ∧ Q * D ≤ a * 4294967296 + v ∧ a * 4294967296 + v < Q * D + D ∧ Q ≤ a / y1 ∧
      (∀ q r, Q ≤ q → q * y1 + r = a → 4294967296 ≤ q ∨ 4294967296 * r + v < q * y0 → Q ≤ q - 1) ∧ (∀ q r, Q ≤ q → q * y1 + r = a → q * y0 ≤ 4294967296 * r + v → q = Q) ∧ (∀ q r, 0 ≤ q → q * y1 + r = a → 4294967296 ≤ r → q * y0 ≤ 4294967296 * r + v) := fun a v ha haD hv hv' => by
    refine ⟨_, rfl, Int.ediv_nonneg (by omega) (by omega), digit_lt (by omega) haD hv', Int.ediv_mul_le _ (by omega), ?_, dq a v ha hv hv', fun q r h1 h2 h3 => ?_, fun q r h1 h2 h3 => ?_, fun q r h1 h2 h3 => ?_⟩
    · have := Int.lt_ediv_add_one_mul_self (a * 4294967296 + v) (show 0 < D by omega)
      rw [Int.add_mul, Int.one_mul] at this
      exact this
    · rw [hDe] at h1 ⊢
      exact digit_step (by omega) (by omega) (by omega) (by omega) ha (by omega) hv hv' h1 h2 h3
    · rw [hDe] at h1 ⊢
      exact digit_done (by omega) (by omega) (by omega) h1 h2 h3
    · exact digit_break (by omega) (by omega) (by omega) h1 (by omega : a < y1 * 4294967296 + y0) hv h2 h3
  obtain ⟨Q1, _, a1, a2, a3, a4, a5, st1, dn1, br1⟩ := loopy u w1' hu0 huD (by omega) (by omega)
  refine pw_loopC (α := Int × Int) 0 (fun _ : Unit => ⟨slots [(2, vu D), (8, vu S), (9, vu y1), (10, vu y0), (11, vu u), (13, vu w1'), (14, vu w0), (15, vu Q1)], lk [], 0⟩) (fun _ => True) (fun x => ⟨slots [(2, vu D), (8, vu S), (9, vu y1), (10, vu y0), (11, vu u), (13, vu w1'), (14, vu w0), (15, vu x.1), (16, vu x.2)], lk [], 0⟩)
    (fun x => Q1 ≤ x.1 ∧ x.1 * y1 + x.2 = u ∧ 0 ≤ x.2 ∧ x.2 < 4294967296 ∧ x.1 ≤ u) (fun x => x.1.toNat) (u / y1, u - u / y1 * y1) ?_ ?_ ?_ fun _ _ => ?_
  · exact ⟨a5, by simp only; omega, by simp only; omega, by simp only; omega, z2⟩
  · refine Weak.mk hE (fun _ => none) _ _ _ ?_ ?_ ?_ ?_ ?_ <;> simp
  · rintro ⟨q, r⟩ ⟨i1, i2, i3, i4, i5⟩
    simp only at i1 i2 i3 i4 i5
    have step := st1 q r i1 i2
    have g1 : IntKind.wrap .u64 (r + y1) = r + y1 := wrapu64 (by omega) (by omega)
    have g2 : (q - 1) * y1 + (r + y1) = u := by rw [Int.sub_mul]; omega
    have go : Q1 ≤ q - 1 → IntKind.wrap .u64 (q - 1) = q - 1 := fun h => wrapu64 (by omega) (by omega)
    by_cases hc1 : 4294967296 ≤ q
    · have h1 := step (.inl hc1)
      by_cases hb : 4294967296 ≤ r + y1
      · have := dn1 _ _ h1 g2 (br1 _ _ (by omega) g2 hb)
        simp [p123l0, hc1, go h1, g1, hb]
        refine Weak.mk hE (fun _ => none) _ _ _ ?_ ?_ ?_ ?_ ?_ <;> simp [this]
      · simp [p123l0, hc1, go h1, g1, hb]
        refine ⟨q - 1, r + y1, ⟨h1, g2, by omega, by omega, by omega⟩, by omega, ?_⟩
        refine Weak.mk hE (fun _ => none) _ _ _ ?_ ?_ ?_ ?_ ?_ <;> simp
    · have n1 : 0 ≤ q * y0 := Int.mul_nonneg (by omega) (by omega)
      have n2 : q * y0 ≤ 4294967295 * 4294967295 := mul_le' (by omega) (by omega) (by omega) (by omega)
      have j1 : IntKind.wrap .u64 (q * y0) = q * y0 := wrapu64 n1 (by omega)
      have j2 : IntKind.wrap .u64 (4294967296 * r) = 4294967296 * r := wrapu64 (by omega) (by omega)
      have j3 : IntKind.wrap .u64 (4294967296 * r + w1') = 4294967296 * r + w1' := wrapu64 (by omega) (by omega)
      by_cases hc2 : 4294967296 * r + w1' < q * y0
      · have h1 := step (.inr hc2)
        by_cases hb : 4294967296 ≤ r + y1
        · have := dn1 _ _ h1 g2 (br1 _ _ (by omega) g2 hb)
          simp [p123l0, hc1, hc2, j1, j2, j3, go h1, g1, hb]
          refine Weak.mk hE (fun _ => none) _ _ _ ?_ ?_ ?_ ?_ ?_ <;> simp [this]
        · simp [p123l0, hc1, hc2, j1, j2, j3, go h1, g1, hb]
          refine ⟨q - 1, r + y1, ⟨h1, g2, by omega, by omega, by omega⟩, by omega, ?_⟩
          refine Weak.mk hE (fun _ => none) _ _ _ ?_ ?_ ?_ ?_ ?_ <;> simp
      · have := dn1 _ _ i1 i2 (by omega)
        simp [p123l0, hc1, hc2, j1, j2, j3]
        refine Weak.mk hE (fun _ => none) _ _ _ ?_ ?_ ?_ ?_ ?_ <;> simp [this]
  obtain ⟨R, hR⟩ : ∃ R : Int, R = u * 4294967296 + w1' - Q1 * D := ⟨_, rfl⟩
  have k4 : IntKind.wrap .u64 (IntKind.wrap .u64 (IntKind.wrap .u64 (u * 4294967296) + w1') - IntKind.wrap .u64 (Q1 * D)) = R := by
    rw [wrapu_mod, wrapu_mod, wrapu_mod, wrapu_mod]; omega
  have hR0 : 0 ≤ R ∧ R < D := by omega
  obtain ⟨x1, x2, x3, x4, x5⟩ := dv R hR0.1
  have k5 : IntKind.wrap .u64 (R / y1) = R / y1 := wrapu64 x1 (by omega)
  have k6 : IntKind.wrap .u64 (R / y1 * y1) = R / y1 * y1 := wrapu64 (Int.mul_nonneg x1 (by omega)) (by omega)
  have k7 : IntKind.wrap .u64 (R - R / y1 * y1) = R - R / y1 * y1 := wrapu64 (by omega) (by omega)
  simp [k4, hy1n, td R hR0.1, k5, k6, k7]
  obtain ⟨Q0, _, c1, c2, c3, c4, c5, st0, dn0, br0⟩ := loopy R w0 hR0.1 hR0.2 (by omega) (by omega)
  refine pw_loopC (α := Int × Int) 2 (fun _ : Unit => ⟨slots [(2, vu D), (8, vu S), (14, vu w0), (15, vu Q1), (17, vu R), (18, vu Q0)], lk [], 0⟩) (fun _ => True) (fun x => ⟨slots [(2, vu D), (8, vu S), (9, vu y1), (10, vu y0), (14, vu w0), (15, vu Q1), (17, vu R), (18, vu x.1), (16, vu x.2)], lk [], 0⟩)
    (fun x => Q0 ≤ x.1 ∧ x.1 * y1 + x.2 = R ∧ 0 ≤ x.2 ∧ x.2 < 4294967296 ∧ x.1 ≤ R) (fun x => x.1.toNat) (R / y1, R - R / y1 * y1) ?_ ?_ ?_ fun _ _ => ?_
  · exact ⟨c5, by simp only; omega, by simp only; omega, by simp only; omega, x2⟩
  · refine Weak.mk hE (fun _ => none) _ _ _ ?_ ?_ ?_ ?_ ?_ <;> simp
  · rintro ⟨q, r⟩ ⟨i1, i2, i3, i4, i5⟩
    simp only at i1 i2 i3 i4 i5
    have step := st0 q r i1 i2
    have g1 : IntKind.wrap .u64 (r + y1) = r + y1 := wrapu64 (by omega) (by omega)
    have g2 : (q - 1) * y1 + (r + y1) = R := by rw [Int.sub_mul]; omega
    have go : Q0 ≤ q - 1 → IntKind.wrap .u64 (q - 1) = q - 1 := fun h => wrapu64 (by omega) (by omega)
    by_cases hc1 : 4294967296 ≤ q
    · have h1 := step (.inl hc1)
      by_cases hb : 4294967296 ≤ r + y1
      · have := dn0 _ _ h1 g2 (br0 _ _ (by omega) g2 hb)
        simp [p123l1, hc1, go h1, g1, hb]
        refine Weak.mk hE (fun _ => none) _ _ _ ?_ ?_ ?_ ?_ ?_ <;> simp [this]
      · simp [p123l1, hc1, go h1, g1, hb]
        refine ⟨q - 1, r + y1, ⟨h1, g2, by omega, by omega, by omega⟩, by omega, ?_⟩
        refine Weak.mk hE (fun _ => none) _ _ _ ?_ ?_ ?_ ?_ ?_ <;> simp
    · have n1 : 0 ≤ q * y0 := Int.mul_nonneg (by omega) (by omega)
      have n2 : q * y0 ≤ 4294967295 * 4294967295 := mul_le' (by omega) (by omega) (by omega) (by omega)
      have j1 : IntKind.wrap .u64 (q * y0) = q * y0 := wrapu64 n1 (by omega)
      have j2 : IntKind.wrap .u64 (4294967296 * r) = 4294967296 * r := wrapu64 (by omega) (by omega)
      have j3 : IntKind.wrap .u64 (4294967296 * r + w0) = 4294967296 * r + w0 := wrapu64 (by omega) (by omega)
      by_cases hc2 : 4294967296 * r + w0 < q * y0
      · have h1 := step (.inr hc2)
        by_cases hb : 4294967296 ≤ r + y1
        · have := dn0 _ _ h1 g2 (br0 _ _ (by omega) g2 hb)
          simp [p123l1, hc1, hc2, j1, j2, j3, go h1, g1, hb]
          refine Weak.mk hE (fun _ => none) _ _ _ ?_ ?_ ?_ ?_ ?_ <;> simp [this]
        · simp [p123l1, hc1, hc2, j1, j2, j3, go h1, g1, hb]
          refine ⟨q - 1, r + y1, ⟨h1, g2, by omega, by omega, by omega⟩, by omega, ?_⟩
          refine Weak.mk hE (fun _ => none) _ _ _ ?_ ?_ ?_ ?_ ?_ <;> simp
      · have := dn0 _ _ i1 i2 (by omega)
        simp [p123l1, hc1, hc2, j1, j2, j3]
        refine Weak.mk hE (fun _ => none) _ _ _ ?_ ?_ ?_ ?_ ?_ <;> simp [this]
  obtain ⟨R0, hR0'⟩ : ∃ R0 : Int, R0 = R * 4294967296 + w0 - Q0 * D := ⟨_, rfl⟩
  have k8 : IntKind.wrap .u64 (IntKind.wrap .u64 (IntKind.wrap .u64 (R * 4294967296) + w0) - IntKind.wrap .u64 (Q0 * D)) = R0 := by
    rw [wrapu_mod, wrapu_mod, wrapu_mod, wrapu_mod]; omega
  have k9 : IntKind.wrap .u64 (Q1 * 4294967296) = Q1 * 4294967296 := wrapu64 (by omega) (by omega)
  have k10 : IntKind.wrap .u64 (Q1 * 4294967296 + Q0) = Q1 * 4294967296 + Q0 := wrapu64 (by omega) (by omega)
  have e5 : (Q1 * 4294967296 + Q0) * D = (Q1 * D) * 4294967296 + Q0 * D := by rw [Int.add_mul, Int.mul_right_comm]
  obtain ⟨n1, n2⟩ := hN (Q1 * 4294967296 + Q0) R0 (by rw [hU, e5]; omega) (by omega) (by omega)
  simp [k8, k9, k10, show (0 : Int) ≤ S by omega, show (S : Int) ≤ 64 by omega]
  refine RetOk.by (fun _ => none) ?_
  simp [results123, n1, n2]
end Go.Proofs.Try
namespace Go.Proofs.Try
open Go.Psl
def partS (P z : Int) : Int × Int := if P / z < 2199023255552 then (P / z, P % z) else (2199023255552, 0)
def upS (q : Int × Int) : Int := if 0 < q.2 then q.1 + 1 else q.1
def shareS (x y z : Int) : Int × Int :=
  let q := partS (max x (-x) * max y (-y)) z
  if decide (x < 0) != decide (y < 0) then (-(upS q), -q.1) else (q.1, upS q)
theorem partS_bounds {P z : Int} (hP : 0 ≤ P) (hz : 1 ≤ z) : 0 ≤ (partS P z).1 ∧ (partS P z).1 ≤ 2199023255552 := by
  have := Int.ediv_nonneg hP (show 0 ≤ z by omega)
  unfold partS; split <;> simp <;> omega
theorem mulmax {x y : Int} (hx : -1099511627776 ≤ x ∧ x ≤ 1099511627776) (hy : -1099511627776 ≤ y ∧ y ≤ 1099511627776) : 0 ≤ max x (-x) * max y (-y) ∧ max x (-x) * max y (-y) ≤ 1208925819614629174706176 := by
  refine ⟨Int.mul_nonneg (by omega) (by omega), ?_⟩
  have := mul_le' (a := max x (-x)) (b := max y (-y)) (c := 1099511627776) (d := 1099511627776) (by omega) (by omega) (by omega) (by omega)
  omega
theorem fn86 (x y z : Int) (hx : -1099511627776 ≤ x ∧ x ≤ 1099511627776) (hy : -1099511627776 ≤ y ∧ y ≤ 1099511627776) (hz : 1 ≤ z ∧ z ≤ 1099511627776) : Ct prog 86 [vi x, vi y, vi z] (vsp (shareS x y z).1 (shareS x y z).2) [] := by
  refine Ct.by gok eok mixed func86 c86 rfl (by simp [ntmps86]) (by simp) (by simp [ResIds]) fun E hE => ?_
  simp [p86]
  refine ACall.mk _ _ _ (fn122 x (by omega)) (by first | (simp; done) | simp [Bor_ls, Bor1_ls]) (by simp) (by first | (left; simp; done) | (right; simp; done)) ?_
  simp
  refine ACall.mk _ _ _ (fn122 y (by omega)) (by first | (simp; done) | simp [Bor_ls, Bor1_ls]) (by simp) (by first | (left; simp; done) | (right; simp; done)) ?_
  simp
  refine ACall.mk _ _ _ (fn121 (max x (-x)) (max y (-y)) (by omega) (by omega)) (by first | (simp; done) | simp [Bor_ls, Bor1_ls]) (by simp) (by first | (left; simp; done) | (right; simp; done)) ?_
  obtain ⟨P0, P1⟩ := mulmax hx hy
  generalize hP : max x (-x) * max y (-y) = P at *
  have wz : IntKind.wrap .u64 z = z := wrapu64 (by omega) (by omega)
  have hmod : 0 ≤ P % 18446744073709551616 ∧ P % 18446744073709551616 ≤ 18446744073709551615 := by omega
  have hP2 : P / 18446744073709551616 * 18446744073709551616 + P % 18446744073709551616 = P := by omega
  obtain ⟨b0, b1⟩ := partS_bounds P0 hz.1
  have b2 : 0 ≤ P / z := Int.ediv_nonneg P0 (by omega)
  have w1 : IntKind.wrap .i64 (partS P z).1 = (partS P z).1 := wrap64 (by omega) (by omega)
  have w2 : IntKind.wrap .i64 ((partS P z).1 + 1) = (partS P z).1 + 1 := wrap64 (by omega) (by omega)
  have w3 : IntKind.wrap .i64 (-((partS P z).1 + 1)) = -((partS P z).1 + 1) := wrap64 (by omega) (by omega)
  have w4 : IntKind.wrap .i64 (-(partS P z).1) = -(partS P z).1 := wrap64 (by omega) (by omega)
  by_cases hh : P / 18446744073709551616 < z
  · by_cases hq : P / z < 2199023255552
    · have eS : partS P z = (P / z, P % z) := if_pos hq
      have r0 : 0 ≤ P % z := Int.emod_nonneg _ (by omega)
      rw [eS] at w1 w2 w3 w4
      simp only at w1 w2 w3 w4
      by_cases h0 : P / 18446744073709551616 = 0
      · have e0 : P % 18446744073709551616 = P := by omega
        simp [wz, h0, e0, show (0 : Int) < z by omega]
        refine ACall.mk _ _ _ (fn123z P z (by omega) (by omega)) (by first | (simp; done) | simp [Bor_ls, Bor1_ls]) (by simp) (by first | (left; simp; done) | (right; simp; done)) ?_
        by_cases hr : 0 < P % z <;> by_cases hsx : x < 0 <;> by_cases hsy : y < 0 <;> simp [hq, hr, hsx, hsy, w1, w2, w3, w4, splice]
        all_goals
          refine RetOk.by (fun _ => none) ?_
          simp [results86, shareS, hP, eS, upS, hr, hsx, hsy]
      · simp [wz, hh]
        refine ACall.mk _ _ _ (fn123 (P / 18446744073709551616) (P % 18446744073709551616) z (by omega) hmod (by omega)) (by first | (simp; done) | simp [Bor_ls, Bor1_ls]) (by simp) (by first | (left; simp; done) | (right; simp; done)) ?_
        rw [hP2]
        by_cases hr : 0 < P % z <;> by_cases hsx : x < 0 <;> by_cases hsy : y < 0 <;> simp [hq, hr, hsx, hsy, w1, w2, w3, w4, splice]
        all_goals
          refine RetOk.by (fun _ => none) ?_
          simp [results86, shareS, hP, eS, upS, hr, hsx, hsy]
    · have eS : partS P z = (2199023255552, 0) := if_neg hq
      by_cases h0 : P / 18446744073709551616 = 0
      · have e0 : P % 18446744073709551616 = P := by omega
        simp [wz, h0, e0, show (0 : Int) < z by omega]
        refine ACall.mk _ _ _ (fn123z P z (by omega) (by omega)) (by first | (simp; done) | simp [Bor_ls, Bor1_ls]) (by simp) (by first | (left; simp; done) | (right; simp; done)) ?_
        by_cases hsx : x < 0 <;> by_cases hsy : y < 0 <;> simp [hq, hsx, hsy, splice, wrap64]
        all_goals
          refine RetOk.by (fun _ => none) ?_
          simp [results86, shareS, hP, eS, upS, hsx, hsy]
      · simp [wz, hh]
        refine ACall.mk _ _ _ (fn123 (P / 18446744073709551616) (P % 18446744073709551616) z (by omega) hmod (by omega)) (by first | (simp; done) | simp [Bor_ls, Bor1_ls]) (by simp) (by first | (left; simp; done) | (right; simp; done)) ?_
        rw [hP2]
        by_cases hsx : x < 0 <;> by_cases hsy : y < 0 <;> simp [hq, hsx, hsy, splice, wrap64]
        all_goals
          refine RetOk.by (fun _ => none) ?_
          simp [results86, shareS, hP, eS, upS, hsx, hsy]
  · have hq : ¬ P / z < 2199023255552 := by
      have : 2199023255552 ≤ P / z := by
        rw [Int.le_ediv_iff_mul_le (by omega)]
        omega
      omega
    have eS : partS P z = (2199023255552, 0) := if_neg hq
    by_cases hsx : x < 0 <;> by_cases hsy : y < 0 <;> simp [wz, hh, hsx, hsy, splice, wrap64]
    all_goals
      refine RetOk.by (fun _ => none) ?_
      simp [results86, shareS, hP, eS, upS, hsx, hsy]
end Go.Proofs.Try
namespace Go.Proofs.Try
open Go.Psl
def endS (a b c : Int × Int) (k : Nat) : Int × Int := shareS (if k % 2 = 1 then a.2 else a.1) (if k / 2 % 2 = 1 then b.2 else b.1) (if k / 4 = 1 then c.2 else c.1)
def endsS (a b c : Int × Int) : List (Int × Int) := [endS a b c 1, endS a b c 2, endS a b c 3, endS a b c 4, endS a b c 5, endS a b c 6, endS a b c 7]
def overS (a b c : Int × Int) : (Int × Int) × Int :=
  if okS a && okS b && okS c then (if c.1 < 1 then ((0, 0), 12) else sizedS (aroundS (endS a b c 0) (endsS a b c))) else ((0, 0), 10)
def endC (a b c : Int × Int) (i k : Nat) : List V := if k < i then [vi (endS a b c k).1, vi (endS a b c k).2] else [vi 0, vi 0]
def endCs (a b c : Int × Int) (i : Nat) : List V := endC a b c i 0 ++ endC a b c i 1 ++ endC a b c i 2 ++ endC a b c i 3 ++ endC a b c i 4 ++ endC a b c i 5 ++ endC a b c i 6 ++ endC a b c i 7
theorem endCs_len (a b c : Int × Int) (i : Nat) : (endCs a b c i).length = 16 := by
  have h : ∀ k, (endC a b c i k).length = 2 := fun k => by unfold endC; split <;> rfl
  simp [endCs, h]
theorem share_ends {a b c : Int × Int} (ha : okS a = true) (hb : okS b = true) (hc : okS c = true) (h1 : ¬ c.1 < 1) (k : Nat) : Ct prog 86 [vi (if k % 2 = 1 then a.2 else a.1), vi (if k / 2 % 2 = 1 then b.2 else b.1), vi (if k / 4 = 1 then c.2 else c.1)] (vsp (endS a b c k).1 (endS a b c k).2) [] := by
  rw [okS_iff] at ha hb hc
  refine fn86 _ _ _ ?_ ?_ ?_ <;> split <;> omega
set_option maxRecDepth 20000 in
theorem fn30 (a b c : Int × Int) : Ct prog 30 [vsp a.1 a.2, vsp b.1 b.2, vsp c.1 c.2] (vse (overS a b c)) [] := by
  refine Ct.by gok eok mixed func30 c30 rfl (by simp [ntmps30]) (by simp) (by simp [ResIds]) fun E hE => ?_
  simp [p30, repl, splice]
  refine ACall.mk _ _ _ (fn85 [a, b, c] (by simp)) (by first | (simp; done) | simp [Bor_ls]) (by simp) (by first | (left; simp; done) | (right; simp; done)) ?_
  by_cases h : (okS a && okS b && okS c) = true
  · have hf : fineS [a, b, c] = true := by simpa [fineS, Bool.and_assoc] using h
    have h' := h
    simp only [Bool.and_eq_true] at h'
    obtain ⟨⟨ha, hb⟩, hc⟩ := h'
    by_cases h1 : c.1 < 1
    · simp [hf, h1, splice]
      refine RetOk.by (fun _ => none) ?_
      simp [results30, overS, h, h1]
    · simp [hf, h1]
      refine pw_loopC (α := Nat) 1 (fun _ : Unit => ⟨slots [(6, .lp 0 0), (8, .lp 1 0)], lk [(0, [vi 0, vi 0]), (1, endCs a b c 8)], 2⟩) (fun _ => True) (fun i => ⟨slots [(3, .lp 2 0), (4, .lp 3 0), (5, .lp 4 0), (6, .lp 0 0), (8, .lp 1 0), (26, vi i)], lk [(0, [vi 0, vi 0]), (1, endCs a b c i), (2, [vi a.1, vi a.2]), (3, [vi b.1, vi b.2]), (4, [vi c.1, vi c.2])], 5⟩) (fun i => i ≤ 8) (fun i => 8 - i) 0 ?_ ?_ ?_ fun _ _ => ?_
      · simp
      · refine Weak.mk hE (lk [(0, 3145728), (1, 16777216), (2, 0), (3, 1048576), (4, 2097152)]) _ _ _ ?_ ?_ ?_ ?_ ?_ <;> simp [endCs, endC]
      · intro i hi
        simp [p30l0]
        by_cases hlt : i < 8
        · have hlt' : (i : Int) < 8 := by omega
          have hz : IntKind.wrap .i64 ((i : Int) + 1) = (i : Int) + 1 := wrap64 (by omega) (by omega)
          simp [hlt']
          refine pw_drawA [(18, 15), (19, 16)] (by kernel_rfl) ?_
          have e0 : bits .and .i64 0 1 = 0 := by decide
          have e1 : bits .and .i64 1 1 = 1 := by decide
          have e2 : bits .and .i64 2 1 = 0 := by decide
          have e3 : bits .and .i64 3 1 = 1 := by decide
          have e4 : bits .and .i64 4 1 = 0 := by decide
          have e5 : bits .and .i64 5 1 = 1 := by decide
          have e6 : bits .and .i64 6 1 = 0 := by decide
          have e7 : bits .and .i64 7 1 = 1 := by decide
          simp [inC, Nat.testBit, splice]
          have s0 := share_ends ha hb hc h1 0
          have s1 := share_ends ha hb hc h1 1
          have s2 := share_ends ha hb hc h1 2
          have s3 := share_ends ha hb hc h1 3
          have s4 := share_ends ha hb hc h1 4
          have s5 := share_ends ha hb hc h1 5
          have s6 := share_ends ha hb hc h1 6
          have s7 := share_ends ha hb hc h1 7
          simp at s0 s1 s2 s3 s4 s5 s6 s7
          have hi8 : i = 0 ∨ i = 1 ∨ i = 2 ∨ i = 3 ∨ i = 4 ∨ i = 5 ∨ i = 6 ∨ i = 7 := by omega
          rcases hi8 with rfl | rfl | rfl | rfl | rfl | rfl | rfl | rfl
          · simp [e0]
            refine ACall.mk _ _ _ (s0) (by first | (simp; done) | simp [Bor_ls, Bor1_ls]) (by simp) (by first | (left; simp; done) | (right; simp; done)) ?_
            simp [endCs, endC, splice, wrap64]
            refine ⟨1, by omega, by omega, ?_⟩
            refine Weak.mk hE (lk [(0, 0), (1, 1), (2, 2), (3, 3), (4, 4)]) _ _ _ ?_ ?_ ?_ ?_ ?_ <;> simp
          · simp [e0, e1]
            refine ACall.mk _ _ _ (s1) (by first | (simp; done) | simp [Bor_ls, Bor1_ls]) (by simp) (by first | (left; simp; done) | (right; simp; done)) ?_
            simp [endCs, endC, splice, wrap64]
            refine ⟨2, by omega, by omega, ?_⟩
            refine Weak.mk hE (lk [(0, 0), (1, 1), (2, 2), (3, 3), (4, 4)]) _ _ _ ?_ ?_ ?_ ?_ ?_ <;> simp
          · simp [e1, e2]
            refine ACall.mk _ _ _ (s2) (by first | (simp; done) | simp [Bor_ls, Bor1_ls]) (by simp) (by first | (left; simp; done) | (right; simp; done)) ?_
            simp [endCs, endC, splice, wrap64]
            refine ⟨3, by omega, by omega, ?_⟩
            refine Weak.mk hE (lk [(0, 0), (1, 1), (2, 2), (3, 3), (4, 4)]) _ _ _ ?_ ?_ ?_ ?_ ?_ <;> simp
          · simp [e1, e3]
            refine ACall.mk _ _ _ (s3) (by first | (simp; done) | simp [Bor_ls, Bor1_ls]) (by simp) (by first | (left; simp; done) | (right; simp; done)) ?_
            simp [endCs, endC, splice, wrap64]
            refine ⟨4, by omega, by omega, ?_⟩
            refine Weak.mk hE (lk [(0, 0), (1, 1), (2, 2), (3, 3), (4, 4)]) _ _ _ ?_ ?_ ?_ ?_ ?_ <;> simp
          · simp [e2, e4]
            refine ACall.mk _ _ _ (s4) (by first | (simp; done) | simp [Bor_ls, Bor1_ls]) (by simp) (by first | (left; simp; done) | (right; simp; done)) ?_
            simp [endCs, endC, splice, wrap64]
            refine ⟨5, by omega, by omega, ?_⟩
            refine Weak.mk hE (lk [(0, 0), (1, 1), (2, 2), (3, 3), (4, 4)]) _ _ _ ?_ ?_ ?_ ?_ ?_ <;> simp
          · simp [e2, e5]
            refine ACall.mk _ _ _ (s5) (by first | (simp; done) | simp [Bor_ls, Bor1_ls]) (by simp) (by first | (left; simp; done) | (right; simp; done)) ?_
            simp [endCs, endC, splice, wrap64]
            refine ⟨6, by omega, by omega, ?_⟩
            refine Weak.mk hE (lk [(0, 0), (1, 1), (2, 2), (3, 3), (4, 4)]) _ _ _ ?_ ?_ ?_ ?_ ?_ <;> simp
          · simp [e3, e6]
            refine ACall.mk _ _ _ (s6) (by first | (simp; done) | simp [Bor_ls, Bor1_ls]) (by simp) (by first | (left; simp; done) | (right; simp; done)) ?_
            simp [endCs, endC, splice, wrap64]
            refine ⟨7, by omega, by omega, ?_⟩
            refine Weak.mk hE (lk [(0, 0), (1, 1), (2, 2), (3, 3), (4, 4)]) _ _ _ ?_ ?_ ?_ ?_ ?_ <;> simp
          · simp [e3, e7]
            refine ACall.mk _ _ _ (s7) (by first | (simp; done) | simp [Bor_ls, Bor1_ls]) (by simp) (by first | (left; simp; done) | (right; simp; done)) ?_
            simp [endCs, endC, splice, wrap64]
            refine ⟨8, by omega, by omega, ?_⟩
            refine Weak.mk hE (lk [(0, 0), (1, 1), (2, 2), (3, 3), (4, 4)]) _ _ _ ?_ ?_ ?_ ?_ ?_ <;> simp
        · have : i = 8 := by omega
          subst this
          simp
          refine Weak.mk hE (lk [(0, 0), (1, 1)]) _ _ _ ?_ ?_ ?_ ?_ ?_ <;> simp [endCs, endC]
      · simp [endCs_len]
        refine ACall.mk _ _ _ (fn74 (endS a b c 0) (endsS a b c) (by simp [endsS])) (by first | (simp; done) | simp [Bor_ls, endsS, endCs, endC]) (by simp) (by first | (left; simp; done) | (right; simp; done)) ?_
        simp
        refine ACall.mk _ _ _ (fn87 (aroundS (endS a b c 0) (endsS a b c))) (by first | (simp; done) | simp [Bor_ls, Bor1_ls]) (by simp) (by first | (left; simp; done) | (right; simp; done)) ?_
        simp [splice]
        refine RetOk.by (fun _ => none) ?_
        simp [results30, overS, h, h1]
  · have hf : fineS [a, b, c] = false := by simpa [fineS, Bool.and_assoc] using h
    simp [hf, splice]
    refine RetOk.by (fun _ => none) ?_
    simp [results30, overS, h]
end Go.Proofs.Try
namespace Go.Proofs.Try
open Go.Psl
def mulS (a b : Int × Int) : (Int × Int) × Int := overS a b (1, 1)
theorem fn38 (a b : Int × Int) : Ct prog 38 [vsp a.1 a.2, vsp b.1 b.2] (vse (mulS a b)) [] := by
  refine Ct.by gok eok mixed func38 c38 rfl (by simp [ntmps38]) (by simp) (by simp [ResIds]) fun E hE => ?_
  simp [p38, splice]
  refine ACall.mk _ _ _ (fn30 a b (1, 1)) (by first | (simp; done) | simp [Bor_ls, Bor1_ls]) (by simp) (by first | (left; simp; done) | (right; simp; done)) ?_
  simp [splice]
  refine RetOk.by (fun _ => none) ?_
  simp [results38, mulS]
def sqG (n : Int) : Nat → Int → Int
  | 0, r => r
  | k + 1, r => sqG n k (if (r + 2 ^ k) * (r + 2 ^ k) ≤ n then r + 2 ^ k else r)
def sqrtS (n : Int) : Int := sqG n 21 0
def isSqrt (n r : Int) : Prop := 0 ≤ r ∧ r * r ≤ n ∧ n < (r + 1) * (r + 1)
theorem sqG_inv (n : Int) : ∀ (k : Nat) (r : Int), 0 ≤ r → r * r ≤ n → n < (r + 2 ^ k) * (r + 2 ^ k) → isSqrt n (sqG n k r)
  | 0, r, h0, h1, h2 => ⟨h0, h1, by simp only [sqG]; simpa using h2⟩
  | k + 1, r, h0, h1, h2 => by
    have hp : (1 : Int) ≤ 2 ^ k := pow_pos' k
    have e : (2 : Int) ^ (k + 1) = 2 ^ k + 2 ^ k := by rw [Int.pow_succ]; omega
    simp only [sqG]
    split
    · rename_i h
      exact sqG_inv n k _ (by omega) h (by rw [e, ← Int.add_assoc] at h2; exact h2)
    · rename_i h
      exact sqG_inv n k _ h0 h1 (by omega)
theorem isSqrt_uniq {n r s : Int} (h1 : isSqrt n r) (h2 : isSqrt n s) : r = s := by
  obtain ⟨a1, a2, a3⟩ := h1
  obtain ⟨b1, b2, b3⟩ := h2
  have key : ∀ p q : Int, 0 ≤ p → 0 ≤ q → p * p ≤ n → n < (q + 1) * (q + 1) → p ≤ q := fun p q hp hq h h' => by
    refine Int.not_lt.1 fun hlt => ?_
    have : (q + 1) * (q + 1) ≤ p * p := mul_le' (by omega) (by omega) (by omega) (by omega)
    omega
  have := key r s a1 b1 a2 b3
  have := key s r b1 a1 b2 a3
  omega
theorem sqrtS_is (n : Int) (h : 0 ≤ n ∧ n ≤ 1099511627776) : isSqrt n (sqrtS n) := sqG_inv n 21 0 (by omega) (by omega) (by simp; omega)
theorem isSqrt_le {n r : Int} (h : isSqrt n r) (hn : n ≤ 1099511627776) : r ≤ 1048576 := by
  refine Int.not_lt.1 fun hlt => ?_
  have : (1048577 : Int) * 1048577 ≤ r * r := mul_le' (by omega) (by omega) (by omega) (by omega)
  have := h.2.1
  omega
theorem fn90 (n : Int) (h : 0 ≤ n ∧ n ≤ 1099511627776) : Ct prog 90 [vi n] (vi (sqrtS n)) [] := by
  refine Ct.by gok eok mixed func90 c90 rfl (by simp [ntmps90]) (by simp) (by simp [ResIds]) fun E hE => ?_
  simp [p90]
  refine pw_loopC (α := Int × Int) 0 (fun _ : Unit => ⟨slots [(3, vi (sqrtS n))], lk [], 0⟩) (fun _ => True) (fun x => ⟨slots [(0, vi n), (3, vi x.1), (4, vi x.2)], lk [], 0⟩) (fun x => 0 ≤ x.1 ∧ x.1 < x.2 ∧ x.2 ≤ 1048577 ∧ x.1 * x.1 ≤ n ∧ n < x.2 * x.2) (fun x => (x.2 - x.1).toNat) (0, 1048577) ?_ ?_ ?_ fun _ _ => ?_
  · simp; omega
  · refine Weak.mk hE (lk []) _ _ _ ?_ ?_ ?_ ?_ ?_ <;> simp
  · rintro ⟨lo, hi⟩ ⟨h1, h2, h3, h4, h5⟩
    simp only at h1 h2 h3 h4 h5
    have w1 : IntKind.wrap .i64 (hi - lo) = hi - lo := wrap64 (by omega) (by omega)
    have w2 : IntKind.wrap .i64 (lo + hi) = lo + hi := wrap64 (by omega) (by omega)
    have t : (lo + hi).tdiv 2 = (lo + hi) / 2 := Int.tdiv_eq_ediv_of_nonneg (by omega)
    have w3 : IntKind.wrap .i64 ((lo + hi) / 2) = (lo + hi) / 2 := wrap64 (by omega) (by omega)
    have m0 : 0 ≤ (lo + hi) / 2 := by omega
    have m1 : (lo + hi) / 2 * ((lo + hi) / 2) ≤ 1048577 * 1048577 := mul_le' (by omega) (by omega) m0 (by omega)
    have m2 := Int.mul_nonneg m0 m0
    have w4 : IntKind.wrap .i64 ((lo + hi) / 2 * ((lo + hi) / 2)) = (lo + hi) / 2 * ((lo + hi) / 2) := wrap64 (by omega) (by omega)
    by_cases hc : 1 < hi - lo
    · by_cases hm : (lo + hi) / 2 * ((lo + hi) / 2) ≤ n
      · simp [p90l0, w1, w2, t, w3, w4, hc, hm]
        refine ⟨(lo + hi) / 2, hi, ⟨m0, by omega, h3, hm, h5⟩, by omega, ?_⟩
        refine Weak.mk hE (lk []) _ _ _ ?_ ?_ ?_ ?_ ?_ <;> simp
      · simp [p90l0, w1, w2, t, w3, w4, hc, hm]
        refine ⟨lo, (lo + hi) / 2, ⟨h1, by omega, by omega, h4, by omega⟩, by omega, ?_⟩
        refine Weak.mk hE (lk []) _ _ _ ?_ ?_ ?_ ?_ ?_ <;> simp
    · have e : hi = lo + 1 := by omega
      have : lo = sqrtS n := isSqrt_uniq ⟨h1, h4, by rw [← e]; exact h5⟩ (sqrtS_is n h)
      simp [p90l0, w1, hc]
      refine Weak.mk hE (lk []) _ _ _ ?_ ?_ ?_ ?_ ?_ <;> simp [this]
  · simp
    refine RetOk.by (fun _ => none) ?_
    simp [results90]
def rootS (a : Int × Int) : (Int × Int) × Int :=
  if okS a then (if a.1 < 0 then ((0, 0), 2) else ((sqrtS a.1, if sqrtS a.2 * sqrtS a.2 = a.2 then sqrtS a.2 else sqrtS a.2 + 1), 0)) else ((0, 0), 10)
theorem fn32 (a : Int × Int) : Ct prog 32 [vsp a.1 a.2] (vse (rootS a)) [] := by
  refine Ct.by gok eok mixed func32 c32 rfl (by simp [ntmps32]) (by simp) (by simp [ResIds]) fun E hE => ?_
  simp [p32, repl, splice]
  refine ACall.mk _ _ _ (fn85 [a] (by simp)) (by first | (simp; done) | simp [Bor_ls]) (by simp) (by first | (left; simp; done) | (right; simp; done)) ?_
  by_cases h : okS a = true
  · have hf : fineS [a] = true := by simpa [fineS] using h
    have hh := okS_iff.1 h
    by_cases h1 : a.1 < 0
    · simp [hf, h1, splice]
      refine RetOk.by (fun _ => none) ?_
      simp [results32, rootS, h, h1]
    · simp [hf, h1, inC, Nat.testBit]
      refine ACall.mk _ _ _ (fn90 a.1 (by omega)) (by first | (simp; done) | simp [Bor_ls, Bor1_ls]) (by simp) (by first | (left; simp; done) | (right; simp; done)) ?_
      simp [inC, Nat.testBit]
      refine ACall.mk _ _ _ (fn90 a.2 (by omega)) (by first | (simp; done) | simp [Bor_ls, Bor1_ls]) (by simp) (by first | (left; simp; done) | (right; simp; done)) ?_
      have q := sqrtS_is a.2 (by omega)
      have ql := isSqrt_le q (by omega)
      have m := q.2.1
      have m2 := Int.mul_nonneg q.1 q.1
      have w : IntKind.wrap .i64 (sqrtS a.2 * sqrtS a.2) = sqrtS a.2 * sqrtS a.2 := wrap64 (by omega) (by omega)
      have w2 : IntKind.wrap .i64 (sqrtS a.2 + 1) = sqrtS a.2 + 1 := wrap64 (by have := q.1; omega) (by omega)
      have wa : IntKind.wrap .i64 a.2 = a.2 := wrap64 (by omega) (by omega)
      by_cases hq : sqrtS a.2 * sqrtS a.2 = a.2
      · simp [splice, wa, hq]
        refine RetOk.by (fun _ => none) ?_
        simp [results32, rootS, h, h1, hq]
      · simp [splice, w, w2, hq]
        refine RetOk.by (fun _ => none) ?_
        simp [results32, rootS, h, h1, hq]
  · have hf : fineS [a] = false := by simpa [fineS] using h
    simp [hf, splice]
    refine RetOk.by (fun _ => none) ?_
    simp [results32, rootS, h]
end Go.Proofs.Try
namespace Go.Proofs.Try
open Go.Psl
theorem sp_flat (l : List (Int × Int)) : (l.map fun s => [di s.1, di s.2]).flatten = spD l := rfl
theorem fn22p (l : List (Int × Int × Int)) (y : Int × Int) (hl : l.length ≤ 1000000) : Ct prog 22 [.d (knotsD l), vsp y.1 y.2] (.tup [hdrV (mayS (pickM true) l y).1 0, vi (mayS (pickM true) l y).2]) (outB (mayS (pickM true) l y).1 0) := fn22 l y hl
theorem fn24p (l : List (Int × Int × Int)) (y : Int × Int) (hl : l.length ≤ 1000000) : Ct prog 24 [.d (knotsD l), vsp y.1 y.2] (.tup [hdrV (mayS (pickM false) l y).1 0, vi (mayS (pickM false) l y).2]) (outB (mayS (pickM false) l y).1 0) := fn24 l y hl
theorem spD_lit {l : List (Int × Int)} : ∀ x ∈ spD l, litD x := fun x h => by
  simp only [spD, List.mem_flatMap] at h
  obtain ⟨s, _, h⟩ := h
  simp at h
  rcases h with rfl | rfl <;> exact ⟨_, rfl⟩
theorem bor_spans {H : Hp} {id : Nat} {l : List (Int × Int)} {p : Int × Int} (h : H id = some (cellsI l ++ [vi p.1, vi p.2])) : Bor H (.ls id 0 (l.length + 1) 2) (.d (spansD (l ++ [p]))) := by
  rw [Bor_ls]
  refine ⟨rfl, by simp, fun e he => ?_, _, h, ?_⟩
  · simp only [List.mem_map] at he
    obtain ⟨k, _, rfl⟩ := he
    rfl
  · rw [sp_flat, spD_snoc, List.drop_zero, List.take_of_length_le (by simp; omega)]
    simp
end Go.Proofs.Try
namespace Go.Proofs.Try
open Go.Psl
open Go.Geo (cross pushS chainR hullS)
def leC (x y : Int × Int) : Bool := !decide (orderS y x < 0)
theorem order_lt {x y : Int × Int} : orderS x y < 0 ↔ Go.Geo.lt x y := by
  unfold orderS orI orI orI cmpI Go.Geo.lt
  by_cases h1 : x.1 < y.1
  · simp [h1]
  · by_cases h2 : y.1 < x.1
    · simp [h1, h2]; omega
    · by_cases h3 : x.2 < y.2
      · simp [h1, h2, h3]; omega
      · by_cases h4 : y.2 < x.2
        · simp [h1, h2, h3, h4]
        · simp [h1, h2, h3, h4]
theorem leC_iff {x y : Int × Int} : leC x y = true ↔ ¬ Go.Geo.lt y x := by unfold leC; rw [Bool.not_eq_true', decide_eq_false_iff_not, order_lt]
theorem leC_trans (a b c : Int × Int) (h1 : leC a b = true) (h2 : leC b c = true) : leC a c = true := by
  rw [leC_iff] at *; unfold Go.Geo.lt at *; omega
theorem leC_total (a b : Int × Int) : (leC a b || leC b a) = true := by
  rw [Bool.or_eq_true, leC_iff, leC_iff]; unfold Go.Geo.lt; omega
theorem leC_anti {a b : Int × Int} (h1 : leC a b = true) (h2 : leC b a = true) : a = b := by
  rw [leC_iff] at *; unfold Go.Geo.lt at *
  ext <;> omega
theorem sortC_pw (l : List (Int × Int)) : (sortC l).Pairwise fun x y => leC x y = true := List.pairwise_mergeSort leC_trans leC_total l
theorem sortC_eq {l m : List (Int × Int)} (hp : m.Perm l) (hs : m.Pairwise fun x y => leC x y = true) : sortC l = m :=
  List.Perm.eq_of_pairwise (le := fun x y => leC x y = true) (fun _ _ _ _ h1 h2 => leC_anti h1 h2) (sortC_pw l) hs ((List.mergeSort_perm l _).trans hp.symm)
theorem dd_pw {l : List (Int × Int)} (h : l.Pairwise fun x y => leC x y = true) : Go.Geo.Sorted (ddC l) := by
  have key : ∀ (l d : List (Int × Int)), l.Pairwise (fun x y => leC x y = true) → Go.Geo.Sorted d → (∀ x ∈ d, ∀ y ∈ l, leC x y = true) → Go.Geo.Sorted (l.foldl ddStep d) := by
    intro l
    induction l with
    | nil => intro d _ h _; exact h
    | cons a l ih =>
      intro d hl hd hx
      rw [List.foldl_cons]
      have hl' := List.pairwise_cons.1 hl
      unfold ddStep
      by_cases h : d.getLast? = some a
      · rw [if_pos h]
        exact ih d hl'.2 hd fun x hx' y hy => hx x hx' y (by simp [hy])
      · rw [if_neg h]
        refine ih _ hl'.2 ?_ fun x hx' y hy => ?_
        · unfold Go.Geo.Sorted
          rw [List.pairwise_append]
          refine ⟨hd, List.pairwise_singleton _ _, fun x hxd y hy => ?_⟩
          rw [List.mem_singleton.1 hy]
          have h1 := leC_iff.1 (hx x hxd a (by simp))
          rcases Go.Geo.lt_tri x a with h2 | h2 | h2
          · exact h2
          · exfalso
            subst h2
            rcases List.eq_nil_or_concat d with rfl | ⟨d', z, rfl⟩
            · simp at hxd
            · rw [List.concat_eq_append] at *
              have hz := leC_iff.1 (hx z (by simp) x (by simp))
              have hne : z ≠ x := fun e => h (by rw [e]; simp)
              have hxd' : x ∈ d' := by
                rcases List.mem_append.1 hxd with h | h
                · exact h
                · exact absurd (List.mem_singleton.1 h).symm hne
              have := (List.pairwise_append.1 hd).2.2 x hxd' z (by simp)
              exact hz this
          · exact absurd h2 h1
        · rcases List.mem_append.1 hx' with h | h
          · exact hx x h y (by simp [hy])
          · rw [List.mem_singleton.1 h]; exact hl'.1 y hy
  exact key l [] h List.Pairwise.nil (by simp)
theorem sorted_dd (l : List (Int × Int)) : Go.Geo.Sorted (ddC (sortC l)) := dd_pw (sortC_pw l)
instance (l : List (Int × Int)) : Decidable (l.Pairwise fun x y => leC x y = true) := inferInstance
theorem hullP_eq {l m : List (Int × Int)} (hp : m.Perm l) (hs : m.Pairwise fun x y => leC x y = true) : hullP l = hullS (ddC m) := by unfold hullP; rw [sortC_eq hp hs]
def ptsL : List (Int × Int) := [(2, 2), (0, 0), (4, 0), (2, 1), (0, 4), (4, 4), (2, 0)]
theorem val_hull : hullP ptsL = squareL := by
  rw [hullP_eq (m := [(0, 0), (0, 4), (2, 0), (2, 1), (2, 2), (4, 0), (4, 4)]) (by decide +kernel) (by decide +kernel)]
  decide +kernel
theorem val_square : hullP squareL = squareL := by
  rw [hullP_eq (m := [(0, 0), (0, 4), (4, 0), (4, 4)]) (by decide +kernel) (by decide +kernel)]
  decide +kernel
theorem reg_square : regS squareL = true := by
  unfold regS
  rw [val_square]
  decide +kernel
theorem val_over : overS (1, 2) (3, 3) (2, 7) = ((0, 3), 0) := by decide +kernel
theorem val_mul : mulS (-2, 3) (-5, 4) = ((-15, 12), 0) := by decide +kernel
theorem val_val : valS hillL (5, 14) = ((10, 25), 0) := by decide +kernel
theorem val_may : mayS (pickM true) hillL (20, 30) = ([(8, 12)], 0) := by decide +kernel
theorem val_hullE : hullE ptsL = 0 := by decide +kernel
theorem val_hullO : hullO ptsL = squareL := by unfold hullO; rw [val_hullE, val_hull]; rfl
theorem val_reach : reachV squareL 1 (-2) = 4 ∧ reachE squareL 1 (-2) = 0 := by
  have h : reachE squareL 1 (-2) = 0 := by unfold reachE; rw [reg_square]; decide +kernel
  refine ⟨?_, h⟩
  unfold reachV; rw [h]; decide +kernel
end Go.Proofs.Try
namespace Go.Proofs.Try
open Go.Psl
theorem bor_hill {H : Hp} {id : Nat} (h : H id = some [vi 0, vi 0, vi 2, vi 10, vi 20, vi 25, vi 20, vi 5, vi 5]) : Bor H (.ls id 0 3 3) (.d (knotsD hillL)) := by
  rw [Bor_ls]
  exact ⟨rfl, rfl, by simp [hillL], _, h, rfl⟩
theorem bor_pairs {H : Hp} {id : Nat} {cs : List V} (l : List (Int × Int)) (h : H id = some cs) (hc : cs = cellsI l) : Bor H (.ls id 0 l.length 2) (.d (spansD l)) := by
  rw [Bor_ls]
  refine ⟨rfl, by simp, fun e he => ?_, _, h, ?_⟩
  · simp only [List.mem_map] at he
    obtain ⟨k, _, rfl⟩ := he
    rfl
  · rw [sp_flat', hc, List.drop_zero, List.take_of_length_le (by simp)]
theorem bor_pts {H : Hp} {id : Nat} (h : H id = some [vi 2, vi 2, vi 0, vi 0, vi 4, vi 0, vi 2, vi 1, vi 0, vi 4, vi 4, vi 4, vi 2, vi 0]) : Bor H (.ls id 0 7 2) (.d (spansD ptsL)) := bor_pairs ptsL h rfl
theorem bor_sq {H : Hp} {id : Nat} (h : H id = some [vi 0, vi 0, vi 4, vi 0, vi 4, vi 4, vi 0, vi 4]) : Bor H (.ls id 0 4 2) (.d (spansD squareL)) := bor_pairs squareL h rfl
theorem bor_812 {H : Hp} {id : Nat} (h : H id = some [vi 8, vi 12]) : Bor H (.ls id 0 1 2) (.d (spansD [(8, 12)])) := bor_pairs [(8, 12)] h rfl
theorem bor_sqz {H : Hp} {id : Nat} {z : List (Int × Int)} (h : H id = some (List.map V.d (spD (squareL ++ z)))) : Bor H (.ls id 0 4 2) (.d (spansD squareL)) := bor_cut (l := squareL) h
theorem fn58 (hS : SortOk) : Ct prog 58 [] (vb true) [] := by
  have sp := fn69
  have c1 := fn30 (1, 2) (3, 3) (2, 7)
  have c2 := fn38 (-2, 3) (-5, 4)
  have c3 := fn20 hillL (5, 14) (by decide)
  have c4 := fn22p hillL (20, 30) (by decide)
  obtain ⟨z, c5⟩ := fn49 hS ptsL (by decide)
  have c6 := fn60 hS squareL 1 (-2) (by decide)
  rw [val_over] at c1
  rw [val_mul] at c2
  rw [val_val] at c3
  rw [val_may] at c4
  rw [val_hullO, val_hullE, hdrV_ne (by decide), outZ_ne (by decide)] at c5
  rw [val_reach.1, val_reach.2] at c6
  have s1 := fn28 [(8, 12)] [(8, 12)] (by decide) (by decide)
  have s2 := fn57 squareL squareL (by decide) (by decide)
  simp at c4 s1 s2
  rw [show squareL.length = 4 from rfl] at c5
  refine Ct.by gok eok mixed func58 c58 rfl (by simp [ntmps58]) (by simp) (by simp [ResIds]) fun E hE => ?_
  simp [p58]
  refine ACall.mk _ _ _ (sp 1 2) (by first | (simp; done) | simp [Bor_ls, Bor1_ls]) (by simp) (by first | (left; simp; done) | (right; simp; done)) ?_
  simp
  refine ACall.mk _ _ _ (sp 3 3) (by first | (simp; done) | simp [Bor_ls, Bor1_ls]) (by simp) (by first | (left; simp; done) | (right; simp; done)) ?_
  simp
  refine ACall.mk _ _ _ (sp 2 7) (by first | (simp; done) | simp [Bor_ls, Bor1_ls]) (by simp) (by first | (left; simp; done) | (right; simp; done)) ?_
  simp
  refine ACall.mk _ _ _ (c1) (by first | (simp; done) | simp [Bor_ls, Bor1_ls]) (by simp) (by first | (left; simp; done) | (right; simp; done)) ?_
  simp [splice]
  refine ACall.mk _ _ _ (sp (-2) 3) (by first | (simp; done) | simp [Bor_ls, Bor1_ls]) (by simp) (by first | (left; simp; done) | (right; simp; done)) ?_
  simp
  refine ACall.mk _ _ _ (sp (-5) 4) (by first | (simp; done) | simp [Bor_ls, Bor1_ls]) (by simp) (by first | (left; simp; done) | (right; simp; done)) ?_
  simp
  refine ACall.mk _ _ _ (c2) (by first | (simp; done) | simp [Bor_ls, Bor1_ls]) (by simp) (by first | (left; simp; done) | (right; simp; done)) ?_
  simp [splice]
  refine ACall.mk _ _ _ (fn72) (by first | (simp; done) | simp [Bor_ls, Bor1_ls]) (by simp) (by first | (left; simp; done) | (right; simp; done)) ?_
  simp
  refine ACall.mk _ _ _ (sp 5 14) (by first | (simp; done) | simp [Bor_ls, Bor1_ls]) (by simp) (by first | (left; simp; done) | (right; simp; done)) ?_
  simp
  refine ACall.mk _ _ _ (c3) (by simp [bor_hill]) (by simp) (by first | (left; simp; done) | (right; simp; done)) ?_
  simp [splice]
  refine ACall.mk _ _ _ (fn72) (by first | (simp; done) | simp [Bor_ls, Bor1_ls]) (by simp) (by first | (left; simp; done) | (right; simp; done)) ?_
  simp
  refine ACall.mk _ _ _ (sp 20 30) (by first | (simp; done) | simp [Bor_ls, Bor1_ls]) (by simp) (by first | (left; simp; done) | (right; simp; done)) ?_
  simp
  refine ACall.mk _ _ _ (c4) (by simp [bor_hill]) (by simp) (by first | (left; simp; done) | (right; simp; done)) ?_
  simp [splice, repl]
  refine ACall.mk _ _ _ (c5) (by simp [bor_pts]) (by simp) (by first | (left; simp; done) | (right; simp; done) | (right; simp; exact fun a ha => spD_lit a ha)) ?_
  simp
  refine ACall.mk _ _ _ (fn73) (by first | (simp; done) | simp [Bor_ls, Bor1_ls]) (by simp) (by first | (left; simp; done) | (right; simp; done)) ?_
  simp
  refine ACall.mk _ _ _ (c6) (by simp [bor_sq]) (by simp) (by first | (left; simp; done) | (right; simp; done)) ?_
  simp [inC, Nat.testBit]
  refine ACall.mk _ _ _ (sp 0 3) (by first | (simp; done) | simp [Bor_ls, Bor1_ls]) (by simp) (by first | (left; simp; done) | (right; simp; done)) ?_
  simp [inC, Nat.testBit]
  refine ACall.mk _ _ _ (sp (-15) 12) (by first | (simp; done) | simp [Bor_ls, Bor1_ls]) (by simp) (by first | (left; simp; done) | (right; simp; done)) ?_
  simp [inC, Nat.testBit]
  refine ACall.mk _ _ _ (sp 10 25) (by first | (simp; done) | simp [Bor_ls, Bor1_ls]) (by simp) (by first | (left; simp; done) | (right; simp; done)) ?_
  simp
  refine ACall.mk _ _ _ (sp 8 12) (by first | (simp; done) | simp [Bor_ls, Bor1_ls]) (by simp) (by first | (left; simp; done) | (right; simp; done)) ?_
  simp [splice, repl]
  refine ACall.mk _ _ _ (s1) (by simp [bor_812, inC, Nat.testBit]) (by simp) (by first | (left; simp; done) | (right; simp; done)) ?_
  simp
  refine ACall.mk _ _ _ (fn73) (by first | (simp; done) | simp [Bor_ls, Bor1_ls]) (by simp) (by first | (left; simp; done) | (right; simp; done)) ?_
  simp
  refine ACall.mk _ _ _ (s2) (by simp [bor_sq, bor_sqz (z := z)]) (by simp) (by first | (left; simp; done) | (right; simp; done)) ?_
  simp
  refine RetOk.by (fun _ => none) ?_
  simp [results58]
end Go.Proofs.Try
namespace Go.Psl
variable {P : Program} {G : Gh} {W : World} {H : Hp}
def fzIm (G : Gh) (H : Hp) (b : Nat) : Prop := G.Im b ∨ ∃ i, InH H i ∧ G.ph i = false ∧ G.β i = b
theorem fz0 (hp : ∀ id cs, H id = some cs → HB G W id cs) {v c : V} {x : Value} (hb : Bor0 H v c) (hx : RV G W v x) : R0 { G with Im := fzIm G H } W c x := by
  have him : ∀ b, G.Im b → fzIm G H b ∧ W.heap[b]? = W.heap[b]? := fun b hb => ⟨.inl hb, rfl⟩
  have hless : ∀ i cs, H i = some cs → H i = some cs ∧ True := fun i cs h => by
    exact ⟨h, trivial⟩
  unfold Bor0 at hb
  split at hb
  · rename_i y z
    rcases hb with rfl | ⟨rfl, sz, rfl⟩
    · exact RD.mono (x := y) hx him
    · have := rv_lit hx
      subst this
      exact RD.sl sz [] none 0 (fun _ _ => undef) (by simp) (by simp [maxL]) (by simp) (by simp) (by simp)
  · rename_i id off len sz sz' es
    obtain ⟨rfl, hl, hes, cs, hh0, hcs⟩ := hb
    obtain ⟨hh, hnin⟩ := hless _ _ hh0
    obtain ⟨hml, ⟨hph, h0, rfl⟩ | ⟨hph, o', cap, rfl, hcap, hoff⟩⟩ := hx
    · have : es = [] := List.eq_nil_of_length_eq_zero (by omega)
      subst this
      exact RD.sl sz' [] none 0 (fun _ _ => undef) (by simp) (by simp [maxL]) (by simp) (by simp) (by simp)
    · obtain ⟨_, c, T, hg, hbs, hcl, hcr, _⟩ := (hp id cs hh).read hph
      have hfl := flatten_len es hes
      have hlen : ((cs.drop off).take (len * sz')).length = len * sz' := by rw [hcs, List.length_map, hfl, hl]
      have hfit : off + len * sz' ≤ cs.length ∨ len * sz' = 0 := by simp at hlen; omega
      subst hl
      refine RD.sl sz' es (some ⟨G.β id, o', none⟩) cap (fun i j => c.toList.getD (off + i * sz' + j) undef) hes hml hcap (fun i e he => ⟨_, rfl, .inr ⟨id, by show (H id).isSome = true; rw [hh]; rfl, hph.1, rfl⟩, fun j y hy => ?_⟩) (fun i e he j y hy => ?_)
      all_goals
        have hil : i < es.length := (List.getElem?_eq_some_iff.1 he).1
        have hel := hes e (List.mem_of_getElem? he)
        have hjl : j < sz' := by have := (List.getElem?_eq_some_iff.1 hy).1; omega
        have hij : i * sz' + j < es.length * sz' := by
          have : (i + 1) * sz' ≤ es.length * sz' := Nat.mul_le_mul_right _ hil
          rw [Nat.add_mul] at this; omega
        have hfit' : off + es.length * sz' ≤ cs.length := by omega
        have hcell : cs[off + (i * sz' + j)]? = some (.d y) := by
          have h1 : ((cs.drop off).take (es.length * sz'))[i * sz' + j]? = some (V.d y) := by
            rw [hcs, List.getElem?_map, flatten_get (by omega) es hes]
            have e1 : (i * sz' + j) / sz' = i := by rw [Nat.add_comm, Nat.add_mul_div_right _ _ (by omega), Nat.div_eq_of_lt hjl]; omega
            have e2 : (i * sz' + j) % sz' = j := by rw [Nat.add_comm, Nat.add_mul_mod_self_right, Nat.mod_eq_of_lt hjl]
            rw [e1, e2, he]; simp [hy]
          rw [List.getElem?_take, if_pos hij, List.getElem?_drop] at h1
          exact h1
        obtain ⟨u, hu, hru⟩ := hcr.get hcell
        rw [List.getElem?_take] at hu
        split at hu
        rotate_left
        · cases hu
      · obtain ⟨rfl, _⟩ := hoff (by omega)
        rw [add_plain]
        simp only [World.cell?, hg]
        rw [Array.getElem?_toList] at hu
        have h2 : c.toList.getD (o' + i * sz' + j) undef = u := by
          rw [List.getD_eq_getElem?_getD, Array.getElem?_toList, show o' + i * sz' + j = o' + (i * sz' + j) by omega, hu]; rfl
        rw [h2]
        simpa using hu
      · have h2 : c.toList.getD (off + i * sz' + j) undef = u := by
          rw [List.getD_eq_getElem?_getD, show off + i * sz' + j = off + (i * sz' + j) by omega, hu]; rfl
        show RD _ _ y (c.toList.getD (off + i * sz' + j) undef)
        rw [h2]
        exact RD.mono (x := y) hru him
  · rename_i id off ds
    obtain ⟨cs, hh0, hcs⟩ := hb
    obtain ⟨hh, hnin⟩ := hless _ _ hh0
    obtain ⟨hph, rfl⟩ : (G.ph id = false ∧ G.lo id = false) ∧ x = .pointer (some ⟨G.β id, off, none⟩) := hx
    obtain ⟨_, c, T, hg, hbs, hcl, hcr, _⟩ := (hp id cs hh).read hph
    have get : ∀ (j : Nat) y, ds[j]? = some y → ∃ u, c.toList[off + j]? = some u ∧ RD (fzIm G H) W y u := fun j y hy => by
      have hj := (List.getElem?_eq_some_iff.1 hy).1
      have h1 : ((cs.drop off).take ds.length)[j]? = some (V.d y) := by rw [hcs, List.getElem?_map, hy]; rfl
      rw [List.getElem?_take, if_pos hj, List.getElem?_drop] at h1
      obtain ⟨u, hu, hru⟩ := hcr.get h1
      rw [List.getElem?_take] at hu
      split at hu
      · exact ⟨u, hu, RD.mono (x := y) hru him⟩
      · cases hu
    refine RD.ref ds _ (fun j => c.toList.getD (off + j) undef) (.inr ⟨id, by show (H id).isSome = true; rw [hh]; rfl, hph.1, rfl⟩) (fun j y hy => ?_) (fun j y hy => ?_)
    · obtain ⟨u, hu, _⟩ := get j y hy
      rw [add_plain, List.getD_eq_getElem?_getD, hu]
      simp only [World.cell?, hg]
      simpa using hu
    · obtain ⟨u, hu, hr⟩ := get j y hy
      rw [List.getD_eq_getElem?_getD, hu]
      exact hr
  · rename_i f caps g ds
    obtain ⟨rfl, rfl⟩ := hb
    obtain ⟨cv, rfl, hcr⟩ := hx
    have hl := hcr.length
    refine RD.fn f ds cv (by simpa using hl.symm) fun j y v hy hv => ?_
    have h1 : (ds.map V.d)[j]? = some (V.d y) := by rw [List.getElem?_map, hy]; rfl
    obtain ⟨u, hu, hru⟩ := hcr.get h1
    rw [Array.getElem?_toList, hv] at hu
    cases hu
    exact RD.mono (x := y) hru him
  · obtain ⟨rfl, rfl⟩ := hb; exact hx
  · obtain ⟨rfl, rfl, rfl, rfl⟩ := hb; exact hx
  · have hb : _ = _ := hb; subst hb; exact hx
  · exact hb.elim
def Fz1 (H : Hp) : V → V → Prop
  | .agg cs, .agg ds => cs = ds ∧ ∀ c ∈ cs, ∃ x, c = .d x
  | v, .d y => Bor0 H v (.d y)
  | _, _ => False
def Fz (H : Hp) : V → V → Prop
  | .tup vs, .tup ws => All2 (Fz1 H) vs ws
  | v, w => Fz1 H v w
theorem fz1 (hp : ∀ id cs, H id = some cs → HB G W id cs) {v c : V} {x : Value} (hb : Fz1 H v c) (hx : R2 G W v x) : R2 { G with Im := fzIm G H } W c x := by
  unfold Fz1 at hb
  split at hb
  · rename_i cs ds
    obtain ⟨rfl, hd⟩ := hb
    obtain ⟨cv, rfl, hr⟩ := hx
    refine ⟨cv, rfl, hr.mono fun c hc v h => ?_⟩
    obtain ⟨y, rfl⟩ := hd c hc
    exact RD.mono (x := y) h fun b hb => ⟨.inl hb, rfl⟩
  · refine R1.r2 (R0.r1 (fz0 hp hb (R2.rv hx)))
  · exact hb.elim
theorem fz1_wf {v c : V} (hb : Fz1 H v c) : A2 (fun _ => False) anyD c := by
  unfold Fz1 at hb
  split at hb
  · rename_i cs ds
    obtain ⟨rfl, hd⟩ := hb
    intro c hc
    obtain ⟨y, rfl⟩ := hd c hc
    trivial
  · trivial
  · exact hb.elim
theorem fz_rel (hp : ∀ id cs, H id = some cs → HB G W id cs) {v c : V} {x : Value} (hb : Fz H v c) (hx : RV G W v x) : RV { G with Im := fzIm G H } W c x := by
  unfold Fz at hb
  split at hb
  · rename_i vs ws
    obtain ⟨cv, rfl, hr⟩ := hx
    refine ⟨cv, rfl, All2.of_get (by rw [← hb.length, hr.length]) fun i y z hy hz => ?_⟩
    obtain ⟨w, hw, hbw⟩ := hb.get2 hy
    obtain ⟨u, hu, hru⟩ := hr.get hw
    rw [hz] at hu; cases hu
    exact fz1 hp hbw hru
  · refine R2.rv (fz1 hp hb ?_)
    cases v <;> first | exact hx | (exfalso; revert hb; cases c <;> simp [Fz1, Bor0]; done)
theorem fz_wf {v c : V} (hb : Fz H v c) : AV (fun _ => False) anyD c := by
  unfold Fz at hb
  split at hb
  · rename_i vs ws
    intro w hw
    obtain ⟨i, hi⟩ := List.getElem?_of_mem hw
    obtain ⟨u, _, hu⟩ := hb.get2 hi
    exact fz1_wf hu
  · have := fz1_wf hb
    cases c <;> first | exact this | (revert hb; simp [Fz1]; done)
theorem Cm.freeze {f : FuncId} {args : List V} {Hin : Hp} {r r' : V} {H1 : Hp} (h : Cm P f args Hin [] (.ret r) H1) (hf : Fz H1 r r') : Cm P f args Hin [] (.ret r') (fun _ => none) := by
  refine ⟨h.1, fun G W xs him hargs hpre => Calls.mono (h.2 G W xs him hargs hpre) fun e W' ⟨G', p⟩ => ?_⟩
  have hB : ∀ id cs, H1 id = some cs → HB G' W' id cs := fun id cs hid => (p.hb id cs hid).1
  have hblk : ∀ i, InH H1 i → G'.ph i = false → G'.β i < W'.heap.size := fun i hi hph => by
    cases hc : H1 i with
    | none => simp [InH, hc] at hi
    | some cs =>
      rcases hB i cs hc with ⟨h1, _⟩ | ⟨_, _, _, c, T, h3, _⟩ | ⟨_, _, _, fr, nt, ps, pa, pb, jmp, rec, _, h4, _⟩
      · rw [h1] at hph; cases hph
      · exact (Array.getElem?_eq_some_iff.1 h3).1
      · exact (Array.getElem?_eq_some_iff.1 h4).1
  refine ⟨{ G' with Im := fzIm G' H1 }, p.os, p.tape, p.output, p.drawn, p.size, p.block, fun b hb => ?_, fun b hb => .inl (p.im0 b hb), ?_, ?_, fun i cs h => (by cases h), fun i j h => (by simp [InH] at h), fun i h => (by cases h)⟩
  · rcases hb with hb | ⟨i, hi, hph, rfl⟩
    · exact p.im b hb
    · refine ⟨hblk i hi hph, .inr ?_⟩
      cases hc : H1 i with
      | none => simp [InH, hc] at hi
      | some cs => exact (p.hb i cs hc).2.1 hph
  · have hrv := p.rv
    cases e with
    | returned v => exact fz_rel hB hf hrv
    | _ => exact hrv.elim
  · show AV (InH fun _ => none) anyD r'
    exact AV.mono (fun _ h => h.elim) (fun _ h => h) (fz_wf hf)
end Go.Psl
namespace Go.Proofs.Try
open Go.Psl
theorem outB_ne {O : List (Int × Int)} (h : O ≠ []) (b : Nat) : outB O b = [(b, cellsI O)] := by
  unfold outB; cases O with
  | nil => exact absurd rfl h
  | cons a l => rfl
end Go.Proofs.Try
namespace Go.Proofs.Try
open Go.Psl
def inSeg (l : List (Int × Int × Int)) (i : Nat) (a k : Int × Int × Int) (x : Int) : Prop := l[i]? = some a ∧ l[i + 1]? = some k ∧ a.1 ≤ x ∧ x ≤ k.1 ∧ (i = 0 ∨ a.1 < x)
section
variable {l : List (Int × Int × Int)} (ht : tabS l = true) {i : Nat} {a k : Int × Int × Int} {x : Int} (h : inSeg l i a k x) {u v : Int} (hu : a.2.1 ≤ u ∧ u ≤ a.2.2) (hv : k.2.1 ≤ v ∧ v ≤ k.2.2)
def lowP (y : Int × Int) : Int := max y.1 (-1073741825)
def highP (y : Int × Int) : Int := min y.2 1073741825
def isIn (y : Int × Int) (num den : Int) : Prop := lowP y ≤ 1073741825 ∧ -1073741825 ≤ highP y ∧ lowP y * den ≤ num ∧ num ≤ highP y * den
include ht h hu hv in
include ht h hu hv in
end
end Go.Proofs.Try
namespace Go.Proofs.Try
open Go.Psl
theorem fz_spans (out : List (Int × Int)) : Fz1 (lk (outB out 0)) (hdrV out 0) (.d (spansD out)) := by
  rcases List.eq_nil_or_concat out with rfl | ⟨l, p, rfl⟩
  · exact Or.inr ⟨rfl, 2, rfl⟩
  · rw [List.concat_eq_append]
    have h := bor_spans (H := lk (outB (l ++ [p]) 0)) (id := 0) (l := l) (p := p) (by simp)
    have e : hdrV (l ++ [p]) 0 = .ls 0 0 (l.length + 1) 2 := by simp
    rw [e]
    exact h
end Go.Proofs.Try
namespace Go.Proofs.Try
open Go.Psl
open Go.Geo (cross chainR)
theorem fz_outZ (out z : List (Int × Int)) : Fz1 (lk (outZ out z 0)) (hdrV out 0) (.d (spansD out)) := by
  by_cases h : out = []
  · subst h; exact Or.inr ⟨rfl, 2, rfl⟩
  · rw [hdrV_ne h, outZ_ne h]
    exact bor_cut (z := z) (by simp [lk])
end Go.Proofs.Try
namespace Go.Geo
theorem neg_map_map (l : List C) : (l.map neg).map neg = l := by
  rw [List.map_map]; conv => rhs; rw [← List.map_id l]
  exact List.map_congr_left fun x _ => neg_neg x
def box (a b p : C) : Prop := (min a.1 b.1 ≤ p.1 ∧ p.1 ≤ max a.1 b.1) ∧ min a.2 b.2 ≤ p.2 ∧ p.2 ≤ max a.2 b.2
def InR (r : List C) (p : C) : Prop := (∀ e ∈ cyc r, 0 ≤ cross e.1 e.2 p) ∧ (2 < r.length ∨ ∃ a b, r.head? = some a ∧ r.getLast? = some b ∧ box a b p)
theorem seg_box {a b p : C} (hab : lt a b) (h1 : le a p) (h2 : le p b) (hc : cross a b p = 0) : box a b p := by
  unfold box
  unfold le lt at h1 h2
  unfold lt at hab
  unfold cross at hc
  rcases hab with hab | ⟨h3, h4⟩
  · have k1 : 0 ≤ p.1 - a.1 := by omega
    have k2 : 0 ≤ b.1 - p.1 := by omega
    have e1 : (b.1 - a.1) * (p.2 - a.2) = (b.2 - a.2) * (p.1 - a.1) := by omega
    have e2 : (b.1 - a.1) * (b.2 - p.2) = (b.2 - a.2) * (b.1 - p.1) := by grind
    rcases Int.le_total a.2 b.2 with h | h
    · have q1 := Int.mul_nonneg (show 0 ≤ b.2 - a.2 by omega) k1
      have q2 := Int.mul_nonneg (show 0 ≤ b.2 - a.2 by omega) k2
      have := le_of_pmul (show 0 < b.1 - a.1 by omega) (by rw [e1]; exact q1)
      have := le_of_pmul (show 0 < b.1 - a.1 by omega) (by rw [e2]; exact q2)
      omega
    · have q1 := Int.mul_nonneg (show 0 ≤ a.2 - b.2 by omega) k1
      have q2 := Int.mul_nonneg (show 0 ≤ a.2 - b.2 by omega) k2
      have := le_of_pmul (y := a.2 - p.2) (show 0 < b.1 - a.1 by omega) (by have : (b.1 - a.1) * (a.2 - p.2) = (a.2 - b.2) * (p.1 - a.1) := by grind
                                                                            rw [this]; exact q1)
      have := le_of_pmul (y := p.2 - b.2) (show 0 < b.1 - a.1 by omega) (by have : (b.1 - a.1) * (p.2 - b.2) = (a.2 - b.2) * (b.1 - p.1) := by grind
                                                                            rw [this]; exact q2)
      omega
  · omega
theorem hull_two {l : List C} (h : Sorted l) (h3 : ¬ l.length < 3) (hn : ¬ 5 ≤ (chainR l).length + (chainR l.reverse).length) : ∃ f g, l.head? = some f ∧ l.getLast? = some g ∧ lt f g ∧ hullS l = [f, g] ∧ chainR l = [g, f] ∧ chainR l.reverse = [f, g] := by
  obtain ⟨f, g, lo, up, hf, hg, hfg, e1, e2, b1, b2⟩ := chains h (by omega)
  have hgl : lt f g := by
    rcases lt_tri f g with h1 | h1 | h1
    · exact h1
    · exact absurd h1 hfg
    · exact absurd h1 (sorted_first h hf g (List.mem_of_getLast? hg))
  refine ⟨f, g, hf, hg, hgl, ?_⟩
  rw [e1, e2] at hn
  unfold hullS
  rw [if_neg h3, e1, e2]
  match lo, up, b1, b2, hn with
  | [x], [y], b1, b2, _ => simp at b1 b2; subst b1; subst b2; exact ⟨rfl, rfl, rfl⟩
  | [], _, b1, _, _ => simp at b1
  | _, [], _, b2, _ => simp at b2
  | _ :: _ :: _, _ :: _, _, _, hn => simp at hn; omega
  | [_], _ :: _ :: _, _, _, hn => simp at hn; omega
theorem hull_len {l : List C} (h3 : ¬ l.length < 3) : (hullS l).length + 2 = (chainR l).length - 1 + ((chainR l.reverse).length - 1) + 2 := by
  unfold hullS; rw [if_neg h3]; simp
theorem chain_len2 {l : List C} (h : Sorted l) (h2 : 2 ≤ l.length) : 2 ≤ (chainR l).length ∧ 2 ≤ (chainR l.reverse).length := by
  obtain ⟨f, g, lo, up, hf, hg, hfg, e1, e2, b1, b2⟩ := chains h h2
  rw [e1, e2]
  constructor
  · cases lo with | nil => simp at b1 | cons => simp
  · cases up with | nil => simp at b2 | cons => simp
theorem hull_in {l : List C} (h : Sorted l) : ∀ q ∈ l, InR (hullS l) q := by
  intro q hq
  by_cases h3 : l.length < 3
  · have e : hullS l = l := by unfold hullS; rw [if_pos h3]
    rw [e]
    match l, h3, h, hq with
    | [], _, _, hq => simp at hq
    | [a], _, _, hq =>
      simp at hq; subst hq
      refine ⟨fun e he => ?_, Or.inr ⟨q, q, rfl, rfl, by unfold box; omega⟩⟩
      simp [cyc, steps] at he; subst he; rw [cross_self]; omega
    | [a, b], _, h, hq =>
      refine ⟨fun e he => ?_, Or.inr ⟨a, b, rfl, rfl, ?_⟩⟩
      · simp [cyc, steps] at he
        simp at hq
        rcases he with rfl | rfl <;> rcases hq with rfl | rfl <;> simp only [cross_self, cross_self2] <;> omega
      · simp at hq
        rcases hq with rfl | rfl <;> (unfold box; omega)
    | _ :: _ :: _ :: _, h3, _, _ => simp at h3; omega
  · have hl := hull_left h (by omega)
    refine ⟨fun e he => hl e he q hq, ?_⟩
    have hlen := hull_len h3
    have h22 := chain_len2 h (by omega)
    by_cases hn : 5 ≤ (chainR l).length + (chainR l.reverse).length
    · left; omega
    · right
      obtain ⟨f, g, hf, hg, hfg, e, _⟩ := hull_two h h3 hn
      refine ⟨f, g, by rw [e]; rfl, by rw [e]; rfl, ?_⟩
      have c1 := hl (f, g) (by rw [e]; simp [cyc, steps]) q hq
      have c2 := hl (g, f) (by rw [e]; simp [cyc, steps]) q hq
      simp only at c1 c2
      rw [cross_swap2] at c2
      have hlast : le q g := by
        have hs := sorted_neg h
        have := sorted_first hs (f := neg g) (by rw [List.head?_map, List.head?_reverse, hg]; rfl) (neg q) (List.mem_map.2 ⟨q, List.mem_reverse.2 hq, rfl⟩)
        intro hlt
        exact this (lt_neg.2 hlt)
      exact seg_box hfg (sorted_first h hf q hq) hlast (by omega)
end Go.Geo
namespace Go.Geo
theorem sorted_nodup {l : List C} (h : Sorted l) : l.Nodup := h.imp fun h e => by subst e; exact lt_irr _ h
theorem sorted_same {l m : List C} (hl : Sorted l) (hm : Sorted m) (h : ∀ x, x ∈ l ↔ x ∈ m) : l = m := by
  have hp : l.Perm m := (List.perm_ext_iff_of_nodup (sorted_nodup hl) (sorted_nodup hm)).2 h
  exact hp.eq_of_pairwise (fun a b _ _ h1 h2 => absurd (lt_trans h1 h2) (lt_irr _)) hl hm
theorem sub_of_mem {l m : List C} (hl : Sorted l) (hm : Sorted m) (h : ∀ x ∈ l, x ∈ m) : l.Sublist m := by
  have e : l = m.filter (fun x => decide (x ∈ l)) := by
    refine sorted_same hl (hm.sublist List.filter_sublist) fun x => ?_
    rw [List.mem_filter, decide_eq_true_eq]
    exact ⟨fun hx => ⟨h x hx, hx⟩, fun hx => hx.2⟩
  rw [e]; exact List.filter_sublist
theorem Good.mono {d d' : List C} (hd : ∀ q ∈ d', q ∈ d) : ∀ {st : List C}, Good d st → Good d' st
  | [], _ => trivial
  | [_], _ => trivial
  | [_, _], h => ⟨h.1, fun q hq => h.2 q (hd q hq)⟩
  | _ :: _ :: _ :: _, h => ⟨h.1, h.2.1, fun q hq => h.2.2.1 q (hd q hq), Good.mono hd h.2.2.2⟩
theorem head_is {m : List C} (hm : Sorted m) {f : C} (hf : f ∈ m) (h : ∀ x ∈ m, ¬ lt x f) : m.head? = some f := by
  cases m with
  | nil => simp at hf
  | cons a r =>
    rcases List.mem_cons.1 hf with rfl | hf
    · rfl
    · exact absurd ((List.pairwise_cons.1 hm).1 f hf) (h a (by simp))
theorem last_is {m : List C} (hm : Sorted m) {g : C} (hg : g ∈ m) (h : ∀ x ∈ m, ¬ lt g x) : m.getLast? = some g := by
  have := head_is (sorted_neg hm) (f := neg g) (List.mem_map.2 ⟨g, List.mem_reverse.2 hg, rfl⟩) (fun x hx => by
    obtain ⟨y, hy, rfl⟩ := List.mem_map.1 hx
    intro hh; exact h y (List.mem_reverse.1 hy) (lt_neg.1 hh))
  rw [List.head?_map, List.head?_reverse] at this
  cases hl : m.getLast? with
  | none => rw [hl] at this; simp at this
  | some z => rw [hl] at this; simp at this; rw [← neg_neg z, this, neg_neg]
theorem sorted_last {l : List C} (h : Sorted l) {g : C} (hg : l.getLast? = some g) : ∀ q ∈ l, ¬ lt g q := fun q hq hh => by
  have := sorted_first (sorted_neg h) (f := neg g) (by rw [List.head?_map, List.head?_reverse, hg]; rfl) (neg q) (List.mem_map.2 ⟨q, List.mem_reverse.2 hq, rfl⟩)
  exact this (lt_neg.2 hh)
end Go.Geo
namespace Go.Geo
def dot (d v : C) : Int := d.1 * v.1 + d.2 * v.2
def Parted (d : C) (A B : List C) : Prop := ∀ p ∈ A, ∀ q ∈ B, dot d p < dot d q
theorem dot_sb (d a b : C) : dot d (sb a b) = dot d a - dot d b := by unfold dot sb; grind
def T (w v : C) : C := (-(xp w v), -(dot w v))
inductive Tried (A B : List C) : C → Prop
  | right (e : C × C) (h : e ∈ cyc A ∨ e ∈ cyc B) : Tried A B ((sb e.2 e.1).2, -(sb e.2 e.1).1)
  | left (e : C × C) (h : e ∈ cyc A ∨ e ∈ cyc B) : Tried A B (-(sb e.2 e.1).2, (sb e.2 e.1).1)
  | on (e : C × C) (h : e ∈ cyc A ∨ e ∈ cyc B) : Tried A B (sb e.2 e.1)
  | back (e : C × C) (h : e ∈ cyc A ∨ e ∈ cyc B) : Tried A B (-(sb e.2 e.1).1, -(sb e.2 e.1).2)
  | way (a b : C) (ha : A = [a]) (hb : B = [b]) : Tried A B (sb b a)
end Go.Geo
namespace Go.Geo
theorem steps_len : ∀ l : List C, (steps l).length = l.length - 1
  | [] => rfl
  | [_] => rfl
  | _ :: b :: r => by simp only [steps, List.length_cons]; rw [steps_len (b :: r)]; simp
theorem steps_at : ∀ (l : List C) (i : Nat) (a b : C), l[i]? = some a → l[i + 1]? = some b → (steps l)[i]? = some (a, b)
  | [], _, _, _, h, _ => by simp at h
  | [_], i, _, _, _, h => by simp at h
  | x :: y :: r, 0, a, b, h1, h2 => by simp at h1 h2; subst h1; subst h2; rfl
  | x :: y :: r, i + 1, a, b, h1, h2 => by
    simp only [steps, List.getElem?_cons_succ] at h1 h2 ⊢
    exact steps_at (y :: r) i a b h1 h2
theorem cyc_len (r : List C) : (cyc r).length = r.length := by
  cases r with
  | nil => rfl
  | cons a t => simp only [cyc]; rw [steps_len]; simp
theorem cyc_at {r : List C} {i j : Nat} {a b : C} (ha : r[i]? = some a) (hj : j = (i + 1) % r.length) (hb : r[j]? = some b) : (cyc r)[i]? = some (a, b) := by
  cases r with
  | nil => simp at ha
  | cons x t =>
    have hi := (List.getElem?_eq_some_iff.1 ha).1
    simp only [cyc]
    refine steps_at _ i a b ?_ ?_
    · rw [List.getElem?_append_left hi]; exact ha
    · by_cases h : i + 1 < (x :: t).length
      · rw [Nat.mod_eq_of_lt h] at hj
        subst hj
        rw [List.getElem?_append_left h]; exact hb
      · have e : i + 1 = (x :: t).length := by omega
        rw [e, Nat.mod_self] at hj
        subst hj
        simp at hb; subst hb
        rw [e, List.getElem?_append_right (Nat.le_refl _), Nat.sub_self]; rfl
theorem steps_mem : ∀ {l : List C} {e : C × C}, e ∈ steps l → e.1 ∈ l ∧ e.2 ∈ l
  | [], _, h => by simp [steps] at h
  | [_], _, h => by simp [steps] at h
  | a :: b :: r, e, h => by
    simp only [steps, List.mem_cons] at h
    rcases h with rfl | h
    · simp
    · have := steps_mem (l := b :: r) h
      exact ⟨List.mem_cons_of_mem _ this.1, List.mem_cons_of_mem _ this.2⟩
theorem cyc_mem {r : List C} {e : C × C} (h : e ∈ cyc r) : e.1 ∈ r ∧ e.2 ∈ r := by
  cases r with
  | nil => simp [cyc] at h
  | cons a t =>
    simp only [cyc] at h
    have := steps_mem h
    simp only [List.mem_append, List.mem_cons, List.not_mem_nil, or_false] at this ⊢
    constructor
    · rcases this.1 with h | h; exact h; exact Or.inl h
    · rcases this.2 with h | h; exact h; exact Or.inl h
end Go.Geo
namespace Go.Proofs.Try
open Go.Psl
open Go.Geo (cross cyc InR box)
def leftL (p : Int × Int) (es : List ((Int × Int) × (Int × Int))) : Bool := es.all fun e => decide (0 ≤ cross e.1 e.2 p)
theorem leftL_iff {p : Int × Int} {es : List ((Int × Int) × (Int × Int))} : leftL p es = true ↔ ∀ e ∈ es, 0 ≤ cross e.1 e.2 p := by
  unfold leftL; simp [List.all_eq_true]
def winB (n lo hi : Int) : Bool := decide (lo ≤ n) && decide (n ≤ hi)
def insS (r : List (Int × Int)) (p : Int × Int) : Bool := match r with
  | [] => false
  | [a] => decide (a = p)
  | a :: b :: t => leftL p (cyc r) && (decide (0 < t.length) || (winB p.1 a.1 b.1 && winB p.2 (min a.2 b.2) (max a.2 b.2)))
end Go.Proofs.Try
namespace Go.Psl
variable {P : Program} {Γ : Tys} {eqs : Eqs} {E : Ent}
def rid (ks : List Nat) (i : Nat) : Option Nat := if i ∈ ks then some i else none
structure KeepOk (ks : List Nat) (L : List (Nat × List V)) : Prop where
  names : L.map (·.1) = ks
  nd : ks.Nodup
  cells : ∀ p ∈ L, p.2 ≠ [] ∧ cellsOk p.2 ∧ ∀ c ∈ p.2, WC (rid ks) c c
theorem rid_in {ks : List Nat} {i : Nat} (h : i ∈ ks) : rid ks i = some i := by simp [rid, h]
theorem lk_nd : ∀ {L : List (Nat × List V)}, (L.map (·.1)).Nodup → ∀ p ∈ L, lk L p.1 = some p.2
  | [], _, p, hp => by simp at hp
  | q :: r, hn, p, hp => by
    simp only [List.map_cons, List.nodup_cons] at hn
    simp only [lk]
    rcases List.mem_cons.1 hp with rfl | hp
    · simp
    · have : p.1 ≠ q.1 := fun e => hn.1 (e ▸ List.mem_map.2 ⟨p, hp, rfl⟩)
      rw [if_neg this]
      exact lk_nd hn.2 p hp
section
variable {ks : List Nat} {L L1 : List (Nat × List V)}
theorem KeepOk.lk (h : KeepOk ks L) {p : Nat × List V} (hp : p ∈ L) : Go.Psl.lk L p.1 = some p.2 := lk_nd (by rw [h.names]; exact h.nd) p hp
theorem KeepOk.mem (h : KeepOk ks L) {p : Nat × List V} (hp : p ∈ L) : p.1 ∈ ks := by rw [← h.names]; exact List.mem_map.2 ⟨p, hp, rfl⟩
theorem KeepOk.isIn (h : KeepOk ks L) {i : Nat} : (Go.Psl.lk L i).isSome = true ↔ i ∈ ks := by
  constructor
  · intro hi
    obtain ⟨x, hx⟩ := Option.isSome_iff_exists.1 hi
    exact h.mem (p := (i, x)) (lk_mem' hx)
  · intro hi
    rw [← h.names] at hi
    obtain ⟨p, hp, rfl⟩ := List.mem_map.1 hi
    rw [h.lk hp]; rfl
theorem rid_some {i j : Nat} (h : rid ks i = some j) : i ∈ ks ∧ j = i := by
  unfold rid at h; split at h
  · cases h; exact ⟨by assumption, rfl⟩
  · cases h
theorem W0_rid {c : V} (h : W0 (rid ks) c c) : A0 (· ∈ ks) anyD c ∧ ∀ b, ren0 (sg ks b) c = c := by
  cases c with
  | junk => exact ⟨trivial, fun _ => rfl⟩
  | d x => exact ⟨trivial, fun _ => rfl⟩
  | lp i o =>
    obtain ⟨j, hj, _⟩ := h
    have hi := (rid_some hj).1
    exact ⟨hi, fun b => by simp [ren0, sg, hi]⟩
  | ls i o l z =>
    unfold W0 at h
    simp only at h
    split at h
    · rename_i j hj
      have hi := (rid_some hj).1
      exact ⟨hi, fun b => by simp [ren0, sg, hi]⟩
    · cases h.2
  | yl i =>
    obtain ⟨j, hj, _⟩ := h
    have hi := (rid_some hj).1
    exact ⟨hi, fun b => by simp [ren0, sg, hi]⟩
  | lr => exact False.elim h
  | cl f cs => exact ⟨trivial, fun _ => rfl⟩
  | agg cs => exact ⟨trivial, fun _ => rfl⟩
  | tup cs => exact ⟨trivial, fun _ => rfl⟩
theorem map_same {α : Type} {f : α → α} : ∀ {l : List α}, (∀ x ∈ l, f x = x) → l.map f = l
  | [], _ => rfl
  | a :: l, h => by rw [List.map_cons, h a (by simp), map_same fun x hx => h x (List.mem_cons_of_mem _ hx)]
theorem all2_same {α : Type} {R : α → α → Prop} : ∀ {l : List α}, All2 R l l → ∀ x ∈ l, R x x
  | [], _, _, hx => by simp at hx
  | a :: l, h, x, hx => by
    rcases List.mem_cons.1 hx with rfl | hx
    · exact h.1
    · exact all2_same h.2 x hx
theorem all2_refl {α : Type} {R : α → α → Prop} : ∀ {l : List α}, (∀ x ∈ l, R x x) → All2 R l l
  | [], _ => trivial
  | a :: l, h => ⟨h a (by simp), all2_refl fun x hx => h x (List.mem_cons_of_mem _ hx)⟩
theorem A0_ren {c : V} (h : A0 (· ∈ ks) anyD c) (b : Nat) : ren0 (sg ks b) c = c := by
  cases c <;> first | rfl | (have h2 : _ ∈ ks := h; simp [ren0, sg, h2]) | exact False.elim h
theorem A1_ren {c : V} (h : A1 (· ∈ ks) anyD c) (b : Nat) : ren1 (sg ks b) c = c := by
  cases c with
  | cl f cs => simp only [ren1]; rw [map_same fun x hx => A0_ren (h x hx) b]
  | junk => exact A0_ren (ks := ks) (c := .junk) h b
  | d x => exact A0_ren (ks := ks) (c := .d x) h b
  | lp i o => exact A0_ren (ks := ks) (c := .lp i o) h b
  | ls i o l z => exact A0_ren (ks := ks) (c := .ls i o l z) h b
  | yl i => exact A0_ren (ks := ks) (c := .yl i) h b
  | lr f n p pa pb j => exact A0_ren (ks := ks) (c := .lr f n p pa pb j) h b
  | agg cs => exact A0_ren (ks := ks) (c := .agg cs) h b
  | tup cs => exact A0_ren (ks := ks) (c := .tup cs) h b
theorem A2_ren {c : V} (h : A2 (· ∈ ks) anyD c) (b : Nat) : ren2 (sg ks b) c = c := by
  cases c with
  | agg cs => simp only [ren2]; rw [map_same fun x hx => A1_ren (h x hx) b]
  | junk => exact A1_ren (ks := ks) (c := .junk) h b
  | d x => exact A1_ren (ks := ks) (c := .d x) h b
  | lp i o => exact A1_ren (ks := ks) (c := .lp i o) h b
  | ls i o l z => exact A1_ren (ks := ks) (c := .ls i o l z) h b
  | yl i => exact A1_ren (ks := ks) (c := .yl i) h b
  | lr f n p pa pb j => exact A1_ren (ks := ks) (c := .lr f n p pa pb j) h b
  | cl f cs => exact A1_ren (ks := ks) (c := .cl f cs) h b
  | tup cs => exact A1_ren (ks := ks) (c := .tup cs) h b
theorem AV_ren {c : V} (h : AV (· ∈ ks) anyD c) (b : Nat) : ren (sg ks b) c = c := by
  cases c with
  | tup cs => simp only [ren]; rw [map_same fun x hx => A2_ren (h x hx) b]
  | junk => exact A2_ren (ks := ks) (c := .junk) h b
  | d x => exact A2_ren (ks := ks) (c := .d x) h b
  | lp i o => exact A2_ren (ks := ks) (c := .lp i o) h b
  | ls i o l z => exact A2_ren (ks := ks) (c := .ls i o l z) h b
  | yl i => exact A2_ren (ks := ks) (c := .yl i) h b
  | lr f n p pa pb j => exact A2_ren (ks := ks) (c := .lr f n p pa pb j) h b
  | cl f cs => exact A2_ren (ks := ks) (c := .cl f cs) h b
  | agg cs => exact A2_ren (ks := ks) (c := .agg cs) h b
theorem WC_rid {c : V} (h : WC (rid ks) c c) : AC (· ∈ ks) anyD c ∧ ∀ b, renC (sg ks b) c = c := by
  cases c with
  | lr fr nt ps pa pb jmp =>
    have h2 : ∀ t, AV (· ∈ ks) anyD (fr t) := fun t => AV.mono (fun i hi => (rid_some hi).1) (fun _ h => h) (h.2 t)
    refine ⟨h2, fun b => ?_⟩
    simp only [renC]
    congr 1
    funext t; exact AV_ren (h2 t) b
  | cl f cs =>
    obtain ⟨cs', e, h2⟩ := h
    cases e
    have h3 := all2_same h2
    exact ⟨fun c hc => (W0_rid (h3 c hc)).1, fun b => by simp only [renC, ren1]; rw [map_same fun x hx => (W0_rid (h3 x hx)).2 b]⟩
  | junk => exact ⟨trivial, fun _ => rfl⟩
  | d x => exact ⟨trivial, fun _ => rfl⟩
  | lp i o => exact W0_rid (c := .lp i o) h
  | ls i o l z => exact W0_rid (c := .ls i o l z) h
  | yl i => exact W0_rid (c := .yl i) h
  | agg cs => exact False.elim h
  | tup cs => exact False.elim h
theorem KeepOk.ac (h : KeepOk ks L) {p : Nat × List V} (hp : p ∈ L) : ∀ c ∈ p.2, AC (· ∈ ks) anyD c := fun c hc => (WC_rid ((h.cells p hp).2.2 c hc)).1
theorem KeepOk.hp (h : KeepOk ks L) {H : Hp} (hH : ∀ i ∈ ks, H i = Go.Psl.lk L i) : HpOk (rid ks) H L := by
  have key : ∀ M : List (Nat × List V), (∀ p ∈ M, p ∈ L) → HpOk (rid ks) H M := by
    intro M
    induction M with
    | nil => intro _; trivial
    | cons p r ih =>
      intro hM
      have hp := hM p (by simp)
      have hm := h.mem hp
      obtain ⟨c1, c2, c3⟩ := h.cells p hp
      refine ⟨?_, ih fun q hq => hM q (List.mem_cons_of_mem _ hq)⟩
      rw [rid_in hm]
      exact ⟨⟨p.2, by rw [hH _ hm, h.lk hp], all2_refl c3⟩, c2⟩
  exact key L fun _ h => h
theorem KeepOk.inj (h : KeepOk ks L) : RhoInj (rid ks) L := by
  have key : ∀ M : List (Nat × List V), (∀ p ∈ M, p ∈ L) → RhoInj (rid ks) M := by
    intro M
    induction M with
    | nil => intro _; trivial
    | cons p r ih =>
      intro hM
      refine ⟨fun q hq => ?_, ih fun q hq => hM q (List.mem_cons_of_mem _ hq)⟩
      have h1 := h.mem (hM p (by simp))
      have h2 := h.mem (hM q (List.mem_cons_of_mem _ hq))
      rw [rid_in h1, rid_in h2]
      by_cases e : q.1 = p.1
      · exact Or.inr (Or.inr e)
      · exact Or.inr (Or.inl fun e' => e (Option.some.inj e'))
  exact key L fun _ h => h
theorem KeepOk.stab (_ : KeepOk ks L) {H : Hp} (hH : ∀ i ∈ ks, H i = Go.Psl.lk L i) : StabL (rid ks) H (Go.Psl.lk L) ks := by
  have key : ∀ M : List Nat, (∀ i ∈ M, i ∈ ks) → StabL (rid ks) H (Go.Psl.lk L) M := by
    intro M
    induction M with
    | nil => intro _; trivial
    | cons i r ih =>
      intro hM
      have hi := hM i (by simp)
      exact ⟨fun hs => ⟨rid_in hi, by rw [hH i hi]; exact hs⟩, ih fun j hj => hM j (List.mem_cons_of_mem _ hj)⟩
  exact key ks fun _ h => h
theorem KeepOk.stabW (_ : KeepOk ks L) {H : Hp} (hH : ∀ i ∈ ks, H i = Go.Psl.lk L i) {n : Nat} (hn : ∀ i ∈ ks, i < n) : StabW (rid ks) H (Go.Psl.lk L) n ks := by
  have key : ∀ M : List Nat, (∀ i ∈ M, i ∈ ks) → StabW (rid ks) H (Go.Psl.lk L) n M := by
    intro M
    induction M with
    | nil => intro _; trivial
    | cons i r ih =>
      intro hM
      have hi := hM i (by simp)
      exact ⟨hn i hi, fun hs => ⟨rid_in hi, by rw [hH i hi]; exact hs⟩, ih fun j hj => hM j (List.mem_cons_of_mem _ hj)⟩
  exact key ks fun _ h => h
theorem KeepOk.ids (h : KeepOk ks L) {n : Nat} (hn : ∀ i ∈ ks, i < n) : HpIds n L := by
  have key : ∀ M : List (Nat × List V), (∀ p ∈ M, p ∈ L) → HpIds n M := by
    intro M
    induction M with
    | nil => intro _; trivial
    | cons p r ih =>
      intro hM
      have hp := hM p (by simp)
      exact ⟨hn _ (h.mem hp), fun c hc => AC.mono hn (fun _ h => h) (h.ac hp c hc), ih fun q hq => hM q (List.mem_cons_of_mem _ hq)⟩
  exact key L fun _ h => h
theorem KeepOk.res (h : KeepOk ks L) : ∀ p ∈ L, ∀ c ∈ p.2, AC (InB L) anyD c := fun _ hp c hc => AC.mono (fun _ hi => h.isIn.2 hi) (fun _ h => h) (h.ac hp c hc)
theorem Weak.keep {st : St} (hs : ∀ i, E.stab i ↔ i ∈ ks) (h : KeepOk ks L) (hH : ∀ i ∈ ks, st.H i = Go.Psl.lk L i) {n : Nat} (hn : ∀ i ∈ ks, i < n) (l : List (Nat × V)) (h1 : SlotsOk (rid ks) st.fr l) (h4 : SlotsIds n l) : Weak P E st ⟨slots l, Go.Psl.lk L, n⟩ :=
  Weak.mkM hs (rid ks) l L n h1 (h.hp hH) h.inj h4 (h.ids hn) (h.stabW hH hn)
theorem heapM_keep {H : Hp} {b : Nat} (hL : KeepOk ks L) (hL1 : KeepOk ks L1) : heapM H b (Go.Psl.lk L) ks (Go.Psl.lk L1) = fun i => if i ∈ ks then Go.Psl.lk L1 i else H i := by
  funext i
  unfold heapM
  by_cases hi : i ∈ ks
  · simp only [hi, if_true]
    have h1 := hL1.isIn.2 hi
    obtain ⟨x, hx⟩ := Option.isSome_iff_exists.1 h1
    rw [hx]
    have hm := hL1.cells (i, x) (lk_mem' hx)
    simp only [Option.map_some]
    rw [map_same fun c hc => (WC_rid (hm.2.2 c hc)).2 b]
  · simp only [hi, if_false]
    have h2 : (Go.Psl.lk L i).isSome = false := by
      cases hc : (Go.Psl.lk L i).isSome with
      | false => rfl
      | true => exact absurd (hL.isIn.1 hc) hi
    rw [h2]
    simp only [Bool.false_eq_true, if_false]
    split
    · split
      · rfl
      · rename_i hn
        have h3 : Go.Psl.lk L1 (i - b) = none := by
          cases hc : Go.Psl.lk L1 (i - b) with
          | none => rfl
          | some x => exact absurd (hL1.isIn.1 (by rw [hc]; rfl)) hn
        rw [h3]
    · rfl
theorem callB_keep {H : Hp} {av args : List V} {res : Res} (hL : KeepOk ks L) (hL1 : KeepOk ks L1) (hH : ∀ i ∈ ks, H i = Go.Psl.lk L i) (hb : All2 (Bor noH) av args) : CallB H av args (Go.Psl.lk L) ks res (Go.Psl.lk L1) :=
  ⟨fun i cs h => by rw [hH i (hL.isIn.1 (by rw [h]; rfl)), h], fun i h hn => absurd (hL1.isIn.1 h) hn, fun i hi => by
    obtain ⟨x, hx⟩ := Option.isSome_iff_exists.1 (hL.isIn.2 hi)
    exact ⟨x, hx, (hL.cells (i, x) (lk_mem' hx)).1⟩, Or.inl hb⟩
theorem AYield.keep {H : Hp} {b k : Nat} {av : List V} {Kc Kx : V → Hp → Prop} (args : List V) (L L1 : List (Nat × List V)) (ks : List Nat) (r : D) (hf : Ym P k args (Go.Psl.lk L) ks (.ret (.d r)) (Go.Psl.lk L1)) (hL : KeepOk ks L) (hL1 : KeepOk ks L1)
    (hrec : ∃ fr nt ps pa pb jmp, Go.Psl.lk L k = some [.lr fr nt ps pa pb jmp] ∧ ps.length = args.length) (hH : ∀ i ∈ ks, H i = Go.Psl.lk L i) (hb : All2 (Bor noH) av args) (hk : Kc (.d r) (fun i => if i ∈ ks then Go.Psl.lk L1 i else H i)) : AYield P true H H b k av Kc Kx :=
  ⟨rfl, args, Go.Psl.lk L, ks, .ret (.d r), Go.Psl.lk L1, _, ⟨hf, hrec, callB_keep hL hL1 hH hb⟩, (heapM_keep hL hL1).symm, hk⟩
theorem ACall.keep {H : Hp} {b : Nat} {g : FuncId} {av : List V} {Kc Kx : V → Hp → Prop} (args : List V) (L L1 : List (Nat × List V)) (ks : List Nat) (r : V) (hf : Cm P g args (Go.Psl.lk L) ks (.ret r) (Go.Psl.lk L1)) (hL : KeepOk ks L) (hL1 : KeepOk ks L1) (hr : AV (· ∈ ks) anyD r)
    (hH : ∀ i ∈ ks, H i = Go.Psl.lk L i) (hb : All2 (Bor noH) av args) (hk : Kc r (fun i => if i ∈ ks then Go.Psl.lk L1 i else H i)) : ACall P true H H b g av Kc Kx :=
  ⟨args, Go.Psl.lk L, ks, .ret r, Go.Psl.lk L1, _, ⟨hf, callB_keep hL hL1 hH hb⟩, nofun, (heapM_keep hL hL1).symm, by show Kc (ren (sg ks b) r) _; rw [AV_ren hr]; exact hk⟩
theorem RetM.keep {fn : Func} {st : St} (hn : fn.results = #[]) (h : KeepOk ks L) (hH : ∀ i ∈ ks, st.H i = Go.Psl.lk L i) : RetM Γ fn ks (.tup []) L st :=
  ⟨[], rid ks, by rw [hn]; rfl, rfl, by simp, h.hp hH, h.inj, h.stab hH⟩
theorem PRange.keep {fo : Operand} {ps : List Nat} {pa pb : PC} {Q : AExit → St → Prop} {f : Nat → V} {H : Hp} {n : Nat} {g : FuncId} {caps : List V} (L L1 : List (Nat × List V)) (ks : List Nat) (r : V) (jmp : LSt) (h0 : E.rd = none) (hg : calleeOf (evF f fo) = some (g, caps))
    (hf : Cm P g (.yl n :: caps) (Go.Psl.lk ((n, [.lr f E.nt ps pa pb .ready]) :: L)) (n :: ks) (.ret r) (Go.Psl.lk ((n, [.lr f E.nt ps pa pb jmp]) :: L1)))
    (hL : KeepOk (n :: ks) ((n, [.lr f E.nt ps pa pb .ready]) :: L)) (hL1 : KeepOk (n :: ks) ((n, [.lr f E.nt ps pa pb jmp]) :: L1)) (hH : ∀ i ∈ ks, H i = Go.Psl.lk L i) (hb : All2 (Bor noH) caps caps)
    (hq : jumpQ Q ⟨f, fun i => if i = n then none else if i ∈ ks then Go.Psl.lk L1 i else H i, n + 2097152⟩ jmp) : PW P Γ eqs E (.rangeF fo ps pa pb) Q ⟨f, H, n⟩ := by
  have hH' : ∀ i ∈ n :: ks, upd H n (some [.lr f E.nt ps pa pb .ready]) i = Go.Psl.lk ((n, [.lr f E.nt ps pa pb .ready]) :: L) i := fun i hi => by
    simp only [upd_at, Go.Psl.lk]
    by_cases e : i = n
    · simp [e]
    · simp only [e, if_false]
      rcases List.mem_cons.1 hi with h | h
      · exact absurd h e
      · exact hH i h
  refine ⟨h0, g, caps, .yl n :: caps, _, n :: ks, .ret r, _, hg, ⟨hf, callB_keep hL hL1 hH' ⟨rfl, hb⟩⟩, by simp, jmp, by simp [Go.Psl.lk], ?_⟩
  have e : upd (heapM (upd H n (some [.lr f E.nt ps pa pb .ready])) (n + 1048576) (Go.Psl.lk ((n, [.lr f E.nt ps pa pb .ready]) :: L)) (n :: ks) (Go.Psl.lk ((n, [.lr f E.nt ps pa pb jmp]) :: L1))) n none = fun i => if i = n then none else if i ∈ ks then Go.Psl.lk L1 i else H i := by
    rw [heapM_keep hL hL1]
    funext i
    simp only [upd_at]
    by_cases h : i = n
    · simp [h]
    · simp [h, Go.Psl.lk]
  show jumpQ Q ⟨f, upd (heapM _ _ _ _ _) n none, n + 2097152⟩ jmp
  rw [e]; exact hq
theorem RndM.keep {k : Nat} {rc : LSt → V} {s : LSt} {st : St} (h : KeepOk ks L) (hb : st.H k = some [rc .busy]) (hH : ∀ i ∈ ks, upd st.H k (some [rc s]) i = Go.Psl.lk L i) : RndM k rc s ks L st :=
  ⟨hb, rid ks, h.hp hH, h.inj, h.stab hH⟩
end
structure Rnd (P : Program) (Γ : Tys) (eqs : Eqs) (k : Nat) (fr : Nat → V) (nt : Nat) (ps : List Nat) (pa pb : PC) (args : List V) (Hin : Hp) (ks : List Nat) (s : LSt) (H1 : List (Nat × List V)) (N : Nat) : Prop where
  run : ∀ E : Ent, E.nt = nt → (∀ i, E.stab i ↔ i ∈ ks) → PW P Γ eqs E pa (seqQ (fun st => st.H k = some [.lr fr nt ps pa pb .ready] ∧ PW P Γ eqs E pb (rndQ k (.lr fr nt ps pa pb) s ks H1) ⟨st.fr, upd st.H k (some [.lr fr nt ps pa pb .busy]), st.nx⟩) (fun _ _ => False)) ⟨frPuts fr ps args, Hin, N⟩
theorem Ym.ofR (hΓ : GOk P Γ) (hE : EqOk P eqs) (hm : P.follows .mixedOrders = true) {k : Nat} {fr : Nat → V} {nt : Nat} {ps : List Nat} {pa pb : PC} {args : List V} {ks : List Nat} {s : LSt} {L L1 : List (Nat × List V)} (N : Nat)
    (hL : KeepOk ks L) (hL1 : KeepOk ks L1) (hlt : ∀ i ∈ ks, i < N) (hk : lk L k = some [.lr fr nt ps pa pb .ready]) (hlen : ps.length = args.length) (hps : ∀ p ∈ ps, p < nt) (hcl : ∀ v ∈ args, A2 (· < N) anyD v)
    (h : Rnd P Γ eqs k fr nt ps pa pb args (lk L) ks s L1 N) : Ym P k args (lk L) ks (.ret (.d (.lit (.bool (goesOn s))))) (lk L1) :=
  Ym.of hΓ hE hm N hk (hL.isIn.1 (by rw [hk]; rfl)) hlen hps hcl (HpIds.at (hL.ids hlt)) hlt hL1.res h.run
end Go.Psl
namespace Go.Psl
variable {P : Program} {Γ : Tys} {eqs : Eqs} {E : Ent}
def CX (ks xs : List Nat) (c : V) : Prop := match c with
  | .lr fr _ _ _ _ _ => ∀ t, AV (· ∈ ks) anyD (fr t)
  | c => W1 (rid (ks ++ xs)) c c
structure KeepX (ks xs : List Nat) (L : List (Nat × List V)) : Prop where
  names : L.map (·.1) = ks ++ xs
  nd : (ks ++ xs).Nodup
  cells : ∀ p ∈ L, p.2 ≠ [] ∧ cellsOk p.2 ∧ ∀ c ∈ p.2, CX ks xs c
section
variable {ks xs xs1 : List Nat} {L L1 : List (Nat × List V)}
theorem KeepX.lk (h : KeepX ks xs L) {p : Nat × List V} (hp : p ∈ L) : Go.Psl.lk L p.1 = some p.2 := lk_nd (by rw [h.names]; exact h.nd) p hp
theorem KeepX.mem (h : KeepX ks xs L) {p : Nat × List V} (hp : p ∈ L) : p.1 ∈ ks ++ xs := by rw [← h.names]; exact List.mem_map.2 ⟨p, hp, rfl⟩
theorem KeepX.isIn (h : KeepX ks xs L) {i : Nat} : (Go.Psl.lk L i).isSome = true ↔ i ∈ ks ++ xs := by
  constructor
  · intro hi
    obtain ⟨x, hx⟩ := Option.isSome_iff_exists.1 hi
    exact h.mem (p := (i, x)) (lk_mem' hx)
  · intro hi
    rw [← h.names] at hi
    obtain ⟨p, hp, rfl⟩ := List.mem_map.1 hi
    rw [h.lk hp]; rfl
def rx (ks xs : List Nat) (b i : Nat) : Option Nat := if i ∈ ks then some i else if i ∈ xs then some (b + i) else none
theorem rx_sg {b i : Nat} (h : i ∈ ks ++ xs) : rx ks xs b i = some (sg ks b i) := by
  unfold rx sg
  by_cases hk : i ∈ ks
  · simp [hk]
  · rcases List.mem_append.1 h with h | h
    · exact absurd h hk
    · simp [hk, h]
theorem W0_rx {b : Nat} {c : V} (h : W0 (rid (ks ++ xs)) c c) : W0 (rx ks xs b) (ren0 (sg ks b) c) c := by
  cases c with
  | junk => trivial
  | d x => rfl
  | lp i o =>
    obtain ⟨j, hj, _⟩ := h
    exact ⟨_, rx_sg (rid_some hj).1, rfl⟩
  | ls i o l z =>
    unfold W0 at h
    simp only at h
    split at h
    · rename_i j hj
      simp only [W0, rx_sg (rid_some hj).1]; rfl
    · cases h.2
  | yl i =>
    obtain ⟨j, hj, _⟩ := h
    exact ⟨_, rx_sg (rid_some hj).1, rfl⟩
  | lr => exact False.elim h
  | cl f cs => exact False.elim h
  | agg cs => exact False.elim h
  | tup cs => exact False.elim h
theorem all2_map {α : Type} {R : α → α → Prop} {f : α → α} : ∀ {l : List α}, (∀ x ∈ l, R (f x) x) → All2 R (l.map f) l
  | [], _ => trivial
  | a :: l, h => ⟨h a (by simp), all2_map fun x hx => h x (List.mem_cons_of_mem _ hx)⟩
theorem CX_rx {b : Nat} {c : V} (h : CX ks xs c) : WC (rx ks xs b) (renC (sg ks b) c) c := by
  cases c with
  | lr fr nt ps pa pb jmp =>
    have h : ∀ t, AV (· ∈ ks) anyD (fr t) := h
    refine ⟨?_, fun t => AV.mono (fun i hi => by simp [rx, hi]) (fun _ h => h) (h t)⟩
    simp only [renC]
    congr 1
    funext t; exact AV_ren (h t) b
  | cl f cs =>
    obtain ⟨cs', e, h2⟩ := h
    cases e
    have h3 := all2_same h2
    exact ⟨_, rfl, all2_map fun x hx => W0_rx (h3 x hx)⟩
  | junk => trivial
  | d x => rfl
  | lp i o => exact W0_rx (c := .lp i o) h
  | ls i o l z => exact W0_rx (c := .ls i o l z) h
  | yl i => exact W0_rx (c := .yl i) h
  | agg cs => exact False.elim h
  | tup cs => exact False.elim h
theorem W1_rid {c : V} (h : W1 (rid ks) c c) : A1 (· ∈ ks) anyD c := by
  cases c with
  | cl f cs =>
    obtain ⟨cs', e, h2⟩ := h
    cases e
    exact fun c hc => (W0_rid (all2_same h2 c hc)).1
  | junk => exact trivial
  | d x => exact trivial
  | lp i o => exact (W0_rid (c := .lp i o) h).1
  | ls i o l z => exact (W0_rid (c := .ls i o l z) h).1
  | yl i => exact (W0_rid (c := .yl i) h).1
  | lr => exact False.elim h
  | agg cs => exact False.elim h
  | tup cs => exact False.elim h
theorem CX_ac {c : V} (h : CX ks xs c) : AC (· ∈ ks ++ xs) anyD c := by
  cases c with
  | lr fr nt ps pa pb jmp => exact fun t => AV.mono (fun i hi => List.mem_append_left _ hi) (fun _ h => h) (h t)
  | cl f cs => exact W1_rid (c := .cl f cs) h
  | junk => exact trivial
  | d x => exact trivial
  | lp i o => exact W1_rid (c := .lp i o) h
  | ls i o l z => exact W1_rid (c := .ls i o l z) h
  | yl i => exact W1_rid (c := .yl i) h
  | agg cs => exact False.elim h
  | tup cs => exact False.elim h
theorem KeepX.ids (h : KeepX ks xs L) {n : Nat} (hn : ∀ i ∈ ks ++ xs, i < n) : HpIds n L := by
  have key : ∀ M : List (Nat × List V), (∀ p ∈ M, p ∈ L) → HpIds n M := by
    intro M
    induction M with
    | nil => intro _; trivial
    | cons p r ih =>
      intro hM
      have hp := hM p (by simp)
      exact ⟨hn _ (h.mem hp), fun c hc => AC.mono hn (fun _ h => h) (CX_ac ((h.cells p hp).2.2 c hc)), ih fun q hq => hM q (List.mem_cons_of_mem _ hq)⟩
  exact key L fun _ h => h
theorem KeepX.res (h : KeepX ks xs L) : ∀ p ∈ L, ∀ c ∈ p.2, AC (InB L) anyD c := fun p hp c hc => AC.mono (fun _ hi => h.isIn.2 hi) (fun _ h => h) (CX_ac ((h.cells p hp).2.2 c hc))
theorem heapX_at {H : Hp} {b : Nat} (hL : KeepX ks xs L) (hL1 : KeepX ks xs1 L1) (hb : ∀ i ∈ ks ++ xs, i < b) {p : Nat × List V} (hp : p ∈ L1) : heapM H b (Go.Psl.lk L) ks (Go.Psl.lk L1) (sg ks b p.1) = some (p.2.map (renC (sg ks b))) := by
  have h1 := hL1.lk hp
  by_cases hk : p.1 ∈ ks
  · simp only [heapM, sg, hk, if_true, h1, Option.map_some]
  · have e : sg ks b p.1 = b + p.1 := by simp [sg, hk]
    have n1 : ¬ (b + p.1 ∈ ks) := fun h => by have := hb _ (List.mem_append_left _ h); omega
    have n2 : (Go.Psl.lk L (b + p.1)).isSome = false := by
      cases hc : (Go.Psl.lk L (b + p.1)).isSome with
      | false => rfl
      | true => have := hb _ (hL.isIn.1 hc); omega
    rw [e]
    simp only [heapM, n1, if_false, n2, Bool.false_eq_true, Nat.le_add_right, if_true, Nat.add_sub_cancel_left, hk, h1]
theorem heapX_out {H : Hp} {b : Nat} (hL : KeepX ks xs L) (_ : KeepX ks xs1 L1) {i : Nat} (h1 : i ∉ ks ++ xs) (h2 : i < b) : heapM H b (Go.Psl.lk L) ks (Go.Psl.lk L1) i = H i := by
  have n1 : ¬ i ∈ ks := fun h => h1 (List.mem_append_left _ h)
  have n2 : (Go.Psl.lk L i).isSome = false := by
    cases hc : (Go.Psl.lk L i).isSome with
    | false => rfl
    | true => exact absurd (hL.isIn.1 hc) h1
  simp only [heapM, n1, if_false, n2, Bool.false_eq_true, show ¬ b ≤ i by omega]
theorem rx_names {H' : Hp} {b : Nat} (hL1 : KeepX ks xs1 L1) (hH : ∀ p ∈ L1, H' (sg ks b p.1) = some (p.2.map (renC (sg ks b)))) : HpOk (rx ks xs1 b) H' L1 := by
  have key : ∀ M : List (Nat × List V), (∀ p ∈ M, p ∈ L1) → HpOk (rx ks xs1 b) H' M := by
    intro M
    induction M with
    | nil => intro _; trivial
    | cons p r ih =>
      intro hM
      have hp := hM p (by simp)
      obtain ⟨c1, c2, c3⟩ := hL1.cells p hp
      refine ⟨?_, ih fun q hq => hM q (List.mem_cons_of_mem _ hq)⟩
      rw [rx_sg (hL1.mem hp)]
      exact ⟨⟨_, hH p hp, all2_map fun c hc => CX_rx (c3 c hc)⟩, c2⟩
  exact key L1 fun _ h => h
theorem rx_inj {b : Nat} (hL1 : KeepX ks xs1 L1) (hb : ∀ i ∈ ks, i < b) : RhoInj (rx ks xs1 b) L1 := by
  have key : ∀ M : List (Nat × List V), (∀ p ∈ M, p ∈ L1) → RhoInj (rx ks xs1 b) M := by
    intro M
    induction M with
    | nil => intro _; trivial
    | cons p r ih =>
      intro hM
      refine ⟨fun q hq => ?_, ih fun q hq => hM q (List.mem_cons_of_mem _ hq)⟩
      rw [rx_sg (hL1.mem (hM p (by simp))), rx_sg (hL1.mem (hM q (List.mem_cons_of_mem _ hq)))]
      by_cases e : q.1 = p.1
      · exact Or.inr (Or.inr e)
      · refine Or.inr (Or.inl fun e' => e ?_)
        have e' := Option.some.inj e'
        unfold sg at e'
        split at e' <;> split at e'
        · exact e'
        · rename_i h1 h2; have := hb _ h1; omega
        · rename_i h1 h2; have := hb _ h2; omega
        · omega
  exact key L1 fun _ h => h
theorem rx_stab {H' : Hp} {b : Nat} (_ : KeepX ks xs1 L1) (hH : ∀ p ∈ L1, H' (sg ks b p.1) = some (p.2.map (renC (sg ks b)))) : ∀ i ∈ ks, (Go.Psl.lk L1 i).isSome = true → rx ks xs1 b i = some i ∧ (H' i).isSome = true := fun i hi hs => by
  obtain ⟨x, hx⟩ := Option.isSome_iff_exists.1 hs
  have := hH (i, x) (lk_mem' hx)
  rw [show sg ks b i = i by simp [sg, hi]] at this
  exact ⟨by simp [rx, hi], by rw [this]; rfl⟩
theorem stabL_of {ρ : Nat → Option Nat} {H h : Hp} : ∀ {M : List Nat}, (∀ i ∈ M, (h i).isSome = true → ρ i = some i ∧ (H i).isSome = true) → StabL ρ H h M
  | [], _ => trivial
  | i :: r, hM => ⟨hM i (by simp), stabL_of fun j hj => hM j (List.mem_cons_of_mem _ hj)⟩
theorem stabW_of {ρ : Nat → Option Nat} {H h : Hp} {n : Nat} : ∀ {M : List Nat}, (∀ i ∈ M, i < n) → (∀ i ∈ M, (h i).isSome = true → ρ i = some i ∧ (H i).isSome = true) → StabW ρ H h n M
  | [], _, _ => trivial
  | i :: r, hn, hM => ⟨hn i (by simp), hM i (by simp), stabW_of (fun j hj => hn j (List.mem_cons_of_mem _ hj)) fun j hj => hM j (List.mem_cons_of_mem _ hj)⟩
theorem Weak.keepX {st : St} {b : Nat} (hs : ∀ i, E.stab i ↔ i ∈ ks) (h : KeepX ks xs1 L1) (hb : ∀ i ∈ ks, i < b) (hH : ∀ p ∈ L1, st.H (sg ks b p.1) = some (p.2.map (renC (sg ks b)))) {n : Nat} (hn : ∀ i ∈ ks ++ xs1, i < n) (l : List (Nat × V)) (h1 : SlotsOk (rx ks xs1 b) st.fr l) (h4 : SlotsIds n l) : Weak P E st ⟨slots l, Go.Psl.lk L1, n⟩ :=
  Weak.mkM hs (rx ks xs1 b) l L1 n h1 (rx_names h hH) (rx_inj h hb) h4 (h.ids hn) (stabW_of (fun i hi => hn i (List.mem_append_left _ hi)) (rx_stab h hH))
theorem RetM.keepX {fn : Func} {st : St} {b : Nat} (hn : fn.results = #[]) (h : KeepX ks xs1 L1) (hb : ∀ i ∈ ks, i < b) (hH : ∀ p ∈ L1, st.H (sg ks b p.1) = some (p.2.map (renC (sg ks b)))) : RetM Γ fn ks (.tup []) L1 st :=
  ⟨[], rx ks xs1 b, by rw [hn]; rfl, rfl, by simp, rx_names h hH, rx_inj h hb, stabL_of (rx_stab h hH)⟩
theorem callB_keepX {H : Hp} {av args : List V} {res : Res} (hL : KeepX ks xs L) (hL1 : KeepX ks xs1 L1) (hx : ∀ i ∈ xs1, i < 1048576) (hH : ∀ i ∈ ks ++ xs, H i = Go.Psl.lk L i) (hb : All2 (Bor noH) av args) : CallB H av args (Go.Psl.lk L) ks res (Go.Psl.lk L1) :=
  ⟨fun i cs h => by rw [hH i (hL.isIn.1 (by rw [h]; rfl)), h], fun i h hn => by
    rcases List.mem_append.1 (hL1.isIn.1 h) with h | h
    · exact absurd h hn
    · exact hx i h, fun i hi => by
    obtain ⟨x, hx⟩ := Option.isSome_iff_exists.1 (hL.isIn.2 (List.mem_append_left _ hi))
    exact ⟨x, hx, (hL.cells (i, x) (lk_mem' hx)).1⟩, Or.inl hb⟩
theorem CX_rid {c : V} (h : CX ks xs c) : WC (rid (ks ++ xs)) c c := by
  cases c with
  | lr fr nt ps pa pb jmp => exact ⟨rfl, fun t => AV.mono (fun i hi => rid_in (List.mem_append_left _ hi)) (fun _ h => h) (h t)⟩
  | cl f cs => exact h
  | junk => exact h
  | d x => exact h
  | lp i o => exact h
  | ls i o l z => exact h
  | yl i => exact h
  | agg cs => exact h
  | tup cs => exact h
theorem KeepX.same (h : KeepX ks xs L) : KeepOk (ks ++ xs) L := ⟨h.names, h.nd, fun p hp => ⟨(h.cells p hp).1, (h.cells p hp).2.1, fun c hc => CX_rid ((h.cells p hp).2.2 c hc)⟩⟩
theorem Weak.sameX {st : St} (hs : ∀ i, E.stab i ↔ i ∈ ks) (h : KeepX ks xs L) (hH : st.H = Go.Psl.lk L) {n : Nat} (hn : ∀ i ∈ ks ++ xs, i < n) (l : List (Nat × V)) (h1 : SlotsOk (rid (ks ++ xs)) st.fr l) (h4 : SlotsIds n l) : Weak P E st ⟨slots l, Go.Psl.lk L, n⟩ :=
  Weak.mkM hs (rid (ks ++ xs)) l L n h1 (h.same.hp fun i _ => by rw [hH]) h.same.inj h4 (h.ids hn) (stabW_of (fun i hi => hn i (List.mem_append_left _ hi)) fun i hi hs => ⟨rid_in (List.mem_append_left _ hi), by rw [hH]; exact hs⟩)
theorem RetM.sameX {fn : Func} {st : St} (hn : fn.results = #[]) (h : KeepX ks xs L) (hH : st.H = Go.Psl.lk L) : RetM Γ fn ks (.tup []) L st :=
  ⟨[], rid (ks ++ xs), by rw [hn]; rfl, rfl, by simp, h.same.hp fun i _ => by rw [hH], h.same.inj, stabL_of fun i hi hs => ⟨rid_in (List.mem_append_left _ hi), by rw [hH]; exact hs⟩⟩
theorem AYield.keepX {H : Hp} {b k : Nat} {av : List V} {Kc Kx : V → Hp → Prop} (args : List V) (L L1 : List (Nat × List V)) (ks xs xs1 : List Nat) (r : D) (hf : Ym P k args (Go.Psl.lk L) ks (.ret (.d r)) (Go.Psl.lk L1)) (hL : KeepX ks xs L) (hL1 : KeepX ks xs1 L1) (hx : ∀ i ∈ xs1, i < 1048576)
    (hrec : ∃ fr nt ps pa pb jmp, Go.Psl.lk L k = some [.lr fr nt ps pa pb jmp] ∧ ps.length = args.length) (hH : ∀ i ∈ ks ++ xs, H i = Go.Psl.lk L i) (hb : All2 (Bor noH) av args) (hk : Kc (.d r) (heapM H b (Go.Psl.lk L) ks (Go.Psl.lk L1))) : AYield P true H H b k av Kc Kx :=
  ⟨rfl, args, Go.Psl.lk L, ks, .ret (.d r), Go.Psl.lk L1, _, ⟨hf, hrec, callB_keepX hL hL1 hx hH hb⟩, rfl, hk⟩
theorem Ym.ofX (hΓ : GOk P Γ) (hE : EqOk P eqs) (hm : P.follows .mixedOrders = true) {k : Nat} {fr : Nat → V} {nt : Nat} {ps : List Nat} {pa pb : PC} {args : List V} {s : LSt} (N : Nat)
    (hL : KeepX ks xs L) (hL1 : KeepX ks xs1 L1) (hlt : ∀ i ∈ ks ++ xs, i < N) (hkk : k ∈ ks) (hk : Go.Psl.lk L k = some [.lr fr nt ps pa pb .ready]) (hlen : ps.length = args.length) (hps : ∀ p ∈ ps, p < nt) (hcl : ∀ v ∈ args, A2 (· < N) anyD v)
    (h : Rnd P Γ eqs k fr nt ps pa pb args (Go.Psl.lk L) ks s L1 N) : Ym P k args (Go.Psl.lk L) ks (.ret (.d (.lit (.bool (goesOn s))))) (Go.Psl.lk L1) :=
  Ym.of hΓ hE hm N hk hkk hlen hps hcl (HpIds.at (hL.ids hlt)) (fun i hi => hlt i (List.mem_append_left _ hi)) hL1.res h.run
theorem PRange.keepX {fo : Operand} {ps : List Nat} {pa pb : PC} {Q : AExit → St → Prop} {f : Nat → V} {H : Hp} {n : Nat} {g : FuncId} {caps : List V} (L L1 : List (Nat × List V)) (ks xs xs1 : List Nat) (r : V) (jmp : LSt) (h0 : E.rd = none) (hg : calleeOf (evF f fo) = some (g, caps))
    (hf : Cm P g (.yl n :: caps) (Go.Psl.lk ((n, [.lr f E.nt ps pa pb .ready]) :: L)) (n :: ks) (.ret r) (Go.Psl.lk ((n, [.lr f E.nt ps pa pb jmp]) :: L1)))
    (hL : KeepX (n :: ks) xs ((n, [.lr f E.nt ps pa pb .ready]) :: L)) (hL1 : KeepX (n :: ks) xs1 ((n, [.lr f E.nt ps pa pb jmp]) :: L1)) (hx : ∀ i ∈ xs1, i < 1048576) (hlt : ∀ i ∈ ks ++ xs, i < n) (hH : ∀ i ∈ ks ++ xs, H i = Go.Psl.lk L i) (hb : All2 (Bor noH) caps caps)
    (hq : ∀ F : Hp, (∀ p ∈ L1, F (sg (n :: ks) (n + 1048576) p.1) = some (p.2.map (renC (sg (n :: ks) (n + 1048576))))) → (∀ i, i ∉ ks ++ xs → i < n → F i = H i) → jumpQ Q ⟨f, F, n + 2097152⟩ jmp) : PW P Γ eqs E (.rangeF fo ps pa pb) Q ⟨f, H, n⟩ := by
  have hH' : ∀ i ∈ n :: ks ++ xs, upd H n (some [.lr f E.nt ps pa pb .ready]) i = Go.Psl.lk ((n, [.lr f E.nt ps pa pb .ready]) :: L) i := fun i hi => by
    simp only [upd_at, Go.Psl.lk]
    by_cases e : i = n
    · simp [e]
    · simp only [e, if_false]
      rw [List.cons_append] at hi
      rcases List.mem_cons.1 hi with h | h
      · exact absurd h e
      · exact hH i h
  have hbk : ∀ i ∈ n :: ks ++ xs, i < n + 1048576 := fun i hi => by
    rw [List.cons_append] at hi
    rcases List.mem_cons.1 hi with h | h
    · omega
    · have := hlt i h; omega
  refine ⟨h0, g, caps, .yl n :: caps, _, n :: ks, .ret r, _, hg, ⟨hf, callB_keepX hL hL1 hx hH' ⟨rfl, hb⟩⟩, by simp, jmp, by simp [Go.Psl.lk], ?_⟩
  refine hq _ (fun p hp => ?_) fun i hi hin => ?_
  · have hm : p.1 ∈ ks ++ xs1 := by
      have := hL1.names
      simp only [List.map_cons, List.cons_append, List.cons.injEq, true_and] at this
      rw [← this]; exact List.mem_map.2 ⟨p, hp, rfl⟩
    have hne : sg (n :: ks) (n + 1048576) p.1 ≠ n := fun e => by
      have hnd := hL1.nd
      rw [List.cons_append] at hnd
      have hnm := (List.nodup_cons.1 hnd).1
      unfold sg at e
      split at e
      · rw [e] at hm; exact hnm hm
      · omega
    simp only [upd_at, hne, if_false]
    exact heapX_at hL hL1 hbk (List.mem_cons_of_mem _ hp)
  · have hne : i ≠ n := by omega
    simp only [upd_at, hne, if_false]
    rw [heapX_out hL hL1 (by rw [List.cons_append]; intro h; rcases List.mem_cons.1 h with h | h; exact hne h; exact hi h) (by omega)]
    simp [upd_at, hne]
end
end Go.Psl
namespace Go.Proofs.Try
open Go.Psl
open Go.Geo (cross cyc InR box)
set_option maxRecDepth 20000 in
theorem fn135 (r : List (Int × Int)) : Ct prog 135 [.d (spansD r)] (.cl 148 [.lp 0 0]) [(0, [.d (spansD r)])] := by
  refine Ct.by gok eok mixed func135 c135 rfl (by simp [ntmps135]) (by simp) (by simp [ResIds]) fun E hE => ?_
  simp [p135]
  refine RetOk.by (lk [(0, 0)]) ?_
  simp [results135]
set_option maxHeartbeats 4000000 in
set_option maxRecDepth 20000 in
theorem edges_run (r : List (Int × Int)) (hl : r.length ≤ 1000000) (KS : List Nat) (k a m : Nat) (go : Nat → Bool) (L : Nat → List (Nat × List V)) (hk : k ∈ KS) (ha : a ∈ KS) (hN : ∀ i ∈ KS, i < 1000000000) (hm : m ≤ r.length) (hL : ∀ i, i ≤ m → KeepOk KS (L i))
    (hrec : ∀ i, i < m → ∃ fr nt ps pa pb jmp, lk (L i) k = some [.lr fr nt ps pa pb jmp] ∧ ps.length = 2) (hbox : ∀ i, i ≤ m → lk (L i) a = some [.d (spansD r)]) (hgo : ∀ j, j + 1 < m → go j = true) (hend : m = r.length ∨ (0 < m ∧ go (m - 1) = false))
    (hY : ∀ i x y, i < m → (cyc r)[i]? = some (x, y) → Ym prog k [vsp x.1 x.2, vsp y.1 y.2] (lk (L i)) KS (.ret (vb (go i))) (lk (L (i + 1)))) :
    Cm prog 148 [.yl k, .lp a 0] (lk (L 0)) KS (.ret (.tup [])) (lk (L m)) := by
  refine Cm.by gok eok mixed 1000000000 func148 c148 rfl (by simp [ntmps148]) (by simp; exact ⟨hN k hk, hN a ha⟩) (HpIds.at ((hL 0 (by omega)).ids hN)) hN ⟨by simp, (hL m (Nat.le_refl _)).res⟩ fun E hs hE => ?_
  have haN := hN a ha
  have na : ∀ x, 1000000000 ≤ x → ¬ a = x := fun x _ => by omega
  have la : ∀ x, 1000000000 ≤ x → a < x := fun x _ => by omega
  have b0 := hbox 0 (by omega)
  simp [p148, b0]
  refine pw_loop (α := Nat) (fun i => ⟨slots [(0, .yl k), (1, .lp a 0), (5, .d (spansD r)), (6, vi r.length), (7, vi i)], lk (L i), 1000000000⟩) (fun i => i ≤ m ∧ (i = m → m = r.length)) (fun i => m - i) 0 ?_ ?_ ?_
  · omega
  · refine Weak.keep hs (hL 0 (by omega)) (fun i _ => by simp) hN _ ?_ ?_
    · simp [rid_in hk, rid_in ha]
    · simp [hN k hk, hN a ha]
  · rintro i ⟨hi, him⟩
    simp [p148l0]
    refine cR_split (fun h => ?_) (fun h => ?_)
    · simp at h
      have him2 : i < m := by omega
      have bi := hbox i hi
      obtain ⟨x, hx⟩ : ∃ x, r[i]? = some x := ⟨_, List.getElem?_eq_getElem h⟩
      obtain ⟨n, hn⟩ : ∃ n, r.length = n := ⟨_, rfl⟩
      rw [hn] at h hl hm him hend
      obtain ⟨j, hj⟩ : ∃ j, j = (i + 1) % n := ⟨_, rfl⟩
      have hjn : j < n := by rw [hj]; exact Nat.mod_lt _ (by omega)
      obtain ⟨y, hy⟩ : ∃ y, r[j]? = some y := ⟨r[j], by simp [show j < r.length by omega]⟩
      have hcy := Go.Geo.cyc_at hx (by rw [hn]; exact hj) hy
      have hY' := hY i x y him2 hcy
      obtain ⟨fr, nt, ps, pa, pb, jmp, hr1, hr2⟩ := hrec i him2
      obtain ⟨i1, hi1⟩ : ∃ i1, i1 = i + 1 := ⟨_, rfl⟩
      have hz : IntKind.wrap .i64 ((i : Int) + 1) = (i1 : Int) := by rw [wrap64 (by omega) (by omega)]; omega
      rw [← hi1] at hj hY'
      have q1 : (0 : Int) ≤ (i1 : Int).tmod (n : Int) := Int.natCast_nonneg (i1 % n)
      have q2 : ((i1 : Int).tmod (n : Int)).toNat = j := by rw [hj]; rfl
      have hnz : ¬ (n : Int) = 0 := by omega
      have hnz' : ¬ n = 0 := by omega
      simp [hx, hz, hn, inC, Nat.testBit, splice, bi, na, la, hnz', q1, q2, hy]
      have hne : ∀ q ∈ KS, ¬ q = 1004194304 := fun q hq e => by have := hN q hq; omega
      refine AYield.keep [vsp x.1 x.2, vsp y.1 y.2] (L i) (L i1) KS _ hY' (hL i hi) (hL i1 (by omega)) ⟨fr, nt, ps, pa, pb, jmp, hr1, hr2⟩ (fun q hq => by simp [hne q hq]) (by simp) ?_
      cases hgi : go i
      · have e : i1 = m := by
          by_cases hlt : i + 1 < m
          · rw [hgo i hlt] at hgi; cases hgi
          · omega
        simp
        refine RetM.keep rfl (hL m (Nat.le_refl _)) fun q hq => by simp [hq, e]
      · simp [hz]
        refine ⟨i1, ⟨by omega, fun e => ?_⟩, by omega, ?_⟩
        · rcases hend with h1 | ⟨_, h1⟩
          · exact h1
          · rw [show m - 1 = i by omega, hgi] at h1; cases h1
        · refine Weak.keep hs (hL i1 (by omega)) (fun q hq => by simp [hq]) hN _ ?_ ?_
          · simp [rid_in hk, rid_in ha]
          · simp [hN k hk, hN a ha]
    · simp at h
      have e : i = m := by omega
      subst e
      simp
      exact RetM.keep rfl (hL i (Nat.le_refl _)) fun i _ => by simp
end Go.Proofs.Try
namespace Go.Proofs.Try
open Go.Psl
open Go.Geo (cross cyc InR box)
set_option maxHeartbeats 4000000 in
set_option maxRecDepth 20000 in
theorem edges_runX (r : List (Int × Int)) (hl : r.length ≤ 1000000) (KS : List Nat) (XS : Nat → List Nat) (k a m : Nat) (go : Nat → Bool) (L : Nat → List (Nat × List V)) (hk : k ∈ KS) (ha : a ∈ KS) (hN : ∀ i ∈ KS, i < 1000000000) (hX : ∀ i, ∀ x ∈ XS i, x < 1048576) (hm : m ≤ r.length) (hL : ∀ i, i ≤ m → KeepX KS (XS i) (L i))
    (hrec : ∀ i, i < m → ∃ fr nt ps pa pb jmp, lk (L i) k = some [.lr fr nt ps pa pb jmp] ∧ ps.length = 2) (hbox : ∀ i, i ≤ m → lk (L i) a = some [.d (spansD r)]) (hgo : ∀ j, j + 1 < m → go j = true) (hend : m = r.length ∨ (0 < m ∧ go (m - 1) = false))
    (hY : ∀ i x y, i < m → (cyc r)[i]? = some (x, y) → Ym prog k [vsp x.1 x.2, vsp y.1 y.2] (lk (L i)) KS (.ret (vb (go i))) (lk (L (i + 1)))) :
    Cm prog 148 [.yl k, .lp a 0] (lk (L 0)) KS (.ret (.tup [])) (lk (L m)) := by
  have hNX : ∀ i, ∀ x ∈ KS ++ XS i, x < 1000000000 := fun i x hx => by
    rcases List.mem_append.1 hx with h | h
    · exact hN x h
    · have := hX i x h; omega
  refine Cm.by gok eok mixed 1000000000 func148 c148 rfl (by simp [ntmps148]) (by simp; exact ⟨hN k hk, hN a ha⟩) (HpIds.at ((hL 0 (by omega)).ids (hNX 0))) hN ⟨by simp, (hL m (Nat.le_refl _)).res⟩ fun E hs hE => ?_
  have haN := hN a ha
  have na : ∀ x, 1000000000 ≤ x → ¬ a = x := fun x _ => by omega
  have la : ∀ x, 1000000000 ≤ x → a < x := fun x _ => by omega
  have b0 := hbox 0 (by omega)
  have rk : ∀ i b, rx KS (XS i) b k = some k := fun i b => by simp [rx, hk]
  have ra : ∀ i b, rx KS (XS i) b a = some a := fun i b => by simp [rx, ha]
  simp [p148, b0]
  refine pw_loop (α := Nat) (fun i => ⟨slots [(0, .yl k), (1, .lp a 0), (5, .d (spansD r)), (6, vi r.length), (7, vi i)], lk (L i), 1000000000⟩) (fun i => i ≤ m ∧ (i = m → m = r.length)) (fun i => m - i) 0 ?_ ?_ ?_
  · omega
  · refine Weak.sameX hs (hL 0 (by omega)) rfl (hNX 0) _ ?_ ?_
    · simp [rid, hk, ha]
    · simp [hN k hk, hN a ha]
  · rintro i ⟨hi, him⟩
    simp [p148l0]
    refine cR_split (fun h => ?_) (fun h => ?_)
    · simp at h
      have him2 : i < m := by omega
      have bi := hbox i hi
      obtain ⟨x, hx⟩ : ∃ x, r[i]? = some x := ⟨_, List.getElem?_eq_getElem h⟩
      obtain ⟨n, hn⟩ : ∃ n, r.length = n := ⟨_, rfl⟩
      rw [hn] at h hl hm him hend
      obtain ⟨j, hj⟩ : ∃ j, j = (i + 1) % n := ⟨_, rfl⟩
      have hjn : j < n := by rw [hj]; exact Nat.mod_lt _ (by omega)
      obtain ⟨y, hy⟩ : ∃ y, r[j]? = some y := ⟨r[j], by simp [show j < r.length by omega]⟩
      have hcy := Go.Geo.cyc_at hx (by rw [hn]; exact hj) hy
      have hY' := hY i x y him2 hcy
      obtain ⟨fr, nt, ps, pa, pb, jmp, hr1, hr2⟩ := hrec i him2
      obtain ⟨i1, hi1⟩ : ∃ i1, i1 = i + 1 := ⟨_, rfl⟩
      have hz : IntKind.wrap .i64 ((i : Int) + 1) = (i1 : Int) := by rw [wrap64 (by omega) (by omega)]; omega
      rw [← hi1] at hj hY'
      have q1 : (0 : Int) ≤ (i1 : Int).tmod (n : Int) := Int.natCast_nonneg (i1 % n)
      have q2 : ((i1 : Int).tmod (n : Int)).toNat = j := by rw [hj]; rfl
      have hnz : ¬ (n : Int) = 0 := by omega
      have hnz' : ¬ n = 0 := by omega
      simp [hx, hz, hn, inC, Nat.testBit, splice, bi, na, la, hnz', q1, q2, hy]
      have hne : ∀ q ∈ KS ++ XS i, ¬ q = 1004194304 := fun q hq e => by have := hNX i q hq; omega
      have hbb : ∀ q ∈ KS ++ XS i, q < 1017825792 := fun q hq => by have := hNX i q hq; omega
      have hbk : ∀ q ∈ KS, q < 1017825792 := fun q hq => by have := hN q hq; omega
      refine AYield.keepX [vsp x.1 x.2, vsp y.1 y.2] (L i) (L i1) KS (XS i) (XS i1) _ hY' (hL i hi) (hL i1 (by omega)) (hX i1) ⟨fr, nt, ps, pa, pb, jmp, hr1, hr2⟩ (fun q hq => by simp [hne q hq]) (by simp) ?_
      obtain ⟨F, hF⟩ : ∃ F, F = heapM (upd (upd (lk (L i)) 1004194304 (some [V.d (D.lit (Value.int IntKind.i64 0)), V.d (D.lit (Value.int IntKind.i64 0))])) 1004194304 (some [V.d (di x.fst), V.d (di x.snd)])) 1017825792 (lk (L i)) KS (lk (L i1)) := ⟨_, rfl⟩
      have hFp : ∀ p ∈ L i1, F (sg KS 1017825792 p.1) = some (p.2.map (renC (sg KS 1017825792))) := fun p hp => by rw [hF]; exact heapX_at (hL i hi) (hL i1 (by omega)) hbb hp
      rw [← hF]
      cases hgi : go i
      · have e : i1 = m := by
          by_cases hlt : i + 1 < m
          · rw [hgo i hlt] at hgi; cases hgi
          · omega
        simp
        rw [← e]
        exact RetM.keepX rfl (hL i1 (by omega)) hbk hFp
      · simp [hz]
        refine ⟨i1, ⟨by omega, fun e => ?_⟩, by omega, ?_⟩
        · rcases hend with h1 | ⟨_, h1⟩
          · exact h1
          · rw [show m - 1 = i by omega, hgi] at h1; cases h1
        · refine Weak.keepX hs (hL i1 (by omega)) hbk hFp (hNX i1) _ ?_ ?_
          · simp [rk, ra]
          · simp [hN k hk, hN a ha]
    · simp at h
      have e : i = m := by omega
      subst e
      simp
      exact RetM.sameX rfl (hL i (Nat.le_refl _)) rfl
end Go.Proofs.Try
