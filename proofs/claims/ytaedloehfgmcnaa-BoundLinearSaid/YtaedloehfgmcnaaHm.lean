/- Contracts: what each function of the program computes, for the arguments that its theorem names; and from there the given statement. Conditions: those that each theorem states. -/
import Derived.Test.YtaedloehfgmcnaaHa
import Derived.Test.YtaedloehfgmcnaaCa
import Derived.Test.YtaedloehfgmcnaaFn
namespace Go.Proofs.Try
open Go.Psl
/-- a number of a span, by a number -/
def someS (s : Int × Int) (n : Int) : Int := s.1 + (n.tmod (s.2 - s.1 + 1) + (s.2 - s.1 + 1)).tmod (s.2 - s.1 + 1)
theorem tmod_bd {n w : Int} (hw : 0 < w) : -w < n.tmod w ∧ n.tmod w < w := by
  have h1 := Int.tmod_lt_of_pos n hw
  have h2 : -w < n.tmod w := by
    have := Int.lt_tmod_of_pos n hw
    omega
  exact ⟨h2, h1⟩
theorem someS_in {s : Int × Int} (h : s.1 ≤ s.2) (n : Int) : s.1 ≤ someS s n ∧ someS s n ≤ s.2 := by
  unfold someS
  have hw : 0 < s.2 - s.1 + 1 := by omega
  have b := tmod_bd (n := n) hw
  have c := Int.tmod_nonneg (s.2 - s.1 + 1) (show 0 ≤ n.tmod (s.2 - s.1 + 1) + (s.2 - s.1 + 1) by omega)
  have d := (tmod_bd (n := n.tmod (s.2 - s.1 + 1) + (s.2 - s.1 + 1)) hw).2
  omega
theorem fn59 (s : Int × Int) (n : Int) (h : -1152921504606846976 ≤ s.1 ∧ s.1 ≤ s.2 ∧ s.2 ≤ 1152921504606846976) : Ct prog 59 [vsp s.1 s.2, vi n] (vi (someS s n)) [] := by
  refine Ct.by gok eok mixed func59 c59 rfl (by simp [ntmps59]) (by simp) (by simp [ResIds]) fun E hE => ?_
  have hs := someS_in h.2.1 n
  obtain ⟨w, hw⟩ : ∃ w, s.2 - s.1 + 1 = w := ⟨_, rfl⟩
  have hwp : 0 < w := by omega
  have b := tmod_bd (n := n) hwp
  have c := Int.tmod_nonneg w (show 0 ≤ n.tmod w + w by omega)
  have d := (tmod_bd (n := n.tmod w + w) hwp).2
  have w1 : IntKind.wrap .i64 (s.2 - s.1) = s.2 - s.1 := wrap64 (by omega) (by omega)
  have w2 : IntKind.wrap .i64 w = w := wrap64 (by omega) (by omega)
  have w3 : IntKind.wrap .i64 (n.tmod w + w) = n.tmod w + w := wrap64 (by omega) (by omega)
  have w4 : IntKind.wrap .i64 (s.1 + (n.tmod w + w).tmod w) = s.1 + (n.tmod w + w).tmod w := wrap64 (by omega) (by omega)
  have wn : ¬ w = 0 := by omega
  simp [p59, w1, hw, w2, w3, w4, wn, inC, Nat.testBit]
  refine RetOk.by (fun _ => none) ?_
  simp [results59, someS, hw]
def inS (s : Int × Int) (n : Int) : Bool := decide (s.1 ≤ n) && decide (n ≤ s.2)
theorem fn71 (s : Int × Int) (n : Int) : Ct prog 71 [vsp s.1 s.2, vi n] (vb (inS s n)) [] := by
  refine Ct.by gok eok mixed func71 c71 rfl (by simp [ntmps71]) (by simp) (by simp [ResIds]) fun E hE => ?_
  by_cases h1 : s.1 ≤ n
  · by_cases h2 : n ≤ s.2
    · simp [p71, h1, h2]
      refine RetOk.by (fun _ => none) ?_
      simp [results71, inS, h1, h2]
    · simp [p71, h1, h2]
      refine RetOk.by (fun _ => none) ?_
      simp [results71, inS, h1, h2]
  · simp [p71, h1]
    refine RetOk.by (fun _ => none) ?_
    simp [results71, inS, h1]
theorem fn14 (hS : SortOk) (a : Int × Int) : Ct prog 14 [vsp a.1 a.2] (vb true) [] := by
  have c1 := fn58 hS
  have c2 := fn32 a
  have c3 := fn46 a
  refine Ct.by gok eok mixed func14 c14 rfl (by simp [ntmps14]) (by simp) (by simp [ResIds]) fun E hE => ?_
  simp [p14]
  refine ACall.mk _ _ _ (c1) (by first | (simp; done) | simp [Bor_ls, Bor1_ls]) (by simp) (by first | (left; simp; done) | (right; simp; done)) ?_
  simp
  by_cases h : okS a = true
  · have hh := okS_iff.1 h
    by_cases h1 : a.1 < 0
    · have e : rootS a = ((0, 0), 2) := by unfold rootS; rw [if_pos h, if_pos h1]
      rw [e] at c2
      simp [h] at c3
      refine ACall.mk _ _ _ (c2) (by first | (simp; done) | simp [Bor_ls, Bor1_ls]) (by simp) (by first | (left; simp; done) | (right; simp; done)) ?_
      simp [splice]
      refine ACall.mk _ _ _ (c3) (by first | (simp; done) | simp [Bor_ls, Bor1_ls]) (by simp) (by first | (left; simp; done) | (right; simp; done)) ?_
      simp [h1]
      refine RetOk.by (fun _ => none) ?_
      simp [results14]
    · obtain ⟨q, hq⟩ : ∃ q, q = (if sqrtS a.2 * sqrtS a.2 = a.2 then sqrtS a.2 else sqrtS a.2 + 1) := ⟨_, rfl⟩
      obtain ⟨r, hr⟩ : ∃ r, r = sqrtS a.1 := ⟨_, rfl⟩
      have e : rootS a = ((r, q), 0) := by unfold rootS; rw [if_pos h, if_neg h1, hq, hr]
      rw [e] at c2
      have q1 := sqrtS_is a.1 (by omega)
      have q2 := sqrtS_is a.2 (by omega)
      have l1 := isSqrt_le q1 (by omega)
      have l2 := isSqrt_le q2 (by omega)
      rw [← hr] at q1 l1
      obtain ⟨q10, q11, q12⟩ := q1
      obtain ⟨q20, q21, q22⟩ := q2
      have f0 : 0 ≤ q ∧ q ≤ 1048577 ∧ a.2 ≤ q * q ∧ q * q ≤ 1100000000000 ∧ (q = 0 ∨ ((q - 1) * (q - 1) < a.2 ∧ 0 ≤ (q - 1) * (q - 1))) := by
        rw [hq]
        split
        · rename_i e2
          refine ⟨q20, by omega, by omega, by omega, ?_⟩
          by_cases hz : sqrtS a.2 = 0
          · exact Or.inl hz
          · right
            have e3 : (sqrtS a.2 - 1) * (sqrtS a.2 - 1) = sqrtS a.2 * sqrtS a.2 - 2 * sqrtS a.2 + 1 := by grind
            have e4 := Int.mul_nonneg (show 0 ≤ sqrtS a.2 - 1 by omega) (show 0 ≤ sqrtS a.2 - 1 by omega)
            omega
        · rename_i e2
          have e3 : (sqrtS a.2 + 1) * (sqrtS a.2 + 1) = sqrtS a.2 * sqrtS a.2 + 2 * sqrtS a.2 + 1 := by grind
          have e4 : (sqrtS a.2 + 1 - 1) * (sqrtS a.2 + 1 - 1) = sqrtS a.2 * sqrtS a.2 := by grind
          have e5 := Int.mul_nonneg q20 q20
          refine ⟨by omega, by omega, by omega, by omega, Or.inr (by omega)⟩
      obtain ⟨f1, f2, f3, f4, f5⟩ := f0
      have e6 : (r + 1) * (r + 1) = r * r + 2 * r + 1 := by grind
      have e7 := Int.mul_nonneg q10 q10
      have w1 : IntKind.wrap .i64 (r * r) = r * r := wrap64 (by omega) (by omega)
      have w2 : IntKind.wrap .i64 (r + 1) = r + 1 := wrap64 (by omega) (by omega)
      have w3 : IntKind.wrap .i64 ((r + 1) * (r + 1)) = (r + 1) * (r + 1) := wrap64 (by omega) (by omega)
      have w4 : IntKind.wrap .i64 (q * q) = q * q := wrap64 (by omega) (by omega)
      have w5 : IntKind.wrap .i64 (q - 1) = q - 1 := wrap64 (by omega) (by omega)
      have g1 : a.1 < (r + 1) * (r + 1) := q12
      refine ACall.mk _ _ _ (c2) (by first | (simp; done) | simp [Bor_ls, Bor1_ls]) (by simp) (by first | (left; simp; done) | (right; simp; done)) ?_
      simp [splice]
      have wz : IntKind.wrap .i64 0 = 0 := by decide
      by_cases hz : q = 0
      · have g2 : a.2 ≤ 0 := by rw [hz] at f3; simpa using f3
        simp [q10, q11, w1, w2, w3, wz, hz, g1, g2]
        refine RetOk.by (fun _ => none) ?_
        simp [results14]
      · obtain ⟨f5, f6⟩ := f5.resolve_left hz
        have w6 : IntKind.wrap .i64 ((q - 1) * (q - 1)) = (q - 1) * (q - 1) := wrap64 (by omega) (by omega)
        simp [q10, q11, w1, w2, w3, w4, w5, w6, f1, f3, f5, hz, g1]
        refine RetOk.by (fun _ => none) ?_
        simp [results14]
  · have e : rootS a = ((0, 0), 10) := by unfold rootS; rw [if_neg h]
    rw [e] at c2
    simp [h] at c3
    refine ACall.mk _ _ _ (c2) (by first | (simp; done) | simp [Bor_ls, Bor1_ls]) (by simp) (by first | (left; simp; done) | (right; simp; done)) ?_
    simp [splice]
    refine ACall.mk _ _ _ (c3) (by first | (simp; done) | simp [Bor_ls, Bor1_ls]) (by simp) (by first | (left; simp; done) | (right; simp; done)) ?_
    simp
    refine RetOk.by (fun _ => none) ?_
    simp [results14]
end Go.Proofs.Try
