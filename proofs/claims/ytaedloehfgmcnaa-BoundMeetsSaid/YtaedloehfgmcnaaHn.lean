/- Contracts: what each function of the program computes, for the arguments that its theorem names; and from there the given statement. Conditions: those that each theorem states. -/
import Derived.Test.YtaedloehfgmcnaaHm
import Derived.Test.YtaedloehfgmcnaaFn
import Derived.Test.YtaedloehfgmcnaaFo
namespace Go.Proofs.Try
open Go.Psl
theorem meetS_comm (a b : Int × Int) : meetS b a = meetS a b := by
  unfold meetS; rw [Bool.and_comm, Int.max_comm, Int.min_comm]
theorem joinS_comm (a b : Int × Int) : joinS b a = joinS a b := by
  unfold joinS; rw [Bool.and_comm, Int.min_comm, Int.max_comm]
set_option maxHeartbeats 4000000 in
set_option maxRecDepth 20000 in
theorem meets_a (hS : SortOk) (p q r s n : Int) (ha : okS (p, q) = true) (hb : okS (r, s) = true) (h1 : p ≤ r) (h2 : s ≤ q) : Ct prog 13 [vsp p q, vsp r s, vi n] (vb true) [] := by
  have c0 := fn58 hS
  have c1 := fn40 (p, q) (r, s)
  have c2 := fn40 (r, s) (p, q)
  have c3 := fn42 (p, q) (r, s)
  have c4 := fn42 (r, s) (p, q)
  have c5 := fn44 (p, q) (r, s)
  have c6 := fn46 (p, q)
  have c7 := fn46 (r, s)
  rw [meetS_comm] at c2
  rw [joinS_comm] at c4
  have ej : joinS (p, q) (r, s) = ((p, q), 0) := by unfold joinS; simp only [ha, hb]; simp; omega
  have eh : holdsS (p, q) (r, s) = (true, 0) := by unfold holdsS; simp only [ha, hb]; simp; omega
  rw [ej] at c3 c4
  rw [eh] at c5
  rw [ha] at c6
  rw [hb] at c7
  have hxa := okS_iff.1 ha
  have hxb := okS_iff.1 hb
  simp only at hxa hxb
  have d1 := fn71 (p, q) n
  have d2 := fn71 (r, s) n
  have d3 := fn71 (r, s) n
  have d4 := fn71 (p, q) n
  have g1 : p ≤ r := h1
  have g2 : p ≤ r := h1
  have g3 : s ≤ q := h2
  have g4 : s ≤ q := h2
  have n1 : decide (p = r) = false ∨ p = r := by by_cases h : p = r; exact Or.inr h; exact Or.inl (by simp [h])
  obtain ⟨x, hx⟩ : ∃ x, inS (p, q) n = x := ⟨_, rfl⟩
  obtain ⟨y, hy⟩ : ∃ y, inS (r, s) n = y := ⟨_, rfl⟩
  have hm : inS (r, s) n = (x && y) := by rw [← hx, ← hy]; unfold inS; simp only; rw [Bool.eq_iff_iff]; simp only [Bool.and_eq_true, decide_eq_true_eq]; omega
  obtain ⟨w, hw⟩ : ∃ w, inS (p, q) n = w := ⟨_, rfl⟩
  have hj : x = true ∨ y = true → w = true := by rw [← hx, ← hy, ← hw]; unfold inS; simp only [Bool.and_eq_true, decide_eq_true_eq]; omega
  have hxy : x = true → y = true → r ≤ s := by rw [← hx, ← hy]; unfold inS; simp only [Bool.and_eq_true, decide_eq_true_eq]; omega
  rw [hx] at d1
  rw [hy] at d2
  rw [hm] at d3
  rw [hw] at d4
  by_cases hmm : r ≤ s
  · have em : meetS (p, q) (r, s) = ((r, s), 0) := by
      unfold meetS
      have e1 : max p r = r := by omega
      have e2 : min q s = s := by omega
      simp only [ha, hb, e1, e2, hmm]; rfl
    rw [em] at c1 c2
    cases x <;> cases y <;> cases w <;> (first | (exact absurd (hxy rfl rfl) hmm) | (exact Bool.noConfusion (hj (Or.inl rfl))) | (exact Bool.noConfusion (hj (Or.inr rfl))) | (rw [hy] at hm; exact Bool.noConfusion hm) | (rw [hx] at hm; exact Bool.noConfusion hm) | (rw [hx] at hw; exact Bool.noConfusion hw) | (rw [hy] at hw; exact Bool.noConfusion hw) | skip) <;> (
      refine Ct.by gok eok mixed func13 c13 rfl (by simp [ntmps13]) (by simp) (by simp [ResIds]) fun E hE => ?_
      simp [p13]
      repeat ((first | (refine ACall.mk _ _ _ (c0) ?_ ?_ ?_ ?_; (focus (simp; done)); (focus (simp; done)); (focus (first | (left; simp; done) | (right; simp; done)))) | (refine ACall.mk _ _ _ (c1) ?_ ?_ ?_ ?_; (focus (simp; done)); (focus (simp; done)); (focus (first | (left; simp; done) | (right; simp; done)))) | (refine ACall.mk _ _ _ (c2) ?_ ?_ ?_ ?_; (focus (simp; done)); (focus (simp; done)); (focus (first | (left; simp; done) | (right; simp; done)))) | (refine ACall.mk _ _ _ (c3) ?_ ?_ ?_ ?_; (focus (simp; done)); (focus (simp; done)); (focus (first | (left; simp; done) | (right; simp; done)))) | (refine ACall.mk _ _ _ (c4) ?_ ?_ ?_ ?_; (focus (simp; done)); (focus (simp; done)); (focus (first | (left; simp; done) | (right; simp; done)))) | (refine ACall.mk _ _ _ (c5) ?_ ?_ ?_ ?_; (focus (simp; done)); (focus (simp; done)); (focus (first | (left; simp; done) | (right; simp; done)))) | (refine ACall.mk _ _ _ (c6) ?_ ?_ ?_ ?_; (focus (simp; done)); (focus (simp; done)); (focus (first | (left; simp; done) | (right; simp; done)))) | (refine ACall.mk _ _ _ (c7) ?_ ?_ ?_ ?_; (focus (simp; done)); (focus (simp; done)); (focus (first | (left; simp; done) | (right; simp; done)))) | (refine ACall.mk _ _ _ (d1) ?_ ?_ ?_ ?_; (focus (simp; done)); (focus (simp; done)); (focus (first | (left; simp; done) | (right; simp; done)))) | (refine ACall.mk _ _ _ (d2) ?_ ?_ ?_ ?_; (focus (simp; done)); (focus (simp; done)); (focus (first | (left; simp; done) | (right; simp; done)))) | (refine ACall.mk _ _ _ (d3) ?_ ?_ ?_ ?_; (focus (simp; done)); (focus (simp; done)); (focus (first | (left; simp; done) | (right; simp; done)))) | (refine ACall.mk _ _ _ (d4) ?_ ?_ ?_ ?_; (focus (simp; done)); (focus (simp; done)); (focus (first | (left; simp; done) | (right; simp; done))))); simp [splice, g1, g2, g3, g4])
      refine RetOk.by (fun _ => none) ?_
      simp [results13])
  · exfalso; omega
set_option maxHeartbeats 4000000 in
set_option maxRecDepth 20000 in
theorem meets_b (hS : SortOk) (p q r s n : Int) (ha : okS (p, q) = true) (hb : okS (r, s) = true) (h1 : p ≤ r) (h2 : q < s) : Ct prog 13 [vsp p q, vsp r s, vi n] (vb true) [] := by
  have c0 := fn58 hS
  have c1 := fn40 (p, q) (r, s)
  have c2 := fn40 (r, s) (p, q)
  have c3 := fn42 (p, q) (r, s)
  have c4 := fn42 (r, s) (p, q)
  have c5 := fn44 (p, q) (r, s)
  have c6 := fn46 (p, q)
  have c7 := fn46 (r, s)
  rw [meetS_comm] at c2
  rw [joinS_comm] at c4
  have ej : joinS (p, q) (r, s) = ((p, s), 0) := by unfold joinS; simp only [ha, hb]; simp; omega
  have eh : holdsS (p, q) (r, s) = (false, 0) := by unfold holdsS; simp only [ha, hb]; simp; omega
  rw [ej] at c3 c4
  rw [eh] at c5
  rw [ha] at c6
  rw [hb] at c7
  have hxa := okS_iff.1 ha
  have hxb := okS_iff.1 hb
  simp only at hxa hxb
  have d1 := fn71 (p, q) n
  have d2 := fn71 (r, s) n
  have d3 := fn71 (r, q) n
  have d4 := fn71 (p, s) n
  have g1 : p ≤ r := h1
  have g2 : p ≤ r := h1
  have g3 : ¬ s = q := by omega
  have g4 : ¬ q = s := by omega
  have n1 : decide (p = r) = false ∨ p = r := by by_cases h : p = r; exact Or.inr h; exact Or.inl (by simp [h])
  obtain ⟨x, hx⟩ : ∃ x, inS (p, q) n = x := ⟨_, rfl⟩
  obtain ⟨y, hy⟩ : ∃ y, inS (r, s) n = y := ⟨_, rfl⟩
  have hm : inS (r, q) n = (x && y) := by rw [← hx, ← hy]; unfold inS; simp only; rw [Bool.eq_iff_iff]; simp only [Bool.and_eq_true, decide_eq_true_eq]; omega
  obtain ⟨w, hw⟩ : ∃ w, inS (p, s) n = w := ⟨_, rfl⟩
  have hj : x = true ∨ y = true → w = true := by rw [← hx, ← hy, ← hw]; unfold inS; simp only [Bool.and_eq_true, decide_eq_true_eq]; omega
  have hxy : x = true → y = true → r ≤ q := by rw [← hx, ← hy]; unfold inS; simp only [Bool.and_eq_true, decide_eq_true_eq]; omega
  rw [hx] at d1
  rw [hy] at d2
  rw [hm] at d3
  rw [hw] at d4
  by_cases hmm : r ≤ q
  · have em : meetS (p, q) (r, s) = ((r, q), 0) := by
      unfold meetS
      have e1 : max p r = r := by omega
      have e2 : min q s = q := by omega
      simp only [ha, hb, e1, e2, hmm]; rfl
    rw [em] at c1 c2
    cases x <;> cases y <;> cases w <;> (first | (exact absurd (hxy rfl rfl) hmm) | (exact Bool.noConfusion (hj (Or.inl rfl))) | (exact Bool.noConfusion (hj (Or.inr rfl))) | (rw [hy] at hm; exact Bool.noConfusion hm) | (rw [hx] at hm; exact Bool.noConfusion hm) | (rw [hx] at hw; exact Bool.noConfusion hw) | (rw [hy] at hw; exact Bool.noConfusion hw) | skip) <;> (
      refine Ct.by gok eok mixed func13 c13 rfl (by simp [ntmps13]) (by simp) (by simp [ResIds]) fun E hE => ?_
      simp [p13]
      repeat ((first | (refine ACall.mk _ _ _ (c0) ?_ ?_ ?_ ?_; (focus (simp; done)); (focus (simp; done)); (focus (first | (left; simp; done) | (right; simp; done)))) | (refine ACall.mk _ _ _ (c1) ?_ ?_ ?_ ?_; (focus (simp; done)); (focus (simp; done)); (focus (first | (left; simp; done) | (right; simp; done)))) | (refine ACall.mk _ _ _ (c2) ?_ ?_ ?_ ?_; (focus (simp; done)); (focus (simp; done)); (focus (first | (left; simp; done) | (right; simp; done)))) | (refine ACall.mk _ _ _ (c3) ?_ ?_ ?_ ?_; (focus (simp; done)); (focus (simp; done)); (focus (first | (left; simp; done) | (right; simp; done)))) | (refine ACall.mk _ _ _ (c4) ?_ ?_ ?_ ?_; (focus (simp; done)); (focus (simp; done)); (focus (first | (left; simp; done) | (right; simp; done)))) | (refine ACall.mk _ _ _ (c5) ?_ ?_ ?_ ?_; (focus (simp; done)); (focus (simp; done)); (focus (first | (left; simp; done) | (right; simp; done)))) | (refine ACall.mk _ _ _ (c6) ?_ ?_ ?_ ?_; (focus (simp; done)); (focus (simp; done)); (focus (first | (left; simp; done) | (right; simp; done)))) | (refine ACall.mk _ _ _ (c7) ?_ ?_ ?_ ?_; (focus (simp; done)); (focus (simp; done)); (focus (first | (left; simp; done) | (right; simp; done)))) | (refine ACall.mk _ _ _ (d1) ?_ ?_ ?_ ?_; (focus (simp; done)); (focus (simp; done)); (focus (first | (left; simp; done) | (right; simp; done)))) | (refine ACall.mk _ _ _ (d2) ?_ ?_ ?_ ?_; (focus (simp; done)); (focus (simp; done)); (focus (first | (left; simp; done) | (right; simp; done)))) | (refine ACall.mk _ _ _ (d3) ?_ ?_ ?_ ?_; (focus (simp; done)); (focus (simp; done)); (focus (first | (left; simp; done) | (right; simp; done)))) | (refine ACall.mk _ _ _ (d4) ?_ ?_ ?_ ?_; (focus (simp; done)); (focus (simp; done)); (focus (first | (left; simp; done) | (right; simp; done))))); simp [splice, g1, g2, g3, g4])
      refine RetOk.by (fun _ => none) ?_
      simp [results13])
  · have em : meetS (p, q) (r, s) = ((0, 0), 6) := by
      unfold meetS
      have e1 : max p r = r := by omega
      have e2 : min q s = q := by omega
      simp only [ha, hb, e1, e2, hmm]; rfl
    rw [em] at c1 c2
    cases x <;> cases y <;> cases w <;> (first | (exact absurd (hxy rfl rfl) hmm) | (exact Bool.noConfusion (hj (Or.inl rfl))) | (exact Bool.noConfusion (hj (Or.inr rfl))) | (rw [hy] at hm; exact Bool.noConfusion hm) | (rw [hx] at hm; exact Bool.noConfusion hm) | (rw [hx] at hw; exact Bool.noConfusion hw) | (rw [hy] at hw; exact Bool.noConfusion hw) | skip) <;> (
      refine Ct.by gok eok mixed func13 c13 rfl (by simp [ntmps13]) (by simp) (by simp [ResIds]) fun E hE => ?_
      simp [p13]
      repeat ((first | (refine ACall.mk _ _ _ (c0) ?_ ?_ ?_ ?_; (focus (simp; done)); (focus (simp; done)); (focus (first | (left; simp; done) | (right; simp; done)))) | (refine ACall.mk _ _ _ (c1) ?_ ?_ ?_ ?_; (focus (simp; done)); (focus (simp; done)); (focus (first | (left; simp; done) | (right; simp; done)))) | (refine ACall.mk _ _ _ (c2) ?_ ?_ ?_ ?_; (focus (simp; done)); (focus (simp; done)); (focus (first | (left; simp; done) | (right; simp; done)))) | (refine ACall.mk _ _ _ (c3) ?_ ?_ ?_ ?_; (focus (simp; done)); (focus (simp; done)); (focus (first | (left; simp; done) | (right; simp; done)))) | (refine ACall.mk _ _ _ (c4) ?_ ?_ ?_ ?_; (focus (simp; done)); (focus (simp; done)); (focus (first | (left; simp; done) | (right; simp; done)))) | (refine ACall.mk _ _ _ (c5) ?_ ?_ ?_ ?_; (focus (simp; done)); (focus (simp; done)); (focus (first | (left; simp; done) | (right; simp; done)))) | (refine ACall.mk _ _ _ (c6) ?_ ?_ ?_ ?_; (focus (simp; done)); (focus (simp; done)); (focus (first | (left; simp; done) | (right; simp; done)))) | (refine ACall.mk _ _ _ (c7) ?_ ?_ ?_ ?_; (focus (simp; done)); (focus (simp; done)); (focus (first | (left; simp; done) | (right; simp; done)))) | (refine ACall.mk _ _ _ (d1) ?_ ?_ ?_ ?_; (focus (simp; done)); (focus (simp; done)); (focus (first | (left; simp; done) | (right; simp; done)))) | (refine ACall.mk _ _ _ (d2) ?_ ?_ ?_ ?_; (focus (simp; done)); (focus (simp; done)); (focus (first | (left; simp; done) | (right; simp; done)))) | (refine ACall.mk _ _ _ (d3) ?_ ?_ ?_ ?_; (focus (simp; done)); (focus (simp; done)); (focus (first | (left; simp; done) | (right; simp; done)))) | (refine ACall.mk _ _ _ (d4) ?_ ?_ ?_ ?_; (focus (simp; done)); (focus (simp; done)); (focus (first | (left; simp; done) | (right; simp; done))))); simp [splice, g1, g2, g3, g4])
      refine RetOk.by (fun _ => none) ?_
      simp [results13])
set_option maxHeartbeats 4000000 in
set_option maxRecDepth 20000 in
theorem meets_c (hS : SortOk) (p q r s n : Int) (ha : okS (p, q) = true) (hb : okS (r, s) = true) (h1 : r < p) (h2 : s ≤ q) : Ct prog 13 [vsp p q, vsp r s, vi n] (vb true) [] := by
  have c0 := fn58 hS
  have c1 := fn40 (p, q) (r, s)
  have c2 := fn40 (r, s) (p, q)
  have c3 := fn42 (p, q) (r, s)
  have c4 := fn42 (r, s) (p, q)
  have c5 := fn44 (p, q) (r, s)
  have c6 := fn46 (p, q)
  have c7 := fn46 (r, s)
  rw [meetS_comm] at c2
  rw [joinS_comm] at c4
  have ej : joinS (p, q) (r, s) = ((r, q), 0) := by unfold joinS; simp only [ha, hb]; simp; omega
  have eh : holdsS (p, q) (r, s) = (false, 0) := by unfold holdsS; simp only [ha, hb]; simp; omega
  rw [ej] at c3 c4
  rw [eh] at c5
  rw [ha] at c6
  rw [hb] at c7
  have hxa := okS_iff.1 ha
  have hxb := okS_iff.1 hb
  simp only at hxa hxb
  have d1 := fn71 (p, q) n
  have d2 := fn71 (r, s) n
  have d3 := fn71 (p, s) n
  have d4 := fn71 (r, q) n
  have g1 : ¬ r = p := by omega
  have g2 : ¬ p = r := by omega
  have g3 : s ≤ q := h2
  have g4 : s ≤ q := h2
  have n1 : decide (p = r) = false ∨ p = r := by by_cases h : p = r; exact Or.inr h; exact Or.inl (by simp [h])
  obtain ⟨x, hx⟩ : ∃ x, inS (p, q) n = x := ⟨_, rfl⟩
  obtain ⟨y, hy⟩ : ∃ y, inS (r, s) n = y := ⟨_, rfl⟩
  have hm : inS (p, s) n = (x && y) := by rw [← hx, ← hy]; unfold inS; simp only; rw [Bool.eq_iff_iff]; simp only [Bool.and_eq_true, decide_eq_true_eq]; omega
  obtain ⟨w, hw⟩ : ∃ w, inS (r, q) n = w := ⟨_, rfl⟩
  have hj : x = true ∨ y = true → w = true := by rw [← hx, ← hy, ← hw]; unfold inS; simp only [Bool.and_eq_true, decide_eq_true_eq]; omega
  have hxy : x = true → y = true → p ≤ s := by rw [← hx, ← hy]; unfold inS; simp only [Bool.and_eq_true, decide_eq_true_eq]; omega
  rw [hx] at d1
  rw [hy] at d2
  rw [hm] at d3
  rw [hw] at d4
  by_cases hmm : p ≤ s
  · have em : meetS (p, q) (r, s) = ((p, s), 0) := by
      unfold meetS
      have e1 : max p r = p := by omega
      have e2 : min q s = s := by omega
      simp only [ha, hb, e1, e2, hmm]; rfl
    rw [em] at c1 c2
    cases x <;> cases y <;> cases w <;> (first | (exact absurd (hxy rfl rfl) hmm) | (exact Bool.noConfusion (hj (Or.inl rfl))) | (exact Bool.noConfusion (hj (Or.inr rfl))) | (rw [hy] at hm; exact Bool.noConfusion hm) | (rw [hx] at hm; exact Bool.noConfusion hm) | (rw [hx] at hw; exact Bool.noConfusion hw) | (rw [hy] at hw; exact Bool.noConfusion hw) | skip) <;> (
      refine Ct.by gok eok mixed func13 c13 rfl (by simp [ntmps13]) (by simp) (by simp [ResIds]) fun E hE => ?_
      simp [p13]
      repeat ((first | (refine ACall.mk _ _ _ (c0) ?_ ?_ ?_ ?_; (focus (simp; done)); (focus (simp; done)); (focus (first | (left; simp; done) | (right; simp; done)))) | (refine ACall.mk _ _ _ (c1) ?_ ?_ ?_ ?_; (focus (simp; done)); (focus (simp; done)); (focus (first | (left; simp; done) | (right; simp; done)))) | (refine ACall.mk _ _ _ (c2) ?_ ?_ ?_ ?_; (focus (simp; done)); (focus (simp; done)); (focus (first | (left; simp; done) | (right; simp; done)))) | (refine ACall.mk _ _ _ (c3) ?_ ?_ ?_ ?_; (focus (simp; done)); (focus (simp; done)); (focus (first | (left; simp; done) | (right; simp; done)))) | (refine ACall.mk _ _ _ (c4) ?_ ?_ ?_ ?_; (focus (simp; done)); (focus (simp; done)); (focus (first | (left; simp; done) | (right; simp; done)))) | (refine ACall.mk _ _ _ (c5) ?_ ?_ ?_ ?_; (focus (simp; done)); (focus (simp; done)); (focus (first | (left; simp; done) | (right; simp; done)))) | (refine ACall.mk _ _ _ (c6) ?_ ?_ ?_ ?_; (focus (simp; done)); (focus (simp; done)); (focus (first | (left; simp; done) | (right; simp; done)))) | (refine ACall.mk _ _ _ (c7) ?_ ?_ ?_ ?_; (focus (simp; done)); (focus (simp; done)); (focus (first | (left; simp; done) | (right; simp; done)))) | (refine ACall.mk _ _ _ (d1) ?_ ?_ ?_ ?_; (focus (simp; done)); (focus (simp; done)); (focus (first | (left; simp; done) | (right; simp; done)))) | (refine ACall.mk _ _ _ (d2) ?_ ?_ ?_ ?_; (focus (simp; done)); (focus (simp; done)); (focus (first | (left; simp; done) | (right; simp; done)))) | (refine ACall.mk _ _ _ (d3) ?_ ?_ ?_ ?_; (focus (simp; done)); (focus (simp; done)); (focus (first | (left; simp; done) | (right; simp; done)))) | (refine ACall.mk _ _ _ (d4) ?_ ?_ ?_ ?_; (focus (simp; done)); (focus (simp; done)); (focus (first | (left; simp; done) | (right; simp; done))))); simp [splice, g1, g2, g3, g4])
      refine RetOk.by (fun _ => none) ?_
      simp [results13])
  · have em : meetS (p, q) (r, s) = ((0, 0), 6) := by
      unfold meetS
      have e1 : max p r = p := by omega
      have e2 : min q s = s := by omega
      simp only [ha, hb, e1, e2, hmm]; rfl
    rw [em] at c1 c2
    cases x <;> cases y <;> cases w <;> (first | (exact absurd (hxy rfl rfl) hmm) | (exact Bool.noConfusion (hj (Or.inl rfl))) | (exact Bool.noConfusion (hj (Or.inr rfl))) | (rw [hy] at hm; exact Bool.noConfusion hm) | (rw [hx] at hm; exact Bool.noConfusion hm) | (rw [hx] at hw; exact Bool.noConfusion hw) | (rw [hy] at hw; exact Bool.noConfusion hw) | skip) <;> (
      refine Ct.by gok eok mixed func13 c13 rfl (by simp [ntmps13]) (by simp) (by simp [ResIds]) fun E hE => ?_
      simp [p13]
      repeat ((first | (refine ACall.mk _ _ _ (c0) ?_ ?_ ?_ ?_; (focus (simp; done)); (focus (simp; done)); (focus (first | (left; simp; done) | (right; simp; done)))) | (refine ACall.mk _ _ _ (c1) ?_ ?_ ?_ ?_; (focus (simp; done)); (focus (simp; done)); (focus (first | (left; simp; done) | (right; simp; done)))) | (refine ACall.mk _ _ _ (c2) ?_ ?_ ?_ ?_; (focus (simp; done)); (focus (simp; done)); (focus (first | (left; simp; done) | (right; simp; done)))) | (refine ACall.mk _ _ _ (c3) ?_ ?_ ?_ ?_; (focus (simp; done)); (focus (simp; done)); (focus (first | (left; simp; done) | (right; simp; done)))) | (refine ACall.mk _ _ _ (c4) ?_ ?_ ?_ ?_; (focus (simp; done)); (focus (simp; done)); (focus (first | (left; simp; done) | (right; simp; done)))) | (refine ACall.mk _ _ _ (c5) ?_ ?_ ?_ ?_; (focus (simp; done)); (focus (simp; done)); (focus (first | (left; simp; done) | (right; simp; done)))) | (refine ACall.mk _ _ _ (c6) ?_ ?_ ?_ ?_; (focus (simp; done)); (focus (simp; done)); (focus (first | (left; simp; done) | (right; simp; done)))) | (refine ACall.mk _ _ _ (c7) ?_ ?_ ?_ ?_; (focus (simp; done)); (focus (simp; done)); (focus (first | (left; simp; done) | (right; simp; done)))) | (refine ACall.mk _ _ _ (d1) ?_ ?_ ?_ ?_; (focus (simp; done)); (focus (simp; done)); (focus (first | (left; simp; done) | (right; simp; done)))) | (refine ACall.mk _ _ _ (d2) ?_ ?_ ?_ ?_; (focus (simp; done)); (focus (simp; done)); (focus (first | (left; simp; done) | (right; simp; done)))) | (refine ACall.mk _ _ _ (d3) ?_ ?_ ?_ ?_; (focus (simp; done)); (focus (simp; done)); (focus (first | (left; simp; done) | (right; simp; done)))) | (refine ACall.mk _ _ _ (d4) ?_ ?_ ?_ ?_; (focus (simp; done)); (focus (simp; done)); (focus (first | (left; simp; done) | (right; simp; done))))); simp [splice, g1, g2, g3, g4])
      refine RetOk.by (fun _ => none) ?_
      simp [results13])
set_option maxHeartbeats 4000000 in
set_option maxRecDepth 20000 in
theorem meets_d (hS : SortOk) (p q r s n : Int) (ha : okS (p, q) = true) (hb : okS (r, s) = true) (h1 : r < p) (h2 : q < s) : Ct prog 13 [vsp p q, vsp r s, vi n] (vb true) [] := by
  have c0 := fn58 hS
  have c1 := fn40 (p, q) (r, s)
  have c2 := fn40 (r, s) (p, q)
  have c3 := fn42 (p, q) (r, s)
  have c4 := fn42 (r, s) (p, q)
  have c5 := fn44 (p, q) (r, s)
  have c6 := fn46 (p, q)
  have c7 := fn46 (r, s)
  rw [meetS_comm] at c2
  rw [joinS_comm] at c4
  have ej : joinS (p, q) (r, s) = ((r, s), 0) := by unfold joinS; simp only [ha, hb]; simp; omega
  have eh : holdsS (p, q) (r, s) = (false, 0) := by unfold holdsS; simp only [ha, hb]; simp; omega
  rw [ej] at c3 c4
  rw [eh] at c5
  rw [ha] at c6
  rw [hb] at c7
  have hxa := okS_iff.1 ha
  have hxb := okS_iff.1 hb
  simp only at hxa hxb
  have d1 := fn71 (p, q) n
  have d2 := fn71 (r, s) n
  have d3 := fn71 (p, q) n
  have d4 := fn71 (r, s) n
  have g1 : ¬ r = p := by omega
  have g2 : ¬ p = r := by omega
  have g3 : ¬ s = q := by omega
  have g4 : ¬ q = s := by omega
  have n1 : decide (p = r) = false ∨ p = r := by by_cases h : p = r; exact Or.inr h; exact Or.inl (by simp [h])
  obtain ⟨x, hx⟩ : ∃ x, inS (p, q) n = x := ⟨_, rfl⟩
  obtain ⟨y, hy⟩ : ∃ y, inS (r, s) n = y := ⟨_, rfl⟩
  have hm : inS (p, q) n = (x && y) := by rw [← hx, ← hy]; unfold inS; simp only; rw [Bool.eq_iff_iff]; simp only [Bool.and_eq_true, decide_eq_true_eq]; omega
  obtain ⟨w, hw⟩ : ∃ w, inS (r, s) n = w := ⟨_, rfl⟩
  have hj : x = true ∨ y = true → w = true := by rw [← hx, ← hy, ← hw]; unfold inS; simp only [Bool.and_eq_true, decide_eq_true_eq]; omega
  have hxy : x = true → y = true → p ≤ q := by rw [← hx, ← hy]; unfold inS; simp only [Bool.and_eq_true, decide_eq_true_eq]; omega
  rw [hx] at d1
  rw [hy] at d2
  rw [hm] at d3
  rw [hw] at d4
  by_cases hmm : p ≤ q
  · have em : meetS (p, q) (r, s) = ((p, q), 0) := by
      unfold meetS
      have e1 : max p r = p := by omega
      have e2 : min q s = q := by omega
      simp only [ha, hb, e1, e2, hmm]; rfl
    rw [em] at c1 c2
    cases x <;> cases y <;> cases w <;> (first | (exact absurd (hxy rfl rfl) hmm) | (exact Bool.noConfusion (hj (Or.inl rfl))) | (exact Bool.noConfusion (hj (Or.inr rfl))) | (rw [hy] at hm; exact Bool.noConfusion hm) | (rw [hx] at hm; exact Bool.noConfusion hm) | (rw [hx] at hw; exact Bool.noConfusion hw) | (rw [hy] at hw; exact Bool.noConfusion hw) | skip) <;> (
      refine Ct.by gok eok mixed func13 c13 rfl (by simp [ntmps13]) (by simp) (by simp [ResIds]) fun E hE => ?_
      simp [p13]
      repeat ((first | (refine ACall.mk _ _ _ (c0) ?_ ?_ ?_ ?_; (focus (simp; done)); (focus (simp; done)); (focus (first | (left; simp; done) | (right; simp; done)))) | (refine ACall.mk _ _ _ (c1) ?_ ?_ ?_ ?_; (focus (simp; done)); (focus (simp; done)); (focus (first | (left; simp; done) | (right; simp; done)))) | (refine ACall.mk _ _ _ (c2) ?_ ?_ ?_ ?_; (focus (simp; done)); (focus (simp; done)); (focus (first | (left; simp; done) | (right; simp; done)))) | (refine ACall.mk _ _ _ (c3) ?_ ?_ ?_ ?_; (focus (simp; done)); (focus (simp; done)); (focus (first | (left; simp; done) | (right; simp; done)))) | (refine ACall.mk _ _ _ (c4) ?_ ?_ ?_ ?_; (focus (simp; done)); (focus (simp; done)); (focus (first | (left; simp; done) | (right; simp; done)))) | (refine ACall.mk _ _ _ (c5) ?_ ?_ ?_ ?_; (focus (simp; done)); (focus (simp; done)); (focus (first | (left; simp; done) | (right; simp; done)))) | (refine ACall.mk _ _ _ (c6) ?_ ?_ ?_ ?_; (focus (simp; done)); (focus (simp; done)); (focus (first | (left; simp; done) | (right; simp; done)))) | (refine ACall.mk _ _ _ (c7) ?_ ?_ ?_ ?_; (focus (simp; done)); (focus (simp; done)); (focus (first | (left; simp; done) | (right; simp; done)))) | (refine ACall.mk _ _ _ (d1) ?_ ?_ ?_ ?_; (focus (simp; done)); (focus (simp; done)); (focus (first | (left; simp; done) | (right; simp; done)))) | (refine ACall.mk _ _ _ (d2) ?_ ?_ ?_ ?_; (focus (simp; done)); (focus (simp; done)); (focus (first | (left; simp; done) | (right; simp; done)))) | (refine ACall.mk _ _ _ (d3) ?_ ?_ ?_ ?_; (focus (simp; done)); (focus (simp; done)); (focus (first | (left; simp; done) | (right; simp; done)))) | (refine ACall.mk _ _ _ (d4) ?_ ?_ ?_ ?_; (focus (simp; done)); (focus (simp; done)); (focus (first | (left; simp; done) | (right; simp; done))))); simp [splice, g1, g2, g3, g4])
      refine RetOk.by (fun _ => none) ?_
      simp [results13])
  · exfalso; omega
set_option maxHeartbeats 4000000 in
set_option maxRecDepth 20000 in
theorem meets_e (hS : SortOk) (a b : Int × Int) (n : Int) (h : okS a = false ∨ okS b = false) : Ct prog 13 [vsp a.1 a.2, vsp b.1 b.2, vi n] (vb true) [] := by
  have c0 := fn58 hS
  have c1 := fn40 a b
  have c2 := fn40 b a
  have c3 := fn42 a b
  have c4 := fn42 b a
  have c5 := fn44 a b
  have c6 := fn46 a
  have c7 := fn46 b
  have hab : (okS a && okS b) = false := by rcases h with h | h <;> simp [h]
  have hba : (okS b && okS a) = false := by rcases h with h | h <;> simp [h]
  rw [show meetS a b = ((0, 0), 10) by unfold meetS; simp [hab]] at c1
  rw [show meetS b a = ((0, 0), 10) by unfold meetS; simp [hba]] at c2
  rw [show joinS a b = ((0, 0), 10) by unfold joinS; simp [hab]] at c3
  rw [show joinS b a = ((0, 0), 10) by unfold joinS; simp [hba]] at c4
  rw [show holdsS a b = (false, 10) by unfold holdsS; simp [hab]] at c5
  by_cases ha : okS a = true
  · have hb : okS b = false := by rcases h with h | h; rw [ha] at h; cases h; exact h
    rw [ha] at c6
    rw [hb] at c7
    refine Ct.by gok eok mixed func13 c13 rfl (by simp [ntmps13]) (by simp) (by simp [ResIds]) fun E hE => ?_
    simp [p13]
    repeat ((first | (refine ACall.mk _ _ _ (c0) ?_ ?_ ?_ ?_; (focus (simp; done)); (focus (simp; done)); (focus (first | (left; simp; done) | (right; simp; done)))) | (refine ACall.mk _ _ _ (c1) ?_ ?_ ?_ ?_; (focus (simp; done)); (focus (simp; done)); (focus (first | (left; simp; done) | (right; simp; done)))) | (refine ACall.mk _ _ _ (c2) ?_ ?_ ?_ ?_; (focus (simp; done)); (focus (simp; done)); (focus (first | (left; simp; done) | (right; simp; done)))) | (refine ACall.mk _ _ _ (c3) ?_ ?_ ?_ ?_; (focus (simp; done)); (focus (simp; done)); (focus (first | (left; simp; done) | (right; simp; done)))) | (refine ACall.mk _ _ _ (c4) ?_ ?_ ?_ ?_; (focus (simp; done)); (focus (simp; done)); (focus (first | (left; simp; done) | (right; simp; done)))) | (refine ACall.mk _ _ _ (c5) ?_ ?_ ?_ ?_; (focus (simp; done)); (focus (simp; done)); (focus (first | (left; simp; done) | (right; simp; done)))) | (refine ACall.mk _ _ _ (c6) ?_ ?_ ?_ ?_; (focus (simp; done)); (focus (simp; done)); (focus (first | (left; simp; done) | (right; simp; done)))) | (refine ACall.mk _ _ _ (c7) ?_ ?_ ?_ ?_; (focus (simp; done)); (focus (simp; done)); (focus (first | (left; simp; done) | (right; simp; done))))); simp [splice])
    refine RetOk.by (fun _ => none) ?_
    simp [results13]
  · have ha : okS a = false := by simpa using ha
    rw [ha] at c6
    refine Ct.by gok eok mixed func13 c13 rfl (by simp [ntmps13]) (by simp) (by simp [ResIds]) fun E hE => ?_
    simp [p13]
    repeat ((first | (refine ACall.mk _ _ _ (c0) ?_ ?_ ?_ ?_; (focus (simp; done)); (focus (simp; done)); (focus (first | (left; simp; done) | (right; simp; done)))) | (refine ACall.mk _ _ _ (c1) ?_ ?_ ?_ ?_; (focus (simp; done)); (focus (simp; done)); (focus (first | (left; simp; done) | (right; simp; done)))) | (refine ACall.mk _ _ _ (c2) ?_ ?_ ?_ ?_; (focus (simp; done)); (focus (simp; done)); (focus (first | (left; simp; done) | (right; simp; done)))) | (refine ACall.mk _ _ _ (c3) ?_ ?_ ?_ ?_; (focus (simp; done)); (focus (simp; done)); (focus (first | (left; simp; done) | (right; simp; done)))) | (refine ACall.mk _ _ _ (c4) ?_ ?_ ?_ ?_; (focus (simp; done)); (focus (simp; done)); (focus (first | (left; simp; done) | (right; simp; done)))) | (refine ACall.mk _ _ _ (c5) ?_ ?_ ?_ ?_; (focus (simp; done)); (focus (simp; done)); (focus (first | (left; simp; done) | (right; simp; done)))) | (refine ACall.mk _ _ _ (c6) ?_ ?_ ?_ ?_; (focus (simp; done)); (focus (simp; done)); (focus (first | (left; simp; done) | (right; simp; done)))) | (refine ACall.mk _ _ _ (c7) ?_ ?_ ?_ ?_; (focus (simp; done)); (focus (simp; done)); (focus (first | (left; simp; done) | (right; simp; done))))); simp [splice])
    refine RetOk.by (fun _ => none) ?_
    simp [results13]
theorem fn13 (hS : SortOk) (a b : Int × Int) (n : Int) : Ct prog 13 [vsp a.1 a.2, vsp b.1 b.2, vi n] (vb true) [] := by
  obtain ⟨p, q⟩ := a
  obtain ⟨r, s⟩ := b
  by_cases ha : okS (p, q) = true
  · by_cases hb : okS (r, s) = true
    · by_cases h1 : p ≤ r <;> by_cases h2 : s ≤ q
      · exact meets_a hS p q r s n ha hb h1 h2
      · exact meets_b hS p q r s n ha hb h1 (by omega)
      · exact meets_c hS p q r s n ha hb (by omega) h2
      · exact meets_d hS p q r s n ha hb (by omega) (by omega)
    · exact meets_e hS (p, q) (r, s) n (Or.inr (by simpa using hb))
  · exact meets_e hS (p, q) (r, s) n (Or.inl (by simpa using ha))
end Go.Proofs.Try
