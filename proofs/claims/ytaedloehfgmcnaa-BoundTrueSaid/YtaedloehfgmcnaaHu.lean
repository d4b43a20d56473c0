/- Contracts: what each function of the program computes, for the arguments that its theorem names; and from there the given statement. Conditions: those that each theorem states. -/
import Derived.Test.YtaedloehfgmcnaaSh
import Derived.Test.YtaedloehfgmcnaaFn
import Derived.Test.YtaedloehfgmcnaaFo
namespace Go.Proofs.Try
open Go.Psl
theorem one_ok : okS ((1 : Int), (1 : Int)) = true := by decide
theorem mul_err {a b : Int × Int} (fa : fitP a) (fb : fitP b) (h : (mulS a b).2 ≠ 0) : (mulS a b).2 = 11 ∧ 1099511627776 < max (max (max (max (max (max (max (a.1 * b.1) (a.1 * b.2)) (a.2 * b.1)) (a.2 * b.2)) (-a.1 * b.1)) (-a.1 * b.2)) (-a.2 * b.1)) (-a.2 * b.2) := by
  unfold mulS at h ⊢
  have hov : overS a b (1, 1) = sizedS (allS a b (1, 1)) := overS_eq fa.1 fb.1 one_ok (by simp)
  rw [hov] at h ⊢
  unfold sizedS at h ⊢
  split at h
  · rename_i h3
    rw [if_pos h3]
    refine ⟨rfl, ?_⟩
    obtain ⟨x, y, z, hx, hy, hz, hl⟩ := large_of (c := (1, 1)) (by simp) (by simp) h3
    have hz1 : z = 1 := by rcases hz with rfl | rfl <;> rfl
    subst hz1
    have key : 1099511627776 < x * y ∨ 1099511627776 < -x * y := by rw [Int.neg_mul]; omega
    rcases hx with rfl | rfl <;> rcases hy with rfl | rfl <;> omega
  · exact absurd rfl h
theorem mul_ok {a b : Int × Int} (h : (mulS a b).2 = 0) : ∃ m : Int × Int, mulS a b = (m, 0) ∧ (∃ x y, endOf a x ∧ endOf b y ∧ x * y = m.1) ∧ (∃ x y, endOf a x ∧ endOf b y ∧ x * y = m.2) ∧ ∀ x y, a.1 ≤ x ∧ x ≤ a.2 → b.1 ≤ y ∧ y ≤ b.2 → m.1 ≤ x * y ∧ x * y ≤ m.2 := by
  unfold mulS at h ⊢
  obtain ⟨ha, hb, hc, h1, ho, hlo, hhi⟩ := over_ok h
  have ia := (okS_iff.1 ha).1
  have ib := (okS_iff.1 hb).1
  have hord := all_order ia ib h1 (c := (1, 1)) (by simp)
  have inn : ∀ x y, a.1 ≤ x ∧ x ≤ a.2 → b.1 ≤ y ∧ y ≤ b.2 → (allS a b (1, 1)).1 ≤ x * y ∧ x * y ≤ (allS a b (1, 1)).2 := fun x y hx hy => by
    have l := in_low hx hy (c := (1, 1)) (z := 1) (by simp) (by simp) hlo
    have u := in_high hx hy (c := (1, 1)) (z := 1) (by simp) (by simp) hhi
    omega
  refine ⟨_, ho, ?_, ?_, inn⟩
  · obtain ⟨x, y, z, hx, hy, hz, hl⟩ := low_of (a := a) (b := b) (c := (1, 1)) (by simp) (by simp) (by omega)
    have hz1 : z = 1 := by rcases hz with rfl | rfl <;> rfl
    subst hz1
    have := (inn x y (end_in hx ia) (end_in hy ib)).1
    exact ⟨x, y, hx, hy, by omega⟩
  · obtain ⟨x, y, z, hx, hy, hz, hl⟩ := high_of (a := a) (b := b) (c := (1, 1)) (by simp) (by simp) (by omega)
    have hz1 : z = 1 := by rcases hz with rfl | rfl <;> rfl
    subst hz1
    have := (inn x y (end_in hx ia) (end_in hy ib)).2
    exact ⟨x, y, hx, hy, by omega⟩
def pkN (a b : Int × Int) : Nat → Int
  | 0 => a.1 * b.1
  | 1 => a.1 * b.2
  | 2 => a.2 * b.1
  | _ => a.2 * b.2
def pkB (a b : Int × Int) (r : Int) (k : Nat) : Bool := decide (pkN a b k = r)
theorem pk_at {a b : Int × Int} {r : Int} (h : ∃ x y, endOf a x ∧ endOf b y ∧ x * y = r) : anyN (pkB a b r) 4 = true := by
  obtain ⟨x, y, hx, hy, rfl⟩ := h
  rw [anyN_iff]
  rcases hx with rfl | rfl <;> rcases hy with rfl | rfl
  · exact ⟨0, by omega, decide_eq_true rfl⟩
  · exact ⟨1, by omega, decide_eq_true rfl⟩
  · exact ⟨2, by omega, decide_eq_true rfl⟩
  · exact ⟨3, by omega, decide_eq_true rfl⟩
theorem add_cases {a b : Int × Int} (ha : okS a = true) (hb : okS b = true) : addS a b = ((a.1 + b.1, a.2 + b.2), 0) ∨ addS a b = ((0, 0), 11) := by
  unfold addS sizedS; simp [ha, hb]; omega
theorem sub_cases {a b : Int × Int} (ha : okS a = true) (hb : okS b = true) : subS a b = ((a.1 - b.2, a.2 - b.1), 0) ∨ subS a b = ((0, 0), 11) := by
  unfold subS sizedS; simp [ha, hb]; omega
end Go.Proofs.Try
namespace Go.Proofs.Try
open Go.Psl
set_option maxHeartbeats 4000000 in
set_option maxRecDepth 20000 in
theorem true_round (a b m : Int × Int) (x y : Int) {E : Ent} (hE : ∀ i, ¬ E.stab i) (q1 : anyN (pkB a b m.1) 4 = true) (q2 : anyN (pkB a b m.2) 4 = true) {Q : AExit → St → Prop} : ∀ n : Nat, n ≤ 4 → PW prog tys eqs E p12l0 (seqQ (fun st' => ∃ z, z ≤ 4 ∧ 4 - z < 4 - n ∧ Weak prog E st' ⟨slots [(9, vb true), (10, vi x), (11, vi y), (16, .lp 0 0), (18, vb (anyN (pkB a b m.1) z)), (19, vb (anyN (pkB a b m.2) z)), (226, .ls 1 0 4 1), (227, vi 4), (228, vi z)], lk [(0, [vi m.1, vi m.2]), (1, [vi (a.1 * b.1), vi (a.1 * b.2), vi (a.2 * b.1), vi (a.2 * b.2)])], 2⟩) (exC prog E Q 0 (fun _ : Unit => ⟨slots [(9, vb true), (10, vi x), (11, vi y), (16, .lp 0 0), (18, vb true), (19, vb true)], lk [(0, [vi m.1, vi m.2])], 1⟩) (fun _ => True)))
  ⟨slots [(9, vb true), (10, vi x), (11, vi y), (16, .lp 0 0), (18, vb (anyN (pkB a b m.1) n)), (19, vb (anyN (pkB a b m.2) n)), (226, .ls 1 0 4 1), (227, vi 4), (228, vi n)], lk [(0, [vi m.1, vi m.2]), (1, [vi (a.1 * b.1), vi (a.1 * b.2), vi (a.2 * b.1), vi (a.2 * b.2)])], 2⟩ := by
  intro n hn
  have hn4 : n = 0 ∨ n = 1 ∨ n = 2 ∨ n = 3 ∨ n = 4 := by omega
  simp [p12l0]
  rcases hn4 with rfl | rfl | rfl | rfl | rfl
  · obtain ⟨A, hA⟩ : ∃ A, anyN (pkB a b m.1) 0 = A := ⟨_, rfl⟩
    obtain ⟨B, hB⟩ : ∃ B, anyN (pkB a b m.2) 0 = B := ⟨_, rfl⟩
    have e1 : anyN (pkB a b m.1) 1 = (A || decide (a.1 * b.1 = m.1)) := by rw [← hA]; rfl
    have e2 : anyN (pkB a b m.2) 1 = (B || decide (a.1 * b.1 = m.2)) := by rw [← hB]; rfl
    rw [hA, hB]
    cases A <;> cases B <;> (
      simp [inC, Nat.testBit, wrap64]
      refine ⟨1, by omega, by omega, ?_⟩
      rw [e1, e2]
      refine Weak.mk hE (lk [(0, 0), (1, 1)]) _ _ _ ?_ ?_ ?_ ?_ ?_ <;> simp
      skip)
  · obtain ⟨A, hA⟩ : ∃ A, anyN (pkB a b m.1) 1 = A := ⟨_, rfl⟩
    obtain ⟨B, hB⟩ : ∃ B, anyN (pkB a b m.2) 1 = B := ⟨_, rfl⟩
    have e1 : anyN (pkB a b m.1) 2 = (A || decide (a.1 * b.2 = m.1)) := by rw [← hA]; rfl
    have e2 : anyN (pkB a b m.2) 2 = (B || decide (a.1 * b.2 = m.2)) := by rw [← hB]; rfl
    rw [hA, hB]
    cases A <;> cases B <;> (
      simp [inC, Nat.testBit, wrap64]
      refine ⟨2, by omega, by omega, ?_⟩
      rw [e1, e2]
      refine Weak.mk hE (lk [(0, 0), (1, 1)]) _ _ _ ?_ ?_ ?_ ?_ ?_ <;> simp
      skip)
  · obtain ⟨A, hA⟩ : ∃ A, anyN (pkB a b m.1) 2 = A := ⟨_, rfl⟩
    obtain ⟨B, hB⟩ : ∃ B, anyN (pkB a b m.2) 2 = B := ⟨_, rfl⟩
    have e1 : anyN (pkB a b m.1) 3 = (A || decide (a.2 * b.1 = m.1)) := by rw [← hA]; rfl
    have e2 : anyN (pkB a b m.2) 3 = (B || decide (a.2 * b.1 = m.2)) := by rw [← hB]; rfl
    rw [hA, hB]
    cases A <;> cases B <;> (
      simp [inC, Nat.testBit, wrap64]
      refine ⟨3, by omega, by omega, ?_⟩
      rw [e1, e2]
      refine Weak.mk hE (lk [(0, 0), (1, 1)]) _ _ _ ?_ ?_ ?_ ?_ ?_ <;> simp
      skip)
  · obtain ⟨A, hA⟩ : ∃ A, anyN (pkB a b m.1) 3 = A := ⟨_, rfl⟩
    obtain ⟨B, hB⟩ : ∃ B, anyN (pkB a b m.2) 3 = B := ⟨_, rfl⟩
    have e1 : anyN (pkB a b m.1) 4 = (A || decide (a.2 * b.2 = m.1)) := by rw [← hA]; rfl
    have e2 : anyN (pkB a b m.2) 4 = (B || decide (a.2 * b.2 = m.2)) := by rw [← hB]; rfl
    rw [hA, hB]
    cases A <;> cases B <;> (
      simp [inC, Nat.testBit, wrap64]
      refine ⟨4, by omega, by omega, ?_⟩
      rw [e1, e2]
      refine Weak.mk hE (lk [(0, 0), (1, 1)]) _ _ _ ?_ ?_ ?_ ?_ ?_ <;> simp
      skip)
  · simp
    refine Weak.mk hE (lk [(0, 0)]) _ _ _ ?_ ?_ ?_ ?_ ?_ <;> simp [q1, q2]
set_option maxHeartbeats 4000000 in
set_option maxRecDepth 20000 in
theorem fn12 (hS : SortOk) (a b : Int × Int) (i k : Int) : Ct prog 12 [vsp a.1 a.2, vsp b.1 b.2, vi i, vi k] (vb true) [] := by
  have c0 := fn58 hS
  have c1 := fn46 a
  have c2 := fn46 b
  by_cases ha : okS a = true
  · by_cases hb : okS b = true
    · rw [ha] at c1
      rw [hb] at c2
      have ia := okS_iff.1 ha
      have ib := okS_iff.1 hb
      have d1 := fn59 a i (by omega)
      have d2 := fn59 b k (by omega)
      have sa := someS_in ia.1 i
      have sb := someS_in ib.1 k
      generalize someS a i = x at *
      generalize someS b k = y at *
      have u1 : IntKind.wrap .i64 (x + y) = x + y := wrap64 (by omega) (by omega)
      have u2 : IntKind.wrap .i64 (x - y) = x - y := wrap64 (by omega) (by omega)
      have u3 : IntKind.wrap .i64 (a.1 + b.1) = a.1 + b.1 := wrap64 (by omega) (by omega)
      have u4 : IntKind.wrap .i64 (a.2 + b.2) = a.2 + b.2 := wrap64 (by omega) (by omega)
      have u5 : IntKind.wrap .i64 (a.1 - b.2) = a.1 - b.2 := wrap64 (by omega) (by omega)
      have u6 : IntKind.wrap .i64 (a.2 - b.1) = a.2 - b.1 := wrap64 (by omega) (by omega)
      have h1 : inS (a.1 + b.1, a.2 + b.2) (x + y) = true := by unfold inS; simp only [Bool.and_eq_true, decide_eq_true_eq]; omega
      have h2 : inS (a.1 - b.2, a.2 - b.1) (x - y) = true := by unfold inS; simp only [Bool.and_eq_true, decide_eq_true_eq]; omega
      have d3 := fn34 a b
      have d4 := fn36 a b
      have d5 := fn71 (a.1 + b.1, a.2 + b.2) (x + y)
      have d6 := fn71 (a.1 - b.2, a.2 - b.1) (x - y)
      rw [h1] at d5
      rw [h2] at d6
      have d7 := fn69 (a.1 + b.1) (a.2 + b.2)
      have d8 := fn69 (a.1 - b.2) (a.2 - b.1)
      refine Ct.by gok eok mixed func12 c12 rfl (by simp [ntmps12]) (by simp) (by simp [ResIds]) fun E hE => ?_
      simp [p12]
      rcases add_cases ha hb with e1 | e1 <;> rcases sub_cases ha hb with e2 | e2 <;> rw [e1] at d3 <;> rw [e2] at d4
      · repeat ((first | (refine ACall.mk _ _ _ (c0) ?_ ?_ ?_ ?_; (focus (simp; done)); (focus (simp; done)); (focus (first | (left; simp; done) | (right; simp; done)))) | (refine ACall.mk _ _ _ (c1) ?_ ?_ ?_ ?_; (focus (simp; done)); (focus (simp; done)); (focus (first | (left; simp; done) | (right; simp; done)))) | (refine ACall.mk _ _ _ (c2) ?_ ?_ ?_ ?_; (focus (simp; done)); (focus (simp; done)); (focus (first | (left; simp; done) | (right; simp; done)))) | (refine ACall.mk _ _ _ (d1) ?_ ?_ ?_ ?_; (focus (simp; done)); (focus (simp; done)); (focus (first | (left; simp; done) | (right; simp; done)))) | (refine ACall.mk _ _ _ (d2) ?_ ?_ ?_ ?_; (focus (simp; done)); (focus (simp; done)); (focus (first | (left; simp; done) | (right; simp; done)))) | (refine ACall.mk _ _ _ (d3) ?_ ?_ ?_ ?_; (focus (simp; done)); (focus (simp; done)); (focus (first | (left; simp; done) | (right; simp; done)))) | (refine ACall.mk _ _ _ (d4) ?_ ?_ ?_ ?_; (focus (simp; done)); (focus (simp; done)); (focus (first | (left; simp; done) | (right; simp; done)))) | (refine ACall.mk _ _ _ (d5) ?_ ?_ ?_ ?_; (focus (simp; done)); (focus (simp; done)); (focus (first | (left; simp; done) | (right; simp; done)))) | (refine ACall.mk _ _ _ (d6) ?_ ?_ ?_ ?_; (focus (simp; done)); (focus (simp; done)); (focus (first | (left; simp; done) | (right; simp; done)))) | (refine ACall.mk _ _ _ (d7) ?_ ?_ ?_ ?_; (focus (simp; done)); (focus (simp; done)); (focus (first | (left; simp; done) | (right; simp; done)))) | (refine ACall.mk _ _ _ (d8) ?_ ?_ ?_ ?_; (focus (simp; done)); (focus (simp; done)); (focus (first | (left; simp; done) | (right; simp; done))))); simp [splice, inC, Nat.testBit, u1, u2, u3, u4, u5, u6])
        have wa : IntKind.wrap .i64 (-a.1) = -a.1 := wrap64 (by omega) (by omega)
        have wb : IntKind.wrap .i64 (-b.1) = -b.1 := wrap64 (by omega) (by omega)
        have wa2 : IntKind.wrap .i64 (-a.2) = -a.2 := wrap64 (by omega) (by omega)
        by_cases fa : 1073741824 < max a.2 (-a.1)
        · simp [wa, fa]
          refine RetOk.by (fun _ => none) ?_
          simp [results12]
        · by_cases fb : 1073741824 < max b.2 (-b.1)
          · simp [wa, wb, fa, fb]
            refine RetOk.by (fun _ => none) ?_
            simp [results12]
          · have fitA : fitP a := ⟨ha, fa⟩
            have fitB : fitP b := ⟨hb, fb⟩
            have b1 : fit3 1152921504606846976 (a.1 * b.1) := prod_fit (fit_in fitA (by omega)) (fit_in fitB (by omega))
            have b2 : fit3 1152921504606846976 (a.1 * b.2) := prod_fit (fit_in fitA (by omega)) (fit_in fitB (by omega))
            have b3 : fit3 1152921504606846976 (a.2 * b.1) := prod_fit (fit_in fitA (by omega)) (fit_in fitB (by omega))
            have b4 : fit3 1152921504606846976 (a.2 * b.2) := prod_fit (fit_in fitA (by omega)) (fit_in fitB (by omega))
            have b5 : fit3 1152921504606846976 (x * y) := prod_fit (fit_in fitA sa) (fit_in fitB sb)
            unfold fit3 at b1 b2 b3 b4 b5
            have w1 : IntKind.wrap .i64 (a.1 * b.1) = a.1 * b.1 := wrap64 (by omega) (by omega)
            have w2 : IntKind.wrap .i64 (a.1 * b.2) = a.1 * b.2 := wrap64 (by omega) (by omega)
            have w3 : IntKind.wrap .i64 (a.2 * b.1) = a.2 * b.1 := wrap64 (by omega) (by omega)
            have w4 : IntKind.wrap .i64 (a.2 * b.2) = a.2 * b.2 := wrap64 (by omega) (by omega)
            have w5 : IntKind.wrap .i64 (x * y) = x * y := wrap64 (by omega) (by omega)
            have v1 : IntKind.wrap .i64 (-(a.1 * b.1)) = -(a.1 * b.1) := wrap64 (by omega) (by omega)
            have v2 : IntKind.wrap .i64 (-(a.1 * b.2)) = -(a.1 * b.2) := wrap64 (by omega) (by omega)
            have v3 : IntKind.wrap .i64 (-(a.2 * b.1)) = -(a.2 * b.1) := wrap64 (by omega) (by omega)
            have v4 : IntKind.wrap .i64 (-(a.2 * b.2)) = -(a.2 * b.2) := wrap64 (by omega) (by omega)
            have c5 := fn38 a b
            by_cases hg : (mulS a b).2 = 0
            · obtain ⟨m, hm, p1, p2, p3⟩ := mul_ok hg
              rw [hm] at c5
              have q1 := pk_at p1
              have q2 := pk_at p2
              have hin : inS m (x * y) = true := by have := p3 x y sa sb; unfold inS; simp only [Bool.and_eq_true, decide_eq_true_eq]; omega
              have c8 := fn71 m (x * y)
              rw [hin] at c8
              simp [wa, wb, fa, fb]
              repeat ((first | (refine ACall.mk _ _ _ (c5) ?_ ?_ ?_ ?_; (focus (simp; done)); (focus (simp; done)); (focus (first | (left; simp; done) | (right; simp; done))))); simp [splice, repl, w1, w2, w3, w4])
              refine pw_loopC (α := Nat) 0 (fun _ : Unit => ⟨slots [(9, vb true), (10, vi x), (11, vi y), (16, .lp 0 0), (18, vb true), (19, vb true)], lk [(0, [vi m.1, vi m.2])], 1⟩) (fun _ => True) (fun n => ⟨slots [(9, vb true), (10, vi x), (11, vi y), (16, .lp 0 0), (18, vb (anyN (pkB a b m.1) n)), (19, vb (anyN (pkB a b m.2) n)), (226, .ls 1 0 4 1), (227, vi 4), (228, vi n)], lk [(0, [vi m.1, vi m.2]), (1, [vi (a.1 * b.1), vi (a.1 * b.2), vi (a.2 * b.1), vi (a.2 * b.2)])], 2⟩) (fun n => n ≤ 4) (fun n => 4 - n) 0 ?_ ?_ ?_ fun _ _ => ?_
              · simp
              · refine Weak.mk hE (lk [(0, 145752064), (1, 174063616)]) _ _ _ ?_ ?_ ?_ ?_ ?_ <;> simp [anyN]
              · exact true_round a b m x y hE q1 q2
              · simp [w5]
                repeat ((first | (refine ACall.mk _ _ _ (c8) ?_ ?_ ?_ ?_; (focus (simp; done)); (focus (simp; done)); (focus (first | (left; simp; done) | (right; simp; done))))); simp)
                refine RetOk.by (fun _ => none) ?_
                simp [results12]
            · obtain ⟨g1, g2⟩ := mul_err fitA fitB hg
              obtain ⟨m, g, hm⟩ : ∃ m g, mulS a b = (m, g) := ⟨_, _, rfl⟩
              rw [hm] at g1
              simp only at g1
              subst g1
              rw [hm] at c5
              simp [wa, wb, fa, fb]
              repeat ((first | (refine ACall.mk _ _ _ (c5) ?_ ?_ ?_ ?_; (focus (simp; done)); (focus (simp; done)); (focus (first | (left; simp; done) | (right; simp; done))))); simp [splice, w1, w2, w3, w4, wa, wa2, v1, v2, v3, v4, Int.neg_mul])
              refine RetOk.by (fun _ => none) ?_
              simp [results12]
              simpa [Int.neg_mul] using g2
      · repeat ((first | (refine ACall.mk _ _ _ (c0) ?_ ?_ ?_ ?_; (focus (simp; done)); (focus (simp; done)); (focus (first | (left; simp; done) | (right; simp; done)))) | (refine ACall.mk _ _ _ (c1) ?_ ?_ ?_ ?_; (focus (simp; done)); (focus (simp; done)); (focus (first | (left; simp; done) | (right; simp; done)))) | (refine ACall.mk _ _ _ (c2) ?_ ?_ ?_ ?_; (focus (simp; done)); (focus (simp; done)); (focus (first | (left; simp; done) | (right; simp; done)))) | (refine ACall.mk _ _ _ (d1) ?_ ?_ ?_ ?_; (focus (simp; done)); (focus (simp; done)); (focus (first | (left; simp; done) | (right; simp; done)))) | (refine ACall.mk _ _ _ (d2) ?_ ?_ ?_ ?_; (focus (simp; done)); (focus (simp; done)); (focus (first | (left; simp; done) | (right; simp; done)))) | (refine ACall.mk _ _ _ (d3) ?_ ?_ ?_ ?_; (focus (simp; done)); (focus (simp; done)); (focus (first | (left; simp; done) | (right; simp; done)))) | (refine ACall.mk _ _ _ (d4) ?_ ?_ ?_ ?_; (focus (simp; done)); (focus (simp; done)); (focus (first | (left; simp; done) | (right; simp; done)))) | (refine ACall.mk _ _ _ (d5) ?_ ?_ ?_ ?_; (focus (simp; done)); (focus (simp; done)); (focus (first | (left; simp; done) | (right; simp; done)))) | (refine ACall.mk _ _ _ (d6) ?_ ?_ ?_ ?_; (focus (simp; done)); (focus (simp; done)); (focus (first | (left; simp; done) | (right; simp; done)))) | (refine ACall.mk _ _ _ (d7) ?_ ?_ ?_ ?_; (focus (simp; done)); (focus (simp; done)); (focus (first | (left; simp; done) | (right; simp; done)))) | (refine ACall.mk _ _ _ (d8) ?_ ?_ ?_ ?_; (focus (simp; done)); (focus (simp; done)); (focus (first | (left; simp; done) | (right; simp; done))))); simp [splice, inC, Nat.testBit, u1, u3, u4])
        have wa : IntKind.wrap .i64 (-a.1) = -a.1 := wrap64 (by omega) (by omega)
        have wb : IntKind.wrap .i64 (-b.1) = -b.1 := wrap64 (by omega) (by omega)
        have wa2 : IntKind.wrap .i64 (-a.2) = -a.2 := wrap64 (by omega) (by omega)
        by_cases fa : 1073741824 < max a.2 (-a.1)
        · simp [wa, fa]
          refine RetOk.by (fun _ => none) ?_
          simp [results12]
        · by_cases fb : 1073741824 < max b.2 (-b.1)
          · simp [wa, wb, fa, fb]
            refine RetOk.by (fun _ => none) ?_
            simp [results12]
          · have fitA : fitP a := ⟨ha, fa⟩
            have fitB : fitP b := ⟨hb, fb⟩
            have b1 : fit3 1152921504606846976 (a.1 * b.1) := prod_fit (fit_in fitA (by omega)) (fit_in fitB (by omega))
            have b2 : fit3 1152921504606846976 (a.1 * b.2) := prod_fit (fit_in fitA (by omega)) (fit_in fitB (by omega))
            have b3 : fit3 1152921504606846976 (a.2 * b.1) := prod_fit (fit_in fitA (by omega)) (fit_in fitB (by omega))
            have b4 : fit3 1152921504606846976 (a.2 * b.2) := prod_fit (fit_in fitA (by omega)) (fit_in fitB (by omega))
            have b5 : fit3 1152921504606846976 (x * y) := prod_fit (fit_in fitA sa) (fit_in fitB sb)
            unfold fit3 at b1 b2 b3 b4 b5
            have w1 : IntKind.wrap .i64 (a.1 * b.1) = a.1 * b.1 := wrap64 (by omega) (by omega)
            have w2 : IntKind.wrap .i64 (a.1 * b.2) = a.1 * b.2 := wrap64 (by omega) (by omega)
            have w3 : IntKind.wrap .i64 (a.2 * b.1) = a.2 * b.1 := wrap64 (by omega) (by omega)
            have w4 : IntKind.wrap .i64 (a.2 * b.2) = a.2 * b.2 := wrap64 (by omega) (by omega)
            have w5 : IntKind.wrap .i64 (x * y) = x * y := wrap64 (by omega) (by omega)
            have v1 : IntKind.wrap .i64 (-(a.1 * b.1)) = -(a.1 * b.1) := wrap64 (by omega) (by omega)
            have v2 : IntKind.wrap .i64 (-(a.1 * b.2)) = -(a.1 * b.2) := wrap64 (by omega) (by omega)
            have v3 : IntKind.wrap .i64 (-(a.2 * b.1)) = -(a.2 * b.1) := wrap64 (by omega) (by omega)
            have v4 : IntKind.wrap .i64 (-(a.2 * b.2)) = -(a.2 * b.2) := wrap64 (by omega) (by omega)
            have c5 := fn38 a b
            by_cases hg : (mulS a b).2 = 0
            · obtain ⟨m, hm, p1, p2, p3⟩ := mul_ok hg
              rw [hm] at c5
              have q1 := pk_at p1
              have q2 := pk_at p2
              have hin : inS m (x * y) = true := by have := p3 x y sa sb; unfold inS; simp only [Bool.and_eq_true, decide_eq_true_eq]; omega
              have c8 := fn71 m (x * y)
              rw [hin] at c8
              simp [wa, wb, fa, fb]
              repeat ((first | (refine ACall.mk _ _ _ (c5) ?_ ?_ ?_ ?_; (focus (simp; done)); (focus (simp; done)); (focus (first | (left; simp; done) | (right; simp; done))))); simp [splice, repl, w1, w2, w3, w4])
              refine pw_loopC (α := Nat) 0 (fun _ : Unit => ⟨slots [(9, vb true), (10, vi x), (11, vi y), (16, .lp 0 0), (18, vb true), (19, vb true)], lk [(0, [vi m.1, vi m.2])], 1⟩) (fun _ => True) (fun n => ⟨slots [(9, vb true), (10, vi x), (11, vi y), (16, .lp 0 0), (18, vb (anyN (pkB a b m.1) n)), (19, vb (anyN (pkB a b m.2) n)), (226, .ls 1 0 4 1), (227, vi 4), (228, vi n)], lk [(0, [vi m.1, vi m.2]), (1, [vi (a.1 * b.1), vi (a.1 * b.2), vi (a.2 * b.1), vi (a.2 * b.2)])], 2⟩) (fun n => n ≤ 4) (fun n => 4 - n) 0 ?_ ?_ ?_ fun _ _ => ?_
              · simp
              · refine Weak.mk hE (lk [(0, 145752064), (1, 174063616)]) _ _ _ ?_ ?_ ?_ ?_ ?_ <;> simp [anyN]
              · exact true_round a b m x y hE q1 q2
              · simp [w5]
                repeat ((first | (refine ACall.mk _ _ _ (c8) ?_ ?_ ?_ ?_; (focus (simp; done)); (focus (simp; done)); (focus (first | (left; simp; done) | (right; simp; done))))); simp)
                refine RetOk.by (fun _ => none) ?_
                simp [results12]
            · obtain ⟨g1, g2⟩ := mul_err fitA fitB hg
              obtain ⟨m, g, hm⟩ : ∃ m g, mulS a b = (m, g) := ⟨_, _, rfl⟩
              rw [hm] at g1
              simp only at g1
              subst g1
              rw [hm] at c5
              simp [wa, wb, fa, fb]
              repeat ((first | (refine ACall.mk _ _ _ (c5) ?_ ?_ ?_ ?_; (focus (simp; done)); (focus (simp; done)); (focus (first | (left; simp; done) | (right; simp; done))))); simp [splice, w1, w2, w3, w4, wa, wa2, v1, v2, v3, v4, Int.neg_mul])
              refine RetOk.by (fun _ => none) ?_
              simp [results12]
              simpa [Int.neg_mul] using g2
      · repeat ((first | (refine ACall.mk _ _ _ (c0) ?_ ?_ ?_ ?_; (focus (simp; done)); (focus (simp; done)); (focus (first | (left; simp; done) | (right; simp; done)))) | (refine ACall.mk _ _ _ (c1) ?_ ?_ ?_ ?_; (focus (simp; done)); (focus (simp; done)); (focus (first | (left; simp; done) | (right; simp; done)))) | (refine ACall.mk _ _ _ (c2) ?_ ?_ ?_ ?_; (focus (simp; done)); (focus (simp; done)); (focus (first | (left; simp; done) | (right; simp; done)))) | (refine ACall.mk _ _ _ (d1) ?_ ?_ ?_ ?_; (focus (simp; done)); (focus (simp; done)); (focus (first | (left; simp; done) | (right; simp; done)))) | (refine ACall.mk _ _ _ (d2) ?_ ?_ ?_ ?_; (focus (simp; done)); (focus (simp; done)); (focus (first | (left; simp; done) | (right; simp; done)))) | (refine ACall.mk _ _ _ (d3) ?_ ?_ ?_ ?_; (focus (simp; done)); (focus (simp; done)); (focus (first | (left; simp; done) | (right; simp; done)))) | (refine ACall.mk _ _ _ (d4) ?_ ?_ ?_ ?_; (focus (simp; done)); (focus (simp; done)); (focus (first | (left; simp; done) | (right; simp; done)))) | (refine ACall.mk _ _ _ (d5) ?_ ?_ ?_ ?_; (focus (simp; done)); (focus (simp; done)); (focus (first | (left; simp; done) | (right; simp; done)))) | (refine ACall.mk _ _ _ (d6) ?_ ?_ ?_ ?_; (focus (simp; done)); (focus (simp; done)); (focus (first | (left; simp; done) | (right; simp; done)))) | (refine ACall.mk _ _ _ (d7) ?_ ?_ ?_ ?_; (focus (simp; done)); (focus (simp; done)); (focus (first | (left; simp; done) | (right; simp; done)))) | (refine ACall.mk _ _ _ (d8) ?_ ?_ ?_ ?_; (focus (simp; done)); (focus (simp; done)); (focus (first | (left; simp; done) | (right; simp; done))))); simp [splice, inC, Nat.testBit, u2, u5, u6])
        have wa : IntKind.wrap .i64 (-a.1) = -a.1 := wrap64 (by omega) (by omega)
        have wb : IntKind.wrap .i64 (-b.1) = -b.1 := wrap64 (by omega) (by omega)
        have wa2 : IntKind.wrap .i64 (-a.2) = -a.2 := wrap64 (by omega) (by omega)
        by_cases fa : 1073741824 < max a.2 (-a.1)
        · simp [wa, fa]
          refine RetOk.by (fun _ => none) ?_
          simp [results12]
        · by_cases fb : 1073741824 < max b.2 (-b.1)
          · simp [wa, wb, fa, fb]
            refine RetOk.by (fun _ => none) ?_
            simp [results12]
          · have fitA : fitP a := ⟨ha, fa⟩
            have fitB : fitP b := ⟨hb, fb⟩
            have b1 : fit3 1152921504606846976 (a.1 * b.1) := prod_fit (fit_in fitA (by omega)) (fit_in fitB (by omega))
            have b2 : fit3 1152921504606846976 (a.1 * b.2) := prod_fit (fit_in fitA (by omega)) (fit_in fitB (by omega))
            have b3 : fit3 1152921504606846976 (a.2 * b.1) := prod_fit (fit_in fitA (by omega)) (fit_in fitB (by omega))
            have b4 : fit3 1152921504606846976 (a.2 * b.2) := prod_fit (fit_in fitA (by omega)) (fit_in fitB (by omega))
            have b5 : fit3 1152921504606846976 (x * y) := prod_fit (fit_in fitA sa) (fit_in fitB sb)
            unfold fit3 at b1 b2 b3 b4 b5
            have w1 : IntKind.wrap .i64 (a.1 * b.1) = a.1 * b.1 := wrap64 (by omega) (by omega)
            have w2 : IntKind.wrap .i64 (a.1 * b.2) = a.1 * b.2 := wrap64 (by omega) (by omega)
            have w3 : IntKind.wrap .i64 (a.2 * b.1) = a.2 * b.1 := wrap64 (by omega) (by omega)
            have w4 : IntKind.wrap .i64 (a.2 * b.2) = a.2 * b.2 := wrap64 (by omega) (by omega)
            have w5 : IntKind.wrap .i64 (x * y) = x * y := wrap64 (by omega) (by omega)
            have v1 : IntKind.wrap .i64 (-(a.1 * b.1)) = -(a.1 * b.1) := wrap64 (by omega) (by omega)
            have v2 : IntKind.wrap .i64 (-(a.1 * b.2)) = -(a.1 * b.2) := wrap64 (by omega) (by omega)
            have v3 : IntKind.wrap .i64 (-(a.2 * b.1)) = -(a.2 * b.1) := wrap64 (by omega) (by omega)
            have v4 : IntKind.wrap .i64 (-(a.2 * b.2)) = -(a.2 * b.2) := wrap64 (by omega) (by omega)
            have c5 := fn38 a b
            by_cases hg : (mulS a b).2 = 0
            · obtain ⟨m, hm, p1, p2, p3⟩ := mul_ok hg
              rw [hm] at c5
              have q1 := pk_at p1
              have q2 := pk_at p2
              have hin : inS m (x * y) = true := by have := p3 x y sa sb; unfold inS; simp only [Bool.and_eq_true, decide_eq_true_eq]; omega
              have c8 := fn71 m (x * y)
              rw [hin] at c8
              simp [wa, wb, fa, fb]
              repeat ((first | (refine ACall.mk _ _ _ (c5) ?_ ?_ ?_ ?_; (focus (simp; done)); (focus (simp; done)); (focus (first | (left; simp; done) | (right; simp; done))))); simp [splice, repl, w1, w2, w3, w4])
              refine pw_loopC (α := Nat) 0 (fun _ : Unit => ⟨slots [(9, vb true), (10, vi x), (11, vi y), (16, .lp 0 0), (18, vb true), (19, vb true)], lk [(0, [vi m.1, vi m.2])], 1⟩) (fun _ => True) (fun n => ⟨slots [(9, vb true), (10, vi x), (11, vi y), (16, .lp 0 0), (18, vb (anyN (pkB a b m.1) n)), (19, vb (anyN (pkB a b m.2) n)), (226, .ls 1 0 4 1), (227, vi 4), (228, vi n)], lk [(0, [vi m.1, vi m.2]), (1, [vi (a.1 * b.1), vi (a.1 * b.2), vi (a.2 * b.1), vi (a.2 * b.2)])], 2⟩) (fun n => n ≤ 4) (fun n => 4 - n) 0 ?_ ?_ ?_ fun _ _ => ?_
              · simp
              · refine Weak.mk hE (lk [(0, 145752064), (1, 174063616)]) _ _ _ ?_ ?_ ?_ ?_ ?_ <;> simp [anyN]
              · exact true_round a b m x y hE q1 q2
              · simp [w5]
                repeat ((first | (refine ACall.mk _ _ _ (c8) ?_ ?_ ?_ ?_; (focus (simp; done)); (focus (simp; done)); (focus (first | (left; simp; done) | (right; simp; done))))); simp)
                refine RetOk.by (fun _ => none) ?_
                simp [results12]
            · obtain ⟨g1, g2⟩ := mul_err fitA fitB hg
              obtain ⟨m, g, hm⟩ : ∃ m g, mulS a b = (m, g) := ⟨_, _, rfl⟩
              rw [hm] at g1
              simp only at g1
              subst g1
              rw [hm] at c5
              simp [wa, wb, fa, fb]
              repeat ((first | (refine ACall.mk _ _ _ (c5) ?_ ?_ ?_ ?_; (focus (simp; done)); (focus (simp; done)); (focus (first | (left; simp; done) | (right; simp; done))))); simp [splice, w1, w2, w3, w4, wa, wa2, v1, v2, v3, v4, Int.neg_mul])
              refine RetOk.by (fun _ => none) ?_
              simp [results12]
              simpa [Int.neg_mul] using g2
      · repeat ((first | (refine ACall.mk _ _ _ (c0) ?_ ?_ ?_ ?_; (focus (simp; done)); (focus (simp; done)); (focus (first | (left; simp; done) | (right; simp; done)))) | (refine ACall.mk _ _ _ (c1) ?_ ?_ ?_ ?_; (focus (simp; done)); (focus (simp; done)); (focus (first | (left; simp; done) | (right; simp; done)))) | (refine ACall.mk _ _ _ (c2) ?_ ?_ ?_ ?_; (focus (simp; done)); (focus (simp; done)); (focus (first | (left; simp; done) | (right; simp; done)))) | (refine ACall.mk _ _ _ (d1) ?_ ?_ ?_ ?_; (focus (simp; done)); (focus (simp; done)); (focus (first | (left; simp; done) | (right; simp; done)))) | (refine ACall.mk _ _ _ (d2) ?_ ?_ ?_ ?_; (focus (simp; done)); (focus (simp; done)); (focus (first | (left; simp; done) | (right; simp; done)))) | (refine ACall.mk _ _ _ (d3) ?_ ?_ ?_ ?_; (focus (simp; done)); (focus (simp; done)); (focus (first | (left; simp; done) | (right; simp; done)))) | (refine ACall.mk _ _ _ (d4) ?_ ?_ ?_ ?_; (focus (simp; done)); (focus (simp; done)); (focus (first | (left; simp; done) | (right; simp; done)))) | (refine ACall.mk _ _ _ (d5) ?_ ?_ ?_ ?_; (focus (simp; done)); (focus (simp; done)); (focus (first | (left; simp; done) | (right; simp; done)))) | (refine ACall.mk _ _ _ (d6) ?_ ?_ ?_ ?_; (focus (simp; done)); (focus (simp; done)); (focus (first | (left; simp; done) | (right; simp; done)))) | (refine ACall.mk _ _ _ (d7) ?_ ?_ ?_ ?_; (focus (simp; done)); (focus (simp; done)); (focus (first | (left; simp; done) | (right; simp; done)))) | (refine ACall.mk _ _ _ (d8) ?_ ?_ ?_ ?_; (focus (simp; done)); (focus (simp; done)); (focus (first | (left; simp; done) | (right; simp; done))))); simp [splice, inC, Nat.testBit])
        have wa : IntKind.wrap .i64 (-a.1) = -a.1 := wrap64 (by omega) (by omega)
        have wb : IntKind.wrap .i64 (-b.1) = -b.1 := wrap64 (by omega) (by omega)
        have wa2 : IntKind.wrap .i64 (-a.2) = -a.2 := wrap64 (by omega) (by omega)
        by_cases fa : 1073741824 < max a.2 (-a.1)
        · simp [wa, fa]
          refine RetOk.by (fun _ => none) ?_
          simp [results12]
        · by_cases fb : 1073741824 < max b.2 (-b.1)
          · simp [wa, wb, fa, fb]
            refine RetOk.by (fun _ => none) ?_
            simp [results12]
          · have fitA : fitP a := ⟨ha, fa⟩
            have fitB : fitP b := ⟨hb, fb⟩
            have b1 : fit3 1152921504606846976 (a.1 * b.1) := prod_fit (fit_in fitA (by omega)) (fit_in fitB (by omega))
            have b2 : fit3 1152921504606846976 (a.1 * b.2) := prod_fit (fit_in fitA (by omega)) (fit_in fitB (by omega))
            have b3 : fit3 1152921504606846976 (a.2 * b.1) := prod_fit (fit_in fitA (by omega)) (fit_in fitB (by omega))
            have b4 : fit3 1152921504606846976 (a.2 * b.2) := prod_fit (fit_in fitA (by omega)) (fit_in fitB (by omega))
            have b5 : fit3 1152921504606846976 (x * y) := prod_fit (fit_in fitA sa) (fit_in fitB sb)
            unfold fit3 at b1 b2 b3 b4 b5
            have w1 : IntKind.wrap .i64 (a.1 * b.1) = a.1 * b.1 := wrap64 (by omega) (by omega)
            have w2 : IntKind.wrap .i64 (a.1 * b.2) = a.1 * b.2 := wrap64 (by omega) (by omega)
            have w3 : IntKind.wrap .i64 (a.2 * b.1) = a.2 * b.1 := wrap64 (by omega) (by omega)
            have w4 : IntKind.wrap .i64 (a.2 * b.2) = a.2 * b.2 := wrap64 (by omega) (by omega)
            have w5 : IntKind.wrap .i64 (x * y) = x * y := wrap64 (by omega) (by omega)
            have v1 : IntKind.wrap .i64 (-(a.1 * b.1)) = -(a.1 * b.1) := wrap64 (by omega) (by omega)
            have v2 : IntKind.wrap .i64 (-(a.1 * b.2)) = -(a.1 * b.2) := wrap64 (by omega) (by omega)
            have v3 : IntKind.wrap .i64 (-(a.2 * b.1)) = -(a.2 * b.1) := wrap64 (by omega) (by omega)
            have v4 : IntKind.wrap .i64 (-(a.2 * b.2)) = -(a.2 * b.2) := wrap64 (by omega) (by omega)
            have c5 := fn38 a b
            by_cases hg : (mulS a b).2 = 0
            · obtain ⟨m, hm, p1, p2, p3⟩ := mul_ok hg
              rw [hm] at c5
              have q1 := pk_at p1
              have q2 := pk_at p2
              have hin : inS m (x * y) = true := by have := p3 x y sa sb; unfold inS; simp only [Bool.and_eq_true, decide_eq_true_eq]; omega
              have c8 := fn71 m (x * y)
              rw [hin] at c8
              simp [wa, wb, fa, fb]
              repeat ((first | (refine ACall.mk _ _ _ (c5) ?_ ?_ ?_ ?_; (focus (simp; done)); (focus (simp; done)); (focus (first | (left; simp; done) | (right; simp; done))))); simp [splice, repl, w1, w2, w3, w4])
              refine pw_loopC (α := Nat) 0 (fun _ : Unit => ⟨slots [(9, vb true), (10, vi x), (11, vi y), (16, .lp 0 0), (18, vb true), (19, vb true)], lk [(0, [vi m.1, vi m.2])], 1⟩) (fun _ => True) (fun n => ⟨slots [(9, vb true), (10, vi x), (11, vi y), (16, .lp 0 0), (18, vb (anyN (pkB a b m.1) n)), (19, vb (anyN (pkB a b m.2) n)), (226, .ls 1 0 4 1), (227, vi 4), (228, vi n)], lk [(0, [vi m.1, vi m.2]), (1, [vi (a.1 * b.1), vi (a.1 * b.2), vi (a.2 * b.1), vi (a.2 * b.2)])], 2⟩) (fun n => n ≤ 4) (fun n => 4 - n) 0 ?_ ?_ ?_ fun _ _ => ?_
              · simp
              · refine Weak.mk hE (lk [(0, 145752064), (1, 174063616)]) _ _ _ ?_ ?_ ?_ ?_ ?_ <;> simp [anyN]
              · exact true_round a b m x y hE q1 q2
              · simp [w5]
                repeat ((first | (refine ACall.mk _ _ _ (c8) ?_ ?_ ?_ ?_; (focus (simp; done)); (focus (simp; done)); (focus (first | (left; simp; done) | (right; simp; done))))); simp)
                refine RetOk.by (fun _ => none) ?_
                simp [results12]
            · obtain ⟨g1, g2⟩ := mul_err fitA fitB hg
              obtain ⟨m, g, hm⟩ : ∃ m g, mulS a b = (m, g) := ⟨_, _, rfl⟩
              rw [hm] at g1
              simp only at g1
              subst g1
              rw [hm] at c5
              simp [wa, wb, fa, fb]
              repeat ((first | (refine ACall.mk _ _ _ (c5) ?_ ?_ ?_ ?_; (focus (simp; done)); (focus (simp; done)); (focus (first | (left; simp; done) | (right; simp; done))))); simp [splice, w1, w2, w3, w4, wa, wa2, v1, v2, v3, v4, Int.neg_mul])
              refine RetOk.by (fun _ => none) ?_
              simp [results12]
              simpa [Int.neg_mul] using g2
    · have hb : okS b = false := by simpa using hb
      rw [ha] at c1
      rw [hb] at c2
      refine Ct.by gok eok mixed func12 c12 rfl (by simp [ntmps12]) (by simp) (by simp [ResIds]) fun E hE => ?_
      simp [p12]
      repeat ((first | (refine ACall.mk _ _ _ (c0) ?_ ?_ ?_ ?_; (focus (simp; done)); (focus (simp; done)); (focus (first | (left; simp; done) | (right; simp; done)))) | (refine ACall.mk _ _ _ (c1) ?_ ?_ ?_ ?_; (focus (simp; done)); (focus (simp; done)); (focus (first | (left; simp; done) | (right; simp; done)))) | (refine ACall.mk _ _ _ (c2) ?_ ?_ ?_ ?_; (focus (simp; done)); (focus (simp; done)); (focus (first | (left; simp; done) | (right; simp; done))))); simp)
      refine RetOk.by (fun _ => none) ?_
      simp [results12]
  · have ha : okS a = false := by simpa using ha
    rw [ha] at c1
    refine Ct.by gok eok mixed func12 c12 rfl (by simp [ntmps12]) (by simp) (by simp [ResIds]) fun E hE => ?_
    simp [p12]
    repeat ((first | (refine ACall.mk _ _ _ (c0) ?_ ?_ ?_ ?_; (focus (simp; done)); (focus (simp; done)); (focus (first | (left; simp; done) | (right; simp; done)))) | (refine ACall.mk _ _ _ (c1) ?_ ?_ ?_ ?_; (focus (simp; done)); (focus (simp; done)); (focus (first | (left; simp; done) | (right; simp; done)))) | (refine ACall.mk _ _ _ (c2) ?_ ?_ ?_ ?_; (focus (simp; done)); (focus (simp; done)); (focus (first | (left; simp; done) | (right; simp; done))))); simp)
    refine RetOk.by (fun _ => none) ?_
    simp [results12]
end Go.Proofs.Try
