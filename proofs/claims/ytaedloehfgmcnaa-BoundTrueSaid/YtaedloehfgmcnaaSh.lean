/- Contracts: what each function of the program computes, for the arguments that its theorem names; and from there the given statement. Conditions: those that each theorem states. -/
import Derived.Test.YtaedloehfgmcnaaHq
import Derived.Test.YtaedloehfgmcnaaFo
namespace Go.Proofs.Try
open Go.Psl
def fit3 (M x : Int) : Prop := -M ≤ x ∧ x ≤ M
theorem prod_fit {x y : Int} (hx : fit3 1073741824 x) (hy : fit3 1073741824 y) : fit3 1152921504606846976 (x * y) := by
  unfold fit3 at *
  have := mul_abs hx hy
  omega
theorem lg_exact {x y z : Int} (hx : fit3 1073741824 x) (hy : fit3 1073741824 y) (hz : 1 ≤ z ∧ z ≤ 1048576) : lgB x y z = decide (z * 1099511627776 < x * y ∨ x * y < -z * 1099511627776) := by
  have h := prod_fit hx hy
  unfold fit3 at h
  unfold lgB
  rw [wrap64 (x := x * y) (by omega) (by omega), wrap64 (x := z * 1099511627776) (by omega) (by omega), wrap64 (x := -z) (by omega) (by omega), wrap64 (x := -z * 1099511627776) (by omega) (by omega)]
  simp
theorem scale_fit {r z : Int} (hr : -1099511627777 ≤ r ∧ r ≤ 1099511627777) (hz : 1 ≤ z ∧ z ≤ 1048576) : -1152921504607895552 ≤ r * z ∧ r * z ≤ 1152921504607895552 := by
  have := mul_abs (M := 1099511627777) (N := 1048576) (x := r) (y := z) (by omega) (by omega)
  omega
theorem lo_exact {r x y z : Int} (hr : -1099511627776 ≤ r ∧ r ≤ 1099511627776) (hx : fit3 1073741824 x) (hy : fit3 1073741824 y) (hz : 1 ≤ z ∧ z ≤ 1048576) : loB r x y z = decide (x * y < (r + 1) * z) := by
  have h := prod_fit hx hy
  unfold fit3 at h
  have h2 := scale_fit (r := r + 1) (by omega) hz
  unfold loB
  rw [wrap64 (x := x * y) (by omega) (by omega), wrap64 (x := r + 1) (by omega) (by omega), wrap64 (x := (r + 1) * z) (by omega) (by omega)]
theorem hi_exact {r x y z : Int} (hr : -1099511627776 ≤ r ∧ r ≤ 1099511627776) (hx : fit3 1073741824 x) (hy : fit3 1073741824 y) (hz : 1 ≤ z ∧ z ≤ 1048576) : hiB r x y z = decide ((r - 1) * z < x * y) := by
  have h := prod_fit hx hy
  unfold fit3 at h
  have h2 := scale_fit (r := r - 1) (by omega) hz
  unfold hiB
  rw [wrap64 (x := x * y) (by omega) (by omega), wrap64 (x := r - 1) (by omega) (by omega), wrap64 (x := (r - 1) * z) (by omega) (by omega)]
theorem fit_in {s : Int × Int} (h : fitP s) {x : Int} (hx : s.1 ≤ x ∧ x ≤ s.2) : fit3 1073741824 x := by
  unfold fitP at h; unfold fit3; omega
section
variable {a b c : Int × Int} (fa : fitP a) (fb : fitP b) (fc : fitP c) (hc : 1 ≤ c.1) (hc2 : c.2 ≤ 1048576) {r0 r1 e : Int} (hov : overS a b c = ((r0, r1), e))
include fa fb fc hc hov in
theorem shares_e : e = 0 ∨ e = 11 := by
  rw [overS_eq fa.1 fb.1 fc.1 (by omega)] at hov
  unfold sizedS at hov
  split at hov
  · simp at hov; omega
  · simp at hov; omega
include fa fb fc hc hov in
theorem shares_0 (h : e = 0) : allS a b c = (r0, r1) ∧ -1099511627776 ≤ r0 ∧ r0 ≤ r1 ∧ r1 ≤ 1099511627776 := by
  have ia := (okS_iff.1 fa.1).1
  have ib := (okS_iff.1 fb.1).1
  have ic := (okS_iff.1 fc.1).1
  have ho := all_order ia ib hc ic
  rw [overS_eq fa.1 fb.1 fc.1 (by omega)] at hov
  unfold sizedS at hov
  split at hov
  · simp at hov; omega
  · have e1 : allS a b c = (r0, r1) := (Prod.mk.inj hov).1
    rw [e1] at ho
    rename_i h3
    rw [e1] at h3
    simp only at h3 ho
    exact ⟨e1, by omega, ho, by omega⟩
include fa fb fc hc hc2 hov in
theorem shares_11 (h : e ≠ 0) : e = 11 ∧ anyN (lgN a b c) 8 = true := by
  have ia := (okS_iff.1 fa.1).1
  have ib := (okS_iff.1 fb.1).1
  have ic := (okS_iff.1 fc.1).1
  rw [overS_eq fa.1 fb.1 fc.1 (by omega)] at hov
  unfold sizedS at hov
  split at hov
  · rename_i h3
    refine ⟨by simp at hov; omega, ?_⟩
    obtain ⟨x, y, z, hx, hy, hz, hl⟩ := large_of hc ic h3
    obtain ⟨m, hm, rfl, rfl, rfl⟩ := cx_at hx hy hz
    refine anyN_iff.2 ⟨m, hm, ?_⟩
    unfold lgN
    rw [lg_exact (fit_in fa (end_in hx ia)) (fit_in fb (end_in hy ib)) (by have := end_in hz ic; omega)]
    exact decide_eq_true hl
  · simp at hov; omega
include fa fb fc hc hc2 hov in
theorem shares_ok (h : e = 0) : anyN (lgN a b c) 8 = false ∧ anyN (loN a b c r0) 8 = true ∧ anyN (hiN a b c r1) 8 = true := by
  have ia := (okS_iff.1 fa.1).1
  have ib := (okS_iff.1 fb.1).1
  have ic := (okS_iff.1 fc.1).1
  obtain ⟨e1, h1, h2, h3⟩ := shares_0 fa fb fc hc hov h
  refine ⟨?_, ?_, ?_⟩
  · rw [Bool.eq_false_iff]
    intro hl
    obtain ⟨m, hm, hl⟩ := anyN_iff.1 hl
    unfold lgN at hl
    have xa := end_in (cx_end a 1 m) ia
    have xb := end_in (cx_end b 2 m) ib
    have xc := end_in (cx_end c 4 m) ic
    rw [lg_exact (fit_in fa xa) (fit_in fb xb) (by omega)] at hl
    exact not_large xa xb xc hc (by rw [e1]; exact h1) (by rw [e1]; exact h3) (of_decide_eq_true hl)
  · obtain ⟨x, y, z, hx, hy, hz, hl⟩ := low_of (a := a) (b := b) hc ic (by rw [e1]; simp only; omega)
    rw [e1] at hl
    obtain ⟨m, hm, rfl, rfl, rfl⟩ := cx_at hx hy hz
    refine anyN_iff.2 ⟨m, hm, ?_⟩
    unfold loN
    rw [lo_exact (by omega) (fit_in fa (end_in hx ia)) (fit_in fb (end_in hy ib)) (by have := end_in hz ic; omega)]
    exact decide_eq_true hl
  · obtain ⟨x, y, z, hx, hy, hz, hl⟩ := high_of (a := a) (b := b) hc ic (by rw [e1]; simp only; omega)
    rw [e1] at hl
    obtain ⟨m, hm, rfl, rfl, rfl⟩ := cx_at hx hy hz
    refine anyN_iff.2 ⟨m, hm, ?_⟩
    unfold hiN
    rw [hi_exact (by omega) (fit_in fa (end_in hx ia)) (fit_in fb (end_in hy ib)) (by have := end_in hz ic; omega)]
    exact decide_eq_true hl
include fa fb fc hc hc2 hov in
theorem shares_in (h : e = 0) {x y z : Int} (hx : a.1 ≤ x ∧ x ≤ a.2) (hy : b.1 ≤ y ∧ y ≤ b.2) (hz : c.1 ≤ z ∧ z ≤ c.2) : IntKind.wrap .i64 (r0 * z) ≤ IntKind.wrap .i64 (x * y) ∧ IntKind.wrap .i64 (x * y) ≤ IntKind.wrap .i64 (r1 * z) := by
  obtain ⟨e1, h1, h2, h3⟩ := shares_0 fa fb fc hc hov h
  have l := in_low hx hy hz hc (by rw [e1]; exact h1)
  have u := in_high hx hy hz hc (by rw [e1]; exact h3)
  rw [e1] at l u
  have hp := prod_fit (fit_in fa hx) (fit_in fb hy)
  unfold fit3 at hp
  have s0 := scale_fit (r := r0) (z := z) (by omega) (by omega)
  have s1 := scale_fit (r := r1) (z := z) (by omega) (by omega)
  rw [wrap64 (x := x * y) (by omega) (by omega), wrap64 (x := r0 * z) (by omega) (by omega), wrap64 (x := r1 * z) (by omega) (by omega)]
  exact ⟨l, u⟩
end
end Go.Proofs.Try
namespace Go.Proofs.Try
open Go.Psl
set_option maxHeartbeats 4000000 in
set_option maxRecDepth 20000 in
theorem fn7 (hS : SortOk) (a b c : Int × Int) (i j k : Int) : Ct prog 7 [vsp a.1 a.2, vsp b.1 b.2, vsp c.1 c.2, vi i, vi j, vi k] (vb true) [] := by
  have c0 := fn58 hS
  have c1 := fn30 a b c
  refine Ct.by gok eok mixed func7 c7 rfl (by simp [ntmps7]) (by simp) (by simp [ResIds]) fun E hE => ?_
  simp [p7]
  repeat ((first | (refine ACall.mk _ _ _ (c0) ?_ ?_ ?_ ?_; (focus (simp; done)); (focus (simp; done)); (focus (first | (left; simp; done) | (right; simp; done))))); simp [splice, repl])
  refine pw_loopC (α := Nat) 0 (fun _ : Unit => ⟨slots [(3, vi i), (4, vi j), (5, vi k), (6, .lp 0 0), (7, .lp 1 0), (8, .lp 2 0), (13, vb true)], lk [(0, [vi a.1, vi a.2]), (1, [vi b.1, vi b.2]), (2, [vi c.1, vi c.2])], 3⟩) (fun _ => fitP a ∧ fitP b ∧ fitP c) (fun n => ⟨slots [(3, vi i), (4, vi j), (5, vi k), (6, .lp 0 0), (7, .lp 1 0), (8, .lp 2 0), (13, vb true), (32, .ls 3 0 3 2), (33, vi 3), (34, vi n)], lk [(0, [vi a.1, vi a.2]), (1, [vi b.1, vi b.2]), (2, [vi c.1, vi c.2]), (3, [vi a.1, vi a.2, vi b.1, vi b.2, vi c.1, vi c.2])], 4⟩) (fun n => n ≤ 3 ∧ (1 ≤ n → fitP a) ∧ (2 ≤ n → fitP b) ∧ (3 ≤ n → fitP c)) (fun n => 3 - n) 0 ?_ ?_ ?_ fun _ hfit => ?_
  · simp
  · refine Weak.mk hE (lk [(0, 0), (1, 1048576), (2, 2097152), (3, 9437184)]) _ _ _ ?_ ?_ ?_ ?_ ?_ <;> simp
  · rintro n ⟨hn, h1, h2, h3⟩
    simp [p7l0]
    have hn3 : n = 0 ∨ n = 1 ∨ n = 2 ∨ n = 3 := by omega
    rcases hn3 with rfl | rfl | rfl | rfl
    · simp [splice]
      refine ACall.mk _ _ _ (fn46 a) (by first | (simp; done) | simp [Bor_ls, Bor1_ls]) (by simp) (by first | (left; simp; done) | (right; simp; done)) ?_
      by_cases ha : okS a = true
      · have hia := okS_iff.1 ha
        have w1 : IntKind.wrap .i64 (-a.1) = -a.1 := wrap64 (by omega) (by omega)
        by_cases hm : 1073741824 < max a.2 (-a.1)
        · simp [ha, w1, hm]
          refine RetOk.by (fun _ => none) ?_
          simp [results7]
        · simp [ha, w1, hm]
          refine ⟨1, ⟨by omega, fun _ => ⟨ha, hm⟩, fun h => absurd h (by omega), fun h => absurd h (by omega)⟩, by omega, ?_⟩
          refine Weak.mk hE (lk [(0, 0), (1, 1), (2, 2), (3, 3)]) _ _ _ ?_ ?_ ?_ ?_ ?_ <;> simp [wrap64]
      · simp [ha]
        refine RetOk.by (fun _ => none) ?_
        simp [results7]
    · simp [splice]
      refine ACall.mk _ _ _ (fn46 b) (by first | (simp; done) | simp [Bor_ls, Bor1_ls]) (by simp) (by first | (left; simp; done) | (right; simp; done)) ?_
      by_cases ha : okS b = true
      · have hia := okS_iff.1 ha
        have w1 : IntKind.wrap .i64 (-b.1) = -b.1 := wrap64 (by omega) (by omega)
        by_cases hm : 1073741824 < max b.2 (-b.1)
        · simp [ha, w1, hm]
          refine RetOk.by (fun _ => none) ?_
          simp [results7]
        · simp [ha, w1, hm]
          refine ⟨2, ⟨by omega, fun _ => h1 (by omega), fun _ => ⟨ha, hm⟩, fun h => absurd h (by omega)⟩, by omega, ?_⟩
          refine Weak.mk hE (lk [(0, 0), (1, 1), (2, 2), (3, 3)]) _ _ _ ?_ ?_ ?_ ?_ ?_ <;> simp [wrap64]
      · simp [ha]
        refine RetOk.by (fun _ => none) ?_
        simp [results7]
    · simp [splice]
      refine ACall.mk _ _ _ (fn46 c) (by first | (simp; done) | simp [Bor_ls, Bor1_ls]) (by simp) (by first | (left; simp; done) | (right; simp; done)) ?_
      by_cases ha : okS c = true
      · have hia := okS_iff.1 ha
        have w1 : IntKind.wrap .i64 (-c.1) = -c.1 := wrap64 (by omega) (by omega)
        by_cases hm : 1073741824 < max c.2 (-c.1)
        · simp [ha, w1, hm]
          refine RetOk.by (fun _ => none) ?_
          simp [results7]
        · simp [ha, w1, hm]
          refine ⟨3, ⟨by omega, fun _ => h1 (by omega), fun _ => h2 (by omega), fun _ => ⟨ha, hm⟩⟩, by omega, ?_⟩
          refine Weak.mk hE (lk [(0, 0), (1, 1), (2, 2), (3, 3)]) _ _ _ ?_ ?_ ?_ ?_ ?_ <;> simp [wrap64]
      · simp [ha]
        refine RetOk.by (fun _ => none) ?_
        simp [results7]
    · simp
      refine ⟨⟨h1 (by omega), h2 (by omega), h3 (by omega)⟩, ?_⟩
      refine Weak.mk hE (lk [(0, 0), (1, 1), (2, 2)]) _ _ _ ?_ ?_ ?_ ?_ ?_ <;> simp
  · obtain ⟨fa, fb, fc⟩ := hfit
    by_cases hc1 : c.1 < 1
    · have hov : overS a b c = ((0, 0), 12) := by unfold overS; simp [fa.1, fb.1, fc.1, hc1]
      rw [hov] at c1
      simp
      repeat ((first | (refine ACall.mk _ _ _ (c1) ?_ ?_ ?_ ?_; (focus (simp; done)); (focus (simp; done)); (focus (first | (left; simp; done) | (right; simp; done))))); simp [splice, hc1])
      refine RetOk.by (fun _ => none) ?_
      simp [results7]
    · obtain ⟨r0, r1, e, hov⟩ : ∃ r0 r1 e, overS a b c = ((r0, r1), e) := ⟨_, _, _, rfl⟩
      rw [hov] at c1
      simp
      repeat ((first | (refine ACall.mk _ _ _ (c1) ?_ ?_ ?_ ?_; (focus (simp; done)); (focus (simp; done)); (focus (first | (left; simp; done) | (right; simp; done))))); simp [splice, hc1])
      refine pw_loopC (α := Nat) 2 (fun _ : Unit => ⟨slots [(3, vi i), (4, vi j), (5, vi k), (6, .lp 0 0), (7, .lp 1 0), (8, .lp 2 0), (13, vb true), (16, .lp 3 0), (17, vi e), (18, vb (anyN (loN a b c r0) 8)), (19, vb (anyN (hiN a b c r1) 8)), (20, vb (anyN (lgN a b c) 8))], lk [(0, [vi a.1, vi a.2]), (1, [vi b.1, vi b.2]), (2, [vi c.1, vi c.2]), (3, [vi r0, vi r1])], 4⟩) (fun _ => True) (fun n => ⟨slots [(3, vi i), (4, vi j), (5, vi k), (6, .lp 0 0), (7, .lp 1 0), (8, .lp 2 0), (13, vb true), (16, .lp 3 0), (17, vi e), (18, vb (anyN (loN a b c r0) n)), (19, vb (anyN (hiN a b c r1) n)), (20, vb (anyN (lgN a b c) n)), (71, vi n)], lk [(0, [vi a.1, vi a.2]), (1, [vi b.1, vi b.2]), (2, [vi c.1, vi c.2]), (3, [vi r0, vi r1])], 4⟩) (fun n => n ≤ 8) (fun n => 8 - n) 0 ?_ ?_ ?_ fun _ _ => ?_
      · simp
      · refine Weak.mk hE (lk [(0, 0), (1, 1), (2, 2), (3, 7340035)]) _ _ _ ?_ ?_ ?_ ?_ ?_ <;> simp [anyN]
      · intro n hn
        by_cases hlt : n < 8
        · exact shares_round a b c i j k e r0 r1 E hE n hn hlt
        · have : n = 8 := by omega
          subst this
          simp [p7l1]
          refine Weak.mk hE (lk [(0, 0), (1, 1), (2, 2), (3, 3)]) _ _ _ ?_ ?_ ?_ ?_ ?_ <;> simp
      · have hc : 1 ≤ c.1 := by omega
        by_cases hbig : 1048576 < max c.2 1
        · rcases shares_e fa fb fc hc hov with rfl | rfl
          · simp [hbig]
            refine RetOk.by (fun _ => none) ?_
            simp [results7]
          · simp [hbig]
            refine RetOk.by (fun _ => none) ?_
            simp [results7]
        · have hc2 : c.2 ≤ 1048576 := by omega
          by_cases he : e = 0
          · obtain ⟨q1, q2, q3⟩ := shares_ok fa fb fc hc hc2 hov he
            have sa := someS_in (okS_iff.1 fa.1).1 i
            have sb := someS_in (okS_iff.1 fb.1).1 j
            have sc := someS_in (okS_iff.1 fc.1).1 k
            obtain ⟨p1, p2⟩ := shares_in fa fb fc hc hc2 hov he sa sb sc
            have ia := okS_iff.1 fa.1
            have ib := okS_iff.1 fb.1
            have ic := okS_iff.1 fc.1
            have d1 := fn59 a i (by omega)
            have d2 := fn59 b j (by omega)
            have d3 := fn59 c k (by omega)
            subst he
            rw [q1, q2, q3]
            generalize someS a i = u at *
            generalize someS b j = v at *
            generalize someS c k = w at *
            simp [hbig]
            repeat ((first | (refine ACall.mk _ _ _ (d1) ?_ ?_ ?_ ?_; (focus (simp; done)); (focus (simp; done)); (focus (first | (left; simp; done) | (right; simp; done)))) | (refine ACall.mk _ _ _ (d2) ?_ ?_ ?_ ?_; (focus (simp; done)); (focus (simp; done)); (focus (first | (left; simp; done) | (right; simp; done)))) | (refine ACall.mk _ _ _ (d3) ?_ ?_ ?_ ?_; (focus (simp; done)); (focus (simp; done)); (focus (first | (left; simp; done) | (right; simp; done))))); simp [inC, Nat.testBit, p1, p2])
            refine RetOk.by (fun _ => none) ?_
            simp [results7]
          · obtain ⟨rfl, q1⟩ := shares_11 fa fb fc hc hc2 hov he
            rw [q1]
            simp [hbig]
            refine RetOk.by (fun _ => none) ?_
            simp [results7]
end Go.Proofs.Try
