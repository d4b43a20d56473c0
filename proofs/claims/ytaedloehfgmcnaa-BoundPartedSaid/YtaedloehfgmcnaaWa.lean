/- Contracts: what each function of the program computes, for the arguments that its theorem names; and from there the given statement. Conditions: those that each theorem states. -/
import Derived.Test.YtaedloehfgmcnaaCa
import Derived.Test.YtaedloehfgmcnaaFn
namespace Go.Proofs.Try
open Go.Psl
/-- a knot: where it is, and its values -/
abbrev knotsD (l : List (Int × Int × Int)) : D := .sl 3 (l.map fun k => [di k.1, di k.2.1, di k.2.2])
def okK (k : Int × Int × Int) : Bool := decide (-1073741824 ≤ k.1) && decide (k.1 ≤ 1073741824) && decide (-1073741824 ≤ k.2.1) && decide (k.2.1 ≤ k.2.2) && decide (k.2.2 ≤ 1073741824)
def goodK (l : List (Int × Int × Int)) (i : Nat) : Bool := match l[i]? with
  | some k => okK k && (decide (i = 0) || match l[i - 1]? with | some p => decide (p.1 < k.1) | none => true)
  | none => true
def goodTo (l : List (Int × Int × Int)) (i : Nat) : Bool := (List.range i).all (goodK l)
/-- a valid table -/
def tabS (l : List (Int × Int × Int)) : Bool := decide (2 ≤ l.length) && decide (l.length ≤ 32) && goodTo l l.length
theorem goodTo_succ (l : List (Int × Int × Int)) (i : Nat) : goodTo l (i + 1) = (goodTo l i && goodK l i) := by simp [goodTo, List.range_succ]
theorem goodTo_bad {l : List (Int × Int × Int)} {i : Nat} (h : i < l.length) (hb : goodK l i = false) : goodTo l l.length = false := by
  unfold goodTo
  rw [List.all_eq_false]
  exact ⟨i, List.mem_range.2 h, by simp [hb]⟩
theorem okK_iff {k : Int × Int × Int} : okK k = true ↔ -1073741824 ≤ k.1 ∧ k.1 ≤ 1073741824 ∧ -1073741824 ≤ k.2.1 ∧ k.2.1 ≤ k.2.2 ∧ k.2.2 ≤ 1073741824 := by
  unfold okK; simp only [Bool.and_eq_true, decide_eq_true_eq]; omega
theorem goodK_zero {l : List (Int × Int × Int)} {k : Int × Int × Int} (h : l[0]? = some k) : goodK l 0 = okK k := by simp [goodK, h]
theorem goodK_succ {l : List (Int × Int × Int)} {i : Nat} {k p : Int × Int × Int} (h : l[i + 1]? = some k) (hp : l[i]? = some p) : goodK l (i + 1) = (okK k && decide (p.1 < k.1)) := by simp [goodK, h, hp]
theorem okK_no {k : Int × Int × Int} (h : min k.1 k.2.1 < -1073741824 ∨ 1073741824 < max k.1 k.2.2 ∨ k.2.2 < k.2.1) : okK k = false := by
  have : ¬ okK k = true := by rw [okK_iff]; omega
  simpa using this
theorem fn26 (l : List (Int × Int × Int)) (hl : l.length ≤ 1000000) : Ct prog 26 [.d (knotsD l)] (vi (if tabS l then 0 else 13)) [] := by
  refine Ct.by gok eok mixed func26 c26 rfl (by simp [ntmps26]) (by simp) (by simp [ResIds]) fun E hE => ?_
  by_cases h2 : l.length < 2
  · have h2' : (l.length : Int) < 2 := by omega
    simp [p26, h2']
    refine RetOk.by (fun _ => none) ?_
    simp [results26, tabS]; omega
  by_cases h3 : 32 < l.length
  · have h2' : ¬ (l.length : Int) < 2 := by omega
    have h3' : (32 : Int) < l.length := by omega
    simp [p26, h2', h3']
    refine RetOk.by (fun _ => none) ?_
    simp [results26, tabS]; omega
  have h2' : ¬ (l.length : Int) < 2 := by omega
  have h3' : ¬ (32 : Int) < l.length := by omega
  simp [p26, h2', h3']
  refine pw_loop (α := Nat) (fun i => ⟨slots [(0, .d (knotsD l)), (13, .d (knotsD l)), (14, vi l.length), (15, vi i)], lk [], 0⟩) (fun i => i ≤ l.length ∧ goodTo l i = true) (fun i => l.length - i) 0 ?_ ?_ ?_
  · simp [goodTo]
  · refine Weak.mk hE (lk []) _ _ _ ?_ ?_ ?_ ?_ ?_ <;> simp
  · rintro i ⟨hi, hg⟩
    simp [p26l0]
    refine cR_split (fun h => ?_) (fun h => ?_)
    · simp at h
      have hil : i < l.length := by omega
      obtain ⟨k, hk⟩ : ∃ k, l[i]? = some k := ⟨l[i], by simp [hil]⟩
      by_cases h0 : i = 0
      · subst h0
        have e : goodK l 0 = okK k := goodK_zero hk
        have hz : IntKind.wrap .i64 1 = 1 := by decide
        by_cases c1 : min k.1 k.2.1 < -1073741824
        · have hb : goodK l 0 = false := by simp [e, okK_no (Or.inl c1)]
          simp [hk, splice, c1]
          refine RetOk.by (fun _ => none) ?_
          simp [results26, tabS, goodTo_bad hil hb]
        by_cases c2 : 1073741824 < max k.1 k.2.2
        · have hb : goodK l 0 = false := by simp [e, okK_no (Or.inr (Or.inl c2))]
          simp [hk, splice, c1, c2]
          refine RetOk.by (fun _ => none) ?_
          simp [results26, tabS, goodTo_bad hil hb]
        by_cases c3 : k.2.2 < k.2.1
        · have hb : goodK l 0 = false := by simp [e, okK_no (Or.inr (Or.inr c3))]
          simp [hk, splice, c1, c2, c3]
          refine RetOk.by (fun _ => none) ?_
          simp [results26, tabS, goodTo_bad hil hb]
        have hk1 : okK k = true := by rw [okK_iff]; omega
        simp [hk, splice, c1, c2, c3, hz]
        refine ⟨1, ⟨by omega, by rw [goodTo_succ, hg, e, hk1]; rfl⟩, by omega, ?_⟩
        refine Weak.mk hE (lk []) _ _ _ ?_ ?_ ?_ ?_ ?_ <;> simp
      · obtain ⟨j, hj⟩ : ∃ j, i = j + 1 := ⟨i - 1, by omega⟩
        obtain ⟨p, hp⟩ : ∃ p, l[j]? = some p := ⟨l[j], by simp [show j < l.length by omega]⟩
        have e : goodK l i = (okK k && decide (p.1 < k.1)) := by subst hj; exact goodK_succ hk hp
        have hz : IntKind.wrap .i64 ((i : Int) + 1) = (i : Int) + 1 := wrap64 (by omega) (by omega)
        have hz2 : IntKind.wrap .i64 ((i : Int) - 1) = (j : Int) := by rw [wrap64 (by omega) (by omega)]; omega
        have hpos : 0 < i := by omega
        by_cases c1 : min k.1 k.2.1 < -1073741824
        · have hb : goodK l i = false := by simp [e, okK_no (Or.inl c1)]
          simp [hk, splice, c1]
          refine RetOk.by (fun _ => none) ?_
          simp [results26, tabS, goodTo_bad hil hb]
        by_cases c2 : 1073741824 < max k.1 k.2.2
        · have hb : goodK l i = false := by simp [e, okK_no (Or.inr (Or.inl c2))]
          simp [hk, splice, c1, c2]
          refine RetOk.by (fun _ => none) ?_
          simp [results26, tabS, goodTo_bad hil hb]
        by_cases c3 : k.2.2 < k.2.1
        · have hb : goodK l i = false := by simp [e, okK_no (Or.inr (Or.inr c3))]
          simp [hk, splice, c1, c2, c3]
          refine RetOk.by (fun _ => none) ?_
          simp [results26, tabS, goodTo_bad hil hb]
        have hk1 : okK k = true := by rw [okK_iff]; omega
        by_cases c4 : k.1 ≤ p.1
        · have hb : goodK l i = false := by rw [e, decide_eq_false (by omega)]; simp
          simp [hk, hp, splice, c1, c2, c3, c4, hz2, hpos]
          refine RetOk.by (fun _ => none) ?_
          simp [results26, tabS, goodTo_bad hil hb]
        simp [hk, hp, splice, c1, c2, c3, c4, hz, hz2, hpos]
        refine ⟨i + 1, ⟨by omega, by rw [goodTo_succ, hg, e, hk1, decide_eq_true (by omega)]; rfl⟩, by omega, ?_⟩
        refine Weak.mk hE (lk []) _ _ _ ?_ ?_ ?_ ?_ ?_ <;> simp
    · simp at h
      have hil : i = l.length := by omega
      subst hil
      simp
      refine RetOk.by (fun _ => none) ?_
      simp [results26, tabS, hg]; omega
end Go.Proofs.Try
namespace Go.Proofs.Try
open Go.Psl
theorem okK_no2 {k : Int × Int × Int} (h : ¬ (-1073741824 ≤ k.1 ∧ k.1 ≤ 1073741824 ∧ -1073741824 ≤ k.2.1 ∧ k.2.1 ≤ k.2.2 ∧ k.2.2 ≤ 1073741824)) : okK k = false := by
  rw [← okK_iff] at h
  simpa using h
theorem fn76 (l : List (Int × Int × Int)) (hl : l.length ≤ 1000000) : Ct prog 76 [.d (knotsD l)] (vb (tabS l)) [] := by
  refine Ct.by gok eok mixed func76 c76 rfl (by simp [ntmps76]) (by simp) (by simp [ResIds]) fun E hE => ?_
  simp [p76]
  refine ACall.mk _ _ _ (fn79 l.length 2 32) (by first | (simp; done) | simp [Bor_ls, Bor1_ls]) (by simp) (by first | (left; simp; done) | (right; simp; done)) ?_
  by_cases h2 : l.length < 2
  · have h2' : ¬ (2 : Int) ≤ l.length := by omega
    simp [h2']
    refine RetOk.by (fun _ => none) ?_
    simp [results76, tabS]; omega
  by_cases h3 : 32 < l.length
  · have h3' : ¬ (l.length : Int) ≤ 32 := by omega
    simp [h3']
    refine RetOk.by (fun _ => none) ?_
    simp [results76, tabS]; omega
  have h2' : (2 : Int) ≤ l.length := by omega
  have h3' : (l.length : Int) ≤ 32 := by omega
  simp [h2', h3']
  refine pw_loop (α := Nat) (fun i => ⟨slots [(0, .d (knotsD l)), (3, vi i)], lk [], 0⟩) (fun i => i ≤ l.length ∧ goodTo l i = true) (fun i => l.length - i) 0 ?_ ?_ ?_
  · simp [goodTo]
  · refine Weak.mk hE (lk []) _ _ _ ?_ ?_ ?_ ?_ ?_ <;> simp
  · rintro i ⟨hi, hg⟩
    simp [p76l0]
    refine cR_split (fun h => ?_) (fun h => ?_)
    · simp at h
      have hil : i < l.length := by omega
      obtain ⟨k, hk⟩ : ∃ k, l[i]? = some k := ⟨l[i], by simp [hil]⟩
      by_cases h0 : i = 0
      · subst h0
        have e : goodK l 0 = okK k := goodK_zero hk
        have hz : IntKind.wrap .i64 1 = 1 := by decide
        by_cases c1 : -1073741824 ≤ k.1 ∧ k.1 ≤ 1073741824
        case neg =>
          have hb : goodK l 0 = false := by simp [e, okK_no2 (k := k) (by omega)]
          simp [hk, splice]
          refine ACall.mk _ _ _ (fn79 k.1 (-1073741824) 1073741824) (by first | (simp; done) | simp [Bor_ls, Bor1_ls]) (by simp) (by first | (left; simp; done) | (right; simp; done)) ?_
          have c1' : (decide (-1073741824 ≤ k.1) && decide (k.1 ≤ 1073741824)) = false := by simp; omega
          simp [c1']
          refine RetOk.by (fun _ => none) ?_
          simp [results76, tabS, goodTo_bad hil hb]
        by_cases c2 : -1073741824 ≤ k.2.1 ∧ k.2.1 ≤ k.2.2
        case neg =>
          have hb : goodK l 0 = false := by simp [e, okK_no2 (k := k) (by omega)]
          simp [hk, splice]
          refine ACall.mk _ _ _ (fn79 k.1 (-1073741824) 1073741824) (by first | (simp; done) | simp [Bor_ls, Bor1_ls]) (by simp) (by first | (left; simp; done) | (right; simp; done)) ?_
          simp [c1]
          refine ACall.mk _ _ _ (fn79 k.2.1 (-1073741824) k.2.2) (by first | (simp; done) | simp [Bor_ls, Bor1_ls]) (by simp) (by first | (left; simp; done) | (right; simp; done)) ?_
          have c2' : (decide (-1073741824 ≤ k.2.1) && decide (k.2.1 ≤ k.2.2)) = false := by simp; omega
          simp [c2']
          refine RetOk.by (fun _ => none) ?_
          simp [results76, tabS, goodTo_bad hil hb]
        by_cases c3 : k.2.2 ≤ 1073741824
        case neg =>
          have hb : goodK l 0 = false := by simp [e, okK_no2 (k := k) (by omega)]
          simp [hk, splice]
          refine ACall.mk _ _ _ (fn79 k.1 (-1073741824) 1073741824) (by first | (simp; done) | simp [Bor_ls, Bor1_ls]) (by simp) (by first | (left; simp; done) | (right; simp; done)) ?_
          simp [c1]
          refine ACall.mk _ _ _ (fn79 k.2.1 (-1073741824) k.2.2) (by first | (simp; done) | simp [Bor_ls, Bor1_ls]) (by simp) (by first | (left; simp; done) | (right; simp; done)) ?_
          simp [c2]
          refine ACall.mk _ _ _ (fn79 k.2.2 k.2.1 1073741824) (by first | (simp; done) | simp [Bor_ls, Bor1_ls]) (by simp) (by first | (left; simp; done) | (right; simp; done)) ?_
          simp [c2, c3]
          refine RetOk.by (fun _ => none) ?_
          simp [results76, tabS, goodTo_bad hil hb]
        have hk1 : okK k = true := by rw [okK_iff]; omega
        simp [hk, splice]
        refine ACall.mk _ _ _ (fn79 k.1 (-1073741824) 1073741824) (by first | (simp; done) | simp [Bor_ls, Bor1_ls]) (by simp) (by first | (left; simp; done) | (right; simp; done)) ?_
        simp [c1]
        refine ACall.mk _ _ _ (fn79 k.2.1 (-1073741824) k.2.2) (by first | (simp; done) | simp [Bor_ls, Bor1_ls]) (by simp) (by first | (left; simp; done) | (right; simp; done)) ?_
        simp [c2]
        refine ACall.mk _ _ _ (fn79 k.2.2 k.2.1 1073741824) (by first | (simp; done) | simp [Bor_ls, Bor1_ls]) (by simp) (by first | (left; simp; done) | (right; simp; done)) ?_
        simp [c2, c3, hz]
        refine ⟨1, ⟨by omega, by rw [goodTo_succ, hg, e, hk1]; rfl⟩, by omega, ?_⟩
        refine Weak.mk hE (lk []) _ _ _ ?_ ?_ ?_ ?_ ?_ <;> simp
      · obtain ⟨j, hj⟩ : ∃ j, i = j + 1 := ⟨i - 1, by omega⟩
        obtain ⟨p, hp⟩ : ∃ p, l[j]? = some p := ⟨l[j], by simp [show j < l.length by omega]⟩
        have e : goodK l i = (okK k && decide (p.1 < k.1)) := by subst hj; exact goodK_succ hk hp
        have hz : IntKind.wrap .i64 ((i : Int) + 1) = (i : Int) + 1 := wrap64 (by omega) (by omega)
        have hz2 : IntKind.wrap .i64 ((i : Int) - 1) = (j : Int) := by rw [wrap64 (by omega) (by omega)]; omega
        have hpos : 0 < i := by omega
        by_cases c1 : -1073741824 ≤ k.1 ∧ k.1 ≤ 1073741824
        case neg =>
          have hb : goodK l i = false := by simp [e, okK_no2 (k := k) (by omega)]
          simp [hk, splice]
          refine ACall.mk _ _ _ (fn79 k.1 (-1073741824) 1073741824) (by first | (simp; done) | simp [Bor_ls, Bor1_ls]) (by simp) (by first | (left; simp; done) | (right; simp; done)) ?_
          have c1' : (decide (-1073741824 ≤ k.1) && decide (k.1 ≤ 1073741824)) = false := by simp; omega
          simp [c1']
          refine RetOk.by (fun _ => none) ?_
          simp [results76, tabS, goodTo_bad hil hb]
        by_cases c2 : -1073741824 ≤ k.2.1 ∧ k.2.1 ≤ k.2.2
        case neg =>
          have hb : goodK l i = false := by simp [e, okK_no2 (k := k) (by omega)]
          simp [hk, splice]
          refine ACall.mk _ _ _ (fn79 k.1 (-1073741824) 1073741824) (by first | (simp; done) | simp [Bor_ls, Bor1_ls]) (by simp) (by first | (left; simp; done) | (right; simp; done)) ?_
          simp [c1]
          refine ACall.mk _ _ _ (fn79 k.2.1 (-1073741824) k.2.2) (by first | (simp; done) | simp [Bor_ls, Bor1_ls]) (by simp) (by first | (left; simp; done) | (right; simp; done)) ?_
          have c2' : (decide (-1073741824 ≤ k.2.1) && decide (k.2.1 ≤ k.2.2)) = false := by simp; omega
          simp [c2']
          refine RetOk.by (fun _ => none) ?_
          simp [results76, tabS, goodTo_bad hil hb]
        by_cases c3 : k.2.2 ≤ 1073741824
        case neg =>
          have hb : goodK l i = false := by simp [e, okK_no2 (k := k) (by omega)]
          simp [hk, splice]
          refine ACall.mk _ _ _ (fn79 k.1 (-1073741824) 1073741824) (by first | (simp; done) | simp [Bor_ls, Bor1_ls]) (by simp) (by first | (left; simp; done) | (right; simp; done)) ?_
          simp [c1]
          refine ACall.mk _ _ _ (fn79 k.2.1 (-1073741824) k.2.2) (by first | (simp; done) | simp [Bor_ls, Bor1_ls]) (by simp) (by first | (left; simp; done) | (right; simp; done)) ?_
          simp [c2]
          refine ACall.mk _ _ _ (fn79 k.2.2 k.2.1 1073741824) (by first | (simp; done) | simp [Bor_ls, Bor1_ls]) (by simp) (by first | (left; simp; done) | (right; simp; done)) ?_
          simp [c2, c3]
          refine RetOk.by (fun _ => none) ?_
          simp [results76, tabS, goodTo_bad hil hb]
        have hk1 : okK k = true := by rw [okK_iff]; omega
        simp [hk, splice]
        refine ACall.mk _ _ _ (fn79 k.1 (-1073741824) 1073741824) (by first | (simp; done) | simp [Bor_ls, Bor1_ls]) (by simp) (by first | (left; simp; done) | (right; simp; done)) ?_
        simp [c1]
        refine ACall.mk _ _ _ (fn79 k.2.1 (-1073741824) k.2.2) (by first | (simp; done) | simp [Bor_ls, Bor1_ls]) (by simp) (by first | (left; simp; done) | (right; simp; done)) ?_
        simp [c2]
        refine ACall.mk _ _ _ (fn79 k.2.2 k.2.1 1073741824) (by first | (simp; done) | simp [Bor_ls, Bor1_ls]) (by simp) (by first | (left; simp; done) | (right; simp; done)) ?_
        by_cases c4 : k.1 ≤ p.1
        · have hb : goodK l i = false := by rw [e, decide_eq_false (by omega)]; simp
          simp [hk, hp, c2, c3, c4, hz2, hpos]
          refine RetOk.by (fun _ => none) ?_
          simp [results76, tabS, goodTo_bad hil hb]
        simp [hk, hp, c2, c3, c4, hz, hz2, hpos]
        refine ⟨i + 1, ⟨by omega, by rw [goodTo_succ, hg, e, hk1, decide_eq_true (by omega)]; rfl⟩, by omega, ?_⟩
        refine Weak.mk hE (lk []) _ _ _ ?_ ?_ ?_ ?_ ?_ <;> simp
    · simp at h
      have hil : i = l.length := by omega
      subst hil
      simp
      refine RetOk.by (fun _ => none) ?_
      simp [results76, tabS, hg]; omega
theorem fn27 (l : List (Int × Int × Int)) (hl : l.length ≤ 1000000) : Ct prog 27 [.d (knotsD l)] (vi (if tabS l then 0 else 13)) [] := by
  refine Ct.by gok eok mixed func27 c27 rfl (by simp [ntmps27]) (by simp) (by simp [ResIds]) fun E hE => ?_
  simp [p27]
  refine ACall.mk _ _ _ (fn76 l hl) (by first | (simp; done) | simp [Bor_ls, Bor1_ls]) (by simp) (by first | (left; simp; done) | (right; simp; done)) ?_
  by_cases h : tabS l = true
  · simp [h]
    refine RetOk.by (fun _ => none) ?_
    simp [results27]
  · simp [h]
    refine RetOk.by (fun _ => none) ?_
    simp [results27]
theorem tdiv_pos {a b : Int} (hb : 0 < b) : a.tdiv b = if 0 ≤ a ∨ a % b = 0 then a / b else a / b + 1 := by
  rw [Int.tdiv_eq_ediv]
  by_cases h : 0 ≤ a ∨ b ∣ a
  · rw [if_pos h, if_pos]
    · simp
    · exact h.imp id Int.emod_eq_zero_of_dvd
  · rw [if_neg h, if_neg]
    · rw [Int.sign_eq_one_of_pos hb]
    · exact fun h2 => h (h2.imp id Int.dvd_of_emod_eq_zero)
theorem fn113 (a b : Int) (ha : -9223372036854775807 ≤ a ∧ a ≤ 9223372036854775807) (hb : 1 ≤ b) (hb2 : b ≤ 9223372036854775807) : Ct prog 113 [vi a, vi b] (vi (a / b)) [] := by
  refine Ct.by gok eok mixed func113 c113 rfl (by simp [ntmps113]) (by simp) (by simp [ResIds]) fun E hE => ?_
  have e := Int.mul_ediv_add_emod a b
  have m0 := Int.emod_nonneg a (show b ≠ 0 by omega)
  have m1 := Int.emod_lt_of_pos a (show 0 < b by omega)
  have t := tdiv_pos (a := a) (b := b) (by omega)
  have q0 : -9223372036854775807 ≤ a / b := by
    refine (Int.le_ediv_iff_mul_le (by omega)).2 ?_
    have := Int.mul_le_mul_of_nonneg_left hb (show (0 : Int) ≤ 9223372036854775807 by omega)
    omega
  have q1 : a / b ≤ 9223372036854775807 := by
    by_cases h0 : 0 ≤ a
    · exact Int.le_trans (Int.ediv_le_self _ h0) ha.2
    · have := Int.ediv_neg_of_neg_of_pos (show a < 0 by omega) (show 0 < b by omega)
      omega
  rw [Int.mul_comm] at e
  have bn : ¬ b = 0 := by omega
  by_cases hc : 0 ≤ a ∨ a % b = 0
  · rw [if_pos hc] at t
    have w1 : IntKind.wrap .i64 (a / b) = a / b := wrap64 (by omega) (by omega)
    have w2 : IntKind.wrap .i64 (a / b * b) = a / b * b := wrap64 (by omega) (by omega)
    have hn : ¬ a < a / b * b := by omega
    simp [p113, bn, t, w1, w2, hn]
    refine RetOk.by (fun _ => none) ?_
    simp [results113]
  · rw [if_neg hc] at t
    have hneg : a < 0 := by omega
    have q2 := Int.ediv_neg_of_neg_of_pos hneg (show 0 < b by omega)
    have e2 : (a / b + 1) * b = a / b * b + b := by rw [Int.add_mul]; omega
    have e3 : (a / b + 1) * b ≤ 0 := Int.mul_nonpos_of_nonpos_of_nonneg (by omega) (by omega)
    have w1 : IntKind.wrap .i64 (a / b + 1) = a / b + 1 := wrap64 (by omega) (by omega)
    have w2 : IntKind.wrap .i64 ((a / b + 1) * b) = (a / b + 1) * b := wrap64 (by omega) (by omega)
    have hn : a < (a / b + 1) * b := by omega
    have w3 : IntKind.wrap .i64 (a / b + 1 - 1) = a / b := by rw [wrap64 (by omega) (by omega)]; omega
    have w4 : IntKind.wrap .i64 (a / b) = a / b := wrap64 (by omega) (by omega)
    simp [p113, bn, t, w1, w2, w4, hn]
    refine RetOk.by (fun _ => none) ?_
    simp [results113]
end Go.Proofs.Try
namespace Go.Proofs.Try
open Go.Psl
theorem bor_refl {H : Hp} (x : D) : Bor H (.d x) (.d x) := Or.inl rfl
@[simp] theorem bor_all {H : Hp} : ∀ ds : List D, All2 (Bor H) (ds.map .d) (ds.map .d)
  | [] => trivial
  | x :: ds => ⟨bor_refl x, bor_all ds⟩
theorem fn111 (n r : Nat) (f : FuncId) (ds : List D) (p : Nat → Bool) (hn : n ≤ 1000000) (hp : ∀ i : Nat, i < n → Ct prog f (vi i :: ds.map .d) (vb (p i)) []) (hr : r ≤ n) (h0 : ∀ i, i < r → p i = false) (h1 : ∀ i, r ≤ i → i < n → p i = true) :
    Ct prog 111 [vi n, .d (.fn f ds)] (vi r) [] := by
  refine Ct.by gok eok mixed func111 c111 rfl (by simp [ntmps111]) (by simp) (by simp [ResIds]) fun E hE => ?_
  simp [p111]
  refine pw_loop (α := Nat × Nat) (fun x => ⟨slots [(1, .d (.fn f ds)), (5, vi x.1), (6, vi x.2)], lk [], 0⟩) (fun x => x.1 ≤ r ∧ r ≤ x.2 ∧ x.2 ≤ n) (fun x => x.2 - x.1) (0, n) ?_ ?_ ?_
  · simp; omega
  · refine Weak.mk hE (lk []) _ _ _ ?_ ?_ ?_ ?_ ?_ <;> simp
  · rintro ⟨lo, hi⟩ ⟨g1, g2, g3⟩
    simp only at g1 g2 g3
    simp [p111l0]
    by_cases hlt : lo < hi
    · have e1 : IntKind.wrap .i64 ((lo : Int) + hi) = (lo : Int) + hi := wrap64 (by omega) (by omega)
      obtain ⟨m, hm⟩ : ∃ m : Nat, m = (lo + hi) / 2 := ⟨_, rfl⟩
      have e2 : IntKind.wrap .u64 ((lo : Int) + hi) = (lo : Int) + hi := wrapu64 (by omega) (by omega)
      have e3 : IntKind.wrap .i64 (((lo : Int) + hi) / 2) = (m : Int) := by rw [wrap64 (by omega) (by omega)]; omega
      have e4 : IntKind.wrap .i64 ((m : Int) + 1) = ((m + 1 : Nat) : Int) := by rw [wrap64 (by omega) (by omega)]; rfl
      simp only [Int.natCast_add, Int.cast_ofNat_Int] at e4
      simp [hlt, e1, e2, e3]
      refine ACall.mk _ _ _ (hp m (by omega)) (by first | (simp; done) | simp [Bor_ls, Bor1_ls]) (by simp) (by first | (left; simp; done) | (right; simp; done)) ?_
      cases hpm : p m with
      | true =>
        have : r ≤ m := Nat.not_lt.1 fun h => by rw [h0 m h] at hpm; cases hpm
        simp
        refine ⟨lo, m, ⟨by omega, by omega, by omega⟩, by omega, ?_⟩
        refine Weak.mk hE (lk []) _ _ _ ?_ ?_ ?_ ?_ ?_ <;> simp
      | false =>
        have : m < r := Nat.not_le.1 fun h => by rw [h1 m h (by omega)] at hpm; cases hpm
        simp [e4]
        refine ⟨m + 1, hi, ⟨by omega, by omega, by omega⟩, by omega, ?_⟩
        refine Weak.mk hE (lk []) _ _ _ ?_ ?_ ?_ ?_ ?_ <;> simp
    · have : lo = r := by omega
      subst this
      simp [hlt]
      refine RetOk.by (fun _ => none) ?_
      simp [results111]
end Go.Proofs.Try
namespace Go.Proofs.Try
open Go.Psl
theorem tab_lt {l : List (Int × Int × Int)} (h : tabS l = true) : ∀ (d i : Nat) (a b : Int × Int × Int), l[i]? = some a → l[i + d + 1]? = some b → a.1 < b.1 := by
  have hg : ∀ i (k : Int × Int × Int), l[i]? = some k → goodK l i = true := fun i k hk => by
    simp only [tabS, Bool.and_eq_true, goodTo, List.all_eq_true] at h
    refine h.2 i (List.mem_range.2 ?_)
    exact (List.getElem?_eq_some_iff.1 hk).1
  have hs : ∀ (i : Nat) (a b : Int × Int × Int), l[i]? = some a → l[i + 1]? = some b → a.1 < b.1 := fun i a b ha hb => by
    have := hg (i + 1) b hb
    rw [goodK_succ hb ha] at this
    simp only [Bool.and_eq_true, decide_eq_true_eq] at this
    exact this.2
  intro d
  induction d with
  | zero => exact hs
  | succ d ih =>
    intro i a b ha hb
    obtain ⟨c, hc⟩ : ∃ c, l[i + d + 1]? = some c := by
      have := (List.getElem?_eq_some_iff.1 hb).1
      exact ⟨l[i + d + 1], by simp⟩
    have h1 := ih i a c ha hc
    have h2 := hs (i + d + 1) c b hc hb
    omega
theorem tab_mono {l : List (Int × Int × Int)} (h : tabS l = true) {i j : Nat} {a b : Int × Int × Int} (ha : l[i]? = some a) (hb : l[j]? = some b) (hij : i < j) : a.1 < b.1 :=
  tab_lt h (j - i - 1) i a b ha (by rw [show i + (j - i - 1) + 1 = j by omega]; exact hb)
theorem tab_okK {l : List (Int × Int × Int)} (h : tabS l = true) {i : Nat} {k : Int × Int × Int} (hk : l[i]? = some k) : okK k = true := by
  simp only [tabS, Bool.and_eq_true, goodTo, List.all_eq_true] at h
  have := h.2 i (List.mem_range.2 (List.getElem?_eq_some_iff.1 hk).1)
  unfold goodK at this
  rw [hk] at this
  simp only [Bool.and_eq_true] at this
  exact this.1
theorem tab_len {l : List (Int × Int × Int)} (h : tabS l = true) : 2 ≤ l.length ∧ l.length ≤ 32 := by
  simp only [tabS, Bool.and_eq_true, decide_eq_true_eq] at h
  exact h.1
/-- how many knots are not beyond x -/
def cntS (l : List (Int × Int × Int)) (x : Int) : Nat := (l.takeWhile fun k => decide (k.1 ≤ x)).length
theorem cnt_le (l : List (Int × Int × Int)) (x : Int) : cntS l x ≤ l.length := by
  unfold cntS
  exact (List.takeWhile_sublist _).length_le
theorem cnt_in : ∀ (l : List (Int × Int × Int)) (x : Int) (i : Nat) (k : Int × Int × Int), l[i]? = some k → i < cntS l x → k.1 ≤ x
  | [], _, _, _, h, _ => by simp at h
  | a :: l, x, i, k, h, hi => by
    unfold cntS at hi
    by_cases hc : a.1 ≤ x
    · cases i with
      | zero => simp at h; subst h; exact hc
      | succ i =>
        simp [hc] at hi h
        exact cnt_in l x i k h (by unfold cntS; exact hi)
    · simp [hc] at hi
theorem cnt_at : ∀ (l : List (Int × Int × Int)) (x : Int) (k : Int × Int × Int), l[cntS l x]? = some k → x < k.1
  | [], _, _, h => by simp at h
  | a :: l, x, k, h => by
    unfold cntS at h
    by_cases hc : a.1 ≤ x
    · simp [hc] at h
      exact cnt_at l x k (by unfold cntS; exact h)
    · simp [hc] at h
      subst h; omega
theorem cnt_out {l : List (Int × Int × Int)} (ht : tabS l = true) {x : Int} {i : Nat} {k : Int × Int × Int} (hk : l[i]? = some k) (hi : cntS l x ≤ i) : x < k.1 := by
  have hlt := (List.getElem?_eq_some_iff.1 hk).1
  obtain ⟨c, hc⟩ : ∃ c, l[cntS l x]? = some c := ⟨l[cntS l x], by simp⟩
  have h1 := cnt_at l x c hc
  by_cases he : cntS l x = i
  · rw [he, hk] at hc; cases hc; exact h1
  · have := tab_mono ht hc hk (by omega)
    omega
/-- between which knots x is -/
def segS (l : List (Int × Int × Int)) (x : Int) : Nat := min (max (cntS l x) 1) (l.length - 1) - 1
def lineS (a b : Int × Int × Int) (x : Int) : Int × Int := (a.2.1 + (x - a.1) * (b.2.1 - a.2.1) / (b.1 - a.1), a.2.2 - (x - a.1) * (a.2.2 - b.2.2) / (b.1 - a.1))
def atS (l : List (Int × Int × Int)) (x : Int) : Int × Int := match l[segS l x]?, l[segS l x + 1]? with
  | some a, some b => lineS a b x
  | _, _ => (0, 0)
theorem fn112 (l : List (Int × Int × Int)) (_ : l.length ≤ 1000000) (x : Int) (i : Nat) (k : Int × Int × Int) (hk : l[i]? = some k) : Ct prog 112 [vi i, .d (.ref [knotsD l]), .d (.ref [di x])] (vb (decide (x < k.1))) [] := by
  refine Ct.by gok eok mixed func112 c112 rfl (by simp [ntmps112]) (by simp) (by simp [ResIds]) fun E hE => ?_
  have hil : i < l.length := (List.getElem?_eq_some_iff.1 hk).1
  simp [p112, hk]
  refine RetOk.by (fun _ => none) ?_
  simp [results112]
theorem ediv_between {m w n : Int} (hn : 0 < n) (h0 : 0 ≤ m) (h1 : m ≤ n) (hw : -2147483648 ≤ w ∧ w ≤ 2147483648) : -2147483648 ≤ m * w / n ∧ m * w / n ≤ 2147483648 := by
  have b1 : m * w ≤ 2147483648 * n := by
    have h2 : m * w ≤ m * 2147483648 := Int.mul_le_mul_of_nonneg_left hw.2 h0
    have h3 : m * 2147483648 ≤ n * 2147483648 := Int.mul_le_mul_of_nonneg_right h1 (by omega)
    omega
  have b2 : -2147483648 * n ≤ m * w := by
    have h2 : m * -2147483648 ≤ m * w := Int.mul_le_mul_of_nonneg_left hw.1 h0
    have h3 : n * -2147483648 ≤ m * -2147483648 := Int.mul_le_mul_of_nonpos_right h1 (by omega)
    omega
  refine ⟨(Int.le_ediv_iff_mul_le hn).2 b2, ?_⟩
  have := Int.ediv_le_ediv hn b1
  rw [Int.mul_ediv_cancel _ (by omega)] at this
  exact this
theorem mul_between {m w : Int} (h0 : 0 ≤ m) (h1 : m ≤ 2147483648) (hw : -2147483648 ≤ w ∧ w ≤ 2147483648) : -4611686018427387904 ≤ m * w ∧ m * w ≤ 4611686018427387904 := by
  have h2 : m * w ≤ m * 2147483648 := Int.mul_le_mul_of_nonneg_left hw.2 h0
  have h3 : m * -2147483648 ≤ m * w := Int.mul_le_mul_of_nonneg_left hw.1 h0
  omega
theorem fn75 (l : List (Int × Int × Int)) (x : Int) (ht : tabS l = true) (h0 : ∀ k, l[0]? = some k → k.1 ≤ x) (h1 : ∀ k, l[l.length - 1]? = some k → x ≤ k.1) : Ct prog 75 [.d (knotsD l), vi x] (vsp (atS l x).1 (atS l x).2) [] := by
  have hlen := tab_len ht
  have hc := cnt_le l x
  have hs : segS l x + 1 < l.length := by unfold segS; omega
  obtain ⟨a, ha⟩ : ∃ a, l[segS l x]? = some a := ⟨l[segS l x], by simp⟩
  obtain ⟨b, hb⟩ : ∃ b, l[segS l x + 1]? = some b := ⟨l[segS l x + 1], by simp⟩
  have hat : atS l x = lineS a b x := by simp [atS, ha, hb]
  have oa := okK_iff.1 (tab_okK ht ha)
  have ob := okK_iff.1 (tab_okK ht hb)
  have hab := tab_mono ht ha hb (by omega)
  have hax : a.1 ≤ x := by
    by_cases hz : segS l x = 0
    · rw [hz] at ha; exact h0 a ha
    · exact cnt_in l x _ a ha (by unfold segS at hz ⊢; omega)
  have hxb : x ≤ b.1 := by
    by_cases hz : segS l x + 1 = l.length - 1
    · rw [hz] at hb; exact h1 b hb
    · have := cnt_out ht hb (x := x) (by unfold segS at hz ⊢; omega)
      omega
  rw [hat]
  obtain ⟨s, hsg⟩ : ∃ s, segS l x = s := ⟨_, rfl⟩
  rw [hsg] at ha hb hs
  have hse : Ct prog 111 [vi l.length, .d (.fn 112 [.ref [knotsD l], .ref [di x]])] (vi (cntS l x)) [] := by
    refine fn111 l.length (cntS l x) _ _ (fun i => (l[i]?.map fun k => decide (x < k.1)).getD false) (by omega) (fun i hi => ?_) hc (fun i hi => ?_) (fun i hi hi2 => ?_)
    · obtain ⟨k, hk⟩ : ∃ k, l[i]? = some k := ⟨l[i], by simp [hi]⟩
      rw [hk]
      exact fn112 l (by omega) x i k hk
    · obtain ⟨k, hk⟩ : ∃ k, l[i]? = some k := ⟨l[i], by simp [show i < l.length by omega]⟩
      have := cnt_in l x i k hk hi
      simp [hk]; omega
    · obtain ⟨k, hk⟩ : ∃ k, l[i]? = some k := ⟨l[i], by simp [hi2]⟩
      have := cnt_out ht hk hi
      simp [hk]; omega
  refine Ct.by gok eok mixed func75 c75 rfl (by simp [ntmps75]) (by simp) (by simp [ResIds]) fun E hE => ?_
  simp [p75]
  refine ACall.mk _ _ _ (hse) (by first | (simp; done) | simp [Bor_ls, Bor1_ls]) (by simp) (by first | (left; simp; done) | (right; simp; done)) ?_
  obtain ⟨s1, hs1⟩ : ∃ s1, s1 = s + 1 := ⟨_, rfl⟩
  rw [← hs1] at hb
  have w0 : IntKind.wrap .i64 ((l.length : Int) - 1) = (l.length : Int) - 1 := wrap64 (by omega) (by omega)
  have w1 : IntKind.wrap .i64 ((s1 : Int) - 1) = (s : Int) := by rw [wrap64 (by omega) (by omega)]; omega
  have hmn : min (max (cntS l x : Int) 1) ((l.length : Int) - 1) = (s1 : Int) := by unfold segS at hsg; omega
  have w2 : IntKind.wrap .i64 (x - a.1) = x - a.1 := wrap64 (by omega) (by omega)
  have w3 : IntKind.wrap .i64 (b.1 - a.1) = b.1 - a.1 := wrap64 (by omega) (by omega)
  have w4 : IntKind.wrap .i64 (b.2.1 - a.2.1) = b.2.1 - a.2.1 := wrap64 (by omega) (by omega)
  have w5 : IntKind.wrap .i64 (a.2.2 - b.2.2) = a.2.2 - b.2.2 := wrap64 (by omega) (by omega)
  have b1 := mul_between (m := x - a.1) (w := b.2.1 - a.2.1) (by omega) (by omega) (by omega)
  have b2 := mul_between (m := x - a.1) (w := a.2.2 - b.2.2) (by omega) (by omega) (by omega)
  have c1 := ediv_between (n := b.1 - a.1) (m := x - a.1) (w := b.2.1 - a.2.1) (by omega) (by omega) (by omega) (by omega)
  have c2 := ediv_between (n := b.1 - a.1) (m := x - a.1) (w := a.2.2 - b.2.2) (by omega) (by omega) (by omega) (by omega)
  have w6 : IntKind.wrap .i64 ((x - a.1) * (b.2.1 - a.2.1)) = (x - a.1) * (b.2.1 - a.2.1) := wrap64 (by omega) (by omega)
  have w7 : IntKind.wrap .i64 ((x - a.1) * (a.2.2 - b.2.2)) = (x - a.1) * (a.2.2 - b.2.2) := wrap64 (by omega) (by omega)
  have w8 : IntKind.wrap .i64 (a.2.1 + (x - a.1) * (b.2.1 - a.2.1) / (b.1 - a.1)) = a.2.1 + (x - a.1) * (b.2.1 - a.2.1) / (b.1 - a.1) := wrap64 (by omega) (by omega)
  have w9 : IntKind.wrap .i64 (a.2.2 - (x - a.1) * (a.2.2 - b.2.2) / (b.1 - a.1)) = a.2.2 - (x - a.1) * (a.2.2 - b.2.2) / (b.1 - a.1) := wrap64 (by omega) (by omega)
  simp [w0, hmn]
  refine pw_drawA [(11, 9), (12, 10)] (by kernel_rfl) ?_
  simp [w1, ha, hb, inC, Nat.testBit, splice, w2, w3, w4, w6]
  refine ACall.mk _ _ _ (fn113 ((x - a.1) * (b.2.1 - a.2.1)) (b.1 - a.1) (by omega) (by omega) (by omega)) (by first | (simp; done) | simp [Bor_ls, Bor1_ls]) (by simp) (by first | (left; simp; done) | (right; simp; done)) ?_
  simp [w8, w5, w7]
  refine ACall.mk _ _ _ (fn113 ((x - a.1) * (a.2.2 - b.2.2)) (b.1 - a.1) (by omega) (by omega) (by omega)) (by first | (simp; done) | simp [Bor_ls, Bor1_ls]) (by simp) (by first | (left; simp; done) | (right; simp; done)) ?_
  simp [w9, splice]
  refine RetOk.by (fun _ => none) ?_
  simp [results75, lineS]
end Go.Proofs.Try
namespace Go.Proofs.Try
open Go.Psl
def accV (l : List (Int × Int × Int)) (x : Int × Int) (i : Nat) : Int × Int := (l.take i).foldl (fun o k => if x.1 < k.1 ∧ k.1 < x.2 then joinI o k.2 else o) (joinI (atS l x.1) (atS l x.2))
theorem accV_succ {l : List (Int × Int × Int)} {x : Int × Int} {i : Nat} {k : Int × Int × Int} (hk : l[i]? = some k) : accV l x (i + 1) = if x.1 < k.1 ∧ k.1 < x.2 then joinI (accV l x i) k.2 else accV l x i := by
  simp [accV, List.take_add_one, hk]
def valS (l : List (Int × Int × Int)) (x : Int × Int) : (Int × Int) × Int :=
  if tabS l = true then
    if okS x = true then
      match l[0]?, l[l.length - 1]? with
      | some a, some b => if x.1 < a.1 ∨ b.1 < x.2 then ((0, 0), 2) else (accV l x l.length, 0)
      | _, _ => ((0, 0), 0)
    else ((0, 0), 10)
  else ((0, 0), 13)
theorem fn20 (l : List (Int × Int × Int)) (x : Int × Int) (hl : l.length ≤ 1000000) : Ct prog 20 [.d (knotsD l), vsp x.1 x.2] (vse (valS l x)) [] := by
  refine Ct.by gok eok mixed func20 c20 rfl (by simp [ntmps20]) (by simp) (by simp [ResIds]) fun E hE => ?_
  simp [p20]
  refine ACall.mk _ _ _ (fn26 l hl) (by first | (simp; done) | simp [Bor_ls, Bor1_ls]) (by simp) (by first | (left; simp; done) | (right; simp; done)) ?_
  by_cases ht : tabS l = true
  · simp [ht]
    refine ACall.mk _ _ _ (fn46 x) (by first | (simp; done) | simp [Bor_ls, Bor1_ls]) (by simp) (by first | (left; simp; done) | (right; simp; done)) ?_
    by_cases hx : okS x = true
    · have hlen := tab_len ht
      obtain ⟨a, ha⟩ : ∃ a, l[0]? = some a := ⟨l[0], by simp⟩
      obtain ⟨e, he⟩ : ∃ e, e = l.length - 1 := ⟨_, rfl⟩
      obtain ⟨b, hb⟩ : ∃ b, l[e]? = some b := ⟨l[e], by simp [show e < l.length by omega]⟩
      have we : IntKind.wrap .i64 ((l.length : Int) - 1) = (e : Int) := by rw [wrap64 (by omega) (by omega)]; omega
      by_cases c1 : x.1 < a.1
      · simp [hx, ha, c1, splice]
        refine RetOk.by (fun _ => none) ?_
        simp [results20, valS, ht, hx, ha, ← he, hb, c1]
      by_cases c2 : b.1 < x.2
      · simp [hx, ha, hb, c1, c2, we, splice]
        refine RetOk.by (fun _ => none) ?_
        simp [results20, valS, ht, hx, ha, ← he, hb, c1, c2]
      have hxx := okS_iff.1 hx
      have hlast : ∀ k, l[l.length - 1]? = some k → x.2 ≤ k.1 := fun k hk => by rw [← he, hb] at hk; cases hk; omega
      have hfirst : ∀ k, l[0]? = some k → k.1 ≤ x.1 := fun k hk => by rw [ha] at hk; cases hk; omega
      simp [hx, ha, hb, c1, c2, we]
      refine ACall.mk _ _ _ (fn75 l x.1 ht hfirst (fun k hk => by have := hlast k hk; omega)) (by first | (simp; done) | simp [Bor_ls, Bor1_ls]) (by simp) (by first | (left; simp; done) | (right; simp; done)) ?_
      simp [inC, Nat.testBit]
      refine ACall.mk _ _ _ (fn75 l x.2 ht (fun k hk => by have := hfirst k hk; omega) hlast) (by first | (simp; done) | simp [Bor_ls, Bor1_ls]) (by simp) (by first | (left; simp; done) | (right; simp; done)) ?_
      simp [splice, repl]
      refine ACall.mk _ _ _ (fn74 (atS l x.1) [atS l x.2] (by simp)) (by first | (simp; done) | simp [Bor_ls, inC, Nat.testBit]) (by simp) (by first | (left; simp; done) | (right; simp; done)) ?_
      simp [splice]
      refine pw_loopC (α := Nat) 0 (fun _ : Unit => ⟨slots [(4, .lp 0 0), (8, .lp 1 0)], lk [(0, [vi 0, vi 0]), (1, [vi (accV l x l.length).1, vi (accV l x l.length).2])], 2⟩) (fun _ => True) (fun i => ⟨slots [(3, .lp 2 0), (4, .lp 0 0), (8, .lp 1 0), (53, .d (knotsD l)), (54, vi l.length), (55, vi i)], lk [(0, [vi 0, vi 0]), (1, [vi (accV l x i).1, vi (accV l x i).2]), (2, [vi x.1, vi x.2])], 3⟩) (fun i => i ≤ l.length) (fun i => l.length - i) 0 ?_ ?_ ?_ fun _ _ => ?_
      · simp
      · refine Weak.mk hE (lk [(0, 1048576), (1, 44040192), (2, 0)]) _ _ _ ?_ ?_ ?_ ?_ ?_ <;> simp [accV, aroundS]
      · intro i hi
        simp [p20l0]
        refine cR_split (fun h => ?_) (fun h => ?_)
        · simp at h
          obtain ⟨k, hk⟩ : ∃ k, l[i]? = some k := ⟨l[i], by simp [h]⟩
          have hz : IntKind.wrap .i64 ((i : Int) + 1) = (i : Int) + 1 := wrap64 (by omega) (by omega)
          by_cases d1 : x.1 < k.1
          · by_cases d2 : k.1 < x.2
            · simp [hk, d1, d2, splice, repl]
              refine ACall.mk _ _ _ (fn74 (accV l x i) [k.2] (by simp)) (by first | (simp; done) | simp [Bor_ls]) (by simp) (by first | (left; simp; done) | (right; simp; done)) ?_
              simp [hz, splice]
              refine ⟨i + 1, by omega, by omega, ?_⟩
              refine Weak.mk hE (lk [(0, 0), (1, 1), (2, 2)]) _ _ _ ?_ ?_ ?_ ?_ ?_ <;> simp [accV_succ hk, aroundS, d1, d2]
            · simp [hk, d1, d2, hz, splice]
              refine ⟨i + 1, by omega, by omega, ?_⟩
              refine Weak.mk hE (lk [(0, 0), (1, 1), (2, 2)]) _ _ _ ?_ ?_ ?_ ?_ ?_ <;> simp [accV_succ hk, d2]
          · simp [hk, d1, hz, splice]
            refine ⟨i + 1, by omega, by omega, ?_⟩
            refine Weak.mk hE (lk [(0, 0), (1, 1), (2, 2)]) _ _ _ ?_ ?_ ?_ ?_ ?_ <;> simp [accV_succ hk, d1]
        · simp at h
          have hil : i = l.length := by omega
          subst hil
          simp
          refine Weak.mk hE (lk [(0, 0), (1, 1)]) _ _ _ ?_ ?_ ?_ ?_ ?_ <;> simp
      · simp [splice]
        refine RetOk.by (fun _ => none) ?_
        simp [results20, valS, ht, hx, ha, ← he, hb, c1, c2]
    · simp [hx, splice]
      refine RetOk.by (fun _ => none) ?_
      simp [results20, valS, ht, hx]
  · simp [ht, splice]
    refine RetOk.by (fun _ => none) ?_
    simp [results20, valS, ht]
end Go.Proofs.Try
namespace Go.Proofs.Try
open Go.Psl
def floorS (a b : Int) : Int := if b < 0 then (-a) / (-b) else a / b
theorem tmod_pos {a b : Int} (hb : 0 < b) : a.tmod b = if 0 ≤ a ∨ a % b = 0 then a % b else a % b - b := by
  rw [Int.tmod_eq_emod]
  by_cases h : 0 ≤ a ∨ b ∣ a
  · rw [if_pos h, if_pos]
    · simp
    · exact h.imp id Int.emod_eq_zero_of_dvd
  · rw [if_neg h, if_neg]
    · omega
    · exact fun h2 => h (h2.imp id Int.dvd_of_emod_eq_zero)
theorem ediv_abs {a b : Int} (hb : 1 ≤ b) (ha : -4700000000000000000 ≤ a ∧ a ≤ 4700000000000000000) : -4700000000000000000 ≤ a / b ∧ a / b ≤ 4700000000000000000 := by
  refine ⟨(Int.le_ediv_iff_mul_le (by omega)).2 ?_, ?_⟩
  · have := Int.mul_le_mul_of_nonneg_left hb (show (0 : Int) ≤ 4700000000000000000 by omega)
    omega
  · by_cases h0 : 0 ≤ a
    · exact Int.le_trans (Int.ediv_le_self _ h0) ha.2
    · have := Int.ediv_neg_of_neg_of_pos (show a < 0 by omega) (show 0 < b by omega)
      omega
theorem fn114 (a b : Int) (ha : -4700000000000000000 ≤ a ∧ a ≤ 4700000000000000000) (hb0 : -4700000000000000000 ≤ b ∧ b ≤ 4700000000000000000) (hz : b ≠ 0) : Ct prog 114 [vi a, vi b] (vi (floorS a b)) [] := by
  refine Ct.by gok eok mixed func114 c114 rfl (by simp [ntmps114]) (by simp) (by simp [ResIds]) fun E hE => ?_
  by_cases hb : b < 0
  · have hpos : 0 < -b := by omega
    have bn : ¬ -b = 0 := by omega
    have n1 : IntKind.wrap .i64 (-a) = -a := wrap64 (by omega) (by omega)
    have n2 : IntKind.wrap .i64 (-b) = -b := wrap64 (by omega) (by omega)
    obtain ⟨A, hA⟩ : ∃ A, -a = A := ⟨_, rfl⟩
    obtain ⟨B, hB⟩ : ∃ B, -b = B := ⟨_, rfl⟩
    rw [hA] at n1
    rw [hB] at n2 bn hpos
    have m0 := Int.emod_nonneg A bn
    have m1 := Int.emod_lt_of_pos A hpos
    have t1 := tdiv_pos (a := A) hpos
    have t2 := tmod_pos (a := A) hpos
    have q := ediv_abs (a := A) (b := B) (by omega) (by omega)
    have u1 : IntKind.wrap .i64 (A / B) = A / B := wrap64 (by omega) (by omega)
    have u2 : IntKind.wrap .i64 (A / B + 1) = A / B + 1 := wrap64 (by omega) (by omega)
    have u3 : IntKind.wrap .i64 (A / B + 1 - 1) = A / B := by rw [wrap64 (by omega) (by omega)]; omega
    have v1 : IntKind.wrap .i64 (A % B) = A % B := wrap64 (by omega) (by omega)
    have v2 : IntKind.wrap .i64 (A % B - B) = A % B - B := wrap64 (by omega) (by omega)
    by_cases hc : 0 ≤ A ∨ A % B = 0
    · rw [if_pos hc] at t1 t2
      have hn : ¬ A % B < 0 := by omega
      simp [p114, hb, hA, hB, n1, n2, bn, t1, t2, u1, hn]
      refine RetOk.by (fun _ => none) ?_
      simp [results114, floorS, hb, hA, hB]
    · rw [if_neg hc] at t1 t2
      have hn : A % B - B < 0 := by omega
      simp [p114, hb, hA, hB, n1, n2, bn, t1, t2, u2, u1, hn]
      refine RetOk.by (fun _ => none) ?_
      simp [results114, floorS, hb, hA, hB]
  · have hpos : 0 < b := by omega
    have bn : ¬ b = 0 := by omega
    have m0 := Int.emod_nonneg a bn
    have m1 := Int.emod_lt_of_pos a hpos
    have t1 := tdiv_pos (a := a) hpos
    have t2 := tmod_pos (a := a) hpos
    have q := ediv_abs (a := a) (b := b) (by omega) (by omega)
    have u1 : IntKind.wrap .i64 (a / b) = a / b := wrap64 (by omega) (by omega)
    have u2 : IntKind.wrap .i64 (a / b + 1) = a / b + 1 := wrap64 (by omega) (by omega)
    have u3 : IntKind.wrap .i64 (a / b + 1 - 1) = a / b := by rw [wrap64 (by omega) (by omega)]; omega
    have v1 : IntKind.wrap .i64 (a % b) = a % b := wrap64 (by omega) (by omega)
    have v2 : IntKind.wrap .i64 (a % b - b) = a % b - b := wrap64 (by omega) (by omega)
    by_cases hc : 0 ≤ a ∨ a % b = 0
    · rw [if_pos hc] at t1 t2
      have hn : ¬ a % b < 0 := by omega
      simp [p114, hb, bn, t1, t2, u1, hn]
      refine RetOk.by (fun _ => none) ?_
      simp [results114, floorS, hb]
    · rw [if_neg hc] at t1 t2
      have hn : a % b - b < 0 := by omega
      simp [p114, hb, bn, t1, t2, u2, u1, hn]
      refine RetOk.by (fun _ => none) ?_
      simp [results114, floorS, hb]
theorem floorS_abs {a b : Int} (ha : -4700000000000000000 ≤ a ∧ a ≤ 4700000000000000000) (hz : b ≠ 0) : -4700000000000000000 ≤ floorS a b ∧ floorS a b ≤ 4700000000000000000 := by
  unfold floorS
  split
  · exact ediv_abs (by omega) (by omega)
  · exact ediv_abs (by omega) ha
theorem fn115 (a b : Int) (ha : -4700000000000000000 ≤ a ∧ a ≤ 4700000000000000000) (hb0 : -4700000000000000000 ≤ b ∧ b ≤ 4700000000000000000) (hz : b ≠ 0) : Ct prog 115 [vi a, vi b] (vi (-floorS (-a) b)) [] := by
  refine Ct.by gok eok mixed func115 c115 rfl (by simp [ntmps115]) (by simp) (by simp [ResIds]) fun E hE => ?_
  have n1 : IntKind.wrap .i64 (-a) = -a := wrap64 (by omega) (by omega)
  have q := floorS_abs (a := -a) (by omega) hz
  have n2 : IntKind.wrap .i64 (-floorS (-a) b) = -floorS (-a) b := wrap64 (by omega) (by omega)
  simp [p115, n1]
  refine ACall.mk _ _ _ (fn114 (-a) b (by omega) hb0 hz) (by first | (simp; done) | simp [Bor_ls, Bor1_ls]) (by simp) (by first | (left; simp; done) | (right; simp; done)) ?_
  simp [n2]
  refine RetOk.by (fun _ => none) ?_
  simp [results115]
end Go.Proofs.Try
namespace Go.Proofs.Try
open Go.Psl
theorem at_seg {l : List (Int × Int × Int)} {x : Int} (ht : tabS l = true) (h0 : ∀ k, l[0]? = some k → k.1 ≤ x) (h1 : ∀ k, l[l.length - 1]? = some k → x ≤ k.1) :
    ∃ a b : Int × Int × Int, l[segS l x]? = some a ∧ l[segS l x + 1]? = some b ∧ segS l x + 1 < l.length ∧ atS l x = lineS a b x ∧ okK a = true ∧ okK b = true ∧ a.1 < b.1 ∧ a.1 ≤ x ∧ x ≤ b.1 ∧ 1 ≤ cntS l x := by
  have hlen := tab_len ht
  have hc := cnt_le l x
  have hs : segS l x + 1 < l.length := by unfold segS; omega
  obtain ⟨a, ha⟩ : ∃ a, l[segS l x]? = some a := ⟨l[segS l x], by simp⟩
  obtain ⟨b, hb⟩ : ∃ b, l[segS l x + 1]? = some b := ⟨l[segS l x + 1], by simp⟩
  have hc1 : 1 ≤ cntS l x := Nat.not_lt.1 fun h => by
    obtain ⟨k, hk⟩ : ∃ k, l[0]? = some k := ⟨l[0], by simp⟩
    have h2 := cnt_out ht hk (x := x) (by omega)
    have h3 := h0 k hk
    omega
  refine ⟨a, b, ha, hb, hs, by simp [atS, ha, hb], tab_okK ht ha, tab_okK ht hb, tab_mono ht ha hb (by omega), ?_, ?_, hc1⟩
  · by_cases hz : segS l x = 0
    · rw [hz] at ha; exact h0 a ha
    · exact cnt_in l x _ a ha (by unfold segS at hz ⊢; omega)
  · by_cases hz : segS l x + 1 = l.length - 1
    · rw [hz] at hb; exact h1 b hb
    · have := cnt_out ht hb (x := x) (by unfold segS at hz ⊢; omega)
      omega
theorem floorS_pos {a b : Int} (h : 0 < b) : floorS a b = a / b := if_neg (by omega)
theorem fn78 (l : List (Int × Int × Int)) (x : Int) (ht : tabS l = true) (h0 : ∀ k, l[0]? = some k → k.1 ≤ x) (h1 : ∀ k, l[l.length - 1]? = some k → x ≤ k.1) : Ct prog 78 [.d (knotsD l), vi x] (.tup [vi (atS l x).1, vi (atS l x).2]) [] := by
  obtain ⟨a, b, ha, hb, hs, hat, oa, ob, hab, hax, hxb, hc1⟩ := at_seg ht h0 h1
  rw [okK_iff] at oa ob
  rw [hat]
  have hlen := tab_len ht
  obtain ⟨s, hsg⟩ : ∃ s, segS l x = s := ⟨_, rfl⟩
  rw [hsg] at ha hb hs
  obtain ⟨s1, hs1⟩ : ∃ s1, s1 = s + 1 := ⟨_, rfl⟩
  rw [← hs1] at hb
  have w0 : IntKind.wrap .i64 ((s : Int) + 1) = (s1 : Int) := by rw [wrap64 (by omega) (by omega)]; omega
  have w2 : IntKind.wrap .i64 (x - a.1) = x - a.1 := wrap64 (by omega) (by omega)
  have w3 : IntKind.wrap .i64 (b.1 - a.1) = b.1 - a.1 := wrap64 (by omega) (by omega)
  have w4 : IntKind.wrap .i64 (b.2.1 - a.2.1) = b.2.1 - a.2.1 := wrap64 (by omega) (by omega)
  have w5 : IntKind.wrap .i64 (b.2.2 - a.2.2) = b.2.2 - a.2.2 := wrap64 (by omega) (by omega)
  have b1 := mul_between (m := x - a.1) (w := b.2.1 - a.2.1) (by omega) (by omega) (by omega)
  have b2 := mul_between (m := x - a.1) (w := b.2.2 - a.2.2) (by omega) (by omega) (by omega)
  have en : -((x - a.1) * (b.2.2 - a.2.2)) = (x - a.1) * (a.2.2 - b.2.2) := by rw [← Int.mul_neg, Int.neg_sub]
  have c1 := ediv_between (n := b.1 - a.1) (m := x - a.1) (w := b.2.1 - a.2.1) (by omega) (by omega) (by omega) (by omega)
  have c2 := ediv_between (n := b.1 - a.1) (m := x - a.1) (w := a.2.2 - b.2.2) (by omega) (by omega) (by omega) (by omega)
  have w6 : IntKind.wrap .i64 ((x - a.1) * (b.2.1 - a.2.1)) = (x - a.1) * (b.2.1 - a.2.1) := wrap64 (by omega) (by omega)
  have w7 : IntKind.wrap .i64 ((x - a.1) * (b.2.2 - a.2.2)) = (x - a.1) * (b.2.2 - a.2.2) := wrap64 (by omega) (by omega)
  have w8 : IntKind.wrap .i64 (a.2.1 + (x - a.1) * (b.2.1 - a.2.1) / (b.1 - a.1)) = a.2.1 + (x - a.1) * (b.2.1 - a.2.1) / (b.1 - a.1) := wrap64 (by omega) (by omega)
  have w9 : IntKind.wrap .i64 (a.2.2 + -((x - a.1) * (a.2.2 - b.2.2) / (b.1 - a.1))) = a.2.2 - (x - a.1) * (a.2.2 - b.2.2) / (b.1 - a.1) := by rw [wrap64 (by omega) (by omega)]; omega
  have f1 := fn114 ((x - a.1) * (b.2.1 - a.2.1)) (b.1 - a.1) (by omega) (by omega) (by omega)
  have f2 := fn115 ((x - a.1) * (b.2.2 - a.2.2)) (b.1 - a.1) (by omega) (by omega) (by omega)
  rw [floorS_pos (by omega)] at f1 f2
  rw [en] at f2
  refine Ct.by gok eok mixed func78 c78 rfl (by simp [ntmps78]) (by simp) (by simp [ResIds]) fun E hE => ?_
  simp [p78]
  refine pw_loopC (α := Nat) 0 (fun _ : Unit => ⟨slots [(0, .d (knotsD l)), (1, vi x), (6, vi s)], lk [], 0⟩) (fun _ => True) (fun i => ⟨slots [(0, .d (knotsD l)), (1, vi x), (6, vi i)], lk [], 0⟩) (fun i => i ≤ s) (fun i => s - i) 0 ?_ ?_ ?_ fun _ _ => ?_
  · simp
  · refine Weak.mk hE (lk []) _ _ _ ?_ ?_ ?_ ?_ ?_ <;> simp
  · intro i hi
    obtain ⟨i1, hi1⟩ : ∃ i1, i1 = i + 1 := ⟨_, rfl⟩
    obtain ⟨k, hk⟩ : ∃ k, l[i1]? = some k := ⟨l[i1], by simp [show i1 < l.length by omega]⟩
    have v1 : IntKind.wrap .i64 ((i : Int) + 1) = (i1 : Int) := by rw [wrap64 (by omega) (by omega)]; omega
    have v2 : IntKind.wrap .i64 ((i : Int) + 2) = (i : Int) + 2 := wrap64 (by omega) (by omega)
    by_cases hlt : i < s
    · have g1 : (i : Int) + 2 < l.length := by unfold segS at hsg; omega
      have g2 : k.1 ≤ x := cnt_in l x i1 k hk (by unfold segS at hsg; omega)
      simp [p78l0, v1, v2, hk, g1, g2]
      refine ⟨i1, by omega, by omega, ?_⟩
      refine Weak.mk hE (lk []) _ _ _ ?_ ?_ ?_ ?_ ?_ <;> simp
    · have : i = s := by omega
      subst this
      by_cases g1 : (i : Int) + 2 < l.length
      · have g2 : ¬ k.1 ≤ x := by
          have := cnt_out ht hk (x := x) (by unfold segS at hsg; omega)
          omega
        simp [p78l0, v1, v2, hk, g1, g2]
        refine Weak.mk hE (lk []) _ _ _ ?_ ?_ ?_ ?_ ?_ <;> simp
      · simp [p78l0, v2, g1]
        refine Weak.mk hE (lk []) _ _ _ ?_ ?_ ?_ ?_ ?_ <;> simp
  · simp
    refine pw_drawA [(11, 9), (12, 10)] (by kernel_rfl) ?_
    simp [w0, ha, hb, inC, Nat.testBit, splice, w2, w3, w4, w6]
    refine ACall.mk _ _ _ (f1) (by first | (simp; done) | simp [Bor_ls, Bor1_ls]) (by simp) (by first | (left; simp; done) | (right; simp; done)) ?_
    simp [w8, w5, w7]
    refine ACall.mk _ _ _ (f2) (by first | (simp; done) | simp [Bor_ls, Bor1_ls]) (by simp) (by first | (left; simp; done) | (right; simp; done)) ?_
    simp [w9]
    refine RetOk.by (fun _ => none) ?_
    simp [results78, lineS]
end Go.Proofs.Try
namespace Go.Proofs.Try
open Go.Psl
def accW (l : List (Int × Int × Int)) (x : Int × Int) (i : Nat) : Int × Int := (l.take i).foldl (fun o k => if x.1 ≤ k.1 ∧ k.1 ≤ x.2 then joinI o k.2 else o) (joinI (atS l x.1) (atS l x.2))
theorem accW_succ {l : List (Int × Int × Int)} {x : Int × Int} {i : Nat} {k : Int × Int × Int} (hk : l[i]? = some k) : accW l x (i + 1) = if x.1 ≤ k.1 ∧ k.1 ≤ x.2 then joinI (accW l x i) k.2 else accW l x i := by
  simp [accW, List.take_add_one, hk]
theorem cnt_knot {l : List (Int × Int × Int)} (ht : tabS l = true) {i : Nat} {k : Int × Int × Int} (hk : l[i]? = some k) : cntS l k.1 = i + 1 := by
  have h1 : i < cntS l k.1 := Nat.not_le.1 fun h => by have := cnt_out ht hk h; omega
  have h2 : ¬ i + 1 < cntS l k.1 := fun h => by
    have hlt := cnt_le l k.1
    obtain ⟨c, hc⟩ : ∃ c, l[i + 1]? = some c := ⟨l[i + 1], by simp⟩
    have h3 := cnt_in l k.1 (i + 1) c hc h
    have h4 := tab_mono ht hk hc (by omega)
    omega
  omega
theorem at_knot {l : List (Int × Int × Int)} (ht : tabS l = true) {i : Nat} {k : Int × Int × Int} (hk : l[i]? = some k) : atS l k.1 = k.2 := by
  have hlen := tab_len ht
  have hi := (List.getElem?_eq_some_iff.1 hk).1
  have hc := cnt_knot ht hk
  by_cases hl : i + 1 < l.length
  · have hs : segS l k.1 = i := by unfold segS; omega
    obtain ⟨b, hb⟩ : ∃ b, l[i + 1]? = some b := ⟨l[i + 1], by simp⟩
    simp [atS, hs, hk, hb, lineS]
  · have hs : segS l k.1 = i - 1 := by unfold segS; omega
    have hs1 : i - 1 + 1 = i := by omega
    obtain ⟨a, ha⟩ : ∃ a, l[i - 1]? = some a := ⟨l[i - 1], by simp [show i - 1 < l.length by omega]⟩
    have hab := tab_mono ht ha hk (by omega)
    simp only [atS, hs, hs1, ha, hk, lineS]
    rw [Int.mul_comm, Int.mul_ediv_cancel _ (by omega), Int.mul_comm, Int.mul_ediv_cancel _ (by omega)]
    ext <;> simp <;> omega
theorem accV_in (l : List (Int × Int × Int)) (x : Int × Int) : ∀ i, i ≤ l.length → (accV l x i).1 ≤ (atS l x.1).1 ∧ (accV l x i).1 ≤ (atS l x.2).1 ∧ (atS l x.1).2 ≤ (accV l x i).2 ∧ (atS l x.2).2 ≤ (accV l x i).2
  | 0, _ => by simp only [accV, List.take_zero, List.foldl_nil, joinI]; omega
  | i + 1, h => by
    have ih := accV_in l x i (by omega)
    obtain ⟨k, hk⟩ : ∃ k, l[i]? = some k := ⟨l[i], by simp [show i < l.length by omega]⟩
    rw [accV_succ hk]
    split
    · simp only [joinI]; omega
    · exact ih
theorem acc_law {l : List (Int × Int × Int)} (ht : tabS l = true) (x : Int × Int) : ∀ i, i ≤ l.length → accW l x i = accV l x i
  | 0, _ => by simp [accV, accW]
  | i + 1, h => by
    have ih := acc_law ht x i (by omega)
    obtain ⟨k, hk⟩ : ∃ k, l[i]? = some k := ⟨l[i], by simp [show i < l.length by omega]⟩
    rw [accV_succ hk, accW_succ hk, ih]
    have b := accV_in l x i (by omega)
    have e := at_knot ht hk
    by_cases h1 : x.1 < k.1 ∧ k.1 < x.2
    · rw [if_pos h1, if_pos (by omega)]
    · rw [if_neg h1]
      by_cases h2 : x.1 ≤ k.1 ∧ k.1 ≤ x.2
      · rw [if_pos h2]
        have h3 : k.1 = x.1 ∨ k.1 = x.2 := by omega
        rcases h3 with h3 | h3 <;> rw [h3] at e <;> rw [e] at b <;> simp only [joinI] <;> ext <;> simp only <;> omega
      · rw [if_neg h2]
theorem fn21 (l : List (Int × Int × Int)) (x : Int × Int) (hl : l.length ≤ 1000000) : Ct prog 21 [.d (knotsD l), vsp x.1 x.2] (vse (valS l x)) [] := by
  refine Ct.by gok eok mixed func21 c21 rfl (by simp [ntmps21]) (by simp) (by simp [ResIds]) fun E hE => ?_
  simp [p21]
  refine ACall.mk _ _ _ (fn76 l hl) (by first | (simp; done) | simp [Bor_ls, Bor1_ls]) (by simp) (by first | (left; simp; done) | (right; simp; done)) ?_
  by_cases ht : tabS l = true
  · simp [ht]
    refine ACall.mk _ _ _ (fn77 x) (by first | (simp; done) | simp [Bor_ls, Bor1_ls]) (by simp) (by first | (left; simp; done) | (right; simp; done)) ?_
    by_cases hx : okS x = true
    · have hlen := tab_len ht
      obtain ⟨a, ha⟩ : ∃ a, l[0]? = some a := ⟨l[0], by simp⟩
      obtain ⟨e, he⟩ : ∃ e, e = l.length - 1 := ⟨_, rfl⟩
      obtain ⟨b, hb⟩ : ∃ b, l[e]? = some b := ⟨l[e], by simp [show e < l.length by omega]⟩
      have we : IntKind.wrap .i64 ((l.length : Int) - 1) = (e : Int) := by rw [wrap64 (by omega) (by omega)]; omega
      by_cases c1 : x.1 < a.1
      · simp [hx, ha, c1, splice]
        refine RetOk.by (fun _ => none) ?_
        simp [results21, valS, ht, hx, ha, ← he, hb, c1]
      by_cases c2 : b.1 < x.2
      · simp [hx, ha, hb, c1, c2, we, splice]
        refine RetOk.by (fun _ => none) ?_
        simp [results21, valS, ht, hx, ha, ← he, hb, c1, c2]
      have hxx := okS_iff.1 hx
      have hlast : ∀ k, l[l.length - 1]? = some k → x.2 ≤ k.1 := fun k hk => by rw [← he, hb] at hk; cases hk; omega
      have hfirst : ∀ k, l[0]? = some k → k.1 ≤ x.1 := fun k hk => by rw [ha] at hk; cases hk; omega
      simp [hx, ha, hb, c1, c2, we]
      refine ACall.mk _ _ _ (fn78 l x.1 ht hfirst (fun k hk => by have := hlast k hk; omega)) (by first | (simp; done) | simp [Bor_ls, Bor1_ls]) (by simp) (by first | (left; simp; done) | (right; simp; done)) ?_
      simp
      refine ACall.mk _ _ _ (fn78 l x.2 ht (fun k hk => by have := hfirst k hk; omega) hlast) (by first | (simp; done) | simp [Bor_ls, Bor1_ls]) (by simp) (by first | (left; simp; done) | (right; simp; done)) ?_
      simp [splice]
      refine pw_loopC (α := Nat) 0 (fun _ : Unit => ⟨slots [(4, .lp 0 0), (10, .lp 1 0)], lk [(0, [vi 0, vi 0]), (1, [vi (accV l x l.length).1, vi (accV l x l.length).2])], 2⟩) (fun _ => True) (fun i => ⟨slots [(0, .d (knotsD l)), (3, .lp 2 0), (4, .lp 0 0), (10, .lp 1 0), (11, vi i)], lk [(0, [vi 0, vi 0]), (1, [vi (accW l x i).1, vi (accW l x i).2]), (2, [vi x.1, vi x.2])], 3⟩) (fun i => i ≤ l.length) (fun i => l.length - i) 0 ?_ ?_ ?_ fun _ _ => ?_
      · simp
      · refine Weak.mk hE (lk [(0, 1048576), (1, 55574528), (2, 0)]) _ _ _ ?_ ?_ ?_ ?_ ?_ <;> simp [accW, joinI]
      · intro i hi
        simp [p21l0]
        refine cR_split (fun h => ?_) (fun h => ?_)
        · simp at h
          obtain ⟨k, hk⟩ : ∃ k, l[i]? = some k := ⟨l[i], by simp [h]⟩
          have hz : IntKind.wrap .i64 ((i : Int) + 1) = (i : Int) + 1 := wrap64 (by omega) (by omega)
          simp [hk]
          refine ACall.mk _ _ _ (fn79 k.1 x.1 x.2) (by first | (simp; done) | simp [Bor_ls, Bor1_ls]) (by simp) (by first | (left; simp; done) | (right; simp; done)) ?_
          by_cases d1 : x.1 ≤ k.1 ∧ k.1 ≤ x.2
          · simp [d1, hk, hz, splice]
            refine ⟨i + 1, by omega, by omega, ?_⟩
            refine Weak.mk hE (lk [(0, 0), (1, 1), (2, 2)]) _ _ _ ?_ ?_ ?_ ?_ ?_ <;> simp [accW_succ hk, d1, joinI]
          · have d1' : (decide (x.1 ≤ k.1) && decide (k.1 ≤ x.2)) = false := by simp; omega
            simp [d1', hz]
            refine ⟨i + 1, by omega, by omega, ?_⟩
            refine Weak.mk hE (lk [(0, 0), (1, 1), (2, 2)]) _ _ _ ?_ ?_ ?_ ?_ ?_ <;> simp [accW_succ hk, d1]
        · simp at h
          have hil : i = l.length := by omega
          subst hil
          simp
          refine Weak.mk hE (lk [(0, 0), (1, 1)]) _ _ _ ?_ ?_ ?_ ?_ ?_ <;> simp [acc_law ht x l.length]
      · simp [splice]
        refine RetOk.by (fun _ => none) ?_
        simp [results21, valS, ht, hx, ha, ← he, hb, c1, c2]
    · simp [hx, splice]
      refine RetOk.by (fun _ => none) ?_
      simp [results21, valS, ht, hx]
  · simp [ht, splice]
    refine RetOk.by (fun _ => none) ?_
    simp [results21, valS, ht]
end Go.Proofs.Try
