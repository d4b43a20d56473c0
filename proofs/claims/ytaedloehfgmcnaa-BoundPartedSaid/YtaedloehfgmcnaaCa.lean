/- Contracts: what each function of the program computes, for the arguments that its theorem names; and from there the given statement. Conditions: those that each theorem states. -/
import Derived.Test.YtaedloehfgmcnaaFn
import Derived.Test.YtaedloehfgmcnaaTy
namespace Go.Proofs.Try
open Go.Psl

abbrev vi (n : Int) : V := .d (.lit (.int .i64 n))
abbrev vb (b : Bool) : V := .d (.lit (.bool b))
abbrev di (n : Int) : D := .lit (.int .i64 n)
abbrev vsp (a b : Int) : V := .agg [vi a, vi b]
abbrev spansD (l : List (Int × Int)) : D := .sl 2 (l.map fun s => [di s.1, di s.2])
def okS (s : Int × Int) : Bool := decide (s.1 ≤ s.2) && decide (-1099511627776 ≤ s.1) && decide (s.2 ≤ 1099511627776)
def fineS (l : List (Int × Int)) : Bool := l.all okS

theorem fineS_take {l : List (Int × Int)} {i : Nat} {s : Int × Int} (hs : l[i]? = some s) : fineS (l.take (i + 1)) = (fineS (l.take i) && okS s) := by
  simp [fineS, List.take_add_one, hs]
theorem fineS_false {l : List (Int × Int)} {i : Nat} {s : Int × Int} (hs : l[i]? = some s) (h : okS s = false) : fineS l = false := by
  unfold fineS
  rw [List.all_eq_false]
  exact ⟨s, List.mem_of_getElem? hs, by simp [h]⟩

theorem fn85 (l : List (Int × Int)) (hl : l.length ≤ 1000000) : Ct prog 85 [.d (spansD l)] (vb (fineS l)) [] := by
  refine Ct.by gok eok mixed func85 c85 rfl ?_ ?_ ?_ fun E hE => ?_
  · simp [ntmps85]
  · simp
  · simp [ResIds]
  simp [p85]
  refine pw_loop (α := Nat) (fun i => ⟨slots [(5, .d (spansD l)), (6, vi l.length), (7, vi i)], lk [], 0⟩) (fun i => i ≤ l.length ∧ fineS (l.take i) = true) (fun i => l.length - i) 0 ?_ ?_ ?_
  · simp [fineS]
  · refine Weak.mk hE (fun _ => none) _ _ _ ?_ ?_ ?_ ?_ ?_ <;> simp
  · intro i ⟨hi, hf⟩
    simp [p85l0]
    refine cR_split (fun h => ?_) (fun h => ?_)
    · simp at h
      obtain ⟨s, hs⟩ : ∃ s, l[i]? = some s := ⟨l[i], by simp [h]⟩
      have hz : IntKind.wrap .i64 ((i : Int) + 1) = (i : Int) + 1 := wrap64 (by omega) (by omega)
      have hbad : okS s = false → RetOk tys f85 (vb (fineS l)) [] ⟨slots [(2, vb false)], lk [], 0⟩ := fun hh => by
        refine ⟨[vb false], fun _ => none, ?_⟩
        simp [results85, fineS_false hs hh]
      by_cases h1 : s.2 < s.1
      · have hh : okS s = false := by simp [okS]; omega
        simp [spansD, hs, splice, h1]
        refine ⟨[vb false], fun _ => none, ?_⟩
        simp [results85, fineS_false hs hh]
      · by_cases h2 : s.1 < -1099511627776
        · have hh : okS s = false := by simp [okS]; omega
          simp [spansD, hs, splice, h1, h2]
          refine ⟨[vb false], fun _ => none, ?_⟩
          simp [results85, fineS_false hs hh]
        · by_cases h3 : 1099511627776 < s.2
          · have hh : okS s = false := by simp [okS]; omega
            simp [spansD, hs, splice, h1, h2, h3]
            refine ⟨[vb false], fun _ => none, ?_⟩
            simp [results85, fineS_false hs hh]
          · have hh : okS s = true := by simp [okS]; omega
            simp [spansD, hs, splice, h1, h2, h3, hz]
            refine ⟨i + 1, ⟨by omega, ?_⟩, by omega, ?_⟩
            · rw [fineS_take hs, hf, hh]; rfl
            · refine Weak.mk hE (fun _ => none) _ _ _ ?_ ?_ ?_ ?_ ?_ <;> simp
    · simp at h
      have hil : i = l.length := by omega
      subst hil
      rw [List.take_length] at hf
      simp
      refine ⟨[vb true], fun _ => none, ?_⟩
      simp [results85, hf]
end Go.Proofs.Try
namespace Go.Proofs.Try
open Go.Psl
theorem fn46 (s : Int × Int) : Ct prog 46 [vsp s.1 s.2] (vi (if okS s then 0 else 10)) [] := by
  refine Ct.by gok eok mixed func46 c46 rfl ?_ ?_ ?_ fun E hE => ?_
  · simp [ntmps46]
  · simp
  · simp [ResIds]
  simp [p46, repl, splice]
  refine ACall.mk _ _ _ (fn85 [s] (by simp)) ?_ ?_ ?_ ?_
  · simp [Bor_ls]
  · simp
  · right; simp
  by_cases h : okS s = true
  · simp [fineS, h]
    refine ⟨[vi 0], fun _ => none, ?_⟩
    simp [results46]
  · simp [fineS, h]
    refine ⟨[vi 10], fun _ => none, ?_⟩
    simp [results46]
end Go.Proofs.Try
namespace Go.Proofs.Try
open Go.Psl
/-- the result of an operation on spans: the span and the number of the error -/
abbrev vse (s : (Int × Int) × Int) : V := .tup [vsp s.1.1 s.1.2, vi s.2]
def sizedS (s : Int × Int) : (Int × Int) × Int := if s.1 < -1099511627776 ∨ 1099511627776 < s.2 then ((0, 0), 11) else (s, 0)
theorem fn87 (s : Int × Int) : Ct prog 87 [vsp s.1 s.2] (vse (sizedS s)) [] := by
  refine Ct.by gok eok mixed func87 c87 rfl ?_ ?_ ?_ fun E hE => ?_
  · simp [ntmps87]
  · simp
  · simp [ResIds]
  by_cases h1 : s.1 < -1099511627776
  · simp [p87, h1, splice]
    refine RetOk.by (fun _ => none) ?_
    simp [results87, sizedS, h1]
  · by_cases h2 : 1099511627776 < s.2
    · simp [p87, h1, h2, splice]
      refine RetOk.by (fun _ => none) ?_
      simp [results87, sizedS, h1, h2]
    · simp [p87, h1, h2, splice]
      refine RetOk.by (fun _ => none) ?_
      simp [results87, sizedS, h1, h2]
def addS (a b : Int × Int) : (Int × Int) × Int := if okS a && okS b then sizedS (a.1 + b.1, a.2 + b.2) else ((0, 0), 10)
theorem okS_iff {s : Int × Int} : okS s = true ↔ s.1 ≤ s.2 ∧ -1099511627776 ≤ s.1 ∧ s.2 ≤ 1099511627776 := by simp [okS, and_assoc]
theorem fn34 (a b : Int × Int) : Ct prog 34 [vsp a.1 a.2, vsp b.1 b.2] (vse (addS a b)) [] := by
  refine Ct.by gok eok mixed func34 c34 rfl ?_ ?_ ?_ fun E hE => ?_
  · simp [ntmps34]
  · simp
  · simp [ResIds]
  simp [p34, repl, splice]
  refine ACall.mk _ _ _ (fn85 [a, b] (by simp)) ?_ ?_ ?_ ?_
  · simp [Bor_ls]
  · simp
  · right; simp
  by_cases h : (okS a && okS b) = true
  · have hh := h
    simp only [Bool.and_eq_true, okS_iff] at hh
    have e1 : IntKind.wrap .i64 (a.1 + b.1) = a.1 + b.1 := wrap64 (by omega) (by omega)
    have e2 : IntKind.wrap .i64 (a.2 + b.2) = a.2 + b.2 := wrap64 (by omega) (by omega)
    have hf : fineS [a, b] = true := by simpa [fineS] using h
    simp [hf, e1, e2, splice]
    refine ACall.mk _ _ _ (fn87 (a.1 + b.1, a.2 + b.2)) ?_ ?_ ?_ ?_
    · simp
    · simp
    · right; simp
    simp [splice]
    refine RetOk.by (fun _ => none) ?_
    simp [results34, addS, h]
  · have hf : fineS [a, b] = false := by simpa [fineS] using h
    simp [hf, splice]
    refine RetOk.by (fun _ => none) ?_
    simp [results34, addS, h]

def subS (a b : Int × Int) : (Int × Int) × Int := if okS a && okS b then sizedS (a.1 - b.2, a.2 - b.1) else ((0, 0), 10)
theorem fn36 (a b : Int × Int) : Ct prog 36 [vsp a.1 a.2, vsp b.1 b.2] (vse (subS a b)) [] := by
  refine Ct.by gok eok mixed func36 c36 rfl ?_ ?_ ?_ fun E hE => ?_
  · simp [ntmps36]
  · simp
  · simp [ResIds]
  simp [p36, repl, splice]
  refine ACall.mk _ _ _ (fn85 [a, b] (by simp)) ?_ ?_ ?_ ?_
  · simp [Bor_ls]
  · simp
  · right; simp
  by_cases h : (okS a && okS b) = true
  · have hh := h
    simp only [Bool.and_eq_true, okS_iff] at hh
    have e1 : IntKind.wrap .i64 (-b.1) = -b.1 := wrap64 (by omega) (by omega)
    have e2 : IntKind.wrap .i64 (-b.2) = -b.2 := wrap64 (by omega) (by omega)
    have hf : fineS [a, b] = true := by simpa [fineS] using h
    simp [hf, e1, e2, splice]
    refine ACall.mk _ _ _ (fn34 a (-b.2, -b.1)) ?_ ?_ ?_ ?_
    · simp
    · simp
    · right; simp
    have e3 : okS (-b.2, -b.1) = true := by rw [okS_iff]; simp only; omega
    have e4 : addS a (-b.2, -b.1) = subS a b := by
      simp only [Bool.and_eq_true] at h
      simp [addS, subS, h, e3, Int.sub_eq_add_neg]
    rw [e4]
    simp [splice]
    refine RetOk.by (fun _ => none) ?_
    simp [results36]
  · have hf : fineS [a, b] = false := by simpa [fineS] using h
    simp [hf, splice]
    refine RetOk.by (fun _ => none) ?_
    simp [results36, subS, h]
def meetS (a b : Int × Int) : (Int × Int) × Int := if okS a && okS b then (if max a.1 b.1 ≤ min a.2 b.2 then ((max a.1 b.1, min a.2 b.2), 0) else ((0, 0), 6)) else ((0, 0), 10)
theorem fn40 (a b : Int × Int) : Ct prog 40 [vsp a.1 a.2, vsp b.1 b.2] (vse (meetS a b)) [] := by
  refine Ct.by gok eok mixed func40 c40 rfl ?_ ?_ ?_ fun E hE => ?_
  · simp [ntmps40]
  · simp
  · simp [ResIds]
  simp [p40, repl, splice]
  refine ACall.mk _ _ _ (fn85 [a, b] (by simp)) ?_ ?_ ?_ ?_
  · simp [Bor_ls]
  · simp
  · right; simp
  by_cases h : (okS a && okS b) = true
  · have hf : fineS [a, b] = true := by simpa [fineS] using h
    by_cases h2 : max a.1 b.1 ≤ min a.2 b.2
    · have h3 : decide (max a.1 b.1 ≤ min a.2 b.2) = true := by simpa using h2
      simp [hf, splice, h2]
      refine RetOk.by (fun _ => none) ?_
      simp only [meetS, h, h2, if_true]
      simp [results40]
    · have h3 : decide (max a.1 b.1 ≤ min a.2 b.2) = false := by simpa using h2
      simp [hf, splice, h2]
      refine RetOk.by (fun _ => none) ?_
      simp only [meetS, h, h2, if_true, if_false]
      simp [results40]
  · have hf : fineS [a, b] = false := by simpa [fineS] using h
    simp [hf, splice]
    refine RetOk.by (fun _ => none) ?_
    simp [results40, meetS, h]
end Go.Proofs.Try
namespace Go.Proofs.Try
open Go.Psl
theorem fn79 (n lo hi : Int) : Ct prog 79 [vi n, vi lo, vi hi] (vb (decide (lo ≤ n) && decide (n ≤ hi))) [] := by
  refine Ct.by gok eok mixed func79 c79 rfl ?_ ?_ ?_ fun E hE => ?_
  · simp [ntmps79]
  · simp
  · simp [ResIds]
  by_cases h1 : lo ≤ n
  · simp [p79, h1]
    refine RetOk.by (fun _ => none) ?_
    simp [results79]
  · simp [p79, h1]
    refine RetOk.by (fun _ => none) ?_
    simp [results79]
theorem fn77 (s : Int × Int) : Ct prog 77 [vsp s.1 s.2] (vb (okS s)) [] := by
  refine Ct.by gok eok mixed func77 c77 rfl ?_ ?_ ?_ fun E hE => ?_
  · simp [ntmps77]
  · simp
  · simp [ResIds]
  by_cases h1 : s.1 ≤ s.2
  · simp [p77, h1]
    refine ACall.mk _ _ _ (fn79 s.1 (-1099511627776) 1099511627776) ?_ ?_ ?_ ?_
    · simp
    · simp
    · right; simp
    by_cases h2 : -1099511627776 ≤ s.1
    · have h3 : s.1 ≤ 1099511627776 ∨ ¬ s.1 ≤ 1099511627776 := Decidable.em _
      rcases h3 with h3 | h3
      · simp [h2, h3]
        refine ACall.mk _ _ _ (fn79 s.2 (-1099511627776) 1099511627776) ?_ ?_ ?_ ?_
        · simp
        · simp
        · right; simp
        simp
        refine RetOk.by (fun _ => none) ?_
        have h4 : -1099511627776 ≤ s.2 := by omega
        simp [results77, okS, h1, h2, h4]
      · simp [h2, h3]
        refine RetOk.by (fun _ => none) ?_
        have h4 : ¬ s.2 ≤ 1099511627776 := by omega
        simp [results77, okS, h1, h2, h4]
    · simp [h2]
      refine RetOk.by (fun _ => none) ?_
      simp [results77, okS, h1, h2]
  · simp [p77, h1]
    refine RetOk.by (fun _ => none) ?_
    simp [results77, okS, h1]
theorem fn47 (s : Int × Int) : Ct prog 47 [vsp s.1 s.2] (vi (if okS s then 0 else 10)) [] := by
  refine Ct.by gok eok mixed func47 c47 rfl ?_ ?_ ?_ fun E hE => ?_
  · simp [ntmps47]
  · simp
  · simp [ResIds]
  simp [p47]
  refine ACall.mk _ _ _ (fn77 s) ?_ ?_ ?_ ?_
  · simp
  · simp
  · right; simp
  by_cases h : okS s = true
  · simp [h]
    refine RetOk.by (fun _ => none) ?_
    simp [results47]
  · simp [h]
    refine RetOk.by (fun _ => none) ?_
    simp [results47]
theorem fn89 (s : Int × Int) : Ct prog 89 [vi s.1, vi s.2] (vse (sizedS s)) [] := by
  refine Ct.by gok eok mixed func89 c89 rfl ?_ ?_ ?_ fun E hE => ?_
  · simp [ntmps89]
  · simp
  · simp [ResIds]
  by_cases h1 : s.1 < -1099511627776
  · simp [p89, h1, splice]
    refine RetOk.by (fun _ => none) ?_
    simp [results89, sizedS, h1]
  · by_cases h2 : 1099511627776 < s.2
    · simp [p89, h1, h2, splice]
      refine RetOk.by (fun _ => none) ?_
      simp [results89, sizedS, h1, h2]
    · simp [p89, h1, h2, splice]
      refine RetOk.by (fun _ => none) ?_
      simp [results89, sizedS, h1, h2]
end Go.Proofs.Try
namespace Go.Proofs.Try
open Go.Psl
theorem fn35 (a b : Int × Int) : Ct prog 35 [vsp a.1 a.2, vsp b.1 b.2] (vse (addS a b)) [] := by
  refine Ct.by gok eok mixed func35 c35 rfl ?_ ?_ ?_ fun E hE => ?_
  · simp [ntmps35]
  · simp
  · simp [ResIds]
  simp [p35]
  refine ACall.mk _ _ _ (fn77 a) ?_ ?_ ?_ ?_
  · simp
  · simp
  · right; simp
  by_cases h1 : okS a = true
  · simp [h1]
    refine ACall.mk _ _ _ (fn77 b) ?_ ?_ ?_ ?_
    · simp
    · simp
    · right; simp
    by_cases h2 : okS b = true
    · have hh1 := okS_iff.1 h1
      have hh2 := okS_iff.1 h2
      have e1 : IntKind.wrap .i64 (a.1 + b.1) = a.1 + b.1 := wrap64 (by omega) (by omega)
      have e2 : IntKind.wrap .i64 (a.2 + b.2) = a.2 + b.2 := wrap64 (by omega) (by omega)
      simp [h2, e1, e2]
      refine ACall.mk _ _ _ (fn89 (a.1 + b.1, a.2 + b.2)) ?_ ?_ ?_ ?_
      · simp
      · simp
      · right; simp
      simp [splice]
      refine RetOk.by (fun _ => none) ?_
      simp [results35, addS, h1, h2]
    · simp [h2, splice]
      refine RetOk.by (fun _ => none) ?_
      simp [results35, addS, h1, h2]
  · simp [h1, splice]
    refine RetOk.by (fun _ => none) ?_
    simp [results35, addS, h1]
theorem fn37 (a b : Int × Int) : Ct prog 37 [vsp a.1 a.2, vsp b.1 b.2] (vse (subS a b)) [] := by
  refine Ct.by gok eok mixed func37 c37 rfl ?_ ?_ ?_ fun E hE => ?_
  · simp [ntmps37]
  · simp
  · simp [ResIds]
  simp [p37]
  refine ACall.mk _ _ _ (fn77 a) ?_ ?_ ?_ ?_
  · simp
  · simp
  · right; simp
  by_cases h1 : okS a = true
  · simp [h1]
    refine ACall.mk _ _ _ (fn77 b) ?_ ?_ ?_ ?_
    · simp
    · simp
    · right; simp
    by_cases h2 : okS b = true
    · have hh1 := okS_iff.1 h1
      have hh2 := okS_iff.1 h2
      have e1 : IntKind.wrap .i64 (a.1 - b.2) = a.1 - b.2 := wrap64 (by omega) (by omega)
      have e2 : IntKind.wrap .i64 (a.2 - b.1) = a.2 - b.1 := wrap64 (by omega) (by omega)
      simp [h2, e1, e2]
      refine ACall.mk _ _ _ (fn89 (a.1 - b.2, a.2 - b.1)) ?_ ?_ ?_ ?_
      · simp
      · simp
      · right; simp
      simp [splice]
      refine RetOk.by (fun _ => none) ?_
      simp [results37, subS, h1, h2]
    · simp [h2, splice]
      refine RetOk.by (fun _ => none) ?_
      simp [results37, subS, h1, h2]
  · simp [h1, splice]
    refine RetOk.by (fun _ => none) ?_
    simp [results37, subS, h1]
theorem fn41 (a b : Int × Int) : Ct prog 41 [vsp a.1 a.2, vsp b.1 b.2] (vse (meetS a b)) [] := by
  refine Ct.by gok eok mixed func41 c41 rfl ?_ ?_ ?_ fun E hE => ?_
  · simp [ntmps41]
  · simp
  · simp [ResIds]
  simp [p41]
  refine ACall.mk _ _ _ (fn77 a) ?_ ?_ ?_ ?_
  · simp
  · simp
  · right; simp
  by_cases h1 : okS a = true
  · simp [h1]
    refine ACall.mk _ _ _ (fn77 b) ?_ ?_ ?_ ?_
    · simp
    · simp
    · right; simp
    by_cases h2 : okS b = true
    · by_cases h3 : min a.2 b.2 < max a.1 b.1
      · have h4 : ¬ max a.1 b.1 ≤ min a.2 b.2 := by omega
        simp [h2, h3, splice]
        refine RetOk.by (fun _ => none) ?_
        simp only [meetS, h1, h2, h4, if_false, Bool.and_self, if_true]
        simp [results41]
      · have h4 : max a.1 b.1 ≤ min a.2 b.2 := by omega
        simp [h2, h3, splice]
        refine RetOk.by (fun _ => none) ?_
        simp only [meetS, h1, h2, h4, Bool.and_self, if_true]
        simp [results41]
    · simp [h2, splice]
      refine RetOk.by (fun _ => none) ?_
      simp [results41, meetS, h1, h2]
  · simp [h1, splice]
    refine RetOk.by (fun _ => none) ?_
    simp [results41, meetS, h1]
end Go.Proofs.Try
namespace Go.Proofs.Try
open Go.Psl
theorem fn122 (x : Int) (hx : -4611686018427387904 ≤ x ∧ x ≤ 4611686018427387904) : Ct prog 122 [vi x] (.d (.lit (.int .u64 (max x (-x))))) [] := by
  refine Ct.by gok eok mixed func122 c122 rfl ?_ ?_ ?_ fun E hE => ?_
  · simp [ntmps122]
  · simp
  · simp [ResIds]
  have e1 : IntKind.wrap .i64 (-x) = -x := wrap64 (by omega) (by omega)
  have e2 : IntKind.wrap .u64 (max x (-x)) = max x (-x) := wrapu64 (by omega) (by omega)
  simp [p122, e1, e2]
  refine RetOk.by (fun _ => none) ?_
  simp [results122]
theorem fn125 (x : Int) (hx : -4611686018427387904 ≤ x ∧ x ≤ 4611686018427387904) : Ct prog 125 [vi x] (vi (max x (-x))) [] := by
  refine Ct.by gok eok mixed func125 c125 rfl ?_ ?_ ?_ fun E hE => ?_
  · simp [ntmps125]
  · simp
  · simp [ResIds]
  have e1 : IntKind.wrap .i64 (-x) = -x := wrap64 (by omega) (by omega)
  simp [p125, e1]
  refine RetOk.by (fun _ => none) ?_
  simp [results125]
def joinS (a b : Int × Int) : (Int × Int) × Int := if okS a && okS b then ((min a.1 b.1, max a.2 b.2), 0) else ((0, 0), 10)
theorem fn43 (a b : Int × Int) : Ct prog 43 [vsp a.1 a.2, vsp b.1 b.2] (vse (joinS a b)) [] := by
  refine Ct.by gok eok mixed func43 c43 rfl ?_ ?_ ?_ fun E hE => ?_
  · simp [ntmps43]
  · simp
  · simp [ResIds]
  simp [p43]
  refine ACall.mk _ _ _ (fn77 a) ?_ ?_ ?_ ?_
  · simp
  · simp
  · right; simp
  by_cases h1 : okS a = true
  · simp [h1]
    refine ACall.mk _ _ _ (fn77 b) ?_ ?_ ?_ ?_
    · simp
    · simp
    · right; simp
    by_cases h2 : okS b = true
    · simp [h2, splice]
      refine RetOk.by (fun _ => none) ?_
      simp [results43, joinS, h1, h2]
    · simp [h2, splice]
      refine RetOk.by (fun _ => none) ?_
      simp [results43, joinS, h1, h2]
  · simp [h1, splice]
    refine RetOk.by (fun _ => none) ?_
    simp [results43, joinS, h1]
end Go.Proofs.Try
namespace Go.Proofs.Try
open Go.Psl
def joinI (o s : Int × Int) : Int × Int := (min o.1 s.1, max o.2 s.2)
def aroundS (s : Int × Int) (l : List (Int × Int)) : Int × Int := l.foldl joinI s
theorem aroundS_take {s0 : Int × Int} {l : List (Int × Int)} {i : Nat} {s : Int × Int} (hs : l[i]? = some s) : aroundS s0 (l.take (i + 1)) = joinI (aroundS s0 (l.take i)) s := by
  simp [aroundS, List.take_add_one, hs]
theorem fn74 (s0 : Int × Int) (l : List (Int × Int)) (hl : l.length ≤ 1000000) : Ct prog 74 [.d (spansD (s0 :: l))] (vsp (aroundS s0 l).1 (aroundS s0 l).2) [] := by
  refine Ct.by gok eok mixed func74 c74 rfl ?_ ?_ ?_ fun E hE => ?_
  · simp [ntmps74]
  · simp
  · simp [ResIds]
  have h0 : (1 : Int) ≤ (l.length : Int) + 1 := by omega
  simp [p74, splice, h0]
  refine pw_loop (α := Nat) (fun i => ⟨slots [(2, .lp 0 0), (3, .lp 1 0), (10, .d (spansD l)), (11, vi l.length), (12, vi i)], lk [(0, [vi 0, vi 0]), (1, [vi (aroundS s0 (l.take i)).1, vi (aroundS s0 (l.take i)).2])], 16⟩) (fun i => i ≤ l.length) (fun i => l.length - i) 0 ?_ ?_ ?_
  · simp
  · refine Weak.mk hE (fun i => if i = 0 then some 0 else some 4194304) _ _ _ ?_ ?_ ?_ ?_ ?_ <;> simp [aroundS]
    exact List.take_of_length_le (by simp)
  · intro i hi
    simp [p74l0]
    refine cR_split (fun h => ?_) (fun h => ?_)
    · simp at h
      obtain ⟨s, hs⟩ : ∃ s, l[i]? = some s := ⟨l[i], by simp [h]⟩
      have hz : IntKind.wrap .i64 ((i : Int) + 1) = (i : Int) + 1 := wrap64 (by omega) (by omega)
      simp [spansD, hs, splice]
      refine pw_drawW [(11, 1)] (by kernel_rfl) ?_
      simp [splice, hz, inC, Nat.testBit]
      refine ⟨i + 1, by omega, by omega, ?_⟩
      refine Weak.mk hE (fun i => some i) _ _ _ ?_ ?_ ?_ ?_ ?_ <;> simp [aroundS_take hs, joinI]
    · simp at h
      have hil : i = l.length := by omega
      subst hil
      simp [splice]
      refine RetOk.by (fun _ => none) ?_
      simp [results74]
end Go.Proofs.Try
namespace Go.Proofs.Try
open Go.Psl
theorem fn42 (a b : Int × Int) : Ct prog 42 [vsp a.1 a.2, vsp b.1 b.2] (vse (joinS a b)) [] := by
  refine Ct.by gok eok mixed func42 c42 rfl ?_ ?_ ?_ fun E hE => ?_
  · simp [ntmps42]
  · simp
  · simp [ResIds]
  simp [p42, repl, splice]
  refine ACall.mk _ _ _ (fn85 [a, b] (by simp)) ?_ ?_ ?_ ?_
  · simp [Bor_ls]
  · simp
  · right; simp
  by_cases h : (okS a && okS b) = true
  · have hf : fineS [a, b] = true := by simpa [fineS] using h
    simp [hf, splice, repl]
    refine ACall.mk _ _ _ (fn74 a [b] (by simp)) ?_ ?_ ?_ ?_
    · simp [Bor_ls]
    · simp
    · right; simp
    simp [splice]
    refine RetOk.by (fun _ => none) ?_
    simp [results42, joinS, h, aroundS, joinI]
  · have hf : fineS [a, b] = false := by simpa [fineS] using h
    simp [hf, splice]
    refine RetOk.by (fun _ => none) ?_
    simp [results42, joinS, h]
def holdsS (a b : Int × Int) : Bool × Int := (okS a && okS b && decide (a.1 ≤ b.1) && decide (b.2 ≤ a.2), if okS a && okS b then 0 else 10)
theorem fn44 (a b : Int × Int) : Ct prog 44 [vsp a.1 a.2, vsp b.1 b.2] (.tup [vb (holdsS a b).1, vi (holdsS a b).2]) [] := by
  refine Ct.by gok eok mixed func44 c44 rfl ?_ ?_ ?_ fun E hE => ?_
  · simp [ntmps44]
  · simp
  · simp [ResIds]
  simp [p44]
  refine ACall.mk _ _ _ (fn42 a b) ?_ ?_ ?_ ?_
  · simp
  · simp
  · right; simp
  by_cases h : (okS a && okS b) = true
  · have e : joinS a b = ((min a.1 b.1, max a.2 b.2), 0) := by simp only [joinS, h, if_true]
    simp [e, splice, eqCells, eqCell]
    refine RetOk.by (fun _ => none) ?_
    simp [results44, holdsS]
    simp only [Bool.and_eq_true] at h
    simp [h]
    rw [Bool.eq_iff_iff]
    simp only [Bool.and_eq_true, beq_iff_eq, decide_eq_true_eq]
    omega
  · have e : joinS a b = ((0, 0), 10) := by simp only [joinS, h]; rfl
    simp [e, splice]
    refine RetOk.by (fun _ => none) ?_
    simp [results44, holdsS, h]
end Go.Proofs.Try
namespace Go.Proofs.Try
open Go.Psl
theorem fn45 (a b : Int × Int) : Ct prog 45 [vsp a.1 a.2, vsp b.1 b.2] (.tup [vb (holdsS a b).1, vi (holdsS a b).2]) [] := by
  refine Ct.by gok eok mixed func45 c45 rfl ?_ ?_ ?_ fun E hE => ?_
  · simp [ntmps45]
  · simp
  · simp [ResIds]
  simp [p45]
  refine ACall.mk _ _ _ (fn77 a) ?_ ?_ ?_ ?_
  · simp
  · simp
  · right; simp
  by_cases h1 : okS a = true
  · simp [h1]
    refine ACall.mk _ _ _ (fn77 b) ?_ ?_ ?_ ?_
    · simp
    · simp
    · right; simp
    by_cases h2 : okS b = true
    · by_cases h3 : a.1 ≤ b.1
      · simp [h2, h3]
        refine RetOk.by (fun _ => none) ?_
        simp [results45, holdsS, h1, h2, h3]
      · simp [h2, h3]
        refine RetOk.by (fun _ => none) ?_
        simp [results45, holdsS, h1, h2, h3]
    · simp [h2]
      refine RetOk.by (fun _ => none) ?_
      simp [results45, holdsS, h1, h2]
  · simp [h1]
    refine RetOk.by (fun _ => none) ?_
    simp [results45, holdsS, h1]
end Go.Proofs.Try
