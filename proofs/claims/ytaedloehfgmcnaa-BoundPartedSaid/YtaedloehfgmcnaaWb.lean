/- Contracts: what each function of the program computes, for the arguments that its theorem names; and from there the given statement. Conditions: those that each theorem states. -/
import Derived.Test.YtaedloehfgmcnaaWa
import Derived.Test.YtaedloehfgmcnaaPd
import Derived.Test.YtaedloehfgmcnaaFn
namespace Go.Proofs.Try
open Go.Psl
def spD (l : List (Int × Int)) : List D := l.flatMap fun s => [di s.1, di s.2]
abbrev cellsI (l : List (Int × Int)) : List V := (spD l).map .d
@[simp] theorem spD_len (l : List (Int × Int)) : (spD l).length = l.length * 2 := by
  induction l with
  | nil => rfl
  | cons a l ih => simp [spD] at ih ⊢; omega
theorem spD_snoc (l : List (Int × Int)) (p : Int × Int) : spD (l ++ [p]) = spD l ++ [di p.1, di p.2] := by simp [spD]
theorem fn116n (s : Int × Int) : Cm prog 116 [vsp s.1 s.2, .lp 0 0] (lk [(0, [.d (.lit (.slice none 0 0))])]) [0] (.ret (.tup [])) (lk [(0, [.ls 1 0 1 2]), (1, [vi s.1, vi s.2])]) := by
  refine Cm.by gok eok mixed 1 func116 c116 rfl (by simp [ntmps116]) (by simp) (HpIds.at (by simp)) (by simp) (by simp [ResIds]) fun E hs hE => ?_
  have w : IntKind.wrap .i64 (-1) = -1 := by decide
  simp [p116, w, repl, splice]
  refine RetOk.by (lk [(0, 0), (1, 22020097)]) ?_
  simp [results116]
theorem drop_last2 (l : List (Int × Int)) (x y : V) : (cellsI l ++ [x, y]).drop (l.length * 2 + 1) = [y] := by
  rw [show l.length * 2 = (cellsI l).length by simp, List.drop_append]
  simp
theorem splice_last2 (l : List (Int × Int)) (x y z : V) : splice (cellsI l ++ [x, y]) (l.length * 2 + 1) [z] = cellsI l ++ [x, z] := by
  have h1 : (cellsI l ++ [x, y]).take (l.length * 2 + 1) = cellsI l ++ [x] := by
    rw [show l.length * 2 = (cellsI l).length by simp, List.take_append, List.take_of_length_le (by omega)]
    simp
  have h2 : (cellsI l ++ [x, y]).drop (l.length * 2 + 1 + 1) = [] := by
    apply List.drop_of_length_le
    simp
  unfold splice
  simp [h1, h2]
theorem fn116a (l : List (Int × Int)) (p s : Int × Int) (hl : l.length ≤ 1000) (hp : -4611686018427387904 ≤ p.2 ∧ p.2 ≤ 4611686018427387904) (h : s.1 ≤ p.2 + 1) : Cm prog 116 [vsp s.1 s.2, .lp 0 0] (lk [(0, [.ls 1 0 (l.length + 1) 2]), (1, cellsI l ++ [vi p.1, vi p.2])]) [0] (.ret (.tup []))
    (lk [(0, [.ls 1 0 (l.length + 1) 2]), (1, cellsI l ++ [vi p.1, vi s.2])]) := by
  refine Cm.by gok eok mixed 2 func116 c116 rfl (by simp [ntmps116]) (by simp) (HpIds.at ?_) (by simp) ?_ fun E hs hE => ?_
  · simp
    rintro c (⟨a, _, rfl⟩ | rfl | rfl) <;> simp
  · simp [ResIds]
    rintro c (⟨a, _, rfl⟩ | rfl | rfl) <;> simp
  have w : IntKind.wrap .i64 (l.length : Int) = (l.length : Int) := wrap64 (by omega) (by omega)
  have w1 : IntKind.wrap .i64 (p.2 + 1) = p.2 + 1 := wrap64 (by omega) (by omega)
  have hlt : (l.length : Int) < (l.length : Int) + 1 := by omega
  have hdr := drop_last2 l (vi p.1) (vi p.2)
  simp [p116, w, w1, h, hlt, hdr, splice_last2]
  refine RetOk.by (lk [(0, 0), (1, 1)]) ?_
  simp [results116]
theorem fn116b (l : List (Int × Int)) (p s : Int × Int) (hl : l.length ≤ 1000) (hp : -4611686018427387904 ≤ p.2 ∧ p.2 ≤ 4611686018427387904) (h : ¬ s.1 ≤ p.2 + 1) : Cm prog 116 [vsp s.1 s.2, .lp 0 0] (lk [(0, [.ls 1 0 (l.length + 1) 2]), (1, cellsI l ++ [vi p.1, vi p.2])]) [0] (.ret (.tup []))
    (lk [(0, [.ls 1 0 (l.length + 2) 2]), (1, cellsI l ++ [vi p.1, vi p.2, vi s.1, vi s.2])]) := by
  refine Cm.by gok eok mixed 2 func116 c116 rfl (by simp [ntmps116]) (by simp) (HpIds.at ?_) (by simp) ?_ fun E hs hE => ?_
  · simp
    rintro c (⟨a, _, rfl⟩ | rfl | rfl) <;> simp
  · simp [ResIds]
    rintro c (⟨a, _, rfl⟩ | rfl | rfl | rfl | rfl) <;> simp
  have w : IntKind.wrap .i64 (l.length : Int) = (l.length : Int) := wrap64 (by omega) (by omega)
  have w1 : IntKind.wrap .i64 (p.2 + 1) = p.2 + 1 := wrap64 (by omega) (by omega)
  have hlt : (l.length : Int) < (l.length : Int) + 1 := by omega
  have hdr := drop_last2 l (vi p.1) (vi p.2)
  have hmx : (l.length + 1 + 1) * 16 ≤ 140737488355328 ∧ l.length + 1 + 1 ≤ 9223372036854775807 ∧ (l.length + 1) * 2 ≤ l.length * 2 + 2 := by omega
  have htk : (cellsI l ++ [vi p.1, vi p.2]).take ((l.length + 1) * 2) = cellsI l ++ [vi p.1, vi p.2] := List.take_of_length_le (by simp; omega)
  simp [p116, w, w1, h, repl, hlt, hdr, splice, hmx, htk]
  refine RetOk.by (lk [(0, 0), (1, 22020098)]) ?_
  simp [results116]
end Go.Proofs.Try
namespace Go.Proofs.Try
open Go.Psl
abbrev v3 (a b c : Int) : V := .agg [vi a, vi b, vi c]
def aboveS (f t w y : Int) : Int × Int :=
  if 0 < t - f then (max 0 (-(-((y - f) * w) / (t - f))), w) else if t - f < 0 then (0, min w (-((y - f) * w) / (-(t - f)))) else if 0 < (y - f) * w then (1, 0) else (0, w)
def lim (n : Int) : Prop := -1073741825 ≤ n ∧ n ≤ 1073741825
theorem want_le {f y w : Int} (hf : lim f) (hy : lim y) (hw : 0 ≤ w ∧ w ≤ 2147483648) : -4611686022722355200 ≤ (y - f) * w ∧ (y - f) * w ≤ 4611686022722355200 := by
  unfold lim at hf hy
  have h1 : (y - f) * w ≤ 2147483650 * w := Int.mul_le_mul_of_nonneg_right (by omega) hw.1
  have h2 : -2147483650 * w ≤ (y - f) * w := Int.mul_le_mul_of_nonneg_right (by omega) hw.1
  omega
theorem ediv_abs2 {a b M : Int} (hb : 1 ≤ b) (hM : 0 ≤ M) (ha : -M ≤ a ∧ a ≤ M) : -M ≤ a / b ∧ a / b ≤ M := by
  refine ⟨(Int.le_ediv_iff_mul_le (by omega)).2 ?_, ?_⟩
  · have h1 := Int.mul_le_mul_of_nonneg_left hb hM
    have h2 : -M * b = -(M * b) := by rw [Int.neg_mul]
    omega
  · by_cases h0 : 0 ≤ a
    · exact Int.le_trans (Int.ediv_le_self _ h0) ha.2
    · have := Int.ediv_neg_of_neg_of_pos (show a < 0 by omega) (show 0 < b by omega)
      omega
theorem fn117 (f t w y : Int) (hf : lim f) (ht : lim t) (hy : lim y) (hw : 0 ≤ w ∧ w ≤ 2147483648) : Ct prog 117 [v3 f t w, vi y] (.tup [vi (aboveS f t w y).1, vi (aboveS f t w y).2]) [] := by
  refine Ct.by gok eok mixed func117 c117 rfl (by simp [ntmps117]) (by simp) (by simp [ResIds]) fun E hE => ?_
  have hb := want_le hf hy hw
  unfold lim at hf ht hy
  have w1 : IntKind.wrap .i64 (t - f) = t - f := wrap64 (by omega) (by omega)
  have w2 : IntKind.wrap .i64 (y - f) = y - f := wrap64 (by omega) (by omega)
  have w3 : IntKind.wrap .i64 ((y - f) * w) = (y - f) * w := wrap64 (by omega) (by omega)
  obtain ⟨A, hA⟩ : ∃ A, (y - f) * w = A := ⟨_, rfl⟩
  obtain ⟨B, hB⟩ : ∃ B, t - f = B := ⟨_, rfl⟩
  rw [hA] at w3 hb
  rw [hB] at w1
  have w4 : IntKind.wrap .i64 (-A) = -A := wrap64 (by omega) (by omega)
  have w5 : IntKind.wrap .i64 (-B) = -B := wrap64 (by omega) (by omega)
  by_cases h1 : 0 < B
  · have q := ediv_abs2 (a := -A) (b := B) (M := 4611686022722355200) (by omega) (by omega) (by omega)
    have w6 : IntKind.wrap .i64 (-(-A / B)) = -(-A / B) := wrap64 (by omega) (by omega)
    simp [p117, hA, hB, w1, w2, w3, h1, w4]
    refine ACall.mk _ _ _ (fn113 (-A) B (by omega) (by omega) (by omega)) (by first | (simp; done) | simp [Bor_ls, Bor1_ls]) (by simp) (by first | (left; simp; done) | (right; simp; done)) ?_
    simp [w6]
    refine RetOk.by (fun _ => none) ?_
    simp [results117, aboveS, hA, hB, h1]
  · by_cases h2 : B < 0
    · have q := ediv_abs2 (a := -A) (b := -B) (M := 4611686022722355200) (by omega) (by omega) (by omega)
      simp [p117, hA, hB, w1, w2, w3, h1, h2, w4, w5]
      refine ACall.mk _ _ _ (fn113 (-A) (-B) (by omega) (by omega) (by omega)) (by first | (simp; done) | simp [Bor_ls, Bor1_ls]) (by simp) (by first | (left; simp; done) | (right; simp; done)) ?_
      simp
      refine RetOk.by (fun _ => none) ?_
      simp [results117, aboveS, hA, hB, h1, h2]
    · by_cases h3 : 0 < A
      · simp [p117, hA, hB, w1, w2, w3, h1, h2, h3]
        refine RetOk.by (fun _ => none) ?_
        simp [results117, aboveS, hA, hB, h1, h2, h3]
      · simp [p117, hA, hB, w1, w2, w3, h1, h2, h3]
        refine RetOk.by (fun _ => none) ?_
        simp [results117, aboveS, hA, hB, h1, h2, h3]
theorem fn118 (f t w y : Int) (hf : lim f) (ht : lim t) (hy : lim y) (hw : 0 ≤ w ∧ w ≤ 2147483648) : Ct prog 118 [v3 f t w, vi y] (.tup [vi (aboveS (-f) (-t) w (-y)).1, vi (aboveS (-f) (-t) w (-y)).2]) [] := by
  refine Ct.by gok eok mixed func118 c118 rfl (by simp [ntmps118]) (by simp) (by simp [ResIds]) fun E hE => ?_
  unfold lim at hf ht hy
  have w1 : IntKind.wrap .i64 (-f) = -f := wrap64 (by omega) (by omega)
  have w2 : IntKind.wrap .i64 (-t) = -t := wrap64 (by omega) (by omega)
  have w3 : IntKind.wrap .i64 (-y) = -y := wrap64 (by omega) (by omega)
  simp [p118, w1, w2, w3, splice]
  refine ACall.mk _ _ _ (fn117 (-f) (-t) w (-y) (by unfold lim; omega) (by unfold lim; omega) (by unfold lim; omega) hw) (by first | (simp; done) | simp [Bor_ls, Bor1_ls]) (by simp) (by first | (left; simp; done) | (right; simp; done)) ?_
  simp
  refine RetOk.by (fun _ => none) ?_
  simp [results118]
theorem fn81 (v : Int × Int) : Ct prog 81 [vsp v.1 v.2] (.tup [vi v.2, vi v.1]) [] := by
  refine Ct.by gok eok mixed func81 c81 rfl (by simp [ntmps81]) (by simp) (by simp [ResIds]) fun E hE => ?_
  simp [p81]
  refine RetOk.by (fun _ => none) ?_
  simp [results81]
theorem fn84 (v : Int × Int) : Ct prog 84 [vsp v.1 v.2] (.tup [vi v.1, vi v.2]) [] := by
  refine Ct.by gok eok mixed func84 c84 rfl (by simp [ntmps84]) (by simp) (by simp [ResIds]) fun E hE => ?_
  simp [p84]
  refine RetOk.by (fun _ => none) ?_
  simp [results84]
/-- a span more, behind the others -/
def putS (out : List (Int × Int)) (s : Int × Int) : List (Int × Int) := match out.getLast? with
  | some p => if s.1 ≤ p.2 + 1 then out.dropLast ++ [(p.1, s.2)] else out ++ [s]
  | none => [s]
theorem putS_nil (s : Int × Int) : putS [] s = [s] := rfl
theorem putS_snoc (l : List (Int × Int)) (p s : Int × Int) : putS (l ++ [p]) s = if s.1 ≤ p.2 + 1 then l ++ [(p.1, s.2)] else l ++ [p] ++ [s] := by simp [putS]
/-- where between two knots, in steps from the first -/
def edgeS (pick : Int × Int → Int × Int) (y : Int × Int) (a k : Int × Int × Int) : Int × Int :=
  (max (aboveS (pick a.2).1 (pick k.2).1 (k.1 - a.1) y.1).1 (aboveS (-(pick a.2).2) (-(pick k.2).2) (k.1 - a.1) (-y.2)).1,
   min (aboveS (pick a.2).1 (pick k.2).1 (k.1 - a.1) y.1).2 (aboveS (-(pick a.2).2) (-(pick k.2).2) (k.1 - a.1) (-y.2)).2)
def stepS (e : (Int × Int × Int) → (Int × Int × Int) → Int × Int) (l : List (Int × Int × Int)) (out : List (Int × Int)) (i : Nat) : List (Int × Int) := match l[i]?, l[i + 1]? with
  | some a, some k => if (e a k).1 ≤ (e a k).2 then putS out (a.1 + (e a k).1, a.1 + (e a k).2) else out
  | _, _ => out
def outS (e : (Int × Int × Int) → (Int × Int × Int) → Int × Int) (l : List (Int × Int × Int)) (i : Nat) : List (Int × Int) := (List.range i).foldl (stepS e l) []
theorem outS_succ (e : (Int × Int × Int) → (Int × Int × Int) → Int × Int) (l : List (Int × Int × Int)) (i : Nat) : outS e l (i + 1) = stepS e l (outS e l i) i := by simp [outS, List.range_succ]
def nearS (n : Int) : Int := min (max n (-1073741825)) 1073741825
def hdrV (out : List (Int × Int)) (b : Nat) : V := if out.isEmpty then .d (.lit (.slice none 0 0)) else .ls b 0 out.length 2
def outB (out : List (Int × Int)) (b : Nat) : List (Nat × List V) := if out.isEmpty then [] else [(b, cellsI out)]
end Go.Proofs.Try
namespace Go.Proofs.Try
open Go.Psl
theorem above_in (f t w y : Int) : 0 ≤ (aboveS f t w y).1 ∧ (aboveS f t w y).2 ≤ w ∨ (aboveS f t w y).2 < (aboveS f t w y).1 ∧ 0 ≤ (aboveS f t w y).1 := by
  unfold aboveS
  split
  · left; simp only; omega
  · split
    · left; simp only; omega
    · split
      · right; simp
      · left; simp
theorem edge_in {pick : Int × Int → Int × Int} {y : Int × Int} {a k : Int × Int × Int} (h : (edgeS pick y a k).1 ≤ (edgeS pick y a k).2) : 0 ≤ (edgeS pick y a k).1 ∧ (edgeS pick y a k).2 ≤ k.1 - a.1 := by
  unfold edgeS at h ⊢
  simp only at h ⊢
  have h1 := above_in (pick a.2).1 (pick k.2).1 (k.1 - a.1) y.1
  have h2 := above_in (-(pick a.2).2) (-(pick k.2).2) (k.1 - a.1) (-y.2)
  omega
theorem putS_all {q : Int × Int → Prop} (hq : ∀ a b c d, q (a, b) → q (c, d) → q (a, d)) {out : List (Int × Int)} {s : Int × Int} (ho : ∀ x ∈ out, q x) (hs : q s) : ∀ x ∈ putS out s, q x := by
  intro x hx
  unfold putS at hx
  cases hl : out.getLast? with
  | none =>
    rw [hl] at hx
    simp at hx
    subst hx; exact hs
  | some p =>
    rw [hl] at hx
    have hp : p ∈ out := List.mem_of_getLast? hl
    simp only at hx
    split at hx
    · simp only [List.mem_append, List.mem_singleton] at hx
      rcases hx with hx | rfl
      · exact ho x (List.dropLast_subset _ hx)
      · exact hq p.1 p.2 s.1 s.2 (ho p hp) hs
    · simp only [List.mem_append, List.mem_singleton] at hx
      rcases hx with hx | rfl
      · exact ho x hx
      · exact hs
theorem putS_len (out : List (Int × Int)) (s : Int × Int) : (putS out s).length ≤ out.length + 1 := by
  unfold putS
  cases hl : out.getLast? with
  | none => simp
  | some p =>
    simp only
    split <;> simp
theorem outS_in {pick : Int × Int → Int × Int} {y : Int × Int} {l : List (Int × Int × Int)} (ht : tabS l = true) : ∀ i, (∀ s ∈ outS (edgeS pick y) l i, -1073741824 ≤ s.2 ∧ s.2 ≤ 1073741824) ∧ (outS (edgeS pick y) l i).length ≤ i
  | 0 => by simp [outS]
  | i + 1 => by
    have ih := outS_in ht i (pick := pick) (y := y)
    rw [outS_succ]
    unfold stepS
    cases ha : l[i]? with
    | none => exact ⟨ih.1, by simp only; omega⟩
    | some a =>
      cases hk : l[i + 1]? with
      | none => exact ⟨ih.1, by simp only; omega⟩
      | some k =>
        simp only
        split
        · rename_i h
          have b := edge_in h
          have oa := okK_iff.1 (tab_okK ht ha)
          have ok := okK_iff.1 (tab_okK ht hk)
          have := putS_len (outS (edgeS pick y) l i) (a.1 + (edgeS pick y a k).1, a.1 + (edgeS pick y a k).2)
          refine ⟨putS_all (q := fun s => -1073741824 ≤ s.2 ∧ s.2 ≤ 1073741824) (fun _ _ _ _ _ h => h) ih.1 (by simp only; omega), by omega⟩
        · exact ⟨ih.1, by omega⟩
def findS (pick : Int × Int → Int × Int) (l : List (Int × Int × Int)) (y : Int × Int) : List (Int × Int) := outS (edgeS pick (nearS y.1, nearS y.2)) l (l.length - 1)
theorem nearS_lim (n : Int) : lim (nearS n) := by unfold lim nearS; omega
theorem nearS_max (n : Int) : min (max n (-1073741825)) 1073741825 = nearS n := rfl
theorem nearS_min (n : Int) : max (min n 1073741825) (-1073741825) = nearS n := by unfold nearS; omega
@[simp] theorem hdrV_nil (b : Nat) : hdrV [] b = .d (.lit (.slice none 0 0)) := rfl
@[simp] theorem hdrV_snoc (l : List (Int × Int)) (p : Int × Int) (b : Nat) : hdrV (l ++ [p]) b = .ls b 0 (l.length + 1) 2 := by simp [hdrV]
@[simp] theorem outB_nil (b : Nat) : outB [] b = [] := rfl
@[simp] theorem outB_snoc (l : List (Int × Int)) (p : Int × Int) (b : Nat) : outB (l ++ [p]) b = [(b, cellsI l ++ [vi p.1, vi p.2])] := by simp [outB, cellsI, spD_snoc]
@[simp] theorem hdrV_two (l : List (Int × Int)) (p q : Int × Int) (b : Nat) : hdrV (l ++ [p, q]) b = .ls b 0 (l.length + 2) 2 := by simp [hdrV]
@[simp] theorem outB_two (l : List (Int × Int)) (p q : Int × Int) (b : Nat) : outB (l ++ [p, q]) b = [(b, cellsI l ++ [vi p.1, vi p.2, vi q.1, vi q.2])] := by simp [outB, cellsI, spD]
@[simp] theorem hdrV_one (p : Int × Int) (b : Nat) : hdrV [p] b = .ls b 0 1 2 := rfl
@[simp] theorem outB_one (p : Int × Int) (b : Nat) : outB [p] b = [(b, [vi p.1, vi p.2])] := rfl
@[simp] theorem idsLt_outB (out : List (Int × Int)) (b n : Nat) (h : b < n) : idsLt n (outB out b) := by
  unfold outB
  split <;> simp [h]
theorem outB_ids (out : List (Int × Int)) (b : Nat) (L : List (Nat × List V)) : (∀ p ∈ outB out b, ∀ c ∈ p.2, AC (InB L) anyD c) := by
  unfold outB
  split
  · simp
  · simp
theorem outB_res (out : List (Int × Int)) (n : Int) : ResIds (.tup [hdrV out 0, vi n]) (outB out 0) := by
  refine ⟨?_, outB_ids out 0 _⟩
  unfold hdrV outB
  split
  · simp
  · simp [InB]
theorem fn80t (l : List (Int × Int × Int)) (y : Int × Int) (f : FuncId) (hl : l.length ≤ 1000000) (ht : tabS l = false) : Ct prog 80 [.d (knotsD l), vsp y.1 y.2, .d (.fn f [])] (.tup [.d (.lit (.slice none 0 0)), vi 13]) [] := by
  refine Ct.by gok eok mixed func80 c80 rfl (by simp [ntmps80]) (by simp) (by simp [ResIds]) fun E hE => ?_
  simp [p80]
  refine ACall.mk _ _ _ (fn26 l hl) (by first | (simp; done) | simp [Bor_ls, Bor1_ls]) (by simp) (by first | (left; simp; done) | (right; simp; done)) ?_
  simp [ht]
  refine RetOk.by (fun _ => none) ?_
  simp [results80]
theorem fn80s (l : List (Int × Int × Int)) (y : Int × Int) (f : FuncId) (hl : l.length ≤ 1000000) (ht : tabS l = true) (hy : okS y = false) : Ct prog 80 [.d (knotsD l), vsp y.1 y.2, .d (.fn f [])] (.tup [.d (.lit (.slice none 0 0)), vi 10]) [] := by
  refine Ct.by gok eok mixed func80 c80 rfl (by simp [ntmps80]) (by simp) (by simp [ResIds]) fun E hE => ?_
  simp [p80]
  refine ACall.mk _ _ _ (fn26 l hl) (by first | (simp; done) | simp [Bor_ls, Bor1_ls]) (by simp) (by first | (left; simp; done) | (right; simp; done)) ?_
  simp [ht]
  refine ACall.mk _ _ _ (fn46 y) (by first | (simp; done) | simp [Bor_ls, Bor1_ls]) (by simp) (by first | (left; simp; done) | (right; simp; done)) ?_
  simp [hy]
  refine RetOk.by (fun _ => none) ?_
  simp [results80]
theorem fn80 (l : List (Int × Int × Int)) (y : Int × Int) (f : FuncId) (pick : Int × Int → Int × Int) (hl : l.length ≤ 1000000) (hp : ∀ v : Int × Int, Ct prog f [vsp v.1 v.2] (.tup [vi (pick v).1, vi (pick v).2]) [])
    (hb : ∀ v : Int × Int, pick v = (v.1, v.2) ∨ pick v = (v.2, v.1)) (ht : tabS l = true) (hy : okS y = true) : Ct prog 80 [.d (knotsD l), vsp y.1 y.2, .d (.fn f [])]
    (.tup [hdrV (findS pick l y) 0, vi 0]) (outB (findS pick l y) 0) := by
  refine Ct.by gok eok mixed func80 c80 rfl (by simp [ntmps80]) (by simp) (outB_res _ _) fun E hE => ?_
  have hlen := tab_len ht
  have hlen1 : (1 : Int) ≤ l.length := by omega
  obtain ⟨rest, hrest⟩ : ∃ rest, l.drop 1 = rest := ⟨_, rfl⟩
  have hra : ∀ i, rest[i]? = l[i + 1]? := fun i => by rw [← hrest, List.getElem?_drop, Nat.add_comm]
  have hrl : rest.length = l.length - 1 := by rw [← hrest]; simp
  have hsl : (l.map fun k => [di k.1, di k.2.1, di k.2.2]).drop 1 = rest.map fun k => [di k.1, di k.2.1, di k.2.2] := by rw [← hrest, List.map_drop]
  have htk : (l.map fun k => [di k.1, di k.2.1, di k.2.2]).take l.length = l.map fun k => [di k.1, di k.2.1, di k.2.2] := List.take_of_length_le (by simp)
  simp [p80]
  refine ACall.mk _ _ _ (fn26 l hl) (by first | (simp; done) | simp [Bor_ls, Bor1_ls]) (by simp) (by first | (left; simp; done) | (right; simp; done)) ?_
  simp [ht]
  refine ACall.mk _ _ _ (fn46 y) (by first | (simp; done) | simp [Bor_ls, Bor1_ls]) (by simp) (by first | (left; simp; done) | (right; simp; done)) ?_
  simp [hy, splice, hlen1, htk, hsl, nearS_min, nearS_max]
  refine pw_loopC (α := Nat) 0 (fun _ : Unit => ⟨slots [(10, .lp 0 0)], lk ((0, [hdrV (findS pick l y) 1]) :: outB (findS pick l y) 1), 2⟩) (fun _ => True) (fun i => ⟨slots [(0, .d (knotsD l)), (2, .d (.fn f [])), (4, .lp 2 0), (10, .lp 0 0), (11, .cl 116 [.lp 0 0]), (53, .d (knotsD rest)), (54, vi rest.length), (55, vi i)], lk ((0, [hdrV (outS (edgeS pick (nearS y.1, nearS y.2)) l i) 1]) :: (2, [vi (nearS y.1), vi (nearS y.2)]) :: outB (outS (edgeS pick (nearS y.1, nearS y.2)) l i) 1), 3⟩) (fun i => i ≤ rest.length) (fun i => rest.length - i) 0 ?_ ?_ ?_ fun _ _ => ?_
  · simp
  · refine Weak.mk hE (lk [(0, 34603008), (2, 0)]) _ _ _ ?_ ?_ ?_ ?_ ?_ <;> simp [outS, hdrV, outB]
  · intro i hi
    simp [p80l0]
    refine cR_split (fun h => ?_) (fun h => ?_)
    · simp at h
      obtain ⟨i1, hi1⟩ : ∃ i1, i1 = i + 1 := ⟨_, rfl⟩
      obtain ⟨a, ha⟩ : ∃ a, l[i]? = some a := ⟨l[i], by simp [show i < l.length by omega]⟩
      obtain ⟨k, hk⟩ : ∃ k, l[i + 1]? = some k := ⟨l[i + 1], by simp [show i + 1 < l.length by omega]⟩
      have hrk : rest[i]? = some k := by rw [hra, hk]
      have oa := okK_iff.1 (tab_okK ht ha)
      have ok := okK_iff.1 (tab_okK ht hk)
      have hak := tab_mono ht ha hk (by omega)
      have hz : IntKind.wrap .i64 ((i : Int) + 1) = (i : Int) + 1 := wrap64 (by omega) (by omega)
      have ba : lim (pick a.2).1 ∧ lim (pick a.2).2 := by rcases hb a.2 with e | e <;> rw [e] <;> unfold lim <;> simp only <;> omega
      have bk : lim (pick k.2).1 ∧ lim (pick k.2).2 := by rcases hb k.2 with e | e <;> rw [e] <;> unfold lim <;> simp only <;> omega
      have w1 : IntKind.wrap .i64 (k.1 - a.1) = k.1 - a.1 := wrap64 (by omega) (by omega)
      have hst := outS_succ (edgeS pick (nearS y.1, nearS y.2)) l i
      simp only [stepS, ha, hk] at hst
      have hin := outS_in ht (pick := pick) (y := (nearS y.1, nearS y.2)) i
      have hei := edge_in (pick := pick) (y := (nearS y.1, nearS y.2)) (a := a) (k := k)
      obtain ⟨F, hF⟩ : ∃ F, (edgeS pick (nearS y.1, nearS y.2) a k).1 = F := ⟨_, rfl⟩
      obtain ⟨T, hT⟩ : ∃ T, (edgeS pick (nearS y.1, nearS y.2) a k).2 = T := ⟨_, rfl⟩
      rw [hF, hT] at hst hei
      have hF' : max (aboveS (pick a.2).1 (pick k.2).1 (k.1 - a.1) (nearS y.1)).1 (aboveS (-(pick a.2).2) (-(pick k.2).2) (k.1 - a.1) (-(nearS y.2))).1 = F := hF
      have hT' : min (aboveS (pick a.2).1 (pick k.2).1 (k.1 - a.1) (nearS y.1)).2 (aboveS (-(pick a.2).2) (-(pick k.2).2) (k.1 - a.1) (-(nearS y.2))).2 = T := hT
      obtain ⟨out, hout⟩ : ∃ out, outS (edgeS pick (nearS y.1, nearS y.2)) l i = out := ⟨_, rfl⟩
      rw [hout] at hst hin
      rw [hout]
      simp [hrk, ha, splice]
      refine ACall.mk _ _ _ (hp a.2) (by first | (simp; done) | simp [Bor_ls, Bor1_ls]) (by simp) (by first | (left; simp; done) | (right; simp; done)) ?_
      simp
      refine ACall.mk _ _ _ (hp k.2) (by first | (simp; done) | simp [Bor_ls, Bor1_ls]) (by simp) (by first | (left; simp; done) | (right; simp; done)) ?_
      simp [ha, w1, splice]
      refine ACall.mk _ _ _ (fn117 (pick a.2).1 (pick k.2).1 (k.1 - a.1) (nearS y.1) ba.1 bk.1 (nearS_lim _) (by omega)) (by first | (simp; done) | simp [Bor_ls, Bor1_ls]) (by simp) (by first | (left; simp; done) | (right; simp; done)) ?_
      simp [splice]
      refine ACall.mk _ _ _ (fn118 (pick a.2).2 (pick k.2).2 (k.1 - a.1) (nearS y.2) ba.2 bk.2 (nearS_lim _) (by omega)) (by first | (simp; done) | simp [Bor_ls, Bor1_ls]) (by simp) (by first | (left; simp; done) | (right; simp; done)) ?_
      by_cases hle : F ≤ T
      · rw [if_pos hle] at hst
        have hin2 := hei hle
        have u1 : IntKind.wrap .i64 (a.1 + F) = a.1 + F := wrap64 (by omega) (by omega)
        have u2 : IntKind.wrap .i64 (a.1 + T) = a.1 + T := wrap64 (by omega) (by omega)
        rcases List.eq_nil_or_concat out with rfl | ⟨l', p, rfl⟩
        · simp [hF', hT', hle, ha, u1, u2, splice]
          refine ACall.mkN [vsp (a.1 + F) (a.1 + T), .lp 0 0] [(0, [.d (.lit (.slice none 0 0))])] [0] (.ret (.tup [])) [(0, [.ls 1 0 1 2]), (1, [vi (a.1 + F), vi (a.1 + T)])] (fn116n (a.1 + F, a.1 + T)) ?_ ?_ ?_ ?_ ?_ ?_
          · simp
          · simp
          · simp
          · simp
          · left; simp
          simp [hz]
          refine ⟨i + 1, by omega, by omega, ?_⟩
          rw [hst, putS_nil]
          refine Weak.mk hE (lk [(0, 0), (1, 92274692), (2, 2)]) _ _ _ ?_ ?_ ?_ ?_ ?_ <;> simp
        · rw [List.concat_eq_append] at hst hin
          rw [putS_snoc] at hst
          have hpb := hin.1 p (by simp)
          have hll : l'.length ≤ 1000 := by have := hin.2; simp at this; omega
          rw [List.concat_eq_append]
          simp [hF', hT', hle, ha, u1, u2, splice]
          by_cases hov : a.1 + F ≤ p.2 + 1
          · rw [if_pos hov] at hst
            refine ACall.mkN [vsp (a.1 + F) (a.1 + T), .lp 0 0] [(0, [.ls 1 0 (l'.length + 1) 2]), (1, cellsI l' ++ [vi p.1, vi p.2])] [0] (.ret (.tup [])) [(0, [.ls 1 0 (l'.length + 1) 2]), (1, cellsI l' ++ [vi p.1, vi (a.1 + T)])] (fn116a l' p (a.1 + F, a.1 + T) hll (by omega) hov) ?_ ?_ ?_ ?_ ?_ ?_
            · simp
            · simp
            · simp
            · simp
            · left; simp
            simp [hz]
            refine ⟨i + 1, by omega, by omega, ?_⟩
            rw [hst]
            refine Weak.mk hE (lk [(0, 0), (1, 92274692), (2, 2)]) _ _ _ ?_ ?_ ?_ ?_ ?_ <;> simp
            rintro c (⟨a, _, rfl⟩ | rfl | rfl) <;> simp
          · rw [if_neg hov] at hst
            refine ACall.mkN [vsp (a.1 + F) (a.1 + T), .lp 0 0] [(0, [.ls 1 0 (l'.length + 1) 2]), (1, cellsI l' ++ [vi p.1, vi p.2])] [0] (.ret (.tup [])) [(0, [.ls 1 0 (l'.length + 2) 2]), (1, cellsI l' ++ [vi p.1, vi p.2, vi (a.1 + F), vi (a.1 + T)])] (fn116b l' p (a.1 + F, a.1 + T) hll (by omega) hov) ?_ ?_ ?_ ?_ ?_ ?_
            · simp
            · simp
            · simp
            · simp
            · left; simp
            simp [hz]
            refine ⟨i + 1, by omega, by omega, ?_⟩
            rw [hst]
            refine Weak.mk hE (lk [(0, 0), (1, 92274692), (2, 2)]) _ _ _ ?_ ?_ ?_ ?_ ?_ <;> simp
            rintro c (⟨a, _, rfl⟩ | rfl | rfl | rfl | rfl) <;> simp
      · rw [if_neg hle] at hst
        simp [hF', hT', hle, hz]
        refine ⟨i + 1, by omega, by omega, ?_⟩
        rw [hst]
        rcases List.eq_nil_or_concat out with rfl | ⟨l', p, rfl⟩
        · refine Weak.mk hE (lk [(0, 0), (2, 2)]) _ _ _ ?_ ?_ ?_ ?_ ?_ <;> simp
        · refine Weak.mk hE (lk [(0, 0), (1, 1), (2, 2)]) _ _ _ ?_ ?_ ?_ ?_ ?_ <;> simp
          rintro c (⟨a, _, rfl⟩ | rfl | rfl) <;> simp
    · simp at h
      have hil : i = l.length - 1 := by omega
      have hf : findS pick l y = outS (edgeS pick (nearS y.1, nearS y.2)) l i := by rw [findS, hil]
      simp
      rw [hf]
      rcases List.eq_nil_or_concat (outS (edgeS pick (nearS y.1, nearS y.2)) l i) with e | ⟨l', p, e⟩ <;> rw [e]
      · refine Weak.mk hE (lk [(0, 0)]) _ _ _ ?_ ?_ ?_ ?_ ?_ <;> simp
      · refine Weak.mk hE (lk [(0, 0), (1, 1)]) _ _ _ ?_ ?_ ?_ ?_ ?_ <;> simp
        rintro c (⟨a, _, rfl⟩ | rfl | rfl) <;> simp
  · simp
    rcases List.eq_nil_or_concat (findS pick l y) with e | ⟨l', p, e⟩ <;> rw [e]
    · simp
      refine RetOk.by (fun _ => none) ?_
      simp [results80]
    · simp
      refine RetOk.by (lk [(0, 1)]) ?_
      simp [results80]
end Go.Proofs.Try
namespace Go.Proofs.Try
open Go.Psl
def mayS (pick : Int × Int → Int × Int) (l : List (Int × Int × Int)) (y : Int × Int) : List (Int × Int) × Int := if tabS l = true then if okS y = true then (findS pick l y, 0) else ([], 10) else ([], 13)
theorem fn80u (l : List (Int × Int × Int)) (y : Int × Int) (f : FuncId) (pick : Int × Int → Int × Int) (hl : l.length ≤ 1000000) (hp : ∀ v : Int × Int, Ct prog f [vsp v.1 v.2] (.tup [vi (pick v).1, vi (pick v).2]) [])
    (hb : ∀ v : Int × Int, pick v = (v.1, v.2) ∨ pick v = (v.2, v.1)) : Ct prog 80 [.d (knotsD l), vsp y.1 y.2, .d (.fn f [])] (.tup [hdrV (mayS pick l y).1 0, vi (mayS pick l y).2]) (outB (mayS pick l y).1 0) := by
  unfold mayS
  cases ht : tabS l with
  | true =>
    cases hy : okS y with
    | true => exact fn80 l y f pick hl hp hb ht hy
    | false => exact fn80s l y f hl ht hy
  | false => exact fn80t l y f hl ht
theorem fn22 (l : List (Int × Int × Int)) (y : Int × Int) (hl : l.length ≤ 1000000) : Ct prog 22 [.d (knotsD l), vsp y.1 y.2] (.tup [hdrV (mayS (fun v => (v.2, v.1)) l y).1 0, vi (mayS (fun v => (v.2, v.1)) l y).2]) (outB (mayS (fun v => (v.2, v.1)) l y).1 0) := by
  refine Ct.by gok eok mixed func22 c22 rfl (by simp [ntmps22]) (by simp) (outB_res _ _) fun E hE => ?_
  simp [p22]
  refine ACall.mk _ _ _ (fn80u l y 81 (fun v => (v.2, v.1)) hl fn81 (fun _ => Or.inr rfl)) (by first | (simp; done) | simp [Bor_ls, Bor1_ls]) (by simp) (by first | (left; simp; done) | (right; simp; done)) ?_
  rcases List.eq_nil_or_concat (mayS (fun v => (v.2, v.1)) l y).1 with e | ⟨l', p, e⟩
  · simp [e]
    refine RetOk.by (fun _ => none) ?_
    simp [results22]
  · simp [e]
    refine RetOk.by (lk [(0, 5242880)]) ?_
    simp [results22]
theorem fn24 (l : List (Int × Int × Int)) (y : Int × Int) (hl : l.length ≤ 1000000) : Ct prog 24 [.d (knotsD l), vsp y.1 y.2] (.tup [hdrV (mayS (fun v => (v.1, v.2)) l y).1 0, vi (mayS (fun v => (v.1, v.2)) l y).2]) (outB (mayS (fun v => (v.1, v.2)) l y).1 0) := by
  refine Ct.by gok eok mixed func24 c24 rfl (by simp [ntmps24]) (by simp) (outB_res _ _) fun E hE => ?_
  simp [p24]
  refine ACall.mk _ _ _ (fn80u l y 84 (fun v => (v.1, v.2)) hl fn84 (fun _ => Or.inl rfl)) (by first | (simp; done) | simp [Bor_ls, Bor1_ls]) (by simp) (by first | (left; simp; done) | (right; simp; done)) ?_
  rcases List.eq_nil_or_concat (mayS (fun v => (v.1, v.2)) l y).1 with e | ⟨l', p, e⟩
  · simp [e]
    refine RetOk.by (fun _ => none) ?_
    simp [results24]
  · simp [e]
    refine RetOk.by (lk [(0, 5242880)]) ?_
    simp [results24]
end Go.Proofs.Try
namespace Go.Proofs.Try
open Go.Psl
theorem fn83 (n : Int) : Ct prog 83 [vi n] (vi (nearS n)) [] := by
  refine Ct.by gok eok mixed func83 c83 rfl (by simp [ntmps83]) (by simp) (by simp [ResIds]) fun E hE => ?_
  simp [p83]
  refine RetOk.by (fun _ => none) ?_
  simp [results83, nearS]
def upToS (lo hi slope most : Int) : Int × Int :=
  let hi' := if 0 < slope then min hi (floorS most slope) else hi
  let lo' := if slope < 0 then max lo (-floorS (-most) slope) else lo
  (if slope = 0 ∧ most < 0 then hi' + 1 else lo', hi')
theorem fn119 (lo hi slope most : Int) (_ : -4800000000000000000 ≤ lo ∧ lo ≤ 4800000000000000000) (hhi : -4800000000000000000 ≤ hi ∧ hi ≤ 4800000000000000000) (hs : -4294967296 ≤ slope ∧ slope ≤ 4294967296) (hm : -4700000000000000000 ≤ most ∧ most ≤ 4700000000000000000) : Ct prog 119 [vi lo, vi hi, vi slope, vi most] (vsp (upToS lo hi slope most).1 (upToS lo hi slope most).2) [] := by
  refine Ct.by gok eok mixed func119 c119 rfl (by simp [ntmps119]) (by simp) (by simp [ResIds]) fun E hE => ?_
  by_cases h1 : 0 < slope
  · have h2 : ¬ slope < 0 := by omega
    have h3 : ¬ slope = 0 := by omega
    simp [p119, h1]
    refine ACall.mk _ _ _ (fn114 most slope hm (by omega) (by omega)) (by first | (simp; done) | simp [Bor_ls, Bor1_ls]) (by simp) (by first | (left; simp; done) | (right; simp; done)) ?_
    simp [h2, h3, splice]
    refine RetOk.by (fun _ => none) ?_
    simp [results119, upToS, h1, h2, h3]
  · by_cases h2 : slope < 0
    · have h3 : ¬ slope = 0 := by omega
      simp [p119, h1, h2]
      refine ACall.mk _ _ _ (fn115 most slope hm (by omega) (by omega)) (by first | (simp; done) | simp [Bor_ls, Bor1_ls]) (by simp) (by first | (left; simp; done) | (right; simp; done)) ?_
      simp [h3, splice]
      refine RetOk.by (fun _ => none) ?_
      simp [results119, upToS, h1, h2, h3]
    · have h3 : slope = 0 := by omega
      subst h3
      have w : IntKind.wrap .i64 (hi + 1) = hi + 1 := wrap64 (by omega) (by omega)
      by_cases h4 : most < 0
      · simp [p119, h4, w, splice]
        refine RetOk.by (fun _ => none) ?_
        simp [results119, upToS, h4]
      · simp [p119, h4, splice]
        refine RetOk.by (fun _ => none) ?_
        simp [results119, upToS, h4]
def joinR (out : List (Int × Int)) (s : Int × Int) : List (Int × Int) := if s.2 < s.1 then out else match out.getLast? with
  | some p => if s.1 ≤ p.2 + 1 then out.dropLast ++ [(p.1, max p.2 s.2)] else out ++ [s]
  | none => [s]
theorem joinR_snoc (l : List (Int × Int)) (p s : Int × Int) (h : ¬ s.2 < s.1) : joinR (l ++ [p]) s = if s.1 ≤ p.2 + 1 then l ++ [(p.1, max p.2 s.2)] else l ++ [p, s] := by simp [joinR, h]
theorem outB_ids2 (out : List (Int × Int)) (b : Nat) : IdsFn (b + 1) (lk (outB out b)) := by
  rcases List.eq_nil_or_concat out with rfl | ⟨l, p, rfl⟩
  · exact HpIds.at (by simp)
  · rw [List.concat_eq_append]
    refine HpIds.at ?_
    simp
    rintro c (⟨a, _, rfl⟩ | rfl | rfl) <;> simp
theorem outB_res2 (out : List (Int × Int)) : ResIds (hdrV out 0) (outB out 0) := by
  refine ⟨?_, outB_ids out 0 _⟩
  unfold hdrV outB
  split
  · simp
  · simp [InB]
theorem hdrV_A2 (out : List (Int × Int)) (b n : Nat) (h : b < n) : A2 (· < n) anyD (hdrV out b) := by
  unfold hdrV
  split <;> simp [h]
theorem fn120 (out : List (Int × Int)) (s : Int × Int) (hl : out.length ≤ 1000) (hp : ∀ p ∈ out, -9000000000000000000 ≤ p.2 ∧ p.2 ≤ 9000000000000000000) : Cm prog 120 [hdrV out 0, vsp s.1 s.2] (lk (outB out 0)) [] (.ret (hdrV (joinR out s) 0)) (lk (outB (joinR out s) 0)) := by
  refine Cm.by gok eok mixed 1 func120 c120 rfl (by simp [ntmps120]) (by intro v hv; simp only [List.mem_cons, List.not_mem_nil, or_false] at hv; rcases hv with rfl | rfl; exact hdrV_A2 out 0 1 (by omega); simp) (outB_ids2 out 0) (by simp) (outB_res2 _) fun E hs hE => ?_
  by_cases h : s.2 < s.1
  · have e : joinR out s = out := by simp [joinR, h]
    rw [e]
    rcases List.eq_nil_or_concat out with rfl | ⟨l, p, rfl⟩
    · simp [p120, h]
      refine RetOk.by (fun _ => none) ?_
      simp [results120]
    · rw [List.concat_eq_append]
      simp [p120, h]
      refine RetOk.by (lk [(0, 0)]) ?_
      simp [results120]
  · rcases List.eq_nil_or_concat out with rfl | ⟨l, p, rfl⟩
    · have e : joinR [] s = [s] := by simp [joinR, h]
      rw [e]
      simp [p120, h, repl, splice]
      refine RetOk.by (lk [(0, 28311553)]) ?_
      simp [results120]
    · rw [List.concat_eq_append] at hl hp ⊢
      have hpp := hp p (by simp)
      have hll : l.length ≤ 1000 := by simp at hl; omega
      rw [joinR_snoc l p s h]
      have w : IntKind.wrap .i64 (l.length : Int) = (l.length : Int) := wrap64 (by omega) (by omega)
      have w1 : IntKind.wrap .i64 (p.2 + 1) = p.2 + 1 := wrap64 (by omega) (by omega)
      have hlt : (l.length : Int) < (l.length : Int) + 1 := by omega
      have hlt0 : (0 : Int) < (l.length : Int) + 1 := by omega
      have hdr := drop_last2 l (vi p.1) (vi p.2)
      by_cases hov : s.1 ≤ p.2 + 1
      · rw [if_pos hov]
        simp [p120, h, w, w1, hlt, hlt0, hov, hdr, splice_last2]
        refine RetOk.by (lk [(0, 0)]) ?_
        simp [results120]
      · rw [if_neg hov]
        have hmx : (l.length + 1 + 1) * 16 ≤ 140737488355328 ∧ l.length + 1 + 1 ≤ 9223372036854775807 ∧ (l.length + 1) * 2 ≤ l.length * 2 + 2 := by omega
        have htk : (cellsI l ++ [vi p.1, vi p.2]).take ((l.length + 1) * 2) = cellsI l ++ [vi p.1, vi p.2] := List.take_of_length_le (by simp; omega)
        simp [p120, h, w, w1, hlt, hlt0, hov, hdr, repl, splice, hmx, htk]
        refine RetOk.by (lk [(0, 28311553)]) ?_
        simp [results120]
end Go.Proofs.Try
namespace Go.Proofs.Try
open Go.Psl
theorem upToS_in (lo hi slope most : Int) (hm : -4700000000000000000 ≤ most ∧ most ≤ 4700000000000000000) : (upToS lo hi slope most).2 ≤ hi ∧ (upToS lo hi slope most).2 ≥ min hi (-4700000000000000000) ∧ (upToS lo hi slope most).1 ≤ max (max lo 4700000000000000000) (hi + 1) ∧ min lo (min hi (-4700000000000000000)) ≤ (upToS lo hi slope most).1 := by
  unfold upToS
  by_cases h1 : 0 < slope
  · have := floorS_abs (a := most) (b := slope) hm (by omega)
    simp only [h1, if_true, show ¬ slope < 0 by omega, show ¬ (slope = 0 ∧ most < 0) by omega, if_false]
    omega
  · by_cases h2 : slope < 0
    · have := floorS_abs (a := -most) (b := slope) (by omega) (by omega)
      simp only [h1, h2, if_true, show ¬ (slope = 0 ∧ most < 0) by omega, if_false]
      omega
    · have h3 : slope = 0 := by omega
      subst h3
      by_cases h4 : most < 0
      · simp [h4]; omega
      · simp [h4]; omega
def edgeR (pick : Int × Int → Int × Int) (y : Int × Int) (a k : Int × Int × Int) : Int × Int :=
  upToS (upToS 0 (k.1 - a.1) ((pick k.2).2 - (pick a.2).2) ((y.2 - (pick a.2).2) * (k.1 - a.1))).1 (upToS 0 (k.1 - a.1) ((pick k.2).2 - (pick a.2).2) ((y.2 - (pick a.2).2) * (k.1 - a.1))).2
    ((pick a.2).1 - (pick k.2).1) (((pick a.2).1 - y.1) * (k.1 - a.1))
def stepR (e : (Int × Int × Int) → (Int × Int × Int) → Int × Int) (l : List (Int × Int × Int)) (out : List (Int × Int)) (i : Nat) : List (Int × Int) := match l[i]?, l[i + 1]? with
  | some a, some k => joinR out (a.1 + (e a k).1, a.1 + (e a k).2)
  | _, _ => out
def outR (e : (Int × Int × Int) → (Int × Int × Int) → Int × Int) (l : List (Int × Int × Int)) (i : Nat) : List (Int × Int) := (List.range i).foldl (stepR e l) []
theorem outR_succ (e : (Int × Int × Int) → (Int × Int × Int) → Int × Int) (l : List (Int × Int × Int)) (i : Nat) : outR e l (i + 1) = stepR e l (outR e l i) i := by simp [outR, List.range_succ]
def pickM (may : Bool) (v : Int × Int) : Int × Int := if may then (v.2, v.1) else (v.1, v.2)
theorem edgeR_in {pick : Int × Int → Int × Int} {y : Int × Int} {a k : Int × Int × Int} (ha : lim (pick a.2).1 ∧ lim (pick a.2).2) (hy : lim y.1 ∧ lim y.2) (hw : 0 ≤ k.1 - a.1 ∧ k.1 - a.1 ≤ 2147483648) : (edgeR pick y a k).2 ≤ k.1 - a.1 ∧ -4700000000000000000 ≤ (edgeR pick y a k).2 ∧ -4700000000000000000 ≤ (edgeR pick y a k).1 ∧ (edgeR pick y a k).1 ≤ 4700000000000000000 := by
  have b1 := want_le ha.2 hy.2 hw
  have b2 := want_le hy.1 ha.1 hw
  have c1 := upToS_in 0 (k.1 - a.1) ((pick k.2).2 - (pick a.2).2) ((y.2 - (pick a.2).2) * (k.1 - a.1)) (by omega)
  have c2 := upToS_in (upToS 0 (k.1 - a.1) ((pick k.2).2 - (pick a.2).2) ((y.2 - (pick a.2).2) * (k.1 - a.1))).1 (upToS 0 (k.1 - a.1) ((pick k.2).2 - (pick a.2).2) ((y.2 - (pick a.2).2) * (k.1 - a.1))).2 ((pick a.2).1 - (pick k.2).1) (((pick a.2).1 - y.1) * (k.1 - a.1)) (by omega)
  unfold edgeR
  omega
theorem joinR_len (out : List (Int × Int)) (s : Int × Int) : (joinR out s).length ≤ out.length + 1 := by
  unfold joinR
  split
  · omega
  · cases hl : out.getLast? with
    | none => simp
    | some p => simp only; split <;> simp
theorem joinR_all {q : Int → Prop} (hq : ∀ a b, q a → q b → q (max a b)) {out : List (Int × Int)} {s : Int × Int} (ho : ∀ x ∈ out, q x.2) (hs : q s.2) : ∀ x ∈ joinR out s, q x.2 := by
  intro x hx
  unfold joinR at hx
  split at hx
  · exact ho x hx
  · cases hl : out.getLast? with
    | none =>
      rw [hl] at hx
      simp at hx
      subst hx; exact hs
    | some p =>
      rw [hl] at hx
      have hp : p ∈ out := List.mem_of_getLast? hl
      simp only at hx
      split at hx
      · simp only [List.mem_append, List.mem_singleton] at hx
        rcases hx with hx | rfl
        · exact ho x (List.dropLast_subset _ hx)
        · exact hq _ _ (ho p hp) hs
      · simp only [List.mem_append, List.mem_singleton] at hx
        rcases hx with hx | rfl
        · exact ho x hx
        · exact hs
theorem outR_in {pick : Int × Int → Int × Int} (hb : ∀ v : Int × Int, pick v = (v.1, v.2) ∨ pick v = (v.2, v.1)) {y : Int × Int} (hy : lim y.1 ∧ lim y.2) {l : List (Int × Int × Int)} (ht : tabS l = true) : ∀ i, (∀ s ∈ outR (edgeR pick y) l i, -9000000000000000000 ≤ s.2 ∧ s.2 ≤ 9000000000000000000) ∧ (outR (edgeR pick y) l i).length ≤ i
  | 0 => by simp [outR]
  | i + 1 => by
    have ih := outR_in hb hy ht i
    rw [outR_succ]
    unfold stepR
    cases ha : l[i]? with
    | none => exact ⟨ih.1, by simp only; omega⟩
    | some a =>
      cases hk : l[i + 1]? with
      | none => exact ⟨ih.1, by simp only; omega⟩
      | some k =>
        have oa := okK_iff.1 (tab_okK ht ha)
        have ok := okK_iff.1 (tab_okK ht hk)
        have hak := tab_mono ht ha hk (by omega)
        have := joinR_len (outR (edgeR pick y) l i) (a.1 + (edgeR pick y a k).1, a.1 + (edgeR pick y a k).2)
        refine ⟨?_, by simp only; omega⟩
        have ba : lim (pick a.2).1 ∧ lim (pick a.2).2 := by rcases hb a.2 with e | e <;> rw [e] <;> unfold lim <;> simp only <;> omega
        have b := edgeR_in (pick := pick) (y := y) (a := a) (k := k) ba hy (by omega)
        exact joinR_all (q := fun n => -9000000000000000000 ≤ n ∧ n ≤ 9000000000000000000) (fun a b (h1 : -9000000000000000000 ≤ a ∧ a ≤ 9000000000000000000) (h2 : -9000000000000000000 ≤ b ∧ b ≤ 9000000000000000000) => (by omega : -9000000000000000000 ≤ max a b ∧ max a b ≤ 9000000000000000000)) ih.1 (by simp only; omega)
theorem pickM_or (may : Bool) (v : Int × Int) : pickM may v = (v.1, v.2) ∨ pickM may v = (v.2, v.1) := by cases may <;> simp [pickM]
theorem fn82 (l : List (Int × Int × Int)) (most least : Int) (may : Bool) (ht : tabS l = true) (hy : lim least ∧ lim most) : Ct prog 82 [.d (knotsD l), vi most, vi least, vb may] (hdrV (outR (edgeR (pickM may) (least, most)) l (l.length - 1)) 0) (outB (outR (edgeR (pickM may) (least, most)) l (l.length - 1)) 0) := by
  refine Ct.by gok eok mixed func82 c82 rfl (by simp [ntmps82]) (by simp) (outB_res2 _) fun E hE => ?_
  have hlen := tab_len ht
  simp [p82]
  refine pw_loop (α := Nat) (fun i => ⟨slots [(0, .d (knotsD l)), (1, vi most), (2, vi least), (3, vb may), (9, hdrV (outR (edgeR (pickM may) (least, most)) l i) 0), (10, vi i)], lk (outB (outR (edgeR (pickM may) (least, most)) l i) 0), 1⟩) (fun i => i ≤ l.length - 1) (fun i => l.length - 1 - i) 0 ?_ ?_ ?_
  · simp
  · refine Weak.mk hE (lk []) _ _ _ ?_ ?_ ?_ ?_ ?_ <;> simp [outR]
  · intro i hi
    have hz : IntKind.wrap .i64 ((i : Int) + 1) = ((i + 1 : Nat) : Int) := by rw [wrap64 (by omega) (by omega)]; rfl
    obtain ⟨i1, hi1⟩ : ∃ i1, i + 1 = i1 := ⟨_, rfl⟩
    rw [hi1] at hz
    by_cases hlt : i1 < l.length
    · obtain ⟨a, ha⟩ : ∃ a, l[i]? = some a := ⟨l[i], by simp⟩
      obtain ⟨k, hk⟩ : ∃ k, l[i1]? = some k := ⟨l[i1], by simp⟩
      have oa := okK_iff.1 (tab_okK ht ha)
      have ok := okK_iff.1 (tab_okK ht hk)
      have hak := tab_mono ht ha hk (by omega)
      have ba : lim (pickM may a.2).1 ∧ lim (pickM may a.2).2 := by rcases pickM_or may a.2 with e | e <;> rw [e] <;> unfold lim <;> simp only <;> omega
      have bk : lim (pickM may k.2).1 ∧ lim (pickM may k.2).2 := by rcases pickM_or may k.2 with e | e <;> rw [e] <;> unfold lim <;> simp only <;> omega
      have hst := outR_succ (edgeR (pickM may) (least, most)) l i
      simp only [stepR, ha, hk, hi1] at hst
      have hin := outR_in (pickM_or may) (y := (least, most)) hy ht i
      have hei := edgeR_in (pick := pickM may) (y := (least, most)) (a := a) (k := k) ba hy (by omega)
      have hed : edgeR (pickM may) (least, most) a k = upToS (upToS 0 (k.1 - a.1) ((pickM may k.2).2 - (pickM may a.2).2) ((most - (pickM may a.2).2) * (k.1 - a.1))).1 (upToS 0 (k.1 - a.1) ((pickM may k.2).2 - (pickM may a.2).2) ((most - (pickM may a.2).2) * (k.1 - a.1))).2 ((pickM may a.2).1 - (pickM may k.2).1) (((pickM may a.2).1 - least) * (k.1 - a.1)) := rfl
      have m1 := want_le ba.2 hy.2 (show 0 ≤ k.1 - a.1 ∧ k.1 - a.1 ≤ 2147483648 by omega)
      have m2 := want_le hy.1 ba.1 (show 0 ≤ k.1 - a.1 ∧ k.1 - a.1 ≤ 2147483648 by omega)
      have c1 := upToS_in 0 (k.1 - a.1) ((pickM may k.2).2 - (pickM may a.2).2) ((most - (pickM may a.2).2) * (k.1 - a.1)) (by omega)
      unfold lim at ba bk hy
      have w1 : IntKind.wrap .i64 (k.1 - a.1) = k.1 - a.1 := wrap64 (by omega) (by omega)
      have f1 := fn119 0 (k.1 - a.1) ((pickM may k.2).2 - (pickM may a.2).2) ((most - (pickM may a.2).2) * (k.1 - a.1)) (by omega) (by omega) (by omega) (by omega)
      have f2 := fn119 (upToS 0 (k.1 - a.1) ((pickM may k.2).2 - (pickM may a.2).2) ((most - (pickM may a.2).2) * (k.1 - a.1))).1 (upToS 0 (k.1 - a.1) ((pickM may k.2).2 - (pickM may a.2).2) ((most - (pickM may a.2).2) * (k.1 - a.1))).2 ((pickM may a.2).1 - (pickM may k.2).1) (((pickM may a.2).1 - least) * (k.1 - a.1)) (by omega) (by omega) (by omega) (by omega)
      rw [← hed] at f2
      have w2 : IntKind.wrap .i64 ((pickM may k.2).2 - (pickM may a.2).2) = (pickM may k.2).2 - (pickM may a.2).2 := wrap64 (by omega) (by omega)
      have w3 : IntKind.wrap .i64 (most - (pickM may a.2).2) = most - (pickM may a.2).2 := wrap64 (by omega) (by omega)
      have w4 : IntKind.wrap .i64 ((most - (pickM may a.2).2) * (k.1 - a.1)) = (most - (pickM may a.2).2) * (k.1 - a.1) := wrap64 (by omega) (by omega)
      have w5 : IntKind.wrap .i64 ((pickM may a.2).1 - (pickM may k.2).1) = (pickM may a.2).1 - (pickM may k.2).1 := wrap64 (by omega) (by omega)
      have w6 : IntKind.wrap .i64 ((pickM may a.2).1 - least) = (pickM may a.2).1 - least := wrap64 (by omega) (by omega)
      have w7 : IntKind.wrap .i64 (((pickM may a.2).1 - least) * (k.1 - a.1)) = ((pickM may a.2).1 - least) * (k.1 - a.1) := wrap64 (by omega) (by omega)
      obtain ⟨e, he⟩ : ∃ e, edgeR (pickM may) (least, most) a k = e := ⟨_, rfl⟩
      rw [he] at hst f2 hei
      have w8 : IntKind.wrap .i64 (a.1 + e.1) = a.1 + e.1 := wrap64 (by omega) (by omega)
      have w9 : IntKind.wrap .i64 (a.1 + e.2) = a.1 + e.2 := wrap64 (by omega) (by omega)
      obtain ⟨out, hout⟩ : ∃ out, outR (edgeR (pickM may) (least, most)) l i = out := ⟨_, rfl⟩
      rw [hout] at hst hin
      simp only [hout]
      cases may with
      | true =>
        simp only [pickM, if_true] at w2 w3 w4 w5 w6 w7 f1 f2
        simp [p82l0, hz]
        refine cR_split (fun _ => ?_) (fun h => absurd hlt (by simpa using h))
        simp [hz, ha, hk, w1]
        refine pw_drawA [(13, 11), (14, 12)] (by kernel_rfl) ?_
        simp [hz, ha, hk, inC, Nat.testBit, splice, w2, w3, w4]
        refine ACall.mk _ _ _ (f1) (by first | (simp; done) | simp [Bor_ls, Bor1_ls]) (by simp) (by first | (left; simp; done) | (right; simp; done)) ?_
        simp [splice, w5, w6, w7]
        refine ACall.mk _ _ _ (f2) (by first | (simp; done) | simp [Bor_ls, Bor1_ls]) (by simp) (by first | (left; simp; done) | (right; simp; done)) ?_
        rcases List.eq_nil_or_concat out with rfl | ⟨l', p, rfl⟩
        · simp [ha, splice, w8, w9]
          refine ACall.mkN [hdrV [] 0, vsp (a.1 + e.1) (a.1 + e.2)] (outB [] 0) [] (.ret (hdrV (joinR [] (a.1 + e.1, a.1 + e.2)) 0)) (outB (joinR [] (a.1 + e.1, a.1 + e.2)) 0) (fn120 [] (a.1 + e.1, a.1 + e.2) (by have := hin.2; omega) hin.1) ?_ ?_ ?_ ?_ ?_ ?_
          · simp
          · simp
          · simp
          · simp
          · left; simp
          rcases List.eq_nil_or_concat (joinR [] (a.1 + e.1, a.1 + e.2)) with ej | ⟨l2, p2, ej⟩ <;> (try rw [List.concat_eq_append] at ej) <;> rw [ej] at hst <;> rw [ej]
          · simp [hz]
            refine ⟨i1, by omega, by omega, ?_⟩
            rw [hst]
            refine Weak.mk hE (lk []) _ _ _ ?_ ?_ ?_ ?_ ?_ <;> simp
          · simp [hz]
            refine ⟨i1, by omega, by omega, ?_⟩
            rw [hst]
            refine Weak.mk hE (lk [(0, 89128961)]) _ _ _ ?_ ?_ ?_ ?_ ?_ <;> simp
            rintro c (⟨a, _, rfl⟩ | rfl | rfl) <;> simp
        · rw [List.concat_eq_append] at hst hin ⊢
          simp [ha, splice, w8, w9]
          refine ACall.mkN [hdrV (l' ++ [p]) 0, vsp (a.1 + e.1) (a.1 + e.2)] (outB (l' ++ [p]) 0) [] (.ret (hdrV (joinR (l' ++ [p]) (a.1 + e.1, a.1 + e.2)) 0)) (outB (joinR (l' ++ [p]) (a.1 + e.1, a.1 + e.2)) 0) (fn120 (l' ++ [p]) (a.1 + e.1, a.1 + e.2) (by have := hin.2; omega) hin.1) ?_ ?_ ?_ ?_ ?_ ?_
          · simp
          · simp
          · simp
          · simp
          · left; simp
          rcases List.eq_nil_or_concat (joinR (l' ++ [p]) (a.1 + e.1, a.1 + e.2)) with ej | ⟨l2, p2, ej⟩ <;> (try rw [List.concat_eq_append] at ej) <;> rw [ej] at hst <;> rw [ej]
          · simp [hz]
            refine ⟨i1, by omega, by omega, ?_⟩
            rw [hst]
            refine Weak.mk hE (lk []) _ _ _ ?_ ?_ ?_ ?_ ?_ <;> simp
          · simp [hz]
            refine ⟨i1, by omega, by omega, ?_⟩
            rw [hst]
            refine Weak.mk hE (lk [(0, 89128961)]) _ _ _ ?_ ?_ ?_ ?_ ?_ <;> simp
            rintro c (⟨a, _, rfl⟩ | rfl | rfl) <;> simp
      | false =>
        simp only [pickM, Bool.false_eq_true, if_false] at w2 w3 w4 w5 w6 w7 f1 f2
        simp [p82l0, hz]
        refine cR_split (fun _ => ?_) (fun h => absurd hlt (by simpa using h))
        simp [hz, ha, hk, w1]
        refine pw_drawA [(13, 11), (14, 12)] (by kernel_rfl) ?_
        simp [hz, ha, hk, inC, Nat.testBit, splice]
        refine pw_drawW [(10, 30408705), (11, 31457281)] (by kernel_rfl) ?_
        simp [inC, Nat.testBit, splice, w2, w3, w4]
        refine ACall.mk _ _ _ (f1) (by first | (simp; done) | simp [Bor_ls, Bor1_ls]) (by simp) (by first | (left; simp; done) | (right; simp; done)) ?_
        simp [splice, w5, w6, w7]
        refine ACall.mk _ _ _ (f2) (by first | (simp; done) | simp [Bor_ls, Bor1_ls]) (by simp) (by first | (left; simp; done) | (right; simp; done)) ?_
        rcases List.eq_nil_or_concat out with rfl | ⟨l', p, rfl⟩
        · simp [ha, splice, w8, w9]
          refine ACall.mkN [hdrV [] 0, vsp (a.1 + e.1) (a.1 + e.2)] (outB [] 0) [] (.ret (hdrV (joinR [] (a.1 + e.1, a.1 + e.2)) 0)) (outB (joinR [] (a.1 + e.1, a.1 + e.2)) 0) (fn120 [] (a.1 + e.1, a.1 + e.2) (by have := hin.2; omega) hin.1) ?_ ?_ ?_ ?_ ?_ ?_
          · simp
          · simp
          · simp
          · simp
          · left; simp
          rcases List.eq_nil_or_concat (joinR [] (a.1 + e.1, a.1 + e.2)) with ej | ⟨l2, p2, ej⟩ <;> (try rw [List.concat_eq_append] at ej) <;> rw [ej] at hst <;> rw [ej]
          · simp [hz]
            refine ⟨i1, by omega, by omega, ?_⟩
            rw [hst]
            refine Weak.mk hE (lk []) _ _ _ ?_ ?_ ?_ ?_ ?_ <;> simp
          · simp [hz]
            refine ⟨i1, by omega, by omega, ?_⟩
            rw [hst]
            refine Weak.mk hE (lk [(0, 101711873)]) _ _ _ ?_ ?_ ?_ ?_ ?_ <;> simp
            rintro c (⟨a, _, rfl⟩ | rfl | rfl) <;> simp
        · rw [List.concat_eq_append] at hst hin ⊢
          simp [ha, splice, w8, w9]
          refine ACall.mkN [hdrV (l' ++ [p]) 0, vsp (a.1 + e.1) (a.1 + e.2)] (outB (l' ++ [p]) 0) [] (.ret (hdrV (joinR (l' ++ [p]) (a.1 + e.1, a.1 + e.2)) 0)) (outB (joinR (l' ++ [p]) (a.1 + e.1, a.1 + e.2)) 0) (fn120 (l' ++ [p]) (a.1 + e.1, a.1 + e.2) (by have := hin.2; omega) hin.1) ?_ ?_ ?_ ?_ ?_ ?_
          · simp
          · simp
          · simp
          · simp
          · left; simp
          rcases List.eq_nil_or_concat (joinR (l' ++ [p]) (a.1 + e.1, a.1 + e.2)) with ej | ⟨l2, p2, ej⟩ <;> (try rw [List.concat_eq_append] at ej) <;> rw [ej] at hst <;> rw [ej]
          · simp [hz]
            refine ⟨i1, by omega, by omega, ?_⟩
            rw [hst]
            refine Weak.mk hE (lk []) _ _ _ ?_ ?_ ?_ ?_ ?_ <;> simp
          · simp [hz]
            refine ⟨i1, by omega, by omega, ?_⟩
            rw [hst]
            refine Weak.mk hE (lk [(0, 101711873)]) _ _ _ ?_ ?_ ?_ ?_ ?_ <;> simp
            rintro c (⟨a, _, rfl⟩ | rfl | rfl) <;> simp
    · have hil : l.length - 1 = i := by omega
      have hn : ¬ (i1 : Int) < l.length := by omega
      simp only [hil]
      simp [p82l0, hz, hn]
      rcases List.eq_nil_or_concat (outR (edgeR (pickM may) (least, most)) l i) with e | ⟨l', p, e⟩ <;> rw [e]
      · refine RetOk.by (fun _ => none) ?_
        simp [results82]
      · rw [List.concat_eq_append]
        refine RetOk.by (lk [(0, 0)]) ?_
        simp [results82]
end Go.Proofs.Try
namespace Go.Proofs.Try
open Go.Psl
def gS (rise want w : Int) : Int × Int := if 0 < rise then (max 0 (-(-want / rise)), w) else if rise < 0 then (0, min w (-want / (-rise))) else if 0 < want then (1, 0) else (0, w)
theorem above_gS (f t w y : Int) : aboveS f t w y = gS (t - f) ((y - f) * w) w := rfl
theorem upTo_one (s M w : Int) : upToS 0 w s M = gS (-s) (-M) w ∨ (upToS 0 w s M = (w + 1, w) ∧ gS (-s) (-M) w = (1, 0)) := by
  unfold upToS gS
  by_cases h1 : 0 < s
  · left
    simp only [h1, if_true, show ¬ s < 0 by omega, show ¬ (s = 0 ∧ M < 0) by omega, if_false, show ¬ 0 < -s by omega, show -s < 0 by omega, Int.neg_neg, floorS]
  · by_cases h2 : s < 0
    · left
      simp only [h1, h2, if_true, show ¬ (s = 0 ∧ M < 0) by omega, if_false, show 0 < -s by omega, Int.neg_neg, floorS]
    · have h3 : s = 0 := by omega
      subst h3
      by_cases h4 : M < 0
      · right
        simp [h4]
      · left
        simp [h4]
theorem upTo_two {lo hi s N w : Int} (h0 : 0 ≤ lo) (hw : hi ≤ w) : upToS lo hi s N = (max lo (gS (-s) (-N) w).1, min hi (gS (-s) (-N) w).2) ∨ ((upToS lo hi s N).2 < (upToS lo hi s N).1 ∧ min hi (gS (-s) (-N) w).2 < max lo (gS (-s) (-N) w).1) := by
  unfold upToS gS
  by_cases h1 : 0 < s
  · left
    simp only [h1, if_true, show ¬ s < 0 by omega, show ¬ (s = 0 ∧ N < 0) by omega, if_false, show ¬ 0 < -s by omega, show -s < 0 by omega, Int.neg_neg, floorS]
    ext <;> simp only <;> omega
  · by_cases h2 : s < 0
    · left
      simp only [h1, h2, if_true, show ¬ (s = 0 ∧ N < 0) by omega, if_false, show 0 < -s by omega, Int.neg_neg, floorS]
      ext <;> simp only <;> omega
    · have h3 : s = 0 := by omega
      subst h3
      by_cases h4 : N < 0
      · right
        simp [h4]; omega
      · left
        simp [h4]
        omega
theorem upTo_empty {lo hi s N : Int} (h : hi < lo) : (upToS lo hi s N).2 < (upToS lo hi s N).1 := by
  unfold upToS
  by_cases h1 : 0 < s
  · simp only [h1, if_true, show ¬ s < 0 by omega, show ¬ (s = 0 ∧ N < 0) by omega, if_false]; omega
  · by_cases h2 : s < 0
    · simp only [h1, h2, if_true, show ¬ (s = 0 ∧ N < 0) by omega, if_false]; omega
    · have h3 : s = 0 := by omega
      subst h3
      by_cases h4 : N < 0 <;> simp [h4] <;> omega
theorem gS_in {r n w : Int} (hw : 0 ≤ w) : 0 ≤ (gS r n w).1 ∧ (gS r n w).2 ≤ w := by
  unfold gS
  split
  · simp only; omega
  · split
    · simp only; omega
    · split
      · simp only; omega
      · simp only; omega
theorem edge_law (pick : Int × Int → Int × Int) (y : Int × Int) {a k : Int × Int × Int} (hw : 0 ≤ k.1 - a.1) : edgeR pick y a k = edgeS pick y a k ∨ ((edgeR pick y a k).2 < (edgeR pick y a k).1 ∧ (edgeS pick y a k).2 < (edgeS pick y a k).1) := by
  unfold edgeR edgeS
  simp only [above_gS]
  have e1 : (-y.2 - -(pick a.2).2) * (k.1 - a.1) = -((y.2 - (pick a.2).2) * (k.1 - a.1)) := by rw [show -y.2 - -(pick a.2).2 = -(y.2 - (pick a.2).2) by omega, Int.neg_mul]
  have e2 : -(pick k.2).2 - -(pick a.2).2 = -((pick k.2).2 - (pick a.2).2) := by omega
  have e3 : (y.1 - (pick a.2).1) * (k.1 - a.1) = -(((pick a.2).1 - y.1) * (k.1 - a.1)) := by rw [show y.1 - (pick a.2).1 = -((pick a.2).1 - y.1) by omega, Int.neg_mul]
  have e4 : (pick k.2).1 - (pick a.2).1 = -((pick a.2).1 - (pick k.2).1) := by omega
  rw [e1, e2, e3, e4]
  generalize (y.2 - (pick a.2).2) * (k.1 - a.1) = M
  generalize (pick k.2).2 - (pick a.2).2 = s1
  generalize ((pick a.2).1 - y.1) * (k.1 - a.1) = N
  generalize (pick a.2).1 - (pick k.2).1 = s2
  generalize k.1 - a.1 = w at *
  have g := gS_in (r := -s1) (n := -M) hw
  rcases upTo_one s1 M w with h | ⟨h, h2⟩
  · rw [h]
    rcases upTo_two (s := s2) (N := N) g.1 g.2 with h3 | ⟨h3, h4⟩
    · left
      rw [h3, Int.max_comm, Int.min_comm]
    · right
      exact ⟨h3, by rw [Int.max_comm, Int.min_comm]; exact h4⟩
  · right
    rw [h, h2]
    refine ⟨upTo_empty (by simp only; omega), ?_⟩
    simp only; omega
theorem out_law (pick : Int × Int → Int × Int) (y : Int × Int) {l : List (Int × Int × Int)} (ht : tabS l = true) : ∀ i, outR (edgeR pick y) l i = outS (edgeS pick y) l i ∧ ∀ s ∈ outS (edgeS pick y) l i, ∀ a, l[i]? = some a → s.2 ≤ a.1
  | 0 => by simp [outR, outS]
  | i + 1 => by
    obtain ⟨ih, ih2⟩ := out_law pick y ht i
    rw [outR_succ, outS_succ, ih]
    unfold stepR stepS
    cases ha : l[i]? with
    | none =>
      refine ⟨rfl, fun s hs a h => ?_⟩
      have h1 := (List.getElem?_eq_some_iff.1 h).1
      have h2 := List.getElem?_eq_none_iff.1 ha
      omega
    | some a =>
      cases hk : l[i + 1]? with
      | none => exact ⟨rfl, fun s hs a h => by cases h⟩
      | some k =>
        have hak := tab_mono ht ha hk (by omega)
        simp only
        have hold : ∀ s ∈ outS (edgeS pick y) l i, s.2 ≤ a.1 := fun s hs => ih2 s hs a ha
        by_cases hc : (edgeS pick y a k).1 ≤ (edgeS pick y a k).2
        · rw [if_pos hc]
          have hin := edge_in hc
          have he : edgeR pick y a k = edgeS pick y a k := (edge_law pick y (a := a) (k := k) (by omega)).resolve_right fun h => by omega
          rw [he]
          constructor
          · unfold joinR putS
            rw [if_neg (by simp only; omega)]
            cases hl : (outS (edgeS pick y) l i).getLast? with
            | none => rfl
            | some p =>
              have hp := hold p (List.mem_of_getLast? hl)
              simp only
              rw [Int.max_eq_right (by omega)]
          · intro s hs b hb
            cases hb
            exact putS_all (q := fun s => s.2 ≤ k.1) (fun _ _ _ _ _ h => h) (fun s hs => by have := hold s hs; omega) (by simp only; omega) s hs
        · rw [if_neg hc]
          have he : (edgeR pick y a k).2 < (edgeR pick y a k).1 := by
            rcases edge_law pick y (a := a) (k := k) (by omega) with h | h
            · rw [h]; omega
            · exact h.1
          refine ⟨by unfold joinR; rw [if_pos (by simp only; omega)], fun s hs b hb => ?_⟩
          cases hb
          have := hold s hs
          omega
theorem fn23 (l : List (Int × Int × Int)) (y : Int × Int) (hl : l.length ≤ 1000000) : Ct prog 23 [.d (knotsD l), vsp y.1 y.2] (.tup [hdrV (mayS (pickM true) l y).1 0, vi (mayS (pickM true) l y).2]) (outB (mayS (pickM true) l y).1 0) := by
  refine Ct.by gok eok mixed func23 c23 rfl (by simp [ntmps23]) (by simp) (outB_res _ _) fun E hE => ?_
  simp [p23]
  refine ACall.mk _ _ _ (fn76 l hl) (by first | (simp; done) | simp [Bor_ls, Bor1_ls]) (by simp) (by first | (left; simp; done) | (right; simp; done)) ?_
  by_cases ht : tabS l = true
  · simp [ht]
    refine ACall.mk _ _ _ (fn77 y) (by first | (simp; done) | simp [Bor_ls, Bor1_ls]) (by simp) (by first | (left; simp; done) | (right; simp; done)) ?_
    by_cases hy : okS y = true
    · have e : mayS (pickM true) l y = (outR (edgeR (pickM true) (nearS y.1, nearS y.2)) l (l.length - 1), 0) := by simp [mayS, ht, hy, findS, (out_law (pickM true) (nearS y.1, nearS y.2) ht (l.length - 1)).1]
      rw [e]
      simp [hy]
      refine ACall.mk _ _ _ (fn83 y.2) (by first | (simp; done) | simp [Bor_ls, Bor1_ls]) (by simp) (by first | (left; simp; done) | (right; simp; done)) ?_
      simp
      refine ACall.mk _ _ _ (fn83 y.1) (by first | (simp; done) | simp [Bor_ls, Bor1_ls]) (by simp) (by first | (left; simp; done) | (right; simp; done)) ?_
      simp
      refine ACall.mk _ _ _ (fn82 l (nearS y.2) (nearS y.1) true ht ⟨nearS_lim _, nearS_lim _⟩) (by first | (simp; done) | simp [Bor_ls, Bor1_ls]) (by simp) (by first | (left; simp; done) | (right; simp; done)) ?_
      rcases List.eq_nil_or_concat (outR (edgeR (pickM true) (nearS y.1, nearS y.2)) l (l.length - 1)) with e | ⟨l', p, e⟩
      · simp [e]
        refine RetOk.by (fun _ => none) ?_
        simp [results23]
      · simp [e]
        refine RetOk.by (lk [(0, 16777216)]) ?_
        simp [results23]
    · have e : mayS (pickM true) l y = ([], 10) := by simp [mayS, ht, hy]
      rw [e]
      simp [hy]
      refine RetOk.by (fun _ => none) ?_
      simp [results23]
  · have e : mayS (pickM true) l y = ([], 13) := by simp [mayS, ht]
    rw [e]
    simp [ht]
    refine RetOk.by (fun _ => none) ?_
    simp [results23]
theorem fn25 (l : List (Int × Int × Int)) (y : Int × Int) (hl : l.length ≤ 1000000) : Ct prog 25 [.d (knotsD l), vsp y.1 y.2] (.tup [hdrV (mayS (pickM false) l y).1 0, vi (mayS (pickM false) l y).2]) (outB (mayS (pickM false) l y).1 0) := by
  refine Ct.by gok eok mixed func25 c25 rfl (by simp [ntmps25]) (by simp) (outB_res _ _) fun E hE => ?_
  simp [p25]
  refine ACall.mk _ _ _ (fn76 l hl) (by first | (simp; done) | simp [Bor_ls, Bor1_ls]) (by simp) (by first | (left; simp; done) | (right; simp; done)) ?_
  by_cases ht : tabS l = true
  · simp [ht]
    refine ACall.mk _ _ _ (fn77 y) (by first | (simp; done) | simp [Bor_ls, Bor1_ls]) (by simp) (by first | (left; simp; done) | (right; simp; done)) ?_
    by_cases hy : okS y = true
    · have e : mayS (pickM false) l y = (outR (edgeR (pickM false) (nearS y.1, nearS y.2)) l (l.length - 1), 0) := by simp [mayS, ht, hy, findS, (out_law (pickM false) (nearS y.1, nearS y.2) ht (l.length - 1)).1]
      rw [e]
      simp [hy]
      refine ACall.mk _ _ _ (fn83 y.2) (by first | (simp; done) | simp [Bor_ls, Bor1_ls]) (by simp) (by first | (left; simp; done) | (right; simp; done)) ?_
      simp
      refine ACall.mk _ _ _ (fn83 y.1) (by first | (simp; done) | simp [Bor_ls, Bor1_ls]) (by simp) (by first | (left; simp; done) | (right; simp; done)) ?_
      simp
      refine ACall.mk _ _ _ (fn82 l (nearS y.2) (nearS y.1) false ht ⟨nearS_lim _, nearS_lim _⟩) (by first | (simp; done) | simp [Bor_ls, Bor1_ls]) (by simp) (by first | (left; simp; done) | (right; simp; done)) ?_
      rcases List.eq_nil_or_concat (outR (edgeR (pickM false) (nearS y.1, nearS y.2)) l (l.length - 1)) with e | ⟨l', p, e⟩
      · simp [e]
        refine RetOk.by (fun _ => none) ?_
        simp [results25]
      · simp [e]
        refine RetOk.by (lk [(0, 16777216)]) ?_
        simp [results25]
    · have e : mayS (pickM false) l y = ([], 10) := by simp [mayS, ht, hy]
      rw [e]
      simp [hy]
      refine RetOk.by (fun _ => none) ?_
      simp [results25]
  · have e : mayS (pickM false) l y = ([], 13) := by simp [mayS, ht]
    rw [e]
    simp [ht]
    refine RetOk.by (fun _ => none) ?_
    simp [results25]
end Go.Proofs.Try
namespace Go.Proofs.Try
open Go.Psl
theorem fn28 (l m : List (Int × Int)) (hl : l.length ≤ 1000000) (_ : m.length ≤ 1000000) : Ct prog 28 [.d (spansD l), .d (spansD m)] (vb (decide (l = m))) [] := by
  refine Ct.by gok eok mixed func28 c28 rfl (by simp [ntmps28]) (by simp) (by simp [ResIds]) fun E hE => ?_
  by_cases hlen : l.length = m.length
  case neg =>
    have hn : ¬ (l.length : Int) = m.length := by omega
    have hne : ¬ l = m := fun h => hlen (by rw [h])
    simp [p28, hn]
    refine RetOk.by (fun _ => none) ?_
    simp [results28, hne]
  simp [p28, hlen]
  refine pw_loop (α := Nat) (fun i => ⟨slots [(0, .d (spansD l)), (1, .d (spansD m)), (5, vi i)], lk [], 0⟩) (fun i => i ≤ l.length ∧ l.take i = m.take i) (fun i => l.length - i) 0 ?_ ?_ ?_
  · simp
  · refine Weak.mk hE (lk []) _ _ _ ?_ ?_ ?_ ?_ ?_ <;> simp
  · rintro i ⟨hi, hg⟩
    have hz : IntKind.wrap .i64 ((i : Int) + 1) = ((i : Int) + 1) := wrap64 (by omega) (by omega)
    simp [p28l0]
    refine cR_split (fun h => ?_) (fun h => ?_)
    · simp at h
      have hil : i < l.length := by omega
      obtain ⟨a, ha⟩ : ∃ a, l[i]? = some a := ⟨l[i], by simp [hil]⟩
      obtain ⟨b, hb⟩ : ∃ b, m[i]? = some b := ⟨m[i], by simp [show i < m.length by omega]⟩
      by_cases h1 : a.1 = b.1 ∧ a.2 = b.2
      · have hab : a = b := by ext; exact h1.1; exact h1.2
        simp [ha, hb, h1, hz]
        refine ⟨i + 1, ⟨by omega, by simp [List.take_add_one, hg, ha, hb, hab]⟩, by omega, ?_⟩
        refine Weak.mk hE (lk []) _ _ _ ?_ ?_ ?_ ?_ ?_ <;> simp
      · have hne : ¬ l = m := fun h => by
          rw [h, hb] at ha
          cases ha
          exact h1 ⟨rfl, rfl⟩
        have hd : (!decide (a.1 = b.1) || !decide (a.2 = b.2)) = true := by simp; omega
        simp [ha, hb, hd]
        refine RetOk.by (fun _ => none) ?_
        simp [results28, hne]
    · simp at h
      have hil : i = l.length := by omega
      have hlm : l = m := by rw [hil, List.take_length, hlen, List.take_length] at hg; exact hg
      simp
      refine RetOk.by (fun _ => none) ?_
      simp [results28, hlm]
theorem fn29 (l m : List (Int × Int × Int)) (hl : l.length ≤ 1000000) (_ : m.length ≤ 1000000) : Ct prog 29 [.d (knotsD l), .d (knotsD m)] (vb (decide (l = m))) [] := by
  refine Ct.by gok eok mixed func29 c29 rfl (by simp [ntmps29]) (by simp) (by simp [ResIds]) fun E hE => ?_
  by_cases hlen : l.length = m.length
  case neg =>
    have hn : ¬ (l.length : Int) = m.length := by omega
    have hne : ¬ l = m := fun h => hlen (by rw [h])
    simp [p29, hn]
    refine RetOk.by (fun _ => none) ?_
    simp [results29, hne]
  simp [p29, hlen]
  refine pw_loop (α := Nat) (fun i => ⟨slots [(0, .d (knotsD l)), (1, .d (knotsD m)), (5, vi i)], lk [], 0⟩) (fun i => i ≤ l.length ∧ l.take i = m.take i) (fun i => l.length - i) 0 ?_ ?_ ?_
  · simp
  · refine Weak.mk hE (lk []) _ _ _ ?_ ?_ ?_ ?_ ?_ <;> simp
  · rintro i ⟨hi, hg⟩
    have hz : IntKind.wrap .i64 ((i : Int) + 1) = ((i : Int) + 1) := wrap64 (by omega) (by omega)
    simp [p29l0]
    refine cR_split (fun h => ?_) (fun h => ?_)
    · simp at h
      have hil : i < l.length := by omega
      obtain ⟨a, ha⟩ : ∃ a, l[i]? = some a := ⟨l[i], by simp [hil]⟩
      obtain ⟨b, hb⟩ : ∃ b, m[i]? = some b := ⟨m[i], by simp [show i < m.length by omega]⟩
      by_cases h1 : a.1 = b.1 ∧ a.2.1 = b.2.1 ∧ a.2.2 = b.2.2
      · have hab : a = b := by ext; exact h1.1; exact h1.2.1; exact h1.2.2
        simp [ha, hb, h1, hz]
        refine ⟨i + 1, ⟨by omega, by simp [List.take_add_one, hg, ha, hb, hab]⟩, by omega, ?_⟩
        refine Weak.mk hE (lk []) _ _ _ ?_ ?_ ?_ ?_ ?_ <;> simp
      · have hne : ¬ l = m := fun h => by
          rw [h, hb] at ha
          cases ha
          exact h1 ⟨rfl, rfl, rfl⟩
        have hd : (!decide (a.1 = b.1) || (!decide (a.2.1 = b.2.1) || !decide (a.2.2 = b.2.2))) = true := by simp; omega
        simp [ha, hb, hd]
        refine RetOk.by (fun _ => none) ?_
        simp [results29, hne]
    · simp at h
      have hil : i = l.length := by omega
      have hlm : l = m := by rw [hil, List.take_length, hlen, List.take_length] at hg; exact hg
      simp
      refine RetOk.by (fun _ => none) ?_
      simp [results29, hlm]
end Go.Proofs.Try
namespace Go.Proofs.Try
open Go.Psl
theorem kn_flat (t : List (Int × Int × Int)) : ((t.map fun k => [di k.1, di k.2.1, di k.2.2]).flatten).length = t.length * 3 := by
  induction t with
  | nil => rfl
  | cons a t ih => simp at ih ⊢; omega
theorem sp_flat (l : List (Int × Int)) : (l.map fun s => [di s.1, di s.2]).flatten = spD l := rfl
theorem fn22p (l : List (Int × Int × Int)) (y : Int × Int) (hl : l.length ≤ 1000000) : Ct prog 22 [.d (knotsD l), vsp y.1 y.2] (.tup [hdrV (mayS (pickM true) l y).1 0, vi (mayS (pickM true) l y).2]) (outB (mayS (pickM true) l y).1 0) := fn22 l y hl
theorem fn24p (l : List (Int × Int × Int)) (y : Int × Int) (hl : l.length ≤ 1000000) : Ct prog 24 [.d (knotsD l), vsp y.1 y.2] (.tup [hdrV (mayS (pickM false) l y).1 0, vi (mayS (pickM false) l y).2]) (outB (mayS (pickM false) l y).1 0) := fn24 l y hl
theorem spD_lit {l : List (Int × Int)} : ∀ x ∈ spD l, litD x := fun x h => by
  simp only [spD, List.mem_flatMap] at h
  obtain ⟨s, _, h⟩ := h
  simp at h
  rcases h with rfl | rfl <;> exact ⟨_, rfl⟩
@[simp] theorem hdrV_flat (out : List (Int × Int)) : A2 (InH (lk (outB out 0))) litD (hdrV out 0) := by
  rcases List.eq_nil_or_concat out with rfl | ⟨l, p, rfl⟩
  · exact ⟨_, rfl⟩
  · rw [List.concat_eq_append]
    simp
@[simp] theorem outB_flat (out : List (Int × Int)) : flatL (InH (lk (outB out 0))) (outB out 0) := by
  rcases List.eq_nil_or_concat out with rfl | ⟨l, p, rfl⟩
  · simp
  · rw [List.concat_eq_append]
    simp
    rintro c (⟨a, ha, rfl⟩ | rfl | rfl)
    · exact spD_lit a ha
    · simp
    · simp
theorem sp_last {l : List (Int × Int)} {q : Nat → Prop} (x y : Int) : ∀ c : V, (∃ a, a ∈ spD l ∧ V.d a = c) ∨ c = vi x ∨ c = vi y → AC q litD c := by
  rintro c (⟨a, ha, rfl⟩ | rfl | rfl)
  · exact spD_lit a ha
  · simp
  · simp
theorem bor_spans {H : Hp} {id : Nat} {l : List (Int × Int)} {p : Int × Int} (h : H id = some (cellsI l ++ [vi p.1, vi p.2])) : Bor H (.ls id 0 (l.length + 1) 2) (.d (spansD (l ++ [p]))) := by
  rw [Bor_ls]
  refine ⟨rfl, by simp, fun e he => ?_, _, h, ?_⟩
  · simp only [List.mem_map] at he
    obtain ⟨k, _, rfl⟩ := he
    rfl
  · rw [sp_flat, spD_snoc, List.drop_zero, List.take_of_length_le (by simp; omega)]
    simp
theorem bor_knots {H : Hp} {id : Nat} {t : List (Int × Int × Int)} {cs : List D} (hcs : (t.map fun k => [di k.1, di k.2.1, di k.2.2]).flatten = cs) (h : H id = some (cs.map .d)) : Bor H (.ls id 0 t.length 3) (.d (knotsD t)) := by
  have hk := kn_flat t
  rw [hcs] at hk
  rw [Bor_ls]
  refine ⟨rfl, by simp, fun e he => ?_, _, h, ?_⟩
  · simp only [List.mem_map] at he
    obtain ⟨k, _, rfl⟩ := he
    rfl
  · rw [hcs, List.drop_zero, List.take_of_length_le (by simp; omega)]
theorem mayS_len (pick : Int × Int → Int × Int) (t : List (Int × Int × Int)) (y : Int × Int) : (mayS pick t y).1.length ≤ t.length := by
  unfold mayS
  by_cases ht : tabS t = true
  · rw [if_pos ht]
    split
    · have := (outS_in ht (pick := pick) (y := (nearS y.1, nearS y.2)) (t.length - 1)).2
      simp only [findS]; omega
    · simp
  · rw [if_neg ht]; simp
theorem fn3 (t : List (Int × Int × Int)) (x y : Int × Int) : Ct prog 3 [.d (knotsD t), vsp x.1 x.2, vsp y.1 y.2] (vb true) [] := by
  refine Ct.by gok eok mixed func3 c3 rfl (by simp [ntmps3]) (by simp) (by simp [ResIds]) fun E hE => ?_
  by_cases h40 : 40 < t.length
  · have h40' : (40 : Int) < t.length := by omega
    simp [p3, h40']
    refine RetOk.by (fun _ => none) ?_
    simp [results3]
  have h40' : ¬ (40 : Int) < t.length := by omega
  have hkf := kn_flat t
  obtain ⟨cs, hcs⟩ : ∃ cs, (t.map fun k => [di k.1, di k.2.1, di k.2.2]).flatten = cs := ⟨_, rfl⟩
  rw [hcs] at hkf
  have hmx : t.length * 24 ≤ 140737488355328 ∧ t.length ≤ 9223372036854775807 := by omega
  have htk : (cs.map V.d).take (t.length * 3) = cs.map V.d := List.take_of_length_le (by simp; omega)
  simp [p3, h40', repl, hmx, hcs]
  have c1 := fn22p t y (by omega)
  have c2 := fn23 t y (by omega)
  have c3 := fn24p t y (by omega)
  have c4 := fn25 t y (by omega)
  refine ACall.mk _ _ _ (fn20 t x (by omega)) (by simp [bor_knots hcs]) (by simp) (by first | (left; simp; done) | (right; simp; done)) ?_
  simp [splice]
  refine ACall.mk _ _ _ (fn21 t x (by omega)) (by first | (simp; done) | simp [Bor_ls, Bor1_ls]) (by simp) (by first | (left; simp; done) | (right; simp; done)) ?_
  simp [splice]
  have n1 := mayS_len (pickM true) t y
  have n2 := mayS_len (pickM false) t y
  rcases List.eq_nil_or_concat (mayS (pickM true) t y).1 with eL | ⟨l1, p1, eL⟩ <;> rcases List.eq_nil_or_concat (mayS (pickM false) t y).1 with eM | ⟨l2, p2, eM⟩ <;> rw [eL] at c1 c2 n1 <;> rw [eM] at c3 c4 n2 <;> (try rw [List.concat_eq_append] at c1 c2 n1) <;> (try rw [List.concat_eq_append] at c3 c4 n2) <;> simp only [hdrV_nil, hdrV_snoc, outB_nil, outB_snoc] at c1 c2 c3 c4
  · refine ACall.mk _ _ _ (c1) (by simp [bor_knots hcs]) (by simp) (by first | (left; simp; done) | (right; simp; done) | (right; simp; exact sp_last _ _)) ?_
    simp
    refine ACall.mk _ _ _ (c2) (by first | (simp; done) | simp [Bor_ls, Bor1_ls]) (by simp) (by first | (left; simp; done) | (right; simp; done)) ?_
    simp
    refine ACall.mk _ _ _ (c3) (by simp [bor_knots hcs]) (by simp) (by first | (left; simp; done) | (right; simp; done) | (right; simp; exact sp_last _ _)) ?_
    simp
    refine ACall.mk _ _ _ (c4) (by first | (simp; done) | simp [Bor_ls, Bor1_ls]) (by simp) (by first | (left; simp; done) | (right; simp; done)) ?_
    simp
    refine ACall.mk _ _ _ (fn26 t (by omega)) (by simp [bor_knots hcs]) (by simp) (by first | (left; simp; done) | (right; simp; done)) ?_
    simp
    refine ACall.mk _ _ _ (fn27 t (by omega)) (by first | (simp; done) | simp [Bor_ls, Bor1_ls]) (by simp) (by first | (left; simp; done) | (right; simp; done)) ?_
    simp
    refine ACall.mk _ _ _ (fn28 [] [] (by omega) (by omega)) (by simp) (by simp) (by first | (left; simp; done) | (right; simp; done)) ?_
    simp
    refine ACall.mk _ _ _ (fn28 [] [] (by omega) (by omega)) (by simp) (by simp) (by first | (left; simp; done) | (right; simp; done)) ?_
    simp
    refine ACall.mk _ _ _ (fn29 t t (by omega) (by omega)) (by simp [bor_knots hcs]) (by simp) (by first | (left; simp; done) | (right; simp; done)) ?_
    simp
    refine RetOk.by (fun _ => none) ?_
    simp [results3]
  · refine ACall.mk _ _ _ (c1) (by simp [bor_knots hcs]) (by simp) (by first | (left; simp; done) | (right; simp; done) | (right; simp; exact sp_last _ _)) ?_
    simp
    refine ACall.mk _ _ _ (c2) (by first | (simp; done) | simp [Bor_ls, Bor1_ls]) (by simp) (by first | (left; simp; done) | (right; simp; done)) ?_
    simp
    refine ACall.mk _ _ _ (c3) (by simp [bor_knots hcs]) (by simp) (by first | (left; simp; done) | (right; simp; done) | (right; simp; exact sp_last _ _)) ?_
    simp
    refine ACall.mk _ _ _ (c4) (by first | (simp; done) | simp [Bor_ls, Bor1_ls]) (by simp) (by first | (left; simp; done) | (right; simp; done)) ?_
    simp
    refine ACall.mk _ _ _ (fn26 t (by omega)) (by simp [bor_knots hcs]) (by simp) (by first | (left; simp; done) | (right; simp; done)) ?_
    simp
    refine ACall.mk _ _ _ (fn27 t (by omega)) (by first | (simp; done) | simp [Bor_ls, Bor1_ls]) (by simp) (by first | (left; simp; done) | (right; simp; done)) ?_
    simp
    refine ACall.mk _ _ _ (fn28 [] [] (by omega) (by omega)) (by simp) (by simp) (by first | (left; simp; done) | (right; simp; done)) ?_
    simp
    refine ACall.mk _ _ _ (fn28 (l2 ++ [p2]) (l2 ++ [p2]) (by omega) (by omega)) (by simp [bor_spans]) (by simp) (by first | (left; simp; done) | (right; simp; done)) ?_
    simp
    refine ACall.mk _ _ _ (fn29 t t (by omega) (by omega)) (by simp [bor_knots hcs]) (by simp) (by first | (left; simp; done) | (right; simp; done)) ?_
    simp
    refine RetOk.by (fun _ => none) ?_
    simp [results3]
  · refine ACall.mk _ _ _ (c1) (by simp [bor_knots hcs]) (by simp) (by first | (left; simp; done) | (right; simp; done) | (right; simp; exact sp_last _ _)) ?_
    simp
    refine ACall.mk _ _ _ (c2) (by first | (simp; done) | simp [Bor_ls, Bor1_ls]) (by simp) (by first | (left; simp; done) | (right; simp; done)) ?_
    simp
    refine ACall.mk _ _ _ (c3) (by simp [bor_knots hcs]) (by simp) (by first | (left; simp; done) | (right; simp; done) | (right; simp; exact sp_last _ _)) ?_
    simp
    refine ACall.mk _ _ _ (c4) (by first | (simp; done) | simp [Bor_ls, Bor1_ls]) (by simp) (by first | (left; simp; done) | (right; simp; done)) ?_
    simp
    refine ACall.mk _ _ _ (fn26 t (by omega)) (by simp [bor_knots hcs]) (by simp) (by first | (left; simp; done) | (right; simp; done)) ?_
    simp
    refine ACall.mk _ _ _ (fn27 t (by omega)) (by first | (simp; done) | simp [Bor_ls, Bor1_ls]) (by simp) (by first | (left; simp; done) | (right; simp; done)) ?_
    simp
    refine ACall.mk _ _ _ (fn28 (l1 ++ [p1]) (l1 ++ [p1]) (by omega) (by omega)) (by simp [bor_spans]) (by simp) (by first | (left; simp; done) | (right; simp; done)) ?_
    simp
    refine ACall.mk _ _ _ (fn28 [] [] (by omega) (by omega)) (by simp) (by simp) (by first | (left; simp; done) | (right; simp; done)) ?_
    simp
    refine ACall.mk _ _ _ (fn29 t t (by omega) (by omega)) (by simp [bor_knots hcs]) (by simp) (by first | (left; simp; done) | (right; simp; done)) ?_
    simp
    refine RetOk.by (fun _ => none) ?_
    simp [results3]
  · refine ACall.mk _ _ _ (c1) (by simp [bor_knots hcs]) (by simp) (by first | (left; simp; done) | (right; simp; done) | (right; simp; exact sp_last _ _)) ?_
    simp
    refine ACall.mk _ _ _ (c2) (by first | (simp; done) | simp [Bor_ls, Bor1_ls]) (by simp) (by first | (left; simp; done) | (right; simp; done)) ?_
    simp
    refine ACall.mk _ _ _ (c3) (by simp [bor_knots hcs]) (by simp) (by first | (left; simp; done) | (right; simp; done) | (right; simp; exact sp_last _ _)) ?_
    simp
    refine ACall.mk _ _ _ (c4) (by first | (simp; done) | simp [Bor_ls, Bor1_ls]) (by simp) (by first | (left; simp; done) | (right; simp; done)) ?_
    simp
    refine ACall.mk _ _ _ (fn26 t (by omega)) (by simp [bor_knots hcs]) (by simp) (by first | (left; simp; done) | (right; simp; done)) ?_
    simp
    refine ACall.mk _ _ _ (fn27 t (by omega)) (by first | (simp; done) | simp [Bor_ls, Bor1_ls]) (by simp) (by first | (left; simp; done) | (right; simp; done)) ?_
    simp
    refine ACall.mk _ _ _ (fn28 (l1 ++ [p1]) (l1 ++ [p1]) (by omega) (by omega)) (by simp [bor_spans]) (by simp) (by first | (left; simp; done) | (right; simp; done)) ?_
    simp
    refine ACall.mk _ _ _ (fn28 (l2 ++ [p2]) (l2 ++ [p2]) (by omega) (by omega)) (by simp [bor_spans]) (by simp) (by first | (left; simp; done) | (right; simp; done)) ?_
    simp
    refine ACall.mk _ _ _ (fn29 t t (by omega) (by omega)) (by simp [bor_knots hcs]) (by simp) (by first | (left; simp; done) | (right; simp; done)) ?_
    simp
    refine RetOk.by (fun _ => none) ?_
    simp [results3]
end Go.Proofs.Try
