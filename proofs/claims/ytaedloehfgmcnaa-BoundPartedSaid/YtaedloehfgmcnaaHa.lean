/- Contracts: what each function of the program computes, for the arguments that its theorem names; and from there the given statement. Conditions: those that each theorem states. -/
import Derived.Test.YtaedloehfgmcnaaCa
import Derived.Test.YtaedloehfgmcnaaPd
import Derived.Test.YtaedloehfgmcnaaWb
import Derived.Test.YtaedloehfgmcnaaGe
import Derived.Test.YtaedloehfgmcnaaCb
import Derived.Test.YtaedloehfgmcnaaFn
namespace Go.Proofs.Try
open Go.Psl
theorem mul_abs {x y M N : Int} (hx : -M ≤ x ∧ x ≤ M) (hy : -N ≤ y ∧ y ≤ N) : -(M * N) ≤ x * y ∧ x * y ≤ M * N := by
  have hN : 0 ≤ N := by omega
  have hM : 0 ≤ M := by omega
  have a1 : M * -N = -(M * N) := Int.mul_neg M N
  by_cases h : 0 ≤ x
  · have h1 := Int.mul_le_mul_of_nonneg_left hy.2 h
    have h2 := Int.mul_le_mul_of_nonneg_left hy.1 h
    have h3 := Int.mul_le_mul_of_nonneg_right hx.2 hN
    have h4 : x * -N = -(x * N) := Int.mul_neg x N
    omega
  · have h1 := Int.mul_le_mul_of_nonpos_left (show x ≤ 0 by omega) hy.2
    have h2 := Int.mul_le_mul_of_nonpos_left (show x ≤ 0 by omega) hy.1
    have h3 := Int.mul_le_mul_of_nonneg_right hx.1 hN
    have h4 : x * -N = -(x * N) := Int.mul_neg x N
    have h5 : -M * N = -(M * N) := Int.neg_mul M N
    omega
/-- both coordinates are from -M to M -/
def bd (M : Int) (p : Int × Int) : Prop := (-M ≤ p.1 ∧ p.1 ≤ M) ∧ (-M ≤ p.2 ∧ p.2 ≤ M)
def subC (a b : Int × Int) : Int × Int := (b.1 - a.1, b.2 - a.2)
theorem bd_sub {M N : Int} {a b : Int × Int} (ha : bd M a) (hb : bd M b) (h : N = 2 * M) : bd N (subC a b) := by
  unfold bd subC at *; simp only; omega
theorem fn110 (a b : Int × Int) (ha : bd 1152921504606846976 a) (hb : bd 1152921504606846976 b) : Ct prog 110 [vsp a.1 a.2, vsp b.1 b.2] (vsp (subC a b).1 (subC a b).2) [] := by
  refine Ct.by gok eok mixed func110 c110 rfl (by simp [ntmps110]) (by simp) (by simp [ResIds]) fun E hE => ?_
  unfold bd at ha hb
  have w1 : IntKind.wrap .i64 (b.1 - a.1) = b.1 - a.1 := wrap64 (by omega) (by omega)
  have w2 : IntKind.wrap .i64 (b.2 - a.2) = b.2 - a.2 := wrap64 (by omega) (by omega)
  simp [p110, w1, w2, splice]
  refine RetOk.by (fun _ => none) ?_
  simp [results110, subC]
def turnS (u v : Int × Int) : Int := u.1 * v.2 - u.2 * v.1
theorem turn_bd {M : Int} {u v : Int × Int} (hu : bd M u) (hv : bd M v) : (-(M * M) ≤ u.1 * v.2 ∧ u.1 * v.2 ≤ M * M) ∧ (-(M * M) ≤ u.2 * v.1 ∧ u.2 * v.1 ≤ M * M) := ⟨mul_abs hu.1 hv.2, mul_abs hu.2 hv.1⟩
theorem fn131 (u v : Int × Int) (hu : bd 2000000000 u) (hv : bd 2000000000 v) : Ct prog 131 [vsp u.1 u.2, vsp v.1 v.2] (vi (turnS u v)) [] := by
  refine Ct.by gok eok mixed func131 c131 rfl (by simp [ntmps131]) (by simp) (by simp [ResIds]) fun E hE => ?_
  have hb := turn_bd hu hv
  have w1 : IntKind.wrap .i64 (u.1 * v.2) = u.1 * v.2 := wrap64 (by omega) (by omega)
  have w2 : IntKind.wrap .i64 (u.2 * v.1) = u.2 * v.1 := wrap64 (by omega) (by omega)
  have w3 : IntKind.wrap .i64 (u.1 * v.2 - u.2 * v.1) = u.1 * v.2 - u.2 * v.1 := wrap64 (by omega) (by omega)
  simp [p131, w1, w2, w3]
  refine RetOk.by (fun _ => none) ?_
  simp [results131, turnS]
theorem fn150 (n : Int) : Ct prog 150 [vi n] (vb false) [] := by
  refine Ct.by gok eok mixed func150 c150 rfl (by simp [ntmps150]) (by simp) (by simp [ResIds]) fun E hE => ?_
  simp [p150]
  refine RetOk.by (fun _ => none) ?_
  simp [results150]
def cmpI (a b : Int) : Int := if a < b then -1 else if b < a then 1 else 0
theorem fn141 (a b : Int) : Ct prog 141 [vi a, vi b] (vi (cmpI a b)) [] := by
  refine Ct.by gok eok mixed func141 c141 rfl (by simp [ntmps141]) (by simp) (by simp [ResIds]) fun E hE => ?_
  simp [p141]
  refine ACall.mk _ _ _ (fn150 a) (by first | (simp; done) | simp [Bor_ls, Bor1_ls]) (by simp) (by first | (left; simp; done) | (right; simp; done)) ?_
  simp
  refine ACall.mk _ _ _ (fn150 b) (by first | (simp; done) | simp [Bor_ls, Bor1_ls]) (by simp) (by first | (left; simp; done) | (right; simp; done)) ?_
  simp
  by_cases h : a < b
  · simp [h]
    refine RetOk.by (fun _ => none) ?_
    simp [results141, cmpI, h]
  · by_cases h2 : b < a
    · simp [h, h2]
      refine RetOk.by (fun _ => none) ?_
      simp [results141, cmpI, h, h2]
    · simp [h, h2]
      refine RetOk.by (fun _ => none) ?_
      simp [results141, cmpI, h, h2]
def orI : List Int → Int
  | [] => 0
  | a :: r => if a = 0 then orI r else a
abbrev intsD (l : List Int) : D := .sl 1 (l.map fun n => [di n])
theorem fn1402 (a b : Int) : Ct prog 140 [.d (intsD [a, b])] (vi (orI [a, b])) [] := by
  refine Ct.by gok eok mixed func140 c140 rfl (by simp [ntmps140]) (by simp) (by simp [ResIds]) fun E hE => ?_
  have hz : IntKind.wrap .i64 1 = 1 := by decide
  have hz2 : IntKind.wrap .i64 2 = 2 := by decide
  simp [p140]
  refine pw_loop (α := Nat) (fun i => ⟨slots [(3, vi 0), (6, .d (intsD [a, b])), (7, vi 2), (8, vi i)], lk [], 0⟩) (fun i => i ≤ 2 ∧ (1 ≤ i → a = 0) ∧ (2 ≤ i → b = 0)) (fun i => 2 - i) 0 ?_ ?_ ?_
  · simp
  · refine Weak.mk hE (lk []) _ _ _ ?_ ?_ ?_ ?_ ?_ <;> simp
  · rintro i ⟨hi, h1, h2⟩
    simp [p140l0]
    obtain rfl | rfl | rfl : i = 0 ∨ i = 1 ∨ i = 2 := by omega
    · by_cases h : a = 0
      · simp [h, hz]
        refine ⟨1, by omega, by omega, ?_⟩
        refine Weak.mk hE (lk []) _ _ _ ?_ ?_ ?_ ?_ ?_ <;> simp
      · simp [h]
        refine RetOk.by (fun _ => none) ?_
        simp [results140, orI, h]
    · have ha := h1 (by omega)
      by_cases h : b = 0
      · simp [h, ha, hz2]
        refine ⟨2, by omega, by omega, ?_⟩
        refine Weak.mk hE (lk []) _ _ _ ?_ ?_ ?_ ?_ ?_ <;> simp
      · simp [h, ha]
        refine RetOk.by (fun _ => none) ?_
        simp [results140, orI, h]
    · have ha := h1 (by omega)
      have hb := h2 (by omega)
      simp [ha, hb]
      refine RetOk.by (fun _ => none) ?_
      simp [results140, orI]
def orderS (a b : Int × Int) : Int := orI [cmpI a.1 b.1, cmpI a.2 b.2]
end Go.Proofs.Try
namespace Go.Proofs.Try
open Go.Psl
theorem bor_two {H : Hp} {id : Nat} {a b : Int} (h : H id = some [vi a, vi b]) : Bor H (.ls id 0 2 1) (.d (intsD [a, b])) := by
  rw [Bor_ls]
  exact ⟨rfl, rfl, by simp, _, h, rfl⟩
theorem fn128 (a b : Int × Int) : Ct prog 128 [vsp a.1 a.2, vsp b.1 b.2] (vi (orderS a b)) [] := by
  refine Ct.by gok eok mixed func128 c128 rfl (by simp [ntmps128]) (by simp) (by simp [ResIds]) fun E hE => ?_
  simp [p128, inC, Nat.testBit]
  refine ACall.mk _ _ _ (fn141 a.1 b.1) (by first | (simp; done) | simp [Bor_ls, Bor1_ls]) (by simp) (by first | (left; simp; done) | (right; simp; done)) ?_
  simp [inC, Nat.testBit]
  refine ACall.mk _ _ _ (fn141 a.2 b.2) (by first | (simp; done) | simp [Bor_ls, Bor1_ls]) (by simp) (by first | (left; simp; done) | (right; simp; done)) ?_
  simp [splice, repl]
  refine ACall.mk _ _ _ (fn1402 (cmpI a.1 b.1) (cmpI a.2 b.2)) (by simp [bor_two]) (by simp) (by first | (left; simp; done) | (right; simp; done)) ?_
  simp
  refine RetOk.by (fun _ => none) ?_
  simp [results128, orderS]
/-- whether a corner's coordinates are in their range -/
def okC (p : Int × Int) : Bool := decide (max p.1 p.2 ≤ 268435456) && decide (-268435456 ≤ min p.1 p.2)
theorem okC_iff {p : Int × Int} : okC p = true ↔ bd 268435456 p := by
  unfold okC bd; simp only [Bool.and_eq_true, decide_eq_true_eq]; omega
def nearC (l : List (Int × Int)) : Bool := l.all okC
theorem nearC_take {l : List (Int × Int)} {i : Nat} {s : Int × Int} (hs : l[i]? = some s) : nearC (l.take (i + 1)) = (nearC (l.take i) && okC s) := by
  simp [nearC, List.take_add_one, hs]
theorem nearC_false {l : List (Int × Int)} {i : Nat} {s : Int × Int} (hs : l[i]? = some s) (h : okC s = false) : nearC l = false := by
  unfold nearC
  rw [List.all_eq_false]
  exact ⟨s, List.mem_of_getElem? hs, by simp [h]⟩
theorem fn92 (l : List (Int × Int)) (hl : l.length ≤ 1000000000) : Ct prog 92 [.d (spansD l)] (vb (nearC l)) [] := by
  refine Ct.by gok eok mixed func92 c92 rfl (by simp [ntmps92]) (by simp) (by simp [ResIds]) fun E hE => ?_
  simp [p92]
  refine pw_loop (α := Nat) (fun i => ⟨slots [(5, .d (spansD l)), (6, vi l.length), (7, vi i)], lk [], 0⟩) (fun i => i ≤ l.length ∧ nearC (l.take i) = true) (fun i => l.length - i) 0 ?_ ?_ ?_
  · simp [nearC]
  · refine Weak.mk hE (lk []) _ _ _ ?_ ?_ ?_ ?_ ?_ <;> simp
  · rintro i ⟨hi, hg⟩
    have hz : IntKind.wrap .i64 ((i : Int) + 1) = ((i : Int) + 1) := wrap64 (by omega) (by omega)
    simp [p92l0]
    refine cR_split (fun h => ?_) (fun h => ?_)
    · simp at h
      have hil : i < l.length := by omega
      obtain ⟨p, hp⟩ : ∃ p, l[i]? = some p := ⟨l[i], by simp [hil]⟩
      by_cases h1 : 268435456 < max p.1 p.2
      · have hb : okC p = false := by unfold okC; rw [decide_eq_false (by omega)]; rfl
        simp [hp, h1, splice]
        refine RetOk.by (fun _ => none) ?_
        simp [results92, nearC_false hp hb]
      by_cases h2 : min p.1 p.2 < -268435456
      · have hb : okC p = false := by unfold okC; rw [decide_eq_false (p := -268435456 ≤ min p.1 p.2) (by omega)]; simp
        simp [hp, h1, h2, splice]
        refine RetOk.by (fun _ => none) ?_
        simp [results92, nearC_false hp hb]
      have hb : okC p = true := by unfold okC; simp only [Bool.and_eq_true, decide_eq_true_eq]; omega
      simp [hp, h1, h2, hz, splice]
      refine ⟨i + 1, ⟨by omega, by rw [nearC_take hp, hg, hb]; rfl⟩, by omega, ?_⟩
      refine Weak.mk hE (lk []) _ _ _ ?_ ?_ ?_ ?_ ?_ <;> simp
    · simp at h
      have hil : i = l.length := by omega
      subst hil
      rw [List.take_length] at hg
      simp
      refine RetOk.by (fun _ => none) ?_
      simp [results92, hg]
theorem fn101 (l m : List (Int × Int)) (hl : l.length ≤ 1000000000) (_ : m.length ≤ 1000000000) : Ct prog 101 [.d (spansD l), .d (spansD m)] (vb (decide (l = m))) [] := by
  refine Ct.by gok eok mixed func101 c101 rfl (by simp [ntmps101]) (by simp) (by simp [ResIds]) fun E hE => ?_
  by_cases hlen : l.length = m.length
  case neg =>
    have hn : ¬ (l.length : Int) = m.length := by omega
    have hne : ¬ l = m := fun h => hlen (by rw [h])
    simp [p101, hn]
    refine RetOk.by (fun _ => none) ?_
    simp [results101, hne]
  simp [p101, hlen]
  refine pw_loop (α := Nat) (fun i => ⟨slots [(0, .d (spansD l)), (1, .d (spansD m)), (12, vi m.length), (13, vi i)], lk [], 0⟩) (fun i => i ≤ l.length ∧ l.take i = m.take i) (fun i => l.length - i) 0 ?_ ?_ ?_
  · simp
  · refine Weak.mk hE (lk []) _ _ _ ?_ ?_ ?_ ?_ ?_ <;> simp
  · rintro i ⟨hi, hg⟩
    have hz : IntKind.wrap .i64 ((i : Int) + 1) = ((i : Int) + 1) := wrap64 (by omega) (by omega)
    simp [p101l0]
    refine cR_split (fun h => ?_) (fun h => ?_)
    · simp at h
      have hil : i < l.length := by omega
      obtain ⟨a, ha⟩ : ∃ a, l[i]? = some a := ⟨l[i], by simp [hil]⟩
      obtain ⟨b, hb⟩ : ∃ b, m[i]? = some b := ⟨m[i], by simp [show i < m.length by omega]⟩
      by_cases h1 : a.1 = b.1 ∧ a.2 = b.2
      · have hab : a = b := by ext; exact h1.1; exact h1.2
        simp [ha, hb, h1, hz]
        refine ⟨i + 1, ⟨by omega, by simp [List.take_add_one, hg, ha, hb, hab]⟩, by omega, ?_⟩
        refine Weak.mk hE (lk []) _ _ _ ?_ ?_ ?_ ?_ ?_ <;> simp
      · have hne : ¬ l = m := fun h => by
          rw [h, hb] at ha
          cases ha
          exact h1 ⟨rfl, rfl⟩
        have hd : (!decide (a.1 = b.1) || !decide (a.2 = b.2)) = true := by simp; omega
        simp [ha, hb, hd]
        refine RetOk.by (fun _ => none) ?_
        simp [results101, hne]
    · simp at h
      have hil : i = l.length := by omega
      have hlm : l = m := by rw [hil, List.take_length, hlen, List.take_length] at hg; exact hg
      simp
      refine RetOk.by (fun _ => none) ?_
      simp [results101, hlm]
end Go.Proofs.Try
namespace Go.Proofs.Try
open Go.Psl
@[simp] theorem spD_nil : spD [] = [] := rfl
theorem spD_cons (p : Int × Int) (l : List (Int × Int)) : spD (p :: l) = di p.1 :: di p.2 :: spD l := rfl
theorem spD_app (l m : List (Int × Int)) : spD (l ++ m) = spD l ++ spD m := by simp [spD]
theorem spD_at : ∀ {l : List (Int × Int)} {i : Nat} {p : Int × Int}, l[i]? = some p → ((spD l).drop (i * 2)).take 2 = [di p.1, di p.2]
  | [], i, p, h => by simp at h
  | a :: l, 0, p, h => by simp at h; subst h; rfl
  | a :: l, i + 1, p, h => by
    simp at h
    rw [show (i + 1) * 2 = i * 2 + 2 by omega, spD_cons, List.drop_succ_cons, List.drop_succ_cons]
    exact spD_at h
/-- an element of a block of pairs -/
theorem cells_at {l : List (Int × Int)} {i : Nat} {p : Int × Int} (h : l[i]? = some p) : List.take 2 (List.drop (i * 2) (List.map V.d (spD l))) = [vi p.1, vi p.2] := by
  rw [← List.map_drop, ← List.map_take, spD_at h]; rfl
theorem spD_set : ∀ {l : List (Int × Int)} {i : Nat} (p : Int × Int), i < l.length → (spD l).take (i * 2) ++ [di p.1, di p.2] ++ (spD l).drop (i * 2 + 2) = spD (l.set i p)
  | [], i, p, h => by simp at h
  | a :: l, 0, p, h => rfl
  | a :: l, i + 1, p, h => by
    have := spD_set (l := l) (i := i) p (by simpa using h)
    rw [show (i + 1) * 2 = i * 2 + 1 + 1 by omega, spD_cons, List.take_succ_cons, List.take_succ_cons, List.set_cons_succ, spD_cons, ← this]
    simp [List.drop_succ_cons]
theorem cells_set {l : List (Int × Int)} {i : Nat} (p : Int × Int) (h : i < l.length) : splice (List.map V.d (spD l)) (i * 2) [vi p.1, vi p.2] = List.map V.d (spD (l.set i p)) := by
  unfold splice
  rw [← spD_set p h, List.map_append, List.map_append, List.map_take, List.map_drop]
  rfl
theorem sp_flat' (l : List (Int × Int)) : (l.map fun s => [di s.1, di s.2]).flatten = spD l := rfl
theorem fn126 (l : List (Int × Int)) (hl : l.length ≤ 1000000000) (h0 : l ≠ []) : Ct prog 126 [.d (spansD l)] (.ls 0 0 l.length 2) [(0, cellsI l)] := by
  refine Ct.by gok eok mixed func126 c126 rfl (by simp [ntmps126]) (by simp) (by simp [ResIds]) fun E hE => ?_
  obtain ⟨a, r, rfl⟩ := List.exists_cons_of_ne_nil h0
  have hmx : (r.length + 1) * 16 ≤ 140737488355328 ∧ r.length + 1 ≤ 9223372036854775807 := by simp at hl; omega
  have e : spansD (a :: r) = .sl 2 ([di a.1, di a.2] :: r.map fun s => [di s.1, di s.2]) := rfl
  have ef : (r.map fun s => [di s.1, di s.2]).flatten = spD r := rfl
  simp [p126, e, ef, repl, hmx]
  refine RetOk.by (lk [(0, 5242880)]) ?_
  have ec : cellsI (a :: r) = V.d (di a.1) :: V.d (di a.2) :: (spD r).map .d := rfl
  simp [results126, ec]
end Go.Proofs.Try
namespace Go.Proofs.Try
open Go.Psl
/-- a list after i of its reversing swaps -/
def revN (l : List (Int × Int)) : Nat → List (Int × Int)
  | 0 => l
  | i + 1 => ((revN l i).set i (l.getD (l.length - 1 - i) (0, 0))).set (l.length - 1 - i) (l.getD i (0, 0))
theorem revN_len (l : List (Int × Int)) : ∀ i, (revN l i).length = l.length
  | 0 => rfl
  | i + 1 => by simp [revN, revN_len l i]
theorem revN_at (l : List (Int × Int)) : ∀ i, 2 * i ≤ l.length → ∀ k, k < l.length → (revN l i)[k]? = if k < i ∨ l.length - i ≤ k then l[l.length - 1 - k]? else l[k]?
  | 0, _, k, hk => by simp [revN]; omega
  | i + 1, h, k, hk => by
    have ih := revN_at l i (by omega) k hk
    have g : ∀ j, j < l.length → some (l.getD j (0, 0)) = l[j]? := fun j hj => by
      rw [List.getD_eq_getElem?_getD, List.getElem?_eq_getElem hj]; rfl
    simp only [revN]
    by_cases h1 : k = l.length - 1 - i
    · subst h1
      rw [List.getElem?_set_self (by simp [revN_len]; omega), g i (by omega), if_pos (by omega)]
      congr 1; omega
    · rw [List.getElem?_set_ne (by omega)]
      by_cases h2 : k = i
      · subst h2
        rw [List.getElem?_set_self (by simp [revN_len]; omega), g _ (by omega), if_pos (by omega)]
      · rw [List.getElem?_set_ne (by omega), ih]
        by_cases h3 : k < i ∨ l.length - i ≤ k
        · rw [if_pos h3, if_pos (by omega)]
        · rw [if_neg h3, if_neg (by omega)]
theorem revN_end {l : List (Int × Int)} {i : Nat} (h : 2 * i ≤ l.length) (h2 : l.length ≤ 2 * i + 1) : revN l i = l.reverse := by
  apply List.ext_getElem?
  intro k
  by_cases hk : k < l.length
  · rw [revN_at l i h k hk, List.getElem?_reverse hk]
    by_cases h3 : k < i ∨ l.length - i ≤ k
    · rw [if_pos h3]
    · rw [if_neg h3]; congr 1; omega
  · rw [List.getElem?_eq_none (by rw [revN_len]; omega), List.getElem?_eq_none (by rw [List.length_reverse]; omega)]
theorem fn132 (l z : List (Int × Int)) (hl : l.length ≤ 1000000000) : Cm prog 132 [.ls 0 0 l.length 2] (lk [(0, cellsI (l ++ z))]) [0] (.ret (.tup [])) (lk [(0, cellsI (l.reverse ++ z))]) := by
  refine Cm.by gok eok mixed 1 func132 c132 rfl (by simp [ntmps132]) (by simp) (HpIds.at ?_) (by simp) ?_ fun E hE hs => ?_
  · simp
  · simp [ResIds]
  have w0 : IntKind.wrap .i64 ((l.length : Int) - 1) = (l.length : Int) - 1 := wrap64 (by omega) (by omega)
  simp [p132, w0]
  refine pw_loop (α := Nat) (fun i => ⟨slots [(0, .ls 0 0 l.length 2), (2, vi i), (3, vi ((l.length : Int) - 1 - i))], lk [(0, cellsI (revN l i ++ z))], 1⟩) (fun i => 2 * i ≤ l.length) (fun i => l.length - i) 0 ?_ ?_ ?_
  · simp
  · refine Weak.mkM hE (lk [(0, 0)]) _ _ _ ?_ ?_ ?_ ?_ ?_ ?_ <;> simp [revN]
  · intro i hi
    simp [p132l0]
    by_cases h : (i : Int) < (l.length : Int) - 1 - i
    · obtain ⟨j, hj⟩ : ∃ j, j = l.length - 1 - i := ⟨_, rfl⟩
      have hj' : (l.length : Int) - 1 - i = (j : Int) := by omega
      obtain ⟨a, ha⟩ : ∃ a, l[i]? = some a := ⟨l[i], by simp [show i < l.length by omega]⟩
      obtain ⟨b, hb⟩ : ∃ b, l[j]? = some b := ⟨l[j], by simp [show j < l.length by omega]⟩
      have hlen := revN_len l i
      have ha' : (revN l i ++ z)[i]? = some a := by rw [List.getElem?_append_left (by omega), revN_at l i hi i (by omega), if_neg (by omega), ha]
      have hb' : (revN l i ++ z)[j]? = some b := by rw [List.getElem?_append_left (by omega), revN_at l i hi j (by omega), if_neg (by omega), hb]
      have hnx : ((revN l i ++ z).set i b).set j a = revN l (i + 1) ++ z := by
        have e1 : l.getD i (0, 0) = a := by rw [List.getD_eq_getElem?_getD, ha]; rfl
        have e2 : l.getD j (0, 0) = b := by rw [List.getD_eq_getElem?_getD, hb]; rfl
        rw [revN, ← hj, e1, e2, List.set_append_left _ _ (by omega), List.set_append_left _ _ (by simp; omega)]
      generalize revN l i ++ z = L at ha' hb' hnx ⊢
      have hL1 := (List.getElem?_eq_some_iff.1 ha').1
      have hL2 := (List.getElem?_eq_some_iff.1 hb').1
      have ca := cells_at ha'
      have cb := cells_at hb'
      have s1 := cells_set b hL1
      have s2 := cells_set (l := L.set i b) a (i := j) (by simpa using hL2)
      rw [hnx] at s2
      have hdl := spD_len L
      have hdl2 := spD_len (L.set i b)
      have q1 : i * 2 + 2 ≤ L.length * 2 := by omega
      have q2 : j * 2 + 2 ≤ L.length * 2 := by omega
      have z1 : IntKind.wrap .i64 ((i : Int) + 1) = ((i + 1 : Nat) : Int) := by rw [wrap64 (by omega) (by omega)]; omega
      have z2 : IntKind.wrap .i64 ((j : Int) - 1) = (j : Int) - 1 := wrap64 (by omega) (by omega)
      have i1 : i < l.length := by omega
      have j1 : j < l.length := by omega
      have hij : i < j := by omega
      rw [hj']
      simp [hij]
      refine pw_drawW [(13, 0)] (by kernel_rfl) ?_
      simp [inC, Nat.testBit, i1, j1, q1, q2, ca, cb, s1, s2, z1, z2]
      refine ⟨i + 1, by omega, by omega, ?_⟩
      refine Weak.mkM hE (lk [(0, 0)]) _ _ _ ?_ ?_ ?_ ?_ ?_ ?_ <;> simp
      omega
    · simp [h]
      have he : revN l i = l.reverse := revN_end hi (by omega)
      refine RetOk.by (lk [(0, 0)]) ?_
      simp [results132, he]
end Go.Proofs.Try
namespace Go.Proofs.Try
open Go.Psl
def ddStep (d : List (Int × Int)) (p : Int × Int) : List (Int × Int) := if d.getLast? = some p then d else d ++ [p]
/-- of equals that follow each other, the first alone -/
def ddC (l : List (Int × Int)) : List (Int × Int) := l.foldl ddStep []
theorem dd_take {l : List (Int × Int)} {a : Nat} {p : Int × Int} (h : l[a]? = some p) : ddC (l.take (a + 1)) = ddStep (ddC (l.take a)) p := by
  simp [ddC, List.take_add_one, h]
theorem dd_last {l : List (Int × Int)} : ∀ a, a + 1 ≤ l.length → (ddC (l.take (a + 1))).getLast? = l[a]? := fun a h => by
  obtain ⟨p, hp⟩ : ∃ p, l[a]? = some p := ⟨l[a], by simp [show a < l.length by omega]⟩
  rw [dd_take hp, hp, ddStep]
  by_cases h : (ddC (l.take a)).getLast? = some p
  · rw [if_pos h, h]
  · rw [if_neg h]; simp
theorem dd_len (l : List (Int × Int)) : ∀ a, (ddC (l.take a)).length ≤ a
  | 0 => by simp [ddC]
  | a + 1 => by
    by_cases h : a < l.length
    · rw [dd_take (p := l[a]) (by simp [h]), ddStep]
      have := dd_len l a
      split
      · omega
      · simp; omega
    · have := dd_len l a
      rw [List.take_of_length_le (by omega)] at this ⊢
      omega
theorem spD_drop : ∀ (l : List (Int × Int)) (i : Nat), (spD l).drop (i * 2) = spD (l.drop i)
  | l, 0 => by simp
  | [], i + 1 => by simp
  | a :: l, i + 1 => by
    rw [show (i + 1) * 2 = i * 2 + 1 + 1 by omega, spD_cons, List.drop_succ_cons, List.drop_succ_cons, List.drop_succ_cons]
    exact spD_drop l i
theorem spD_take : ∀ (l : List (Int × Int)) (i : Nat), (spD l).take (i * 2) = spD (l.take i)
  | l, 0 => by simp
  | [], i + 1 => by simp
  | a :: l, i + 1 => by
    rw [show (i + 1) * 2 = i * 2 + 1 + 1 by omega, spD_cons, List.take_succ_cons, List.take_succ_cons, List.take_succ_cons, spD_cons]
    rw [spD_take l i]
theorem repl_spD (n : Nat) : repl n [vi 0, vi 0] = List.map V.d (spD (List.replicate n ((0 : Int), (0 : Int)))) := by
  induction n with
  | zero => rfl
  | succ n ih => rw [List.replicate_succ, spD_cons, List.map_cons, List.map_cons, ← ih]; rfl
theorem clear_end {d m : List (Int × Int)} {n : Nat} (hm : (d ++ m).length = n) : splice (List.map V.d (spD (d ++ m))) (d.length * 2) (repl (n - d.length) [vi 0, vi 0]) = List.map V.d (spD (d ++ List.replicate (n - d.length) (0, 0))) := by
  have hl : m.length = n - d.length := by simp at hm; omega
  unfold splice
  rw [repl_spD, ← List.map_take, spD_take, ← List.map_drop]
  have h1 : (spD (d ++ m)).drop (d.length * 2 + (List.map V.d (spD (List.replicate (n - d.length) ((0 : Int), (0 : Int))))).length) = [] := by
    apply List.drop_of_length_le
    simp; omega
  rw [h1, List.take_left, spD_app, List.map_append]
  simp
theorem fn129 (l : List (Int × Int)) (hl : l.length ≤ 1000000000) : Cm prog 129 [.ls 0 0 l.length 2] (lk [(0, cellsI l)]) [0] (.ret (.ls 0 0 (ddC l).length 2)) (lk [(0, cellsI (ddC l ++ List.replicate (l.length - (ddC l).length) (0, 0)))]) := by
  refine Cm.by gok eok mixed 1 func129 c129 rfl (by simp [ntmps129]) (by simp) (HpIds.at ?_) (by simp) ?_ fun E hE hs => ?_
  · simp
  · simp [ResIds]
  by_cases h2 : l.length < 2
  · have h2' : (l.length : Int) < 2 := by omega
    have e : ddC l = l := by
      clear hE h2'
      match l, h2 with
      | [], _ => rfl
      | [a], _ => rfl
      | _ :: _ :: _, h => simp at h; omega
    simp [p129, h2']
    refine RetOk.by (lk [(0, 0)]) ?_
    simp [results129, e]
  have h2' : ¬ (l.length : Int) < 2 := by omega
  simp [p129, h2']
  refine pw_loop (α := Nat) (fun k => ⟨slots [(0, .ls 0 0 l.length 2), (3, vi k)], lk [(0, cellsI l)], 1⟩) (fun k => 1 ≤ k ∧ k ≤ l.length ∧ ddC (l.take k) = l.take k) (fun k => l.length - k) 1 ?_ ?_ ?_
  · refine ⟨by omega, by omega, ?_⟩
    cases l with
    | nil => rfl
    | cons a l => rfl
  · refine Weak.mkM hE (lk [(0, 0)]) _ _ _ ?_ ?_ ?_ ?_ ?_ ?_ <;> simp
  rintro k ⟨k1, k2, hdd⟩
  simp [p129l1]
  refine cR_split (fun h => ?_) (fun h => ?_)
  · simp at h
    obtain ⟨j, hj⟩ : ∃ j, k = j + 1 := ⟨k - 1, by omega⟩
    obtain ⟨a, ha⟩ : ∃ a, l[k]? = some a := ⟨l[k], by simp [h]⟩
    obtain ⟨b, hb⟩ : ∃ b, l[j]? = some b := ⟨l[j], by simp [show j < l.length by omega]⟩
    have ca := cells_at ha
    have cb := cells_at hb
    have q1 : k * 2 + 2 ≤ l.length * 2 := by omega
    have q2 : j * 2 + 2 ≤ l.length * 2 := by omega
    have hj1 : j < l.length := by omega
    have w1 : IntKind.wrap .i64 ((k : Int) - 1) = (j : Int) := by rw [wrap64 (by omega) (by omega)]; omega
    have w2 : IntKind.wrap .i64 ((k : Int) + 1) = ((k + 1 : Nat) : Int) := by rw [wrap64 (by omega) (by omega)]; omega
    have hlast := dd_last (l := l) j (by omega)
    rw [hb, ← hj] at hlast
    by_cases hab : a.1 = b.1 ∧ a.2 = b.2
    · have hab' : a = b := by ext; exact hab.1; exact hab.2
      have hst : ddC (l.take (k + 1)) = l.take k := by rw [dd_take ha, ddStep, hlast, hab', if_pos rfl, hdd]
      simp [inC, Nat.testBit, h, hj1, q1, q2, ca, cb, w1, hab, k2]
      have hkl : (k : Int) ≤ l.length := by omega
      refine pw_loopC (α := Nat) 2 (fun _ : Unit => ⟨slots [(0, .ls 0 0 l.length 2), (3, vi (ddC l).length)], lk [(0, cellsI (ddC l ++ l.drop (ddC l).length))], 1⟩) (fun _ => (ddC l).length < l.length)
        (fun x => ⟨slots [(0, .ls 0 0 l.length 2), (3, vi (ddC (l.take (k + x))).length), (4, .ls 0 (k * 2) (l.length - k) 2), (5, vi x)], lk [(0, cellsI (ddC (l.take (k + x)) ++ l.drop (ddC (l.take (k + x))).length))], 1⟩)
        (fun x => 1 ≤ x ∧ k + x ≤ l.length ∧ (ddC (l.take (k + x))).length < k + x) (fun x => l.length - x) 1 ?_ ?_ ?_ fun _ hc => ?_
      · refine ⟨by omega, by omega, ?_⟩
        rw [hst, List.length_take]; omega
      · rw [hst, List.length_take, Nat.min_eq_left (by omega), List.take_append_drop]
        refine Weak.mkM hE (lk [(0, 0)]) _ _ _ ?_ ?_ ?_ ?_ ?_ ?_ <;> simp
      · rintro x ⟨x1, x2, x3⟩
        obtain ⟨dl, hdl⟩ : ∃ dl, (ddC (l.take (k + x))).length = dl := ⟨_, rfl⟩
        simp [p129l0]
        by_cases hx : x < l.length - k
        · obtain ⟨y, hy⟩ : ∃ y, x = y + 1 := ⟨x - 1, by omega⟩
          obtain ⟨c, hc⟩ : ∃ c, l[k + x]? = some c := ⟨l[k + x], by simp [show k + x < l.length by omega]⟩
          obtain ⟨e, he⟩ : ∃ e, l[k + y]? = some e := ⟨l[k + y], by simp [show k + y < l.length by omega]⟩
          have hnext := dd_take hc
          have hlst := dd_last (l := l) (k + y) (by omega)
          rw [show k + y + 1 = k + x by omega, he] at hlst
          rw [hdl] at x3
          have hMl : ∀ t, dl ≤ t → (ddC (l.take (k + x)) ++ l.drop dl)[t]? = l[t]? := fun t ht => by
            rw [List.getElem?_append_right (by omega), List.getElem?_drop, hdl]; congr 1; omega
          have hc' : (ddC (l.take (k + x)) ++ l.drop dl)[k + x]? = some c := by rw [hMl _ (by omega), hc]
          have he' : (ddC (l.take (k + x)) ++ l.drop dl)[k + y]? = some e := by rw [hMl _ (by omega), he]
          have hML : (ddC (l.take (k + x)) ++ l.drop dl).length = l.length := by rw [List.length_append, hdl, List.length_drop]; omega
          have hset : (ddC (l.take (k + x)) ++ l.drop dl).set dl c = (ddC (l.take (k + x)) ++ [c]) ++ l.drop (dl + 1) := by
            rw [List.set_append_right _ _ (by omega), hdl, Nat.sub_self]
            cases hd : l.drop dl with
            | nil => have := congrArg List.length hd; simp at this; omega
            | cons p r =>
              have hr : l.drop (dl + 1) = r := by
                have := congrArg (List.drop 1) hd
                rw [List.drop_drop] at this
                simpa [Nat.add_comm] using this
              rw [hr]; simp
          have cc := cells_at hc'
          have ce := cells_at he'
          have sc := cells_set c (l := ddC (l.take (k + x)) ++ l.drop dl) (i := dl) (by omega)
          rw [hset] at sc
          have hsl := spD_len (ddC (l.take (k + x)) ++ l.drop dl)
          rw [hML] at hsl
          rw [hdl]
          obtain ⟨M, hM⟩ : ∃ M, ddC (l.take (k + x)) ++ l.drop dl = M := ⟨_, rfl⟩
          rw [hM] at cc ce sc hsl ⊢
          have z1 : IntKind.wrap .i64 ((x : Int) - 1) = (y : Int) := by rw [wrap64 (by omega) (by omega)]; omega
          have z2 : IntKind.wrap .i64 ((x : Int) + 1) = ((x + 1 : Nat) : Int) := by rw [wrap64 (by omega) (by omega)]; omega
          have z3 : IntKind.wrap .i64 ((dl : Int) + 1) = ((dl + 1 : Nat) : Int) := by rw [wrap64 (by omega) (by omega)]; omega
          have r1 : (k + x) * 2 + 2 ≤ l.length * 2 := by omega
          have r2 : (k + y) * 2 + 2 ≤ l.length * 2 := by omega
          have r3 : dl * 2 + 2 ≤ l.length * 2 := by omega
          have m1 : k * 2 + x * 2 = (k + x) * 2 := by omega
          have m2 : k * 2 + y * 2 = (k + y) * 2 := by omega
          have y1 : y < l.length - k := by omega
          have d1 : dl < l.length := by omega
          have xx : (x : Int) < ((l.length - k : Nat) : Int) := by omega
          by_cases hce : c.1 = e.1 ∧ c.2 = e.2
          · have hce' : c = e := by ext; exact hce.1; exact hce.2
            have hd2 : ddC (l.take (k + (x + 1))) = ddC (l.take (k + x)) := by rw [← Nat.add_assoc, hnext, ddStep, hlst, hce', if_pos rfl]
            simp [xx, inC, Nat.testBit, hx, y1, hsl, r1, r2, m1, m2, cc, ce, z1, z2, hce]
            refine ⟨x + 1, ⟨by omega, by omega, by rw [hd2]; omega⟩, by omega, ?_⟩
            rw [hd2, hdl, hM]
            refine Weak.mkM hE (lk [(0, 0)]) _ _ _ ?_ ?_ ?_ ?_ ?_ ?_ <;> simp
          · have hd2 : ddC (l.take (k + (x + 1))) = ddC (l.take (k + x)) ++ [c] := by rw [← Nat.add_assoc, hnext, ddStep, hlst, if_neg]; intro h; cases h; exact hce ⟨rfl, rfl⟩
            have hne : (!decide (c.1 = e.1) || !decide (c.2 = e.2)) = true := by simp; omega
            have hdl2 : (ddC (l.take (k + x)) ++ [c]).length = dl + 1 := by simp [hdl]
            simp [xx, inC, Nat.testBit, hx, y1, hsl, r1, r2, r3, m1, m2, cc, ce, z1, z2, z3, hne, d1, sc]
            refine ⟨x + 1, ⟨by omega, by omega, by rw [hd2, hdl2]; omega⟩, by omega, ?_⟩
            rw [hd2, hdl2]
            refine Weak.mkM hE (lk [(0, 0)]) _ _ _ ?_ ?_ ?_ ?_ ?_ ?_ <;> simp
        · have hkx : k + x = l.length := by omega
          rw [hkx, List.take_length] at x3 hdl
          rw [hkx, List.take_length]
          simp [hx]
          refine ⟨by omega, ?_⟩
          refine Weak.mkM hE (lk [(0, 0)]) _ _ _ ?_ ?_ ?_ ?_ ?_ ?_ <;> simp
      · obtain ⟨d, hd⟩ : ∃ d, ddC l = d := ⟨_, rfl⟩
        rw [hd] at hc ⊢
        have hML : (d ++ l.drop d.length).length = l.length := by simp; omega
        have hcl := clear_end hML
        have hsl := spD_len (d ++ l.drop d.length)
        rw [hML] at hsl
        have hne : ¬ l.length - d.length = 0 := by omega
        have hle : d.length ≤ l.length := by omega
        have hfit : d.length * 2 + (l.length - d.length) * 2 ≤ l.length * 2 := by omega
        simp [hle, hne, hfit, hsl, hcl]
        refine RetOk.by (lk [(0, 0)]) ?_
        simp [results129]
    · have hd : (decide (a.1 = b.1) && decide (a.2 = b.2)) = false := by simp; omega
      simp [inC, Nat.testBit, h, hj1, q1, q2, ca, cb, w1, w2, hd]
      refine ⟨k + 1, ⟨by omega, by omega, ?_⟩, by omega, ?_⟩
      · rw [dd_take ha, ddStep, hlast, if_neg, hdd, List.take_add_one (i := k), ha]; rfl
        intro e; cases e; exact hab ⟨rfl, rfl⟩
      · refine Weak.mkM hE (lk [(0, 0)]) _ _ _ ?_ ?_ ?_ ?_ ?_ ?_ <;> simp
  · simp at h
    have hk : k = l.length := by omega
    subst hk
    rw [List.take_length] at hdd
    simp
    refine RetOk.by (lk [(0, 0)]) ?_
    simp [results129, hdd]
end Go.Proofs.Try
namespace Go.Proofs.Try
open Go.Psl
open Go.Geo (cross pushS chainR)
/-- the stack that is left behind the corners that a point takes away -/
def popS : List (Int × Int) → Int × Int → List (Int × Int)
  | b :: a :: r, p => if cross a b p ≤ 0 then popS (a :: r) p else b :: a :: r
  | st, _ => st
theorem push_pop (p : Int × Int) : ∀ st, pushS st p = p :: popS st p
  | [] => rfl
  | [_] => rfl
  | b :: a :: r => by
    unfold pushS popS
    split
    · exact push_pop p (a :: r)
    · rfl
theorem popS_sub (p : Int × Int) : ∀ st q, q ∈ popS st p → q ∈ st
  | [], q, h => h
  | [_], q, h => h
  | b :: a :: r, q, h => by
    unfold popS at h
    split at h
    · exact List.mem_cons_of_mem _ (popS_sub p (a :: r) q h)
    · exact h
theorem popS_two {p a b : Int × Int} {r : List (Int × Int)} : popS (b :: a :: r) p = if cross a b p ≤ 0 then popS (a :: r) p else b :: a :: r := rfl
theorem popS_len (p : Int × Int) : ∀ st, (popS st p).length ≤ st.length
  | [] => Nat.le_refl _
  | [_] => Nat.le_refl _
  | b :: a :: r => by
    unfold popS
    split
    · exact Nat.le_succ_of_le (popS_len p (a :: r))
    · exact Nat.le_refl _
theorem chainR_len : ∀ (l : List (Int × Int)), (chainR l).length ≤ l.length := fun l => by
  have key : ∀ (l st : List (Int × Int)), (l.foldl pushS st).length ≤ st.length + l.length := by
    intro l
    induction l with
    | nil => intro st; simp
    | cons a l ih =>
      intro st
      have := ih (pushS st a)
      have h2 := popS_len a st
      rw [push_pop] at this
      simp only [List.foldl_cons, List.length_cons] at this ⊢
      rw [push_pop]; omega
  have := key l []
  simpa [chainR] using this
theorem chainR_mem {l : List (Int × Int)} : ∀ q ∈ chainR l, q ∈ l := fun q h => by
  have key : ∀ (l st : List (Int × Int)), ∀ q ∈ l.foldl pushS st, q ∈ l ∨ q ∈ st := by
    intro l
    induction l with
    | nil => intro st q h; exact Or.inr h
    | cons a l ih =>
      intro st q h
      rcases ih _ q h with h | h
      · exact Or.inl (List.mem_cons_of_mem _ h)
      · rw [push_pop] at h
        rcases List.mem_cons.1 h with rfl | h
        · exact Or.inl (List.mem_cons_self ..)
        · exact Or.inr (popS_sub a st q h)
  rcases key l [] q h with h | h
  · exact h
  · simp at h
theorem chain_take {l : List (Int × Int)} {i : Nat} {p : Int × Int} (h : l[i]? = some p) : chainR (l.take (i + 1)) = p :: popS (chainR (l.take i)) p := by
  rw [List.take_add_one, h]
  show chainR (l.take i ++ [p]) = _
  rw [Go.Geo.chainR_snoc, push_pop]
/-- the cells of a slice that has been cut -/
def outZ (out z : List (Int × Int)) (b : Nat) : List (Nat × List V) := if out.isEmpty then [] else [(b, cellsI (out ++ z))]
@[simp] theorem outZ_nil (z : List (Int × Int)) (b : Nat) : outZ [] z b = [] := rfl
theorem outZ_snoc (l z : List (Int × Int)) (p : Int × Int) (b : Nat) : outZ (l ++ [p]) z b = [(b, cellsI (l ++ [p] ++ z))] := by simp [outZ]
theorem cells_take (l z : List (Int × Int)) : List.take (l.length * 2) (List.map V.d (spD (l ++ z))) = List.map V.d (spD l) := by
  rw [← List.map_take, spD_take, List.take_left]
theorem spD_one (p : Int × Int) (l : List (Int × Int)) : List.map V.d (spD (l ++ [p])) = List.map V.d (spD l) ++ [vi p.1, vi p.2] := by rw [spD_snoc]; simp
end Go.Proofs.Try
namespace Go.Proofs.Try
open Go.Psl
open Go.Geo (cross pushS chainR)
theorem out_cases (O : List (Int × Int)) : O = [] ∨ ∃ o x, O = o ++ [x] := by
  rcases List.eq_nil_or_concat O with rfl | ⟨o, x, rfl⟩
  · exact Or.inl rfl
  · exact Or.inr ⟨o, x, List.concat_eq_append⟩
theorem hdrV_ne {O : List (Int × Int)} (h : O ≠ []) (b : Nat) : hdrV O b = .ls b 0 O.length 2 := by
  obtain rfl | ⟨o, x, rfl⟩ := out_cases O
  · exact absurd rfl h
  · simp
theorem outZ_ne {O z : List (Int × Int)} (h : O ≠ []) (b : Nat) : outZ O z b = [(b, cellsI (O ++ z))] := by
  obtain rfl | ⟨o, x, rfl⟩ := out_cases O
  · exact absurd rfl h
  · exact outZ_snoc o z x b
theorem outZ_ids (O z : List (Int × Int)) (b n : Nat) (h : b < n) : HpIds n (outZ O z b) := by
  obtain rfl | ⟨o, x, rfl⟩ := out_cases O
  · trivial
  · rw [outZ_snoc]
    simp [h]
theorem hdrV_A (O : List (Int × Int)) (b n : Nat) (h : b < n) : AC (· < n) anyD (hdrV O b) := by
  obtain rfl | ⟨o, x, rfl⟩ := out_cases O
  · simp
  · simp [h]
theorem lenF_hdr {Γ : Tys} {t : TypeId} {O : List (Int × Int)} {b : Nat} : lenF Γ t (hdrV O b) = (Γ t).bind fun y => match y.sh with | .slice _ => some (.d (.lit (.int .i64 O.length)), .none) | _ => none := by
  obtain rfl | ⟨o, x, rfl⟩ := out_cases O
  · exact lenF_nil
  · rw [hdrV_snoc, lenF_ls]; congr; funext y; cases y.sh <;> simp
theorem isCell_hdr {O : List (Int × Int)} {b : Nat} : V.isCell (hdrV O b) = true := by
  obtain rfl | ⟨o, x, rfl⟩ := out_cases O <;> simp
theorem turn_cross (a b p : Int × Int) : turnS (subC a b) (subC b p) = cross a b p := (Go.Geo.cross_xp2 a b p).symm
theorem chain_two {l : List (Int × Int)} (h2 : 2 ≤ l.length) : ∃ top rest, chainR l = top :: rest ∧ rest ≠ [] := by
  rcases List.eq_nil_or_concat l with rfl | ⟨l', p, rfl⟩
  · simp at h2
  · rw [List.concat_eq_append, Go.Geo.chainR_snoc]
    obtain ⟨r, e, _, e2, _⟩ := Go.Geo.pushS_head p (chainR l')
    refine ⟨p, r, e, fun hr => ?_⟩
    have hne : chainR l' ≠ [] := by
      cases l' with
      | nil => simp at h2
      | cons x l' =>
        rcases List.eq_nil_or_concat (x :: l') with h | ⟨m, y, h⟩
        · simp at h
        · rw [h, List.concat_eq_append, Go.Geo.chainR_snoc, push_pop]; simp
    exact (e2 hne).1 hr
set_option maxRecDepth 20000 in
theorem fn130 (B z l zl : List (Int × Int)) (hB : B.length ≤ 100000) (hl : l.length ≤ 100000) (hbd : ∀ q ∈ l, bd 536870912 q) (h2 : 2 ≤ l.length) :
    ∃ z', Cm prog 130 [.lp 0 0, .lp 1 0] (lk ((0, [hdrV B 3]) :: (1, [.ls 2 0 l.length 2]) :: (2, cellsI (l ++ zl)) :: outZ B z 3)) [0, 1, 2] (.ret (.tup []))
      (lk ((0, [hdrV (B ++ (chainR l).tail.reverse) 4]) :: (1, [.ls 2 0 l.length 2]) :: (2, cellsI (l ++ zl)) :: outZ (B ++ (chainR l).tail.reverse) z' 4)) := by
  obtain ⟨top, rest, hch, hrest⟩ := chain_two h2
  refine ⟨[top], ?_⟩
  rw [hch, List.tail_cons]
  have hrr : rest.reverse ≠ [] := by simp [hrest]
  have hR : B ++ rest.reverse ≠ [] := by simp [hrest]
  rw [hdrV_ne hR, outZ_ne hR]
  refine Cm.by gok eok mixed 4 func130 c130 rfl (by simp [ntmps130]) (by simp) (HpIds.at ?_) (by simp) ?_ fun E hE hs => ?_
  · refine ⟨by show 0 < 4; omega, fun c hc => ?_, by show 1 < 4; omega, fun c hc => ?_, by show 2 < 4; omega, fun c hc => ?_, outZ_ids _ _ _ _ (by omega)⟩
    · simp at hc; subst hc; exact hdrV_A B 3 4 (by omega)
    · simp at hc; subst hc; simp
    · exact ac_data c hc
  · simp [ResIds]
  have hst0 : chainR (l.take 0) = [] := by simp [chainR]
  have hcl := fun i => chainR_len (l.take i)
  have hcm : ∀ i, ∀ q ∈ chainR (l.take i), bd 536870912 q := fun i q hq => hbd q (List.mem_of_mem_take (chainR_mem q hq))
  obtain ⟨dl, hdl⟩ : ∃ dl, spD (l ++ zl) = dl := ⟨_, rfl⟩
  have hdl' : cellsI (l ++ zl) = dl.map V.d := by rw [← hdl]
  have hlat : ∀ i p, l[i]? = some p → List.take 2 (List.drop (i * 2) (dl.map V.d)) = [vi p.1, vi p.2] := fun i p h => by
    rw [← hdl]; exact cells_at (by rw [List.getElem?_append_left (List.getElem?_eq_some_iff.1 h).1]; exact h)
  have hlcl : l.length * 2 ≤ dl.length := by rw [← hdl]; simp; omega
  rw [hdl']
  simp [p130, lenF_hdr]
  refine pw_loop (α := Nat × List (Int × Int)) (fun x => ⟨slots [(0, .lp 0 0), (1, .lp 1 0), (2, vi B.length), (7, .ls 2 0 l.length 2), (8, vi l.length), (9, vi x.1)], lk ((0, [hdrV (B ++ (chainR (l.take x.1)).reverse) 3]) :: (1, [.ls 2 0 l.length 2]) :: (2, dl.map .d) :: outZ (B ++ (chainR (l.take x.1)).reverse) x.2 3), 4⟩)
    (fun x => x.1 ≤ l.length ∧ (x.1 = l.length → x.2 = [])) (fun x => l.length - x.1) (0, z) ?_ ?_ ?_
  · exact ⟨by omega, fun h => by simp only at h; omega⟩
  · simp only [hst0, List.reverse_nil, List.append_nil]
    obtain rfl | ⟨b0, x0, rfl⟩ := out_cases B
    · refine Weak.mkM hE (lk [(0, 0), (1, 1), (2, 2)]) _ _ _ ?_ ?_ ?_ ?_ ?_ ?_ <;> simp
    · rw [outZ_snoc]
      refine Weak.mkM hE (lk [(0, 0), (1, 1), (2, 2), (3, 3)]) _ _ _ ?_ ?_ ?_ ?_ ?_ ?_ <;> simp
  rintro ⟨i, z⟩ ⟨hi, hz⟩
  simp only at hi hz
  simp [p130l1]
  refine cR_split (fun h => ?_) (fun h => ?_)
  · simp at h
    obtain ⟨p, hp⟩ : ∃ p, l[i]? = some p := ⟨l[i], by simp [h]⟩
    have hpm := hbd p (List.mem_of_getElem? hp)
    have cp := hlat i p hp
    have q1 : i * 2 + 2 ≤ dl.length := by omega
    have w1 : IntKind.wrap .i64 ((i : Int) + 1) = ((i + 1 : Nat) : Int) := by rw [wrap64 (by omega) (by omega)]; omega
    have hct := chain_take hp
    have hci := hcl i
    have hcmi := hcm i
    have wB : IntKind.wrap .i64 ((B.length : Int) + 1) = (B.length : Int) + 1 := wrap64 (by omega) (by omega)
    obtain ⟨st0, hst⟩ : ∃ st0, chainR (l.take i) = st0 := ⟨_, rfl⟩
    rw [hst] at hct hci hcmi ⊢
    have hl0 : st0.length ≤ 100000 := by simp at hci; omega
    simp [h, cp, q1, splice]
    refine pw_loopC (α := List (Int × Int) × List (Int × Int)) 2 (fun z : List (Int × Int) => ⟨slots [(0, .lp 0 0), (1, .lp 1 0), (2, vi B.length), (4, .lp 4 0), (7, .ls 2 0 l.length 2), (8, vi l.length), (9, vi i)], lk ((0, [hdrV (B ++ (popS st0 p).reverse) 3]) :: (1, [.ls 2 0 l.length 2]) :: (2, dl.map .d) :: (4, [vi p.1, vi p.2]) :: outZ (B ++ (popS st0 p).reverse) z 3), 5⟩) (fun _ => True)
      (fun x => ⟨slots [(0, .lp 0 0), (1, .lp 1 0), (2, vi B.length), (4, .lp 4 0), (7, .ls 2 0 l.length 2), (8, vi l.length), (9, vi i)], lk ((0, [hdrV (B ++ x.1.reverse) 3]) :: (1, [.ls 2 0 l.length 2]) :: (2, dl.map .d) :: (4, [vi p.1, vi p.2]) :: outZ (B ++ x.1.reverse) x.2 3), 5⟩)
      (fun x => popS x.1 p = popS st0 p ∧ x.1.length ≤ 100000 ∧ ∀ q ∈ x.1, bd 536870912 q) (fun x => x.1.length) (st0, z) ?_ ?_ ?_ fun zz _ => ?_
    · exact ⟨rfl, hl0, hcmi⟩
    · obtain e | ⟨b0, x0, e⟩ := out_cases (B ++ st0.reverse) <;> rw [e]
      · refine Weak.mkM hE (lk [(0, 0), (1, 1), (2, 2), (4, 3145732)]) _ _ _ ?_ ?_ ?_ ?_ ?_ ?_ <;> simp
      · rw [outZ_snoc]
        refine Weak.mkM hE (lk [(0, 0), (1, 1), (2, 2), (3, 3), (4, 3145732)]) _ _ _ ?_ ?_ ?_ ?_ ?_ ?_ <;> simp
    · rintro ⟨st, z⟩ ⟨hpop, hlen, hm⟩
      simp only at hpop hlen hm
      by_cases h2s : st.length < 2
      · have hps : popS st0 p = st := by
          rw [← hpop]
          match st, h2s with
          | [], _ => rfl
          | [_], _ => rfl
          | _ :: _ :: _, h => simp at h; omega
        rw [hps]
        obtain ⟨O, hO⟩ : ∃ O, B ++ st.reverse = O := ⟨_, rfl⟩
        have hOl : O.length = B.length + st.length := by rw [← hO]; simp
        rw [hO]
        have hlt : ¬ ((B.length : Int) + 1 < (O.length : Int)) := by omega
        simp [p130l0, lenF_hdr, wB, hlt, inC, Nat.testBit]
        refine ⟨z, ?_⟩
        obtain rfl | ⟨b0, x0, rfl⟩ := out_cases O
        · refine Weak.mkM hE (lk [(0, 0), (1, 1), (2, 2), (4, 4)]) _ _ _ ?_ ?_ ?_ ?_ ?_ ?_ <;> simp
        · rw [outZ_snoc]
          refine Weak.mkM hE (lk [(0, 0), (1, 1), (2, 2), (3, 3), (4, 4)]) _ _ _ ?_ ?_ ?_ ?_ ?_ ?_ <;> simp
      · obtain ⟨b, a, r, rfl⟩ : ∃ b a r, st = b :: a :: r := by
          match st, h2s with
          | b :: a :: r, _ => exact ⟨b, a, r, rfl⟩
          | [], h => simp at h
          | [_], h => simp at h
        have ba := hm a (by simp)
        have bb := hm b (by simp)
        obtain ⟨m, hmm⟩ : ∃ m, m = B.length + r.length := ⟨_, rfl⟩
        obtain ⟨m1, hm1⟩ : ∃ m1, m1 = m + 1 := ⟨_, rfl⟩
        obtain ⟨O, hO⟩ : ∃ O, B ++ (b :: a :: r).reverse = O := ⟨_, rfl⟩
        have hO2 : O = B ++ r.reverse ++ [a] ++ [b] := by rw [← hO]; simp
        have hO3 : B ++ (a :: r).reverse = B ++ r.reverse ++ [a] := by simp
        obtain ⟨N, hN⟩ : ∃ N, O.length = N := ⟨_, rfl⟩
        have hNm : N = m + 2 := by rw [← hN, hO2, hmm]; simp; omega
        have hOne : O ≠ [] := by rw [hO2]; simp
        have ha' : (O ++ z)[m]? = some a := by
          rw [hO2, hmm]; simp only [List.append_assoc]
          rw [List.getElem?_append_right (by omega), List.getElem?_append_right (by simp), List.length_reverse, show B.length + r.length - B.length - r.length = 0 by omega]; rfl
        have hb' : (O ++ z)[m1]? = some b := by
          rw [hO2, hm1, hmm]; simp only [List.append_assoc]
          rw [List.getElem?_append_right (by omega), List.getElem?_append_right (by simp; omega), List.length_reverse, show B.length + r.length + 1 - B.length - r.length = 1 by omega]; rfl
        have ca := cells_at ha'
        have cb := cells_at hb'
        obtain ⟨ds, hds⟩ : ∃ ds, spD (O ++ z) = ds := ⟨_, rfl⟩
        have hdsl : N * 2 ≤ ds.length := by rw [← hds, spD_len, List.length_append, hN]; omega
        rw [hds] at ca cb
        rw [hO, hdrV_ne hOne, outZ_ne hOne, hN, show cellsI (O ++ z) = ds.map V.d by rw [← hds]]
        have w2 : IntKind.wrap .i64 ((N : Int) - 2) = (m : Int) := by simp at hlen; rw [wrap64 (by omega) (by omega)]; omega
        have w3 : IntKind.wrap .i64 ((N : Int) - 1) = (m1 : Int) := by simp at hlen; rw [wrap64 (by omega) (by omega)]; omega
        have hlt : (B.length : Int) + 1 < (N : Int) := by omega
        have l1 : m < N := by omega
        have l2 : m1 < N := by omega
        have l3 : m * 2 + 2 ≤ ds.length := by omega
        have l4 : m1 * 2 + 2 ≤ ds.length := by omega
        have l5 : m1 ≤ N := by omega
        have e1 := bd_sub (N := 1073741824) ba bb (by omega)
        have e2 := bd_sub (N := 1073741824) bb hpm (by omega)
        have big : ∀ q, bd 536870912 q → bd 1152921504606846976 q := fun q h => by unfold bd at *; omega
        have big2 : ∀ q, bd 1073741824 q → bd 2000000000 q := fun q h => by unfold bd at *; omega
        simp [p130l0, wB, hlt, inC, Nat.testBit, w2, w3, l1, l2, l3, l4, ca, cb]
        refine ACall.mk _ _ _ (fn110 a b (big _ ba) (big _ bb)) (by first | (simp; done) | simp [Bor_ls, Bor1_ls]) (by simp) (by first | (left; simp; done) | (right; simp; done)) ?_
        simp [inC, Nat.testBit, w3, l2, l4, cb]
        refine ACall.mk _ _ _ (fn110 b p (big _ bb) (big _ hpm)) (by first | (simp; done) | simp [Bor_ls, Bor1_ls]) (by simp) (by first | (left; simp; done) | (right; simp; done)) ?_
        simp
        refine ACall.mk _ _ _ (fn131 (subC a b) (subC b p) (big2 _ e1) (big2 _ e2)) (by first | (simp; done) | simp [Bor_ls, Bor1_ls]) (by simp) (by first | (left; simp; done) | (right; simp; done)) ?_
        rw [turn_cross]
        by_cases hc : cross a b p ≤ 0
        · simp [hc, w3, l5, splice]
          refine ⟨a :: r, ⟨by rw [← hpop, popS_two, if_pos hc], by simp at hlen ⊢; omega, fun q1 q2 hq => hm (q1, q2) (List.mem_cons_of_mem _ hq)⟩, by simp, [b] ++ z, ?_⟩
          rw [hO3, hdrV_snoc, outZ_snoc, show cellsI (B ++ r.reverse ++ [a] ++ ([b] ++ z)) = ds.map V.d by rw [← hds, hO2]; simp]
          refine Weak.mkM hE (lk [(0, 0), (1, 1), (2, 2), (3, 3), (4, 4)]) _ _ _ ?_ ?_ ?_ ?_ ?_ ?_ <;> simp
          omega
        · have hps : popS st0 p = b :: a :: r := by rw [← hpop, popS_two, if_neg hc]
          rw [hps, hO, hdrV_ne hOne, hN]
          simp [hc]
          refine ⟨z, ?_⟩
          rw [outZ_ne hOne, show cellsI (O ++ z) = ds.map V.d by rw [← hds]]
          refine Weak.mkM hE (lk [(0, 0), (1, 1), (2, 2), (3, 3), (4, 4)]) _ _ _ ?_ ?_ ?_ ?_ ?_ ?_ <;> simp
    · have hpl := popS_len p st0
      obtain ⟨O, hO⟩ : ∃ O, B ++ (popS st0 p).reverse = O := ⟨_, rfl⟩
      have hOl : O.length ≤ 200000 := by rw [← hO]; simp; omega
      have hnx : B ++ (chainR (l.take (i + 1))).reverse = O ++ [p] := by rw [hct, ← hO]; simp
      rw [hO]
      have fin : cellsI (O ++ [p]) = (spD O).map V.d ++ [vi p.1, vi p.2] := spD_one p O
      obtain rfl | ⟨o, x, rfl⟩ := out_cases O
      · simp [repl, splice, w1]
        refine ⟨i + 1, [], ⟨by omega, fun _ => rfl⟩, by omega, ?_⟩
        rw [hnx, hdrV_snoc, outZ_snoc, List.append_nil, fin]
        refine Weak.mkM hE (lk [(0, 0), (1, 1), (2, 2), (3, 3145733)]) _ _ _ ?_ ?_ ?_ ?_ ?_ ?_ <;> simp
      · have htk := cells_take (o ++ [x]) zz
        have hdl3 := spD_len (o ++ [x] ++ zz)
        have hOne : o ++ [x] ≠ [] := by simp
        obtain ⟨N, hN⟩ : ∃ N, (o ++ [x]).length = N := ⟨_, rfl⟩
        have hdo := spD_len (o ++ [x])
        rw [List.length_append, hN] at hdl3
        rw [hN] at htk hOl hdo
        rw [hdrV_ne hOne, outZ_ne hOne, hN]
        have hcc : cellsI (o ++ [x] ++ zz) = List.map V.d (spD (o ++ [x] ++ zz)) := rfl
        rw [hcc]
        generalize spD (o ++ [x] ++ zz) = ds at htk hdl3 ⊢
        generalize spD (o ++ [x]) = eo at fin htk hdo
        have hfit : N * 2 ≤ ds.length ∧ (N + 1) * 16 ≤ 140737488355328 ∧ N + 1 ≤ 9223372036854775807 := by omega
        simp [repl, splice, w1, hfit, htk]
        refine ⟨i + 1, [], ⟨by omega, fun _ => rfl⟩, by omega, ?_⟩
        rw [hnx, hdrV_snoc, outZ_snoc, List.append_nil, fin, hN]
        refine Weak.mkM hE (lk [(0, 0), (1, 1), (2, 2), (3, 3145733)]) _ _ _ ?_ ?_ ?_ ?_ ?_ ?_ <;> simp
        rintro c (⟨a, _, rfl⟩ | rfl | rfl) <;> simp
  · simp at h
    have hil : i = l.length := by omega
    subst hil
    rw [hz rfl, List.take_length, hch, List.reverse_cons, ← List.append_assoc, hdrV_snoc, outZ_snoc]
    obtain ⟨O, hO⟩ : ∃ O, B ++ rest.reverse = O := ⟨_, rfl⟩
    rw [hO]
    try rw [hO] at hR
    have hOl : O.length ≤ 1000000 := by
      have := hcl l.length
      rw [List.take_length, hch] at this
      rw [← hO]; simp at this ⊢; omega
    have w2 : IntKind.wrap .i64 (O.length : Int) = (O.length : Int) := wrap64 (by omega) (by omega)
    have hOr : O.length = B.length + rest.length := by rw [← hO]; simp
    have hOn : (O.length : Int) ≤ (O.length : Int) + 1 := by omega
    have hOm : O.length ≤ O.length + 1 := by omega
    have hcO := spD_one top O
    rw [List.append_nil, show cellsI (O ++ [top]) = (spD O).map V.d ++ [vi top.1, vi top.2] from hcO]
    simp [w2, hOn, splice]
    refine RetOk.by (lk [(0, 0), (1, 1), (2, 2), (4, 3)]) ?_
    simp [results130]
    exact hOr
end Go.Proofs.Try
namespace Go.Proofs.Try
open Go.Psl
open Go.Geo (cross pushS chainR hullS)
/-- points in increasing order -/
def sortC (l : List (Int × Int)) : List (Int × Int) := l.mergeSort fun x y => !decide (orderS y x < 0)
def hullP (l : List (Int × Int)) : List (Int × Int) := hullS (ddC (sortC l))
theorem sortC_len (l : List (Int × Int)) : (sortC l).length = l.length := List.length_mergeSort _
theorem sortC_mem (l : List (Int × Int)) (p : Int × Int) : p ∈ sortC l ↔ p ∈ l := (List.mergeSort_perm l _).mem_iff
theorem ddC_mem {p : Int × Int} : ∀ l : List (Int × Int), p ∈ ddC l ↔ p ∈ l := by
  have key : ∀ (l d : List (Int × Int)), p ∈ l.foldl ddStep d ↔ p ∈ d ∨ p ∈ l := by
    intro l
    induction l with
    | nil => intro d; simp
    | cons a l ih =>
      intro d
      rw [List.foldl_cons, ih]
      unfold ddStep
      by_cases h : d.getLast? = some a
      · rw [if_pos h]
        have := List.mem_of_getLast? h
        simp only [List.mem_cons]
        constructor
        · rintro (h | h); exact Or.inl h; exact Or.inr (Or.inr h)
        · rintro (h | rfl | h); exact Or.inl h; exact Or.inl this; exact Or.inr h
      · rw [if_neg h]
        simp only [List.mem_append, List.mem_cons, List.not_mem_nil, or_false]
        constructor
        · rintro ((h | h) | h); exact Or.inl h; exact Or.inr (Or.inl h); exact Or.inr (Or.inr h)
        · rintro (h | h | h); exact Or.inl (Or.inl h); exact Or.inl (Or.inr h); exact Or.inr h
  intro l
  have := key l []
  simp only [List.not_mem_nil, false_or] at this
  exact this
theorem fn93 (hsort : ∀ l : List (Int × Int), 0 < l.length → l.length ≤ 100000 → Cm prog 127 [.ls 0 0 l.length 2, .d (.fn 128 [])] (lk [(0, cellsI l)]) [0] (.ret (.tup [])) (lk [(0, cellsI (sortC l))]))
    (l : List (Int × Int)) (h1 : 0 < l.length) (hl : l.length ≤ 100000) (hbd : ∀ q ∈ l, bd 536870912 q) : ∃ z, Ct prog 93 [.d (spansD l)] (.ls 0 0 (hullP l).length 2) [(0, cellsI (hullP l ++ z))] := by
  have hne : l ≠ [] := by intro h; rw [h] at h1; simp at h1
  obtain ⟨L, hL⟩ : ∃ L, ddC (sortC l) = L := ⟨_, rfl⟩
  have hLm : ∀ q ∈ L, bd 536870912 q := fun q hq => hbd q (by rw [← hL, ddC_mem, sortC_mem] at hq; exact hq)
  have hLl : L.length ≤ l.length := by
    have := dd_len (sortC l) l.length
    rw [List.take_of_length_le (by rw [sortC_len]; omega), hL] at this
    exact this
  have c1 := fn126 l (by omega) hne
  have c2 := hsort l h1 hl
  have c3 := fn129 (sortC l) (by rw [sortC_len]; omega)
  rw [sortC_len, hL] at c3
  obtain ⟨zl, hzl⟩ : ∃ zl, List.replicate (l.length - L.length) ((0 : Int), (0 : Int)) = zl := ⟨_, rfl⟩
  rw [hzl] at c3
  unfold hullP
  rw [hL]
  have hLpos : 0 < L.length := by
    obtain ⟨p, hp⟩ := List.exists_mem_of_length_pos h1
    have : p ∈ L := by rw [← hL, ddC_mem, sortC_mem]; exact hp
    exact List.length_pos_of_mem this
  have n1 : spD l ≠ [] := by intro h; have := congrArg List.length h; simp at this; omega
  have n2 : spD (sortC l) ≠ [] := by intro h; have := congrArg List.length h; rw [spD_len, sortC_len] at this; simp at this; omega
  have n3 : ∀ z, spD (L ++ z) ≠ [] := by intro z h; have := congrArg List.length h; simp at this; omega
  have d2 := c2.rename (fun _ => 2097152) 1 (by omega) (by simp) (by simp) (by simp)
  have d3 := c3.rename (fun _ => 2097152) 1 (by omega) (by simp) (by simp) (by simp)
  simp [renL, renR] at d2 d3
  by_cases h3 : L.length < 3
  · refine ⟨zl, ?_⟩
    have e : hullS L = L := by unfold hullS; rw [if_pos h3]
    have h3' : (L.length : Int) < 3 := by omega
    rw [e]
    refine Ct.by gok eok mixed func93 c93 rfl (by simp [ntmps93]) (by simp) (by simp [ResIds]) fun E hE => ?_
    simp [p93]
    refine ACall.mk _ _ _ (c1) (by first | (simp; done) | simp [Bor_ls, Bor1_ls]) (by simp) (by first | (left; simp; done) | (right; simp; done)) ?_
    simp [splice]
    refine ACall.mkR _ _ _ _ _ (d2) (by simp) (by simp) (by simp [n1]) (by simp) (by first | (left; simp; done) | (right; simp [n1]; done)) ?_
    simp
    refine ACall.mkR _ _ _ _ _ (d3) (by simp) (by simp) (by simp [n2]) (by simp) (by first | (left; simp; done) | (right; simp [n2]; done)) ?_
    simp [splice, h3']
    refine RetOk.by (lk [(0, 2097152)]) ?_
    simp [results93]
  · have h3' : ¬ (L.length : Int) < 3 := by omega
    obtain ⟨z1, c4⟩ := fn130 [] [] L zl (by simp) (by omega) hLm (by omega)
    have c5 := fn132 L zl (by omega)
    obtain ⟨lo, hlo⟩ : ∃ lo, (chainR L).tail.reverse = lo := ⟨_, rfl⟩
    have hlol : lo.length ≤ 100000 := by
      have := chainR_len L
      rw [← hlo]; simp; omega
    obtain ⟨z2, c6⟩ := fn130 lo z1 L.reverse zl (by omega) (by rw [List.length_reverse]; omega) (fun q hq => hLm q (List.mem_reverse.1 hq)) (by rw [List.length_reverse]; omega)
    have e : hullS L = lo ++ (chainR L.reverse).tail.reverse := by unfold hullS; rw [if_neg h3, hlo]
    rw [← e] at c6
    rw [hlo, List.nil_append] at c4
    have hlone : lo ≠ [] := by
      obtain ⟨top, rest, h, hr⟩ := chain_two (l := L) (by omega)
      rw [← hlo, h]; simpa using hr
    have hRne : hullS L ≠ [] := by rw [e]; simp [hlone]
    rw [hdrV_ne hlone, outZ_ne hlone] at c4 c6
    rw [hdrV_ne hRne, outZ_ne hRne, List.length_reverse] at c6
    have n4 : ∀ z, spD (L.reverse ++ z) ≠ [] := by intro z h; have := congrArg List.length h; simp at this; omega
    have n5 : ∀ z, spD (lo ++ z) ≠ [] := by intro z h; have := congrArg List.length h; have h8 := List.length_pos_iff.2 hlone; simp only [spD_len, List.length_append, List.length_nil] at this; omega
    refine ⟨z2, ?_⟩
    refine Ct.by gok eok mixed func93 c93 rfl (by simp [ntmps93]) (by simp) (by simp [ResIds]) fun E hE => ?_
    simp [p93]
    refine ACall.mk _ _ _ (c1) (by first | (simp; done) | simp [Bor_ls, Bor1_ls]) (by simp) (by first | (left; simp; done) | (right; simp; done)) ?_
    simp [splice]
    refine ACall.mkR _ _ _ _ _ (d2) (by simp) (by simp) (by simp [n1]) (by simp) (by first | (left; simp; done) | (right; simp [n1]; done)) ?_
    simp
    refine ACall.mkR _ _ _ _ _ (d3) (by simp) (by simp) (by simp [n2]) (by simp) (by first | (left; simp; done) | (right; simp [n2]; done)) ?_
    have d4 := c4.rename (fun i => if i = 0 then 13631488 else if i = 1 then 3145728 else if i = 2 then 2097152 else i) 5 (by intro i j hi hj h; (repeat' split at h) <;> omega) (by simp) (by simp) (by simp)
    have d5 := c5.rename (fun _ => 2097152) 1 (by omega) (by simp) (by simp) (by simp)
    have d6 := c6.rename (fun i => if i = 0 then 13631488 else if i = 1 then 3145728 else if i = 2 then 2097152 else if i = 3 then 17825796 else i) 5 (by intro i j hi hj h; (repeat' split at h) <;> omega) (by simp) (by simp) (by simp)
    simp [renL, renR] at d4 d5 d6
    simp [splice, h3']
    refine ACall.mkR _ _ _ _ _ (d4) (by simp) (by simp) (by simp [n3]) (by simp) (by first | (left; simp; done) | (right; simp [n3]; done)) ?_
    simp
    refine ACall.mkR _ _ _ _ _ (d5) (by simp) (by simp) (by simp [n3]) (by simp) (by first | (left; simp; done) | (right; simp [n3]; done)) ?_
    simp
    refine ACall.mkR _ _ _ _ _ (d6) (by simp) (by simp) (by simp [n4]) (by simp) (by first | (left; simp; done) | (right; simp [n4, n5]; done)) ?_
    simp
    refine RetOk.by (lk [(0, 22020100)]) ?_
    simp [results93]
end Go.Proofs.Try
namespace Go.Proofs.Try
open Go.Psl
open Go.Geo (cross pushS chainR hullS)
/-- what the library's sort does to points -/
def SortOk : Prop := ∀ l : List (Int × Int), 0 < l.length → l.length ≤ 100000 → Cm prog 127 [.ls 0 0 l.length 2, .d (.fn 128 [])] (lk [(0, cellsI l)]) [0] (.ret (.tup [])) (lk [(0, cellsI (sortC l))])
/-- a valid region -/
def regS (r : List (Int × Int)) : Bool := decide (1 ≤ r.length) && decide (r.length ≤ 64) && nearC r && decide (hullP r = r)
theorem near_bd {l : List (Int × Int)} (h : nearC l = true) : ∀ q ∈ l, bd 536870912 q := fun q hq => by
  have := okC_iff.1 (List.all_eq_true.1 h q hq)
  unfold bd at *; omega
theorem near_bd2 {l : List (Int × Int)} (h : nearC l = true) : ∀ q ∈ l, bd 268435456 q := fun q hq => okC_iff.1 (List.all_eq_true.1 h q hq)
theorem hullP_len (l : List (Int × Int)) : (hullP l).length ≤ 2 * l.length := by
  have h1 : (ddC (sortC l)).length ≤ l.length := by
    have := dd_len (sortC l) l.length
    rw [List.take_of_length_le (by rw [sortC_len]; omega)] at this
    exact this
  unfold hullP hullS
  split
  · omega
  · have h2 := chainR_len (ddC (sortC l))
    have h3 := chainR_len (ddC (sortC l)).reverse
    simp at h3 ⊢; omega
theorem bor_cut {H : Hp} {id : Nat} {l z : List (Int × Int)} (h : H id = some (cellsI (l ++ z))) : Bor H (.ls id 0 l.length 2) (.d (spansD l)) := by
  rw [Bor_ls]
  refine ⟨rfl, by simp, fun e he => ?_, _, h, ?_⟩
  · simp only [List.mem_map] at he
    obtain ⟨k, _, rfl⟩ := he
    rfl
  · rw [sp_flat', List.drop_zero, cells_take]
theorem fn55 (hS : SortOk) (r : List (Int × Int)) (hr : r.length ≤ 1000000000) : Ct prog 55 [.d (spansD r)] (vi (if regS r then 0 else 14)) [] := by
  refine Ct.by gok eok mixed func55 c55 rfl (by simp [ntmps55]) (by simp) (by simp [ResIds]) fun E hE => ?_
  by_cases h1 : r.length < 1
  · have h1' : (r.length : Int) < 1 := by omega
    have e : regS r = false := by unfold regS; rw [decide_eq_false (p := 1 ≤ r.length) (by omega)]; simp
    simp [p55, h1']
    refine RetOk.by (fun _ => none) ?_
    simp [results55, e]
  have h1' : ¬ (r.length : Int) < 1 := by omega
  by_cases h2 : 64 < r.length
  · have h2' : (64 : Int) < r.length := by omega
    have e : regS r = false := by unfold regS; rw [decide_eq_false (p := r.length ≤ 64) (by omega)]; simp
    simp [p55, h1', h2']
    refine RetOk.by (fun _ => none) ?_
    simp [results55, e]
  have h2' : ¬ (64 : Int) < r.length := by omega
  simp [p55, h1', h2']
  refine ACall.mk _ _ _ (fn92 r hr) (by first | (simp; done) | simp [Bor_ls, Bor1_ls]) (by simp) (by first | (left; simp; done) | (right; simp; done)) ?_
  by_cases h3 : nearC r = true
  · simp [h3]
    obtain ⟨z, c⟩ := fn93 hS r (by omega) (by omega) (near_bd h3)
    refine ACall.mk _ _ _ (c) (by first | (simp; done) | simp [Bor_ls, Bor1_ls]) (by simp) (by first | (left; simp; done) | (right; simp; done)) ?_
    simp
    have hpl := hullP_len r
    refine ACall.mk _ _ _ (fn101 (hullP r) r (by omega) (by omega)) (by simp [bor_cut (z := z)]) (by simp) (by first | (left; simp; done) | (right; simp; done)) ?_
    have e : regS r = decide (hullP r = r) := by unfold regS; rw [decide_eq_true (p := 1 ≤ r.length) (by omega), decide_eq_true (p := r.length ≤ 64) (by omega), h3]; rfl
    by_cases h4 : hullP r = r
    · simp [h4]
      refine RetOk.by (fun _ => none) ?_
      simp [results55, e, h4]
    · simp [h4]
      refine RetOk.by (fun _ => none) ?_
      simp [results55, e, h4]
  · simp [h3]
    have e : regS r = false := by unfold regS; simp [h3]
    refine RetOk.by (fun _ => none) ?_
    simp [results55, e]
/-- the hull of points, or the error -/
def hullE (l : List (Int × Int)) : Int := if 64 < l.length then 4 else if l.length < 1 ∨ nearC l = false then 2 else 0
def hullO (l : List (Int × Int)) : List (Int × Int) := if hullE l = 0 then hullP l else []
theorem hullP_ne {l : List (Int × Int)} (h : 0 < l.length) : hullP l ≠ [] := by
  have hLpos : ddC (sortC l) ≠ [] := by
    obtain ⟨p, hp⟩ := List.exists_mem_of_length_pos h
    have : p ∈ ddC (sortC l) := by rw [ddC_mem, sortC_mem]; exact hp
    exact List.ne_nil_of_mem this
  unfold hullP hullS
  split
  · exact hLpos
  · obtain ⟨top, rest, e, hr⟩ := chain_two (l := ddC (sortC l)) (by omega)
    rw [e]; simp [hr]
theorem fn49 (hS : SortOk) (l : List (Int × Int)) (hl : l.length ≤ 1000000000) : ∃ z, Ct prog 49 [.d (spansD l)] (.tup [hdrV (hullO l) 0, vi (hullE l)]) (outZ (hullO l) z 0) := by
  by_cases h1 : 64 < l.length
  · have h1' : (64 : Int) < l.length := by omega
    have e : hullE l = 4 := by unfold hullE; rw [if_pos h1]
    have e2 : hullO l = [] := by unfold hullO; rw [e]; rfl
    refine ⟨[], ?_⟩
    rw [e, e2, hdrV_nil, outZ_nil]
    refine Ct.by gok eok mixed func49 c49 rfl (by simp [ntmps49]) (by simp) (by simp [ResIds]) fun E hE => ?_
    simp [p49, h1']
    refine RetOk.by (fun _ => none) ?_
    simp [results49]
  have h1' : ¬ (64 : Int) < l.length := by omega
  by_cases h2 : l.length < 1
  · have h2' : (l.length : Int) < 1 := by omega
    have e : hullE l = 2 := by unfold hullE; rw [if_neg h1, if_pos (Or.inl h2)]
    have e2 : hullO l = [] := by unfold hullO; rw [e]; rfl
    refine ⟨[], ?_⟩
    rw [e, e2, hdrV_nil, outZ_nil]
    refine Ct.by gok eok mixed func49 c49 rfl (by simp [ntmps49]) (by simp) (by simp [ResIds]) fun E hE => ?_
    simp [p49, h1', h2']
    refine RetOk.by (fun _ => none) ?_
    simp [results49]
  have h2' : ¬ (l.length : Int) < 1 := by omega
  by_cases h3 : nearC l = true
  · have e : hullE l = 0 := by unfold hullE; rw [if_neg h1, if_neg]; rintro (h | h); omega; rw [h] at h3; cases h3
    have e2 : hullO l = hullP l := by unfold hullO; rw [e]; rfl
    obtain ⟨z, c⟩ := fn93 hS l (by omega) (by omega) (near_bd h3)
    refine ⟨z, ?_⟩
    have hne := hullP_ne (l := l) (by omega)
    rw [e, e2, hdrV_ne hne, outZ_ne hne]
    refine Ct.by gok eok mixed func49 c49 rfl (by simp [ntmps49]) (by simp) (by simp [ResIds]) fun E hE => ?_
    simp [p49, h1', h2']
    refine ACall.mk _ _ _ (fn92 l hl) (by first | (simp; done) | simp [Bor_ls, Bor1_ls]) (by simp) (by first | (left; simp; done) | (right; simp; done)) ?_
    simp [h3]
    refine ACall.mk _ _ _ (c) (by first | (simp; done) | simp [Bor_ls, Bor1_ls]) (by simp) (by first | (left; simp; done) | (right; simp; done)) ?_
    simp
    refine RetOk.by (lk [(0, 16777216)]) ?_
    simp [results49]
  · have h3f : nearC l = false := by simpa using h3
    have e : hullE l = 2 := by unfold hullE; rw [if_neg h1, if_pos (Or.inr h3f)]
    have e2 : hullO l = [] := by unfold hullO; rw [e]; rfl
    refine ⟨[], ?_⟩
    rw [e, e2, hdrV_nil, outZ_nil]
    refine Ct.by gok eok mixed func49 c49 rfl (by simp [ntmps49]) (by simp) (by simp [ResIds]) fun E hE => ?_
    simp [p49, h1', h2']
    refine ACall.mk _ _ _ (fn92 l hl) (by first | (simp; done) | simp [Bor_ls, Bor1_ls]) (by simp) (by first | (left; simp; done) | (right; simp; done)) ?_
    simp [h3f]
    refine RetOk.by (fun _ => none) ?_
    simp [results49]
end Go.Proofs.Try
namespace Go.Proofs.Try
open Go.Psl
def strS (dx dy : Int) : Bool := decide (-1073741824 ≤ min dx dy) && decide (max dx dy ≤ 1073741824)
theorem strS_iff {dx dy : Int} : strS dx dy = true ↔ bd 1073741824 (dx, dy) := by
  unfold strS bd; simp only [Bool.and_eq_true, decide_eq_true_eq]; omega
theorem fn102 (dx dy : Int) : Ct prog 102 [vi dx, vi dy] (vb (strS dx dy)) [] := by
  refine Ct.by gok eok mixed func102 c102 rfl (by simp [ntmps102]) (by simp) (by simp [ResIds]) fun E hE => ?_
  by_cases h1 : -1073741824 ≤ min dx dy
  · by_cases h2 : max dx dy ≤ 1073741824
    · simp [p102, h1, h2]
      refine RetOk.by (fun _ => none) ?_
      simp [results102, strS, h1, h2]
    · simp [p102, h1, h2]
      refine RetOk.by (fun _ => none) ?_
      simp [results102, strS, h1, h2]
  · simp [p102, h1]
    refine RetOk.by (fun _ => none) ?_
    simp [results102, strS, h1]
def dotS (dx dy : Int) (p : Int × Int) : Int := dx * p.1 + dy * p.2
theorem dot_bd {dx dy : Int} {p : Int × Int} (hd : bd 1073741824 (dx, dy)) (hp : bd 536870912 p) : (-576460752303423488 ≤ dx * p.1 ∧ dx * p.1 ≤ 576460752303423488) ∧ (-576460752303423488 ≤ dy * p.2 ∧ dy * p.2 ≤ 576460752303423488) := by
  have h1 := mul_abs hd.1 hp.1
  have h2 := mul_abs hd.2 hp.2
  simp only at h1 h2
  omega
/-- the least and the greatest value of the first corners -/
def alN (l : List (Int × Int)) (dx dy : Int) : Nat → Int × Int
  | 0 => (0, 0)
  | i + 1 => match l[i]? with
    | some p => if i = 0 then (dotS dx dy p, dotS dx dy p) else (min (alN l dx dy i).1 (dotS dx dy p), max (alN l dx dy i).2 (dotS dx dy p))
    | none => alN l dx dy i
def alongS (l : List (Int × Int)) (dx dy : Int) : Int × Int := alN l dx dy l.length
theorem fn103 (l : List (Int × Int)) (dx dy : Int) (hl : l.length ≤ 1000000000) (hd : bd 1073741824 (dx, dy)) (hb : ∀ q ∈ l, bd 536870912 q) : Ct prog 103 [.d (spansD l), vi dx, vi dy] (.tup [vi (alongS l dx dy).1, vi (alongS l dx dy).2]) [] := by
  refine Ct.by gok eok mixed func103 c103 rfl (by simp [ntmps103]) (by simp) (by simp [ResIds]) fun E hE => ?_
  simp [p103]
  refine pw_loop (α := Nat) (fun i => ⟨slots [(1, vi dx), (2, vi dy), (6, vi (alN l dx dy i).1), (7, vi (alN l dx dy i).2), (11, .d (spansD l)), (12, vi l.length), (13, vi i)], lk [], 0⟩) (fun i => i ≤ l.length) (fun i => l.length - i) 0 ?_ ?_ ?_
  · simp
  · refine Weak.mk hE (lk []) _ _ _ ?_ ?_ ?_ ?_ ?_ <;> simp [alN]
  · intro i hi
    have hz : IntKind.wrap .i64 ((i : Int) + 1) = ((i : Int) + 1) := wrap64 (by omega) (by omega)
    simp [p103l0]
    refine cR_split (fun h => ?_) (fun h => ?_)
    · simp at h
      obtain ⟨p, hp⟩ : ∃ p, l[i]? = some p := ⟨l[i], by simp [h]⟩
      have b := dot_bd hd (hb p (List.mem_of_getElem? hp))
      have w1 : IntKind.wrap .i64 (dx * p.1) = dx * p.1 := wrap64 (by omega) (by omega)
      have w2 : IntKind.wrap .i64 (dy * p.2) = dy * p.2 := wrap64 (by omega) (by omega)
      have w3 : IntKind.wrap .i64 (dx * p.1 + dy * p.2) = dx * p.1 + dy * p.2 := wrap64 (by omega) (by omega)
      by_cases h0 : i = 0
      · subst h0
        have hz1 : IntKind.wrap .i64 1 = 1 := by decide
        simp [hp, splice, w1, w2, w3, hz1]
        refine ⟨1, by omega, by omega, ?_⟩
        refine Weak.mk hE (lk []) _ _ _ ?_ ?_ ?_ ?_ ?_ <;> simp [alN, hp, dotS]
      · simp [hp, splice, w1, w2, w3, hz, h0]
        refine ⟨i + 1, by omega, by omega, ?_⟩
        refine Weak.mk hE (lk []) _ _ _ ?_ ?_ ?_ ?_ ?_ <;> simp [alN, hp, dotS, h0]
    · simp at h
      have hil : i = l.length := by omega
      subst hil
      simp
      refine RetOk.by (fun _ => none) ?_
      simp [results103, alongS]
def reachE (r : List (Int × Int)) (dx dy : Int) : Int := if regS r = false then 14 else if strS dx dy = false then 2 else 0
def reachV (r : List (Int × Int)) (dx dy : Int) : Int := if reachE r dx dy = 0 then (alongS r dx dy).2 else 0
theorem regS_bd {r : List (Int × Int)} (h : regS r = true) : ∀ q ∈ r, bd 268435456 q := near_bd2 (by unfold regS at h; simp only [Bool.and_eq_true] at h; exact h.1.2)
theorem regS_len {r : List (Int × Int)} (h : regS r = true) : 1 ≤ r.length ∧ r.length ≤ 64 := by
  unfold regS at h; simp only [Bool.and_eq_true, decide_eq_true_eq] at h; exact h.1.1
theorem bd_mono {M N : Int} {p : Int × Int} (h : bd M p) (hm : M ≤ N) : bd N p := by unfold bd at *; omega
theorem fn60 (hS : SortOk) (r : List (Int × Int)) (dx dy : Int) (hr : r.length ≤ 1000000000) : Ct prog 60 [.d (spansD r), vi dx, vi dy] (.tup [vi (reachV r dx dy), vi (reachE r dx dy)]) [] := by
  refine Ct.by gok eok mixed func60 c60 rfl (by simp [ntmps60]) (by simp) (by simp [ResIds]) fun E hE => ?_
  simp [p60]
  refine ACall.mk _ _ _ (fn55 hS r hr) (by first | (simp; done) | simp [Bor_ls, Bor1_ls]) (by simp) (by first | (left; simp; done) | (right; simp; done)) ?_
  by_cases h1 : regS r = true
  · simp [h1]
    refine ACall.mk _ _ _ (fn102 dx dy) (by first | (simp; done) | simp [Bor_ls, Bor1_ls]) (by simp) (by first | (left; simp; done) | (right; simp; done)) ?_
    by_cases h2 : strS dx dy = true
    · simp [h2]
      refine ACall.mk _ _ _ (fn103 r dx dy hr (strS_iff.1 h2) (fun q hq => bd_mono (regS_bd h1 q hq) (by omega))) (by first | (simp; done) | simp [Bor_ls, Bor1_ls]) (by simp) (by first | (left; simp; done) | (right; simp; done)) ?_
      simp
      refine RetOk.by (fun _ => none) ?_
      simp [results60, reachV, reachE, h1, h2]
    · simp [h2]
      refine RetOk.by (fun _ => none) ?_
      simp [results60, reachV, reachE, h1, h2]
  · simp [h1]
    refine RetOk.by (fun _ => none) ?_
    simp [results60, reachV, reachE, h1]
theorem fn57 (l m : List (Int × Int)) (hl : l.length ≤ 1000000000) (_ : m.length ≤ 1000000000) : Ct prog 57 [.d (spansD l), .d (spansD m)] (vb (decide (l = m))) [] := by
  refine Ct.by gok eok mixed func57 c57 rfl (by simp [ntmps57]) (by simp) (by simp [ResIds]) fun E hE => ?_
  by_cases hlen : l.length = m.length
  case neg =>
    have hn : ¬ (l.length : Int) = m.length := by omega
    have hne : ¬ l = m := fun h => hlen (by rw [h])
    simp [p57, hn]
    refine RetOk.by (fun _ => none) ?_
    simp [results57, hne]
  simp [p57, hlen]
  refine pw_loop (α := Nat) (fun i => ⟨slots [(0, .d (spansD l)), (1, .d (spansD m)), (5, vi i)], lk [], 0⟩) (fun i => i ≤ l.length ∧ l.take i = m.take i) (fun i => l.length - i) 0 ?_ ?_ ?_
  · simp
  · refine Weak.mk hE (lk []) _ _ _ ?_ ?_ ?_ ?_ ?_ <;> simp
  · rintro i ⟨hi, hg⟩
    have hz : IntKind.wrap .i64 ((i : Int) + 1) = ((i : Int) + 1) := wrap64 (by omega) (by omega)
    simp [p57l0]
    refine cR_split (fun h => ?_) (fun h => ?_)
    · simp at h
      have hil : i < l.length := by omega
      obtain ⟨a, ha⟩ : ∃ a, l[i]? = some a := ⟨l[i], by simp [hil]⟩
      obtain ⟨b, hb⟩ : ∃ b, m[i]? = some b := ⟨m[i], by simp [show i < m.length by omega]⟩
      by_cases h1 : a.1 = b.1 ∧ a.2 = b.2
      · have hab : a = b := by ext; exact h1.1; exact h1.2
        simp [ha, hb, h1, hz]
        refine ⟨i + 1, ⟨by omega, by simp [List.take_add_one, hg, ha, hb, hab]⟩, by omega, ?_⟩
        refine Weak.mk hE (lk []) _ _ _ ?_ ?_ ?_ ?_ ?_ <;> simp
      · have hne : ¬ l = m := fun h => by
          rw [h, hb] at ha
          cases ha
          exact h1 ⟨rfl, rfl⟩
        have hd : (!decide (a.1 = b.1) || !decide (a.2 = b.2)) = true := by simp; omega
        simp [ha, hb, hd]
        refine RetOk.by (fun _ => none) ?_
        simp [results57, hne]
    · simp at h
      have hil : i = l.length := by omega
      have hlm : l = m := by rw [hil, List.take_length, hlen, List.take_length] at hg; exact hg
      simp
      refine RetOk.by (fun _ => none) ?_
      simp [results57, hlm]
theorem fn69 (a b : Int) : Ct prog 69 [vi a, vi b] (vsp a b) [] := by
  refine Ct.by gok eok mixed func69 c69 rfl (by simp [ntmps69]) (by simp) (by simp [ResIds]) fun E hE => ?_
  simp [p69, splice]
  refine RetOk.by (fun _ => none) ?_
  simp [results69]
def hillL : List (Int × Int × Int) := [(0, 0, 2), (10, 20, 25), (20, 5, 5)]
def squareL : List (Int × Int) := [(0, 0), (4, 0), (4, 4), (0, 4)]
theorem fn72 : Ct prog 72 [] (.ls 0 0 3 3) [(0, [vi 0, vi 0, vi 2, vi 10, vi 20, vi 25, vi 20, vi 5, vi 5])] := by
  refine Ct.by gok eok mixed func72 c72 rfl (by simp [ntmps72]) (by simp) (by simp [ResIds]) fun E hE => ?_
  simp [p72]
  refine ACall.mk _ _ _ (fn69 0 2) (by first | (simp; done) | simp [Bor_ls, Bor1_ls]) (by simp) (by first | (left; simp; done) | (right; simp; done)) ?_
  simp [splice]
  refine ACall.mk _ _ _ (fn69 20 25) (by first | (simp; done) | simp [Bor_ls, Bor1_ls]) (by simp) (by first | (left; simp; done) | (right; simp; done)) ?_
  simp [splice]
  refine ACall.mk _ _ _ (fn69 5 5) (by first | (simp; done) | simp [Bor_ls, Bor1_ls]) (by simp) (by first | (left; simp; done) | (right; simp; done)) ?_
  simp [splice, repl]
  refine RetOk.by (lk [(0, 7340032)]) ?_
  simp [results72]
theorem fn73 : Ct prog 73 [] (.ls 0 0 4 2) [(0, [vi 0, vi 0, vi 4, vi 0, vi 4, vi 4, vi 0, vi 4])] := by
  refine Ct.by gok eok mixed func73 c73 rfl (by simp [ntmps73]) (by simp) (by simp [ResIds]) fun E hE => ?_
  simp [p73, splice, repl]
  refine RetOk.by (lk [(0, 5242880)]) ?_
  simp [results73]
end Go.Proofs.Try
namespace Go.Proofs.Try
open Go.Psl
open Go.Geo (cross pushS chainR hullS)
def leC (x y : Int × Int) : Bool := !decide (orderS y x < 0)
theorem order_lt {x y : Int × Int} : orderS x y < 0 ↔ Go.Geo.lt x y := by
  unfold orderS orI orI orI cmpI Go.Geo.lt
  by_cases h1 : x.1 < y.1
  · simp [h1]
  · by_cases h2 : y.1 < x.1
    · simp [h1, h2]; omega
    · by_cases h3 : x.2 < y.2
      · simp [h1, h2, h3]; omega
      · by_cases h4 : y.2 < x.2
        · simp [h1, h2, h3, h4]
        · simp [h1, h2, h3, h4]
theorem leC_iff {x y : Int × Int} : leC x y = true ↔ ¬ Go.Geo.lt y x := by unfold leC; rw [Bool.not_eq_true', decide_eq_false_iff_not, order_lt]
theorem leC_trans (a b c : Int × Int) (h1 : leC a b = true) (h2 : leC b c = true) : leC a c = true := by
  rw [leC_iff] at *; unfold Go.Geo.lt at *; omega
theorem leC_total (a b : Int × Int) : (leC a b || leC b a) = true := by
  rw [Bool.or_eq_true, leC_iff, leC_iff]; unfold Go.Geo.lt; omega
theorem leC_anti {a b : Int × Int} (h1 : leC a b = true) (h2 : leC b a = true) : a = b := by
  rw [leC_iff] at *; unfold Go.Geo.lt at *
  ext <;> omega
theorem sortC_pw (l : List (Int × Int)) : (sortC l).Pairwise fun x y => leC x y = true := List.pairwise_mergeSort leC_trans leC_total l
theorem sortC_eq {l m : List (Int × Int)} (hp : m.Perm l) (hs : m.Pairwise fun x y => leC x y = true) : sortC l = m :=
  List.Perm.eq_of_pairwise (le := fun x y => leC x y = true) (fun _ _ _ _ h1 h2 => leC_anti h1 h2) (sortC_pw l) hs ((List.mergeSort_perm l _).trans hp.symm)
theorem dd_pw {l : List (Int × Int)} (h : l.Pairwise fun x y => leC x y = true) : Go.Geo.Sorted (ddC l) := by
  have key : ∀ (l d : List (Int × Int)), l.Pairwise (fun x y => leC x y = true) → Go.Geo.Sorted d → (∀ x ∈ d, ∀ y ∈ l, leC x y = true) → Go.Geo.Sorted (l.foldl ddStep d) := by
    intro l
    induction l with
    | nil => intro d _ h _; exact h
    | cons a l ih =>
      intro d hl hd hx
      rw [List.foldl_cons]
      have hl' := List.pairwise_cons.1 hl
      unfold ddStep
      by_cases h : d.getLast? = some a
      · rw [if_pos h]
        exact ih d hl'.2 hd fun x hx' y hy => hx x hx' y (by simp [hy])
      · rw [if_neg h]
        refine ih _ hl'.2 ?_ fun x hx' y hy => ?_
        · unfold Go.Geo.Sorted
          rw [List.pairwise_append]
          refine ⟨hd, List.pairwise_singleton _ _, fun x hxd y hy => ?_⟩
          rw [List.mem_singleton.1 hy]
          -- x is not above a, and not a: the last of d would be a
          have h1 := leC_iff.1 (hx x hxd a (by simp))
          rcases Go.Geo.lt_tri x a with h2 | h2 | h2
          · exact h2
          · exfalso
            subst h2
            rcases List.eq_nil_or_concat d with rfl | ⟨d', z, rfl⟩
            · simp at hxd
            · rw [List.concat_eq_append] at *
              have hz := leC_iff.1 (hx z (by simp) x (by simp))
              have hne : z ≠ x := fun e => h (by rw [e]; simp)
              have hxd' : x ∈ d' := by
                rcases List.mem_append.1 hxd with h | h
                · exact h
                · exact absurd (List.mem_singleton.1 h).symm hne
              have := (List.pairwise_append.1 hd).2.2 x hxd' z (by simp)
              exact hz this
          · exact absurd h2 h1
        · rcases List.mem_append.1 hx' with h | h
          · exact hx x h y (by simp [hy])
          · rw [List.mem_singleton.1 h]; exact hl'.1 y hy
  exact key l [] h List.Pairwise.nil (by simp)
theorem sorted_dd (l : List (Int × Int)) : Go.Geo.Sorted (ddC (sortC l)) := dd_pw (sortC_pw l)
instance (l : List (Int × Int)) : Decidable (l.Pairwise fun x y => leC x y = true) := inferInstance
theorem hullP_eq {l m : List (Int × Int)} (hp : m.Perm l) (hs : m.Pairwise fun x y => leC x y = true) : hullP l = hullS (ddC m) := by unfold hullP; rw [sortC_eq hp hs]
def ptsL : List (Int × Int) := [(2, 2), (0, 0), (4, 0), (2, 1), (0, 4), (4, 4), (2, 0)]
theorem val_hull : hullP ptsL = squareL := by
  rw [hullP_eq (m := [(0, 0), (0, 4), (2, 0), (2, 1), (2, 2), (4, 0), (4, 4)]) (by decide +kernel) (by decide +kernel)]
  decide +kernel
theorem val_square : hullP squareL = squareL := by
  rw [hullP_eq (m := [(0, 0), (0, 4), (4, 0), (4, 4)]) (by decide +kernel) (by decide +kernel)]
  decide +kernel
theorem reg_square : regS squareL = true := by
  unfold regS
  rw [val_square]
  decide +kernel
theorem val_over : overS (1, 2) (3, 3) (2, 7) = ((0, 3), 0) := by decide +kernel
theorem val_mul : mulS (-2, 3) (-5, 4) = ((-15, 12), 0) := by decide +kernel
theorem val_val : valS hillL (5, 14) = ((10, 25), 0) := by decide +kernel
theorem val_may : mayS (pickM true) hillL (20, 30) = ([(8, 12)], 0) := by decide +kernel
theorem val_hullE : hullE ptsL = 0 := by decide +kernel
theorem val_hullO : hullO ptsL = squareL := by unfold hullO; rw [val_hullE, val_hull]; rfl
theorem val_reach : reachV squareL 1 (-2) = 4 ∧ reachE squareL 1 (-2) = 0 := by
  have h : reachE squareL 1 (-2) = 0 := by unfold reachE; rw [reg_square]; decide +kernel
  refine ⟨?_, h⟩
  unfold reachV; rw [h]; decide +kernel
end Go.Proofs.Try
namespace Go.Proofs.Try
open Go.Psl
theorem bor_hill {H : Hp} {id : Nat} (h : H id = some [vi 0, vi 0, vi 2, vi 10, vi 20, vi 25, vi 20, vi 5, vi 5]) : Bor H (.ls id 0 3 3) (.d (knotsD hillL)) := by
  rw [Bor_ls]
  exact ⟨rfl, rfl, by simp [hillL], _, h, rfl⟩
theorem bor_pairs {H : Hp} {id : Nat} {cs : List V} (l : List (Int × Int)) (h : H id = some cs) (hc : cs = cellsI l) : Bor H (.ls id 0 l.length 2) (.d (spansD l)) := by
  rw [Bor_ls]
  refine ⟨rfl, by simp, fun e he => ?_, _, h, ?_⟩
  · simp only [List.mem_map] at he
    obtain ⟨k, _, rfl⟩ := he
    rfl
  · rw [sp_flat', hc, List.drop_zero, List.take_of_length_le (by simp)]
theorem bor_pts {H : Hp} {id : Nat} (h : H id = some [vi 2, vi 2, vi 0, vi 0, vi 4, vi 0, vi 2, vi 1, vi 0, vi 4, vi 4, vi 4, vi 2, vi 0]) : Bor H (.ls id 0 7 2) (.d (spansD ptsL)) := bor_pairs ptsL h rfl
theorem bor_sq {H : Hp} {id : Nat} (h : H id = some [vi 0, vi 0, vi 4, vi 0, vi 4, vi 4, vi 0, vi 4]) : Bor H (.ls id 0 4 2) (.d (spansD squareL)) := bor_pairs squareL h rfl
theorem bor_812 {H : Hp} {id : Nat} (h : H id = some [vi 8, vi 12]) : Bor H (.ls id 0 1 2) (.d (spansD [(8, 12)])) := bor_pairs [(8, 12)] h rfl
theorem bor_sqz {H : Hp} {id : Nat} {z : List (Int × Int)} (h : H id = some (List.map V.d (spD (squareL ++ z)))) : Bor H (.ls id 0 4 2) (.d (spansD squareL)) := bor_cut (l := squareL) h
theorem fn58 (hS : SortOk) : Ct prog 58 [] (vb true) [] := by
  have sp := fn69
  have c1 := fn30 (1, 2) (3, 3) (2, 7)
  have c2 := fn38 (-2, 3) (-5, 4)
  have c3 := fn20 hillL (5, 14) (by decide)
  have c4 := fn22p hillL (20, 30) (by decide)
  obtain ⟨z, c5⟩ := fn49 hS ptsL (by decide)
  have c6 := fn60 hS squareL 1 (-2) (by decide)
  rw [val_over] at c1
  rw [val_mul] at c2
  rw [val_val] at c3
  rw [val_may] at c4
  rw [val_hullO, val_hullE, hdrV_ne (by decide), outZ_ne (by decide)] at c5
  rw [val_reach.1, val_reach.2] at c6
  have s1 := fn28 [(8, 12)] [(8, 12)] (by decide) (by decide)
  have s2 := fn57 squareL squareL (by decide) (by decide)
  simp at c4 s1 s2
  rw [show squareL.length = 4 from rfl] at c5
  refine Ct.by gok eok mixed func58 c58 rfl (by simp [ntmps58]) (by simp) (by simp [ResIds]) fun E hE => ?_
  simp [p58]
  refine ACall.mk _ _ _ (sp 1 2) (by first | (simp; done) | simp [Bor_ls, Bor1_ls]) (by simp) (by first | (left; simp; done) | (right; simp; done)) ?_
  simp
  refine ACall.mk _ _ _ (sp 3 3) (by first | (simp; done) | simp [Bor_ls, Bor1_ls]) (by simp) (by first | (left; simp; done) | (right; simp; done)) ?_
  simp
  refine ACall.mk _ _ _ (sp 2 7) (by first | (simp; done) | simp [Bor_ls, Bor1_ls]) (by simp) (by first | (left; simp; done) | (right; simp; done)) ?_
  simp
  refine ACall.mk _ _ _ (c1) (by first | (simp; done) | simp [Bor_ls, Bor1_ls]) (by simp) (by first | (left; simp; done) | (right; simp; done)) ?_
  simp [splice]
  refine ACall.mk _ _ _ (sp (-2) 3) (by first | (simp; done) | simp [Bor_ls, Bor1_ls]) (by simp) (by first | (left; simp; done) | (right; simp; done)) ?_
  simp
  refine ACall.mk _ _ _ (sp (-5) 4) (by first | (simp; done) | simp [Bor_ls, Bor1_ls]) (by simp) (by first | (left; simp; done) | (right; simp; done)) ?_
  simp
  refine ACall.mk _ _ _ (c2) (by first | (simp; done) | simp [Bor_ls, Bor1_ls]) (by simp) (by first | (left; simp; done) | (right; simp; done)) ?_
  simp [splice]
  refine ACall.mk _ _ _ (fn72) (by first | (simp; done) | simp [Bor_ls, Bor1_ls]) (by simp) (by first | (left; simp; done) | (right; simp; done)) ?_
  simp
  refine ACall.mk _ _ _ (sp 5 14) (by first | (simp; done) | simp [Bor_ls, Bor1_ls]) (by simp) (by first | (left; simp; done) | (right; simp; done)) ?_
  simp
  refine ACall.mk _ _ _ (c3) (by simp [bor_hill]) (by simp) (by first | (left; simp; done) | (right; simp; done)) ?_
  simp [splice]
  refine ACall.mk _ _ _ (fn72) (by first | (simp; done) | simp [Bor_ls, Bor1_ls]) (by simp) (by first | (left; simp; done) | (right; simp; done)) ?_
  simp
  refine ACall.mk _ _ _ (sp 20 30) (by first | (simp; done) | simp [Bor_ls, Bor1_ls]) (by simp) (by first | (left; simp; done) | (right; simp; done)) ?_
  simp
  refine ACall.mk _ _ _ (c4) (by simp [bor_hill]) (by simp) (by first | (left; simp; done) | (right; simp; done)) ?_
  simp [splice, repl]
  refine ACall.mk _ _ _ (c5) (by simp [bor_pts]) (by simp) (by first | (left; simp; done) | (right; simp; done) | (right; simp; exact fun a ha => spD_lit a ha)) ?_
  simp
  refine ACall.mk _ _ _ (fn73) (by first | (simp; done) | simp [Bor_ls, Bor1_ls]) (by simp) (by first | (left; simp; done) | (right; simp; done)) ?_
  simp
  refine ACall.mk _ _ _ (c6) (by simp [bor_sq]) (by simp) (by first | (left; simp; done) | (right; simp; done)) ?_
  simp [inC, Nat.testBit]
  refine ACall.mk _ _ _ (sp 0 3) (by first | (simp; done) | simp [Bor_ls, Bor1_ls]) (by simp) (by first | (left; simp; done) | (right; simp; done)) ?_
  simp [inC, Nat.testBit]
  refine ACall.mk _ _ _ (sp (-15) 12) (by first | (simp; done) | simp [Bor_ls, Bor1_ls]) (by simp) (by first | (left; simp; done) | (right; simp; done)) ?_
  simp [inC, Nat.testBit]
  refine ACall.mk _ _ _ (sp 10 25) (by first | (simp; done) | simp [Bor_ls, Bor1_ls]) (by simp) (by first | (left; simp; done) | (right; simp; done)) ?_
  simp
  refine ACall.mk _ _ _ (sp 8 12) (by first | (simp; done) | simp [Bor_ls, Bor1_ls]) (by simp) (by first | (left; simp; done) | (right; simp; done)) ?_
  simp [splice, repl]
  refine ACall.mk _ _ _ (s1) (by simp [bor_812, inC, Nat.testBit]) (by simp) (by first | (left; simp; done) | (right; simp; done)) ?_
  simp
  refine ACall.mk _ _ _ (fn73) (by first | (simp; done) | simp [Bor_ls, Bor1_ls]) (by simp) (by first | (left; simp; done) | (right; simp; done)) ?_
  simp
  refine ACall.mk _ _ _ (s2) (by simp [bor_sq, bor_sqz (z := z)]) (by simp) (by first | (left; simp; done) | (right; simp; done)) ?_
  simp
  refine RetOk.by (fun _ => none) ?_
  simp [results58]
end Go.Proofs.Try
