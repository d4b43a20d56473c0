/- Own lemmas and contracts of functions, used by the last text of this claim for the given statement. Conditions: those that each theorem states. -/
import Derived.Test.YtigekgfbcfbobaaGreatBi
import Derived.Test.YtigekgfbcfbobaaGreatBf
import Derived.Test.YtigekgfbcfbobaaGreatBe
import Derived.Test.YtigekgfbcfbobaaGreatBh
namespace Go.Proofs.Tryz
open Go.Psl
open Go.Geo (cross pushS chainR hullS)
def leC (x y : Int × Int) : Bool := !decide (orderS y x < 0)
theorem order_lt {x y : Int × Int} : orderS x y < 0 ↔ Go.Geo.lt x y := by
  unfold orderS orI orI orI cmpI Go.Geo.lt
  by_cases h1 : x.1 < y.1
  · simp [h1]
  · by_cases h2 : y.1 < x.1
    · simp [h1, h2]; omega
    · by_cases h3 : x.2 < y.2
      · simp [h1, h2, h3]; omega
      · by_cases h4 : y.2 < x.2
        · simp [h1, h2, h3, h4]
        · simp [h1, h2, h3, h4]
theorem leC_iff {x y : Int × Int} : leC x y = true ↔ ¬ Go.Geo.lt y x := by unfold leC; rw [Bool.not_eq_true', decide_eq_false_iff_not, order_lt]
theorem leC_trans (a b c : Int × Int) (h1 : leC a b = true) (h2 : leC b c = true) : leC a c = true := by
  rw [leC_iff] at *; unfold Go.Geo.lt at *; omega
theorem leC_total (a b : Int × Int) : (leC a b || leC b a) = true := by
  rw [Bool.or_eq_true, leC_iff, leC_iff]; unfold Go.Geo.lt; omega
theorem sortC_pw (l : List (Int × Int)) : (sortC l).Pairwise fun x y => leC x y = true := List.pairwise_mergeSort leC_trans leC_total l
theorem dd_pw {l : List (Int × Int)} (h : l.Pairwise fun x y => leC x y = true) : Go.Geo.Sorted (ddC l) := by
  have key : ∀ (l d : List (Int × Int)), l.Pairwise (fun x y => leC x y = true) → Go.Geo.Sorted d → (∀ x ∈ d, ∀ y ∈ l, leC x y = true) → Go.Geo.Sorted (l.foldl ddStep d) := by
    intro l
    induction l with
    | nil => intro d _ h _; exact h
    | cons a l ih =>
      intro d hl hd hx
      rw [List.foldl_cons]
      have hl' := List.pairwise_cons.1 hl
      unfold ddStep
      by_cases h : d.getLast? = some a
      · rw [if_pos h]
        exact ih d hl'.2 hd fun x hx' y hy => hx x hx' y (by simp [hy])
      · rw [if_neg h]
        refine ih _ hl'.2 ?_ fun x hx' y hy => ?_
        · unfold Go.Geo.Sorted
          rw [List.pairwise_append]
          refine ⟨hd, List.pairwise_singleton _ _, fun x hxd y hy => ?_⟩
          rw [List.mem_singleton.1 hy]
          have h1 := leC_iff.1 (hx x hxd a (by simp))
          rcases Go.Geo.lt_tri x a with h2 | h2 | h2
          · exact h2
          · exfalso
            subst h2
            rcases List.eq_nil_or_concat d with rfl | ⟨d', z, rfl⟩
            · simp at hxd
            · rw [List.concat_eq_append] at *
              have hz := leC_iff.1 (hx z (by simp) x (by simp))
              have hne : z ≠ x := fun e => h (by rw [e]; simp)
              have hxd' : x ∈ d' := by
                rcases List.mem_append.1 hxd with h | h
                · exact h
                · exact absurd (List.mem_singleton.1 h).symm hne
              have := (List.pairwise_append.1 hd).2.2 x hxd' z (by simp)
              exact hz this
          · exact absurd h2 h1
        · rcases List.mem_append.1 hx' with h | h
          · exact hx x h y (by simp [hy])
          · rw [List.mem_singleton.1 h]; exact hl'.1 y hy
  exact key l [] h List.Pairwise.nil (by simp)
theorem sorted_dd (l : List (Int × Int)) : Go.Geo.Sorted (ddC (sortC l)) := dd_pw (sortC_pw l)
instance (l : List (Int × Int)) : Decidable (l.Pairwise fun x y => leC x y = true) := inferInstance
end Go.Proofs.Tryz
namespace Go.Proofs.Tryz
open Go.Psl
theorem cross_bd {a b c : Int × Int} (ha : bd 536870912 a) (hb : bd 536870912 b) (hc : bd 536870912 c) : (-1152921504606846976 ≤ (b.1 - a.1) * (c.2 - a.2) ∧ (b.1 - a.1) * (c.2 - a.2) ≤ 1152921504606846976) ∧ (-1152921504606846976 ≤ (b.2 - a.2) * (c.1 - a.1) ∧ (b.2 - a.2) * (c.1 - a.1) ≤ 1152921504606846976) := by
  unfold bd at *
  have h1 := mul_abs (M := 1073741824) (N := 1073741824) (x := b.1 - a.1) (y := c.2 - a.2) (by omega) (by omega)
  have h2 := mul_abs (M := 1073741824) (N := 1073741824) (x := b.2 - a.2) (y := c.1 - a.1) (by omega) (by omega)
  omega
set_option maxRecDepth 20000 in
theorem fn304 (a b c : Int × Int) (ha : bd 536870912 a) (hb : bd 536870912 b) (hc : bd 536870912 c) : Ct prog 304 [vsp a.1 a.2, vsp b.1 b.2, vsp c.1 c.2] (vi (Go.Geo.cross a b c)) [] := by
  refine Ct.by gok eok mixed func304 c304 rfl (by simp [ntmps304]) (by simp) (by simp [ResIds]) fun E hE => ?_
  have h := cross_bd ha hb hc
  unfold bd at ha hb hc
  have w1 : IntKind.wrap .i64 (b.1 - a.1) = b.1 - a.1 := wrap64 (by omega) (by omega)
  have w2 : IntKind.wrap .i64 (c.2 - a.2) = c.2 - a.2 := wrap64 (by omega) (by omega)
  have w3 : IntKind.wrap .i64 (b.2 - a.2) = b.2 - a.2 := wrap64 (by omega) (by omega)
  have w4 : IntKind.wrap .i64 (c.1 - a.1) = c.1 - a.1 := wrap64 (by omega) (by omega)
  have w5 : IntKind.wrap .i64 ((b.1 - a.1) * (c.2 - a.2)) = (b.1 - a.1) * (c.2 - a.2) := wrap64 (by omega) (by omega)
  have w6 : IntKind.wrap .i64 ((b.2 - a.2) * (c.1 - a.1)) = (b.2 - a.2) * (c.1 - a.1) := wrap64 (by omega) (by omega)
  have w7 : IntKind.wrap .i64 ((b.1 - a.1) * (c.2 - a.2) - (b.2 - a.2) * (c.1 - a.1)) = (b.1 - a.1) * (c.2 - a.2) - (b.2 - a.2) * (c.1 - a.1) := wrap64 (by omega) (by omega)
  simp [p304, w1, w2, w3, w4, w5, w6, w7]
  refine RetOk.by (fun _ => none) ?_
  simp [results304, Go.Geo.cross]
def ltB (a b : Int × Int) : Bool := decide (a.1 < b.1) || (decide (a.1 = b.1) && decide (a.2 < b.2))
theorem ltB_iff {a b : Int × Int} : ltB a b = true ↔ Go.Geo.lt a b := by unfold ltB Go.Geo.lt; simp
set_option maxRecDepth 20000 in
theorem fn303 (a b : Int × Int) : Ct prog 303 [vsp a.1 a.2, vsp b.1 b.2] (vb (ltB a b)) [] := by
  rcases Int.lt_trichotomy a.1 b.1 with h | h | h
  · refine Ct.by gok eok mixed func303 c303 rfl (by simp [ntmps303]) (by simp) (by simp [ResIds]) fun E hE => ?_
    simp [p303, h]
    refine RetOk.by (fun _ => none) ?_
    simp [results303, ltB, h]
  · have h1 : ¬ a.1 < b.1 := by omega
    refine Ct.by gok eok mixed func303 c303 rfl (by simp [ntmps303]) (by simp) (by simp [ResIds]) fun E hE => ?_
    simp [p303, h]
    refine RetOk.by (fun _ => none) ?_
    simp [results303, ltB, h]
  · have h1 : ¬ a.1 < b.1 := by omega
    have h2 : ¬ a.1 = b.1 := by omega
    refine Ct.by gok eok mixed func303 c303 rfl (by simp [ntmps303]) (by simp) (by simp [ResIds]) fun E hE => ?_
    simp [p303, h1, h2]
    refine RetOk.by (fun _ => none) ?_
    simp [results303, ltB, h1, h2]
theorem sorted_unique {l m : List (Int × Int)} (hl : Go.Geo.Sorted l) (hm : Go.Geo.Sorted m) (h : ∀ x, x ∈ l ↔ x ∈ m) : l = m := by
  have hd1 : l.Nodup := hl.imp fun h e => by subst e; exact Go.Geo.lt_irr _ h
  have hd2 : m.Nodup := hm.imp fun h e => by subst e; exact Go.Geo.lt_irr _ h
  have hp : l.Perm m := (List.perm_ext_iff_of_nodup hd1 hd2).2 h
  exact hp.eq_of_pairwise (fun a b _ _ h1 h2 => absurd (Go.Geo.lt_trans h1 h2) (Go.Geo.lt_irr _)) hl hm
theorem sorted_eq {l m : List (Int × Int)} (hm : Go.Geo.Sorted m) (h : ∀ x, x ∈ m ↔ x ∈ l) : m = ddC (sortC l) :=
  sorted_unique hm (sorted_dd l) fun x => by rw [h, ddC_mem, sortC_mem]
end Go.Proofs.Tryz
namespace Go.Proofs.Tryz
open Go.Psl
theorem outB_ne {O : List (Int × Int)} (h : O ≠ []) (b : Nat) : outB O b = [(b, cellsI O)] := by
  unfold outB; cases O with
  | nil => exact absurd rfl h
  | cons a l => rfl
theorem split_at {out : List (Int × Int)} {p : Int × Int} {j : Nat} (hs : Go.Geo.Sorted out) (hj : j ≤ out.length) (h1 : ∀ m q, j ≤ m → out[m]? = some q → Go.Geo.lt p q) (h2 : ∀ q, 0 < j → out[j - 1]? = some q → ¬ Go.Geo.lt p q) :
    (∀ q, 0 < j → out[j - 1]? = some q → q ≠ p → Go.Geo.Sorted (out.take j ++ p :: out.drop j)) ∧ (j = 0 → Go.Geo.Sorted (p :: out)) := by
  have hd : ∀ y ∈ out.drop j, Go.Geo.lt p y := fun y hy => by
    obtain ⟨m, hm⟩ := List.getElem?_of_mem hy
    rw [List.getElem?_drop] at hm
    exact h1 _ y (by omega) hm
  constructor
  · intro q h0 hq hne
    have hqp : Go.Geo.lt q p := by
      rcases Go.Geo.lt_tri q p with h | h | h
      · exact h
      · exact absurd h hne
      · exact absurd h (h2 q h0 hq)
    have ht : ∀ x ∈ out.take j, Go.Geo.lt x p := fun x hx => by
      obtain ⟨m, hm⟩ := List.getElem?_of_mem hx
      rw [List.getElem?_take] at hm
      split at hm
      · rename_i hmj
        by_cases e : m = j - 1
        · rw [e] at hm; rw [hq] at hm; cases hm; exact hqp
        · have hmm := (List.getElem?_eq_some_iff.1 hm)
          have hqq := (List.getElem?_eq_some_iff.1 hq)
          have := List.pairwise_iff_getElem.1 hs m (j - 1) hmm.1 hqq.1 (by omega)
          rw [hmm.2, hqq.2] at this
          exact Go.Geo.lt_trans this hqp
      · cases hm
    refine List.pairwise_append.2 ⟨hs.sublist (List.take_sublist j out), ?_, fun x hx y hy => ?_⟩
    · exact List.pairwise_cons.2 ⟨hd, hs.sublist (List.drop_sublist j out)⟩
    · rcases List.mem_cons.1 hy with rfl | hy
      · exact ht x hx
      · exact Go.Geo.lt_trans (ht x hx) (hd y hy)
  · intro h0
    subst h0
    exact List.pairwise_cons.2 ⟨fun y hy => hd y (by simpa using hy), hs⟩
theorem mem_put {l out : List (Int × Int)} {i j : Nat} {p : Int × Int} (hp : l[i]? = some p) (hm : ∀ x, x ∈ out ↔ x ∈ l.take i) : ∀ x, x ∈ out.take j ++ p :: out.drop j ↔ x ∈ l.take (i + 1) := fun x => by
  rw [List.take_add_one, hp]
  simp only [List.mem_append, List.mem_cons, Option.toList_some, List.not_mem_nil, or_false]
  rw [← hm]
  have : x ∈ out ↔ x ∈ out.take j ∨ x ∈ out.drop j := by rw [← List.mem_append, List.take_append_drop]
  rw [this]
  constructor
  · rintro (h | h | h)
    · exact Or.inl (Or.inl h)
    · exact Or.inr h
    · exact Or.inl (Or.inr h)
  · rintro ((h | h) | h)
    · exact Or.inl h
    · exact Or.inr (Or.inr h)
    · exact Or.inr (Or.inl h)
theorem mem_keep {l out : List (Int × Int)} {i : Nat} {p : Int × Int} (hp : l[i]? = some p) (hm : ∀ x, x ∈ out ↔ x ∈ l.take i) (h : p ∈ out) : ∀ x, x ∈ out ↔ x ∈ l.take (i + 1) := fun x => by
  rw [List.take_add_one, hp]
  simp only [List.mem_append, Option.toList_some, List.mem_singleton]
  rw [← hm]
  constructor
  · exact Or.inl
  · rintro (h2 | rfl)
    · exact h2
    · exact h
end Go.Proofs.Tryz
namespace Go.Proofs.Tryz
open Go.Psl
def plcP (out : List (Int × Int)) (p : Int × Int) (k : Nat) : Prop := k ≤ out.length ∧ ∀ m q, k ≤ m → out[m]? = some q → Go.Geo.lt p q
def plcQ (out : List (Int × Int)) (p : Int × Int) (k : Nat) : Prop := plcP out p k ∧ ∀ q, 0 < k → out[k - 1]? = some q → ¬ Go.Geo.lt p q
set_option maxHeartbeats 4000000 in
set_option maxRecDepth 20000 in
theorem srt_at (l out : List (Int × Int)) (i : Nat) (p : Int × Int) (hp : l[i]? = some p) (_ : l.length ≤ 100000) (_ : out ≠ []) (ho : out.length ≤ 100000) {E : Ent} (hE : ∀ i, ¬ E.stab i) {Q : AExit → St → Prop} : ∀ j : Nat, plcP out p j → PW prog tys eqs E p273l0
    (seqQ (fun st' => ∃ k, plcP out p k ∧ k < j ∧ Weak prog E st' ⟨slots [(0, .d (spansD l)), (3, .ls 0 0 out.length 2), (4, vi i), (5, vi k)], lk [(0, cellsI out)], 1⟩)
      (exC prog E Q 2 (fun k : Nat => ⟨slots [(0, .d (spansD l)), (3, .ls 0 0 out.length 2), (4, vi i), (5, vi k)], lk [(0, cellsI out)], 1⟩) (fun k => plcQ out p k)))
    ⟨slots [(0, .d (spansD l)), (3, .ls 0 0 out.length 2), (4, vi i), (5, vi j)], lk [(0, cellsI out)], 1⟩ := by
  intro j hjp
  obtain ⟨hj, hjq⟩ := hjp
  simp [p273l0]
  by_cases h0 : 0 < j
  · obtain ⟨q, hq⟩ : ∃ q, out[j - 1]? = some q := ⟨_, List.getElem?_eq_getElem (by omega)⟩
    have hw : IntKind.wrap .i64 ((j : Int) - 1) = ((j - 1 : Nat) : Int) := by rw [wrap64 (by omega) (by omega)]; omega
    have cq := cells_at hq
    have q1 : (j - 1) * 2 + 2 ≤ out.length * 2 := by omega
    have hjl : j - 1 < out.length := by omega
    have d1 := fn303 p q
    obtain ⟨B, hB⟩ : ∃ B, ltB p q = B := ⟨_, rfl⟩
    rw [hB] at d1
    simp [h0, hp, hw, cq, q1, hjl, inC, Nat.testBit]
    refine ACall.mk _ _ _ (d1) (by first | (simp; done) | simp [Bor_ls, Bor1_ls]) (by simp) (by first | (left; simp; done) | (right; simp; done)) ?_
    cases B
    · simp
      refine ⟨j, ⟨⟨hj, hjq⟩, fun q' _ hq' h => ?_⟩, ?_⟩
      · rw [hq] at hq'; cases hq'
        rw [ltB_iff.2 h] at hB; cases hB
      · refine Weak.mk hE (lk [(0, 0)]) _ _ _ ?_ ?_ ?_ ?_ ?_ <;> simp
    · simp [hw]
      refine ⟨j - 1, ⟨by omega, fun m q' hm hq' => ?_⟩, by omega, ?_⟩
      · by_cases e : m = j - 1
        · subst e; rw [hq] at hq'; cases hq'; exact ltB_iff.1 hB
        · exact hjq m q' (by omega) hq'
      · refine Weak.mk hE (lk [(0, 0)]) _ _ _ ?_ ?_ ?_ ?_ ?_ <;> simp
  · simp [h0]
    refine ⟨j, ⟨⟨hj, hjq⟩, fun q' h' => absurd h' h0⟩, ?_⟩
    refine Weak.mk hE (lk [(0, 0)]) _ _ _ ?_ ?_ ?_ ?_ ?_ <;> simp
end Go.Proofs.Tryz
namespace Go.Proofs.Tryz
open Go.Psl
theorem put_len (out : List (Int × Int)) (k : Nat) (g : Int × Int) (h : k ≤ out.length) : (out.take k ++ g :: out.drop k).length = out.length + 1 := by
  simp; omega
theorem put_set {out : List (Int × Int)} {k : Nat} {g : Int × Int} (q : Int × Int) (h : k ≤ out.length) : (out.take k ++ g :: out.drop k).set k q = out.take k ++ q :: out.drop k := by
  have e : (out.take k).length = k := by simp; omega
  rw [List.set_append_right _ _ (by omega), e, Nat.sub_self, List.set_cons_zero]
theorem put_back {out : List (Int × Int)} {k : Nat} {q : Int × Int} (hq : out[k]? = some q) : out.take (k + 1) ++ q :: out.drop (k + 1) = out.take k ++ q :: out.drop k := by
  rw [List.take_add_one, hq, List.drop_eq_getElem_cons (List.getElem?_eq_some_iff.1 hq).1, (List.getElem?_eq_some_iff.1 hq).2]
  simp
theorem put_get {out : List (Int × Int)} {k m : Nat} {g : Int × Int} (hm : m < k) : (out.take k ++ g :: out.drop k)[m]? = out[m]? ∨ out.length ≤ m := by
  by_cases h : m < out.length
  · left
    rw [List.getElem?_append_left (by simp; omega), List.getElem?_take, if_pos hm]
  · right; omega
set_option maxHeartbeats 4000000 in
set_option maxRecDepth 20000 in
theorem srt_shift (l out : List (Int × Int)) (i at' : Nat) (ho : out.length ≤ 100000) {E : Ent} (hE : ∀ i, ¬ E.stab i) {Q : AExit → St → Prop} : ∀ x : Nat × (Int × Int), (at' ≤ x.1 ∧ x.1 ≤ out.length) → PW prog tys eqs E p273l1
    (seqQ (fun st' => ∃ y : Nat × (Int × Int), (at' ≤ y.1 ∧ y.1 ≤ out.length) ∧ y.1 < x.1 ∧ Weak prog E st' ⟨slots [(0, .d (spansD l)), (3, .ls 0 0 (out.length + 1) 2), (4, vi i), (5, vi at'), (6, vi y.1)], lk [(0, cellsI (out.take y.1 ++ y.2 :: out.drop y.1))], 1⟩)
      (exC prog E Q 4 (fun g : Int × Int => ⟨slots [(0, .d (spansD l)), (3, .ls 0 0 (out.length + 1) 2), (4, vi i), (5, vi at')], lk [(0, cellsI (out.take at' ++ g :: out.drop at'))], 1⟩) (fun _ => at' ≤ out.length)))
    ⟨slots [(0, .d (spansD l)), (3, .ls 0 0 (out.length + 1) 2), (4, vi i), (5, vi at'), (6, vi x.1)], lk [(0, cellsI (out.take x.1 ++ x.2 :: out.drop x.1))], 1⟩ := by
  rintro ⟨k, g⟩ ⟨h1, h2⟩
  simp only at h1 h2 ⊢
  by_cases hk : at' < k
  · obtain ⟨j, rfl⟩ : ∃ j, k = j + 1 := ⟨k - 1, by omega⟩
    obtain ⟨q, hq⟩ : ∃ q, out[j]? = some q := ⟨_, List.getElem?_eq_getElem (by omega)⟩
    have hM : (out.take (j + 1) ++ g :: out.drop (j + 1))[j]? = some q := by
      rcases put_get (out := out) (g := g) (show j < j + 1 by omega) with h | h
      · rw [h]; exact hq
      · omega
    have hlen := put_len out (j + 1) g h2
    have hset := put_set (g := g) q h2
    rw [put_back hq] at hset
    obtain ⟨M, hMM⟩ : ∃ M, out.take (j + 1) ++ g :: out.drop (j + 1) = M := ⟨_, rfl⟩
    rw [hMM] at hM hlen hset ⊢
    have cq := cells_at hM
    have cs := cells_set (l := M) q (i := j + 1) (by omega)
    rw [hset] at cs
    obtain ⟨k, hkk⟩ : ∃ k, k = j + 1 := ⟨_, rfl⟩
    rw [← hkk] at cs ⊢
    have w1 : IntKind.wrap .i64 ((k : Int) - 1) = (j : Int) := by rw [wrap64 (by omega) (by omega)]; omega
    have hsl := spD_len M
    rw [hlen] at hsl
    have q1 : j * 2 + 2 ≤ (out.length + 1) * 2 := by omega
    have q2 : k * 2 + 2 ≤ (out.length + 1) * 2 := by omega
    have q3 : j < out.length + 1 := by omega
    have q4 : k < out.length + 1 := by omega
    have hak : at' < k := by omega
    have q3i : (j : Int) < (out.length : Int) + 1 := by omega
    have q4i : (k : Int) < (out.length : Int) + 1 := by omega
    simp [p273l1, hak, w1, cq, cs, hsl, q1, q2, q3i, q4i]
    refine ⟨j, ⟨by omega, by omega⟩, by omega, q.1, q.2, ?_⟩
    refine Weak.mk hE (lk [(0, 0)]) _ _ _ ?_ ?_ ?_ ?_ ?_ <;> simp
  · have e : k = at' := by omega
    subst e
    simp [p273l1]
    refine ⟨h2, g.1, g.2, ?_⟩
    refine Weak.mk hE (lk [(0, 0)]) _ _ _ ?_ ?_ ?_ ?_ ?_ <;> simp
end Go.Proofs.Tryz
namespace Go.Proofs.Tryz
open Go.Psl
def inSeg (l : List (Int × Int × Int)) (i : Nat) (a k : Int × Int × Int) (x : Int) : Prop := l[i]? = some a ∧ l[i + 1]? = some k ∧ a.1 ≤ x ∧ x ≤ k.1 ∧ (i = 0 ∨ a.1 < x)
section
variable {l : List (Int × Int × Int)} (ht : tabS l = true) {i : Nat} {a k : Int × Int × Int} {x : Int} (h : inSeg l i a k x) {u v : Int} (hu : a.2.1 ≤ u ∧ u ≤ a.2.2) (hv : k.2.1 ≤ v ∧ v ≤ k.2.2)
end
end Go.Proofs.Tryz
namespace Go.Proofs.Tryz
open Go.Psl
theorem fz_spans (out : List (Int × Int)) : Fz1 (lk (outB out 0)) (hdrV out 0) (.d (spansD out)) := by
  rcases List.eq_nil_or_concat out with rfl | ⟨l, p, rfl⟩
  · exact Or.inr ⟨rfl, 2, rfl⟩
  · rw [List.concat_eq_append]
    have h := bor_spans (H := lk (outB (l ++ [p]) 0)) (id := 0) (l := l) (p := p) (by simp)
    have e : hdrV (l ++ [p]) 0 = .ls 0 0 (l.length + 1) 2 := by simp
    rw [e]
    exact h
end Go.Proofs.Tryz
namespace Go.Proofs.Tryz
open Go.Psl
def srtI (l : List (Int × Int)) (x : Nat × List (Int × Int)) : Prop := x.1 ≤ l.length ∧ x.2.length ≤ x.1 ∧ Go.Geo.Sorted x.2 ∧ ∀ q, q ∈ x.2 ↔ q ∈ l.take x.1
set_option maxHeartbeats 8000000 in
set_option maxRecDepth 20000 in
theorem srt_main (l : List (Int × Int)) (hl : l.length ≤ 100000) : Ct prog 273 [.d (spansD l)] (hdrV (ddC (sortC l)) 0) (outB (ddC (sortC l)) 0) := by
  refine Ct.by gok eok mixed func273 c273 rfl (by simp [ntmps273]) (by simp) ?_ fun E hE => ?_
  · rcases out_cases (ddC (sortC l)) with h | ⟨o, x, h⟩
    · rw [h]; simp [ResIds]
    · rw [h]; simp [ResIds]
      rintro c (⟨a, _, rfl⟩ | rfl | rfl) <;> simp
  simp [p273]
  refine pw_loopC (α := Nat × List (Int × Int)) 0 (fun _ : Unit => ⟨slots [(3, hdrV (ddC (sortC l)) 0)], lk (outB (ddC (sortC l)) 0), 1⟩) (fun _ => True) (fun x => ⟨slots [(0, .d (spansD l)), (3, hdrV x.2 0), (4, vi x.1)], lk (outB x.2 0), 1⟩) (srtI l) (fun x => l.length - x.1) (0, []) ?_ ?_ ?_ fun _ _ => ?_
  · exact ⟨by simp, by simp, List.Pairwise.nil, fun q => by simp⟩
  · refine Weak.mk hE (lk []) _ _ _ ?_ ?_ ?_ ?_ ?_ <;> simp
  · rintro ⟨i, out⟩ hI
    obtain ⟨h1, h2, h3, h4⟩ := hI
    simp only at h1 h2 h3 h4
    simp [p273l2]
    refine cR_split (fun h => ?_) (fun h => ?_)
    · simp at h
      obtain ⟨p, hp⟩ : ∃ p, l[i]? = some p := ⟨_, List.getElem?_eq_getElem h⟩
      have hz : IntKind.wrap .i64 ((i : Int) + 1) = ((i + 1 : Nat) : Int) := by rw [wrap64 (by omega) (by omega)]; omega
      by_cases hne : out = []
      · subst hne
        have wl : IntKind.wrap .i64 0 = 0 := by decide
        simp
        refine pw_loopC (α := Unit) 2 (fun _ : Unit => ⟨slots [(0, .d (spansD l)), (3, .d (.lit (.slice none 0 0))), (4, vi i), (5, vi 0)], lk [], 0⟩) (fun _ => True) (fun _ => ⟨slots [(0, .d (spansD l)), (3, .d (.lit (.slice none 0 0))), (4, vi i), (5, vi 0)], lk [], 0⟩) (fun _ => True) (fun _ => 0) () ?_ ?_ ?_ fun _ _ => ?_
        · trivial
        · refine Weak.mk hE (lk []) _ _ _ ?_ ?_ ?_ ?_ ?_ <;> simp
        · intro _ _
          simp [p273l0]
          refine Weak.mk hE (lk []) _ _ _ ?_ ?_ ?_ ?_ ?_ <;> simp
        · simp [splice, repl]
          refine pw_loopC (α := Nat × (Int × Int)) 4 (fun g : Int × Int => ⟨slots [(0, .d (spansD l)), (3, .ls 0 0 1 2), (4, vi i), (5, vi 0)], lk [(0, [vi g.1, vi g.2])], 1⟩) (fun _ => True) (fun _ => ⟨slots [(0, .d (spansD l)), (3, .ls 0 0 1 2), (4, vi i), (5, vi 0), (6, vi 0)], lk [(0, [vi 0, vi 0])], 1⟩) (fun _ => True) (fun x => x.1) (0, ((0 : Int), (0 : Int))) ?_ ?_ ?_ fun g _ => ?_
          · trivial
          · refine Weak.mk hE (lk [(0, 17825792)]) _ _ _ ?_ ?_ ?_ ?_ ?_ <;> simp [wl]
          · intro _ _
            simp [p273l1]
            refine ⟨0, 0, ?_⟩
            refine Weak.mk hE (lk [(0, 0)]) _ _ _ ?_ ?_ ?_ ?_ ?_ <;> simp
          · simp [hp, hz, splice]
            refine ⟨i + 1, [p], ⟨by simp only; omega, by simp only [List.length_singleton]; omega, List.pairwise_singleton _ _, mem_put (j := 0) hp h4⟩, by omega, ?_⟩
            rw [hdrV_ne (by simp), outB_ne (by simp), show cellsI [p] = [vi p.1, vi p.2] from rfl]
            refine Weak.mk hE (lk [(0, 0)]) _ _ _ ?_ ?_ ?_ ?_ ?_ <;> simp
      · rw [hdrV_ne hne, outB_ne hne]
        simp
        refine pw_loopC (α := Nat) 2 (fun k : Nat => ⟨slots [(0, .d (spansD l)), (3, .ls 0 0 out.length 2), (4, vi i), (5, vi k)], lk [(0, cellsI out)], 1⟩) (fun k => plcQ out p k) (fun k => ⟨slots [(0, .d (spansD l)), (3, .ls 0 0 out.length 2), (4, vi i), (5, vi k)], lk [(0, cellsI out)], 1⟩) (fun k => plcP out p k) (fun k => k) out.length ?_ ?_ ?_ fun j hj => ?_
        · exact ⟨Nat.le_refl _, fun m q hm hq => by have := (List.getElem?_eq_some_iff.1 hq).1; omega⟩
        · refine Weak.mk hE (lk [(0, 0)]) _ _ _ ?_ ?_ ?_ ?_ ?_ <;> simp
        · exact srt_at l out i p hp hl hne (by omega) hE
        · obtain ⟨⟨hj1, hj2⟩, hj3⟩ := hj
          by_cases h0 : 0 < j
          · obtain ⟨q, hq⟩ : ∃ q, out[j - 1]? = some q := ⟨_, List.getElem?_eq_getElem (by omega)⟩
            have hw : IntKind.wrap .i64 ((j : Int) - 1) = ((j - 1 : Nat) : Int) := by rw [wrap64 (by omega) (by omega)]; omega
            have cq := cells_at hq
            have q1 : (j - 1) * 2 + 2 ≤ out.length * 2 := by omega
            have hjl : j - 1 < out.length := by omega
            by_cases hqp : q.1 = p.1 ∧ q.2 = p.2
            · have hqp' : q = p := by ext; exact hqp.1; exact hqp.2
              simp [h0, hp, hw, cq, q1, hjl, hqp, hz, inC, Nat.testBit]
              refine ⟨i + 1, out, ⟨by simp only; omega, by simp only; omega, h3, mem_keep hp h4 (by rw [← hqp']; exact List.mem_of_getElem? hq)⟩, by omega, ?_⟩
              rw [hdrV_ne hne, outB_ne hne]
              refine Weak.mk hE (lk [(0, 0)]) _ _ _ ?_ ?_ ?_ ?_ ?_ <;> simp
            · have hb : (decide (q.1 = p.1) && decide (q.2 = p.2)) = false := by rw [Bool.and_eq_false_iff]; simp only [decide_eq_false_iff_not]; omega
              have hsl := spD_len out
              have htk : List.take (out.length * 2) (cellsI out) = cellsI out := List.take_of_length_le (by simp)
              have n1 : (out.length + 1) * 16 ≤ 140737488355328 := by omega
              have n2 : out.length + 1 ≤ 9223372036854775807 := by omega
              simp [h0, hp, hw, cq, q1, hjl, hb, hsl, htk, n1, n2, inC, Nat.testBit, splice, repl]
              refine pw_loopC (α := Nat × (Int × Int)) 4 (fun g : Int × Int => ⟨slots [(0, .d (spansD l)), (3, .ls 0 0 (out.length + 1) 2), (4, vi i), (5, vi j)], lk [(0, cellsI (out.take j ++ g :: out.drop j))], 1⟩) (fun _ => j ≤ out.length) (fun x => ⟨slots [(0, .d (spansD l)), (3, .ls 0 0 (out.length + 1) 2), (4, vi i), (5, vi j), (6, vi x.1)], lk [(0, cellsI (out.take x.1 ++ x.2 :: out.drop x.1))], 1⟩) (fun x => j ≤ x.1 ∧ x.1 ≤ out.length) (fun x => x.1) (out.length, ((0 : Int), (0 : Int))) ?_ ?_ ?_ fun g hg => ?_
              · exact ⟨hj1, Nat.le_refl _⟩
              · have wl : IntKind.wrap .i64 (out.length : Int) = out.length := wrap64 (by omega) (by omega)
                simp only [List.take_length, List.drop_length, spD_one]
                refine Weak.mk hE (lk [(0, 17825793)]) _ _ _ ?_ ?_ ?_ ?_ ?_ <;> simp [wl]
                rintro c (⟨a, _, rfl⟩ | rfl) <;> simp
              · exact srt_shift l out i j (by omega) hE
              · have hset := put_set (g := g) p hj1
                have hlen := put_len out j g hj1
                obtain ⟨M, hMM⟩ : ∃ M, out.take j ++ g :: out.drop j = M := ⟨_, rfl⟩
                rw [hMM] at hset hlen ⊢
                have cs := cells_set (l := M) p (i := j) (by omega)
                rw [hset] at cs
                have hml := spD_len M
                rw [hlen] at hml
                have q3 : j < out.length + 1 := by omega
                have q3i : (j : Int) < (out.length : Int) + 1 := by omega
                have q2 : j * 2 + 2 ≤ (out.length + 1) * 2 := by omega
                simp [hp, q3i, q2, hml, cs, hz]
                have hN : out.take j ++ p :: out.drop j ≠ [] := by simp
                have hNl := put_len out j p hj1
                refine ⟨i + 1, out.take j ++ p :: out.drop j, ⟨by simp only; omega, by simp only; omega, (split_at h3 hj1 hj2 hj3).1 q h0 hq (fun e => hqp ⟨by rw [e], by rw [e]⟩), mem_put hp h4⟩, by omega, ?_⟩
                rw [hdrV_ne hN, outB_ne hN, hNl]
                refine Weak.mk hE (lk [(0, 0)]) _ _ _ ?_ ?_ ?_ ?_ ?_ <;> simp
          · have hj0 : j = 0 := by omega
            have hsl := spD_len out
            have htk : List.take (out.length * 2) (cellsI out) = cellsI out := List.take_of_length_le (by simp)
            have n1 : (out.length + 1) * 16 ≤ 140737488355328 := by omega
            have n2 : out.length + 1 ≤ 9223372036854775807 := by omega
            simp [h0, hsl, htk, n1, n2, splice, repl]
            refine pw_loopC (α := Nat × (Int × Int)) 4 (fun g : Int × Int => ⟨slots [(0, .d (spansD l)), (3, .ls 0 0 (out.length + 1) 2), (4, vi i), (5, vi j)], lk [(0, cellsI (out.take j ++ g :: out.drop j))], 1⟩) (fun _ => j ≤ out.length) (fun x => ⟨slots [(0, .d (spansD l)), (3, .ls 0 0 (out.length + 1) 2), (4, vi i), (5, vi j), (6, vi x.1)], lk [(0, cellsI (out.take x.1 ++ x.2 :: out.drop x.1))], 1⟩) (fun x => j ≤ x.1 ∧ x.1 ≤ out.length) (fun x => x.1) (out.length, ((0 : Int), (0 : Int))) ?_ ?_ ?_ fun g hg => ?_
            · exact ⟨hj1, Nat.le_refl _⟩
            · have wl : IntKind.wrap .i64 (out.length : Int) = out.length := wrap64 (by omega) (by omega)
              simp only [List.take_length, List.drop_length, spD_one]
              refine Weak.mk hE (lk [(0, 17825793)]) _ _ _ ?_ ?_ ?_ ?_ ?_ <;> simp [wl]
              rintro c (⟨a, _, rfl⟩ | rfl) <;> simp
            · exact srt_shift l out i j (by omega) hE
            · have hset := put_set (g := g) p hj1
              have hlen := put_len out j g hj1
              obtain ⟨M, hMM⟩ : ∃ M, out.take j ++ g :: out.drop j = M := ⟨_, rfl⟩
              rw [hMM] at hset hlen ⊢
              have cs := cells_set (l := M) p (i := j) (by omega)
              rw [hset] at cs
              have hml := spD_len M
              rw [hlen] at hml
              have q3 : j < out.length + 1 := by omega
              have q3i : (j : Int) < (out.length : Int) + 1 := by omega
              have q2 : j * 2 + 2 ≤ (out.length + 1) * 2 := by omega
              simp [hp, q3i, q2, hml, cs, hz]
              have hN : out.take j ++ p :: out.drop j ≠ [] := by simp
              have hNl := put_len out j p hj1
              refine ⟨i + 1, out.take j ++ p :: out.drop j, ⟨by simp only; omega, by simp only; omega, (by rw [hj0]; simpa using (split_at h3 hj1 hj2 hj3).2 hj0), mem_put hp h4⟩, by omega, ?_⟩
              rw [hdrV_ne hN, outB_ne hN, hNl]
              refine Weak.mk hE (lk [(0, 0)]) _ _ _ ?_ ?_ ?_ ?_ ?_ <;> simp
    · simp at h
      have e : i = l.length := by omega
      have ht : out = ddC (sortC l) := sorted_eq h3 (by rw [e] at h4; simpa using h4)
      rw [← ht]
      simp
      rcases out_cases out with h | ⟨o, x, h⟩
      · rw [h]
        refine Weak.mk hE (lk []) _ _ _ ?_ ?_ ?_ ?_ ?_ <;> simp
      · rw [h]
        refine Weak.mk hE (lk [(0, 0)]) _ _ _ ?_ ?_ ?_ ?_ ?_ <;> simp
        rintro c (⟨a, _, rfl⟩ | rfl | rfl) <;> simp
  · simp
    rcases out_cases (ddC (sortC l)) with h | ⟨o, x, h⟩
    · rw [h]
      refine RetOk.by (fun _ => none) ?_
      simp [results273]
    · rw [h]
      refine RetOk.by (lk [(0, 0)]) ?_
      simp [results273]
theorem fn273 (l : List (Int × Int)) (hl : l.length ≤ 100000) : Ct prog 273 [.d (spansD l)] (.d (spansD (ddC (sortC l)))) [] := by
  refine Cm.freeze (srt_main l hl) ?_
  have h := fz_spans (ddC (sortC l))
  unfold Fz
  split
  · rename_i e _; rcases out_cases (ddC (sortC l)) with h2 | ⟨o, x, h2⟩ <;> rw [h2] at e <;> simp at e
  · exact h
end Go.Proofs.Tryz
namespace Go.Proofs.Tryz
open Go.Psl
open Go.Geo (cross chainR)
set_option maxHeartbeats 4000000 in
set_option maxRecDepth 20000 in
theorem chn_pop (l : List (Int × Int)) (i : Nat) (p : Int × Int) (hp : l[i]? = some p) (hpm : bd 536870912 p) (st0 : List (Int × Int)) {E : Ent} (hE : ∀ i, ¬ E.stab i) {Q : AExit → St → Prop} : ∀ x : List (Int × Int) × List (Int × Int), (popS x.1 p = popS st0 p ∧ x.1.length ≤ 100000 ∧ ∀ q ∈ x.1, bd 536870912 q) → PW prog tys eqs E p274l0
    (seqQ (fun st' => ∃ y : List (Int × Int) × List (Int × Int), (popS y.1 p = popS st0 p ∧ y.1.length ≤ 100000 ∧ ∀ q ∈ y.1, bd 536870912 q) ∧ y.1.length < x.1.length ∧ Weak prog E st' ⟨slots [(0, .d (spansD l)), (3, hdrV y.1.reverse 0), (4, vi i)], lk (outZ y.1.reverse y.2 0), 1⟩)
      (exC prog E Q 2 (fun z : List (Int × Int) => ⟨slots [(0, .d (spansD l)), (3, hdrV (popS st0 p).reverse 0), (4, vi i)], lk (outZ (popS st0 p).reverse z 0), 1⟩) (fun _ => True)))
    ⟨slots [(0, .d (spansD l)), (3, hdrV x.1.reverse 0), (4, vi i)], lk (outZ x.1.reverse x.2 0), 1⟩ := by
  rintro ⟨st, z⟩ ⟨hpop, hlen, hm⟩
  simp only at hpop hlen hm ⊢
  by_cases h2s : st.length < 2
  · have hps : popS st0 p = st := by
      rw [← hpop]
      match st, h2s with
      | [], _ => rfl
      | [_], _ => rfl
      | _ :: _ :: _, h => simp at h; omega
    rw [hps]
    obtain ⟨O, hO⟩ : ∃ O, st.reverse = O := ⟨_, rfl⟩
    have hOl : O.length = st.length := by rw [← hO]; simp
    rw [hO]
    have hlt : ¬ ((1 : Int) < (O.length : Int)) := by omega
    have hlt' : ¬ (1 < O.length) := by omega
    simp [p274l0, lenF_hdr, hlt]
    refine ⟨z, ?_⟩
    obtain rfl | ⟨b0, x0, rfl⟩ := out_cases O
    · refine Weak.mk hE (lk []) _ _ _ ?_ ?_ ?_ ?_ ?_ <;> simp
    · rw [outZ_snoc]
      refine Weak.mk hE (lk [(0, 0)]) _ _ _ ?_ ?_ ?_ ?_ ?_ <;> simp
  · obtain ⟨b, a, r, rfl⟩ : ∃ b a r, st = b :: a :: r := by
      match st, h2s with
      | b :: a :: r, _ => exact ⟨b, a, r, rfl⟩
      | [], h => simp at h
      | [_], h => simp at h
    have ba := hm a (by simp)
    have bb := hm b (by simp)
    obtain ⟨m, hmm⟩ : ∃ m, m = r.length := ⟨_, rfl⟩
    obtain ⟨m1, hm1⟩ : ∃ m1, m1 = m + 1 := ⟨_, rfl⟩
    obtain ⟨O, hO⟩ : ∃ O, (b :: a :: r).reverse = O := ⟨_, rfl⟩
    have hO2 : O = r.reverse ++ [a] ++ [b] := by rw [← hO]; simp
    have hO3 : (a :: r).reverse = r.reverse ++ [a] := by simp
    obtain ⟨N, hN⟩ : ∃ N, O.length = N := ⟨_, rfl⟩
    have hNm : N = m + 2 := by rw [← hN, hO2, hmm]; simp
    have hOne : O ≠ [] := by rw [hO2]; simp
    have ha' : (O ++ z)[m]? = some a := by
      rw [hO2, hmm]; simp only [List.append_assoc]
      rw [List.getElem?_append_right (by simp), List.length_reverse, Nat.sub_self]; rfl
    have hb' : (O ++ z)[m1]? = some b := by
      rw [hO2, hm1, hmm]; simp only [List.append_assoc]
      rw [List.getElem?_append_right (by simp), List.length_reverse, show r.length + 1 - r.length = 1 by omega]; rfl
    have ca := cells_at ha'
    have cb := cells_at hb'
    obtain ⟨ds, hds⟩ : ∃ ds, spD (O ++ z) = ds := ⟨_, rfl⟩
    have hdsl : N * 2 ≤ ds.length := by rw [← hds, spD_len, List.length_append, hN]; omega
    rw [hds] at ca cb
    rw [hO, hdrV_ne hOne, outZ_ne hOne, hN, show cellsI (O ++ z) = ds.map V.d by rw [← hds]]
    have w2 : IntKind.wrap .i64 ((N : Int) - 2) = (m : Int) := by simp at hlen; rw [wrap64 (by omega) (by omega)]; omega
    have w3 : IntKind.wrap .i64 ((N : Int) - 1) = (m1 : Int) := by simp at hlen; rw [wrap64 (by omega) (by omega)]; omega
    have hlt : (1 : Int) < (N : Int) := by omega
    have hlt' : 1 < N := by omega
    have l1 : m < N := by omega
    have l2 : m1 < N := by omega
    have l3 : m * 2 + 2 ≤ ds.length := by omega
    have l4 : m1 * 2 + 2 ≤ ds.length := by omega
    have l5 : m1 ≤ N := by omega
    simp [p274l0, hlt, hp, inC, Nat.testBit, w2, w3, l1, l2, l3, l4, ca, cb]
    refine ACall.mk _ _ _ (fn304 a b p ba bb hpm) (by first | (simp; done) | simp [Bor_ls, Bor1_ls]) (by simp) (by first | (left; simp; done) | (right; simp; done)) ?_
    by_cases hc : cross a b p ≤ 0
    · simp [hc, w3, l5]
      refine ⟨a :: r, ⟨by rw [← hpop, popS_two, if_pos hc], by simp at hlen ⊢; omega, fun q1 q2 hq => hm (q1, q2) (List.mem_cons_of_mem _ hq)⟩, by simp, [b] ++ z, ?_⟩
      rw [hO3, hdrV_snoc, outZ_snoc, show cellsI (r.reverse ++ [a] ++ ([b] ++ z)) = ds.map V.d by rw [← hds, hO2]; simp]
      refine Weak.mk hE (lk [(0, 0)]) _ _ _ ?_ ?_ ?_ ?_ ?_ <;> simp
      omega
    · have hps : popS st0 p = b :: a :: r := by rw [← hpop, popS_two, if_neg hc]
      rw [hps, hO, hdrV_ne hOne, hN]
      simp [hc]
      refine ⟨z, ?_⟩
      rw [outZ_ne hOne, show cellsI (O ++ z) = ds.map V.d by rw [← hds]]
      refine Weak.mk hE (lk [(0, 0)]) _ _ _ ?_ ?_ ?_ ?_ ?_ <;> simp
end Go.Proofs.Tryz
namespace Go.Proofs.Tryz
open Go.Psl
open Go.Geo (cross chainR)
set_option maxHeartbeats 8000000 in
set_option maxRecDepth 20000 in
theorem chn_main (l : List (Int × Int)) (hl : l.length ≤ 100000) (hbd : ∀ q ∈ l, bd 536870912 q) : Ct prog 274 [.d (spansD l)] (hdrV (chainR l).reverse 0) (outZ (chainR l).reverse [] 0) := by
  refine Ct.by gok eok mixed func274 c274 rfl (by simp [ntmps274]) (by simp) ?_ fun E hE => ?_
  · rcases out_cases (chainR l).reverse with h | ⟨o, x, h⟩
    · rw [h]; simp [ResIds, outZ]
    · rw [h, outZ_snoc]; simp [ResIds]
  have hst0 : chainR (l.take 0) = [] := by simp [chainR]
  have hcl := fun i => chainR_len (l.take i)
  have hcm : ∀ i, ∀ q ∈ chainR (l.take i), bd 536870912 q := fun i q hq => hbd q (List.mem_of_mem_take (chainR_mem q hq))
  simp [p274]
  refine pw_loopC (α := Nat) 0 (fun _ : Unit => ⟨slots [(3, hdrV (chainR l).reverse 0)], lk (outZ (chainR l).reverse [] 0), 1⟩) (fun _ => True) (fun i => ⟨slots [(0, .d (spansD l)), (3, hdrV (chainR (l.take i)).reverse 0), (4, vi i)], lk (outZ (chainR (l.take i)).reverse [] 0), 1⟩) (fun i => i ≤ l.length) (fun i => l.length - i) 0 ?_ ?_ ?_ fun _ _ => ?_
  · simp
  · rw [hst0]
    refine Weak.mk hE (lk []) _ _ _ ?_ ?_ ?_ ?_ ?_ <;> simp [outZ]
  · intro i hi
    simp [p274l1]
    refine cR_split (fun h => ?_) (fun h => ?_)
    · simp at h
      obtain ⟨p, hp⟩ : ∃ p, l[i]? = some p := ⟨_, List.getElem?_eq_getElem h⟩
      have hpm := hbd p (List.mem_of_getElem? hp)
      have w1 : IntKind.wrap .i64 ((i : Int) + 1) = ((i + 1 : Nat) : Int) := by rw [wrap64 (by omega) (by omega)]; omega
      have hct := chain_take hp
      have hci := hcl i
      have hcmi := hcm i
      obtain ⟨st0, hst⟩ : ∃ st0, chainR (l.take i) = st0 := ⟨_, rfl⟩
      rw [hst] at hct hci hcmi ⊢
      have hl0 : st0.length ≤ 100000 := by simp at hci; omega
      simp
      refine pw_loopC (α := List (Int × Int) × List (Int × Int)) 2 (fun z : List (Int × Int) => ⟨slots [(0, .d (spansD l)), (3, hdrV (popS st0 p).reverse 0), (4, vi i)], lk (outZ (popS st0 p).reverse z 0), 1⟩) (fun _ => True) (fun x => ⟨slots [(0, .d (spansD l)), (3, hdrV x.1.reverse 0), (4, vi i)], lk (outZ x.1.reverse x.2 0), 1⟩) (fun x => popS x.1 p = popS st0 p ∧ x.1.length ≤ 100000 ∧ ∀ q ∈ x.1, bd 536870912 q) (fun x => x.1.length) (st0, []) ?_ ?_ ?_ fun zz _ => ?_
      · exact ⟨rfl, hl0, hcmi⟩
      · obtain e | ⟨b0, x0, e⟩ := out_cases st0.reverse <;> simp only [e]
        · refine Weak.mk hE (lk []) _ _ _ ?_ ?_ ?_ ?_ ?_ <;> simp [outZ]
        · rw [outZ_snoc]
          refine Weak.mk hE (lk [(0, 0)]) _ _ _ ?_ ?_ ?_ ?_ ?_ <;> simp
      · exact chn_pop l i p hp hpm st0 hE
      · have hpl := popS_len p st0
        obtain ⟨O, hO⟩ : ∃ O, (popS st0 p).reverse = O := ⟨_, rfl⟩
        have hOl : O.length ≤ 200000 := by rw [← hO]; simp; omega
        have hnx : (chainR (l.take (i + 1))).reverse = O ++ [p] := by rw [hct, ← hO]; simp
        rw [hO]
        have fin : cellsI (O ++ [p]) = (spD O).map V.d ++ [vi p.1, vi p.2] := spD_one p O
        obtain rfl | ⟨o, x, rfl⟩ := out_cases O
        · simp [hp, repl, splice, w1]
          refine ⟨i + 1, by omega, by omega, ?_⟩
          rw [hnx, hdrV_snoc, outZ_snoc, List.append_nil, fin]
          refine Weak.mk hE (lk [(0, 6291457)]) _ _ _ ?_ ?_ ?_ ?_ ?_ <;> simp
        · have htk := cells_take (o ++ [x]) zz
          have hdl3 := spD_len (o ++ [x] ++ zz)
          have hOne : o ++ [x] ≠ [] := by simp
          obtain ⟨N, hN⟩ : ∃ N, (o ++ [x]).length = N := ⟨_, rfl⟩
          have hdo := spD_len (o ++ [x])
          rw [List.length_append, hN] at hdl3
          rw [hN] at htk hOl hdo
          rw [hdrV_ne hOne, outZ_ne hOne, hN]
          have hcc : cellsI (o ++ [x] ++ zz) = List.map V.d (spD (o ++ [x] ++ zz)) := rfl
          rw [hcc]
          generalize spD (o ++ [x] ++ zz) = ds at htk hdl3 ⊢
          generalize spD (o ++ [x]) = eo at fin htk hdo
          have hfit : N * 2 ≤ ds.length ∧ (N + 1) * 16 ≤ 140737488355328 ∧ N + 1 ≤ 9223372036854775807 := by omega
          simp [hp, repl, splice, w1, hfit, htk]
          refine ⟨i + 1, by omega, by omega, ?_⟩
          rw [hnx, hdrV_snoc, outZ_snoc, List.append_nil, fin, hN]
          refine Weak.mk hE (lk [(0, 6291457)]) _ _ _ ?_ ?_ ?_ ?_ ?_ <;> simp
          rintro c (⟨a, _, rfl⟩ | rfl | rfl) <;> simp
    · simp at h
      have e : l.take i = l := List.take_of_length_le h
      rw [e]
      simp
      rcases out_cases (chainR l).reverse with h | ⟨o, x, h⟩
      · simp only [h]
        refine Weak.mk hE (lk []) _ _ _ ?_ ?_ ?_ ?_ ?_ <;> simp [outZ]
      · simp only [h]
        rw [outZ_snoc]
        refine Weak.mk hE (lk [(0, 0)]) _ _ _ ?_ ?_ ?_ ?_ ?_ <;> simp
  · rcases out_cases (chainR l).reverse with h | ⟨o, x, h⟩
    · simp only [h]
      simp
      refine RetOk.by (fun _ => none) ?_
      simp [results274]
    · simp only [h]
      rw [outZ_snoc]
      simp
      refine RetOk.by (lk [(0, 0)]) ?_
      simp [results274]
end Go.Proofs.Tryz
namespace Go.Proofs.Tryz
open Go.Psl
open Go.Geo (cross chainR)
theorem fz_outZ (out z : List (Int × Int)) : Fz1 (lk (outZ out z 0)) (hdrV out 0) (.d (spansD out)) := by
  by_cases h : out = []
  · subst h; exact Or.inr ⟨rfl, 2, rfl⟩
  · rw [hdrV_ne h, outZ_ne h]
    exact bor_cut (z := z) (by simp [lk])
theorem fz_one {P : Program} {f : FuncId} {args : List V} {out z : List (Int × Int)} (h : Ct P f args (hdrV out 0) (outZ out z 0)) : Ct P f args (.d (spansD out)) [] := by
  refine Cm.freeze h ?_
  have h1 := fz_outZ out z
  unfold Fz
  split
  · rename_i e _; rcases out_cases out with h2 | ⟨o, x, h2⟩ <;> rw [h2] at e <;> simp at e
  · exact h1
theorem fn274 (l : List (Int × Int)) (hl : l.length ≤ 100000) (hbd : ∀ q ∈ l, bd 536870912 q) : Ct prog 274 [.d (spansD l)] (.d (spansD (chainR l).reverse)) [] := fz_one (chn_main l hl hbd)
end Go.Proofs.Tryz
namespace Go.Proofs.Tryz
open Go.Psl
open Go.Geo (cross chainR hullS)
set_option maxHeartbeats 4000000 in
set_option maxRecDepth 20000 in
theorem hul_back (s : List (Int × Int)) (hl : s.length ≤ 100000) {E : Ent} (hE : ∀ i, ¬ E.stab i) {Q : AExit → St → Prop} : ∀ k : Nat, k ≤ s.length → PW prog tys eqs E p229l0
    (seqQ (fun st' => ∃ j, j ≤ s.length ∧ s.length - j < s.length - k ∧ Weak prog E st' ⟨slots [(3, .d (spansD s)), (4, hdrV (s.reverse.take j) 0), (5, vi ((s.length : Int) - 1 - j))], lk (outB (s.reverse.take j) 0), 1⟩)
      (exC prog E Q 0 (fun _ : Unit => ⟨slots [(3, .d (spansD s)), (4, hdrV s.reverse 0)], lk (outB s.reverse 0), 1⟩) (fun _ => True)))
    ⟨slots [(3, .d (spansD s)), (4, hdrV (s.reverse.take k) 0), (5, vi ((s.length : Int) - 1 - k))], lk (outB (s.reverse.take k) 0), 1⟩ := by
  intro k hk
  by_cases h : k < s.length
  · obtain ⟨e, he⟩ : ∃ e, e = s.length - 1 - k := ⟨_, rfl⟩
    have hee : (s.length : Int) - 1 - k = (e : Int) := by omega
    obtain ⟨p, hp⟩ : ∃ p, s[e]? = some p := ⟨_, List.getElem?_eq_getElem (by omega)⟩
    have hrp : s.reverse[k]? = some p := by rw [List.getElem?_reverse h, ← he]; exact hp
    have hnx : s.reverse.take (k + 1) = s.reverse.take k ++ [p] := by rw [List.take_add_one, hrp]; rfl
    have w1 : IntKind.wrap .i64 ((e : Int) - 1) = (s.length : Int) - 1 - ((k + 1 : Nat) : Int) := by rw [wrap64 (by omega) (by omega)]; omega
    have hol : (s.reverse.take k).length = k := by simp; omega
    rw [hee]
    obtain ⟨O, hO⟩ : ∃ O, s.reverse.take k = O := ⟨_, rfl⟩
    rw [hO] at hnx hol ⊢
    have fin : cellsI (O ++ [p]) = (spD O).map V.d ++ [vi p.1, vi p.2] := spD_one p O
    by_cases hne : O = []
    · subst hne
      simp [p229l0, hp, repl, splice, w1]
      refine ⟨k + 1, by omega, by omega, ?_⟩
      rw [hnx, hdrV_ne (by simp), outB_ne (by simp), fin]
      refine Weak.mk hE (lk [(0, 8388609)]) _ _ _ ?_ ?_ ?_ ?_ ?_ <;> simp
    · have hsl := spD_len O
      have htk : List.take (O.length * 2) (cellsI O) = cellsI O := List.take_of_length_le (by simp)
      have n1 : (O.length + 1) * 16 ≤ 140737488355328 := by omega
      have n2 : O.length + 1 ≤ 9223372036854775807 := by omega
      rw [hdrV_ne hne, outB_ne hne]
      simp [p229l0, hp, repl, splice, w1, hsl, htk, n1, n2]
      refine ⟨k + 1, by omega, by omega, ?_⟩
      rw [hnx, hdrV_ne (by simp), outB_ne (by simp), fin]
      refine Weak.mk hE (lk [(0, 8388609)]) _ _ _ ?_ ?_ ?_ ?_ ?_ <;> simp
      rintro c (⟨a, _, rfl⟩ | rfl | rfl) <;> simp
  · have e : k = s.length := by omega
    have hneg : (s.length : Int) - 1 - k = -1 := by omega
    have hrev : s.reverse.take k = s.reverse := List.take_of_length_le (by simp; omega)
    rw [hneg, hrev]
    rcases out_cases s.reverse with h | ⟨o, x, h⟩
    · simp only [h]
      simp [p229l0]
      refine Weak.mk hE (lk []) _ _ _ ?_ ?_ ?_ ?_ ?_ <;> simp
    · simp only [h]
      simp [p229l0]
      refine Weak.mk hE (lk [(0, 0)]) _ _ _ ?_ ?_ ?_ ?_ ?_ <;> simp
      rintro c (⟨a, _, rfl⟩ | rfl | rfl) <;> simp
end Go.Proofs.Tryz
namespace Go.Proofs.Tryz
open Go.Psl
open Go.Geo (cross chainR hullS)
set_option maxHeartbeats 4000000 in
set_option maxRecDepth 20000 in
theorem hul_short (l : List (Int × Int)) (hl : l.length ≤ 100000) (h3 : (ddC (sortC l)).length < 3) : Ct prog 229 [.d (spansD l)] (.d (spansD (hullP l))) [] := by
  have c1 := fn273 l hl
  have e : hullP l = ddC (sortC l) := by unfold hullP hullS; rw [if_pos h3]
  rw [e]
  generalize ddC (sortC l) = s at *
  have h3' : (s.length : Int) < 3 := by omega
  refine Ct.by gok eok mixed func229 c229 rfl (by simp [ntmps229]) (by simp) (by simp [ResIds]) fun E hE => ?_
  simp [p229]
  refine ACall.mk _ _ _ (c1) (by first | (simp; done) | simp [Bor_ls, Bor1_ls]) (by simp) (by first | (left; simp; done) | (right; simp; done)) ?_
  simp [h3']
  refine RetOk.by (fun _ => none) ?_
  simp [results229]
set_option maxHeartbeats 4000000 in
set_option maxRecDepth 20000 in
theorem hul_long (l : List (Int × Int)) (hl : l.length ≤ 100000) (hbd : ∀ q ∈ l, bd 536870912 q) (h3 : ¬ (ddC (sortC l)).length < 3) : Ct prog 229 [.d (spansD l)] (hdrV (hullP l) 0) (outZ (hullP l) [] 0) := by
  have c1 := fn273 l hl
  have e : hullP l = (chainR (ddC (sortC l))).tail.reverse ++ (chainR (ddC (sortC l)).reverse).tail.reverse := by unfold hullP hullS; rw [if_neg h3]
  have hsl : (ddC (sortC l)).length ≤ l.length := by
    have := dd_len (sortC l) (sortC l).length
    rw [List.take_length, sortC_len] at this; exact this
  have hsb : ∀ q ∈ ddC (sortC l), bd 536870912 q := fun q hq => hbd q (by rwa [ddC_mem, sortC_mem] at hq)
  obtain ⟨s, hs⟩ : ∃ s, ddC (sortC l) = s := ⟨_, rfl⟩
  have hso : Go.Geo.Sorted s := by rw [← hs]; exact sorted_dd l
  rw [hs] at c1 e h3 hsl hsb
  obtain ⟨f, g, lo, up, _, _, _, hlo, hup, _, hupl⟩ := Go.Geo.chains hso (by omega)
  obtain ⟨mid, hmid⟩ : ∃ mid, up.reverse = g :: mid := by
    have : up.reverse.head? = some g := by rw [List.head?_reverse]; exact hupl
    cases hr : up.reverse with
    | nil => rw [hr] at this; simp at this
    | cons a r => rw [hr] at this; simp at this; subst this; exact ⟨r, rfl⟩
  have e2 : hullP l = (chainR s).reverse ++ mid := by rw [e, hlo, hup]; simp [hmid]
  have e3 : (chainR s.reverse).reverse = g :: (mid ++ [f]) := by rw [hup, List.reverse_cons, hmid]; rfl
  have c2 := fn274 s (by omega) hsb
  have c3 := chn_main s.reverse (by simp; omega) (fun q hq => hsb q (List.mem_reverse.1 hq))
  rw [e3, hdrV_ne (by simp), outZ_ne (by simp), List.append_nil] at c3
  have h3' : ¬ (s.length : Int) < 3 := by omega
  have w1 : IntKind.wrap .i64 ((s.length : Int) - 1) = (s.length : Int) - 1 := wrap64 (by omega) (by omega)
  have hne : s.reverse ≠ [] := by intro h; rw [List.reverse_eq_nil_iff] at h; rw [h] at h3; simp at h3
  refine Ct.by gok eok mixed func229 c229 rfl (by simp [ntmps229]) (by simp) ?_ fun E hE => ?_
  · rw [e2, hlo, hdrV_ne (by simp), outZ_ne (by simp)]; simp [ResIds]
  simp [p229]
  refine ACall.mk _ _ _ (c1) (by first | (simp; done) | simp [Bor_ls, Bor1_ls]) (by simp) (by first | (left; simp; done) | (right; simp; done)) ?_
  simp [h3', w1]
  refine pw_loopC (α := Nat) 0 (fun _ : Unit => ⟨slots [(3, .d (spansD s)), (4, hdrV s.reverse 0)], lk (outB s.reverse 0), 1⟩) (fun _ => True) (fun j => ⟨slots [(3, .d (spansD s)), (4, hdrV (s.reverse.take j) 0), (5, vi ((s.length : Int) - 1 - j))], lk (outB (s.reverse.take j) 0), 1⟩) (fun j => j ≤ s.length) (fun j => s.length - j) 0 ?_ ?_ ?_ fun _ _ => ?_
  · simp
  · simp only [List.take_zero]
    refine Weak.mk hE (lk []) _ _ _ ?_ ?_ ?_ ?_ ?_ <;> simp
  · exact hul_back s (by omega) hE
  · rw [hdrV_ne hne, outB_ne hne]
    simp
    refine ACall.mk _ _ _ (c2) (by first | (simp; done) | simp [Bor_ls, Bor1_ls]) (by simp) (by first | (left; simp; done) | (right; simp; done)) ?_
    simp
    have hbor : ∀ H : Hp, H 0 = some (cellsI s.reverse) → Bor H (.ls 0 0 s.length 2) (.d (spansD s.reverse)) := fun H h => by
      have := bor_cut (H := H) (id := 0) (l := s.reverse) (z := []) (by rw [List.append_nil]; exact h)
      rwa [List.length_reverse] at this
    refine ACall.mk _ _ _ c3 (by refine ⟨hbor _ (by simp), trivial⟩) (by simp) (by right; simp; exact fun a h => spD_lit a h) ?_
    obtain ⟨LO, hLO⟩ : ∃ LO, (chainR s).reverse = LO := ⟨_, rfl⟩
    have hLOn : LO ≠ [] := by rw [← hLO, hlo]; simp
    have hcl := chainR_len s
    have hcu := chainR_len s.reverse
    rw [hLO] at e2 ⊢
    have hLOl : LO.length ≤ 100000 := by rw [← hLO]; simp; omega
    have hml : mid.length ≤ 100000 := by
      have : (g :: (mid ++ [f])).length = (chainR s.reverse).length := by rw [← e3]; simp
      simp at this hcu; omega
    have hfl : (List.map (List.map V.d ∘ fun s : Int × Int => [di s.1, di s.2]) LO).flatten = cellsI LO := by
      show _ = (spD LO).map V.d
      unfold spD
      rw [List.map_flatMap, List.flatMap_def]; rfl
    have hcell : ∀ x : V, x ∈ cellsI LO → x.isCell = true := fun x hx => by
      obtain ⟨y, _, rfl⟩ := List.mem_map.1 hx; rfl
    have n1 : LO.length * 16 ≤ 140737488355328 := by omega
    have n2 : LO.length ≤ 9223372036854775807 := by omega
    have w2 : IntKind.wrap .i64 ((mid.length : Int) + 1) = ((mid.length + 1 : Nat) : Int) := by rw [wrap64 (by omega) (by omega)]; omega
    have hcut : List.take (mid.length * 2) (List.drop 2 (List.map V.d (spD (g :: (mid ++ [f]))))) = cellsI mid := cells_take mid [f]
    have hcut2 : 2 + mid.length * 2 ≤ (mid.length + 1 + 1) * 2 := by omega
    have hcm : ∀ x : V, x ∈ cellsI mid → x.isCell = true := fun x hx => by
      obtain ⟨y, _, rfl⟩ := List.mem_map.1 hx; rfl
    have w4 : (1 : Int) ≤ (mid.length : Int) + 1 := by omega
    have w3 : (0 : Int) ≤ (mid.length : Int) + 1 ∧ (mid.length : Int) ≤ (mid.length : Int) + 1 := by omega
    have hfit : LO.length * 2 ≤ (cellsI LO).length ∧ (LO.length + mid.length) * 16 ≤ 140737488355328 ∧ LO.length + mid.length ≤ 9223372036854775807 := by simp; omega
    simp
    refine pw_drawW [(2, 6291457)] (by kernel_rfl) ?_
    simp [inC, Nat.testBit, repl, hfl, n1, n2, w2, w3, w4, hfit, hcut, hcut2]
    have hne2 : LO ++ mid ≠ [] := by simp [hLOn]
    have htk : List.take (LO.length * 2) (cellsI LO) = cellsI LO := List.take_of_length_le (by simp)
    have happ : cellsI LO ++ cellsI mid = cellsI (LO ++ mid) := by
      show (spD LO).map V.d ++ (spD mid).map V.d = (spD (LO ++ mid)).map V.d
      rw [← List.map_append]; unfold spD; rw [List.flatMap_append]
    rw [e2, hdrV_ne hne2, outZ_ne hne2, List.append_nil, List.length_append, htk, happ]
    refine RetOk.by (lk [(0, 14680065)]) ?_
    simp [results229]
theorem fn229 (l : List (Int × Int)) (hl : l.length ≤ 100000) (hbd : ∀ q ∈ l, bd 536870912 q) : Ct prog 229 [.d (spansD l)] (.d (spansD (hullP l))) [] := by
  by_cases h3 : (ddC (sortC l)).length < 3
  · exact hul_short l hl h3
  · exact fz_one (hul_long l hl hbd h3)
end Go.Proofs.Tryz
namespace Go.Proofs.Tryz
open Go.Psl
theorem okC_xy {p : Int × Int} : okC p = ((decide (-268435456 ≤ p.1) && decide (p.1 ≤ 268435456)) && (decide (-268435456 ≤ p.2) && decide (p.2 ≤ 268435456))) := by
  rw [Bool.eq_iff_iff, okC_iff]
  simp only [bd, Bool.and_eq_true, decide_eq_true_eq]
set_option maxRecDepth 20000 in
theorem fn227 (l : List (Int × Int)) (hl : l.length ≤ 1000000000) : Ct prog 227 [.d (spansD l)] (vb (nearC l)) [] := by
  refine Ct.by gok eok mixed func227 c227 rfl (by simp [ntmps227]) (by simp) (by simp [ResIds]) fun E hE => ?_
  simp [p227]
  refine pw_loop (α := Nat) (fun i => ⟨slots [(0, .d (spansD l)), (3, vi i)], lk [], 0⟩) (fun i => i ≤ l.length ∧ nearC (l.take i) = true) (fun i => l.length - i) 0 ?_ ?_ ?_
  · simp [nearC]
  · refine Weak.mk hE (lk []) _ _ _ ?_ ?_ ?_ ?_ ?_ <;> simp
  · rintro i ⟨hi, hg⟩
    have hz : IntKind.wrap .i64 ((i : Int) + 1) = ((i : Int) + 1) := wrap64 (by omega) (by omega)
    simp [p227l0]
    refine cR_split (fun h => ?_) (fun h => ?_)
    · simp at h
      have hil : i < l.length := by omega
      obtain ⟨p, hp⟩ : ∃ p, l[i]? = some p := ⟨l[i], by simp [hil]⟩
      obtain ⟨b1, hb1⟩ : ∃ b1, (decide (-268435456 ≤ p.1) && decide (p.1 ≤ 268435456)) = b1 := ⟨_, rfl⟩
      have hb := okC_xy (p := p)
      rw [hb1] at hb
      simp [hp]
      refine ACall.mk _ _ _ (fn226 p.1 (-268435456) 268435456) (by first | (simp; done) | simp [Bor_ls, Bor1_ls]) (by simp) (by first | (left; simp; done) | (right; simp; done)) ?_
      rw [hb1]
      cases b1
      · simp
        refine RetOk.by (fun _ => none) ?_
        simp [results227, nearC_false hp hb]
      · simp [hp]
        refine ACall.mk _ _ _ (fn226 p.2 (-268435456) 268435456) (by first | (simp; done) | simp [Bor_ls, Bor1_ls]) (by simp) (by first | (left; simp; done) | (right; simp; done)) ?_
        rw [Bool.true_and] at hb
        rw [← hb]
        cases hc : okC p
        · simp
          refine RetOk.by (fun _ => none) ?_
          simp [results227, nearC_false hp hc]
        · simp [hz]
          refine ⟨i + 1, ⟨by omega, by rw [nearC_take hp, hg, hc]; rfl⟩, by omega, ?_⟩
          refine Weak.mk hE (lk []) _ _ _ ?_ ?_ ?_ ?_ ?_ <;> simp
    · simp at h
      have hil : i = l.length := by omega
      subst hil
      rw [List.take_length] at hg
      simp
      refine RetOk.by (fun _ => none) ?_
      simp [results227, hg]
theorem regS_eq (r : List (Int × Int)) : regS r = ((decide ((1 : Int) ≤ r.length) && decide ((r.length : Int) ≤ 64)) && nearC r && decide (hullP r = r)) := by
  unfold regS
  rw [decide_eq_decide.2 (show 1 ≤ r.length ↔ (1 : Int) ≤ r.length by omega), decide_eq_decide.2 (show r.length ≤ 64 ↔ (r.length : Int) ≤ 64 by omega)]
set_option maxRecDepth 20000 in
theorem fn169 (r : List (Int × Int)) (hr : r.length ≤ 1000000000) : Ct prog 169 [.d (spansD r)] (vb (regS r)) [] := by
  refine Ct.by gok eok mixed func169 c169 rfl (by simp [ntmps169]) (by simp) (by simp [ResIds]) fun E hE => ?_
  have e := regS_eq r
  obtain ⟨b1, hb1⟩ : ∃ b1, (decide ((1 : Int) ≤ r.length) && decide ((r.length : Int) ≤ 64)) = b1 := ⟨_, rfl⟩
  rw [hb1] at e
  simp [p169]
  refine ACall.mk _ _ _ (fn226 (r.length : Int) 1 64) (by first | (simp; done) | simp [Bor_ls, Bor1_ls]) (by simp) (by first | (left; simp; done) | (right; simp; done)) ?_
  rw [hb1]
  cases b1
  · simp
    refine RetOk.by (fun _ => none) ?_
    simp [results169, e]
  · simp only [Bool.and_eq_true, decide_eq_true_eq] at hb1
    simp
    refine ACall.mk _ _ _ (fn227 r hr) (by first | (simp; done) | simp [Bor_ls, Bor1_ls]) (by simp) (by first | (left; simp; done) | (right; simp; done)) ?_
    cases hn : nearC r
    · rw [hn] at e
      simp
      refine RetOk.by (fun _ => none) ?_
      simp [results169, e]
    · rw [hn] at e
      have hpl := hullP_len r
      simp
      refine ACall.mk _ _ _ (fn229 r (by omega) (near_bd hn)) (by first | (simp; done) | simp [Bor_ls, Bor1_ls]) (by simp) (by first | (left; simp; done) | (right; simp; done)) ?_
      simp
      refine ACall.mk _ _ _ (fn228 (hullP r) r (by omega) hr) (by first | (simp; done) | simp [Bor_ls, Bor1_ls]) (by simp) (by first | (left; simp; done) | (right; simp; done)) ?_
      simp
      refine RetOk.by (fun _ => none) ?_
      simp [results169, e]
end Go.Proofs.Tryz
namespace Go.Proofs.Tryz
open Go.Psl
open Go.Air
set_option maxRecDepth 20000
set_option maxHeartbeats 8000000
theorem fn93 (r : Rig) (hr : r.reg.length ≤ 1000000000) : Ct prog 93 [rigV r] (vb (okRig r)) [] := by
  have c1 := fn169 r.reg hr
  have c2 := fn136 r.gl r.gh 0 120
  have c3 := fn137 r.tank 0 1000000000
  have c4 := fn137 r.rsv 0 1000000000
  have c5 := fn137 r.lo (-500) r.hi
  have c6 := fn137 r.hi (-500) 9000
  have e : okRig r = (regS r.reg && spB 0 120 r.gl r.gh && rgB 0 1000000000 [r.tank] && rgB 0 1000000000 [r.rsv] && rgB (-500) r.hi [r.lo] && rgB (-500) 9000 [r.hi]) := by
    unfold okRig
    rw [rgB_pair]
    have : spB (-500) 9000 r.lo r.hi = (rgB (-500) r.hi [r.lo] && rgB (-500) 9000 [r.hi]) := by
      rw [Bool.eq_iff_iff, spB_iff]; simp [rgB]; omega
    rw [this]
    cases regS r.reg <;> cases spB 0 120 r.gl r.gh <;> cases rgB 0 1000000000 [r.tank] <;> simp [Bool.and_assoc]
  rw [e]
  generalize regS r.reg = b1 at *
  generalize spB 0 120 r.gl r.gh = b2 at *
  generalize rgB 0 1000000000 [r.tank] = b3 at *
  generalize rgB 0 1000000000 [r.rsv] = b4 at *
  generalize rgB (-500) r.hi [r.lo] = b5 at *
  generalize rgB (-500) 9000 [r.hi] = b6 at *
  cases b1
  · refine Ct.by gok eok mixed func93 c93 rfl (by simp [ntmps93]) (by simp) (by simp [ResIds]) fun E hE => ?_
    simp [p93]
    repeat ((first | (refine ACall.mk _ _ _ (c1) ?_ ?_ ?_ ?_; (focus (simp; done)); (focus (simp; done)); (focus (first | (left; simp; done) | (right; simp; done)))) | (refine ACall.mk _ _ _ (c2) ?_ ?_ ?_ ?_; (focus (simp; done)); (focus (simp; done)); (focus (first | (left; simp; done) | (right; simp; done)))) | (refine ACall.mk _ _ _ (c3) ?_ ?_ ?_ ?_; (focus (simp; done)); (focus (simp; done)); (focus (first | (left; simp; done) | (right; simp; done)))) | (refine ACall.mk _ _ _ (c4) ?_ ?_ ?_ ?_; (focus (simp; done)); (focus (simp; done)); (focus (first | (left; simp; done) | (right; simp; done)))) | (refine ACall.mk _ _ _ (c5) ?_ ?_ ?_ ?_; (focus (simp; done)); (focus (simp; done)); (focus (first | (left; simp; done) | (right; simp; done)))) | (refine ACall.mk _ _ _ (c6) ?_ ?_ ?_ ?_; (focus (simp; done)); (focus (simp; done)); (focus (first | (left; simp; done) | (right; simp; done))))); simp)
    refine RetOk.by (fun _ => none) ?_
    simp [results93]
  cases b2
  · refine Ct.by gok eok mixed func93 c93 rfl (by simp [ntmps93]) (by simp) (by simp [ResIds]) fun E hE => ?_
    simp [p93]
    repeat ((first | (refine ACall.mk _ _ _ (c1) ?_ ?_ ?_ ?_; (focus (simp; done)); (focus (simp; done)); (focus (first | (left; simp; done) | (right; simp; done)))) | (refine ACall.mk _ _ _ (c2) ?_ ?_ ?_ ?_; (focus (simp; done)); (focus (simp; done)); (focus (first | (left; simp; done) | (right; simp; done)))) | (refine ACall.mk _ _ _ (c3) ?_ ?_ ?_ ?_; (focus (simp; done)); (focus (simp; done)); (focus (first | (left; simp; done) | (right; simp; done)))) | (refine ACall.mk _ _ _ (c4) ?_ ?_ ?_ ?_; (focus (simp; done)); (focus (simp; done)); (focus (first | (left; simp; done) | (right; simp; done)))) | (refine ACall.mk _ _ _ (c5) ?_ ?_ ?_ ?_; (focus (simp; done)); (focus (simp; done)); (focus (first | (left; simp; done) | (right; simp; done)))) | (refine ACall.mk _ _ _ (c6) ?_ ?_ ?_ ?_; (focus (simp; done)); (focus (simp; done)); (focus (first | (left; simp; done) | (right; simp; done))))); simp)
    refine RetOk.by (fun _ => none) ?_
    simp [results93]
  cases b3
  · refine Ct.by gok eok mixed func93 c93 rfl (by simp [ntmps93]) (by simp) (by simp [ResIds]) fun E hE => ?_
    simp [p93]
    repeat ((first | (refine ACall.mk _ _ _ (c1) ?_ ?_ ?_ ?_; (focus (simp; done)); (focus (simp; done)); (focus (first | (left; simp; done) | (right; simp; done)))) | (refine ACall.mk _ _ _ (c2) ?_ ?_ ?_ ?_; (focus (simp; done)); (focus (simp; done)); (focus (first | (left; simp; done) | (right; simp; done)))) | (refine ACall.mk _ _ _ (c3) ?_ ?_ ?_ ?_; (focus (simp; done)); (focus (simp; done)); (focus (first | (left; simp; done) | (right; simp; done)))) | (refine ACall.mk _ _ _ (c4) ?_ ?_ ?_ ?_; (focus (simp; done)); (focus (simp; done)); (focus (first | (left; simp; done) | (right; simp; done)))) | (refine ACall.mk _ _ _ (c5) ?_ ?_ ?_ ?_; (focus (simp; done)); (focus (simp; done)); (focus (first | (left; simp; done) | (right; simp; done)))) | (refine ACall.mk _ _ _ (c6) ?_ ?_ ?_ ?_; (focus (simp; done)); (focus (simp; done)); (focus (first | (left; simp; done) | (right; simp; done))))); simp)
    refine RetOk.by (fun _ => none) ?_
    simp [results93]
  cases b4
  · refine Ct.by gok eok mixed func93 c93 rfl (by simp [ntmps93]) (by simp) (by simp [ResIds]) fun E hE => ?_
    simp [p93]
    repeat ((first | (refine ACall.mk _ _ _ (c1) ?_ ?_ ?_ ?_; (focus (simp; done)); (focus (simp; done)); (focus (first | (left; simp; done) | (right; simp; done)))) | (refine ACall.mk _ _ _ (c2) ?_ ?_ ?_ ?_; (focus (simp; done)); (focus (simp; done)); (focus (first | (left; simp; done) | (right; simp; done)))) | (refine ACall.mk _ _ _ (c3) ?_ ?_ ?_ ?_; (focus (simp; done)); (focus (simp; done)); (focus (first | (left; simp; done) | (right; simp; done)))) | (refine ACall.mk _ _ _ (c4) ?_ ?_ ?_ ?_; (focus (simp; done)); (focus (simp; done)); (focus (first | (left; simp; done) | (right; simp; done)))) | (refine ACall.mk _ _ _ (c5) ?_ ?_ ?_ ?_; (focus (simp; done)); (focus (simp; done)); (focus (first | (left; simp; done) | (right; simp; done)))) | (refine ACall.mk _ _ _ (c6) ?_ ?_ ?_ ?_; (focus (simp; done)); (focus (simp; done)); (focus (first | (left; simp; done) | (right; simp; done))))); simp)
    refine RetOk.by (fun _ => none) ?_
    simp [results93]
  cases b5
  · refine Ct.by gok eok mixed func93 c93 rfl (by simp [ntmps93]) (by simp) (by simp [ResIds]) fun E hE => ?_
    simp [p93]
    repeat ((first | (refine ACall.mk _ _ _ (c1) ?_ ?_ ?_ ?_; (focus (simp; done)); (focus (simp; done)); (focus (first | (left; simp; done) | (right; simp; done)))) | (refine ACall.mk _ _ _ (c2) ?_ ?_ ?_ ?_; (focus (simp; done)); (focus (simp; done)); (focus (first | (left; simp; done) | (right; simp; done)))) | (refine ACall.mk _ _ _ (c3) ?_ ?_ ?_ ?_; (focus (simp; done)); (focus (simp; done)); (focus (first | (left; simp; done) | (right; simp; done)))) | (refine ACall.mk _ _ _ (c4) ?_ ?_ ?_ ?_; (focus (simp; done)); (focus (simp; done)); (focus (first | (left; simp; done) | (right; simp; done)))) | (refine ACall.mk _ _ _ (c5) ?_ ?_ ?_ ?_; (focus (simp; done)); (focus (simp; done)); (focus (first | (left; simp; done) | (right; simp; done)))) | (refine ACall.mk _ _ _ (c6) ?_ ?_ ?_ ?_; (focus (simp; done)); (focus (simp; done)); (focus (first | (left; simp; done) | (right; simp; done))))); simp)
    refine RetOk.by (fun _ => none) ?_
    simp [results93]
  cases b6
  · refine Ct.by gok eok mixed func93 c93 rfl (by simp [ntmps93]) (by simp) (by simp [ResIds]) fun E hE => ?_
    simp [p93]
    repeat ((first | (refine ACall.mk _ _ _ (c1) ?_ ?_ ?_ ?_; (focus (simp; done)); (focus (simp; done)); (focus (first | (left; simp; done) | (right; simp; done)))) | (refine ACall.mk _ _ _ (c2) ?_ ?_ ?_ ?_; (focus (simp; done)); (focus (simp; done)); (focus (first | (left; simp; done) | (right; simp; done)))) | (refine ACall.mk _ _ _ (c3) ?_ ?_ ?_ ?_; (focus (simp; done)); (focus (simp; done)); (focus (first | (left; simp; done) | (right; simp; done)))) | (refine ACall.mk _ _ _ (c4) ?_ ?_ ?_ ?_; (focus (simp; done)); (focus (simp; done)); (focus (first | (left; simp; done) | (right; simp; done)))) | (refine ACall.mk _ _ _ (c5) ?_ ?_ ?_ ?_; (focus (simp; done)); (focus (simp; done)); (focus (first | (left; simp; done) | (right; simp; done)))) | (refine ACall.mk _ _ _ (c6) ?_ ?_ ?_ ?_; (focus (simp; done)); (focus (simp; done)); (focus (first | (left; simp; done) | (right; simp; done))))); simp)
    refine RetOk.by (fun _ => none) ?_
    simp [results93]
  · refine Ct.by gok eok mixed func93 c93 rfl (by simp [ntmps93]) (by simp) (by simp [ResIds]) fun E hE => ?_
    simp [p93]
    repeat ((first | (refine ACall.mk _ _ _ (c1) ?_ ?_ ?_ ?_; (focus (simp; done)); (focus (simp; done)); (focus (first | (left; simp; done) | (right; simp; done)))) | (refine ACall.mk _ _ _ (c2) ?_ ?_ ?_ ?_; (focus (simp; done)); (focus (simp; done)); (focus (first | (left; simp; done) | (right; simp; done)))) | (refine ACall.mk _ _ _ (c3) ?_ ?_ ?_ ?_; (focus (simp; done)); (focus (simp; done)); (focus (first | (left; simp; done) | (right; simp; done)))) | (refine ACall.mk _ _ _ (c4) ?_ ?_ ?_ ?_; (focus (simp; done)); (focus (simp; done)); (focus (first | (left; simp; done) | (right; simp; done)))) | (refine ACall.mk _ _ _ (c5) ?_ ?_ ?_ ?_; (focus (simp; done)); (focus (simp; done)); (focus (first | (left; simp; done) | (right; simp; done)))) | (refine ACall.mk _ _ _ (c6) ?_ ?_ ?_ ?_; (focus (simp; done)); (focus (simp; done)); (focus (first | (left; simp; done) | (right; simp; done))))); simp)
    refine RetOk.by (fun _ => none) ?_
    simp [results93]
theorem fn35 (r : Rig) (hr : r.reg.length ≤ 1000000000) : Ct prog 35 [rigV r] (vi (if okRig r then 0 else 51)) [] := by
  have c1 := fn93 r hr
  generalize okRig r = b at *
  cases b
  · refine Ct.by gok eok mixed func35 c35 rfl (by simp [ntmps35]) (by simp) (by simp [ResIds]) fun E hE => ?_
    simp [p35]
    refine ACall.mk _ _ _ (c1) (by first | (simp; done) | simp [Bor_ls, Bor1_ls]) (by simp) (by first | (left; simp; done) | (right; simp; done)) ?_
    simp
    refine RetOk.by (fun _ => none) ?_
    simp [results35]
  · refine Ct.by gok eok mixed func35 c35 rfl (by simp [ntmps35]) (by simp) (by simp [ResIds]) fun E hE => ?_
    simp [p35]
    refine ACall.mk _ _ _ (c1) (by first | (simp; done) | simp [Bor_ls, Bor1_ls]) (by simp) (by first | (left; simp; done) | (right; simp; done)) ?_
    simp
    refine RetOk.by (fun _ => none) ?_
    simp [results35]
theorem fn84 (r : Rig) : Ct prog 84 [rigV r] (vb (decide (80 < r.reg.length))) [] := by
  have e : decide ((80 : Int) < r.reg.length) = decide (80 < r.reg.length) := decide_eq_decide.2 (by omega)
  refine Ct.by gok eok mixed func84 c84 rfl (by simp [ntmps84]) (by simp) (by simp [ResIds]) fun E hE => ?_
  simp [p84]
  refine RetOk.by (fun _ => none) ?_
  simp [results84, e]
theorem fn95 (l : Leg) (hl : l.acts.length ≤ 1000000000) : Ct prog 95 [legV l] (vb (okLeg l)) [] := by
  have c1 := fn137 l.m 1 600
  have c2 := fn136 l.axl l.axh (-1000) 1000
  have c3 := fn136 l.ayl l.ayh (-1000) 1000
  have c4 := fn136 l.ul l.uh (-300) 300
  have c5 := fn136 l.bl l.bh 0 1000000
  have c6 := fn137 l.dr 0 1000000000
  have e : okLeg l = (rgB 1 600 [l.m] && (spB (-1000) 1000 l.axl l.axh && spB (-1000) 1000 l.ayl l.ayh) && spB (-300) 300 l.ul l.uh && spB 0 1000000 l.bl l.bh && rgB 0 1000000000 [l.dr] && decide (l.acts.length ≤ 12) && l.acts.all okAct) := rfl
  rw [e]
  generalize rgB 1 600 [l.m] = b1 at *
  generalize spB (-1000) 1000 l.axl l.axh = b2 at *
  generalize spB (-1000) 1000 l.ayl l.ayh = b3 at *
  generalize spB (-300) 300 l.ul l.uh = b4 at *
  generalize spB 0 1000000 l.bl l.bh = b5 at *
  generalize rgB 0 1000000000 [l.dr] = b6 at *
  cases b1
  · refine Ct.by gok eok mixed func95 c95 rfl (by simp [ntmps95]) (by simp) (by simp [ResIds]) fun E hE => ?_
    simp [p95]
    repeat ((first | (refine ACall.mk _ _ _ (c1) ?_ ?_ ?_ ?_; (focus (simp; done)); (focus (simp; done)); (focus (first | (left; simp; done) | (right; simp; done)))) | (refine ACall.mk _ _ _ (c2) ?_ ?_ ?_ ?_; (focus (simp; done)); (focus (simp; done)); (focus (first | (left; simp; done) | (right; simp; done)))) | (refine ACall.mk _ _ _ (c3) ?_ ?_ ?_ ?_; (focus (simp; done)); (focus (simp; done)); (focus (first | (left; simp; done) | (right; simp; done)))) | (refine ACall.mk _ _ _ (c4) ?_ ?_ ?_ ?_; (focus (simp; done)); (focus (simp; done)); (focus (first | (left; simp; done) | (right; simp; done)))) | (refine ACall.mk _ _ _ (c5) ?_ ?_ ?_ ?_; (focus (simp; done)); (focus (simp; done)); (focus (first | (left; simp; done) | (right; simp; done)))) | (refine ACall.mk _ _ _ (c6) ?_ ?_ ?_ ?_; (focus (simp; done)); (focus (simp; done)); (focus (first | (left; simp; done) | (right; simp; done))))); simp)
    refine RetOk.by (fun _ => none) ?_
    simp [results95]
  cases b2
  · refine Ct.by gok eok mixed func95 c95 rfl (by simp [ntmps95]) (by simp) (by simp [ResIds]) fun E hE => ?_
    simp [p95]
    repeat ((first | (refine ACall.mk _ _ _ (c1) ?_ ?_ ?_ ?_; (focus (simp; done)); (focus (simp; done)); (focus (first | (left; simp; done) | (right; simp; done)))) | (refine ACall.mk _ _ _ (c2) ?_ ?_ ?_ ?_; (focus (simp; done)); (focus (simp; done)); (focus (first | (left; simp; done) | (right; simp; done)))) | (refine ACall.mk _ _ _ (c3) ?_ ?_ ?_ ?_; (focus (simp; done)); (focus (simp; done)); (focus (first | (left; simp; done) | (right; simp; done)))) | (refine ACall.mk _ _ _ (c4) ?_ ?_ ?_ ?_; (focus (simp; done)); (focus (simp; done)); (focus (first | (left; simp; done) | (right; simp; done)))) | (refine ACall.mk _ _ _ (c5) ?_ ?_ ?_ ?_; (focus (simp; done)); (focus (simp; done)); (focus (first | (left; simp; done) | (right; simp; done)))) | (refine ACall.mk _ _ _ (c6) ?_ ?_ ?_ ?_; (focus (simp; done)); (focus (simp; done)); (focus (first | (left; simp; done) | (right; simp; done))))); simp)
    refine RetOk.by (fun _ => none) ?_
    simp [results95]
  cases b3
  · refine Ct.by gok eok mixed func95 c95 rfl (by simp [ntmps95]) (by simp) (by simp [ResIds]) fun E hE => ?_
    simp [p95]
    repeat ((first | (refine ACall.mk _ _ _ (c1) ?_ ?_ ?_ ?_; (focus (simp; done)); (focus (simp; done)); (focus (first | (left; simp; done) | (right; simp; done)))) | (refine ACall.mk _ _ _ (c2) ?_ ?_ ?_ ?_; (focus (simp; done)); (focus (simp; done)); (focus (first | (left; simp; done) | (right; simp; done)))) | (refine ACall.mk _ _ _ (c3) ?_ ?_ ?_ ?_; (focus (simp; done)); (focus (simp; done)); (focus (first | (left; simp; done) | (right; simp; done)))) | (refine ACall.mk _ _ _ (c4) ?_ ?_ ?_ ?_; (focus (simp; done)); (focus (simp; done)); (focus (first | (left; simp; done) | (right; simp; done)))) | (refine ACall.mk _ _ _ (c5) ?_ ?_ ?_ ?_; (focus (simp; done)); (focus (simp; done)); (focus (first | (left; simp; done) | (right; simp; done)))) | (refine ACall.mk _ _ _ (c6) ?_ ?_ ?_ ?_; (focus (simp; done)); (focus (simp; done)); (focus (first | (left; simp; done) | (right; simp; done))))); simp)
    refine RetOk.by (fun _ => none) ?_
    simp [results95]
  cases b4
  · refine Ct.by gok eok mixed func95 c95 rfl (by simp [ntmps95]) (by simp) (by simp [ResIds]) fun E hE => ?_
    simp [p95]
    repeat ((first | (refine ACall.mk _ _ _ (c1) ?_ ?_ ?_ ?_; (focus (simp; done)); (focus (simp; done)); (focus (first | (left; simp; done) | (right; simp; done)))) | (refine ACall.mk _ _ _ (c2) ?_ ?_ ?_ ?_; (focus (simp; done)); (focus (simp; done)); (focus (first | (left; simp; done) | (right; simp; done)))) | (refine ACall.mk _ _ _ (c3) ?_ ?_ ?_ ?_; (focus (simp; done)); (focus (simp; done)); (focus (first | (left; simp; done) | (right; simp; done)))) | (refine ACall.mk _ _ _ (c4) ?_ ?_ ?_ ?_; (focus (simp; done)); (focus (simp; done)); (focus (first | (left; simp; done) | (right; simp; done)))) | (refine ACall.mk _ _ _ (c5) ?_ ?_ ?_ ?_; (focus (simp; done)); (focus (simp; done)); (focus (first | (left; simp; done) | (right; simp; done)))) | (refine ACall.mk _ _ _ (c6) ?_ ?_ ?_ ?_; (focus (simp; done)); (focus (simp; done)); (focus (first | (left; simp; done) | (right; simp; done))))); simp)
    refine RetOk.by (fun _ => none) ?_
    simp [results95]
  cases b5
  · refine Ct.by gok eok mixed func95 c95 rfl (by simp [ntmps95]) (by simp) (by simp [ResIds]) fun E hE => ?_
    simp [p95]
    repeat ((first | (refine ACall.mk _ _ _ (c1) ?_ ?_ ?_ ?_; (focus (simp; done)); (focus (simp; done)); (focus (first | (left; simp; done) | (right; simp; done)))) | (refine ACall.mk _ _ _ (c2) ?_ ?_ ?_ ?_; (focus (simp; done)); (focus (simp; done)); (focus (first | (left; simp; done) | (right; simp; done)))) | (refine ACall.mk _ _ _ (c3) ?_ ?_ ?_ ?_; (focus (simp; done)); (focus (simp; done)); (focus (first | (left; simp; done) | (right; simp; done)))) | (refine ACall.mk _ _ _ (c4) ?_ ?_ ?_ ?_; (focus (simp; done)); (focus (simp; done)); (focus (first | (left; simp; done) | (right; simp; done)))) | (refine ACall.mk _ _ _ (c5) ?_ ?_ ?_ ?_; (focus (simp; done)); (focus (simp; done)); (focus (first | (left; simp; done) | (right; simp; done)))) | (refine ACall.mk _ _ _ (c6) ?_ ?_ ?_ ?_; (focus (simp; done)); (focus (simp; done)); (focus (first | (left; simp; done) | (right; simp; done))))); simp)
    refine RetOk.by (fun _ => none) ?_
    simp [results95]
  cases b6
  · refine Ct.by gok eok mixed func95 c95 rfl (by simp [ntmps95]) (by simp) (by simp [ResIds]) fun E hE => ?_
    simp [p95]
    repeat ((first | (refine ACall.mk _ _ _ (c1) ?_ ?_ ?_ ?_; (focus (simp; done)); (focus (simp; done)); (focus (first | (left; simp; done) | (right; simp; done)))) | (refine ACall.mk _ _ _ (c2) ?_ ?_ ?_ ?_; (focus (simp; done)); (focus (simp; done)); (focus (first | (left; simp; done) | (right; simp; done)))) | (refine ACall.mk _ _ _ (c3) ?_ ?_ ?_ ?_; (focus (simp; done)); (focus (simp; done)); (focus (first | (left; simp; done) | (right; simp; done)))) | (refine ACall.mk _ _ _ (c4) ?_ ?_ ?_ ?_; (focus (simp; done)); (focus (simp; done)); (focus (first | (left; simp; done) | (right; simp; done)))) | (refine ACall.mk _ _ _ (c5) ?_ ?_ ?_ ?_; (focus (simp; done)); (focus (simp; done)); (focus (first | (left; simp; done) | (right; simp; done)))) | (refine ACall.mk _ _ _ (c6) ?_ ?_ ?_ ?_; (focus (simp; done)); (focus (simp; done)); (focus (first | (left; simp; done) | (right; simp; done))))); simp)
    refine RetOk.by (fun _ => none) ?_
    simp [results95]
  by_cases hm : l.acts.length ≤ 12
  case neg =>
    have hn : (12 : Int) < l.acts.length := by omega
    refine Ct.by gok eok mixed func95 c95 rfl (by simp [ntmps95]) (by simp) (by simp [ResIds]) fun E hE => ?_
    simp [p95]
    repeat ((first | (refine ACall.mk _ _ _ (c1) ?_ ?_ ?_ ?_; (focus (simp; done)); (focus (simp; done)); (focus (first | (left; simp; done) | (right; simp; done)))) | (refine ACall.mk _ _ _ (c2) ?_ ?_ ?_ ?_; (focus (simp; done)); (focus (simp; done)); (focus (first | (left; simp; done) | (right; simp; done)))) | (refine ACall.mk _ _ _ (c3) ?_ ?_ ?_ ?_; (focus (simp; done)); (focus (simp; done)); (focus (first | (left; simp; done) | (right; simp; done)))) | (refine ACall.mk _ _ _ (c4) ?_ ?_ ?_ ?_; (focus (simp; done)); (focus (simp; done)); (focus (first | (left; simp; done) | (right; simp; done)))) | (refine ACall.mk _ _ _ (c5) ?_ ?_ ?_ ?_; (focus (simp; done)); (focus (simp; done)); (focus (first | (left; simp; done) | (right; simp; done)))) | (refine ACall.mk _ _ _ (c6) ?_ ?_ ?_ ?_; (focus (simp; done)); (focus (simp; done)); (focus (first | (left; simp; done) | (right; simp; done))))); simp [hn])
    refine RetOk.by (fun _ => none) ?_
    simp [results95, hm]
  have hn : ¬ (12 : Int) < l.acts.length := by omega
  refine Ct.by gok eok mixed func95 c95 rfl (by simp [ntmps95]) (by simp) (by simp [ResIds]) fun E hE => ?_
  simp [p95]
  repeat ((first | (refine ACall.mk _ _ _ (c1) ?_ ?_ ?_ ?_; (focus (simp; done)); (focus (simp; done)); (focus (first | (left; simp; done) | (right; simp; done)))) | (refine ACall.mk _ _ _ (c2) ?_ ?_ ?_ ?_; (focus (simp; done)); (focus (simp; done)); (focus (first | (left; simp; done) | (right; simp; done)))) | (refine ACall.mk _ _ _ (c3) ?_ ?_ ?_ ?_; (focus (simp; done)); (focus (simp; done)); (focus (first | (left; simp; done) | (right; simp; done)))) | (refine ACall.mk _ _ _ (c4) ?_ ?_ ?_ ?_; (focus (simp; done)); (focus (simp; done)); (focus (first | (left; simp; done) | (right; simp; done)))) | (refine ACall.mk _ _ _ (c5) ?_ ?_ ?_ ?_; (focus (simp; done)); (focus (simp; done)); (focus (first | (left; simp; done) | (right; simp; done)))) | (refine ACall.mk _ _ _ (c6) ?_ ?_ ?_ ?_; (focus (simp; done)); (focus (simp; done)); (focus (first | (left; simp; done) | (right; simp; done))))); simp [hn])
  refine pw_loop (α := Nat) (fun i => ⟨slots [(1, .lp 0 0), (3, vi i)], lk [(0, (legL l).map .d)], 1⟩) (fun i => i ≤ l.acts.length ∧ ∀ j, j < i → (l.acts[j]?).all okAct = true) (fun i => l.acts.length - i) 0 ?_ ?_ ?_
  · exact ⟨by omega, fun j hj => by omega⟩
  · refine Weak.mk hE (lk [(0, 0)]) _ _ _ ?_ ?_ ?_ ?_ ?_ <;> simp
  · rintro i ⟨hi, hg⟩
    have hz : IntKind.wrap .i64 ((i : Int) + 1) = ((i + 1 : Nat) : Int) := by rw [wrap64 (by omega) (by omega)]; omega
    by_cases h : i < l.acts.length
    · have hI : (i : Int) < l.acts.length := by omega
      obtain ⟨a, hp⟩ : ∃ a, l.acts[i]? = some a := ⟨_, List.getElem?_eq_getElem h⟩
      by_cases hq : okAct a = true
      · have hnx : ∀ j, j < i + 1 → (l.acts[j]?).all okAct = true := fun j hj => by
          by_cases e : j = i
          · subst e; rw [hp]; simp [hq]
          · exact hg j (by omega)
        by_cases h3 : a.k = 3
        · simp [p95l0, hI, hp, h3, hz]
          refine ⟨i + 1, ⟨by omega, hnx⟩, by omega, ?_⟩
          refine Weak.mk hE (lk [(0, 0)]) _ _ _ ?_ ?_ ?_ ?_ ?_ <;> simp
        · have h4 : a.k = 4 := by unfold okAct at hq; simpa [h3] using hq
          simp [p95l0, hI, hp, h4, hz]
          refine ⟨i + 1, ⟨by omega, hnx⟩, by omega, ?_⟩
          refine Weak.mk hE (lk [(0, 0)]) _ _ _ ?_ ?_ ?_ ?_ ?_ <;> simp
      · have h3 : ¬ a.k = 3 := fun h => hq (by unfold okAct; simp [h])
        have h4 : ¬ a.k = 4 := fun h => hq (by unfold okAct; simp [h])
        have e : l.acts.all okAct = false := by rw [List.all_eq_false]; exact ⟨a, List.mem_of_getElem? hp, hq⟩
        simp [p95l0, hI, hp, h3, h4]
        refine RetOk.by (fun _ => none) ?_
        simp [results95, e]
    · have hI : ¬ (i : Int) < l.acts.length := by omega
      have e : l.acts.all okAct = true := by
        rw [List.all_eq_true]
        intro x hx
        obtain ⟨j, hj⟩ := List.getElem?_of_mem hx
        have := hg j (by have := (List.getElem?_eq_some_iff.1 hj).1; omega)
        rw [hj] at this; simpa using this
      simp [p95l0, hI]
      refine RetOk.by (fun _ => none) ?_
      simp [results95, e, hm]
theorem fn39 (l : List Leg) (h : l.length ≤ 1000000) (ha : ∀ x ∈ l, x.acts.length ≤ 1000000) : Ct prog 39 [.d (legsD l)] (vi (chkL l)) [] := by
  refine Ct.by gok eok mixed func39 c39 rfl (by simp [ntmps39]) (by simp) (by simp [ResIds]) fun E hE => ?_
  by_cases hm : 20 < l.length
  · have hm' : (20 : Int) < l.length := by omega
    have e : chkL l = 4 := by unfold chkL; rw [if_pos hm]
    simp [p39, hm']
    refine RetOk.by (fun _ => none) ?_
    simp [results39, e]
  have hm' : ¬ (20 : Int) < l.length := by omega
  simp [p39, hm']
  refine pw_loop (α := Nat) (fun i => ⟨slots [(0, .d (legsD l)), (3, vi (sumM (l.take i))), (4, vi i)], lk [], 0⟩) (fun i => i ≤ l.length ∧ ∀ j, j < i → (l[j]?).all okLeg = true) (fun i => l.length - i) 0 ?_ ?_ ?_
  · exact ⟨by omega, fun j hj => by omega⟩
  · refine Weak.mk hE (lk []) _ _ _ ?_ ?_ ?_ ?_ ?_ <;> simp [sumM]
  · rintro i ⟨hi, hg⟩
    have hz : IntKind.wrap .i64 ((i : Int) + 1) = ((i + 1 : Nat) : Int) := by rw [wrap64 (by omega) (by omega)]; omega
    have hok : ∀ x ∈ l.take i, okLeg x = true := fun x hx => by
      obtain ⟨j, hj⟩ := List.getElem?_of_mem hx
      have hji : j < i := by have := (List.getElem?_eq_some_iff.1 hj).1; simp at this; omega
      rw [List.getElem?_take, if_pos hji] at hj
      have := hg j hji
      rw [hj] at this; simpa using this
    have hs := sumM_bd hok
    rw [List.length_take, Nat.min_eq_left hi] at hs
    by_cases h : i < l.length
    · have hI : (i : Int) < l.length := by omega
      obtain ⟨p, hp⟩ : ∃ p, l[i]? = some p := ⟨_, List.getElem?_eq_getElem h⟩
      have hnx := sumM_take hp
      have c := fn95 p (by have := ha p (List.mem_of_getElem? hp); omega)
      cases hq : okLeg p
      · have e : chkL l = 53 := by
          have : l.all okLeg = false := by rw [List.all_eq_false]; exact ⟨p, List.mem_of_getElem? hp, by simp [hq]⟩
          unfold chkL; rw [if_neg hm, this]; simp
        rw [hq] at c
        simp [p39l0, hI, hp]
        refine ACall.mk _ _ _ (c) (by first | (simp; done) | simp [Bor_ls, Bor1_ls]) (by simp) (by first | (left; simp; done) | (right; simp; done)) ?_
        simp
        refine RetOk.by (fun _ => none) ?_
        simp [results39, e]
      · have hpm := okLeg_m hq
        have hw : IntKind.wrap .i64 (sumM (l.take i) + p.m) = sumM (l.take (i + 1)) := by rw [wrap64 (by omega) (by omega)]; omega
        rw [hq] at c
        simp [p39l0, hI, hp]
        refine ACall.mk _ _ _ (c) (by first | (simp; done) | simp [Bor_ls, Bor1_ls]) (by simp) (by first | (left; simp; done) | (right; simp; done)) ?_
        simp [hp, hw, hz]
        refine ⟨i + 1, ⟨by omega, fun j hj => ?_⟩, by omega, ?_⟩
        · by_cases e : j = i
          · subst e; rw [hp]; simp [hq]
          · exact hg j (by omega)
        · refine Weak.mk hE (lk []) _ _ _ ?_ ?_ ?_ ?_ ?_ <;> simp
    · have hI : ¬ (i : Int) < l.length := by omega
      have ei : i = l.length := by omega
      have hall : l.all okLeg = true := by
        rw [List.all_eq_true]
        intro x hx
        rw [ei, List.take_length] at hok
        exact hok x hx
      have ht : sumM (l.take i) = sumM l := by rw [ei, List.take_length]
      rw [ht]
      by_cases hb : 600 < sumM l
      · have e : chkL l = 4 := by unfold chkL; rw [if_neg hm, hall]; simp [hb]
        simp [p39l0, hI, hb]
        refine RetOk.by (fun _ => none) ?_
        simp [results39, e]
      · have e : chkL l = 0 := by unfold chkL; rw [if_neg hm, hall]; simp [hb]
        simp [p39l0, hI, hb]
        refine RetOk.by (fun _ => none) ?_
        simp [results39, e]
def cutM (x : Leg) : Int := min (max x.m 0) 1000
theorem cutM_bd (x : Leg) : 0 ≤ cutM x ∧ cutM x ≤ 1000 := by unfold cutM; omega
def cutL (l : List Leg) : Int := (l.map cutM).sum
theorem cutL_take {l : List Leg} {i : Nat} {x : Leg} (h : l[i]? = some x) : cutL (l.take (i + 1)) = cutL (l.take i) + cutM x := by
  unfold cutL; rw [List.take_add_one, h]; simp
theorem cutL_bd : ∀ l : List Leg, 0 ≤ cutL l ∧ cutL l ≤ l.length * 1000
  | [] => by simp [cutL]
  | c :: l => by
    have h1 := cutM_bd c
    have h2 := cutL_bd l
    unfold cutL at h2 ⊢
    simp only [List.map_cons, List.sum_cons, List.length_cons]
    omega
theorem grL_eq (l : List Leg) : grL l = (decide (30 < l.length) || l.any (fun x => decide (20 < x.acts.length)) || (decide (60 < cutL l) && decide (chkL l = 0))) := rfl
theorem fn85 (l : List Leg) : Ct prog 85 [.d (legsD l)] (vb (grL l)) [] := by
  refine Ct.by gok eok mixed func85 c85 rfl (by simp [ntmps85]) (by simp) (by simp [ResIds]) fun E hE => ?_
  by_cases hm : 30 < l.length
  · have hm' : (30 : Int) < l.length := by omega
    have e : grL l = true := by rw [grL_eq, decide_eq_true hm]; rfl
    simp [p85, hm']
    refine RetOk.by (fun _ => none) ?_
    simp [results85, e]
  have hm' : ¬ (30 : Int) < l.length := by omega
  simp [p85, hm']
  refine pw_loop (α := Nat) (fun i => ⟨slots [(0, .d (legsD l)), (3, vi (cutL (l.take i))), (4, vi i)], lk [], 0⟩) (fun i => i ≤ l.length ∧ ∀ j, j < i → (l[j]?).all (fun x => decide (x.acts.length ≤ 20)) = true) (fun i => l.length - i) 0 ?_ ?_ ?_
  · exact ⟨by omega, fun j hj => by omega⟩
  · refine Weak.mk hE (lk []) _ _ _ ?_ ?_ ?_ ?_ ?_ <;> simp [cutL]
  · rintro i ⟨hi, hg⟩
    have hz : IntKind.wrap .i64 ((i : Int) + 1) = ((i + 1 : Nat) : Int) := by rw [wrap64 (by omega) (by omega)]; omega
    have hs := cutL_bd (l.take i)
    rw [List.length_take, Nat.min_eq_left hi] at hs
    by_cases h : i < l.length
    · have hI : (i : Int) < l.length := by omega
      obtain ⟨p, hp⟩ : ∃ p, l[i]? = some p := ⟨_, List.getElem?_eq_getElem h⟩
      have hnx := cutL_take hp
      have hb := cutM_bd p
      by_cases hq : 20 < p.acts.length
      · have hq' : (20 : Int) < p.acts.length := by omega
        have e : grL l = true := by
          have : l.any (fun x => decide (20 < x.acts.length)) = true := by rw [List.any_eq_true]; exact ⟨p, List.mem_of_getElem? hp, by simpa using hq⟩
          rw [grL_eq, this]; simp
        simp [p85l0, hI, hp, hq']
        refine RetOk.by (fun _ => none) ?_
        simp [results85, e]
      · have hq' : ¬ (20 : Int) < p.acts.length := by omega
        have hw : IntKind.wrap .i64 (cutL (l.take i) + min (max p.m 0) 1000) = cutL (l.take (i + 1)) := by
          have e : min (max p.m 0) 1000 = cutM p := rfl
          rw [e, wrap64 (by omega) (by omega)]; omega
        simp [p85l0, hI, hp, hq', hw, hz]
        refine ⟨i + 1, ⟨by omega, fun j hj => ?_⟩, by omega, ?_⟩
        · by_cases e : j = i
          · subst e; rw [hp]; simp; omega
          · exact hg j (by omega)
        · refine Weak.mk hE (lk []) _ _ _ ?_ ?_ ?_ ?_ ?_ <;> simp
    · have hI : ¬ (i : Int) < l.length := by omega
      have ei : i = l.length := by omega
      have hall : l.any (fun x => decide (20 < x.acts.length)) = false := by
        rw [List.any_eq_false]
        intro x hx
        obtain ⟨j, hj⟩ := List.getElem?_of_mem hx
        have := hg j (by have := (List.getElem?_eq_some_iff.1 hj).1; omega)
        rw [hj] at this; simp at this; simp; omega
      have ha : ∀ x ∈ l, x.acts.length ≤ 1000000 := fun x hx => by
        have := List.any_eq_false.1 hall x hx
        simp at this; omega
      have ht : cutL (l.take i) = cutL l := by rw [ei, List.take_length]
      rw [ht]
      have e : grL l = (decide (60 < cutL l) && decide (chkL l = 0)) := by rw [grL_eq, hall, decide_eq_false hm]; rfl
      by_cases hb : 60 < cutL l
      · simp [p85l0, hI, hb]
        refine ACall.mk _ _ _ (fn39 l (by omega) ha) (by first | (simp; done) | simp [Bor_ls, Bor1_ls]) (by simp) (by first | (left; simp; done) | (right; simp; done)) ?_
        simp
        refine RetOk.by (fun _ => none) ?_
        simp [results85, e, hb]
      · simp [p85l0, hI, hb]
        refine RetOk.by (fun _ => none) ?_
        simp [results85, e, hb]
end Go.Proofs.Tryz
namespace Go.Proofs.Tryz
open Go.Psl
open Go.Air
set_option maxRecDepth 20000
set_option maxHeartbeats 8000000
theorem fn142 (l : List Lev) (lo hi : Int) (hl : l.length ≤ 1000000) (h0 : l ≠ []) (hlh : lo ≤ hi) : Ct prog 142 [.d (levsD l), vi lo, vi hi] (vsp (tmS (knT l) lo hi).1 (tmS (knT l) lo hi).2) [] := by
  have ev : tmS (knT l) lo hi = (valS (knT l) (lo, hi)).1 := by unfold tmS; rw [show min lo hi = lo by omega, show max lo hi = hi by omega]
  have c := fn214 (knT l) (lo, hi) (by rw [knT_len]; omega)
  have ekl : (knT l).length = l.length := knT_len
  have bk : ∀ H : Hp, H 1 = some (fcel knL (knT l)) → Bor H (.ls 1 0 l.length 3) (.d (knotsD (knT l))) := fun H hh => by
    have := bor_fcel (f := knL) hfk (l := knT l) hh
    rw [ekl] at this; exact this
  rw [ev]
  refine Ct.by gok eok mixed func142 c142 rfl (by simp [ntmps142]) (by simp) (by simp [ResIds]) fun E hE => ?_
  simp [p142]
  refine pw_loop (α := Nat) (fun i => ⟨slots [(0, .d (levsD l)), (1, vi lo), (2, vi hi), (6, .lp 0 0), (7, hdF 3 (accT l i) 1), (8, vi i)], lk ([(0, [vi 0, vi 0])] ++ ouF knL (accT l i) 1), 2⟩) (fun i => i ≤ l.length) (fun i => l.length - i) 0 ?_ ?_ ?_
  · omega
  · rw [show accT l 0 = [] from rfl, hdF_nil, ouF_nil]
    refine Weak.mk hE (lk [(0, 0)]) _ _ _ ?_ ?_ ?_ ?_ ?_ <;> simp
  · intro i hi
    by_cases h : i < l.length
    · obtain ⟨x, hx⟩ : ∃ x, l[i]? = some x := ⟨_, List.getElem?_eq_getElem h⟩
      have hz : IntKind.wrap .i64 ((i : Int) + 1) = ((i + 1 : Nat) : Int) := by rw [wrap64 (by omega) (by omega)]; omega
      have hI : (i : Int) < l.length := by omega
      have hnx := accT_next hx
      have hO : (accT l i).length ≤ 1000000 := by unfold accT; simp; omega
      obtain ⟨O, hOe⟩ : ∃ O, accT l i = O := ⟨_, rfl⟩
      rw [hOe] at hnx hO ⊢
      by_cases hne : O = []
      · subst hne
        rw [hdF_nil, ouF_nil]
        simp [p142l0, hI, hx, splice, repl, hz]
        refine ⟨i + 1, by omega, by omega, ?_⟩
        rw [hnx, hdF_ne (by simp), ouF_ne (by simp)]
        refine Weak.mk hE (lk [(0, 0), (1, 17825794)]) _ _ _ ?_ ?_ ?_ ?_ ?_ <;> simp [fcel, knOf]
      · have hsl := fcel_len hfk O
        have hwh := fcel_whole hfk O
        have n1 : (O.length + 1) * 24 ≤ 140737488355328 := by omega
        have n2 : O.length + 1 ≤ 9223372036854775807 := by omega
        rw [hdF_ne hne, ouF_ne hne]
        simp [p142l0, hI, hx, splice, repl, hz, hsl, hwh, n1, n2]
        refine ⟨i + 1, by omega, by omega, ?_⟩
        rw [hnx, hdF_ne (by simp), ouF_ne (by simp), fcel_one]
        refine Weak.mk hE (lk [(0, 0), (1, 17825794)]) _ _ _ ?_ ?_ ?_ ?_ ?_ <;> simp [knOf]
    · have e : i = l.length := by omega
      have hn : ¬ (i : Int) < l.length := by omega
      have ek : accT l i = knT l := by unfold accT knT; rw [e, List.take_length]
      have ene : knT l ≠ [] := by unfold knT; simpa using h0
      rw [ek, hdF_ne ene, ouF_ne ene, ekl]
      simp [p142l0, hn, splice]
      refine ACall.mk _ _ _ (c) (by simp [bk]) (by simp) (by first | (left; simp; done) | (right; simp; done)) ?_
      simp [splice]
      refine RetOk.by (fun _ => none) ?_
      simp [results142]
def goodL (l : List Lev) (i : Nat) : Bool := match l[i]? with
  | some x => stepB l i && spB 1000 12000 x.pl x.ph && spB 1500 3500 x.tl x.th
  | none => true
theorem snd_no {l : List Lev} {i : Nat} (hi : i < l.length) (h : goodL l i = false) : okSnd l = false := by
  obtain ⟨x, hx⟩ : ∃ x, l[i]? = some x := ⟨_, List.getElem?_eq_getElem hi⟩
  unfold goodL at h
  rw [hx] at h
  simp only at h
  cases h1 : stepB l i
  · unfold okSnd; rw [climb_no hi h1]; rfl
  · rw [h1] at h
    have : l.all okLev = false := by
      rw [List.all_eq_false]
      exact ⟨x, List.mem_of_getElem? hx, by unfold okLev; rw [Bool.true_and] at h; rw [h]; simp⟩
    unfold okSnd; rw [this]; simp
theorem snd_all {l : List Lev} (hn : rgB 2 16 [(l.length : Int)] = true) (h : ∀ j, j < l.length → goodL l j = true) : okSnd l = true := by
  unfold okSnd
  rw [climb_all fun j hj => ?_, hn, Bool.true_and, List.all_eq_true]
  · intro x hx
    obtain ⟨j, hj⟩ := List.getElem?_of_mem hx
    have := h j (List.getElem?_eq_some_iff.1 hj).1
    unfold goodL at this
    rw [hj] at this
    simp only [Bool.and_eq_true] at this
    unfold okLev
    rw [this.1.2, this.2]; rfl
  · have := h j hj
    obtain ⟨x, hx⟩ : ∃ x, l[j]? = some x := ⟨_, List.getElem?_eq_getElem hj⟩
    unfold goodL at this
    rw [hx] at this
    simp only [Bool.and_eq_true] at this
    exact this.1.1
theorem fn139 (l : List Lev) (hl : l.length ≤ 1000000) : Ct prog 139 [.d (levsD l)] (vb (okSnd l)) [] := by
  have c1 := fn207 (l.length : Int) 2 16
  cases hn : rgB 2 16 [(l.length : Int)]
  · rw [hn] at c1
    have hbad : okSnd l = false := by unfold okSnd climbB; simp [hn]
    refine Ct.by gok eok mixed func139 c139 rfl (by simp [ntmps139]) (by simp) (by simp [ResIds]) fun E hE => ?_
    simp [p139]
    refine ACall.mk _ _ _ (c1) (by first | (simp; done) | simp [Bor_ls, Bor1_ls]) (by simp) (by first | (left; simp; done) | (right; simp; done)) ?_
    simp
    refine RetOk.by (fun _ => none) ?_
    simp [results139, hbad]
  rw [hn] at c1
  refine Ct.by gok eok mixed func139 c139 rfl (by simp [ntmps139]) (by simp) (by simp [ResIds]) fun E hE => ?_
  simp [p139]
  refine ACall.mk _ _ _ (c1) (by first | (simp; done) | simp [Bor_ls, Bor1_ls]) (by simp) (by first | (left; simp; done) | (right; simp; done)) ?_
  simp
  refine pw_loop (α := Nat) (fun i => ⟨slots [(0, .d (levsD l)), (3, vi i)], lk [], 0⟩) (fun i => i ≤ l.length ∧ ∀ j, j < i → goodL l j = true) (fun i => l.length - i) 0 ?_ ?_ ?_
  · exact ⟨by omega, fun j hj => by omega⟩
  · refine Weak.mk hE (lk []) _ _ _ ?_ ?_ ?_ ?_ ?_ <;> simp
  · rintro i ⟨hi, hg⟩
    by_cases h : i < l.length
    · obtain ⟨x, hx⟩ : ∃ x, l[i]? = some x := ⟨_, List.getElem?_eq_getElem h⟩
      have hz : IntKind.wrap .i64 ((i : Int) + 1) = ((i + 1 : Nat) : Int) := by rw [wrap64 (by omega) (by omega)]; omega
      have hI : (i : Int) < l.length := by omega
      have c2 := fn207 x.h (-500) 9000
      have c3 := fn208 x.pl x.ph 1000 12000
      have c4 := fn208 x.tl x.th 1500 3500
      have eg : goodL l i = (stepB l i && spB 1000 12000 x.pl x.ph && spB 1500 3500 x.tl x.th) := by unfold goodL; rw [hx]
      have fin : goodL l i = true → ∀ j, j < i + 1 → goodL l j = true := fun he j hj => by
        by_cases e : j = i
        · rw [e]; exact he
        · exact hg j (by omega)
      generalize spB 1000 12000 x.pl x.ph = b3 at *
      generalize spB 1500 3500 x.tl x.th = b4 at *
      cases hb1 : rgB (-500) 9000 [x.h]
      · rw [hb1] at c2
        have es : stepB l i = false := by unfold stepB; rw [hx]; simp [hb1]
        have hbad := snd_no h (by rw [eg, es]; rfl)
        simp [p139l0, hI, hx, splice, inC, Nat.testBit]
        refine ACall.mk _ _ _ (c2) (by first | (simp; done) | simp [Bor_ls, Bor1_ls]) (by simp) (by first | (left; simp; done) | (right; simp; done)) ?_
        simp
        refine RetOk.by (fun _ => none) ?_
        simp [results139, hbad]
      · rw [hb1] at c2
        by_cases h0 : i = 0
        · have es : stepB l i = true := by unfold stepB; rw [hx]; simp [hb1, h0]
          rw [es] at eg
          have hI0 : ¬ 0 < i := by omega
          have c6 := c2
          cases b3
          · have hbad := snd_no h (by rw [eg]; rfl)
            simp [p139l0, hI, hx, splice, inC, Nat.testBit]
            repeat ((first | (refine ACall.mk _ _ _ (c2) ?_ ?_ ?_ ?_; (focus (simp; done)); (focus (simp; done)); (focus (first | (left; simp; done) | (right; simp; done)))) | (refine ACall.mk _ _ _ (c6) ?_ ?_ ?_ ?_; (focus (simp; done)); (focus (simp; done)); (focus (first | (left; simp; done) | (right; simp; done))))); simp [hI0])
            refine ACall.mk _ _ _ (c3) (by first | (simp; done) | simp [Bor_ls, Bor1_ls]) (by simp) (by first | (left; simp; done) | (right; simp; done)) ?_
            simp
            refine RetOk.by (fun _ => none) ?_
            simp [results139, hbad]
          · simp [p139l0, hI, hx, splice, inC, Nat.testBit]
            repeat ((first | (refine ACall.mk _ _ _ (c2) ?_ ?_ ?_ ?_; (focus (simp; done)); (focus (simp; done)); (focus (first | (left; simp; done) | (right; simp; done)))) | (refine ACall.mk _ _ _ (c6) ?_ ?_ ?_ ?_; (focus (simp; done)); (focus (simp; done)); (focus (first | (left; simp; done) | (right; simp; done))))); simp [hI0])
            refine ACall.mk _ _ _ (c3) (by first | (simp; done) | simp [Bor_ls, Bor1_ls]) (by simp) (by first | (left; simp; done) | (right; simp; done)) ?_
            simp
            refine ACall.mk _ _ _ (c4) (by first | (simp; done) | simp [Bor_ls, Bor1_ls]) (by simp) (by first | (left; simp; done) | (right; simp; done)) ?_
            cases b4
            · have hbad := snd_no h (by rw [eg]; rfl)
              simp
              refine RetOk.by (fun _ => none) ?_
              simp [results139, hbad]
            · have hok := fin (by rw [eg]; rfl)
              simp [hz]
              refine ⟨i + 1, ⟨by omega, hok⟩, by omega, ?_⟩
              refine Weak.mk hE (lk []) _ _ _ ?_ ?_ ?_ ?_ ?_ <;> simp
        · obtain ⟨y, hy⟩ : ∃ y, l[i - 1]? = some y := ⟨_, List.getElem?_eq_getElem (by omega)⟩
          have hw : IntKind.wrap .i64 ((i : Int) - 1) = ((i - 1 : Nat) : Int) := by rw [wrap64 (by omega) (by omega)]; omega
          have hI0 : 0 < i := by omega
          have hxb : -500 ≤ x.h ∧ x.h ≤ 9000 := by simp [rgB] at hb1; omega
          have hyb : -500 ≤ y.h ∧ y.h ≤ 9000 := by
            have := hg (i - 1) (by omega)
            unfold goodL stepB at this
            rw [hy] at this
            simp [rgB] at this
            omega
          have hwd : IntKind.wrap .i64 (x.h - y.h) = x.h - y.h := wrap64 (by omega) (by omega)
          have c6 := fn207 (x.h - y.h) 1 2000
          have es : stepB l i = rgB 1 2000 [x.h - y.h] := by unfold stepB; rw [hx]; simp [hb1, h0, hy]
          cases h2 : rgB 1 2000 [x.h - y.h]
          · rw [h2] at c6
            have hbad := snd_no h (by rw [eg, es, h2]; rfl)
            simp [p139l0, hI, hx, splice, inC, Nat.testBit]
            refine ACall.mk _ _ _ (c2) (by first | (simp; done) | simp [Bor_ls, Bor1_ls]) (by simp) (by first | (left; simp; done) | (right; simp; done)) ?_
            simp [hI0, hw, hy, hwd, inC, Nat.testBit]
            refine ACall.mk _ _ _ (c6) (by first | (simp; done) | simp [Bor_ls, Bor1_ls]) (by simp) (by first | (left; simp; done) | (right; simp; done)) ?_
            simp
            refine RetOk.by (fun _ => none) ?_
            simp [results139, hbad]
          · rw [h2] at c6 es
            rw [es] at eg
            cases b3
            · have hbad := snd_no h (by rw [eg]; rfl)
              simp [p139l0, hI, hx, splice, inC, Nat.testBit]
              repeat ((first | (refine ACall.mk _ _ _ (c2) ?_ ?_ ?_ ?_; (focus (simp; done)); (focus (simp; done)); (focus (first | (left; simp; done) | (right; simp; done)))) | (refine ACall.mk _ _ _ (c6) ?_ ?_ ?_ ?_; (focus (simp; done)); (focus (simp; done)); (focus (first | (left; simp; done) | (right; simp; done))))); simp [inC, Nat.testBit, hI0, hw, hy, hwd])
              refine ACall.mk _ _ _ (c3) (by first | (simp; done) | simp [Bor_ls, Bor1_ls]) (by simp) (by first | (left; simp; done) | (right; simp; done)) ?_
              simp
              refine RetOk.by (fun _ => none) ?_
              simp [results139, hbad]
            · simp [p139l0, hI, hx, splice, inC, Nat.testBit]
              repeat ((first | (refine ACall.mk _ _ _ (c2) ?_ ?_ ?_ ?_; (focus (simp; done)); (focus (simp; done)); (focus (first | (left; simp; done) | (right; simp; done)))) | (refine ACall.mk _ _ _ (c6) ?_ ?_ ?_ ?_; (focus (simp; done)); (focus (simp; done)); (focus (first | (left; simp; done) | (right; simp; done))))); simp [inC, Nat.testBit, hI0, hw, hy, hwd])
              refine ACall.mk _ _ _ (c3) (by first | (simp; done) | simp [Bor_ls, Bor1_ls]) (by simp) (by first | (left; simp; done) | (right; simp; done)) ?_
              simp
              refine ACall.mk _ _ _ (c4) (by first | (simp; done) | simp [Bor_ls, Bor1_ls]) (by simp) (by first | (left; simp; done) | (right; simp; done)) ?_
              cases b4
              · have hbad := snd_no h (by rw [eg]; rfl)
                simp
                refine RetOk.by (fun _ => none) ?_
                simp [results139, hbad]
              · have hok := fin (by rw [eg]; rfl)
                simp [hz]
                refine ⟨i + 1, ⟨by omega, hok⟩, by omega, ?_⟩
                refine Weak.mk hE (lk []) _ _ _ ?_ ?_ ?_ ?_ ?_ <;> simp
    · have e : i = l.length := by omega
      have hnn : ¬ (i : Int) < l.length := by omega
      have hall := snd_all hn (by rw [← e]; exact hg)
      simp [p139l0, hnn]
      refine RetOk.by (fun _ => none) ?_
      simp [results139, hall]
end Go.Proofs.Tryz
namespace Go.Proofs.Tryz
open Go.Psl
open Go.Air
set_option maxRecDepth 20000
set_option maxHeartbeats 8000000
structure WrkB (S : List Lev) : Prop where
  len : 2 ≤ S.length ∧ S.length ≤ 16
  at' : ∀ x ∈ S, -500 ≤ x.h ∧ x.h ≤ 9000
  pr : ∀ x ∈ S, PrB x
  step : ∀ (i : Nat) (a b : Lev), S[i]? = some a → S[i + 1]? = some b → (0 < b.h - a.h ∧ b.h - a.h ≤ 2000) ∧ TmB (tmS (knT S)) a.h b.h
def btrS (S : List Lev) (i : Nat) (a : Lev) : Lev := gsB (tmS (knT S)) (gsA (tmS (knT S)) (if i = 0 then none else S[i - 1]?) a) a (S.drop (i + 1))
theorem fn206 (S : List Lev) (i : Nat) (a : Lev) (h : WrkB S) (ha : S[i]? = some a) : Ct prog 206 [.d (levsD S), vi i] (vsp (btrS S i a).pl (btrS S i a).ph) [] := by
  have hlen := h.len
  have hil := (List.getElem?_eq_some_iff.1 ha).1
  have hI : (i : Int) < S.length := by omega
  have hne : S ≠ [] := by intro e; rw [e] at hlen; simp at hlen
  obtain ⟨j, hj⟩ : ∃ j, j = i + 1 := ⟨_, rfl⟩
  have w1 : IntKind.wrap .i64 ((i : Int) + 1) = (j : Int) := by rw [wrap64 (by omega) (by omega)]; omega
  have hah := h.at' a (List.mem_of_getElem? ha)
  by_cases hi0 : 0 < i
  · have h0 : ¬ i = 0 := by omega
    obtain ⟨q, hq⟩ : ∃ q, S[i - 1]? = some q := ⟨_, List.getElem?_eq_getElem (by omega)⟩
    have hqs := h.step (i - 1) q a hq (by rw [show i - 1 + 1 = i by omega]; exact ha)
    have hqb := h.pr q (List.mem_of_getElem? hq)
    have hqh := h.at' q (List.mem_of_getElem? hq)
    have w0 : IntKind.wrap .i64 ((i : Int) - 1) = ((i - 1 : Nat) : Int) := by rw [wrap64 (by omega) (by omega)]; omega
    have wd : IntKind.wrap .i64 (a.h - q.h) = a.h - q.h := wrap64 (by omega) (by omega)
    have c1 := fn142 S q.h a.h (by omega) hne (by omega)
    have c2 := fn213 q.pl q.ph (a.h - q.h) (tmS (knT S) q.h a.h).1 (tmS (knT S) q.h a.h).2 hqb.l hqb.h hqs.1 hqs.2.p
    have c3 := fn261 a.pl a.ph (upLo (1000000 * (tmS (knT S) q.h a.h).1) (341632 * (a.h - q.h)) q.pl) (upHi (1000000 * (tmS (knT S) q.h a.h).2) (341632 * (a.h - q.h)) q.ph)
    have hA : gsA (tmS (knT S)) (if i = 0 then none else S[i - 1]?) a = mt a (cyu (tmS (knT S)) q a) := by rw [if_neg h0, hq]; rfl
    by_cases h1 : i + 1 < S.length
    · obtain ⟨b, hb⟩ : ∃ b, S[i + 1]? = some b := ⟨_, List.getElem?_eq_getElem (by omega)⟩
      have hbs := h.step i a b ha hb
      have hbb := h.pr b (List.mem_of_getElem? hb)
      have hbh := h.at' b (List.mem_of_getElem? hb)
      have wb : IntKind.wrap .i64 (b.h - a.h) = b.h - a.h := wrap64 (by omega) (by omega)
      have hdrop : ∃ r, S.drop (i + 1) = b :: r := ⟨_, by rw [List.drop_eq_getElem?_toList_append, hb]; rfl⟩
      obtain ⟨rr, hdrop⟩ := hdrop
      have hn1 : (j : Int) < S.length := by omega
      rw [← hj] at hb
      have c4 := fn142 S a.h b.h (by omega) hne (by omega)
      have c5 := fn262 b.pl b.ph (b.h - a.h) (tmS (knT S) a.h b.h).1 (tmS (knT S) a.h b.h).2 hbb.l hbb.h hbs.1 hbs.2.p
      have e : btrS S i a = mt (mt a (cyu (tmS (knT S)) q a)) (cyd (tmS (knT S)) a b) := by unfold btrS; rw [hA, hdrop]; rfl
      rw [e]
      have c6 := fn261 (max a.pl (upLo (1000000 * (tmS (knT S) q.h a.h).1) (341632 * (a.h - q.h)) q.pl)) (min a.ph (upHi (1000000 * (tmS (knT S) q.h a.h).2) (341632 * (a.h - q.h)) q.ph)) (dnLo (1000000 * (tmS (knT S) a.h b.h).2) (341632 * (b.h - a.h)) b.pl) (dnHi (1000000 * (tmS (knT S) a.h b.h).1) (341632 * (b.h - a.h)) b.ph)
      refine Ct.by gok eok mixed func206 c206 rfl (by simp [ntmps206]) (by simp) (by simp [ResIds]) fun E hE => ?_
      simp [p206, splice, ha, hi0, hq, w0, wd, inC, Nat.testBit]
      refine ACall.mk _ _ _ (c1) (by first | (simp; done) | simp [Bor_ls, Bor1_ls]) (by simp) (by first | (left; simp; done) | (right; simp; done)) ?_
      simp
      refine ACall.mk _ _ _ (c2) (by first | (simp; done) | simp [Bor_ls, Bor1_ls]) (by simp) (by first | (left; simp; done) | (right; simp; done)) ?_
      simp
      refine ACall.mk _ _ _ (c3) (by first | (simp; done) | simp [Bor_ls, Bor1_ls]) (by simp) (by first | (left; simp; done) | (right; simp; done)) ?_
      simp [splice, ha, hb, w1, wb, hn1, inC, Nat.testBit]
      refine ACall.mk _ _ _ (c4) (by first | (simp; done) | simp [Bor_ls, Bor1_ls]) (by simp) (by first | (left; simp; done) | (right; simp; done)) ?_
      simp
      refine ACall.mk _ _ _ (c5) (by first | (simp; done) | simp [Bor_ls, Bor1_ls]) (by simp) (by first | (left; simp; done) | (right; simp; done)) ?_
      simp
      refine ACall.mk _ _ _ (c6) (by first | (simp; done) | simp [Bor_ls, Bor1_ls]) (by simp) (by first | (left; simp; done) | (right; simp; done)) ?_
      simp [splice]
      refine RetOk.by (fun _ => none) ?_
      simp [results206, Air.mt, cyu, cyd, lc, lw, ls]
    · have hdrop : S.drop (i + 1) = [] := List.drop_eq_nil_of_le (by omega)
      have e : btrS S i a = mt a (cyu (tmS (knT S)) q a) := by unfold btrS; rw [hA, hdrop]; rfl
      rw [e]
      have hn1 : ¬ (j : Int) < S.length := by omega
      refine Ct.by gok eok mixed func206 c206 rfl (by simp [ntmps206]) (by simp) (by simp [ResIds]) fun E hE => ?_
      simp [p206, splice, ha, hi0, hq, w0, wd, inC, Nat.testBit]
      refine ACall.mk _ _ _ (c1) (by first | (simp; done) | simp [Bor_ls, Bor1_ls]) (by simp) (by first | (left; simp; done) | (right; simp; done)) ?_
      simp
      refine ACall.mk _ _ _ (c2) (by first | (simp; done) | simp [Bor_ls, Bor1_ls]) (by simp) (by first | (left; simp; done) | (right; simp; done)) ?_
      simp
      refine ACall.mk _ _ _ (c3) (by first | (simp; done) | simp [Bor_ls, Bor1_ls]) (by simp) (by first | (left; simp; done) | (right; simp; done)) ?_
      simp [splice, w1, hn1]
      refine RetOk.by (fun _ => none) ?_
      simp [results206, Air.mt, cyu, lc, lw, ls]
  · have h0 : i = 0 := by omega
    have hA : gsA (tmS (knT S)) (if i = 0 then none else S[i - 1]?) a = a := by rw [if_pos h0]; rfl
    have h1 : i + 1 < S.length := by omega
    obtain ⟨b, hb⟩ : ∃ b, S[i + 1]? = some b := ⟨_, List.getElem?_eq_getElem (by omega)⟩
    have hbs := h.step i a b ha hb
    have hbb := h.pr b (List.mem_of_getElem? hb)
    have hbh := h.at' b (List.mem_of_getElem? hb)
    have wb : IntKind.wrap .i64 (b.h - a.h) = b.h - a.h := wrap64 (by omega) (by omega)
    have hdrop : ∃ r, S.drop (i + 1) = b :: r := ⟨_, by rw [List.drop_eq_getElem?_toList_append, hb]; rfl⟩
    obtain ⟨rr, hdrop⟩ := hdrop
    have hn1 : (j : Int) < S.length := by omega
    rw [← hj] at hb
    have c4 := fn142 S a.h b.h (by omega) hne (by omega)
    have c5 := fn262 b.pl b.ph (b.h - a.h) (tmS (knT S) a.h b.h).1 (tmS (knT S) a.h b.h).2 hbb.l hbb.h hbs.1 hbs.2.p
    have e : btrS S i a = mt a (cyd (tmS (knT S)) a b) := by unfold btrS; rw [hA, hdrop]; rfl
    rw [e]
    have c6 := fn261 a.pl a.ph (dnLo (1000000 * (tmS (knT S) a.h b.h).2) (341632 * (b.h - a.h)) b.pl) (dnHi (1000000 * (tmS (knT S) a.h b.h).1) (341632 * (b.h - a.h)) b.ph)
    refine Ct.by gok eok mixed func206 c206 rfl (by simp [ntmps206]) (by simp) (by simp [ResIds]) fun E hE => ?_
    simp [p206, splice, ha, hi0, hb, w1, wb, hn1, inC, Nat.testBit]
    refine ACall.mk _ _ _ (c4) (by first | (simp; done) | simp [Bor_ls, Bor1_ls]) (by simp) (by first | (left; simp; done) | (right; simp; done)) ?_
    simp
    refine ACall.mk _ _ _ (c5) (by first | (simp; done) | simp [Bor_ls, Bor1_ls]) (by simp) (by first | (left; simp; done) | (right; simp; done)) ?_
    simp
    refine ACall.mk _ _ _ (c6) (by first | (simp; done) | simp [Bor_ls, Bor1_ls]) (by simp) (by first | (left; simp; done) | (right; simp; done)) ?_
    simp [splice]
    refine RetOk.by (fun _ => none) ?_
    simp [results206, Air.mt, cyd, lc, lw, ls]
end Go.Proofs.Tryz
namespace Go.Proofs.Tryz
open Go.Psl
open Go.Air
def gsK (T : Tm) : Nat → Option Lev → List Lev → List Lev
  | 0, _, l => l
  | i + 1, p, a :: r => gsB T (gsA T p a) a r :: gsK T i (some (gsB T (gsA T p a) a r)) r
  | _ + 1, _, [] => []
theorem gsK_all (T : Tm) : ∀ (i : Nat) (p : Option Lev) (l : List Lev), l.length ≤ i → gsK T i p l = gsP T p l
  | 0, p, [], _ => rfl
  | 0, p, _ :: _, h => by simp at h
  | i + 1, p, [], _ => rfl
  | i + 1, p, a :: r, h => by
    show gsB T (gsA T p a) a r :: gsK T i _ r = gsB T (gsA T p a) a r :: gsP T _ r
    rw [gsK_all T i _ r (by simpa using h)]
theorem gsK_le (T : Tm) : ∀ (i : Nat) (p : Option Lev) (l : List Lev), LeL l (gsK T i p l)
  | 0, _, l => LeL.refl l
  | _ + 1, _, [] => trivial
  | i + 1, p, a :: r => ⟨(gsA_le T p a).trans (gsB_le T _ a r), gsK_le T i _ r⟩
theorem gsK_part (T : Tm) : ∀ (i : Nat) (p : Option Lev) (l : List Lev), LeL (gsK T i p l) (gsP T p l)
  | 0, p, l => gs_le T l p
  | _ + 1, _, [] => trivial
  | i + 1, _, _ :: r => ⟨Le.refl _, gsK_part T i _ r⟩
theorem gsK_len (T : Tm) (i : Nat) (p : Option Lev) (l : List Lev) : (gsK T i p l).length = l.length := (gsK_le T i p l).len.symm
theorem gsK_here (T : Tm) : ∀ (i : Nat) (p : Option Lev) (l : List Lev) (j : Nat), i ≤ j → (gsK T i p l)[j]? = l[j]?
  | 0, p, l, j, _ => rfl
  | i + 1, p, [], j, _ => rfl
  | i + 1, p, a :: r, 0, h => by omega
  | i + 1, p, a :: r, j + 1, h => by
    show (gsK T i _ r)[j]? = r[j]?
    exact gsK_here T i _ r j (by omega)
theorem gsK_next (T : Tm) : ∀ (i : Nat) (p : Option Lev) (l : List Lev) (a : Lev), l[i]? = some a → gsK T (i + 1) p l = (gsK T i p l).set i (gsB T (gsA T (if i = 0 then p else (gsK T i p l)[i - 1]?) a) a ((gsK T i p l).drop (i + 1)))
  | _, p, [], a, h => by simp at h
  | 0, p, b :: r, a, h => by simp at h; subst h; rfl
  | i + 1, p, b :: r, a, h => by
    have h1 : gsK T (i + 1) p (b :: r) = gsB T (gsA T p b) b r :: gsK T i (some (gsB T (gsA T p b) b r)) r := rfl
    have h2 : gsK T (i + 1 + 1) p (b :: r) = gsB T (gsA T p b) b r :: gsK T (i + 1) (some (gsB T (gsA T p b) b r)) r := rfl
    have ih := gsK_next T i (some (gsB T (gsA T p b) b r)) r a (by simpa using h)
    rw [h2, h1, List.set_cons_succ, List.drop_succ_cons]
    have e0 : (if i + 1 = 0 then p else (gsB T (gsA T p b) b r :: gsK T i (some (gsB T (gsA T p b) b r)) r)[i + 1 - 1]?) = (if i = 0 then some (gsB T (gsA T p b) b r) else (gsK T i (some (gsB T (gsA T p b) b r)) r)[i - 1]?) := by
      cases i with
      | zero => rfl
      | succ j => rfl
    rw [e0, ← ih]
theorem gsK_knT {l m : List Lev} (h1 : LeL l m) (i : Nat) : knT (gsK (tmS (knT l)) i none m) = knT l := (le_knT (LeL.trans h1 (gsK_le _ i none m))).symm
section
variable {l m : List Lev} (h : OkS l) (h1 : LeL l m) (h2 : LeL m (swp l))
include h h1 h2
theorem gsK_wrk (i : Nat) : WrkB (gsK (tmS (knT l)) i none m) := by
  have hp := gs_pass h.lks h.pos h1 h2
  have a1 : LeL l (gsK (tmS (knT l)) i none m) := LeL.trans h1 (gsK_le _ i none m)
  have a2 : LeL (gsK (tmS (knT l)) i none m) (swp l) := LeL.trans (gsK_part _ i none m) hp.2.1
  have hlen := a1.len
  have key : ∀ (j : Nat) (y : Lev), (gsK (tmS (knT l)) i none m)[j]? = some y → ∃ x, l[j]? = some x ∧ Le x y := fun j y hy => lel_get a1 j y hy
  have upper : ∀ (j : Nat) (y : Lev), (gsK (tmS (knT l)) i none m)[j]? = some y → ∃ z, z ∈ swp l ∧ Le y z := fun j y hy => by
    obtain ⟨z, hz⟩ : ∃ z, (swp l)[j]? = some z := ⟨_, List.getElem?_eq_getElem (by have := (List.getElem?_eq_some_iff.1 hy).1; have := a2.len; omega)⟩
    obtain ⟨y', hy', q⟩ := lel_get a2 j z hz
    rw [hy] at hy'; cases hy'
    exact ⟨z, List.mem_of_getElem? hz, q⟩
  refine ⟨by rw [← hlen]; exact h.len, fun y hy => ?_, fun y hy => ?_, fun j a b ha hb => ?_⟩
  · obtain ⟨j, hj⟩ := List.getElem?_of_mem hy
    obtain ⟨x, hx, q⟩ := key j y hj
    have := h.at' x (List.mem_of_getElem? hx); have := q.s.1; omega
  · obtain ⟨j, hj⟩ := List.getElem?_of_mem hy
    obtain ⟨x, hx, q⟩ := key j y hj
    obtain ⟨z, hz, q'⟩ := upper j y hj
    have b1 := h.lev x (List.mem_of_getElem? hx)
    have b2 := swp_pb h z hz
    have c1 := q.lo; have c2 := q.hi; have c3 := q'.lo; have c4 := q'.hi
    have d1 := b2.1; have d2 := b2.2
    exact ⟨by omega, by omega⟩
  · obtain ⟨x, hx, q⟩ := key j a ha
    obtain ⟨y, hy, q'⟩ := key (j + 1) b hb
    have hs := h.step j x y hx hy
    have ht := tm_bd h (h.inS hx) (h.inS hy)
    have e1 := q.s.1; have e2 := q'.s.1
    rw [← le_knT a1]
    rw [e1, e2] at ht
    exact ⟨by omega, ht⟩
end
theorem gsK_btr {l m : List Lev} (h1 : LeL l m) (i : Nat) (a : Lev) (ha : m[i]? = some a) : gsK (tmS (knT l)) (i + 1) none m = (gsK (tmS (knT l)) i none m).set i (btrS (gsK (tmS (knT l)) i none m) i a) := by
  unfold btrS
  rw [gsK_knT h1 i]
  exact gsK_next _ i none m a ha
end Go.Proofs.Tryz
namespace Go.Proofs.Tryz
open Go.Psl
open Go.Air
set_option maxRecDepth 20000
set_option maxHeartbeats 8000000
theorem splice2 (a b c d : V) : splice [a, b] 0 [c, d] = [c, d] := rfl
theorem btr_le (S : List Lev) (i : Nat) (a : Lev) : Le a (btrS S i a) := (gsA_le _ _ a).trans (gsB_le _ _ a _)
theorem flag_next {L m : List Lev} {i : Nat} {a b : Lev} (ha : L[i]? = some a) (hm : m[i]? = some a) (hb : Le a b) : L.set i b = m ↔ (L = m ∧ b.pl = a.pl ∧ b.ph = a.ph) := by
  constructor
  · intro e
    have h1 : (L.set i b)[i]? = some b := by
      rw [List.getElem?_set_self (List.getElem?_eq_some_iff.1 ha).1]
    rw [e, hm] at h1
    cases h1
    rw [set_same ha] at e
    exact ⟨e, rfl, rfl⟩
  · rintro ⟨rfl, h1, h2⟩
    have : b = a := by
      obtain ⟨⟨q1, q2, q3⟩, _, _⟩ := hb
      cases a; cases b
      simp only [Lev.mk.injEq] at *
      exact ⟨q1.symm, h1, h2, q2.symm, q3.symm⟩
    rw [this, set_same ha]
theorem refs_in (m : List Lev) (n : Nat) (S : Nat → List Lev) (hn : n ≤ 16) (hml : m.length = n) (hW : ∀ i, WrkB (S i)) (hlen : ∀ i, (S i).length = n) (hm : ∀ i a, m[i]? = some a → (S i)[i]? = some a) (hnx : ∀ i a, m[i]? = some a → S (i + 1) = (S i).set i (btrS (S i) i a)) {E : Ent} (hE : ∀ i, ¬ E.stab i) {Q : AExit → St → Prop} : ∀ i : Nat, i ≤ n → PW prog tys eqs E p134l0
    (seqQ (fun st' => ∃ j, j ≤ n ∧ n - j < n - i ∧ Weak prog E st' ⟨slots [(5, .ls 0 0 n 5), (6, vb (!decide (S j = m))), (7, vi j)], lk [(0, fcel levL (S j))], 1⟩)
      (exC prog E Q 2 (fun _ : Unit => ⟨slots [(5, .ls 0 0 n 5), (6, vb (!decide (S n = m)))], lk [(0, fcel levL (S n))], 1⟩) (fun _ => True)))
    ⟨slots [(5, .ls 0 0 n 5), (6, vb (!decide (S i = m))), (7, vi i)], lk [(0, fcel levL (S i))], 1⟩ := by
  intro i hi
  by_cases h : i < n
  · obtain ⟨a, ha⟩ : ∃ a, m[i]? = some a := ⟨_, List.getElem?_eq_getElem (by omega)⟩
    have hSa := hm i a ha
    have hN := hnx i a ha
    have hz : IntKind.wrap .i64 ((i : Int) + 1) = ((i + 1 : Nat) : Int) := by rw [wrap64 (by omega) (by omega)]; omega
    have hI : (i : Int) < n := by omega
    have c := fn206 (S i) i a (hW i) hSa
    have hble := btr_le (S i) i a
    have hfl := flag_next hSa ha hble
    rw [← hN] at hfl
    have hl2 := hlen i
    generalize hbe : btrS (S i) i a = b at *
    generalize hLe : S i = L at *
    have bL := bw_blk (b := 0) hl2
    have e2 : List.take 2 (List.drop (i * 5 + 1) (fcel levL L)) = [vi a.pl, vi a.ph] := fcel_sub Tryz.hfl hSa (by omega)
    have e3 : splice (fcel levL L) (i * 5 + 1) [vi b.pl, vi b.ph] = fcel levL (S (i + 1)) := by
      rw [hN]
      refine fcel_put Tryz.hfl (vs := [di b.pl, di b.ph]) hSa (by simp) ?_
      simp [levL, hble.s.1, hble.s.2.1, hble.s.2.2]
    have hsl := fcel_len Tryz.hfl L
    have f3 : i * 5 + 1 + 2 ≤ n * 5 := by omega
    rw [hl2] at hsl
    by_cases hc : L = m
    · have hd : decide (L = m) = true := decide_eq_true hc
      have hd2 : decide (S (i + 1) = m) = (decide (b.pl = a.pl) && decide (b.ph = a.ph)) := by
        rw [Bool.eq_iff_iff]; simp only [decide_eq_true_eq, Bool.and_eq_true]; rw [hfl]; simp [hc]
      rw [hd]
      simp [p134l0, hI]
      refine ACall.mk _ _ _ (c) (by simp [bL]) (by simp) (by first | (left; simp; done) | (right; simp; done)) ?_
      simp [splice2, e2, e3, hsl, f3, hI, hz, inC, Nat.testBit]
      refine ⟨i + 1, by omega, by omega, ?_⟩
      rw [hd2]
      refine Weak.mk hE (lk [(0, 0)]) _ _ _ ?_ ?_ ?_ ?_ ?_ <;> simp
    · have hd : decide (L = m) = false := decide_eq_false hc
      have hd2 : decide (S (i + 1) = m) = false := decide_eq_false fun h => hc (hfl.1 h).1
      rw [hd]
      simp [p134l0, hI]
      refine ACall.mk _ _ _ (c) (by simp [bL]) (by simp) (by first | (left; simp; done) | (right; simp; done)) ?_
      simp [splice2, e3, hsl, f3, hI, hz]
      refine ⟨i + 1, by omega, by omega, ?_⟩
      rw [hd2]
      refine Weak.mk hE (lk [(0, 0)]) _ _ _ ?_ ?_ ?_ ?_ ?_ <;> simp
  · have e : i = n := by omega
    subst e
    simp [p134l0]
    refine Weak.mk hE (lk [(0, 0)]) _ _ _ ?_ ?_ ?_ ?_ ?_ <;> simp
end Go.Proofs.Tryz
