/- Contracts: what each function of the program computes, for the arguments that its theorem names; and from there the given statement. Conditions: those that each theorem states. -/
import Derived.Test.YtaedloehfgmcnaaHa
import Derived.Test.YtaedloehfgmcnaaPc
import Derived.Test.YtaedloehfgmcnaaHw
import Derived.Test.YtaedloehfgmcnaaFr
namespace Go.Proofs.Try
open Go.Psl
theorem cross_bd {a b c : Int × Int} (ha : bd 536870912 a) (hb : bd 536870912 b) (hc : bd 536870912 c) : (-1152921504606846976 ≤ (b.1 - a.1) * (c.2 - a.2) ∧ (b.1 - a.1) * (c.2 - a.2) ≤ 1152921504606846976) ∧ (-1152921504606846976 ≤ (b.2 - a.2) * (c.1 - a.1) ∧ (b.2 - a.2) * (c.1 - a.1) ≤ 1152921504606846976) := by
  unfold bd at *
  have h1 := mul_abs (M := 1073741824) (N := 1073741824) (x := b.1 - a.1) (y := c.2 - a.2) (by omega) (by omega)
  have h2 := mul_abs (M := 1073741824) (N := 1073741824) (x := b.2 - a.2) (y := c.1 - a.1) (by omega) (by omega)
  omega
set_option maxRecDepth 20000 in
theorem fn136 (a b c : Int × Int) (ha : bd 536870912 a) (hb : bd 536870912 b) (hc : bd 536870912 c) : Ct prog 136 [vsp a.1 a.2, vsp b.1 b.2, vsp c.1 c.2] (vi (Go.Geo.cross a b c)) [] := by
  refine Ct.by gok eok mixed func136 c136 rfl (by simp [ntmps136]) (by simp) (by simp [ResIds]) fun E hE => ?_
  have h := cross_bd ha hb hc
  unfold bd at ha hb hc
  have w1 : IntKind.wrap .i64 (b.1 - a.1) = b.1 - a.1 := wrap64 (by omega) (by omega)
  have w2 : IntKind.wrap .i64 (c.2 - a.2) = c.2 - a.2 := wrap64 (by omega) (by omega)
  have w3 : IntKind.wrap .i64 (b.2 - a.2) = b.2 - a.2 := wrap64 (by omega) (by omega)
  have w4 : IntKind.wrap .i64 (c.1 - a.1) = c.1 - a.1 := wrap64 (by omega) (by omega)
  have w5 : IntKind.wrap .i64 ((b.1 - a.1) * (c.2 - a.2)) = (b.1 - a.1) * (c.2 - a.2) := wrap64 (by omega) (by omega)
  have w6 : IntKind.wrap .i64 ((b.2 - a.2) * (c.1 - a.1)) = (b.2 - a.2) * (c.1 - a.1) := wrap64 (by omega) (by omega)
  have w7 : IntKind.wrap .i64 ((b.1 - a.1) * (c.2 - a.2) - (b.2 - a.2) * (c.1 - a.1)) = (b.1 - a.1) * (c.2 - a.2) - (b.2 - a.2) * (c.1 - a.1) := wrap64 (by omega) (by omega)
  simp [p136, w1, w2, w3, w4, w5, w6, w7]
  refine RetOk.by (fun _ => none) ?_
  simp [results136, Go.Geo.cross]
def ltB (a b : Int × Int) : Bool := decide (a.1 < b.1) || (decide (a.1 = b.1) && decide (a.2 < b.2))
theorem ltB_iff {a b : Int × Int} : ltB a b = true ↔ Go.Geo.lt a b := by unfold ltB Go.Geo.lt; simp
set_option maxRecDepth 20000 in
theorem fn147 (a b : Int × Int) : Ct prog 147 [vsp a.1 a.2, vsp b.1 b.2] (vb (ltB a b)) [] := by
  rcases Int.lt_trichotomy a.1 b.1 with h | h | h
  · refine Ct.by gok eok mixed func147 c147 rfl (by simp [ntmps147]) (by simp) (by simp [ResIds]) fun E hE => ?_
    simp [p147, h]
    refine RetOk.by (fun _ => none) ?_
    simp [results147, ltB, h]
  · have h1 : ¬ a.1 < b.1 := by omega
    refine Ct.by gok eok mixed func147 c147 rfl (by simp [ntmps147]) (by simp) (by simp [ResIds]) fun E hE => ?_
    simp [p147, h]
    refine RetOk.by (fun _ => none) ?_
    simp [results147, ltB, h]
  · have h1 : ¬ a.1 < b.1 := by omega
    have h2 : ¬ a.1 = b.1 := by omega
    refine Ct.by gok eok mixed func147 c147 rfl (by simp [ntmps147]) (by simp) (by simp [ResIds]) fun E hE => ?_
    simp [p147, h1, h2]
    refine RetOk.by (fun _ => none) ?_
    simp [results147, ltB, h1, h2]
/-- a list that rises is what its elements make it -/
theorem sorted_unique {l m : List (Int × Int)} (hl : Go.Geo.Sorted l) (hm : Go.Geo.Sorted m) (h : ∀ x, x ∈ l ↔ x ∈ m) : l = m := by
  have hd1 : l.Nodup := hl.imp fun h e => by subst e; exact Go.Geo.lt_irr _ h
  have hd2 : m.Nodup := hm.imp fun h e => by subst e; exact Go.Geo.lt_irr _ h
  have hp : l.Perm m := (List.perm_ext_iff_of_nodup hd1 hd2).2 h
  exact hp.eq_of_pairwise (fun a b _ _ h1 h2 => absurd (Go.Geo.lt_trans h1 h2) (Go.Geo.lt_irr _)) hl hm
theorem sorted_eq {l m : List (Int × Int)} (hm : Go.Geo.Sorted m) (h : ∀ x, x ∈ m ↔ x ∈ l) : m = ddC (sortC l) :=
  sorted_unique hm (sorted_dd l) fun x => by rw [h, ddC_mem, sortC_mem]
end Go.Proofs.Try
namespace Go.Proofs.Try
open Go.Psl
theorem outB_ne {O : List (Int × Int)} (h : O ≠ []) (b : Nat) : outB O b = [(b, cellsI O)] := by
  unfold outB; cases O with
  | nil => exact absurd rfl h
  | cons a l => rfl
/-- what the place found for p divides -/
theorem split_at {out : List (Int × Int)} {p : Int × Int} {j : Nat} (hs : Go.Geo.Sorted out) (hj : j ≤ out.length) (h1 : ∀ m q, j ≤ m → out[m]? = some q → Go.Geo.lt p q) (h2 : ∀ q, 0 < j → out[j - 1]? = some q → ¬ Go.Geo.lt p q) :
    (∀ q, 0 < j → out[j - 1]? = some q → q ≠ p → Go.Geo.Sorted (out.take j ++ p :: out.drop j)) ∧ (j = 0 → Go.Geo.Sorted (p :: out)) := by
  have hd : ∀ y ∈ out.drop j, Go.Geo.lt p y := fun y hy => by
    obtain ⟨m, hm⟩ := List.getElem?_of_mem hy
    rw [List.getElem?_drop] at hm
    exact h1 _ y (by omega) hm
  constructor
  · intro q h0 hq hne
    have hqp : Go.Geo.lt q p := by
      rcases Go.Geo.lt_tri q p with h | h | h
      · exact h
      · exact absurd h hne
      · exact absurd h (h2 q h0 hq)
    have ht : ∀ x ∈ out.take j, Go.Geo.lt x p := fun x hx => by
      obtain ⟨m, hm⟩ := List.getElem?_of_mem hx
      rw [List.getElem?_take] at hm
      split at hm
      · rename_i hmj
        by_cases e : m = j - 1
        · rw [e] at hm; rw [hq] at hm; cases hm; exact hqp
        · have hmm := (List.getElem?_eq_some_iff.1 hm)
          have hqq := (List.getElem?_eq_some_iff.1 hq)
          have := List.pairwise_iff_getElem.1 hs m (j - 1) hmm.1 hqq.1 (by omega)
          rw [hmm.2, hqq.2] at this
          exact Go.Geo.lt_trans this hqp
      · cases hm
    refine List.pairwise_append.2 ⟨hs.sublist (List.take_sublist j out), ?_, fun x hx y hy => ?_⟩
    · exact List.pairwise_cons.2 ⟨hd, hs.sublist (List.drop_sublist j out)⟩
    · rcases List.mem_cons.1 hy with rfl | hy
      · exact ht x hx
      · exact Go.Geo.lt_trans (ht x hx) (hd y hy)
  · intro h0
    subst h0
    exact List.pairwise_cons.2 ⟨fun y hy => hd y (by simpa using hy), hs⟩
theorem mem_put {l out : List (Int × Int)} {i j : Nat} {p : Int × Int} (hp : l[i]? = some p) (hm : ∀ x, x ∈ out ↔ x ∈ l.take i) : ∀ x, x ∈ out.take j ++ p :: out.drop j ↔ x ∈ l.take (i + 1) := fun x => by
  rw [List.take_add_one, hp]
  simp only [List.mem_append, List.mem_cons, Option.toList_some, List.not_mem_nil, or_false]
  rw [← hm]
  have : x ∈ out ↔ x ∈ out.take j ∨ x ∈ out.drop j := by rw [← List.mem_append, List.take_append_drop]
  rw [this]
  constructor
  · rintro (h | h | h)
    · exact Or.inl (Or.inl h)
    · exact Or.inr h
    · exact Or.inl (Or.inr h)
  · rintro ((h | h) | h)
    · exact Or.inl h
    · exact Or.inr (Or.inr h)
    · exact Or.inr (Or.inl h)
theorem mem_keep {l out : List (Int × Int)} {i : Nat} {p : Int × Int} (hp : l[i]? = some p) (hm : ∀ x, x ∈ out ↔ x ∈ l.take i) (h : p ∈ out) : ∀ x, x ∈ out ↔ x ∈ l.take (i + 1) := fun x => by
  rw [List.take_add_one, hp]
  simp only [List.mem_append, Option.toList_some, List.mem_singleton]
  rw [← hm]
  constructor
  · exact Or.inl
  · rintro (h2 | rfl)
    · exact h2
    · exact h
end Go.Proofs.Try
namespace Go.Proofs.Try
open Go.Psl
def plcP (out : List (Int × Int)) (p : Int × Int) (k : Nat) : Prop := k ≤ out.length ∧ ∀ m q, k ≤ m → out[m]? = some q → Go.Geo.lt p q
def plcQ (out : List (Int × Int)) (p : Int × Int) (k : Nat) : Prop := plcP out p k ∧ ∀ q, 0 < k → out[k - 1]? = some q → ¬ Go.Geo.lt p q
set_option maxHeartbeats 4000000 in
set_option maxRecDepth 20000 in
/-- the place of a point -/
theorem srt_at (l out : List (Int × Int)) (i : Nat) (p : Int × Int) (hp : l[i]? = some p) (_ : l.length ≤ 100000) (_ : out ≠ []) (ho : out.length ≤ 100000) {E : Ent} (hE : ∀ i, ¬ E.stab i) {Q : AExit → St → Prop} : ∀ j : Nat, plcP out p j → PW prog tys eqs E p133l0
    (seqQ (fun st' => ∃ k, plcP out p k ∧ k < j ∧ Weak prog E st' ⟨slots [(0, .d (spansD l)), (3, .ls 0 0 out.length 2), (4, vi i), (5, vi k)], lk [(0, cellsI out)], 1⟩)
      (exC prog E Q 2 (fun k : Nat => ⟨slots [(0, .d (spansD l)), (3, .ls 0 0 out.length 2), (4, vi i), (5, vi k)], lk [(0, cellsI out)], 1⟩) (fun k => plcQ out p k)))
    ⟨slots [(0, .d (spansD l)), (3, .ls 0 0 out.length 2), (4, vi i), (5, vi j)], lk [(0, cellsI out)], 1⟩ := by
  intro j hjp
  obtain ⟨hj, hjq⟩ := hjp
  simp [p133l0]
  by_cases h0 : 0 < j
  · obtain ⟨q, hq⟩ : ∃ q, out[j - 1]? = some q := ⟨_, List.getElem?_eq_getElem (by omega)⟩
    have hw : IntKind.wrap .i64 ((j : Int) - 1) = ((j - 1 : Nat) : Int) := by rw [wrap64 (by omega) (by omega)]; omega
    have cq := cells_at hq
    have q1 : (j - 1) * 2 + 2 ≤ out.length * 2 := by omega
    have hjl : j - 1 < out.length := by omega
    have d1 := fn147 p q
    obtain ⟨B, hB⟩ : ∃ B, ltB p q = B := ⟨_, rfl⟩
    rw [hB] at d1
    simp [h0, hp, hw, cq, q1, hjl, inC, Nat.testBit]
    refine ACall.mk _ _ _ (d1) (by first | (simp; done) | simp [Bor_ls, Bor1_ls]) (by simp) (by first | (left; simp; done) | (right; simp; done)) ?_
    cases B
    · simp
      refine ⟨j, ⟨⟨hj, hjq⟩, fun q' _ hq' h => ?_⟩, ?_⟩
      · rw [hq] at hq'; cases hq'
        rw [ltB_iff.2 h] at hB; cases hB
      · refine Weak.mk hE (lk [(0, 0)]) _ _ _ ?_ ?_ ?_ ?_ ?_ <;> simp
    · simp [hw]
      refine ⟨j - 1, ⟨by omega, fun m q' hm hq' => ?_⟩, by omega, ?_⟩
      · by_cases e : m = j - 1
        · subst e; rw [hq] at hq'; cases hq'; exact ltB_iff.1 hB
        · exact hjq m q' (by omega) hq'
      · refine Weak.mk hE (lk [(0, 0)]) _ _ _ ?_ ?_ ?_ ?_ ?_ <;> simp
  · simp [h0]
    refine ⟨j, ⟨⟨hj, hjq⟩, fun q' h' => absurd h' h0⟩, ?_⟩
    refine Weak.mk hE (lk [(0, 0)]) _ _ _ ?_ ?_ ?_ ?_ ?_ <;> simp
end Go.Proofs.Try
namespace Go.Proofs.Try
open Go.Psl
theorem put_len (out : List (Int × Int)) (k : Nat) (g : Int × Int) (h : k ≤ out.length) : (out.take k ++ g :: out.drop k).length = out.length + 1 := by
  simp; omega
theorem put_set {out : List (Int × Int)} {k : Nat} {g : Int × Int} (q : Int × Int) (h : k ≤ out.length) : (out.take k ++ g :: out.drop k).set k q = out.take k ++ q :: out.drop k := by
  have e : (out.take k).length = k := by simp; omega
  rw [List.set_append_right _ _ (by omega), e, Nat.sub_self, List.set_cons_zero]
theorem put_back {out : List (Int × Int)} {k : Nat} {q : Int × Int} (hq : out[k]? = some q) : out.take (k + 1) ++ q :: out.drop (k + 1) = out.take k ++ q :: out.drop k := by
  rw [List.take_add_one, hq, List.drop_eq_getElem_cons (List.getElem?_eq_some_iff.1 hq).1, (List.getElem?_eq_some_iff.1 hq).2]
  simp
theorem put_get {out : List (Int × Int)} {k m : Nat} {g : Int × Int} (hm : m < k) : (out.take k ++ g :: out.drop k)[m]? = out[m]? ∨ out.length ≤ m := by
  by_cases h : m < out.length
  · left
    rw [List.getElem?_append_left (by simp; omega), List.getElem?_take, if_pos hm]
  · right; omega
set_option maxHeartbeats 4000000 in
set_option maxRecDepth 20000 in
theorem srt_shift (l out : List (Int × Int)) (i at' : Nat) (ho : out.length ≤ 100000) {E : Ent} (hE : ∀ i, ¬ E.stab i) {Q : AExit → St → Prop} : ∀ x : Nat × (Int × Int), (at' ≤ x.1 ∧ x.1 ≤ out.length) → PW prog tys eqs E p133l1
    (seqQ (fun st' => ∃ y : Nat × (Int × Int), (at' ≤ y.1 ∧ y.1 ≤ out.length) ∧ y.1 < x.1 ∧ Weak prog E st' ⟨slots [(0, .d (spansD l)), (3, .ls 0 0 (out.length + 1) 2), (4, vi i), (5, vi at'), (6, vi y.1)], lk [(0, cellsI (out.take y.1 ++ y.2 :: out.drop y.1))], 1⟩)
      (exC prog E Q 4 (fun g : Int × Int => ⟨slots [(0, .d (spansD l)), (3, .ls 0 0 (out.length + 1) 2), (4, vi i), (5, vi at')], lk [(0, cellsI (out.take at' ++ g :: out.drop at'))], 1⟩) (fun _ => at' ≤ out.length)))
    ⟨slots [(0, .d (spansD l)), (3, .ls 0 0 (out.length + 1) 2), (4, vi i), (5, vi at'), (6, vi x.1)], lk [(0, cellsI (out.take x.1 ++ x.2 :: out.drop x.1))], 1⟩ := by
  rintro ⟨k, g⟩ ⟨h1, h2⟩
  simp only at h1 h2 ⊢
  by_cases hk : at' < k
  · obtain ⟨j, rfl⟩ : ∃ j, k = j + 1 := ⟨k - 1, by omega⟩
    obtain ⟨q, hq⟩ : ∃ q, out[j]? = some q := ⟨_, List.getElem?_eq_getElem (by omega)⟩
    have hM : (out.take (j + 1) ++ g :: out.drop (j + 1))[j]? = some q := by
      rcases put_get (out := out) (g := g) (show j < j + 1 by omega) with h | h
      · rw [h]; exact hq
      · omega
    have hlen := put_len out (j + 1) g h2
    have hset := put_set (g := g) q h2
    rw [put_back hq] at hset
    obtain ⟨M, hMM⟩ : ∃ M, out.take (j + 1) ++ g :: out.drop (j + 1) = M := ⟨_, rfl⟩
    rw [hMM] at hM hlen hset ⊢
    have cq := cells_at hM
    have cs := cells_set (l := M) q (i := j + 1) (by omega)
    rw [hset] at cs
    obtain ⟨k, hkk⟩ : ∃ k, k = j + 1 := ⟨_, rfl⟩
    rw [← hkk] at cs ⊢
    have w1 : IntKind.wrap .i64 ((k : Int) - 1) = (j : Int) := by rw [wrap64 (by omega) (by omega)]; omega
    have hsl := spD_len M
    rw [hlen] at hsl
    have q1 : j * 2 + 2 ≤ (out.length + 1) * 2 := by omega
    have q2 : k * 2 + 2 ≤ (out.length + 1) * 2 := by omega
    have q3 : j < out.length + 1 := by omega
    have q4 : k < out.length + 1 := by omega
    have hak : at' < k := by omega
    have q3i : (j : Int) < (out.length : Int) + 1 := by omega
    have q4i : (k : Int) < (out.length : Int) + 1 := by omega
    simp [p133l1, hak, w1, cq, cs, hsl, q1, q2, q3i, q4i]
    refine ⟨j, ⟨by omega, by omega⟩, by omega, q.1, q.2, ?_⟩
    refine Weak.mk hE (lk [(0, 0)]) _ _ _ ?_ ?_ ?_ ?_ ?_ <;> simp
  · have e : k = at' := by omega
    subst e
    simp [p133l1]
    refine ⟨h2, g.1, g.2, ?_⟩
    refine Weak.mk hE (lk [(0, 0)]) _ _ _ ?_ ?_ ?_ ?_ ?_ <;> simp
end Go.Proofs.Try
namespace Go.Proofs.Try
open Go.Psl
def srtI (l : List (Int × Int)) (x : Nat × List (Int × Int)) : Prop := x.1 ≤ l.length ∧ x.2.length ≤ x.1 ∧ Go.Geo.Sorted x.2 ∧ ∀ q, q ∈ x.2 ↔ q ∈ l.take x.1
set_option maxHeartbeats 8000000 in
set_option maxRecDepth 20000 in
theorem srt_main (l : List (Int × Int)) (hl : l.length ≤ 100000) : Ct prog 133 [.d (spansD l)] (hdrV (ddC (sortC l)) 0) (outB (ddC (sortC l)) 0) := by
  refine Ct.by gok eok mixed func133 c133 rfl (by simp [ntmps133]) (by simp) ?_ fun E hE => ?_
  · rcases out_cases (ddC (sortC l)) with h | ⟨o, x, h⟩
    · rw [h]; simp [ResIds]
    · rw [h]; simp [ResIds]
      rintro c (⟨a, _, rfl⟩ | rfl | rfl) <;> simp
  simp [p133]
  refine pw_loopC (α := Nat × List (Int × Int)) 0 (fun _ : Unit => ⟨slots [(3, hdrV (ddC (sortC l)) 0)], lk (outB (ddC (sortC l)) 0), 1⟩) (fun _ => True) (fun x => ⟨slots [(0, .d (spansD l)), (3, hdrV x.2 0), (4, vi x.1)], lk (outB x.2 0), 1⟩) (srtI l) (fun x => l.length - x.1) (0, []) ?_ ?_ ?_ fun _ _ => ?_
  · exact ⟨by simp, by simp, List.Pairwise.nil, fun q => by simp⟩
  · refine Weak.mk hE (lk []) _ _ _ ?_ ?_ ?_ ?_ ?_ <;> simp
  · rintro ⟨i, out⟩ hI
    obtain ⟨h1, h2, h3, h4⟩ := hI
    simp only at h1 h2 h3 h4
    simp [p133l2]
    refine cR_split (fun h => ?_) (fun h => ?_)
    · simp at h
      obtain ⟨p, hp⟩ : ∃ p, l[i]? = some p := ⟨_, List.getElem?_eq_getElem h⟩
      have hz : IntKind.wrap .i64 ((i : Int) + 1) = ((i + 1 : Nat) : Int) := by rw [wrap64 (by omega) (by omega)]; omega
      by_cases hne : out = []
      · subst hne
        have wl : IntKind.wrap .i64 0 = 0 := by decide
        simp
        refine pw_loopC (α := Unit) 2 (fun _ : Unit => ⟨slots [(0, .d (spansD l)), (3, .d (.lit (.slice none 0 0))), (4, vi i), (5, vi 0)], lk [], 0⟩) (fun _ => True) (fun _ => ⟨slots [(0, .d (spansD l)), (3, .d (.lit (.slice none 0 0))), (4, vi i), (5, vi 0)], lk [], 0⟩) (fun _ => True) (fun _ => 0) () ?_ ?_ ?_ fun _ _ => ?_
        · trivial
        · refine Weak.mk hE (lk []) _ _ _ ?_ ?_ ?_ ?_ ?_ <;> simp
        · intro _ _
          simp [p133l0]
          refine Weak.mk hE (lk []) _ _ _ ?_ ?_ ?_ ?_ ?_ <;> simp
        · simp [splice, repl]
          refine pw_loopC (α := Nat × (Int × Int)) 4 (fun g : Int × Int => ⟨slots [(0, .d (spansD l)), (3, .ls 0 0 1 2), (4, vi i), (5, vi 0)], lk [(0, [vi g.1, vi g.2])], 1⟩) (fun _ => True) (fun _ => ⟨slots [(0, .d (spansD l)), (3, .ls 0 0 1 2), (4, vi i), (5, vi 0), (6, vi 0)], lk [(0, [vi 0, vi 0])], 1⟩) (fun _ => True) (fun x => x.1) (0, ((0 : Int), (0 : Int))) ?_ ?_ ?_ fun g _ => ?_
          · trivial
          · refine Weak.mk hE (lk [(0, 17825792)]) _ _ _ ?_ ?_ ?_ ?_ ?_ <;> simp [wl]
          · intro _ _
            simp [p133l1]
            refine ⟨0, 0, ?_⟩
            refine Weak.mk hE (lk [(0, 0)]) _ _ _ ?_ ?_ ?_ ?_ ?_ <;> simp
          · simp [hp, hz, splice]
            refine ⟨i + 1, [p], ⟨by simp only; omega, by simp only [List.length_singleton]; omega, List.pairwise_singleton _ _, mem_put (j := 0) hp h4⟩, by omega, ?_⟩
            rw [hdrV_ne (by simp), outB_ne (by simp), show cellsI [p] = [vi p.1, vi p.2] from rfl]
            refine Weak.mk hE (lk [(0, 0)]) _ _ _ ?_ ?_ ?_ ?_ ?_ <;> simp
      · rw [hdrV_ne hne, outB_ne hne]
        simp
        refine pw_loopC (α := Nat) 2 (fun k : Nat => ⟨slots [(0, .d (spansD l)), (3, .ls 0 0 out.length 2), (4, vi i), (5, vi k)], lk [(0, cellsI out)], 1⟩) (fun k => plcQ out p k) (fun k => ⟨slots [(0, .d (spansD l)), (3, .ls 0 0 out.length 2), (4, vi i), (5, vi k)], lk [(0, cellsI out)], 1⟩) (fun k => plcP out p k) (fun k => k) out.length ?_ ?_ ?_ fun j hj => ?_
        · exact ⟨Nat.le_refl _, fun m q hm hq => by have := (List.getElem?_eq_some_iff.1 hq).1; omega⟩
        · refine Weak.mk hE (lk [(0, 0)]) _ _ _ ?_ ?_ ?_ ?_ ?_ <;> simp
        · exact srt_at l out i p hp hl hne (by omega) hE
        · obtain ⟨⟨hj1, hj2⟩, hj3⟩ := hj
          by_cases h0 : 0 < j
          · obtain ⟨q, hq⟩ : ∃ q, out[j - 1]? = some q := ⟨_, List.getElem?_eq_getElem (by omega)⟩
            have hw : IntKind.wrap .i64 ((j : Int) - 1) = ((j - 1 : Nat) : Int) := by rw [wrap64 (by omega) (by omega)]; omega
            have cq := cells_at hq
            have q1 : (j - 1) * 2 + 2 ≤ out.length * 2 := by omega
            have hjl : j - 1 < out.length := by omega
            by_cases hqp : q.1 = p.1 ∧ q.2 = p.2
            · have hqp' : q = p := by ext; exact hqp.1; exact hqp.2
              simp [h0, hp, hw, cq, q1, hjl, hqp, hz, inC, Nat.testBit]
              refine ⟨i + 1, out, ⟨by simp only; omega, by simp only; omega, h3, mem_keep hp h4 (by rw [← hqp']; exact List.mem_of_getElem? hq)⟩, by omega, ?_⟩
              rw [hdrV_ne hne, outB_ne hne]
              refine Weak.mk hE (lk [(0, 0)]) _ _ _ ?_ ?_ ?_ ?_ ?_ <;> simp
            · have hb : (decide (q.1 = p.1) && decide (q.2 = p.2)) = false := by rw [Bool.and_eq_false_iff]; simp only [decide_eq_false_iff_not]; omega
              have hsl := spD_len out
              have htk : List.take (out.length * 2) (cellsI out) = cellsI out := List.take_of_length_le (by simp)
              have n1 : (out.length + 1) * 16 ≤ 140737488355328 := by omega
              have n2 : out.length + 1 ≤ 9223372036854775807 := by omega
              simp [h0, hp, hw, cq, q1, hjl, hb, hsl, htk, n1, n2, inC, Nat.testBit, splice, repl]
              refine pw_loopC (α := Nat × (Int × Int)) 4 (fun g : Int × Int => ⟨slots [(0, .d (spansD l)), (3, .ls 0 0 (out.length + 1) 2), (4, vi i), (5, vi j)], lk [(0, cellsI (out.take j ++ g :: out.drop j))], 1⟩) (fun _ => j ≤ out.length) (fun x => ⟨slots [(0, .d (spansD l)), (3, .ls 0 0 (out.length + 1) 2), (4, vi i), (5, vi j), (6, vi x.1)], lk [(0, cellsI (out.take x.1 ++ x.2 :: out.drop x.1))], 1⟩) (fun x => j ≤ x.1 ∧ x.1 ≤ out.length) (fun x => x.1) (out.length, ((0 : Int), (0 : Int))) ?_ ?_ ?_ fun g hg => ?_
              · exact ⟨hj1, Nat.le_refl _⟩
              · have wl : IntKind.wrap .i64 (out.length : Int) = out.length := wrap64 (by omega) (by omega)
                simp only [List.take_length, List.drop_length, spD_one]
                refine Weak.mk hE (lk [(0, 17825793)]) _ _ _ ?_ ?_ ?_ ?_ ?_ <;> simp [wl]
                rintro c (⟨a, _, rfl⟩ | rfl) <;> simp
              · exact srt_shift l out i j (by omega) hE
              · have hset := put_set (g := g) p hj1
                have hlen := put_len out j g hj1
                obtain ⟨M, hMM⟩ : ∃ M, out.take j ++ g :: out.drop j = M := ⟨_, rfl⟩
                rw [hMM] at hset hlen ⊢
                have cs := cells_set (l := M) p (i := j) (by omega)
                rw [hset] at cs
                have hml := spD_len M
                rw [hlen] at hml
                have q3 : j < out.length + 1 := by omega
                have q3i : (j : Int) < (out.length : Int) + 1 := by omega
                have q2 : j * 2 + 2 ≤ (out.length + 1) * 2 := by omega
                simp [hp, q3i, q2, hml, cs, hz]
                have hN : out.take j ++ p :: out.drop j ≠ [] := by simp
                have hNl := put_len out j p hj1
                refine ⟨i + 1, out.take j ++ p :: out.drop j, ⟨by simp only; omega, by simp only; omega, (split_at h3 hj1 hj2 hj3).1 q h0 hq (fun e => hqp ⟨by rw [e], by rw [e]⟩), mem_put hp h4⟩, by omega, ?_⟩
                rw [hdrV_ne hN, outB_ne hN, hNl]
                refine Weak.mk hE (lk [(0, 0)]) _ _ _ ?_ ?_ ?_ ?_ ?_ <;> simp
          · have hj0 : j = 0 := by omega
            have hsl := spD_len out
            have htk : List.take (out.length * 2) (cellsI out) = cellsI out := List.take_of_length_le (by simp)
            have n1 : (out.length + 1) * 16 ≤ 140737488355328 := by omega
            have n2 : out.length + 1 ≤ 9223372036854775807 := by omega
            simp [h0, hsl, htk, n1, n2, splice, repl]
            refine pw_loopC (α := Nat × (Int × Int)) 4 (fun g : Int × Int => ⟨slots [(0, .d (spansD l)), (3, .ls 0 0 (out.length + 1) 2), (4, vi i), (5, vi j)], lk [(0, cellsI (out.take j ++ g :: out.drop j))], 1⟩) (fun _ => j ≤ out.length) (fun x => ⟨slots [(0, .d (spansD l)), (3, .ls 0 0 (out.length + 1) 2), (4, vi i), (5, vi j), (6, vi x.1)], lk [(0, cellsI (out.take x.1 ++ x.2 :: out.drop x.1))], 1⟩) (fun x => j ≤ x.1 ∧ x.1 ≤ out.length) (fun x => x.1) (out.length, ((0 : Int), (0 : Int))) ?_ ?_ ?_ fun g hg => ?_
            · exact ⟨hj1, Nat.le_refl _⟩
            · have wl : IntKind.wrap .i64 (out.length : Int) = out.length := wrap64 (by omega) (by omega)
              simp only [List.take_length, List.drop_length, spD_one]
              refine Weak.mk hE (lk [(0, 17825793)]) _ _ _ ?_ ?_ ?_ ?_ ?_ <;> simp [wl]
              rintro c (⟨a, _, rfl⟩ | rfl) <;> simp
            · exact srt_shift l out i j (by omega) hE
            · have hset := put_set (g := g) p hj1
              have hlen := put_len out j g hj1
              obtain ⟨M, hMM⟩ : ∃ M, out.take j ++ g :: out.drop j = M := ⟨_, rfl⟩
              rw [hMM] at hset hlen ⊢
              have cs := cells_set (l := M) p (i := j) (by omega)
              rw [hset] at cs
              have hml := spD_len M
              rw [hlen] at hml
              have q3 : j < out.length + 1 := by omega
              have q3i : (j : Int) < (out.length : Int) + 1 := by omega
              have q2 : j * 2 + 2 ≤ (out.length + 1) * 2 := by omega
              simp [hp, q3i, q2, hml, cs, hz]
              have hN : out.take j ++ p :: out.drop j ≠ [] := by simp
              have hNl := put_len out j p hj1
              refine ⟨i + 1, out.take j ++ p :: out.drop j, ⟨by simp only; omega, by simp only; omega, (by rw [hj0]; simpa using (split_at h3 hj1 hj2 hj3).2 hj0), mem_put hp h4⟩, by omega, ?_⟩
              rw [hdrV_ne hN, outB_ne hN, hNl]
              refine Weak.mk hE (lk [(0, 0)]) _ _ _ ?_ ?_ ?_ ?_ ?_ <;> simp
    · simp at h
      have e : i = l.length := by omega
      have ht : out = ddC (sortC l) := sorted_eq h3 (by rw [e] at h4; simpa using h4)
      rw [← ht]
      simp
      rcases out_cases out with h | ⟨o, x, h⟩
      · rw [h]
        refine Weak.mk hE (lk []) _ _ _ ?_ ?_ ?_ ?_ ?_ <;> simp
      · rw [h]
        refine Weak.mk hE (lk [(0, 0)]) _ _ _ ?_ ?_ ?_ ?_ ?_ <;> simp
        rintro c (⟨a, _, rfl⟩ | rfl | rfl) <;> simp
  · simp
    rcases out_cases (ddC (sortC l)) with h | ⟨o, x, h⟩
    · rw [h]
      refine RetOk.by (fun _ => none) ?_
      simp [results133]
    · rw [h]
      refine RetOk.by (lk [(0, 0)]) ?_
      simp [results133]
theorem fn133 (l : List (Int × Int)) (hl : l.length ≤ 100000) : Ct prog 133 [.d (spansD l)] (.d (spansD (ddC (sortC l)))) [] := by
  refine Cm.freeze (srt_main l hl) ?_
  have h := fz_spans (ddC (sortC l))
  unfold Fz
  split
  · rename_i e _; rcases out_cases (ddC (sortC l)) with h2 | ⟨o, x, h2⟩ <;> rw [h2] at e <;> simp at e
  · exact h
end Go.Proofs.Try
namespace Go.Proofs.Try
open Go.Psl
open Go.Geo (cross chainR)
set_option maxHeartbeats 4000000 in
set_option maxRecDepth 20000 in
theorem chn_pop (l : List (Int × Int)) (i : Nat) (p : Int × Int) (hp : l[i]? = some p) (hpm : bd 536870912 p) (st0 : List (Int × Int)) {E : Ent} (hE : ∀ i, ¬ E.stab i) {Q : AExit → St → Prop} : ∀ x : List (Int × Int) × List (Int × Int), (popS x.1 p = popS st0 p ∧ x.1.length ≤ 100000 ∧ ∀ q ∈ x.1, bd 536870912 q) → PW prog tys eqs E p134l0
    (seqQ (fun st' => ∃ y : List (Int × Int) × List (Int × Int), (popS y.1 p = popS st0 p ∧ y.1.length ≤ 100000 ∧ ∀ q ∈ y.1, bd 536870912 q) ∧ y.1.length < x.1.length ∧ Weak prog E st' ⟨slots [(0, .d (spansD l)), (3, hdrV y.1.reverse 0), (4, vi i)], lk (outZ y.1.reverse y.2 0), 1⟩)
      (exC prog E Q 2 (fun z : List (Int × Int) => ⟨slots [(0, .d (spansD l)), (3, hdrV (popS st0 p).reverse 0), (4, vi i)], lk (outZ (popS st0 p).reverse z 0), 1⟩) (fun _ => True)))
    ⟨slots [(0, .d (spansD l)), (3, hdrV x.1.reverse 0), (4, vi i)], lk (outZ x.1.reverse x.2 0), 1⟩ := by
  rintro ⟨st, z⟩ ⟨hpop, hlen, hm⟩
  simp only at hpop hlen hm ⊢
  by_cases h2s : st.length < 2
  · have hps : popS st0 p = st := by
      rw [← hpop]
      match st, h2s with
      | [], _ => rfl
      | [_], _ => rfl
      | _ :: _ :: _, h => simp at h; omega
    rw [hps]
    obtain ⟨O, hO⟩ : ∃ O, st.reverse = O := ⟨_, rfl⟩
    have hOl : O.length = st.length := by rw [← hO]; simp
    rw [hO]
    have hlt : ¬ ((1 : Int) < (O.length : Int)) := by omega
    have hlt' : ¬ (1 < O.length) := by omega
    simp [p134l0, lenF_hdr, hlt]
    refine ⟨z, ?_⟩
    obtain rfl | ⟨b0, x0, rfl⟩ := out_cases O
    · refine Weak.mk hE (lk []) _ _ _ ?_ ?_ ?_ ?_ ?_ <;> simp
    · rw [outZ_snoc]
      refine Weak.mk hE (lk [(0, 0)]) _ _ _ ?_ ?_ ?_ ?_ ?_ <;> simp
  · obtain ⟨b, a, r, rfl⟩ : ∃ b a r, st = b :: a :: r := by
      match st, h2s with
      | b :: a :: r, _ => exact ⟨b, a, r, rfl⟩
      | [], h => simp at h
      | [_], h => simp at h
    have ba := hm a (by simp)
    have bb := hm b (by simp)
    obtain ⟨m, hmm⟩ : ∃ m, m = r.length := ⟨_, rfl⟩
    obtain ⟨m1, hm1⟩ : ∃ m1, m1 = m + 1 := ⟨_, rfl⟩
    obtain ⟨O, hO⟩ : ∃ O, (b :: a :: r).reverse = O := ⟨_, rfl⟩
    have hO2 : O = r.reverse ++ [a] ++ [b] := by rw [← hO]; simp
    have hO3 : (a :: r).reverse = r.reverse ++ [a] := by simp
    obtain ⟨N, hN⟩ : ∃ N, O.length = N := ⟨_, rfl⟩
    have hNm : N = m + 2 := by rw [← hN, hO2, hmm]; simp
    have hOne : O ≠ [] := by rw [hO2]; simp
    have ha' : (O ++ z)[m]? = some a := by
      rw [hO2, hmm]; simp only [List.append_assoc]
      rw [List.getElem?_append_right (by simp), List.length_reverse, Nat.sub_self]; rfl
    have hb' : (O ++ z)[m1]? = some b := by
      rw [hO2, hm1, hmm]; simp only [List.append_assoc]
      rw [List.getElem?_append_right (by simp), List.length_reverse, show r.length + 1 - r.length = 1 by omega]; rfl
    have ca := cells_at ha'
    have cb := cells_at hb'
    obtain ⟨ds, hds⟩ : ∃ ds, spD (O ++ z) = ds := ⟨_, rfl⟩
    have hdsl : N * 2 ≤ ds.length := by rw [← hds, spD_len, List.length_append, hN]; omega
    rw [hds] at ca cb
    rw [hO, hdrV_ne hOne, outZ_ne hOne, hN, show cellsI (O ++ z) = ds.map V.d by rw [← hds]]
    have w2 : IntKind.wrap .i64 ((N : Int) - 2) = (m : Int) := by simp at hlen; rw [wrap64 (by omega) (by omega)]; omega
    have w3 : IntKind.wrap .i64 ((N : Int) - 1) = (m1 : Int) := by simp at hlen; rw [wrap64 (by omega) (by omega)]; omega
    have hlt : (1 : Int) < (N : Int) := by omega
    have hlt' : 1 < N := by omega
    have l1 : m < N := by omega
    have l2 : m1 < N := by omega
    have l3 : m * 2 + 2 ≤ ds.length := by omega
    have l4 : m1 * 2 + 2 ≤ ds.length := by omega
    have l5 : m1 ≤ N := by omega
    simp [p134l0, hlt, hp, inC, Nat.testBit, w2, w3, l1, l2, l3, l4, ca, cb]
    refine ACall.mk _ _ _ (fn136 a b p ba bb hpm) (by first | (simp; done) | simp [Bor_ls, Bor1_ls]) (by simp) (by first | (left; simp; done) | (right; simp; done)) ?_
    by_cases hc : cross a b p ≤ 0
    · simp [hc, w3, l5]
      refine ⟨a :: r, ⟨by rw [← hpop, popS_two, if_pos hc], by simp at hlen ⊢; omega, fun q1 q2 hq => hm (q1, q2) (List.mem_cons_of_mem _ hq)⟩, by simp, [b] ++ z, ?_⟩
      rw [hO3, hdrV_snoc, outZ_snoc, show cellsI (r.reverse ++ [a] ++ ([b] ++ z)) = ds.map V.d by rw [← hds, hO2]; simp]
      refine Weak.mk hE (lk [(0, 0)]) _ _ _ ?_ ?_ ?_ ?_ ?_ <;> simp
      omega
    · have hps : popS st0 p = b :: a :: r := by rw [← hpop, popS_two, if_neg hc]
      rw [hps, hO, hdrV_ne hOne, hN]
      simp [hc]
      refine ⟨z, ?_⟩
      rw [outZ_ne hOne, show cellsI (O ++ z) = ds.map V.d by rw [← hds]]
      refine Weak.mk hE (lk [(0, 0)]) _ _ _ ?_ ?_ ?_ ?_ ?_ <;> simp
end Go.Proofs.Try
namespace Go.Proofs.Try
open Go.Psl
open Go.Geo (cross chainR)
set_option maxHeartbeats 8000000 in
set_option maxRecDepth 20000 in
theorem chn_main (l : List (Int × Int)) (hl : l.length ≤ 100000) (hbd : ∀ q ∈ l, bd 536870912 q) : Ct prog 134 [.d (spansD l)] (hdrV (chainR l).reverse 0) (outZ (chainR l).reverse [] 0) := by
  refine Ct.by gok eok mixed func134 c134 rfl (by simp [ntmps134]) (by simp) ?_ fun E hE => ?_
  · rcases out_cases (chainR l).reverse with h | ⟨o, x, h⟩
    · rw [h]; simp [ResIds, outZ]
    · rw [h, outZ_snoc]; simp [ResIds]
  have hst0 : chainR (l.take 0) = [] := by simp [chainR]
  have hcl := fun i => chainR_len (l.take i)
  have hcm : ∀ i, ∀ q ∈ chainR (l.take i), bd 536870912 q := fun i q hq => hbd q (List.mem_of_mem_take (chainR_mem q hq))
  simp [p134]
  refine pw_loopC (α := Nat) 0 (fun _ : Unit => ⟨slots [(3, hdrV (chainR l).reverse 0)], lk (outZ (chainR l).reverse [] 0), 1⟩) (fun _ => True) (fun i => ⟨slots [(0, .d (spansD l)), (3, hdrV (chainR (l.take i)).reverse 0), (4, vi i)], lk (outZ (chainR (l.take i)).reverse [] 0), 1⟩) (fun i => i ≤ l.length) (fun i => l.length - i) 0 ?_ ?_ ?_ fun _ _ => ?_
  · simp
  · rw [hst0]
    refine Weak.mk hE (lk []) _ _ _ ?_ ?_ ?_ ?_ ?_ <;> simp [outZ]
  · intro i hi
    simp [p134l1]
    refine cR_split (fun h => ?_) (fun h => ?_)
    · simp at h
      obtain ⟨p, hp⟩ : ∃ p, l[i]? = some p := ⟨_, List.getElem?_eq_getElem h⟩
      have hpm := hbd p (List.mem_of_getElem? hp)
      have w1 : IntKind.wrap .i64 ((i : Int) + 1) = ((i + 1 : Nat) : Int) := by rw [wrap64 (by omega) (by omega)]; omega
      have hct := chain_take hp
      have hci := hcl i
      have hcmi := hcm i
      obtain ⟨st0, hst⟩ : ∃ st0, chainR (l.take i) = st0 := ⟨_, rfl⟩
      rw [hst] at hct hci hcmi ⊢
      have hl0 : st0.length ≤ 100000 := by simp at hci; omega
      simp
      refine pw_loopC (α := List (Int × Int) × List (Int × Int)) 2 (fun z : List (Int × Int) => ⟨slots [(0, .d (spansD l)), (3, hdrV (popS st0 p).reverse 0), (4, vi i)], lk (outZ (popS st0 p).reverse z 0), 1⟩) (fun _ => True) (fun x => ⟨slots [(0, .d (spansD l)), (3, hdrV x.1.reverse 0), (4, vi i)], lk (outZ x.1.reverse x.2 0), 1⟩) (fun x => popS x.1 p = popS st0 p ∧ x.1.length ≤ 100000 ∧ ∀ q ∈ x.1, bd 536870912 q) (fun x => x.1.length) (st0, []) ?_ ?_ ?_ fun zz _ => ?_
      · exact ⟨rfl, hl0, hcmi⟩
      · obtain e | ⟨b0, x0, e⟩ := out_cases st0.reverse <;> simp only [e]
        · refine Weak.mk hE (lk []) _ _ _ ?_ ?_ ?_ ?_ ?_ <;> simp [outZ]
        · rw [outZ_snoc]
          refine Weak.mk hE (lk [(0, 0)]) _ _ _ ?_ ?_ ?_ ?_ ?_ <;> simp
      · exact chn_pop l i p hp hpm st0 hE
      · have hpl := popS_len p st0
        obtain ⟨O, hO⟩ : ∃ O, (popS st0 p).reverse = O := ⟨_, rfl⟩
        have hOl : O.length ≤ 200000 := by rw [← hO]; simp; omega
        have hnx : (chainR (l.take (i + 1))).reverse = O ++ [p] := by rw [hct, ← hO]; simp
        rw [hO]
        have fin : cellsI (O ++ [p]) = (spD O).map V.d ++ [vi p.1, vi p.2] := spD_one p O
        obtain rfl | ⟨o, x, rfl⟩ := out_cases O
        · simp [hp, repl, splice, w1]
          refine ⟨i + 1, by omega, by omega, ?_⟩
          rw [hnx, hdrV_snoc, outZ_snoc, List.append_nil, fin]
          refine Weak.mk hE (lk [(0, 6291457)]) _ _ _ ?_ ?_ ?_ ?_ ?_ <;> simp
        · have htk := cells_take (o ++ [x]) zz
          have hdl3 := spD_len (o ++ [x] ++ zz)
          have hOne : o ++ [x] ≠ [] := by simp
          obtain ⟨N, hN⟩ : ∃ N, (o ++ [x]).length = N := ⟨_, rfl⟩
          have hdo := spD_len (o ++ [x])
          rw [List.length_append, hN] at hdl3
          rw [hN] at htk hOl hdo
          rw [hdrV_ne hOne, outZ_ne hOne, hN]
          have hcc : cellsI (o ++ [x] ++ zz) = List.map V.d (spD (o ++ [x] ++ zz)) := rfl
          rw [hcc]
          generalize spD (o ++ [x] ++ zz) = ds at htk hdl3 ⊢
          generalize spD (o ++ [x]) = eo at fin htk hdo
          have hfit : N * 2 ≤ ds.length ∧ (N + 1) * 16 ≤ 140737488355328 ∧ N + 1 ≤ 9223372036854775807 := by omega
          simp [hp, repl, splice, w1, hfit, htk]
          refine ⟨i + 1, by omega, by omega, ?_⟩
          rw [hnx, hdrV_snoc, outZ_snoc, List.append_nil, fin, hN]
          refine Weak.mk hE (lk [(0, 6291457)]) _ _ _ ?_ ?_ ?_ ?_ ?_ <;> simp
          rintro c (⟨a, _, rfl⟩ | rfl | rfl) <;> simp
    · simp at h
      have e : l.take i = l := List.take_of_length_le h
      rw [e]
      simp
      rcases out_cases (chainR l).reverse with h | ⟨o, x, h⟩
      · simp only [h]
        refine Weak.mk hE (lk []) _ _ _ ?_ ?_ ?_ ?_ ?_ <;> simp [outZ]
      · simp only [h]
        rw [outZ_snoc]
        refine Weak.mk hE (lk [(0, 0)]) _ _ _ ?_ ?_ ?_ ?_ ?_ <;> simp
  · rcases out_cases (chainR l).reverse with h | ⟨o, x, h⟩
    · simp only [h]
      simp
      refine RetOk.by (fun _ => none) ?_
      simp [results134]
    · simp only [h]
      rw [outZ_snoc]
      simp
      refine RetOk.by (lk [(0, 0)]) ?_
      simp [results134]
end Go.Proofs.Try
namespace Go.Proofs.Try
open Go.Psl
open Go.Geo (cross chainR)
theorem fz_outZ (out z : List (Int × Int)) : Fz1 (lk (outZ out z 0)) (hdrV out 0) (.d (spansD out)) := by
  by_cases h : out = []
  · subst h; exact Or.inr ⟨rfl, 2, rfl⟩
  · rw [hdrV_ne h, outZ_ne h]
    exact bor_cut (z := z) (by simp [lk])
theorem fz_one {P : Program} {f : FuncId} {args : List V} {out z : List (Int × Int)} (h : Ct P f args (hdrV out 0) (outZ out z 0)) : Ct P f args (.d (spansD out)) [] := by
  refine Cm.freeze h ?_
  have h1 := fz_outZ out z
  unfold Fz
  split
  · rename_i e _; rcases out_cases out with h2 | ⟨o, x, h2⟩ <;> rw [h2] at e <;> simp at e
  · exact h1
theorem fn134 (l : List (Int × Int)) (hl : l.length ≤ 100000) (hbd : ∀ q ∈ l, bd 536870912 q) : Ct prog 134 [.d (spansD l)] (.d (spansD (chainR l).reverse)) [] := fz_one (chn_main l hl hbd)
end Go.Proofs.Try
namespace Go.Proofs.Try
open Go.Psl
open Go.Geo (cross chainR hullS)
set_option maxHeartbeats 4000000 in
set_option maxRecDepth 20000 in
/-- the list from behind -/
theorem hul_back (s : List (Int × Int)) (hl : s.length ≤ 100000) {E : Ent} (hE : ∀ i, ¬ E.stab i) {Q : AExit → St → Prop} : ∀ k : Nat, k ≤ s.length → PW prog tys eqs E p95l0
    (seqQ (fun st' => ∃ j, j ≤ s.length ∧ s.length - j < s.length - k ∧ Weak prog E st' ⟨slots [(3, .d (spansD s)), (4, hdrV (s.reverse.take j) 0), (5, vi ((s.length : Int) - 1 - j))], lk (outB (s.reverse.take j) 0), 1⟩)
      (exC prog E Q 0 (fun _ : Unit => ⟨slots [(3, .d (spansD s)), (4, hdrV s.reverse 0)], lk (outB s.reverse 0), 1⟩) (fun _ => True)))
    ⟨slots [(3, .d (spansD s)), (4, hdrV (s.reverse.take k) 0), (5, vi ((s.length : Int) - 1 - k))], lk (outB (s.reverse.take k) 0), 1⟩ := by
  intro k hk
  by_cases h : k < s.length
  · obtain ⟨e, he⟩ : ∃ e, e = s.length - 1 - k := ⟨_, rfl⟩
    have hee : (s.length : Int) - 1 - k = (e : Int) := by omega
    obtain ⟨p, hp⟩ : ∃ p, s[e]? = some p := ⟨_, List.getElem?_eq_getElem (by omega)⟩
    have hrp : s.reverse[k]? = some p := by rw [List.getElem?_reverse h, ← he]; exact hp
    have hnx : s.reverse.take (k + 1) = s.reverse.take k ++ [p] := by rw [List.take_add_one, hrp]; rfl
    have w1 : IntKind.wrap .i64 ((e : Int) - 1) = (s.length : Int) - 1 - ((k + 1 : Nat) : Int) := by rw [wrap64 (by omega) (by omega)]; omega
    have hol : (s.reverse.take k).length = k := by simp; omega
    rw [hee]
    obtain ⟨O, hO⟩ : ∃ O, s.reverse.take k = O := ⟨_, rfl⟩
    rw [hO] at hnx hol ⊢
    have fin : cellsI (O ++ [p]) = (spD O).map V.d ++ [vi p.1, vi p.2] := spD_one p O
    by_cases hne : O = []
    · subst hne
      simp [p95l0, hp, repl, splice, w1]
      refine ⟨k + 1, by omega, by omega, ?_⟩
      rw [hnx, hdrV_ne (by simp), outB_ne (by simp), fin]
      refine Weak.mk hE (lk [(0, 8388609)]) _ _ _ ?_ ?_ ?_ ?_ ?_ <;> simp
    · have hsl := spD_len O
      have htk : List.take (O.length * 2) (cellsI O) = cellsI O := List.take_of_length_le (by simp)
      have n1 : (O.length + 1) * 16 ≤ 140737488355328 := by omega
      have n2 : O.length + 1 ≤ 9223372036854775807 := by omega
      rw [hdrV_ne hne, outB_ne hne]
      simp [p95l0, hp, repl, splice, w1, hsl, htk, n1, n2]
      refine ⟨k + 1, by omega, by omega, ?_⟩
      rw [hnx, hdrV_ne (by simp), outB_ne (by simp), fin]
      refine Weak.mk hE (lk [(0, 8388609)]) _ _ _ ?_ ?_ ?_ ?_ ?_ <;> simp
      rintro c (⟨a, _, rfl⟩ | rfl | rfl) <;> simp
  · have e : k = s.length := by omega
    have hneg : (s.length : Int) - 1 - k = -1 := by omega
    have hrev : s.reverse.take k = s.reverse := List.take_of_length_le (by simp; omega)
    rw [hneg, hrev]
    rcases out_cases s.reverse with h | ⟨o, x, h⟩
    · simp only [h]
      simp [p95l0]
      refine Weak.mk hE (lk []) _ _ _ ?_ ?_ ?_ ?_ ?_ <;> simp
    · simp only [h]
      simp [p95l0]
      refine Weak.mk hE (lk [(0, 0)]) _ _ _ ?_ ?_ ?_ ?_ ?_ <;> simp
      rintro c (⟨a, _, rfl⟩ | rfl | rfl) <;> simp
end Go.Proofs.Try
namespace Go.Proofs.Try
open Go.Psl
open Go.Geo (cross chainR hullS)
set_option maxHeartbeats 4000000 in
set_option maxRecDepth 20000 in
theorem hul_short (l : List (Int × Int)) (hl : l.length ≤ 100000) (h3 : (ddC (sortC l)).length < 3) : Ct prog 95 [.d (spansD l)] (.d (spansD (hullP l))) [] := by
  have c1 := fn133 l hl
  have e : hullP l = ddC (sortC l) := by unfold hullP hullS; rw [if_pos h3]
  rw [e]
  generalize ddC (sortC l) = s at *
  have h3' : (s.length : Int) < 3 := by omega
  refine Ct.by gok eok mixed func95 c95 rfl (by simp [ntmps95]) (by simp) (by simp [ResIds]) fun E hE => ?_
  simp [p95]
  refine ACall.mk _ _ _ (c1) (by first | (simp; done) | simp [Bor_ls, Bor1_ls]) (by simp) (by first | (left; simp; done) | (right; simp; done)) ?_
  simp [h3']
  refine RetOk.by (fun _ => none) ?_
  simp [results95]
set_option maxHeartbeats 4000000 in
set_option maxRecDepth 20000 in
theorem hul_long (l : List (Int × Int)) (hl : l.length ≤ 100000) (hbd : ∀ q ∈ l, bd 536870912 q) (h3 : ¬ (ddC (sortC l)).length < 3) : Ct prog 95 [.d (spansD l)] (hdrV (hullP l) 0) (outZ (hullP l) [] 0) := by
  have c1 := fn133 l hl
  have e : hullP l = (chainR (ddC (sortC l))).tail.reverse ++ (chainR (ddC (sortC l)).reverse).tail.reverse := by unfold hullP hullS; rw [if_neg h3]
  have hsl : (ddC (sortC l)).length ≤ l.length := by
    have := dd_len (sortC l) (sortC l).length
    rw [List.take_length, sortC_len] at this; exact this
  have hsb : ∀ q ∈ ddC (sortC l), bd 536870912 q := fun q hq => hbd q (by rwa [ddC_mem, sortC_mem] at hq)
  obtain ⟨s, hs⟩ : ∃ s, ddC (sortC l) = s := ⟨_, rfl⟩
  have hso : Go.Geo.Sorted s := by rw [← hs]; exact sorted_dd l
  rw [hs] at c1 e h3 hsl hsb
  obtain ⟨f, g, lo, up, _, _, _, hlo, hup, _, hupl⟩ := Go.Geo.chains hso (by omega)
  obtain ⟨mid, hmid⟩ : ∃ mid, up.reverse = g :: mid := by
    have : up.reverse.head? = some g := by rw [List.head?_reverse]; exact hupl
    cases hr : up.reverse with
    | nil => rw [hr] at this; simp at this
    | cons a r => rw [hr] at this; simp at this; subst this; exact ⟨r, rfl⟩
  have e2 : hullP l = (chainR s).reverse ++ mid := by rw [e, hlo, hup]; simp [hmid]
  have e3 : (chainR s.reverse).reverse = g :: (mid ++ [f]) := by rw [hup, List.reverse_cons, hmid]; rfl
  have c2 := fn134 s (by omega) hsb
  have c3 := chn_main s.reverse (by simp; omega) (fun q hq => hsb q (List.mem_reverse.1 hq))
  rw [e3, hdrV_ne (by simp), outZ_ne (by simp), List.append_nil] at c3
  have h3' : ¬ (s.length : Int) < 3 := by omega
  have w1 : IntKind.wrap .i64 ((s.length : Int) - 1) = (s.length : Int) - 1 := wrap64 (by omega) (by omega)
  have hne : s.reverse ≠ [] := by intro h; rw [List.reverse_eq_nil_iff] at h; rw [h] at h3; simp at h3
  refine Ct.by gok eok mixed func95 c95 rfl (by simp [ntmps95]) (by simp) ?_ fun E hE => ?_
  · rw [e2, hlo, hdrV_ne (by simp), outZ_ne (by simp)]; simp [ResIds]
  simp [p95]
  refine ACall.mk _ _ _ (c1) (by first | (simp; done) | simp [Bor_ls, Bor1_ls]) (by simp) (by first | (left; simp; done) | (right; simp; done)) ?_
  simp [h3', w1]
  refine pw_loopC (α := Nat) 0 (fun _ : Unit => ⟨slots [(3, .d (spansD s)), (4, hdrV s.reverse 0)], lk (outB s.reverse 0), 1⟩) (fun _ => True) (fun j => ⟨slots [(3, .d (spansD s)), (4, hdrV (s.reverse.take j) 0), (5, vi ((s.length : Int) - 1 - j))], lk (outB (s.reverse.take j) 0), 1⟩) (fun j => j ≤ s.length) (fun j => s.length - j) 0 ?_ ?_ ?_ fun _ _ => ?_
  · simp
  · simp only [List.take_zero]
    refine Weak.mk hE (lk []) _ _ _ ?_ ?_ ?_ ?_ ?_ <;> simp
  · exact hul_back s (by omega) hE
  · rw [hdrV_ne hne, outB_ne hne]
    simp
    refine ACall.mk _ _ _ (c2) (by first | (simp; done) | simp [Bor_ls, Bor1_ls]) (by simp) (by first | (left; simp; done) | (right; simp; done)) ?_
    simp
    have hbor : ∀ H : Hp, H 0 = some (cellsI s.reverse) → Bor H (.ls 0 0 s.length 2) (.d (spansD s.reverse)) := fun H h => by
      have := bor_cut (H := H) (id := 0) (l := s.reverse) (z := []) (by rw [List.append_nil]; exact h)
      rwa [List.length_reverse] at this
    refine ACall.mk _ _ _ c3 (by refine ⟨hbor _ (by simp), trivial⟩) (by simp) (by right; simp; exact fun a h => spD_lit a h) ?_
    obtain ⟨LO, hLO⟩ : ∃ LO, (chainR s).reverse = LO := ⟨_, rfl⟩
    have hLOn : LO ≠ [] := by rw [← hLO, hlo]; simp
    have hcl := chainR_len s
    have hcu := chainR_len s.reverse
    rw [hLO] at e2 ⊢
    have hLOl : LO.length ≤ 100000 := by rw [← hLO]; simp; omega
    have hml : mid.length ≤ 100000 := by
      have : (g :: (mid ++ [f])).length = (chainR s.reverse).length := by rw [← e3]; simp
      simp at this hcu; omega
    have hfl : (List.map (List.map V.d ∘ fun s : Int × Int => [di s.1, di s.2]) LO).flatten = cellsI LO := by
      show _ = (spD LO).map V.d
      unfold spD
      rw [List.map_flatMap, List.flatMap_def]; rfl
    have hcell : ∀ x : V, x ∈ cellsI LO → x.isCell = true := fun x hx => by
      obtain ⟨y, _, rfl⟩ := List.mem_map.1 hx; rfl
    have n1 : LO.length * 16 ≤ 140737488355328 := by omega
    have n2 : LO.length ≤ 9223372036854775807 := by omega
    have w2 : IntKind.wrap .i64 ((mid.length : Int) + 1) = ((mid.length + 1 : Nat) : Int) := by rw [wrap64 (by omega) (by omega)]; omega
    have hcut : List.take (mid.length * 2) (List.drop 2 (List.map V.d (spD (g :: (mid ++ [f]))))) = cellsI mid := cells_take mid [f]
    have hcut2 : 2 + mid.length * 2 ≤ (mid.length + 1 + 1) * 2 := by omega
    have hcm : ∀ x : V, x ∈ cellsI mid → x.isCell = true := fun x hx => by
      obtain ⟨y, _, rfl⟩ := List.mem_map.1 hx; rfl
    have w4 : (1 : Int) ≤ (mid.length : Int) + 1 := by omega
    have w3 : (0 : Int) ≤ (mid.length : Int) + 1 ∧ (mid.length : Int) ≤ (mid.length : Int) + 1 := by omega
    have hfit : LO.length * 2 ≤ (cellsI LO).length ∧ (LO.length + mid.length) * 16 ≤ 140737488355328 ∧ LO.length + mid.length ≤ 9223372036854775807 := by simp; omega
    simp
    refine pw_drawW [(2, 6291457)] (by kernel_rfl) ?_
    simp [inC, Nat.testBit, repl, hfl, n1, n2, w2, w3, w4, hfit, hcut, hcut2]
    have hne2 : LO ++ mid ≠ [] := by simp [hLOn]
    have htk : List.take (LO.length * 2) (cellsI LO) = cellsI LO := List.take_of_length_le (by simp)
    have happ : cellsI LO ++ cellsI mid = cellsI (LO ++ mid) := by
      show (spD LO).map V.d ++ (spD mid).map V.d = (spD (LO ++ mid)).map V.d
      rw [← List.map_append]; unfold spD; rw [List.flatMap_append]
    rw [e2, hdrV_ne hne2, outZ_ne hne2, List.append_nil, List.length_append, htk, happ]
    refine RetOk.by (lk [(0, 14680065)]) ?_
    simp [results95]
/-- the reference's hull is the program's -/
theorem fn95 (l : List (Int × Int)) (hl : l.length ≤ 100000) (hbd : ∀ q ∈ l, bd 536870912 q) : Ct prog 95 [.d (spansD l)] (.d (spansD (hullP l))) [] := by
  by_cases h3 : (ddC (sortC l)).length < 3
  · exact hul_short l hl h3
  · exact fz_one (hul_long l hl hbd h3)
end Go.Proofs.Try
