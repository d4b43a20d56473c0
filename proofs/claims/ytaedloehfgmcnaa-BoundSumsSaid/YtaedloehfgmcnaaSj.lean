/- Own lemmas and contracts of functions, used by the last text of this claim for the given statement. Conditions: those that each theorem states. -/
import Derived.Test.YtaedloehfgmcnaaSi
import Derived.Test.YtaedloehfgmcnaaSg
import Derived.Test.YtaedloehfgmcnaaSh
namespace Go.Geo
theorem sorted_nodup {l : List C} (h : Sorted l) : l.Nodup := h.imp fun h e => by subst e; exact lt_irr _ h
theorem sorted_same {l m : List C} (hl : Sorted l) (hm : Sorted m) (h : ∀ x, x ∈ l ↔ x ∈ m) : l = m := by
  have hp : l.Perm m := (List.perm_ext_iff_of_nodup (sorted_nodup hl) (sorted_nodup hm)).2 h
  exact hp.eq_of_pairwise (fun a b _ _ h1 h2 => absurd (lt_trans h1 h2) (lt_irr _)) hl hm
theorem sub_of_mem {l m : List C} (hl : Sorted l) (hm : Sorted m) (h : ∀ x ∈ l, x ∈ m) : l.Sublist m := by
  have e : l = m.filter (fun x => decide (x ∈ l)) := by
    refine sorted_same hl (hm.sublist List.filter_sublist) fun x => ?_
    rw [List.mem_filter, decide_eq_true_eq]
    exact ⟨fun hx => ⟨h x hx, hx⟩, fun hx => hx.2⟩
  rw [e]; exact List.filter_sublist
theorem Good.mono {d d' : List C} (hd : ∀ q ∈ d', q ∈ d) : ∀ {st : List C}, Good d st → Good d' st
  | [], _ => trivial
  | [_], _ => trivial
  | [_, _], h => ⟨h.1, fun q hq => h.2 q (hd q hq)⟩
  | _ :: _ :: _ :: _, h => ⟨h.1, h.2.1, fun q hq => h.2.2.1 q (hd q hq), Good.mono hd h.2.2.2⟩
theorem head_is {m : List C} (hm : Sorted m) {f : C} (hf : f ∈ m) (h : ∀ x ∈ m, ¬ lt x f) : m.head? = some f := by
  cases m with
  | nil => simp at hf
  | cons a r =>
    rcases List.mem_cons.1 hf with rfl | hf
    · rfl
    · exact absurd ((List.pairwise_cons.1 hm).1 f hf) (h a (by simp))
theorem last_is {m : List C} (hm : Sorted m) {g : C} (hg : g ∈ m) (h : ∀ x ∈ m, ¬ lt g x) : m.getLast? = some g := by
  have := head_is (sorted_neg hm) (f := neg g) (List.mem_map.2 ⟨g, List.mem_reverse.2 hg, rfl⟩) (fun x hx => by
    obtain ⟨y, hy, rfl⟩ := List.mem_map.1 hx
    intro hh; exact h y (List.mem_reverse.1 hy) (lt_neg.1 hh))
  rw [List.head?_map, List.head?_reverse] at this
  cases hl : m.getLast? with
  | none => rw [hl] at this; simp at this
  | some z => rw [hl] at this; simp at this; rw [← neg_neg z, this, neg_neg]
theorem sorted_last {l : List C} (h : Sorted l) {g : C} (hg : l.getLast? = some g) : ∀ q ∈ l, ¬ lt g q := fun q hq hh => by
  have := sorted_first (sorted_neg h) (f := neg g) (by rw [List.head?_map, List.head?_reverse, hg]; rfl) (neg q) (List.mem_map.2 ⟨q, List.mem_reverse.2 hq, rfl⟩)
  exact this (lt_neg.2 hh)
theorem nd_lo {l : List C} (h : Sorted l) : (hullS l).Nodup := by
  by_cases h3 : l.length < 3
  · have e : hullS l = l := by unfold hullS; rw [if_pos h3]
    rw [e]; exact sorted_nodup h
  · obtain ⟨f, g, lo, up, hf, hg, hfg, e1, e2, b1, b2⟩ := chains h (by omega)
    have c1 := chain_is l h
    have c2 := up_is h
    have d1 := good_desc c1.good
    have d2 := good_desc c2.good
    rw [e1] at d1
    rw [e2] at d2
    have hgl : lt f g := by
      rcases lt_tri f g with h1 | h1 | h1
      · exact h1
      · exact absurd h1 hfg
      · exact absurd h1 (sorted_first h hf g (List.mem_of_getLast? hg))
    have n1 : lo.Nodup := ((List.pairwise_cons.1 d1).2).imp fun h e => by subst e; exact lt_irr _ h
    have n2 : up.Nodup := by
      have := (List.pairwise_cons.1 d2).2
      rw [List.pairwise_map] at this
      exact this.imp fun h e => by subst e; exact lt_irr _ h
    unfold hullS
    rw [if_neg h3, e1, e2]
    simp only [List.tail_cons]
    refine List.nodup_append.2 ⟨List.pairwise_reverse.2 (n1.imp Ne.symm), List.pairwise_reverse.2 (n2.imp Ne.symm), fun v hv w hw hvw => ?_⟩
    subst hvw
    rw [List.mem_reverse] at hv hw
    have v1 : lt v g := (List.pairwise_cons.1 d1).1 v hv
    have v2 : lt f v := by
      have := (List.pairwise_cons.1 d2).1 (neg v) (List.mem_map.2 ⟨v, hw, rfl⟩)
      exact lt_neg.1 this
    have m1 : v ∈ chainR l := by rw [e1]; exact List.mem_cons_of_mem _ hv
    have m2 : neg v ∈ (chainR l.reverse).map neg := List.mem_map.2 ⟨v, by rw [e2]; exact List.mem_cons_of_mem _ hw, rfl⟩
    have i1 : 0 < cross f v g := by
      rcases mem_cases m1 with k | k | ⟨s, y, x, t, k⟩
      · rw [e1] at k; simp at k; subst k; exact absurd v1 (lt_irr _)
      · rw [c1.bot, hf] at k; simp at k; subst k; exact absurd v2 (lt_irr _)
      · exact inner c1 hf hg k
    have i2 : 0 < cross (neg g) (neg v) (neg f) := by
      have t1 : (l.reverse.map neg).head? = some (neg g) := by rw [List.head?_map, List.head?_reverse, hg]; rfl
      have t2 : (l.reverse.map neg).getLast? = some (neg f) := by rw [List.getLast?_map, List.getLast?_reverse, hf]; rfl
      rcases mem_cases m2 with k | k | ⟨s, y, x, t, k⟩
      · rw [c2.top, t2] at k
        have : f = v := by simp at k; rw [← neg_neg f, k, neg_neg]
        subst this; exact absurd v2 (lt_irr _)
      · rw [c2.bot, t1] at k
        have : g = v := by simp at k; rw [← neg_neg g, k, neg_neg]
        subst this; exact absurd v1 (lt_irr _)
      · exact inner c2 t1 t2 k
    rw [cross_neg] at i2
    have : cross g v f = - cross f v g := by unfold cross; grind
    omega
theorem hull_le {l : List C} (h : Sorted l) : (hullS l).length ≤ l.length := by
  have hs : (l.filter fun x => decide (x ∈ hullS l)).Sublist l := List.filter_sublist
  have hp : (hullS l).Perm (l.filter fun x => decide (x ∈ hullS l)) := (List.perm_ext_iff_of_nodup (nd_lo h) ((sorted_nodup h).sublist hs)).2 fun x => by
    rw [List.mem_filter, decide_eq_true_eq]
    exact ⟨fun hx => ⟨hull_sub h x hx, hx⟩, fun hx => hx.2⟩
  rw [hp.length_eq]; exact hs.length_le
end Go.Geo
namespace Go.Geo
def dot (d v : C) : Int := d.1 * v.1 + d.2 * v.2
def Parted (d : C) (A B : List C) : Prop := ∀ p ∈ A, ∀ q ∈ B, dot d p < dot d q
theorem dot_sb (d a b : C) : dot d (sb a b) = dot d a - dot d b := by unfold dot sb; grind
theorem dot_key (d u v w : C) : dot d v * xp u w = dot d w * xp u v + dot d u * xp v w := by unfold dot xp; grind
theorem dot_par (w d v : C) : dot w w * dot d v = dot w d * dot w v + xp w d * xp w v := by unfold dot xp; grind
theorem trH {d u v w : C} (hu : 0 < dot d u) (hv : 0 < dot d v) (hw : 0 < dot d w) (h1 : 0 ≤ xp u v) (h2 : 0 ≤ xp v w) : 0 ≤ xp u w ∧ (xp u w = 0 → xp u v = 0 ∧ xp v w = 0) := by
  have k := dot_key d u v w
  have a := Int.mul_nonneg (Int.le_of_lt hw) h1
  have b := Int.mul_nonneg (Int.le_of_lt hu) h2
  refine ⟨le_of_pmul hv (by omega), fun h => ?_⟩
  rw [h] at k
  exact ⟨zero_of_mul hw (by omega), zero_of_mul hu (by omega)⟩
theorem first_dir (d : C) : ∀ W : List C, W ≠ [] → (∀ w ∈ W, 0 < dot d w) → ∃ w0 ∈ W, ∀ w ∈ W, 0 ≤ xp w0 w ∧ (xp w0 w = 0 → dot d w0 ≤ dot d w)
  | [], h, _ => absurd rfl h
  | [w], _, _ => ⟨w, by simp, fun x hx => by simp at hx; subst hx; exact ⟨by unfold xp; grind, fun _ => Int.le_refl _⟩⟩
  | w :: w' :: W, _, hp => by
    obtain ⟨w0, hw0, h⟩ := first_dir d (w' :: W) (by simp) fun x hx => hp x (List.mem_cons_of_mem _ hx)
    have p0 := hp w0 (List.mem_cons_of_mem _ hw0)
    have pw := hp w (by simp)
    by_cases hc : 0 < xp w w0 ∨ (xp w w0 = 0 ∧ dot d w ≤ dot d w0)
    · refine ⟨w, by simp, fun x hx => ?_⟩
      rcases List.mem_cons.1 hx with rfl | hx
      · exact ⟨by unfold xp; grind, fun _ => Int.le_refl _⟩
      · obtain ⟨h1, h2⟩ := h x hx
        have px := hp x (List.mem_cons_of_mem _ hx)
        obtain ⟨t1, t2⟩ := trH pw p0 px (by omega) h1
        refine ⟨t1, fun e => ?_⟩
        obtain ⟨e1, e2⟩ := t2 e
        have := h2 e2
        omega
    · refine ⟨w0, List.mem_cons_of_mem _ hw0, fun x hx => ?_⟩
      rcases List.mem_cons.1 hx with rfl | hx
      · rw [xp_neg w0 x]
        refine ⟨by omega, fun e => by omega⟩
      · exact h x hx
def T (w v : C) : C := (-(xp w v), -(dot w v))
theorem xp_T (w u v : C) : xp (T w u) (T w v) = dot w w * xp v u := by unfold T xp dot; grind
theorem sq_pos {d w : C} (h : 0 < dot d w) : 0 < dot w w := by
  unfold dot at *
  rcases Int.lt_trichotomy w.1 0 with h1 | h1 | h1
  · have := Int.mul_pos_of_neg_of_neg h1 h1
    have h2 : 0 ≤ w.2 * w.2 := by rcases Int.le_total 0 w.2 with k | k; exact Int.mul_nonneg k k; exact Int.mul_nonneg_of_nonpos_of_nonpos k k
    omega
  · have h3 : w.2 ≠ 0 := fun e => by rw [h1, e] at h; simp at h
    have h2 : 0 < w.2 * w.2 := by
      rcases Int.lt_or_gt_of_ne h3 with k | k
      · exact Int.mul_pos_of_neg_of_neg k k
      · exact Int.mul_pos k k
    rw [h1]; omega
  · have := Int.mul_pos h1 h1
    have h2 : 0 ≤ w.2 * w.2 := by rcases Int.le_total 0 w.2 with k | k; exact Int.mul_nonneg k k; exact Int.mul_nonneg_of_nonpos_of_nonpos k k
    omega
theorem zero_dir {w v : C} (hw : 0 < dot w w) (h1 : xp w v = 0) (h2 : dot w v = 0) : v = (0, 0) := by
  have e1 : dot w w * v.1 = w.1 * dot w v - w.2 * xp w v := by unfold dot xp; grind
  have e2 : dot w w * v.2 = w.2 * dot w v + w.1 * xp w v := by unfold dot xp; grind
  rw [h1, h2] at e1 e2
  have a := zero_of_mul hw (y := v.1) (by omega)
  have b := zero_of_mul hw (y := v.2) (by omega)
  ext; exact a; exact b
structure First (d : C) (A B : List C) (p0 q0 : C) : Prop where
  pm : p0 ∈ A
  qm : q0 ∈ B
  dp : 0 < dot d (sb q0 p0)
  min : ∀ p ∈ A, ∀ q ∈ B, 0 ≤ xp (sb q0 p0) (sb q p) ∧ (xp (sb q0 p0) (sb q p) = 0 → dot d (sb q0 p0) ≤ dot d (sb q p))
theorem first_is {d : C} {A B : List C} (hA : A ≠ []) (hB : B ≠ []) (h : Parted d A B) : ∃ p0 q0, First d A B p0 q0 := by
  obtain ⟨w0, hw0, hm⟩ := first_dir d (A.flatMap fun p => B.map fun q => sb q p) (by
    obtain ⟨a, A', rfl⟩ := List.exists_cons_of_ne_nil hA
    obtain ⟨b, B', rfl⟩ := List.exists_cons_of_ne_nil hB
    simp) (fun w hw => by
    simp only [List.mem_flatMap, List.mem_map] at hw
    obtain ⟨p, hp, q, hq, rfl⟩ := hw
    rw [dot_sb]; have := h p hp q hq; omega)
  simp only [List.mem_flatMap, List.mem_map] at hw0
  obtain ⟨p0, hp0, q0, hq0, rfl⟩ := hw0
  refine ⟨p0, q0, hp0, hq0, by rw [dot_sb]; have := h p0 hp0 q0 hq0; omega, fun p hp q hq => hm _ ?_⟩
  simp only [List.mem_flatMap, List.mem_map]
  exact ⟨p, hp, q, hq, rfl⟩
theorem pos_of {d w v : C} (hw : 0 < dot d w) (h1 : xp w v ≤ 0) (h2 : xp w v = 0 → dot d v ≤ 0) (hv : v ≠ (0, 0)) : pos (T w v) := by
  unfold pos T
  simp only
  by_cases h : xp w v = 0
  · right
    refine ⟨by omega, ?_⟩
    have hn := sq_pos hw
    have k := dot_par w d v
    have hd : dot w d = dot d w := by unfold dot; grind
    rw [h, hd] at k
    have hle : dot w v ≤ 0 := by
      apply Int.not_lt.1; intro hh
      have a := Int.mul_pos hw hh
      have b := Int.mul_nonpos_of_nonneg_of_nonpos (Int.le_of_lt hn) (h2 h)
      omega
    have hne : dot w v ≠ 0 := fun e => hv (zero_dir hn h e)
    omega
  · left; omega
theorem First.posA {d : C} {A B : List C} {p0 q0 : C} (h : First d A B p0 q0) {p : C} (hp : p ∈ A) (hne : p ≠ p0) : pos (T (sb q0 p0) (sb p p0)) := by
  obtain ⟨m1, m2⟩ := h.min p hp q0 h.qm
  have e : xp (sb q0 p0) (sb q0 p) = - xp (sb q0 p0) (sb p p0) := by unfold xp sb; grind
  have e2 : dot d (sb q0 p) = dot d (sb q0 p0) - dot d (sb p p0) := by unfold dot sb; grind
  refine pos_of h.dp (by omega) (fun e0 => ?_) fun e0 => hne ?_
  · have := m2 (by omega); omega
  · unfold sb at e0; simp at e0; ext <;> omega
theorem First.posB {d : C} {A B : List C} {p0 q0 : C} (h : First d A B p0 q0) {q : C} (hq : q ∈ B) (hne : q ≠ q0) : pos (T (sb q0 p0) (sb q0 q)) := by
  obtain ⟨m1, m2⟩ := h.min p0 h.pm q hq
  have e : xp (sb q0 p0) (sb q p0) = - xp (sb q0 p0) (sb q0 q) := by unfold xp sb; grind
  have e2 : dot d (sb q p0) = dot d (sb q0 p0) - dot d (sb q0 q) := by unfold dot sb; grind
  refine pos_of h.dp (by omega) (fun e0 => ?_) fun e0 => hne ?_
  · have := m2 (by omega); omega
  · unfold sb at e0; simp at e0; ext <;> omega
theorem parts_of {d : C} {A B : List C} {p0 q0 v : C} (h : First d A B p0 q0) (hv : pos (T (sb q0 p0) v)) (hA : ∀ p ∈ A, p ≠ p0 → 0 ≤ xp (sb p p0) v) (hB : ∀ q ∈ B, q ≠ q0 → 0 ≤ xp (sb q0 q) v) : Parted (-v.2, v.1) A B ∨ Parted (-v.1, -v.2) A B := by
  have hn := sq_pos h.dp
  by_cases hz : xp v (sb q0 p0) = 0
  · right
    have hz2 : xp (sb q0 p0) v = 0 := by rw [xp_neg, hz]; rfl
    have hdv : dot (sb q0 p0) v < 0 := by unfold pos T at hv; simp only at hv; omega
    have line : ∀ x, pos (T (sb q0 p0) x) → 0 ≤ xp x v → dot (sb q0 p0) x < 0 := fun x hx hxv => by
      have k : dot (sb q0 p0) (sb q0 p0) * xp x v = xp (T (sb q0 p0) v) (T (sb q0 p0) x) := (xp_T _ _ _).symm
      have k2 : xp (T (sb q0 p0) v) (T (sb q0 p0) x) = dot (sb q0 p0) v * -(xp (sb q0 p0) x) * -1 * -1 := by
        unfold T xp at *; simp only; grind
      have a := Int.mul_nonneg (Int.le_of_lt hn) hxv
      unfold pos T at hx; simp only at hx
      rcases hx with hx | hx
      · have := Int.mul_neg_of_neg_of_pos hdv hx
        omega
      · omega
    have lA : ∀ p ∈ A, dot (sb q0 p0) (sb p p0) ≤ 0 := fun p hp => by
      by_cases hpe : p = p0
      · rw [hpe]; unfold dot sb; simp
      · exact Int.le_of_lt (line _ (h.posA hp hpe) (hA p hp hpe))
    have lB : ∀ q ∈ B, dot (sb q0 p0) (sb q0 q) ≤ 0 := fun q hq => by
      by_cases hqe : q = q0
      · rw [hqe]; unfold dot sb; simp
      · exact Int.le_of_lt (line _ (h.posB hq hqe) (hB q hq hqe))
    intro p hp q hq
    have a := lA p hp
    have b := lB q hq
    have e : dot (sb q0 p0) (sb q p) = dot (sb q0 p0) (sb q0 p0) - dot (sb q0 p0) (sb p p0) - dot (sb q0 p0) (sb q0 q) := by unfold dot sb; grind
    have k := dot_par (sb q0 p0) v (sb q p)
    rw [hz2] at k
    have c := Int.mul_neg_of_neg_of_pos hdv (show 0 < dot (sb q0 p0) (sb q p) by omega)
    have f : dot v (sb q p) < 0 := by
      apply Int.not_le.1; intro hh
      have := Int.mul_nonneg (Int.le_of_lt hn) hh
      omega
    have g : dot (-v.1, -v.2) q - dot (-v.1, -v.2) p = - dot v (sb q p) := by unfold dot sb; grind
    omega
  · left
    have hpos : 0 < xp v (sb q0 p0) := by
      have : xp (sb q0 p0) v ≤ 0 := by unfold pos T at hv; simp only at hv; omega
      rw [xp_neg] at this
      omega
    intro p hp q hq
    have a : xp v (sb p p0) ≤ 0 := by
      by_cases hpe : p = p0
      · rw [hpe]; unfold xp sb; simp
      · have := hA p hp hpe; rw [xp_neg] at this; omega
    have b : xp v (sb q0 q) ≤ 0 := by
      by_cases hqe : q = q0
      · rw [hqe]; unfold xp sb; simp
      · have := hB q hq hqe; rw [xp_neg] at this; omega
    have e : dot (-v.2, v.1) q - dot (-v.2, v.1) p = xp v (sb q0 p0) - xp v (sb p p0) - xp v (sb q0 q) := by unfold dot xp sb; grind
    omega
def Poly (R : List C) : Prop := (∃ a, R = [a]) ∨ ∀ p ∈ R, ∃ x, (x, p) ∈ cyc R ∧ x ∈ R ∧ x ≠ p ∧ ∀ p' ∈ R, 0 ≤ cross x p p'
inductive Tried (A B : List C) : C → Prop
  | right (e : C × C) (h : e ∈ cyc A ∨ e ∈ cyc B) : Tried A B ((sb e.2 e.1).2, -(sb e.2 e.1).1)
  | left (e : C × C) (h : e ∈ cyc A ∨ e ∈ cyc B) : Tried A B (-(sb e.2 e.1).2, (sb e.2 e.1).1)
  | on (e : C × C) (h : e ∈ cyc A ∨ e ∈ cyc B) : Tried A B (sb e.2 e.1)
  | back (e : C × C) (h : e ∈ cyc A ∨ e ∈ cyc B) : Tried A B (-(sb e.2 e.1).1, -(sb e.2 e.1).2)
  | way (a b : C) (ha : A = [a]) (hb : B = [b]) : Tried A B (sb b a)
theorem tried_all {A B : List C} (hA : A ≠ []) (hB : B ≠ []) (pA : Poly A) (pB : Poly B) {d : C} (h : Parted d A B) : ∃ d', Tried A B d' ∧ Parted d' A B := by
  obtain ⟨p0, q0, hf⟩ := first_is hA hB h
  have hn := sq_pos hf.dp
  have viaA : ∀ x, (x, p0) ∈ cyc A → pos (T (sb q0 p0) (sb x p0)) → (∀ p ∈ A, p ≠ p0 → 0 ≤ xp (sb p p0) (sb x p0)) → (∀ q ∈ B, q ≠ q0 → 0 ≤ xp (sb q0 q) (sb x p0)) → ∃ d', Tried A B d' ∧ Parted d' A B := fun x hx h1 h2 h3 => by
    rcases parts_of hf h1 h2 h3 with k | k
    · refine ⟨_, .right (x, p0) (Or.inl hx), ?_⟩
      have e : ((sb p0 x).2, -(sb p0 x).1) = (-(sb x p0).2, (sb x p0).1) := by unfold sb; ext <;> simp <;> omega
      rw [e]; exact k
    · refine ⟨_, .on (x, p0) (Or.inl hx), ?_⟩
      have e : sb p0 x = (-(sb x p0).1, -(sb x p0).2) := by unfold sb; ext <;> simp <;> omega
      rw [e]; exact k
  have viaB : ∀ z, (z, q0) ∈ cyc B → pos (T (sb q0 p0) (sb q0 z)) → (∀ p ∈ A, p ≠ p0 → 0 ≤ xp (sb p p0) (sb q0 z)) → (∀ q ∈ B, q ≠ q0 → 0 ≤ xp (sb q0 q) (sb q0 z)) → ∃ d', Tried A B d' ∧ Parted d' A B := fun z hz h1 h2 h3 => by
    rcases parts_of hf h1 h2 h3 with k | k
    · exact ⟨_, .left (z, q0) (Or.inr hz), k⟩
    · exact ⟨_, .back (z, q0) (Or.inr hz), k⟩
  have sideA : ∀ x, (∀ p' ∈ A, 0 ≤ cross x p0 p') → ∀ p ∈ A, 0 ≤ xp (sb p p0) (sb x p0) := fun x hx p hp => by
    have := hx p hp
    have e : cross x p0 p = xp (sb p p0) (sb x p0) := by unfold cross xp sb; grind
    omega
  have sideB : ∀ z, (∀ p' ∈ B, 0 ≤ cross z q0 p') → ∀ q ∈ B, 0 ≤ xp (sb q0 q) (sb q0 z) := fun z hz q hq => by
    have := hz q hq
    have e : cross z q0 q = xp (sb q0 q) (sb q0 z) := by unfold cross xp sb; grind
    omega
  have trT : ∀ {u v w : C}, pos (T (sb q0 p0) u) → pos (T (sb q0 p0) v) → pos (T (sb q0 p0) w) → 0 ≤ xp v u → 0 ≤ xp w v → 0 ≤ xp w u := fun {u v w} h1 h2 h3 h4 h5 => by
    have := tr h1 h2 h3 (by rw [xp_T]; exact Int.mul_nonneg (Int.le_of_lt hn) h4) (by rw [xp_T]; exact Int.mul_nonneg (Int.le_of_lt hn) h5)
    rw [xp_T] at this
    exact le_of_pmul hn this
  rcases pA with ⟨a, rfl⟩ | pA
  · have ea : p0 = a := by simpa using hf.pm
    subst ea
    rcases pB with ⟨b, rfl⟩ | pB
    · refine ⟨_, .way p0 b rfl rfl, fun p hp q hq => ?_⟩
      have eb : q0 = b := by simpa using hf.qm
      subst eb
      simp at hp hq; subst hp; subst hq
      rw [dot_sb] at hn; omega
    · obtain ⟨z, hz, hzm, hzq, hzl⟩ := pB q0 hf.qm
      exact viaB z hz (hf.posB hzm hzq) (fun p hp hpe => absurd (by simpa using hp) hpe) fun q hq _ => sideB z hzl q hq
  · obtain ⟨x, hx, hxm, hxp, hxl⟩ := pA p0 hf.pm
    have hpx := hf.posA hxm hxp
    rcases pB with ⟨b, rfl⟩ | pB
    · have eb : q0 = b := by simpa using hf.qm
      subst eb
      exact viaA x hx hpx (fun p hp _ => sideA x hxl p hp) fun q hq hqe => absurd (by simpa using hq) hqe
    · obtain ⟨z, hz, hzm, hzq, hzl⟩ := pB q0 hf.qm
      have hpz := hf.posB hzm hzq
      by_cases hc : 0 ≤ xp (sb x p0) (sb q0 z)
      · exact viaB z hz hpz (fun p hp hpe => trT hpz hpx (hf.posA hp hpe) hc (sideA x hxl p hp)) fun q hq _ => sideB z hzl q hq
      · exact viaA x hx hpx (fun p hp _ => sideA x hxl p hp) fun q hq hqe => trT hpx hpz (hf.posB hq hqe) (by rw [xp_neg]; omega) (sideB z hzl q hq)
end Go.Geo
namespace Go.Geo
theorem steps_len : ∀ l : List C, (steps l).length = l.length - 1
  | [] => rfl
  | [_] => rfl
  | _ :: b :: r => by simp only [steps, List.length_cons]; rw [steps_len (b :: r)]; simp
theorem steps_at : ∀ (l : List C) (i : Nat) (a b : C), l[i]? = some a → l[i + 1]? = some b → (steps l)[i]? = some (a, b)
  | [], _, _, _, h, _ => by simp at h
  | [_], i, _, _, _, h => by simp at h
  | x :: y :: r, 0, a, b, h1, h2 => by simp at h1 h2; subst h1; subst h2; rfl
  | x :: y :: r, i + 1, a, b, h1, h2 => by
    simp only [steps, List.getElem?_cons_succ] at h1 h2 ⊢
    exact steps_at (y :: r) i a b h1 h2
theorem cyc_len (r : List C) : (cyc r).length = r.length := by
  cases r with
  | nil => rfl
  | cons a t => simp only [cyc]; rw [steps_len]; simp
theorem cyc_at {r : List C} {i j : Nat} {a b : C} (ha : r[i]? = some a) (hj : j = (i + 1) % r.length) (hb : r[j]? = some b) : (cyc r)[i]? = some (a, b) := by
  cases r with
  | nil => simp at ha
  | cons x t =>
    have hi := (List.getElem?_eq_some_iff.1 ha).1
    simp only [cyc]
    refine steps_at _ i a b ?_ ?_
    · rw [List.getElem?_append_left hi]; exact ha
    · by_cases h : i + 1 < (x :: t).length
      · rw [Nat.mod_eq_of_lt h] at hj
        subst hj
        rw [List.getElem?_append_left h]; exact hb
      · have e : i + 1 = (x :: t).length := by omega
        rw [e, Nat.mod_self] at hj
        subst hj
        simp at hb; subst hb
        rw [e, List.getElem?_append_right (Nat.le_refl _), Nat.sub_self]; rfl
theorem steps_mem : ∀ {l : List C} {e : C × C}, e ∈ steps l → e.1 ∈ l ∧ e.2 ∈ l
  | [], _, h => by simp [steps] at h
  | [_], _, h => by simp [steps] at h
  | a :: b :: r, e, h => by
    simp only [steps, List.mem_cons] at h
    rcases h with rfl | h
    · simp
    · have := steps_mem (l := b :: r) h
      exact ⟨List.mem_cons_of_mem _ this.1, List.mem_cons_of_mem _ this.2⟩
theorem cyc_mem {r : List C} {e : C × C} (h : e ∈ cyc r) : e.1 ∈ r ∧ e.2 ∈ r := by
  cases r with
  | nil => simp [cyc] at h
  | cons a t =>
    simp only [cyc] at h
    have := steps_mem h
    simp only [List.mem_append, List.mem_cons, List.not_mem_nil, or_false] at this ⊢
    constructor
    · rcases this.1 with h | h; exact h; exact Or.inl h
    · rcases this.2 with h | h; exact h; exact Or.inl h
theorem cyc_into {r : List C} (h2 : 2 ≤ r.length) (hn : r.Nodup) {p : C} (hp : p ∈ r) : ∃ x, (x, p) ∈ cyc r ∧ x ∈ r ∧ x ≠ p := by
  obtain ⟨s, t, rfl⟩ := List.append_of_mem hp
  rcases List.eq_nil_or_concat s with rfl | ⟨s', x, rfl⟩
  · rcases List.eq_nil_or_concat t with rfl | ⟨t', x, rfl⟩
    · simp at h2
    · refine ⟨x, ?_, by simp, ?_⟩
      · simp only [List.concat_eq_append, List.nil_append, cyc]
        have := steps_snoc x p (p :: t')
        simp only [List.cons_append, List.append_assoc, List.nil_append] at this ⊢
        rw [this]; simp
      · intro e; subst e; simp at hn
  · refine ⟨x, ?_, by simp, ?_⟩
    · simp only [List.concat_eq_append, List.append_assoc, List.singleton_append]
      cases s' with
      | nil => simp [cyc, steps]
      | cons a s' =>
        simp only [List.cons_append, cyc]
        have := steps_app x (p :: (t ++ [a])) (a :: s')
        simp only [List.cons_append, List.append_assoc] at this ⊢
        rw [this]; simp [steps]
    · intro e; subst e
      simp only [List.concat_eq_append, List.append_assoc, List.singleton_append] at hn
      have := (List.nodup_append.1 hn).2.1
      simp at this
theorem poly_hull {l : List C} (h : Sorted l) : Poly (hullS l) := by
  by_cases h2 : 2 ≤ (hullS l).length
  · right
    intro p hp
    obtain ⟨x, hx, hxm, hxp⟩ := cyc_into h2 (nd_lo h) hp
    refine ⟨x, hx, hxm, hxp, fun q hq => ?_⟩
    have hi := hull_in h q (hull_sub h q hq)
    exact hi.1 _ hx
  · by_cases h0 : hullS l = []
    · right; rw [h0]; intro p hp; simp at hp
    · left
      obtain ⟨a, t, e⟩ := List.exists_cons_of_ne_nil h0
      rw [e] at h2
      have : t = [] := by cases t with | nil => rfl | cons b r => exact absurd (by simp) h2
      exact ⟨a, by rw [e, this]⟩
end Go.Geo
namespace Go.Proofs.Try
open Go.Psl
open Go.Geo (cross cyc InR box)
def leftL (p : Int × Int) (es : List ((Int × Int) × (Int × Int))) : Bool := es.all fun e => decide (0 ≤ cross e.1 e.2 p)
theorem leftL_take {p : Int × Int} {es : List ((Int × Int) × (Int × Int))} {i : Nat} {e : (Int × Int) × (Int × Int)} (h : es[i]? = some e) : leftL p (es.take (i + 1)) = (leftL p (es.take i) && decide (0 ≤ cross e.1 e.2 p)) := by
  unfold leftL
  rw [List.take_add_one, h, List.all_append]; simp
theorem leftL_no {p : Int × Int} {es : List ((Int × Int) × (Int × Int))} {i : Nat} {e : (Int × Int) × (Int × Int)} (h : es[i]? = some e) (hc : cross e.1 e.2 p < 0) : leftL p es = false := by
  unfold leftL
  rw [List.all_eq_false]
  exact ⟨e, List.mem_of_getElem? h, by simp; omega⟩
theorem leftL_iff {p : Int × Int} {es : List ((Int × Int) × (Int × Int))} : leftL p es = true ↔ ∀ e ∈ es, 0 ≤ cross e.1 e.2 p := by
  unfold leftL; simp [List.all_eq_true]
def winB (n lo hi : Int) : Bool := decide (lo ≤ n) && decide (n ≤ hi)
def insS (r : List (Int × Int)) (p : Int × Int) : Bool := match r with
  | [] => false
  | [a] => decide (a = p)
  | a :: b :: t => leftL p (cyc r) && (decide (0 < t.length) || (winB p.1 a.1 b.1 && winB p.2 (min a.2 b.2) (max a.2 b.2)))
set_option maxHeartbeats 4000000 in
set_option maxRecDepth 20000 in
theorem fn97 (r : List (Int × Int)) (p : Int × Int) (h1 : 1 ≤ r.length) (hl : r.length ≤ 1000000) (hr : ∀ q ∈ r, bd 536870912 q) (hp : bd 536870912 p) : Ct prog 97 [.d (spansD r), vsp p.1 p.2] (vb (insS r p)) [] := by
  match r, h1, hl, hr with
  | [], h1, _, _ => simp at h1
  | [a], _, _, _ =>
    have e : insS [a] p = (decide (a.1 = p.1) && decide (a.2 = p.2)) := by
      unfold insS; rw [Bool.eq_iff_iff]; simp [Prod.ext_iff]
    refine Ct.by gok eok mixed func97 c97 rfl (by simp [ntmps97]) (by simp) (by simp [ResIds]) fun E hE => ?_
    simp [p97, inC, Nat.testBit]
    refine RetOk.by (fun _ => none) ?_
    simp [results97, e]
  | a :: b :: t, _, hl, hr =>
    obtain ⟨n, hn⟩ : ∃ n, (a :: b :: t).length = n := ⟨_, rfl⟩
    have hn2 : 2 ≤ n := by rw [← hn]; simp
    have e : insS (a :: b :: t) p = (leftL p (cyc (a :: b :: t)) && (decide ((2 : Int) < n) || (winB p.1 a.1 b.1 && winB p.2 (min a.2 b.2) (max a.2 b.2)))) := by
      show (leftL p (cyc (a :: b :: t)) && (decide (0 < t.length) || (winB p.1 a.1 b.1 && winB p.2 (min a.2 b.2) (max a.2 b.2)))) = _
      rw [decide_eq_decide.2 (show 0 < t.length ↔ (2 : Int) < n by rw [← hn]; simp; omega)]
    have g0 : (a :: b :: t)[0]? = some a := rfl
    have g1 : (a :: b :: t)[1]? = some b := rfl
    obtain ⟨R, hR⟩ : ∃ R, a :: b :: t = R := ⟨_, rfl⟩
    rw [hR] at hn e g0 g1 hr hl ⊢
    rw [hn] at hl
    have hn1 : ¬ (n : Int) = 1 := by omega
    have hcl := Go.Geo.cyc_len R
    refine Ct.by gok eok mixed func97 c97 rfl (by simp [ntmps97]) (by simp) (by simp [ResIds]) fun E hE => ?_
    simp [p97, hn, hn1]
    refine pw_loop (α := Nat) (fun i => ⟨slots [(0, .d (spansD R)), (3, .lp 0 0), (5, vi i)], lk [(0, [vi p.1, vi p.2])], 1⟩) (fun i => i ≤ n ∧ leftL p ((cyc R).take i) = true) (fun i => n - i) 0 ?_ ?_ ?_
    · simp [leftL]
    · refine Weak.mk hE (lk [(0, 0)]) _ _ _ ?_ ?_ ?_ ?_ ?_ <;> simp
    · rintro i ⟨hi, hg⟩
      simp [p97l0, hn]
      refine cR_split (fun h => ?_) (fun h => ?_)
      · simp at h
        have hil : i < R.length := by omega
        have hz : IntKind.wrap .i64 ((i : Int) + 1) = ((i + 1 : Nat) : Int) := by rw [wrap64 (by omega) (by omega)]; omega
        obtain ⟨x, hx⟩ : ∃ x, R[i]? = some x := ⟨R[i], by simp [hil]⟩
        obtain ⟨j, hj⟩ : ∃ j, j = (i + 1) % n := ⟨_, rfl⟩
        have hjn : j < n := by rw [hj]; exact Nat.mod_lt _ (by omega)
        obtain ⟨y, hy⟩ : ∃ y, R[j]? = some y := ⟨R[j], by simp [show j < R.length by omega]⟩
        have hcy := Go.Geo.cyc_at hx (by rw [hn]; exact hj) hy
        obtain ⟨i1, hi1⟩ : ∃ i1, i1 = i + 1 := ⟨_, rfl⟩
        rw [← hi1] at hz hj
        have q1 : (0 : Int) ≤ (i1 : Int).tmod (n : Int) := Int.natCast_nonneg (i1 % n)
        have q2 : ((i1 : Int).tmod (n : Int)).toNat = j := by rw [hj]; rfl
        have hnz : ¬ (n : Int) = 0 := by omega
        have hnz' : ¬ n = 0 := by omega
        have c := fn136 x y p (hr x (List.mem_of_getElem? hx)) (hr y (List.mem_of_getElem? hy)) hp
        simp [hx, hz, hn, inC, Nat.testBit, hnz', q1, q2, hy]
        refine ACall.mk _ _ _ (c) (by first | (simp; done) | simp [Bor_ls, Bor1_ls]) (by simp) (by first | (left; simp; done) | (right; simp; done)) ?_
        by_cases hc : cross x y p < 0
        · simp [hc]
          refine RetOk.by (fun _ => none) ?_
          simp [results97, e, leftL_no hcy hc]
        · simp [hc, hz]
          refine ⟨i1, ⟨by omega, by rw [hi1, leftL_take hcy, hg, decide_eq_true (by simp only; omega)]; rfl⟩, by omega, ?_⟩
          refine Weak.mk hE (lk [(0, 0)]) _ _ _ ?_ ?_ ?_ ?_ ?_ <;> simp
      · simp at h
        have ein : i = n := by omega
        have hg2 : leftL p (cyc R) = true := by rw [ein, ← hn, ← hcl, List.take_length] at hg; exact hg
        rw [hg2] at e
        by_cases h3 : (2 : Int) < n
        · rw [decide_eq_true h3] at e
          simp [hn, h3]
          refine RetOk.by (fun _ => none) ?_
          simp [results97, e]
        · rw [decide_eq_false h3] at e
          have d1 := fn79 p.1 a.1 b.1
          have d2 := fn79 p.2 (min a.2 b.2) (max a.2 b.2)
          obtain ⟨B, hB⟩ : ∃ B, winB p.1 a.1 b.1 = B := ⟨_, rfl⟩
          obtain ⟨B2, hB2⟩ : ∃ B2, winB p.2 (min a.2 b.2) (max a.2 b.2) = B2 := ⟨_, rfl⟩
          rw [hB, hB2] at e
          rw [show (decide (a.1 ≤ p.1) && decide (p.1 ≤ b.1)) = B from hB] at d1
          rw [show (decide (min a.2 b.2 ≤ p.2) && decide (p.2 ≤ max a.2 b.2)) = B2 from hB2] at d2
          have hn0i : (0 : Int) < (n : Int) ∧ (1 : Int) < (n : Int) := by omega
          simp [inC, Nat.testBit, hn, h3, g0, g1]
          refine ACall.mk _ _ _ (d1) (by first | (simp; done) | simp [Bor_ls, Bor1_ls]) (by simp) (by first | (left; simp; done) | (right; simp; done)) ?_
          cases B
          · simp
            refine RetOk.by (fun _ => none) ?_
            simp [results97, e]
          · simp [inC, Nat.testBit, g0, g1]
            refine ACall.mk _ _ _ (d2) (by first | (simp; done) | simp [Bor_ls, Bor1_ls]) (by simp) (by first | (left; simp; done) | (right; simp; done)) ?_
            cases B2
            · simp
              refine RetOk.by (fun _ => none) ?_
              simp [results97, e]
            · simp
              refine RetOk.by (fun _ => none) ?_
              simp [results97, e]
end Go.Proofs.Try
namespace Go.Psl
variable {P : Program} {Γ : Tys} {eqs : Eqs} {E : Ent}
def rid (ks : List Nat) (i : Nat) : Option Nat := if i ∈ ks then some i else none
structure KeepOk (ks : List Nat) (L : List (Nat × List V)) : Prop where
  names : L.map (·.1) = ks
  nd : ks.Nodup
  cells : ∀ p ∈ L, p.2 ≠ [] ∧ cellsOk p.2 ∧ ∀ c ∈ p.2, WC (rid ks) c c
theorem rid_in {ks : List Nat} {i : Nat} (h : i ∈ ks) : rid ks i = some i := by simp [rid, h]
theorem lk_nd : ∀ {L : List (Nat × List V)}, (L.map (·.1)).Nodup → ∀ p ∈ L, lk L p.1 = some p.2
  | [], _, p, hp => by simp at hp
  | q :: r, hn, p, hp => by
    simp only [List.map_cons, List.nodup_cons] at hn
    simp only [lk]
    rcases List.mem_cons.1 hp with rfl | hp
    · simp
    · have : p.1 ≠ q.1 := fun e => hn.1 (e ▸ List.mem_map.2 ⟨p, hp, rfl⟩)
      rw [if_neg this]
      exact lk_nd hn.2 p hp
section
variable {ks : List Nat} {L L1 : List (Nat × List V)}
theorem KeepOk.lk (h : KeepOk ks L) {p : Nat × List V} (hp : p ∈ L) : Go.Psl.lk L p.1 = some p.2 := lk_nd (by rw [h.names]; exact h.nd) p hp
theorem KeepOk.mem (h : KeepOk ks L) {p : Nat × List V} (hp : p ∈ L) : p.1 ∈ ks := by rw [← h.names]; exact List.mem_map.2 ⟨p, hp, rfl⟩
theorem KeepOk.isIn (h : KeepOk ks L) {i : Nat} : (Go.Psl.lk L i).isSome = true ↔ i ∈ ks := by
  constructor
  · intro hi
    obtain ⟨x, hx⟩ := Option.isSome_iff_exists.1 hi
    exact h.mem (p := (i, x)) (lk_mem' hx)
  · intro hi
    rw [← h.names] at hi
    obtain ⟨p, hp, rfl⟩ := List.mem_map.1 hi
    rw [h.lk hp]; rfl
theorem rid_some {i j : Nat} (h : rid ks i = some j) : i ∈ ks ∧ j = i := by
  unfold rid at h; split at h
  · cases h; exact ⟨by assumption, rfl⟩
  · cases h
theorem W0_rid {c : V} (h : W0 (rid ks) c c) : A0 (· ∈ ks) anyD c ∧ ∀ b, ren0 (sg ks b) c = c := by
  cases c with
  | junk => exact ⟨trivial, fun _ => rfl⟩
  | d x => exact ⟨trivial, fun _ => rfl⟩
  | lp i o =>
    obtain ⟨j, hj, _⟩ := h
    have hi := (rid_some hj).1
    exact ⟨hi, fun b => by simp [ren0, sg, hi]⟩
  | ls i o l z =>
    unfold W0 at h
    simp only at h
    split at h
    · rename_i j hj
      have hi := (rid_some hj).1
      exact ⟨hi, fun b => by simp [ren0, sg, hi]⟩
    · cases h.2
  | yl i =>
    obtain ⟨j, hj, _⟩ := h
    have hi := (rid_some hj).1
    exact ⟨hi, fun b => by simp [ren0, sg, hi]⟩
  | lr => exact False.elim h
  | cl f cs => exact ⟨trivial, fun _ => rfl⟩
  | agg cs => exact ⟨trivial, fun _ => rfl⟩
  | tup cs => exact ⟨trivial, fun _ => rfl⟩
theorem map_same {α : Type} {f : α → α} : ∀ {l : List α}, (∀ x ∈ l, f x = x) → l.map f = l
  | [], _ => rfl
  | a :: l, h => by rw [List.map_cons, h a (by simp), map_same fun x hx => h x (List.mem_cons_of_mem _ hx)]
theorem all2_same {α : Type} {R : α → α → Prop} : ∀ {l : List α}, All2 R l l → ∀ x ∈ l, R x x
  | [], _, _, hx => by simp at hx
  | a :: l, h, x, hx => by
    rcases List.mem_cons.1 hx with rfl | hx
    · exact h.1
    · exact all2_same h.2 x hx
theorem all2_refl {α : Type} {R : α → α → Prop} : ∀ {l : List α}, (∀ x ∈ l, R x x) → All2 R l l
  | [], _ => trivial
  | a :: l, h => ⟨h a (by simp), all2_refl fun x hx => h x (List.mem_cons_of_mem _ hx)⟩
theorem A0_ren {c : V} (h : A0 (· ∈ ks) anyD c) (b : Nat) : ren0 (sg ks b) c = c := by
  cases c <;> first | rfl | (have h2 : _ ∈ ks := h; simp [ren0, sg, h2]) | exact False.elim h
theorem A1_ren {c : V} (h : A1 (· ∈ ks) anyD c) (b : Nat) : ren1 (sg ks b) c = c := by
  cases c with
  | cl f cs => simp only [ren1]; rw [map_same fun x hx => A0_ren (h x hx) b]
  | junk => exact A0_ren (ks := ks) (c := .junk) h b
  | d x => exact A0_ren (ks := ks) (c := .d x) h b
  | lp i o => exact A0_ren (ks := ks) (c := .lp i o) h b
  | ls i o l z => exact A0_ren (ks := ks) (c := .ls i o l z) h b
  | yl i => exact A0_ren (ks := ks) (c := .yl i) h b
  | lr f n p pa pb j => exact A0_ren (ks := ks) (c := .lr f n p pa pb j) h b
  | agg cs => exact A0_ren (ks := ks) (c := .agg cs) h b
  | tup cs => exact A0_ren (ks := ks) (c := .tup cs) h b
theorem A2_ren {c : V} (h : A2 (· ∈ ks) anyD c) (b : Nat) : ren2 (sg ks b) c = c := by
  cases c with
  | agg cs => simp only [ren2]; rw [map_same fun x hx => A1_ren (h x hx) b]
  | junk => exact A1_ren (ks := ks) (c := .junk) h b
  | d x => exact A1_ren (ks := ks) (c := .d x) h b
  | lp i o => exact A1_ren (ks := ks) (c := .lp i o) h b
  | ls i o l z => exact A1_ren (ks := ks) (c := .ls i o l z) h b
  | yl i => exact A1_ren (ks := ks) (c := .yl i) h b
  | lr f n p pa pb j => exact A1_ren (ks := ks) (c := .lr f n p pa pb j) h b
  | cl f cs => exact A1_ren (ks := ks) (c := .cl f cs) h b
  | tup cs => exact A1_ren (ks := ks) (c := .tup cs) h b
theorem AV_ren {c : V} (h : AV (· ∈ ks) anyD c) (b : Nat) : ren (sg ks b) c = c := by
  cases c with
  | tup cs => simp only [ren]; rw [map_same fun x hx => A2_ren (h x hx) b]
  | junk => exact A2_ren (ks := ks) (c := .junk) h b
  | d x => exact A2_ren (ks := ks) (c := .d x) h b
  | lp i o => exact A2_ren (ks := ks) (c := .lp i o) h b
  | ls i o l z => exact A2_ren (ks := ks) (c := .ls i o l z) h b
  | yl i => exact A2_ren (ks := ks) (c := .yl i) h b
  | lr f n p pa pb j => exact A2_ren (ks := ks) (c := .lr f n p pa pb j) h b
  | cl f cs => exact A2_ren (ks := ks) (c := .cl f cs) h b
  | agg cs => exact A2_ren (ks := ks) (c := .agg cs) h b
theorem WC_rid {c : V} (h : WC (rid ks) c c) : AC (· ∈ ks) anyD c ∧ ∀ b, renC (sg ks b) c = c := by
  cases c with
  | lr fr nt ps pa pb jmp =>
    have h2 : ∀ t, AV (· ∈ ks) anyD (fr t) := fun t => AV.mono (fun i hi => (rid_some hi).1) (fun _ h => h) (h.2 t)
    refine ⟨h2, fun b => ?_⟩
    simp only [renC]
    congr 1
    funext t; exact AV_ren (h2 t) b
  | cl f cs =>
    obtain ⟨cs', e, h2⟩ := h
    cases e
    have h3 := all2_same h2
    exact ⟨fun c hc => (W0_rid (h3 c hc)).1, fun b => by simp only [renC, ren1]; rw [map_same fun x hx => (W0_rid (h3 x hx)).2 b]⟩
  | junk => exact ⟨trivial, fun _ => rfl⟩
  | d x => exact ⟨trivial, fun _ => rfl⟩
  | lp i o => exact W0_rid (c := .lp i o) h
  | ls i o l z => exact W0_rid (c := .ls i o l z) h
  | yl i => exact W0_rid (c := .yl i) h
  | agg cs => exact False.elim h
  | tup cs => exact False.elim h
theorem KeepOk.ac (h : KeepOk ks L) {p : Nat × List V} (hp : p ∈ L) : ∀ c ∈ p.2, AC (· ∈ ks) anyD c := fun c hc => (WC_rid ((h.cells p hp).2.2 c hc)).1
theorem KeepOk.hp (h : KeepOk ks L) {H : Hp} (hH : ∀ i ∈ ks, H i = Go.Psl.lk L i) : HpOk (rid ks) H L := by
  have key : ∀ M : List (Nat × List V), (∀ p ∈ M, p ∈ L) → HpOk (rid ks) H M := by
    intro M
    induction M with
    | nil => intro _; trivial
    | cons p r ih =>
      intro hM
      have hp := hM p (by simp)
      have hm := h.mem hp
      obtain ⟨c1, c2, c3⟩ := h.cells p hp
      refine ⟨?_, ih fun q hq => hM q (List.mem_cons_of_mem _ hq)⟩
      rw [rid_in hm]
      exact ⟨⟨p.2, by rw [hH _ hm, h.lk hp], all2_refl c3⟩, c2⟩
  exact key L fun _ h => h
theorem KeepOk.inj (h : KeepOk ks L) : RhoInj (rid ks) L := by
  have key : ∀ M : List (Nat × List V), (∀ p ∈ M, p ∈ L) → RhoInj (rid ks) M := by
    intro M
    induction M with
    | nil => intro _; trivial
    | cons p r ih =>
      intro hM
      refine ⟨fun q hq => ?_, ih fun q hq => hM q (List.mem_cons_of_mem _ hq)⟩
      have h1 := h.mem (hM p (by simp))
      have h2 := h.mem (hM q (List.mem_cons_of_mem _ hq))
      rw [rid_in h1, rid_in h2]
      by_cases e : q.1 = p.1
      · exact Or.inr (Or.inr e)
      · exact Or.inr (Or.inl fun e' => e (Option.some.inj e'))
  exact key L fun _ h => h
theorem KeepOk.stab (_ : KeepOk ks L) {H : Hp} (hH : ∀ i ∈ ks, H i = Go.Psl.lk L i) : StabL (rid ks) H (Go.Psl.lk L) ks := by
  have key : ∀ M : List Nat, (∀ i ∈ M, i ∈ ks) → StabL (rid ks) H (Go.Psl.lk L) M := by
    intro M
    induction M with
    | nil => intro _; trivial
    | cons i r ih =>
      intro hM
      have hi := hM i (by simp)
      exact ⟨fun hs => ⟨rid_in hi, by rw [hH i hi]; exact hs⟩, ih fun j hj => hM j (List.mem_cons_of_mem _ hj)⟩
  exact key ks fun _ h => h
theorem KeepOk.stabW (_ : KeepOk ks L) {H : Hp} (hH : ∀ i ∈ ks, H i = Go.Psl.lk L i) {n : Nat} (hn : ∀ i ∈ ks, i < n) : StabW (rid ks) H (Go.Psl.lk L) n ks := by
  have key : ∀ M : List Nat, (∀ i ∈ M, i ∈ ks) → StabW (rid ks) H (Go.Psl.lk L) n M := by
    intro M
    induction M with
    | nil => intro _; trivial
    | cons i r ih =>
      intro hM
      have hi := hM i (by simp)
      exact ⟨hn i hi, fun hs => ⟨rid_in hi, by rw [hH i hi]; exact hs⟩, ih fun j hj => hM j (List.mem_cons_of_mem _ hj)⟩
  exact key ks fun _ h => h
theorem KeepOk.ids (h : KeepOk ks L) {n : Nat} (hn : ∀ i ∈ ks, i < n) : HpIds n L := by
  have key : ∀ M : List (Nat × List V), (∀ p ∈ M, p ∈ L) → HpIds n M := by
    intro M
    induction M with
    | nil => intro _; trivial
    | cons p r ih =>
      intro hM
      have hp := hM p (by simp)
      exact ⟨hn _ (h.mem hp), fun c hc => AC.mono hn (fun _ h => h) (h.ac hp c hc), ih fun q hq => hM q (List.mem_cons_of_mem _ hq)⟩
  exact key L fun _ h => h
theorem KeepOk.res (h : KeepOk ks L) : ∀ p ∈ L, ∀ c ∈ p.2, AC (InB L) anyD c := fun _ hp c hc => AC.mono (fun _ hi => h.isIn.2 hi) (fun _ h => h) (h.ac hp c hc)
theorem Weak.keep {st : St} (hs : ∀ i, E.stab i ↔ i ∈ ks) (h : KeepOk ks L) (hH : ∀ i ∈ ks, st.H i = Go.Psl.lk L i) {n : Nat} (hn : ∀ i ∈ ks, i < n) (l : List (Nat × V)) (h1 : SlotsOk (rid ks) st.fr l) (h4 : SlotsIds n l) : Weak P E st ⟨slots l, Go.Psl.lk L, n⟩ :=
  Weak.mkM hs (rid ks) l L n h1 (h.hp hH) h.inj h4 (h.ids hn) (h.stabW hH hn)
theorem heapM_keep {H : Hp} {b : Nat} (hL : KeepOk ks L) (hL1 : KeepOk ks L1) : heapM H b (Go.Psl.lk L) ks (Go.Psl.lk L1) = fun i => if i ∈ ks then Go.Psl.lk L1 i else H i := by
  funext i
  unfold heapM
  by_cases hi : i ∈ ks
  · simp only [hi, if_true]
    have h1 := hL1.isIn.2 hi
    obtain ⟨x, hx⟩ := Option.isSome_iff_exists.1 h1
    rw [hx]
    have hm := hL1.cells (i, x) (lk_mem' hx)
    simp only [Option.map_some]
    rw [map_same fun c hc => (WC_rid (hm.2.2 c hc)).2 b]
  · simp only [hi, if_false]
    have h2 : (Go.Psl.lk L i).isSome = false := by
      cases hc : (Go.Psl.lk L i).isSome with
      | false => rfl
      | true => exact absurd (hL.isIn.1 hc) hi
    rw [h2]
    simp only [Bool.false_eq_true, if_false]
    split
    · split
      · rfl
      · rename_i hn
        have h3 : Go.Psl.lk L1 (i - b) = none := by
          cases hc : Go.Psl.lk L1 (i - b) with
          | none => rfl
          | some x => exact absurd (hL1.isIn.1 (by rw [hc]; rfl)) hn
        rw [h3]
    · rfl
theorem callB_keep {H : Hp} {av args : List V} {res : Res} (hL : KeepOk ks L) (hL1 : KeepOk ks L1) (hH : ∀ i ∈ ks, H i = Go.Psl.lk L i) (hb : All2 (Bor noH) av args) : CallB H av args (Go.Psl.lk L) ks res (Go.Psl.lk L1) :=
  ⟨fun i cs h => by rw [hH i (hL.isIn.1 (by rw [h]; rfl)), h], fun i h hn => absurd (hL1.isIn.1 h) hn, fun i hi => by
    obtain ⟨x, hx⟩ := Option.isSome_iff_exists.1 (hL.isIn.2 hi)
    exact ⟨x, hx, (hL.cells (i, x) (lk_mem' hx)).1⟩, Or.inl hb⟩
theorem AYield.keep {H : Hp} {b k : Nat} {av : List V} {Kc Kx : V → Hp → Prop} (args : List V) (L L1 : List (Nat × List V)) (ks : List Nat) (r : D) (hf : Ym P k args (Go.Psl.lk L) ks (.ret (.d r)) (Go.Psl.lk L1)) (hL : KeepOk ks L) (hL1 : KeepOk ks L1)
    (hrec : ∃ fr nt ps pa pb jmp, Go.Psl.lk L k = some [.lr fr nt ps pa pb jmp] ∧ ps.length = args.length) (hH : ∀ i ∈ ks, H i = Go.Psl.lk L i) (hb : All2 (Bor noH) av args) (hk : Kc (.d r) (fun i => if i ∈ ks then Go.Psl.lk L1 i else H i)) : AYield P true H H b k av Kc Kx :=
  ⟨rfl, args, Go.Psl.lk L, ks, .ret (.d r), Go.Psl.lk L1, _, ⟨hf, hrec, callB_keep hL hL1 hH hb⟩, (heapM_keep hL hL1).symm, hk⟩
theorem ACall.keep {H : Hp} {b : Nat} {g : FuncId} {av : List V} {Kc Kx : V → Hp → Prop} (args : List V) (L L1 : List (Nat × List V)) (ks : List Nat) (r : V) (hf : Cm P g args (Go.Psl.lk L) ks (.ret r) (Go.Psl.lk L1)) (hL : KeepOk ks L) (hL1 : KeepOk ks L1) (hr : AV (· ∈ ks) anyD r)
    (hH : ∀ i ∈ ks, H i = Go.Psl.lk L i) (hb : All2 (Bor noH) av args) (hk : Kc r (fun i => if i ∈ ks then Go.Psl.lk L1 i else H i)) : ACall P true H H b g av Kc Kx :=
  ⟨args, Go.Psl.lk L, ks, .ret r, Go.Psl.lk L1, _, ⟨hf, callB_keep hL hL1 hH hb⟩, nofun, (heapM_keep hL hL1).symm, by show Kc (ren (sg ks b) r) _; rw [AV_ren hr]; exact hk⟩
theorem RetM.keep {fn : Func} {st : St} (hn : fn.results = #[]) (h : KeepOk ks L) (hH : ∀ i ∈ ks, st.H i = Go.Psl.lk L i) : RetM Γ fn ks (.tup []) L st :=
  ⟨[], rid ks, by rw [hn]; rfl, rfl, by simp, h.hp hH, h.inj, h.stab hH⟩
theorem PRange.keep {fo : Operand} {ps : List Nat} {pa pb : PC} {Q : AExit → St → Prop} {f : Nat → V} {H : Hp} {n : Nat} {g : FuncId} {caps : List V} (L L1 : List (Nat × List V)) (ks : List Nat) (r : V) (jmp : LSt) (h0 : E.rd = none) (hg : calleeOf (evF f fo) = some (g, caps))
    (hf : Cm P g (.yl n :: caps) (Go.Psl.lk ((n, [.lr f E.nt ps pa pb .ready]) :: L)) (n :: ks) (.ret r) (Go.Psl.lk ((n, [.lr f E.nt ps pa pb jmp]) :: L1)))
    (hL : KeepOk (n :: ks) ((n, [.lr f E.nt ps pa pb .ready]) :: L)) (hL1 : KeepOk (n :: ks) ((n, [.lr f E.nt ps pa pb jmp]) :: L1)) (hH : ∀ i ∈ ks, H i = Go.Psl.lk L i) (hb : All2 (Bor noH) caps caps)
    (hq : jumpQ Q ⟨f, fun i => if i = n then none else if i ∈ ks then Go.Psl.lk L1 i else H i, n + 2097152⟩ jmp) : PW P Γ eqs E (.rangeF fo ps pa pb) Q ⟨f, H, n⟩ := by
  have hH' : ∀ i ∈ n :: ks, upd H n (some [.lr f E.nt ps pa pb .ready]) i = Go.Psl.lk ((n, [.lr f E.nt ps pa pb .ready]) :: L) i := fun i hi => by
    simp only [upd_at, Go.Psl.lk]
    by_cases e : i = n
    · simp [e]
    · simp only [e, if_false]
      rcases List.mem_cons.1 hi with h | h
      · exact absurd h e
      · exact hH i h
  refine ⟨h0, g, caps, .yl n :: caps, _, n :: ks, .ret r, _, hg, ⟨hf, callB_keep hL hL1 hH' ⟨rfl, hb⟩⟩, by simp, jmp, by simp [Go.Psl.lk], ?_⟩
  have e : upd (heapM (upd H n (some [.lr f E.nt ps pa pb .ready])) (n + 1048576) (Go.Psl.lk ((n, [.lr f E.nt ps pa pb .ready]) :: L)) (n :: ks) (Go.Psl.lk ((n, [.lr f E.nt ps pa pb jmp]) :: L1))) n none = fun i => if i = n then none else if i ∈ ks then Go.Psl.lk L1 i else H i := by
    rw [heapM_keep hL hL1]
    funext i
    simp only [upd_at]
    by_cases h : i = n
    · simp [h]
    · simp [h, Go.Psl.lk]
  show jumpQ Q ⟨f, upd (heapM _ _ _ _ _) n none, n + 2097152⟩ jmp
  rw [e]; exact hq
theorem RndM.keep {k : Nat} {rc : LSt → V} {s : LSt} {st : St} (h : KeepOk ks L) (hb : st.H k = some [rc .busy]) (hH : ∀ i ∈ ks, upd st.H k (some [rc s]) i = Go.Psl.lk L i) : RndM k rc s ks L st :=
  ⟨hb, rid ks, h.hp hH, h.inj, h.stab hH⟩
end
structure Rnd (P : Program) (Γ : Tys) (eqs : Eqs) (k : Nat) (fr : Nat → V) (nt : Nat) (ps : List Nat) (pa pb : PC) (args : List V) (Hin : Hp) (ks : List Nat) (s : LSt) (H1 : List (Nat × List V)) (N : Nat) : Prop where
  run : ∀ E : Ent, E.nt = nt → (∀ i, E.stab i ↔ i ∈ ks) → PW P Γ eqs E pa (seqQ (fun st => st.H k = some [.lr fr nt ps pa pb .ready] ∧ PW P Γ eqs E pb (rndQ k (.lr fr nt ps pa pb) s ks H1) ⟨st.fr, upd st.H k (some [.lr fr nt ps pa pb .busy]), st.nx⟩) (fun _ _ => False)) ⟨frPuts fr ps args, Hin, N⟩
end Go.Psl
namespace Go.Psl
variable {P : Program} {Γ : Tys} {eqs : Eqs} {E : Ent}
def CX (ks xs : List Nat) (c : V) : Prop := match c with
  | .lr fr _ _ _ _ _ => ∀ t, AV (· ∈ ks) anyD (fr t)
  | c => W1 (rid (ks ++ xs)) c c
structure KeepX (ks xs : List Nat) (L : List (Nat × List V)) : Prop where
  names : L.map (·.1) = ks ++ xs
  nd : (ks ++ xs).Nodup
  cells : ∀ p ∈ L, p.2 ≠ [] ∧ cellsOk p.2 ∧ ∀ c ∈ p.2, CX ks xs c
section
variable {ks xs xs1 : List Nat} {L L1 : List (Nat × List V)}
theorem KeepX.lk (h : KeepX ks xs L) {p : Nat × List V} (hp : p ∈ L) : Go.Psl.lk L p.1 = some p.2 := lk_nd (by rw [h.names]; exact h.nd) p hp
theorem KeepX.mem (h : KeepX ks xs L) {p : Nat × List V} (hp : p ∈ L) : p.1 ∈ ks ++ xs := by rw [← h.names]; exact List.mem_map.2 ⟨p, hp, rfl⟩
theorem KeepX.isIn (h : KeepX ks xs L) {i : Nat} : (Go.Psl.lk L i).isSome = true ↔ i ∈ ks ++ xs := by
  constructor
  · intro hi
    obtain ⟨x, hx⟩ := Option.isSome_iff_exists.1 hi
    exact h.mem (p := (i, x)) (lk_mem' hx)
  · intro hi
    rw [← h.names] at hi
    obtain ⟨p, hp, rfl⟩ := List.mem_map.1 hi
    rw [h.lk hp]; rfl
def rx (ks xs : List Nat) (b i : Nat) : Option Nat := if i ∈ ks then some i else if i ∈ xs then some (b + i) else none
theorem rx_sg {b i : Nat} (h : i ∈ ks ++ xs) : rx ks xs b i = some (sg ks b i) := by
  unfold rx sg
  by_cases hk : i ∈ ks
  · simp [hk]
  · rcases List.mem_append.1 h with h | h
    · exact absurd h hk
    · simp [hk, h]
theorem W0_rx {b : Nat} {c : V} (h : W0 (rid (ks ++ xs)) c c) : W0 (rx ks xs b) (ren0 (sg ks b) c) c := by
  cases c with
  | junk => trivial
  | d x => rfl
  | lp i o =>
    obtain ⟨j, hj, _⟩ := h
    exact ⟨_, rx_sg (rid_some hj).1, rfl⟩
  | ls i o l z =>
    unfold W0 at h
    simp only at h
    split at h
    · rename_i j hj
      simp only [W0, rx_sg (rid_some hj).1]; rfl
    · cases h.2
  | yl i =>
    obtain ⟨j, hj, _⟩ := h
    exact ⟨_, rx_sg (rid_some hj).1, rfl⟩
  | lr => exact False.elim h
  | cl f cs => exact False.elim h
  | agg cs => exact False.elim h
  | tup cs => exact False.elim h
theorem all2_map {α : Type} {R : α → α → Prop} {f : α → α} : ∀ {l : List α}, (∀ x ∈ l, R (f x) x) → All2 R (l.map f) l
  | [], _ => trivial
  | a :: l, h => ⟨h a (by simp), all2_map fun x hx => h x (List.mem_cons_of_mem _ hx)⟩
theorem CX_rx {b : Nat} {c : V} (h : CX ks xs c) : WC (rx ks xs b) (renC (sg ks b) c) c := by
  cases c with
  | lr fr nt ps pa pb jmp =>
    have h : ∀ t, AV (· ∈ ks) anyD (fr t) := h
    refine ⟨?_, fun t => AV.mono (fun i hi => by simp [rx, hi]) (fun _ h => h) (h t)⟩
    simp only [renC]
    congr 1
    funext t; exact AV_ren (h t) b
  | cl f cs =>
    obtain ⟨cs', e, h2⟩ := h
    cases e
    have h3 := all2_same h2
    exact ⟨_, rfl, all2_map fun x hx => W0_rx (h3 x hx)⟩
  | junk => trivial
  | d x => rfl
  | lp i o => exact W0_rx (c := .lp i o) h
  | ls i o l z => exact W0_rx (c := .ls i o l z) h
  | yl i => exact W0_rx (c := .yl i) h
  | agg cs => exact False.elim h
  | tup cs => exact False.elim h
theorem W1_rid {c : V} (h : W1 (rid ks) c c) : A1 (· ∈ ks) anyD c := by
  cases c with
  | cl f cs =>
    obtain ⟨cs', e, h2⟩ := h
    cases e
    exact fun c hc => (W0_rid (all2_same h2 c hc)).1
  | junk => exact trivial
  | d x => exact trivial
  | lp i o => exact (W0_rid (c := .lp i o) h).1
  | ls i o l z => exact (W0_rid (c := .ls i o l z) h).1
  | yl i => exact (W0_rid (c := .yl i) h).1
  | lr => exact False.elim h
  | agg cs => exact False.elim h
  | tup cs => exact False.elim h
theorem CX_ac {c : V} (h : CX ks xs c) : AC (· ∈ ks ++ xs) anyD c := by
  cases c with
  | lr fr nt ps pa pb jmp => exact fun t => AV.mono (fun i hi => List.mem_append_left _ hi) (fun _ h => h) (h t)
  | cl f cs => exact W1_rid (c := .cl f cs) h
  | junk => exact trivial
  | d x => exact trivial
  | lp i o => exact W1_rid (c := .lp i o) h
  | ls i o l z => exact W1_rid (c := .ls i o l z) h
  | yl i => exact W1_rid (c := .yl i) h
  | agg cs => exact False.elim h
  | tup cs => exact False.elim h
theorem KeepX.ids (h : KeepX ks xs L) {n : Nat} (hn : ∀ i ∈ ks ++ xs, i < n) : HpIds n L := by
  have key : ∀ M : List (Nat × List V), (∀ p ∈ M, p ∈ L) → HpIds n M := by
    intro M
    induction M with
    | nil => intro _; trivial
    | cons p r ih =>
      intro hM
      have hp := hM p (by simp)
      exact ⟨hn _ (h.mem hp), fun c hc => AC.mono hn (fun _ h => h) (CX_ac ((h.cells p hp).2.2 c hc)), ih fun q hq => hM q (List.mem_cons_of_mem _ hq)⟩
  exact key L fun _ h => h
theorem KeepX.res (h : KeepX ks xs L) : ∀ p ∈ L, ∀ c ∈ p.2, AC (InB L) anyD c := fun p hp c hc => AC.mono (fun _ hi => h.isIn.2 hi) (fun _ h => h) (CX_ac ((h.cells p hp).2.2 c hc))
theorem heapX_at {H : Hp} {b : Nat} (hL : KeepX ks xs L) (hL1 : KeepX ks xs1 L1) (hb : ∀ i ∈ ks ++ xs, i < b) {p : Nat × List V} (hp : p ∈ L1) : heapM H b (Go.Psl.lk L) ks (Go.Psl.lk L1) (sg ks b p.1) = some (p.2.map (renC (sg ks b))) := by
  have h1 := hL1.lk hp
  by_cases hk : p.1 ∈ ks
  · simp only [heapM, sg, hk, if_true, h1, Option.map_some]
  · have e : sg ks b p.1 = b + p.1 := by simp [sg, hk]
    have n1 : ¬ (b + p.1 ∈ ks) := fun h => by have := hb _ (List.mem_append_left _ h); omega
    have n2 : (Go.Psl.lk L (b + p.1)).isSome = false := by
      cases hc : (Go.Psl.lk L (b + p.1)).isSome with
      | false => rfl
      | true => have := hb _ (hL.isIn.1 hc); omega
    rw [e]
    simp only [heapM, n1, if_false, n2, Bool.false_eq_true, Nat.le_add_right, if_true, Nat.add_sub_cancel_left, hk, h1]
theorem heapX_out {H : Hp} {b : Nat} (hL : KeepX ks xs L) (_ : KeepX ks xs1 L1) {i : Nat} (h1 : i ∉ ks ++ xs) (h2 : i < b) : heapM H b (Go.Psl.lk L) ks (Go.Psl.lk L1) i = H i := by
  have n1 : ¬ i ∈ ks := fun h => h1 (List.mem_append_left _ h)
  have n2 : (Go.Psl.lk L i).isSome = false := by
    cases hc : (Go.Psl.lk L i).isSome with
    | false => rfl
    | true => exact absurd (hL.isIn.1 hc) h1
  simp only [heapM, n1, if_false, n2, Bool.false_eq_true, show ¬ b ≤ i by omega]
theorem rx_names {H' : Hp} {b : Nat} (hL1 : KeepX ks xs1 L1) (hH : ∀ p ∈ L1, H' (sg ks b p.1) = some (p.2.map (renC (sg ks b)))) : HpOk (rx ks xs1 b) H' L1 := by
  have key : ∀ M : List (Nat × List V), (∀ p ∈ M, p ∈ L1) → HpOk (rx ks xs1 b) H' M := by
    intro M
    induction M with
    | nil => intro _; trivial
    | cons p r ih =>
      intro hM
      have hp := hM p (by simp)
      obtain ⟨c1, c2, c3⟩ := hL1.cells p hp
      refine ⟨?_, ih fun q hq => hM q (List.mem_cons_of_mem _ hq)⟩
      rw [rx_sg (hL1.mem hp)]
      exact ⟨⟨_, hH p hp, all2_map fun c hc => CX_rx (c3 c hc)⟩, c2⟩
  exact key L1 fun _ h => h
theorem rx_inj {b : Nat} (hL1 : KeepX ks xs1 L1) (hb : ∀ i ∈ ks, i < b) : RhoInj (rx ks xs1 b) L1 := by
  have key : ∀ M : List (Nat × List V), (∀ p ∈ M, p ∈ L1) → RhoInj (rx ks xs1 b) M := by
    intro M
    induction M with
    | nil => intro _; trivial
    | cons p r ih =>
      intro hM
      refine ⟨fun q hq => ?_, ih fun q hq => hM q (List.mem_cons_of_mem _ hq)⟩
      rw [rx_sg (hL1.mem (hM p (by simp))), rx_sg (hL1.mem (hM q (List.mem_cons_of_mem _ hq)))]
      by_cases e : q.1 = p.1
      · exact Or.inr (Or.inr e)
      · refine Or.inr (Or.inl fun e' => e ?_)
        have e' := Option.some.inj e'
        unfold sg at e'
        split at e' <;> split at e'
        · exact e'
        · rename_i h1 h2; have := hb _ h1; omega
        · rename_i h1 h2; have := hb _ h2; omega
        · omega
  exact key L1 fun _ h => h
theorem rx_stab {H' : Hp} {b : Nat} (_ : KeepX ks xs1 L1) (hH : ∀ p ∈ L1, H' (sg ks b p.1) = some (p.2.map (renC (sg ks b)))) : ∀ i ∈ ks, (Go.Psl.lk L1 i).isSome = true → rx ks xs1 b i = some i ∧ (H' i).isSome = true := fun i hi hs => by
  obtain ⟨x, hx⟩ := Option.isSome_iff_exists.1 hs
  have := hH (i, x) (lk_mem' hx)
  rw [show sg ks b i = i by simp [sg, hi]] at this
  exact ⟨by simp [rx, hi], by rw [this]; rfl⟩
theorem stabL_of {ρ : Nat → Option Nat} {H h : Hp} : ∀ {M : List Nat}, (∀ i ∈ M, (h i).isSome = true → ρ i = some i ∧ (H i).isSome = true) → StabL ρ H h M
  | [], _ => trivial
  | i :: r, hM => ⟨hM i (by simp), stabL_of fun j hj => hM j (List.mem_cons_of_mem _ hj)⟩
theorem stabW_of {ρ : Nat → Option Nat} {H h : Hp} {n : Nat} : ∀ {M : List Nat}, (∀ i ∈ M, i < n) → (∀ i ∈ M, (h i).isSome = true → ρ i = some i ∧ (H i).isSome = true) → StabW ρ H h n M
  | [], _, _ => trivial
  | i :: r, hn, hM => ⟨hn i (by simp), hM i (by simp), stabW_of (fun j hj => hn j (List.mem_cons_of_mem _ hj)) fun j hj => hM j (List.mem_cons_of_mem _ hj)⟩
theorem Weak.keepX {st : St} {b : Nat} (hs : ∀ i, E.stab i ↔ i ∈ ks) (h : KeepX ks xs1 L1) (hb : ∀ i ∈ ks, i < b) (hH : ∀ p ∈ L1, st.H (sg ks b p.1) = some (p.2.map (renC (sg ks b)))) {n : Nat} (hn : ∀ i ∈ ks ++ xs1, i < n) (l : List (Nat × V)) (h1 : SlotsOk (rx ks xs1 b) st.fr l) (h4 : SlotsIds n l) : Weak P E st ⟨slots l, Go.Psl.lk L1, n⟩ :=
  Weak.mkM hs (rx ks xs1 b) l L1 n h1 (rx_names h hH) (rx_inj h hb) h4 (h.ids hn) (stabW_of (fun i hi => hn i (List.mem_append_left _ hi)) (rx_stab h hH))
theorem RetM.keepX {fn : Func} {st : St} {b : Nat} (hn : fn.results = #[]) (h : KeepX ks xs1 L1) (hb : ∀ i ∈ ks, i < b) (hH : ∀ p ∈ L1, st.H (sg ks b p.1) = some (p.2.map (renC (sg ks b)))) : RetM Γ fn ks (.tup []) L1 st :=
  ⟨[], rx ks xs1 b, by rw [hn]; rfl, rfl, by simp, rx_names h hH, rx_inj h hb, stabL_of (rx_stab h hH)⟩
theorem callB_keepX {H : Hp} {av args : List V} {res : Res} (hL : KeepX ks xs L) (hL1 : KeepX ks xs1 L1) (hx : ∀ i ∈ xs1, i < 1048576) (hH : ∀ i ∈ ks ++ xs, H i = Go.Psl.lk L i) (hb : All2 (Bor noH) av args) : CallB H av args (Go.Psl.lk L) ks res (Go.Psl.lk L1) :=
  ⟨fun i cs h => by rw [hH i (hL.isIn.1 (by rw [h]; rfl)), h], fun i h hn => by
    rcases List.mem_append.1 (hL1.isIn.1 h) with h | h
    · exact absurd h hn
    · exact hx i h, fun i hi => by
    obtain ⟨x, hx⟩ := Option.isSome_iff_exists.1 (hL.isIn.2 (List.mem_append_left _ hi))
    exact ⟨x, hx, (hL.cells (i, x) (lk_mem' hx)).1⟩, Or.inl hb⟩
theorem CX_rid {c : V} (h : CX ks xs c) : WC (rid (ks ++ xs)) c c := by
  cases c with
  | lr fr nt ps pa pb jmp => exact ⟨rfl, fun t => AV.mono (fun i hi => rid_in (List.mem_append_left _ hi)) (fun _ h => h) (h t)⟩
  | cl f cs => exact h
  | junk => exact h
  | d x => exact h
  | lp i o => exact h
  | ls i o l z => exact h
  | yl i => exact h
  | agg cs => exact h
  | tup cs => exact h
theorem KeepX.same (h : KeepX ks xs L) : KeepOk (ks ++ xs) L := ⟨h.names, h.nd, fun p hp => ⟨(h.cells p hp).1, (h.cells p hp).2.1, fun c hc => CX_rid ((h.cells p hp).2.2 c hc)⟩⟩
theorem Weak.sameX {st : St} (hs : ∀ i, E.stab i ↔ i ∈ ks) (h : KeepX ks xs L) (hH : st.H = Go.Psl.lk L) {n : Nat} (hn : ∀ i ∈ ks ++ xs, i < n) (l : List (Nat × V)) (h1 : SlotsOk (rid (ks ++ xs)) st.fr l) (h4 : SlotsIds n l) : Weak P E st ⟨slots l, Go.Psl.lk L, n⟩ :=
  Weak.mkM hs (rid (ks ++ xs)) l L n h1 (h.same.hp fun i _ => by rw [hH]) h.same.inj h4 (h.ids hn) (stabW_of (fun i hi => hn i (List.mem_append_left _ hi)) fun i hi hs => ⟨rid_in (List.mem_append_left _ hi), by rw [hH]; exact hs⟩)
theorem RetM.sameX {fn : Func} {st : St} (hn : fn.results = #[]) (h : KeepX ks xs L) (hH : st.H = Go.Psl.lk L) : RetM Γ fn ks (.tup []) L st :=
  ⟨[], rid (ks ++ xs), by rw [hn]; rfl, rfl, by simp, h.same.hp fun i _ => by rw [hH], h.same.inj, stabL_of fun i hi hs => ⟨rid_in (List.mem_append_left _ hi), by rw [hH]; exact hs⟩⟩
theorem AYield.keepX {H : Hp} {b k : Nat} {av : List V} {Kc Kx : V → Hp → Prop} (args : List V) (L L1 : List (Nat × List V)) (ks xs xs1 : List Nat) (r : D) (hf : Ym P k args (Go.Psl.lk L) ks (.ret (.d r)) (Go.Psl.lk L1)) (hL : KeepX ks xs L) (hL1 : KeepX ks xs1 L1) (hx : ∀ i ∈ xs1, i < 1048576)
    (hrec : ∃ fr nt ps pa pb jmp, Go.Psl.lk L k = some [.lr fr nt ps pa pb jmp] ∧ ps.length = args.length) (hH : ∀ i ∈ ks ++ xs, H i = Go.Psl.lk L i) (hb : All2 (Bor noH) av args) (hk : Kc (.d r) (heapM H b (Go.Psl.lk L) ks (Go.Psl.lk L1))) : AYield P true H H b k av Kc Kx :=
  ⟨rfl, args, Go.Psl.lk L, ks, .ret (.d r), Go.Psl.lk L1, _, ⟨hf, hrec, callB_keepX hL hL1 hx hH hb⟩, rfl, hk⟩
theorem Ym.ofX (hΓ : GOk P Γ) (hE : EqOk P eqs) (hm : P.follows .mixedOrders = true) {k : Nat} {fr : Nat → V} {nt : Nat} {ps : List Nat} {pa pb : PC} {args : List V} {s : LSt} (N : Nat)
    (hL : KeepX ks xs L) (hL1 : KeepX ks xs1 L1) (hlt : ∀ i ∈ ks ++ xs, i < N) (hkk : k ∈ ks) (hk : Go.Psl.lk L k = some [.lr fr nt ps pa pb .ready]) (hlen : ps.length = args.length) (hps : ∀ p ∈ ps, p < nt) (hcl : ∀ v ∈ args, A2 (· < N) anyD v)
    (h : Rnd P Γ eqs k fr nt ps pa pb args (Go.Psl.lk L) ks s L1 N) : Ym P k args (Go.Psl.lk L) ks (.ret (.d (.lit (.bool (goesOn s))))) (Go.Psl.lk L1) :=
  Ym.of hΓ hE hm N hk hkk hlen hps hcl (HpIds.at (hL.ids hlt)) (fun i hi => hlt i (List.mem_append_left _ hi)) hL1.res h.run
theorem PRange.keepX {fo : Operand} {ps : List Nat} {pa pb : PC} {Q : AExit → St → Prop} {f : Nat → V} {H : Hp} {n : Nat} {g : FuncId} {caps : List V} (L L1 : List (Nat × List V)) (ks xs xs1 : List Nat) (r : V) (jmp : LSt) (h0 : E.rd = none) (hg : calleeOf (evF f fo) = some (g, caps))
    (hf : Cm P g (.yl n :: caps) (Go.Psl.lk ((n, [.lr f E.nt ps pa pb .ready]) :: L)) (n :: ks) (.ret r) (Go.Psl.lk ((n, [.lr f E.nt ps pa pb jmp]) :: L1)))
    (hL : KeepX (n :: ks) xs ((n, [.lr f E.nt ps pa pb .ready]) :: L)) (hL1 : KeepX (n :: ks) xs1 ((n, [.lr f E.nt ps pa pb jmp]) :: L1)) (hx : ∀ i ∈ xs1, i < 1048576) (hlt : ∀ i ∈ ks ++ xs, i < n) (hH : ∀ i ∈ ks ++ xs, H i = Go.Psl.lk L i) (hb : All2 (Bor noH) caps caps)
    (hq : ∀ F : Hp, (∀ p ∈ L1, F (sg (n :: ks) (n + 1048576) p.1) = some (p.2.map (renC (sg (n :: ks) (n + 1048576))))) → (∀ i, i ∉ ks ++ xs → i < n → F i = H i) → jumpQ Q ⟨f, F, n + 2097152⟩ jmp) : PW P Γ eqs E (.rangeF fo ps pa pb) Q ⟨f, H, n⟩ := by
  have hH' : ∀ i ∈ n :: ks ++ xs, upd H n (some [.lr f E.nt ps pa pb .ready]) i = Go.Psl.lk ((n, [.lr f E.nt ps pa pb .ready]) :: L) i := fun i hi => by
    simp only [upd_at, Go.Psl.lk]
    by_cases e : i = n
    · simp [e]
    · simp only [e, if_false]
      rw [List.cons_append] at hi
      rcases List.mem_cons.1 hi with h | h
      · exact absurd h e
      · exact hH i h
  have hbk : ∀ i ∈ n :: ks ++ xs, i < n + 1048576 := fun i hi => by
    rw [List.cons_append] at hi
    rcases List.mem_cons.1 hi with h | h
    · omega
    · have := hlt i h; omega
  refine ⟨h0, g, caps, .yl n :: caps, _, n :: ks, .ret r, _, hg, ⟨hf, callB_keepX hL hL1 hx hH' ⟨rfl, hb⟩⟩, by simp, jmp, by simp [Go.Psl.lk], ?_⟩
  refine hq _ (fun p hp => ?_) fun i hi hin => ?_
  · have hm : p.1 ∈ ks ++ xs1 := by
      have := hL1.names
      simp only [List.map_cons, List.cons_append, List.cons.injEq, true_and] at this
      rw [← this]; exact List.mem_map.2 ⟨p, hp, rfl⟩
    have hne : sg (n :: ks) (n + 1048576) p.1 ≠ n := fun e => by
      have hnd := hL1.nd
      rw [List.cons_append] at hnd
      have hnm := (List.nodup_cons.1 hnd).1
      unfold sg at e
      split at e
      · rw [e] at hm; exact hnm hm
      · omega
    simp only [upd_at, hne, if_false]
    exact heapX_at hL hL1 hbk (List.mem_cons_of_mem _ hp)
  · have hne : i ≠ n := by omega
    simp only [upd_at, hne, if_false]
    rw [heapX_out hL hL1 (by rw [List.cons_append]; intro h; rcases List.mem_cons.1 h with h | h; exact hne h; exact hi h) (by omega)]
    simp [upd_at, hne]
end
end Go.Psl
namespace Go.Proofs.Try
open Go.Psl
open Go.Geo (cross cyc InR box)
set_option maxRecDepth 20000 in
theorem fn135 (r : List (Int × Int)) : Ct prog 135 [.d (spansD r)] (.cl 148 [.lp 0 0]) [(0, [.d (spansD r)])] := by
  refine Ct.by gok eok mixed func135 c135 rfl (by simp [ntmps135]) (by simp) (by simp [ResIds]) fun E hE => ?_
  simp [p135]
  refine RetOk.by (lk [(0, 0)]) ?_
  simp [results135]
end Go.Proofs.Try
namespace Go.Proofs.Try
open Go.Psl
open Go.Geo (cross cyc InR box)
set_option maxHeartbeats 4000000 in
set_option maxRecDepth 20000 in
theorem edges_runX (r : List (Int × Int)) (hl : r.length ≤ 1000000) (KS : List Nat) (XS : Nat → List Nat) (k a m : Nat) (go : Nat → Bool) (L : Nat → List (Nat × List V)) (hk : k ∈ KS) (ha : a ∈ KS) (hN : ∀ i ∈ KS, i < 1000000000) (hX : ∀ i, ∀ x ∈ XS i, x < 1048576) (hm : m ≤ r.length) (hL : ∀ i, i ≤ m → KeepX KS (XS i) (L i))
    (hrec : ∀ i, i < m → ∃ fr nt ps pa pb jmp, lk (L i) k = some [.lr fr nt ps pa pb jmp] ∧ ps.length = 2) (hbox : ∀ i, i ≤ m → lk (L i) a = some [.d (spansD r)]) (hgo : ∀ j, j + 1 < m → go j = true) (hend : m = r.length ∨ (0 < m ∧ go (m - 1) = false))
    (hY : ∀ i x y, i < m → (cyc r)[i]? = some (x, y) → Ym prog k [vsp x.1 x.2, vsp y.1 y.2] (lk (L i)) KS (.ret (vb (go i))) (lk (L (i + 1)))) :
    Cm prog 148 [.yl k, .lp a 0] (lk (L 0)) KS (.ret (.tup [])) (lk (L m)) := by
  have hNX : ∀ i, ∀ x ∈ KS ++ XS i, x < 1000000000 := fun i x hx => by
    rcases List.mem_append.1 hx with h | h
    · exact hN x h
    · have := hX i x h; omega
  refine Cm.by gok eok mixed 1000000000 func148 c148 rfl (by simp [ntmps148]) (by simp; exact ⟨hN k hk, hN a ha⟩) (HpIds.at ((hL 0 (by omega)).ids (hNX 0))) hN ⟨by simp, (hL m (Nat.le_refl _)).res⟩ fun E hs hE => ?_
  have haN := hN a ha
  have na : ∀ x, 1000000000 ≤ x → ¬ a = x := fun x _ => by omega
  have la : ∀ x, 1000000000 ≤ x → a < x := fun x _ => by omega
  have b0 := hbox 0 (by omega)
  have rk : ∀ i b, rx KS (XS i) b k = some k := fun i b => by simp [rx, hk]
  have ra : ∀ i b, rx KS (XS i) b a = some a := fun i b => by simp [rx, ha]
  simp [p148, b0]
  refine pw_loop (α := Nat) (fun i => ⟨slots [(0, .yl k), (1, .lp a 0), (5, .d (spansD r)), (6, vi r.length), (7, vi i)], lk (L i), 1000000000⟩) (fun i => i ≤ m ∧ (i = m → m = r.length)) (fun i => m - i) 0 ?_ ?_ ?_
  · omega
  · refine Weak.sameX hs (hL 0 (by omega)) rfl (hNX 0) _ ?_ ?_
    · simp [rid, hk, ha]
    · simp [hN k hk, hN a ha]
  · rintro i ⟨hi, him⟩
    simp [p148l0]
    refine cR_split (fun h => ?_) (fun h => ?_)
    · simp at h
      have him2 : i < m := by omega
      have bi := hbox i hi
      obtain ⟨x, hx⟩ : ∃ x, r[i]? = some x := ⟨_, List.getElem?_eq_getElem h⟩
      obtain ⟨n, hn⟩ : ∃ n, r.length = n := ⟨_, rfl⟩
      rw [hn] at h hl hm him hend
      obtain ⟨j, hj⟩ : ∃ j, j = (i + 1) % n := ⟨_, rfl⟩
      have hjn : j < n := by rw [hj]; exact Nat.mod_lt _ (by omega)
      obtain ⟨y, hy⟩ : ∃ y, r[j]? = some y := ⟨r[j], by simp [show j < r.length by omega]⟩
      have hcy := Go.Geo.cyc_at hx (by rw [hn]; exact hj) hy
      have hY' := hY i x y him2 hcy
      obtain ⟨fr, nt, ps, pa, pb, jmp, hr1, hr2⟩ := hrec i him2
      obtain ⟨i1, hi1⟩ : ∃ i1, i1 = i + 1 := ⟨_, rfl⟩
      have hz : IntKind.wrap .i64 ((i : Int) + 1) = (i1 : Int) := by rw [wrap64 (by omega) (by omega)]; omega
      rw [← hi1] at hj hY'
      have q1 : (0 : Int) ≤ (i1 : Int).tmod (n : Int) := Int.natCast_nonneg (i1 % n)
      have q2 : ((i1 : Int).tmod (n : Int)).toNat = j := by rw [hj]; rfl
      have hnz : ¬ (n : Int) = 0 := by omega
      have hnz' : ¬ n = 0 := by omega
      simp [hx, hz, hn, inC, Nat.testBit, splice, bi, na, la, hnz', q1, q2, hy]
      have hne : ∀ q ∈ KS ++ XS i, ¬ q = 1004194304 := fun q hq e => by have := hNX i q hq; omega
      have hbb : ∀ q ∈ KS ++ XS i, q < 1017825792 := fun q hq => by have := hNX i q hq; omega
      have hbk : ∀ q ∈ KS, q < 1017825792 := fun q hq => by have := hN q hq; omega
      refine AYield.keepX [vsp x.1 x.2, vsp y.1 y.2] (L i) (L i1) KS (XS i) (XS i1) _ hY' (hL i hi) (hL i1 (by omega)) (hX i1) ⟨fr, nt, ps, pa, pb, jmp, hr1, hr2⟩ (fun q hq => by simp [hne q hq]) (by simp) ?_
      obtain ⟨F, hF⟩ : ∃ F, F = heapM (upd (upd (lk (L i)) 1004194304 (some [V.d (D.lit (Value.int IntKind.i64 0)), V.d (D.lit (Value.int IntKind.i64 0))])) 1004194304 (some [V.d (di x.fst), V.d (di x.snd)])) 1017825792 (lk (L i)) KS (lk (L i1)) := ⟨_, rfl⟩
      have hFp : ∀ p ∈ L i1, F (sg KS 1017825792 p.1) = some (p.2.map (renC (sg KS 1017825792))) := fun p hp => by rw [hF]; exact heapX_at (hL i hi) (hL i1 (by omega)) hbb hp
      rw [← hF]
      cases hgi : go i
      · have e : i1 = m := by
          by_cases hlt : i + 1 < m
          · rw [hgo i hlt] at hgi; cases hgi
          · omega
        simp
        rw [← e]
        exact RetM.keepX rfl (hL i1 (by omega)) hbk hFp
      · simp [hz]
        refine ⟨i1, ⟨by omega, fun e => ?_⟩, by omega, ?_⟩
        · rcases hend with h1 | ⟨_, h1⟩
          · exact h1
          · rw [show m - 1 = i by omega, hgi] at h1; cases h1
        · refine Weak.keepX hs (hL i1 (by omega)) hbk hFp (hNX i1) _ ?_ ?_
          · simp [rk, ra]
          · simp [hN k hk, hN a ha]
    · simp at h
      have e : i = m := by omega
      subst e
      simp
      exact RetM.sameX rfl (hL i (Nat.le_refl _)) rfl
end Go.Proofs.Try
namespace Go.Proofs.Try
open Go.Psl
open Go.Geo (cross cyc InR box)
def stpS (r : List (Int × Int)) : List (Int × Int) := (cyc r).map fun e => subC e.1 e.2
def sidS (r : List (Int × Int)) : List (Int × Int) := if 1 < r.length then stpS r else []
def sKS : List Nat := [7340032, 6291456, 1048576]
def sXS (i : Nat) : List Nat := if i = 0 then [] else [7]
def sL (r : List (Int × Int)) (f : Nat → V) (i : Nat) : List (Nat × List V) := [(7340032, [.lr f 20 [11, 12] p109l0 p109l1 .ready]), (6291456, [.d (spansD r)]), (1048576, [hdrV ((stpS r).take i) 7])] ++ outB ((stpS r).take i) 7
theorem stp_len (r : List (Int × Int)) : (stpS r).length = r.length := by unfold stpS; rw [List.length_map, Go.Geo.cyc_len]
theorem sKeep (r : List (Int × Int)) (f : Nat → V) (i : Nat) (hi : i ≤ r.length) (hf : ∀ t, AV (· ∈ sKS) anyD (f t)) : KeepX sKS (sXS i) (sL r f i) := by
  have hl : ((stpS r).take i).length = i := by rw [List.length_take, stp_len]; omega
  by_cases h0 : i = 0
  · subst h0
    refine ⟨rfl, by simp [sKS, sXS], ?_⟩
    intro q hq
    simp only [sL, List.take_zero, hdrV_nil, outB_nil, List.append_nil, List.mem_cons, List.not_mem_nil, or_false] at hq
    rcases hq with rfl | rfl | rfl
    · exact ⟨by simp, Or.inr ⟨_, _, _, _, _, _, rfl⟩, fun c hc => by simp at hc; subst hc; exact hf⟩
    all_goals exact ⟨by simp, Or.inl rfl, fun c hc => by simp at hc; subst hc; exact rfl⟩
  · have hne : (stpS r).take i ≠ [] := fun e => by rw [e] at hl; simp at hl; omega
    have hx : sXS i = [7] := by simp [sXS, h0]
    rw [hx]
    refine ⟨by simp [sL, outB_ne hne, sKS], by simp [sKS], ?_⟩
    intro q hq
    simp only [sL, hdrV_ne hne, outB_ne hne, List.mem_append, List.mem_cons, List.not_mem_nil, or_false] at hq
    rcases hq with (rfl | rfl | rfl) | rfl
    · exact ⟨by simp, Or.inr ⟨_, _, _, _, _, _, rfl⟩, fun c hc => by simp at hc; subst hc; exact hf⟩
    · exact ⟨by simp, Or.inl rfl, fun c hc => by simp at hc; subst hc; exact rfl⟩
    · exact ⟨by simp, Or.inl rfl, fun c hc => by simp at hc; subst hc; simp [CX, W1, W0, rid, sKS]⟩
    · refine ⟨?_, cellsOk_data0, fun c hc => ?_⟩
      · simp only
        intro e
        have : (cellsI ((stpS r).take i)).length = 0 := by rw [e]; rfl
        have h2 : (spD ((stpS r).take i)).length = 0 := by simpa using this
        rw [spD_len, hl] at h2
        omega
      · obtain ⟨d, _, rfl⟩ := List.mem_map.1 hc
        exact rfl
set_option maxHeartbeats 8000000 in
set_option maxRecDepth 20000 in
theorem sid_round (r : List (Int × Int)) (f : Nat → V) (hf : ∀ t, AV (· ∈ sKS) anyD (f t)) (f3 : f 3 = .lp 1048576 0) (hl : r.length ≤ 1000000) (hb : ∀ q ∈ r, bd 1152921504606846976 q) (i : Nat) (x y : Int × Int) (hxy : (cyc r)[i]? = some (x, y)) :
    Ym prog 7340032 [vsp x.1 x.2, vsp y.1 y.2] (lk (sL r f i)) sKS (.ret (vb true)) (lk (sL r f (i + 1))) := by
  have hin := (List.getElem?_eq_some_iff.1 hxy).1
  rw [Go.Geo.cyc_len] at hin
  have hmem := Go.Geo.cyc_mem (List.mem_of_getElem? hxy)
  have hK1 := sKeep r f i (by omega) hf
  have hK2 := sKeep r f (i + 1) (by omega) hf
  have hlt : ∀ j ∈ sKS ++ sXS i, j < 10000000 := by
    intro j hj
    simp only [sKS, sXS, List.mem_append, List.mem_cons, List.not_mem_nil, or_false] at hj
    rcases hj with h | h
    · omega
    · split at h
      · simp at h
      · simp at h; omega
  have hst : (stpS r)[i]? = some (subC x y) := by unfold stpS; rw [List.getElem?_map, hxy]; rfl
  have hnx : (stpS r).take (i + 1) = (stpS r).take i ++ [subC x y] := by rw [List.take_add_one, hst]; rfl
  have hlen : ((stpS r).take i).length = i := by rw [List.length_take, stp_len]; omega
  have c := fn110 x y (hb x hmem.1) (hb y hmem.2)
  have hW : ∀ (x : Nat) s, WC (lk [(7340032, 7340032), (6291456, 6291456), (1048576, 1048576), (7, x)]) (.lr f 20 [11, 12] p109l0 p109l1 s) (.lr f 20 [11, 12] p109l0 p109l1 s) := fun x s => ⟨rfl, fun t => AV.mono (fun j hj => by simp [sKS] at hj; rcases hj with rfl | rfl | rfl <;> simp [lk]) (fun _ h => h) (hf t)⟩
  have hC : ∀ s, cellsOk [.lr f 20 [11, 12] p109l0 p109l1 s] := fun s => Or.inr ⟨_, _, _, _, _, _, rfl⟩
  have key : ∀ O : List (Int × Int), O = (stpS r).take i → Rnd prog tys eqs 7340032 f 20 [11, 12] p109l0 p109l1 [vsp x.1 x.2, vsp y.1 y.2] (lk ([(7340032, [.lr f 20 [11, 12] p109l0 p109l1 .ready]), (6291456, [.d (spansD r)]), (1048576, [hdrV O 7])] ++ outB O 7)) sKS .ready ([(7340032, [.lr f 20 [11, 12] p109l0 p109l1 .ready]), (6291456, [.d (spansD r)]), (1048576, [hdrV (O ++ [subC x y]) 7])] ++ outB (O ++ [subC x y]) 7) 10000000 → Ym prog 7340032 [vsp x.1 x.2, vsp y.1 y.2] (lk (sL r f i)) sKS (.ret (vb true)) (lk (sL r f (i + 1))) := fun O hO h => by
    refine Ym.ofX (k := 7340032) (fr := f) (nt := 20) (ps := [11, 12]) (pa := p109l0) (pb := p109l1) (args := [vsp x.1 x.2, vsp y.1 y.2]) (s := .ready) gok eok mixed 10000000 hK1 hK2 hlt (by simp [sKS]) (by simp [sL]) (by simp) (by simp) (by simp) ?_
    unfold sL
    rw [hnx, ← hO]
    exact h
  by_cases h0 : i = 0
  · refine key [] (by rw [h0]; rfl) ⟨fun E hE hs => ?_⟩
    simp only [List.nil_append]
    generalize V.lr f 20 [11, 12] p109l0 p109l1 = rc at hW hC ⊢
    simp [p109l0, frPuts, splice]
    simp [p109l1, f3, inC, Nat.testBit]
    refine ACall.mk _ _ _ (c) (by first | (simp; done) | simp [Bor_ls, Bor1_ls]) (by simp) (by first | (left; simp; done) | (right; simp; done)) ?_
    simp [splice, repl, f3]
    refine ⟨trivial, by simp, lk [(7340032, 7340032), (6291456, 6291456), (1048576, 1048576), (7, 19437184)], ?_⟩
    simp [hW, hC, sKS]
  · obtain ⟨O, hO⟩ : ∃ O, O = (stpS r).take i := ⟨_, rfl⟩
    rw [← hO] at hlen
    have hne : O ≠ [] := fun e => by rw [e] at hlen; simp at hlen; omega
    have hsl := spD_len O
    have htk : List.take (O.length * 2) (cellsI O) = cellsI O := List.take_of_length_le (by simp)
    have n1 : (O.length + 1) * 16 ≤ 140737488355328 := by omega
    have n2 : O.length + 1 ≤ 9223372036854775807 := by omega
    have fin : cellsI (O ++ [subC x y]) = (spD O).map V.d ++ [vi (subC x y).1, vi (subC x y).2] := spD_one _ O
    refine key O hO ⟨fun E hE hs => ?_⟩
    rw [hdrV_ne hne, outB_ne hne, hdrV_snoc, outB_ne (by simp), fin]
    generalize V.lr f 20 [11, 12] p109l0 p109l1 = rc at hW hC ⊢
    simp [p109l0, frPuts, splice]
    simp [p109l1, f3, inC, Nat.testBit]
    refine ACall.mk _ _ _ (c) (by first | (simp; done) | simp [Bor_ls, Bor1_ls]) (by simp) (by first | (left; simp; done) | (right; simp; done)) ?_
    simp [splice, repl, f3, hsl, htk, n1, n2]
    refine ⟨trivial, by simp, lk [(7340032, 7340032), (6291456, 6291456), (1048576, 1048576), (7, 19437184)], ?_⟩
    simp [hW, hC, sKS]
set_option maxHeartbeats 8000000 in
set_option maxRecDepth 20000 in
theorem fn109 (r : List (Int × Int)) (hl : r.length ≤ 1000000) (hb : ∀ q ∈ r, bd 1152921504606846976 q) : Ct prog 109 [.d (spansD r)] (hdrV (sidS r) 0) (outB (sidS r) 0) := by
  by_cases h1 : 1 < r.length
  case neg =>
    have e : sidS r = [] := by unfold sidS; rw [if_neg h1]
    have h1' : ¬ (1 : Int) < r.length := by omega
    rw [e, hdrV_nil, outB_nil]
    refine Ct.by gok eok mixed func109 c109 rfl (by simp [ntmps109]) (by simp) (by simp [ResIds]) fun E hE => ?_
    simp [p109, h1']
    refine RetOk.by (fun _ => none) ?_
    simp [results109]
  have e : sidS r = stpS r := by unfold sidS; rw [if_pos h1]
  have h1' : (1 : Int) < r.length := by omega
  have hne : stpS r ≠ [] := fun e => by have := stp_len r; rw [e] at this; simp at this; omega
  rw [e, hdrV_ne hne, outB_ne hne]
  refine Ct.byR gok eok mixed func109 c109 rfl (by simp [ntmps109]) (by simp) (by simp [ResIds]) fun E hE hE2 => ?_
  simp [p109, h1']
  refine ACall.mk _ _ _ (fn135 r) (by first | (simp; done) | simp [Bor_ls, Bor1_ls]) (by simp) (by first | (left; simp; done) | (right; simp; done)) ?_
  simp
  have hnt : E.nt = 20 := by rw [hE2.1]; exact ntmps109
  rw [← pw_rangeF (Γ := tys) (eqs := eqs)]
  obtain ⟨f, hf⟩ : ∃ f, f = upd (upd (upd (upd (upd (upd (upd (argF 0 [V.d (spansD r)]) 2 (V.d (D.lit (Value.slice none 0 0)))) 3 (V.lp 1048576 0)) 6 (V.d (spansD r))) 7 (V.d (D.lit (Value.int IntKind.i64 r.length)))) 8 (V.d (D.lit (Value.bool true)))) 9 (V.d (spansD r))) 10 (V.cl 148 [V.lp 6291456 0]) := ⟨_, rfl⟩
  have hfA : ∀ t, AV (· ∈ sKS) anyD (f t) := fun t => by
    rw [hf]
    simp only [upd_at]
    split
    · intro c hc; simp at hc; subst hc; exact (by simp [sKS] : (6291456 : Nat) ∈ sKS)
    · repeat (first | (split; exact trivial) | (split; exact (by simp [sKS] : (1048576 : Nat) ∈ sKS)))
      simp only [argF]
      split
      · exact trivial
      · exact fun c hc => by simp at hc
  have f3 : f 3 = .lp 1048576 0 := by rw [hf]; simp
  have f10 : f 10 = .cl 148 [.lp 6291456 0] := by rw [hf]; simp
  rw [← hf]
  have hK := fun i hi => sKeep r f i hi hfA
  have c := edges_runX r hl sKS sXS 7340032 6291456 r.length (fun _ => true) (sL r f) (by simp [sKS]) (by simp [sKS]) (by simp [sKS]) (fun i x hx => by unfold sXS at hx; split at hx <;> simp at hx; omega) (Nat.le_refl _) (fun i hi => hK i hi)
    (fun i _ => ⟨f, 20, [11, 12], p109l0, p109l1, .ready, by simp [sL], rfl⟩) (fun i _ => by simp [sL]) (fun _ _ => rfl) (Or.inl rfl) (fun i x y _ hxy => sid_round r f hfA f3 hl hb i x y hxy)
  have hK0 := hK 0 (by omega)
  have hKn := hK r.length (Nat.le_refl _)
  have ex0 : sXS 0 = [] := rfl
  have exn : sXS r.length = [7] := by unfold sXS; rw [if_neg (by omega)]
  have eL0 : sL r f 0 = (7340032, [.lr f 20 [11, 12] p109l0 p109l1 .ready]) :: [(6291456, [.d (spansD r)]), (1048576, [.d (.lit (.slice none 0 0))])] := by simp [sL]
  have etk : (stpS r).take r.length = stpS r := List.take_of_length_le (by rw [stp_len]; omega)
  have eLn : sL r f r.length = (7340032, [.lr f 20 [11, 12] p109l0 p109l1 .ready]) :: [(6291456, [.d (spansD r)]), (1048576, [.ls 7 0 (stpS r).length 2]), (7, cellsI (stpS r))] := by unfold sL; rw [etk, hdrV_ne hne, outB_ne hne]; rfl
  rw [ex0, eL0] at hK0
  rw [exn, eLn] at hKn
  rw [eL0, eLn] at c
  refine PRange.keepX [(6291456, [.d (spansD r)]), (1048576, [.d (.lit (.slice none 0 0))])] [(6291456, [.d (spansD r)]), (1048576, [.ls 7 0 (stpS r).length 2]), (7, cellsI (stpS r))] [6291456, 1048576] [] [7] (.tup []) .ready hE2.2 (g := 148) (caps := [.lp 6291456 0]) (by simp [f10]) (by rw [hnt]; exact c) (by rw [hnt]; exact hK0) (by rw [hnt]; exact hKn) (by simp) (by simp) (by simp) (by simp) fun F h1 h2 => ?_
  have F0 := h1 (1048576, _) (by simp; rfl)
  have F7 := h1 (7, _) (by simp; rfl)
  simp [sg, renC, ren1, ren0] at F0 F7
  show blkQ 0 _ .normal _
  simp [f3, F0]
  refine RetOk.by (lk [(0, 8388615)]) ?_
  simp [results109, F7]
end Go.Proofs.Try
namespace Go.Proofs.Try
open Go.Psl
open Go.Geo (cross cyc InR box)
def hL (r : List (Int × Int)) (p : Int × Int) (f : Nat → V) (s : LSt) (v : Bool) : List (Nat × List V) := [(5242880, [.lr f 83 [12, 13] p96l0 p96l1 s]), (4194304, [.d (spansD r)]), (0, [.d (spansD r)]), (1048576, [vi p.1, vi p.2]), (2097152, [vb v])]
end Go.Proofs.Try
namespace Go.Proofs.Try
open Go.Psl
open Go.Geo (cross cyc InR box hullS)
theorem reg_hull {r : List (Int × Int)} (h : regS r = true) : r = hullS (ddC (sortC r)) ∧ r ≠ [] := by
  unfold regS at h
  simp only [Bool.and_eq_true, decide_eq_true_eq] at h
  refine ⟨h.2.symm, fun e => ?_⟩
  rw [e] at h; simp at h
theorem hull_seg {l : List (Int × Int)} (hs : Go.Geo.Sorted l) {a b : Int × Int} (h : hullS l = [a, b]) : Go.Geo.lt a b := by
  by_cases h3 : l.length < 3
  · have e : hullS l = l := by unfold hullS; rw [if_pos h3]
    rw [h] at e
    rw [← e] at hs
    exact (List.pairwise_cons.1 hs).1 b (by simp)
  · by_cases hn : 5 ≤ (Go.Geo.chainR l).length + (Go.Geo.chainR l.reverse).length
    · have := Go.Geo.hull_len h3
      have h2 := Go.Geo.chain_len2 hs (by omega)
      rw [h] at this; simp at this; omega
    · obtain ⟨f, g, _, _, hfg, e, _⟩ := Go.Geo.hull_two hs h3 hn
      rw [h] at e; cases e; exact hfg
theorem in_one {a p : Int × Int} : InR [a] p ↔ a = p := by
  constructor
  · rintro ⟨_, h⟩
    obtain ⟨x, y, h1, h2, hb⟩ : ∃ x y, [a].head? = some x ∧ [a].getLast? = some y ∧ box x y p := by simpa using h
    simp at h1 h2; subst h1; subst h2
    unfold box at hb
    ext <;> omega
  · rintro rfl
    refine ⟨fun e he => ?_, Or.inr ⟨a, a, rfl, rfl, by unfold box; omega⟩⟩
    simp [cyc, Go.Geo.steps] at he; subst he; rw [Go.Geo.cross_self]; omega
theorem in_two {a b p : Int × Int} : InR [a, b] p ↔ cross a b p = 0 ∧ box a b p := by
  constructor
  · rintro ⟨hc, h⟩
    obtain ⟨x, y, h1, h2, hb⟩ : ∃ x y, [a, b].head? = some x ∧ [a, b].getLast? = some y ∧ box x y p := by simpa using h
    simp at h1 h2; subst h1; subst h2
    have c1 := hc (a, b) (by simp [cyc, Go.Geo.steps])
    have c2 := hc (b, a) (by simp [cyc, Go.Geo.steps])
    simp only at c1 c2
    rw [Go.Geo.cross_swap2] at c2
    exact ⟨by omega, hb⟩
  · rintro ⟨hc, hb⟩
    refine ⟨fun e he => ?_, Or.inr ⟨a, b, rfl, rfl, hb⟩⟩
    simp [cyc, Go.Geo.steps] at he
    rcases he with rfl | rfl
    · simp only; omega
    · simp only; rw [Go.Geo.cross_swap2]; omega
end Go.Proofs.Try
namespace Go.Proofs.Try
open Go.Psl
open Go.Geo (cross cyc InR box hullS)
set_option maxHeartbeats 4000000 in
set_option maxRecDepth 20000 in
theorem fn98 (hS : SortOk) (a b : List (Int × Int)) (ha : a.length ≤ 1000000000) (hb : b.length ≤ 1000000000) : Ct prog 98 [.d (.sl 1 [[spansD a], [spansD b]])] (vi (if regS a && regS b then 0 else 14)) [] := by
  refine Ct.by gok eok mixed func98 c98 rfl (by simp [ntmps98]) (by simp) (by simp [ResIds]) fun E hE => ?_
  simp [p98]
  refine pw_loop (α := Nat) (fun i => ⟨slots [(6, .d (.sl 1 [[spansD a], [spansD b]])), (7, vi 2), (8, vi i)], lk [], 0⟩) (fun i => i ≤ 2 ∧ (0 < i → regS a = true) ∧ (1 < i → regS b = true)) (fun i => 2 - i) 0 ?_ ?_ ?_
  · omega
  · refine Weak.mk hE (lk []) _ _ _ ?_ ?_ ?_ ?_ ?_ <;> simp
  · rintro i ⟨hi, h1, h2⟩
    match i, hi, h1, h2 with
    | 0, _, _, _ =>
      simp [p98l0]
      refine ACall.mk _ _ _ (fn55 hS a ha) (by first | (simp; done) | simp [Bor_ls, Bor1_ls]) (by simp) (by first | (left; simp; done) | (right; simp; done)) ?_
      cases h3 : regS a
      · simp
        refine RetOk.by (fun _ => none) ?_
        simp [results98]
      · have w : IntKind.wrap .i64 1 = 1 := by decide
        simp [w]
        refine ⟨1, by omega, by omega, ?_⟩
        refine Weak.mk hE (lk []) _ _ _ ?_ ?_ ?_ ?_ ?_ <;> simp
    | 1, _, h1, _ =>
      have h1' := h1 (by omega)
      simp [p98l0]
      refine ACall.mk _ _ _ (fn55 hS b hb) (by first | (simp; done) | simp [Bor_ls, Bor1_ls]) (by simp) (by first | (left; simp; done) | (right; simp; done)) ?_
      cases h3 : regS b
      · simp
        refine RetOk.by (fun _ => none) ?_
        simp [results98]
      · have w : IntKind.wrap .i64 2 = 2 := by decide
        simp [w]
        refine ⟨2, ?_, by omega, ?_⟩
        · simp [h1']
        · refine Weak.mk hE (lk []) _ _ _ ?_ ?_ ?_ ?_ ?_ <;> simp
    | 2, _, h1, h2 =>
      have h1' := h1 (by omega)
      have h2' := h2 (by omega)
      simp [p98l0]
      refine RetOk.by (fun _ => none) ?_
      simp [results98, h1', h2']
    | i + 3, hi, _, _ => omega
end Go.Proofs.Try
namespace Go.Proofs.Try
open Go.Psl
open Go.Geo (cross cyc InR box hullS)
theorem bor_two_ls {H : Hp} {id : Nat} {a b : List (Int × Int)} (h : H id = some [.d (spansD a), .d (spansD b)]) : Bor H (.ls id 0 2 1) (.d (.sl 1 [[spansD a], [spansD b]])) := by
  rw [Bor_ls]
  exact ⟨rfl, rfl, fun e he => by simp at he; rcases he with rfl | rfl <;> rfl, _, h, rfl⟩
end Go.Proofs.Try
namespace Go.Proofs.Try
open Go.Psl
open Go.Geo (cross cyc InR box hullS)
theorem fn48 (l : List (Int × Int)) : Ct prog 48 [.d (spansD l)] (vb (decide (80 < l.length))) [] := by
  refine Ct.by gok eok mixed func48 c48 rfl (by simp [ntmps48]) (by simp) (by simp [ResIds]) fun E hE => ?_
  simp [p48]
  refine RetOk.by (fun _ => none) ?_
  simp [results48]
  omega
theorem cells_flat (L : List (Int × Int)) : (List.map (List.map V.d ∘ fun s : Int × Int => [di s.1, di s.2]) L).flatten = cellsI L := by
  show _ = (spD L).map V.d
  unfold spD
  rw [List.map_flatMap, List.flatMap_def]; rfl
theorem cells_cell (L : List (Int × Int)) : ∀ x : V, x ∈ cellsI L → x.isCell = true := fun x hx => by
  obtain ⟨y, _, rfl⟩ := List.mem_map.1 hx; rfl
theorem bor_own {H : Hp} {id : Nat} {l : List (Int × Int)} (h : H id = some (cellsI l)) : Bor H (.ls id 0 l.length 2) (.d (spansD l)) :=
  bor_cut (z := []) (by rw [List.append_nil]; exact h)
end Go.Proofs.Try
namespace Go.Proofs.Try
open Go.Psl
open Go.Geo (cross cyc InR box)
theorem zero_cells (n : Nat) : repl n [vi 0, vi 0] = cellsI (List.replicate n ((0 : Int), (0 : Int))) := repl_spD n
set_option maxRecDepth 20000 in
theorem grow_zero : Ct prog 143 [.d (.lit (.slice none 0 0)), vi 0] (.d (.lit (.slice none 0 0))) [] := by
  have w0 : IntKind.wrap .i64 0 = 0 := by decide
  refine Ct.by gok eok mixed func143 c143 rfl (by simp [ntmps143]) (by simp) (by simp [ResIds]) fun E hE => ?_
  simp [p143, w0]
  refine RetOk.by (fun _ => none) ?_
  simp [results143]
set_option maxRecDepth 20000 in
theorem grow_some (n : Nat) (h0 : 0 < n) (hn : n ≤ 1000000) : Ct prog 143 [.d (.lit (.slice none 0 0)), vi n] (.ls 0 0 0 2) [(0, cellsI (List.replicate n (0, 0)))] := by
  have w0 : IntKind.wrap .i64 0 = 0 := by decide
  have w1 : IntKind.wrap .i64 (n : Int) = n := wrap64 (by omega) (by omega)
  have q1 : ¬ ((n : Int) < 0) := by omega
  have q2 : (0 : Int) < n := by omega
  have q3 : n * 16 ≤ 140737488355328 ∧ n ≤ 9223372036854775807 := by omega
  refine Ct.by gok eok mixed func143 c143 rfl (by simp [ntmps143]) (by simp) (by simp [ResIds]) fun E hE => ?_
  simp [p143, w0, w1, q1, q3, h0, zero_cells]
  refine RetOk.by (lk [(0, 18874368)]) ?_
  simp [results143]
def twoD (a b : List (Int × Int)) : D := .sl 1 [[spansD a], [spansD b]]
theorem cells_app (a b : List (Int × Int)) : cellsI a ++ cellsI b = cellsI (a ++ b) := by
  show (spD a).map V.d ++ (spD b).map V.d = (spD (a ++ b)).map V.d
  rw [← List.map_append]; unfold spD; rw [List.flatMap_append]
set_option maxHeartbeats 4000000 in
set_option maxRecDepth 20000 in
theorem cat_size (a b : List (Int × Int)) (ha : a.length ≤ 100000) (hb : b.length ≤ 100000) {E : Ent} (hE : ∀ i, ¬ E.stab i) {Q : AExit → St → Prop} : ∀ i : Nat, i ≤ 2 → PW prog tys eqs E p108l0
    (seqQ (fun st' => ∃ j, j ≤ 2 ∧ 2 - j < 2 - i ∧ Weak prog E st' ⟨slots [(0, .d (twoD a b)), (3, vi (if j = 0 then 0 else if j = 1 then a.length else a.length + b.length)), (9, .d (twoD a b)), (10, vi 2), (11, vi j)], lk [], 0⟩)
      (exC prog E Q 0 (fun _ : Unit => ⟨slots [(0, .d (twoD a b)), (3, vi (a.length + b.length))], lk [], 0⟩) (fun _ => True)))
    ⟨slots [(0, .d (twoD a b)), (3, vi (if i = 0 then 0 else if i = 1 then a.length else a.length + b.length)), (9, .d (twoD a b)), (10, vi 2), (11, vi i)], lk [], 0⟩ := by
  intro i hi
  unfold twoD
  match i, hi with
  | 0, _ =>
    have w1 : IntKind.wrap .i64 1 = 1 := by decide
    have w2 : IntKind.wrap .i64 (a.length : Int) = a.length := wrap64 (by omega) (by omega)
    have q : ¬ ((a.length : Int) < 0) := by omega
    simp [p108l0, w1, w2, q]
    refine ⟨1, by omega, by omega, ?_⟩
    refine Weak.mk hE (lk []) _ _ _ ?_ ?_ ?_ ?_ ?_ <;> simp
  | 1, _ =>
    have w1 : IntKind.wrap .i64 2 = 2 := by decide
    have w2 : IntKind.wrap .i64 ((a.length : Int) + b.length) = (a.length : Int) + b.length := wrap64 (by omega) (by omega)
    have q : ¬ ((a.length : Int) + b.length < 0) := by omega
    simp [p108l0, w1, w2, q]
    refine ⟨2, by omega, by omega, ?_⟩
    refine Weak.mk hE (lk []) _ _ _ ?_ ?_ ?_ ?_ ?_ <;> simp
  | 2, _ =>
    simp [p108l0]
    refine Weak.mk hE (lk []) _ _ _ ?_ ?_ ?_ ?_ ?_ <;> simp
def catS (hdr : V) (blk : List (Nat × List V)) (a b : List (Int × Int)) : Nat → St
  | 0 => ⟨slots [(6, hdr), (25, .d (.sl 1 [[spansD a], [spansD b]])), (26, vi 2), (27, vi 0)], lk blk, 1⟩
  | 1 => ⟨slots [(6, .ls 0 0 a.length 2), (25, .d (.sl 1 [[spansD a], [spansD b]])), (26, vi 2), (27, vi 1)], lk [(0, cellsI a)], 1⟩
  | _ => ⟨slots [(6, .ls 0 0 (a.length + b.length) 2), (25, .d (.sl 1 [[spansD a], [spansD b]])), (26, vi 2), (27, vi 2)], lk [(0, cellsI (a ++ b))], 1⟩
theorem catD_ids (l : List (Int × Int)) : ResIds (.ls 0 0 l.length 2) [(0, cellsI l)] := by simp [ResIds]
set_option maxHeartbeats 8000000 in
set_option maxRecDepth 20000 in
theorem fn108 (a b : List (Int × Int)) (ha : a.length ≤ 100000) (hb : b.length ≤ 100000) : Ct prog 108 [.d (twoD a b)] (.ls 0 0 (a ++ b).length 2) [(0, cellsI (a ++ b))] := by
  have w1 : IntKind.wrap .i64 1 = 1 := by decide
  have w2 : IntKind.wrap .i64 2 = 2 := by decide
  have hfl := cells_flat b
  have hcell := cells_cell b
  have hfa := cells_flat a
  have hca := cells_cell a
  have hsl := spD_len a
  have htk : List.take (a.length * 2) (cellsI a) = cellsI a := List.take_of_length_le (by simp)
  have n1 : (a.length + b.length) * 16 ≤ 140737488355328 := by omega
  have n2 : a.length + b.length ≤ 9223372036854775807 := by omega
  have m1 : a.length * 16 ≤ 140737488355328 := by omega
  have m2 : a.length ≤ 9223372036854775807 := by omega
  refine Ct.by gok eok mixed func108 c108 rfl (by simp [ntmps108]) (by simp [twoD]) (catD_ids _) fun E hE => ?_
  rw [List.length_append]
  have e2 : twoD a b = (D.sl 1 [[spansD a], [spansD b]]) := rfl
  rw [e2]
  simp [p108]
  refine pw_loopC (α := Nat) 0 (fun _ : Unit => ⟨slots [(0, .d (twoD a b)), (3, vi (a.length + b.length))], lk [], 0⟩) (fun _ => True) (fun i => ⟨slots [(0, .d (twoD a b)), (3, vi (if i = 0 then 0 else if i = 1 then a.length else a.length + b.length)), (9, .d (twoD a b)), (10, vi 2), (11, vi i)], lk [], 0⟩) (fun i => i ≤ 2) (fun i => 2 - i) 0 ?_ ?_ ?_ fun _ _ => ?_
  · omega
  · rw [e2]
    refine Weak.mk hE (lk []) _ _ _ ?_ ?_ ?_ ?_ ?_ <;> simp
  · exact cat_size a b ha hb hE
  · by_cases h0 : a.length + b.length = 0
    · have hs0 : (a.length : Int) + b.length = 0 := by omega
      rw [hs0, e2]
      simp
      refine ACall.mk _ _ _ (grow_zero) (by first | (simp; done) | simp [Bor_ls, Bor1_ls]) (by simp) (by first | (left; simp; done) | (right; simp; done)) ?_
      simp
      refine pw_loopC (α := Nat) 2 (fun _ : Unit => ⟨slots [(6, .ls 0 0 (a.length + b.length) 2)], lk [(0, cellsI (a ++ b))], 1⟩) (fun _ => True) (catS (.d (.lit (.slice none 0 0))) [] a b) (fun i => i ≤ 2) (fun i => 2 - i) 0 ?_ ?_ ?_ fun _ _ => ?_
      · omega
      · unfold catS
        refine Weak.mk hE (lk []) _ _ _ ?_ ?_ ?_ ?_ ?_ <;> simp
      · intro i hi
        match i, hi with
        | 0, _ =>
          simp only [catS]
          simp [p108l1, hfa, m1, m2, w1]
          refine ⟨1, by omega, by omega, ?_⟩
          simp only
          refine Weak.mk hE (lk [(0, 6291457)]) _ _ _ ?_ ?_ ?_ ?_ ?_ <;> simp
        | 1, _ =>
          simp only [catS]
          simp [p108l1, w2, hfl, hsl, htk, n1, n2]
          refine ⟨2, by omega, by omega, ?_⟩
          simp only
          rw [cells_app]
          refine Weak.mk hE (lk [(0, 6291457)]) _ _ _ ?_ ?_ ?_ ?_ ?_ <;> simp
        | 2, _ =>
          simp only [catS]
          simp [p108l1]
          refine Weak.mk hE (lk [(0, 0)]) _ _ _ ?_ ?_ ?_ ?_ ?_ <;> simp
      · simp
        refine RetOk.by (lk [(0, 0)]) ?_
        simp [results108]
    · have hs0 : (a.length : Int) + b.length = ((a.length + b.length : Nat) : Int) := by omega
      rw [hs0, e2]
      simp
      refine ACall.mk _ _ _ (grow_some (a.length + b.length) (by omega) (by omega)) (by first | (simp; done) | simp [Bor_ls, Bor1_ls]) (by simp) (by first | (left; simp; done) | (right; simp; done)) ?_
      simp
      refine pw_loopC (α := Nat) 2 (fun _ : Unit => ⟨slots [(6, .ls 0 0 (a.length + b.length) 2)], lk [(0, cellsI (a ++ b))], 1⟩) (fun _ => True) (catS (.ls 0 0 0 2) [(0, cellsI (List.replicate (a.length + b.length) (0, 0)))] a b) (fun i => i ≤ 2) (fun i => 2 - i) 0 ?_ ?_ ?_ fun _ _ => ?_
      · omega
      · unfold catS
        refine Weak.mk hE (lk [(0, 1048576)]) _ _ _ ?_ ?_ ?_ ?_ ?_ <;> simp
      · intro i hi
        match i, hi with
        | 0, _ =>
          simp only [catS]
          simp [p108l1, hfa, m1, m2, w1]
          refine ⟨1, by omega, by omega, ?_⟩
          simp only
          refine Weak.mk hE (lk [(0, 6291457)]) _ _ _ ?_ ?_ ?_ ?_ ?_ <;> simp
        | 1, _ =>
          simp only [catS]
          simp [p108l1, w2, hfl, hsl, htk, n1, n2]
          refine ⟨2, by omega, by omega, ?_⟩
          simp only
          rw [cells_app]
          refine Weak.mk hE (lk [(0, 6291457)]) _ _ _ ?_ ?_ ?_ ?_ ?_ <;> simp
        | 2, _ =>
          simp only [catS]
          simp [p108l1]
          refine Weak.mk hE (lk [(0, 0)]) _ _ _ ?_ ?_ ?_ ?_ ?_ <;> simp
      · simp
        refine RetOk.by (lk [(0, 0)]) ?_
        simp [results108]
end Go.Proofs.Try
namespace Go.Proofs.Try
open Go.Psl
open Go.Geo (cross cyc InR box hullS)
theorem al_step (l : List (Int × Int)) (dx dy : Int) : ∀ i, i ≤ l.length → (∀ (j : Nat) q, j < i → l[j]? = some q → (alN l dx dy i).1 ≤ dotS dx dy q ∧ dotS dx dy q ≤ (alN l dx dy i).2) ∧ (0 < i → (∃ (j : Nat) (q : Int × Int), j < i ∧ l[j]? = some q ∧ dotS dx dy q = (alN l dx dy i).2) ∧ ∃ (j : Nat) (q : Int × Int), j < i ∧ l[j]? = some q ∧ dotS dx dy q = (alN l dx dy i).1)
  | 0, _ => ⟨fun j q hj => by omega, fun h => by omega⟩
  | i + 1, hi => by
    obtain ⟨h1, h2⟩ := al_step l dx dy i (by omega)
    obtain ⟨p, hp⟩ : ∃ p, l[i]? = some p := ⟨_, List.getElem?_eq_getElem (by omega)⟩
    by_cases h0 : i = 0
    · subst h0
      have e : alN l dx dy (0 + 1) = (dotS dx dy p, dotS dx dy p) := by simp [alN, hp]
      rw [e]
      refine ⟨fun j q hj hq => ?_, fun _ => ⟨⟨0, p, by omega, hp, rfl⟩, 0, p, by omega, hp, rfl⟩⟩
      have : j = 0 := by omega
      subst this
      rw [hp] at hq; cases hq
      exact ⟨Int.le_refl _, Int.le_refl _⟩
    · have e : alN l dx dy (i + 1) = (min (alN l dx dy i).1 (dotS dx dy p), max (alN l dx dy i).2 (dotS dx dy p)) := by simp [alN, hp, h0]
      rw [e]
      obtain ⟨⟨j1, q1, a1, a2, a3⟩, j2, q2, b1, b2, b3⟩ := h2 (by omega)
      refine ⟨fun j q hj hq => ?_, fun _ => ⟨?_, ?_⟩⟩
      · by_cases hji : j = i
        · subst hji
          rw [hp] at hq; cases hq
          simp only; omega
        · have := h1 j q (by omega) hq
          simp only; omega
      · by_cases hm : (alN l dx dy i).2 ≤ dotS dx dy p
        · exact ⟨i, p, by omega, hp, by simp only; omega⟩
        · exact ⟨j1, q1, by omega, a2, by simp only; omega⟩
      · by_cases hm : dotS dx dy p ≤ (alN l dx dy i).1
        · exact ⟨i, p, by omega, hp, by simp only; omega⟩
        · exact ⟨j2, q2, by omega, b2, by simp only; omega⟩
theorem al_max {l : List (Int × Int)} {dx dy : Int} {q : Int × Int} (hq : q ∈ l) : (alongS l dx dy).1 ≤ dotS dx dy q ∧ dotS dx dy q ≤ (alongS l dx dy).2 := by
  obtain ⟨j, hj⟩ := List.getElem?_of_mem hq
  exact (al_step l dx dy l.length (Nat.le_refl _)).1 j q (List.getElem?_eq_some_iff.1 hj).1 hj
theorem al_at {l : List (Int × Int)} {dx dy : Int} (h : 0 < l.length) : (∃ q ∈ l, dotS dx dy q = (alongS l dx dy).2) ∧ ∃ q ∈ l, dotS dx dy q = (alongS l dx dy).1 := by
  obtain ⟨⟨j, q, _, a, b⟩, j', q', _, a', b'⟩ := (al_step l dx dy l.length (Nat.le_refl _)).2 h
  exact ⟨⟨q, List.mem_of_getElem? a, b⟩, q', List.mem_of_getElem? a', b'⟩
end Go.Proofs.Try
namespace Go.Proofs.Try
open Go.Psl
open Go.Geo (cross cyc InR box hullS)
def prtS (a b : List (Int × Int)) (dx dy : Int) : Bool := decide ((alongS a dx dy).2 < (alongS b dx dy).1)
set_option maxRecDepth 20000 in
theorem fn107 (a b : List (Int × Int)) (dx dy : Int) (ha : a.length ≤ 1000000000) (hb : b.length ≤ 1000000000) (hd : bd 1073741824 (dx, dy)) (ba : ∀ q ∈ a, bd 536870912 q) (bb : ∀ q ∈ b, bd 536870912 q) : Ct prog 107 [.d (spansD a), .d (spansD b), vi dx, vi dy] (vb (prtS a b dx dy)) [] := by
  refine Ct.by gok eok mixed func107 c107 rfl (by simp [ntmps107]) (by simp) (by simp [ResIds]) fun E hE => ?_
  simp [p107]
  refine ACall.mk _ _ _ (fn103 a dx dy ha hd ba) (by first | (simp; done) | simp [Bor_ls, Bor1_ls]) (by simp) (by first | (left; simp; done) | (right; simp; done)) ?_
  simp
  refine ACall.mk _ _ _ (fn103 b dx dy hb hd bb) (by first | (simp; done) | simp [Bor_ls, Bor1_ls]) (by simp) (by first | (left; simp; done) | (right; simp; done)) ?_
  simp
  refine RetOk.by (fun _ => none) ?_
  simp [results107, prtS]
def prtE (a b : List (Int × Int)) (dx dy : Int) : Int := if (regS a && regS b) = false then 14 else if strS dx dy = false then 2 else 0
def prtV (a b : List (Int × Int)) (dx dy : Int) : Bool := decide (prtE a b dx dy = 0) && prtS a b dx dy
set_option maxRecDepth 20000 in
theorem fn64 (hS : SortOk) (a b : List (Int × Int)) (dx dy : Int) (ha : a.length ≤ 1000000000) (hb : b.length ≤ 1000000000) : Ct prog 64 [.d (spansD a), .d (spansD b), vi dx, vi dy] (.tup [vb (prtV a b dx dy), vi (prtE a b dx dy)]) [] := by
  refine Ct.by gok eok mixed func64 c64 rfl (by simp [ntmps64]) (by simp) (by simp [ResIds]) fun E hE => ?_
  simp [p64, splice, repl]
  refine ACall.mk _ _ _ (fn98 hS a b ha hb) (by simp [bor_two_ls]) (by simp) (by first | (left; simp; done) | (right; simp; done)) ?_
  cases h : regS a && regS b
  · have e : prtE a b dx dy = 14 := by unfold prtE; rw [h]; rfl
    simp
    refine RetOk.by (fun _ => none) ?_
    simp [results64, prtV, e]
  · have h12 := h
    rw [Bool.and_eq_true] at h12
    simp
    refine ACall.mk _ _ _ (fn102 dx dy) (by first | (simp; done) | simp [Bor_ls, Bor1_ls]) (by simp) (by first | (left; simp; done) | (right; simp; done)) ?_
    cases hs : strS dx dy
    · have e : prtE a b dx dy = 2 := by unfold prtE; rw [h, hs]; rfl
      simp
      refine RetOk.by (fun _ => none) ?_
      simp [results64, prtV, e]
    · have e : prtE a b dx dy = 0 := by unfold prtE; rw [h, hs]; rfl
      simp
      refine ACall.mk _ _ _ (fn107 a b dx dy ha hb (strS_iff.1 hs) (fun q hq => bd_mono (regS_bd h12.1 q hq) (by omega)) (fun q hq => bd_mono (regS_bd h12.2 q hq) (by omega))) (by first | (simp; done) | simp [Bor_ls, Bor1_ls]) (by simp) (by first | (left; simp; done) | (right; simp; done)) ?_
      simp
      refine RetOk.by (fun _ => none) ?_
      simp [results64, prtV, e]
def fourS (u : Int × Int) : List (Int × Int) := [(u.2, -u.1), (-u.2, u.1), u, (-u.1, -u.2)]
set_option maxHeartbeats 4000000 in
set_option maxRecDepth 20000 in
theorem apt_dirs (a b U : List (Int × Int)) (hl : U.length ≤ 1000) (hu : ∀ u ∈ U, bd 536870912 u) {E : Ent} (hE : ∀ i, ¬ E.stab i) {Q : AExit → St → Prop} : ∀ i : Nat, i ≤ U.length → PW prog tys eqs E p66l0
    (seqQ (fun st' => ∃ j, j ≤ U.length ∧ U.length - j < U.length - i ∧ Weak prog E st' ⟨slots [(0, .d (spansD a)), (1, .d (spansD b)), (8, hdrV ((U.take j).flatMap fourS) 0), (25, .ls 1 0 U.length 2), (26, vi U.length), (27, vi j)], lk ((1, cellsI U) :: outB ((U.take j).flatMap fourS) 0), 2⟩)
      (exC prog E Q 0 (fun _ : Unit => ⟨slots [(0, .d (spansD a)), (1, .d (spansD b)), (8, hdrV (U.flatMap fourS) 0)], lk (outB (U.flatMap fourS) 0), 1⟩) (fun _ => True)))
    ⟨slots [(0, .d (spansD a)), (1, .d (spansD b)), (8, hdrV ((U.take i).flatMap fourS) 0), (25, .ls 1 0 U.length 2), (26, vi U.length), (27, vi i)], lk ((1, cellsI U) :: outB ((U.take i).flatMap fourS) 0), 2⟩ := by
  intro i hi
  have hfl : ∀ V : List (Int × Int), (V.flatMap fourS).length = 4 * V.length := fun V => by
    induction V with
    | nil => rfl
    | cons v V ih => simp [fourS] at ih ⊢; omega
  by_cases h : i < U.length
  · obtain ⟨u, hu0⟩ : ∃ u, U[i]? = some u := ⟨_, List.getElem?_eq_getElem h⟩
    have hnx : (U.take (i + 1)).flatMap fourS = (U.take i).flatMap fourS ++ fourS u := by rw [List.take_add_one, hu0]; simp [List.flatMap_append]
    have hol := hfl (U.take i)
    have hbu := hu u (List.mem_of_getElem? hu0)
    unfold bd at hbu
    have w1 : IntKind.wrap .i64 (-u.1) = -u.1 := wrap64 (by omega) (by omega)
    have w2 : IntKind.wrap .i64 (-u.2) = -u.2 := wrap64 (by omega) (by omega)
    have hz : IntKind.wrap .i64 ((i : Int) + 1) = ((i + 1 : Nat) : Int) := by rw [wrap64 (by omega) (by omega)]; omega
    obtain ⟨O, hO⟩ : ∃ O, (U.take i).flatMap fourS = O := ⟨_, rfl⟩
    rw [hO] at hnx hol ⊢
    have hOl : O.length ≤ 4000 := by rw [hol]; simp; omega
    have fin : cellsI (O ++ fourS u) = cellsI O ++ cellsI (fourS u) := (cells_app _ _).symm
    have hI : (i : Int) < U.length := by omega
    have cu := cells_at hu0
    have qu : i * 2 + 2 ≤ U.length * 2 := by omega
    have hul := spD_len U
    have f4l : (fourS u).length = 4 := rfl
    have f4 : cellsI (fourS u) = [vi u.2, vi (-u.1), vi (-u.2), vi u.1, vi u.1, vi u.2, vi (-u.1), vi (-u.2)] := rfl
    by_cases hne : O = []
    · subst hne
      simp [p66l0, hI, cu, qu, hul, repl, splice, w1, w2, hz]
      refine ⟨i + 1, by omega, by omega, ?_⟩
      rw [hnx, List.nil_append, hdrV_ne (by simp [fourS]), outB_ne (by simp [fourS]), f4, f4l]
      refine Weak.mk hE (lk [(0, 28311554), (1, 1)]) _ _ _ ?_ ?_ ?_ ?_ ?_ <;> simp
    · have hsl := spD_len O
      have htk : List.take (O.length * 2) (cellsI O) = cellsI O := List.take_of_length_le (by simp)
      have n1 : (O.length + 4) * 16 ≤ 140737488355328 := by omega
      have n2 : O.length + 4 ≤ 9223372036854775807 := by omega
      rw [hdrV_ne hne, outB_ne hne]
      simp [p66l0, hI, cu, qu, hul, repl, splice, w1, w2, hz, hsl, htk, n1, n2]
      refine ⟨i + 1, by omega, by omega, ?_⟩
      rw [hnx, hdrV_ne (by simp [hne]), outB_ne (by simp [hne]), fin, f4, List.length_append, f4l]
      refine Weak.mk hE (lk [(0, 28311554), (1, 1)]) _ _ _ ?_ ?_ ?_ ?_ ?_ <;> simp
      rintro c (⟨a, _, rfl⟩ | rfl | rfl | rfl | rfl | rfl | rfl | rfl | rfl) <;> simp
  · have e : i = U.length := by omega
    rw [e, List.take_length]
    by_cases hne : U.flatMap fourS = []
    · rw [hne]
      simp [p66l0]
      refine Weak.mk hE (lk []) _ _ _ ?_ ?_ ?_ ?_ ?_ <;> simp
    · rw [hdrV_ne hne, outB_ne hne]
      simp [p66l0]
      refine Weak.mk hE (lk [(0, 0)]) _ _ _ ?_ ?_ ?_ ?_ ?_ <;> simp
def findP (a b : List (Int × Int)) (l : List (Int × Int)) : Option (Int × Int) := l.find? fun d => prtS a b d.1 d.2
set_option maxHeartbeats 4000000 in
set_option maxRecDepth 20000 in
theorem apt_find (a b L : List (Int × Int)) (res : Int × Int × Int) (hl : L.length ≤ 10000) (hL : ∀ d ∈ L, bd 1073741824 d) (ha : a.length ≤ 1000000000) (hb : b.length ≤ 1000000000) (ba : ∀ q ∈ a, bd 536870912 q) (bb : ∀ q ∈ b, bd 536870912 q) (hres : res = match findP a b L with | some d => (d.1, d.2, 0) | none => (0, 0, 6)) {E : Ent} (hE : ∀ i, ¬ E.stab i) {Q : AExit → St → Prop} (hQ : ∀ st, RetM tys f66 [] (.tup [vi res.1, vi res.2.1, vi res.2.2]) [] st → Q .ret st) : ∀ i : Nat, (i ≤ L.length ∧ findP a b (L.take i) = none) → PW prog tys eqs E p66l1
    (seqQ (fun st' => ∃ j, (j ≤ L.length ∧ findP a b (L.take j) = none) ∧ L.length - j < L.length - i ∧ Weak prog E st' ⟨slots [(0, .d (spansD a)), (1, .d (spansD b)), (65, .ls 0 0 L.length 2), (66, vi L.length), (67, vi j)], lk [(0, cellsI L)], 1⟩)
      (exC prog E Q 2 (fun _ : Unit => ⟨slots [], lk [], 0⟩) (fun _ => res = (0, 0, 6))))
    ⟨slots [(0, .d (spansD a)), (1, .d (spansD b)), (65, .ls 0 0 L.length 2), (66, vi L.length), (67, vi i)], lk [(0, cellsI L)], 1⟩ := by
  rintro i ⟨hi, hf⟩
  by_cases h : i < L.length
  · obtain ⟨d, hd⟩ : ∃ d, L[i]? = some d := ⟨_, List.getElem?_eq_getElem h⟩
    have hz : IntKind.wrap .i64 ((i : Int) + 1) = ((i + 1 : Nat) : Int) := by rw [wrap64 (by omega) (by omega)]; omega
    have cd := cells_at hd
    have q1 : i * 2 + 2 ≤ L.length * 2 := by omega
    have hsl := spD_len L
    have hnx : findP a b (L.take (i + 1)) = if prtS a b d.1 d.2 then some d else none := by
      unfold findP at hf ⊢
      rw [List.take_add_one, hd, List.find?_append, hf]
      simp
      try (cases prtS a b d.1 d.2 <;> rfl)
    have c := fn107 a b d.1 d.2 ha hb (hL d (List.mem_of_getElem? hd)) ba bb
    have hiI : (i : Int) < L.length := by omega
    simp [p66l1, hiI, cd, q1, hsl, splice]
    refine ACall.mk _ _ _ (c) (by first | (simp; done) | simp [Bor_ls, Bor1_ls]) (by simp) (by first | (left; simp; done) | (right; simp; done)) ?_
    cases hp : prtS a b d.1 d.2
    · rw [hp] at hnx
      simp [hz]
      refine ⟨i + 1, ⟨by omega, by rw [hnx]; rfl⟩, by omega, ?_⟩
      refine Weak.mk hE (lk [(0, 0)]) _ _ _ ?_ ?_ ?_ ?_ ?_ <;> simp
    · rw [hp] at hnx
      have hfd : findP a b L = some d := by
        unfold findP at hnx ⊢
        rw [← List.take_append_drop (i + 1) L, List.find?_append, hnx]; rfl
      rw [hfd] at hres
      subst hres
      simp [inC, Nat.testBit]
      refine hQ _ ?_
      refine RetOk.by (fun _ => none) ?_
      simp [results66]
  · have e : i = L.length := by omega
    have hn : ¬ (i : Int) < L.length := by omega
    have hr : res = (0, 0, 6) := by rw [e, List.take_length] at hf; rw [hres, hf]
    simp [p66l1, hn]
    refine ⟨hr, ?_⟩
    refine Weak.mk hE (lk []) _ _ _ ?_ ?_ ?_ ?_ ?_ <;> simp
theorem fz_sp {P : Program} {f : FuncId} {args : List V} {out : List (Int × Int)} (h : Ct P f args (hdrV out 0) (outB out 0)) : Ct P f args (.d (spansD out)) [] := by
  refine Cm.freeze h ?_
  have h1 := fz_spans out
  unfold Fz
  split
  · rename_i e _; rcases out_cases out with h2 | ⟨o, x, h2⟩ <;> rw [h2] at e <;> simp at e
  · exact h1
theorem fz_own {P : Program} {f : FuncId} {args : List V} {l : List (Int × Int)} (h : Ct P f args (.ls 0 0 l.length 2) [(0, cellsI l)]) : Ct P f args (.d (spansD l)) [] := by
  refine Cm.freeze h ?_
  have h1 : Bor (lk [(0, cellsI l)]) (.ls 0 0 l.length 2) (.d (spansD l)) := bor_own (by simp)
  exact h1
def candS (a b : List (Int × Int)) : List (Int × Int) := (sidS a ++ sidS b).flatMap fourS ++ [subC (a.headD (0, 0)) (b.headD (0, 0))]
def apartS (a b : List (Int × Int)) : Int × Int × Int := if regS a && regS b then (match findP a b (candS a b) with | some d => (d.1, d.2, 0) | none => (0, 0, 6)) else (0, 0, 14)
theorem sid_bd {r : List (Int × Int)} (h : ∀ q ∈ r, bd 268435456 q) : ∀ u ∈ sidS r, bd 536870912 u := fun u hu => by
  unfold sidS at hu
  split at hu
  · unfold stpS at hu
    obtain ⟨e, he, rfl⟩ := List.mem_map.1 hu
    have := Go.Geo.cyc_mem he
    exact bd_sub (h _ this.1) (h _ this.2) rfl
  · simp at hu
theorem sid_len (r : List (Int × Int)) : (sidS r).length ≤ r.length := by
  unfold sidS; split
  · rw [stp_len]; omega
  · simp
theorem cand_bd {a b : List (Int × Int)} (ha : ∀ q ∈ a, bd 268435456 q) (hb : ∀ q ∈ b, bd 268435456 q) (na : a ≠ []) (nb : b ≠ []) : ∀ d ∈ candS a b, bd 1073741824 d := fun d hd => by
  unfold candS at hd
  rcases List.mem_append.1 hd with h | h
  · obtain ⟨u, hu, h2⟩ := List.mem_flatMap.1 h
    have hbu : bd 536870912 u := by
      rcases List.mem_append.1 hu with h3 | h3
      · exact sid_bd ha u h3
      · exact sid_bd hb u h3
    unfold bd at hbu ⊢
    simp [fourS] at h2
    rcases h2 with rfl | rfl | rfl | rfl <;> (try simp only) <;> omega
  · rw [List.mem_singleton.1 h]
    obtain ⟨x, t, rfl⟩ := List.exists_cons_of_ne_nil na
    obtain ⟨y, s, rfl⟩ := List.exists_cons_of_ne_nil nb
    exact bd_mono (bd_sub (ha x (by simp)) (hb y (by simp)) rfl) (by omega)
set_option maxHeartbeats 8000000 in
set_option maxRecDepth 20000 in
theorem fn66 (hS : SortOk) (a b : List (Int × Int)) (ha : a.length ≤ 1000000000) (hb : b.length ≤ 1000000000) : Ct prog 66 [.d (spansD a), .d (spansD b)] (.tup [vi (apartS a b).1, vi (apartS a b).2.1, vi (apartS a b).2.2]) [] := by
  refine Ct.by gok eok mixed func66 c66 rfl (by simp [ntmps66]) (by simp) (by simp [ResIds]) fun E hE => ?_
  simp [p66, splice, repl]
  refine ACall.mk _ _ _ (fn98 hS a b ha hb) (by simp [bor_two_ls]) (by simp) (by first | (left; simp; done) | (right; simp; done)) ?_
  cases h : regS a && regS b
  · have e : apartS a b = (0, 0, 14) := by unfold apartS; rw [h]; rfl
    simp
    refine RetOk.by (fun _ => none) ?_
    simp [results66, e]
  have h12 := h
  rw [Bool.and_eq_true] at h12
  have ba := regS_bd h12.1
  have bb := regS_bd h12.2
  have la := regS_len h12.1
  have lb := regS_len h12.2
  have sa := sid_len a
  have sb := sid_len b
  have na := (reg_hull h12.1).2
  have nb := (reg_hull h12.2).2
  obtain ⟨res, hres⟩ : ∃ res, apartS a b = res := ⟨_, rfl⟩
  have hr2 : res = match findP a b (candS a b) with | some d => (d.1, d.2, 0) | none => (0, 0, 6) := by rw [← hres]; unfold apartS; rw [h]; rfl
  have hcb := cand_bd ba bb na nb
  rw [hres]
  simp
  refine ACall.mk _ _ _ (fz_sp (fn109 a (by omega) (fun q hq => bd_mono (ba q hq) (by omega)))) (by first | (simp; done) | simp [Bor_ls, Bor1_ls]) (by simp) (by first | (left; simp; done) | (right; simp; done)) ?_
  simp
  refine ACall.mk _ _ _ (fz_sp (fn109 b (by omega) (fun q hq => bd_mono (bb q hq) (by omega)))) (by first | (simp; done) | simp [Bor_ls, Bor1_ls]) (by simp) (by first | (left; simp; done) | (right; simp; done)) ?_
  simp [splice, repl]
  obtain ⟨U, hU⟩ : ∃ U, sidS a ++ sidS b = U := ⟨_, rfl⟩
  have hUl : U.length ≤ 128 := by rw [← hU, List.length_append]; omega
  have hUb : ∀ u ∈ U, bd 536870912 u := fun u hu => by
    rw [← hU] at hu
    rcases List.mem_append.1 hu with h3 | h3
    · exact sid_bd ba u h3
    · exact sid_bd bb u h3
  have cU := fn108 (sidS a) (sidS b) (by omega) (by omega)
  rw [hU] at cU
  refine ACall.mk _ _ _ (cU) (by simp [bor_two_ls, twoD]) (by simp) (by first | (left; simp; done) | (right; simp; done) | (right; simp; exact fun a h => spD_lit a h)) ?_
  simp
  refine pw_loopC (α := Nat) 0 (fun _ : Unit => ⟨slots [(0, .d (spansD a)), (1, .d (spansD b)), (8, hdrV (U.flatMap fourS) 0)], lk (outB (U.flatMap fourS) 0), 1⟩) (fun _ => True) (fun j => ⟨slots [(0, .d (spansD a)), (1, .d (spansD b)), (8, hdrV ((U.take j).flatMap fourS) 0), (25, .ls 1 0 U.length 2), (26, vi U.length), (27, vi j)], lk ((1, cellsI U) :: outB ((U.take j).flatMap fourS) 0), 2⟩) (fun j => j ≤ U.length) (fun j => U.length - j) 0 ?_ ?_ ?_ fun _ _ => ?_
  · simp
  · refine Weak.mk hE (lk [(1, 16777216)]) _ _ _ ?_ ?_ ?_ ?_ ?_ <;> simp
  · exact apt_dirs a b U (by omega) hUb hE
  · obtain ⟨x, ta, ea⟩ := List.exists_cons_of_ne_nil na
    obtain ⟨y, tb, eb⟩ := List.exists_cons_of_ne_nil nb
    have hx : a[0]? = some x := by rw [ea]; rfl
    have hy : b[0]? = some y := by rw [eb]; rfl
    have bx := ba x (by rw [ea]; simp)
    have by' := bb y (by rw [eb]; simp)
    have hq0 : (0 : Int) < a.length ∧ (0 : Int) < b.length := by omega
    have cs := fn110 x y (bd_mono bx (by omega)) (bd_mono by' (by omega))
    have hcd : candS a b = U.flatMap fourS ++ [subC x y] := by unfold candS; rw [hU, ea, eb]; rfl
    rw [hcd] at hr2 hcb
    have hfl : (U.flatMap fourS).length = 4 * U.length := by
      clear hr2 hcb hcd hUb hUl cU hU
      induction U with
      | nil => rfl
      | cons v V ih => simp [fourS] at ih ⊢; omega
    obtain ⟨O, hO⟩ : ∃ O, U.flatMap fourS = O := ⟨_, rfl⟩
    rw [hO] at hfl hr2 hcb ⊢
    have hOl : O.length ≤ 512 := by omega
    have fin : cellsI (O ++ [subC x y]) = (spD O).map V.d ++ [vi (subC x y).1, vi (subC x y).2] := spD_one _ O
    by_cases hne : O = []
    · subst hne
      simp [hx, hy]
      refine ACall.mk _ _ _ (cs) (by first | (simp; done) | simp [Bor_ls, Bor1_ls]) (by simp) (by first | (left; simp; done) | (right; simp; done)) ?_
      simp [splice, repl]
      refine pw_loopC (α := Nat) 2 (fun _ : Unit => ⟨slots [], lk [], 0⟩) (fun _ => res = (0, 0, 6)) (fun i => ⟨slots [(0, .d (spansD a)), (1, .d (spansD b)), (65, .ls 0 0 [subC x y].length 2), (66, vi [subC x y].length), (67, vi i)], lk [(0, cellsI [subC x y])], 1⟩) (fun i => i ≤ [subC x y].length ∧ findP a b ([subC x y].take i) = none) (fun i => [subC x y].length - i) 0 ?_ ?_ ?_ fun _ hr => ?_
      · exact ⟨by omega, rfl⟩
      · rw [show cellsI [subC x y] = [vi (subC x y).1, vi (subC x y).2] from rfl]
        refine Weak.mk hE (lk [(0, 9437185)]) _ _ _ ?_ ?_ ?_ ?_ ?_ <;> simp
        skip
      · exact apt_find a b [subC x y] res (by simp) hcb ha hb (fun q hq => bd_mono (ba q hq) (by omega)) (fun q hq => bd_mono (bb q hq) (by omega)) hr2 hE (fun st hst => by simpa using hst)
      · subst hr
        simp
        refine RetOk.by (fun _ => none) ?_
        simp [results66]
    · have hsl := spD_len O
      have htk : List.take (O.length * 2) (cellsI O) = cellsI O := List.take_of_length_le (by simp)
      have n1 : (O.length + 1) * 16 ≤ 140737488355328 := by omega
      have n2 : O.length + 1 ≤ 9223372036854775807 := by omega
      rw [hdrV_ne hne, outB_ne hne]
      simp [hx, hy]
      refine ACall.mk _ _ _ (cs) (by first | (simp; done) | simp [Bor_ls, Bor1_ls]) (by simp) (by first | (left; simp; done) | (right; simp; done)) ?_
      simp [splice, repl, hsl, htk, n1, n2]
      refine pw_loopC (α := Nat) 2 (fun _ : Unit => ⟨slots [], lk [], 0⟩) (fun _ => res = (0, 0, 6)) (fun i => ⟨slots [(0, .d (spansD a)), (1, .d (spansD b)), (65, .ls 0 0 (O ++ [subC x y]).length 2), (66, vi (O ++ [subC x y]).length), (67, vi i)], lk [(0, cellsI (O ++ [subC x y]))], 1⟩) (fun i => i ≤ (O ++ [subC x y]).length ∧ findP a b ((O ++ [subC x y]).take i) = none) (fun i => (O ++ [subC x y]).length - i) 0 ?_ ?_ ?_ fun _ hr => ?_
      · exact ⟨by omega, rfl⟩
      · rw [fin]
        refine Weak.mk hE (lk [(0, 9437185)]) _ _ _ ?_ ?_ ?_ ?_ ?_ <;> simp
        rintro c (⟨a, _, rfl⟩ | rfl | rfl) <;> simp
      · exact apt_find a b (O ++ [subC x y]) res (by simp; omega) hcb ha hb (fun q hq => bd_mono (ba q hq) (by omega)) (fun q hq => bd_mono (bb q hq) (by omega)) hr2 hE (fun st hst => by simpa using hst)
      · subst hr
        simp
        refine RetOk.by (fun _ => none) ?_
        simp [results66]
end Go.Proofs.Try
namespace Go.Proofs.Try
open Go.Psl
open Go.Geo (cross cyc InR box hullS Parted Tried dot)
theorem dot_eq (dx dy : Int) (v : Int × Int) : dot (dx, dy) v = dotS dx dy v := rfl
theorem prt_iff {a b : List (Int × Int)} (ha : 0 < a.length) (hb : 0 < b.length) (dx dy : Int) : prtS a b dx dy = true ↔ Parted (dx, dy) a b := by
  unfold prtS
  rw [decide_eq_true_eq]
  constructor
  · intro h p hp q hq
    have h1 := (al_max (dx := dx) (dy := dy) hp).2
    have h2 := (al_max (dx := dx) (dy := dy) hq).1
    rw [dot_eq, dot_eq]; omega
  · intro h
    obtain ⟨⟨p, hp, e1⟩, _⟩ := al_at (dx := dx) (dy := dy) ha
    obtain ⟨_, q, hq, e2⟩ := al_at (dx := dx) (dy := dy) hb
    have := h p hp q hq
    rw [dot_eq, dot_eq] at this; omega
theorem no_zero {a b : List (Int × Int)} (ha : a ≠ []) (hb : b ≠ []) {d : Int × Int} (h1 : d.1 = 0) (h2 : d.2 = 0) (h : Parted d a b) : False := by
  obtain ⟨x, s, rfl⟩ := List.exists_cons_of_ne_nil ha
  obtain ⟨y, t, rfl⟩ := List.exists_cons_of_ne_nil hb
  have := h x (by simp) y (by simp)
  unfold dot at this
  rw [h1, h2] at this
  simp at this
theorem side_in {r : List (Int × Int)} {e : (Int × Int) × (Int × Int)} (he : e ∈ cyc r) : Go.Geo.sb e.2 e.1 ∈ sidS r ∨ ((Go.Geo.sb e.2 e.1).1 = 0 ∧ (Go.Geo.sb e.2 e.1).2 = 0) := by
  by_cases h : 1 < r.length
  · left
    unfold sidS stpS
    rw [if_pos h]
    exact List.mem_map.2 ⟨e, he, rfl⟩
  · right
    match r, h, he with
    | [], _, he => simp [cyc] at he
    | [x], _, he => simp [cyc, Go.Geo.steps] at he; subst he; simp [Go.Geo.sb]
    | _ :: _ :: _, h, _ => simp at h
theorem tried_cand {a b : List (Int × Int)} (na : a ≠ []) (nb : b ≠ []) {d : Int × Int} (ht : Tried a b d) (hp : Parted d a b) : d ∈ candS a b := by
  have key : ∀ (e : (Int × Int) × (Int × Int)), (e ∈ cyc a ∨ e ∈ cyc b) → (d ∈ fourS (Go.Geo.sb e.2 e.1)) → ((Go.Geo.sb e.2 e.1).1 = 0 → (Go.Geo.sb e.2 e.1).2 = 0 → d.1 = 0 ∧ d.2 = 0) → d ∈ candS a b := fun e he hd hz => by
    have hs : Go.Geo.sb e.2 e.1 ∈ sidS a ++ sidS b ∨ ((Go.Geo.sb e.2 e.1).1 = 0 ∧ (Go.Geo.sb e.2 e.1).2 = 0) := by
      rcases he with he | he
      · exact (side_in he).imp (fun h => List.mem_append_left _ h) id
      · exact (side_in he).imp (fun h => List.mem_append_right _ h) id
    rcases hs with hs | ⟨h1, h2⟩
    · exact List.mem_append_left _ (List.mem_flatMap.2 ⟨_, hs, hd⟩)
    · obtain ⟨z1, z2⟩ := hz h1 h2
      exact (no_zero na nb z1 z2 hp).elim
  cases ht with
  | right e he => exact key e he (by simp [fourS]) (fun h1 h2 => by simp only; omega)
  | left e he => exact key e he (by simp [fourS]) (fun h1 h2 => by simp only; omega)
  | on e he => exact key e he (by simp [fourS]) (fun h1 h2 => ⟨h1, h2⟩)
  | back e he => exact key e he (by simp [fourS]) (fun h1 h2 => by simp only; omega)
  | way x y ha hb => subst ha; subst hb; unfold candS; exact List.mem_append_right _ (by simp [Go.Geo.sb, subC])
theorem reg_poly {r : List (Int × Int)} (h : regS r = true) : Go.Geo.Poly r := by
  obtain ⟨e, _⟩ := reg_hull h
  rw [e]; exact Go.Geo.poly_hull (sorted_dd r)
theorem find_none {a b : List (Int × Int)} (ha : regS a = true) (hb : regS b = true) : findP a b (candS a b) = none ↔ ∀ d, ¬ Parted d a b := by
  have la := regS_len ha
  have lb := regS_len hb
  have na := (reg_hull ha).2
  have nb := (reg_hull hb).2
  unfold findP
  rw [List.find?_eq_none]
  constructor
  · intro h d hd
    obtain ⟨d', ht, hp⟩ := Go.Geo.tried_all na nb (reg_poly ha) (reg_poly hb) hd
    have := h d' (tried_cand na nb ht hp)
    exact this ((prt_iff (by omega) (by omega) d'.1 d'.2).2 hp)
  · intro h d _ hp
    exact h d ((prt_iff (by omega) (by omega) d.1 d.2).1 (by simpa using hp))
theorem find_some {a b : List (Int × Int)} {d : Int × Int} (h : findP a b (candS a b) = some d) : prtS a b d.1 d.2 = true ∧ d ∈ candS a b := by
  unfold findP at h
  exact ⟨by have := List.find?_some h; simpa using this, List.mem_of_find?_eq_some h⟩
end Go.Proofs.Try
namespace Go.Proofs.Try
open Go.Psl
open Go.Stb
theorem ins_nil (x : D) : Ct prog 152 [.d (spansD []), vi 0, vi 0, .d x] (.tup []) [] := by
  refine Ct.by gok eok mixed func152 c152 rfl (by simp [ntmps152]) (by simp) (by simp [ResIds]) fun E hE => ?_
  have w1 : IntKind.wrap .i64 1 = 1 := by decide
  simp [p152, w1]
  refine pw_loop (α := Unit) (fun _ => ⟨slots [(2, vi 0), (8, vi 1)], lk [], 0⟩) (fun _ => True) (fun _ => 0) () trivial ?_ ?_
  · refine Weak.mk hE (lk []) _ _ _ ?_ ?_ ?_ ?_ ?_ <;> simp
  · intro _ _
    simp [p152l1]
    refine RetOk.by (fun _ => none) ?_
    simp [results152]
theorem stable_nil (x : D) : Ct prog 149 [.d (spansD []), vi 0, .d x] (.tup []) [] := by
  refine Ct.by gok eok mixed func149 c149 rfl (by simp [ntmps149]) (by simp) (by simp [ResIds]) fun E hE => ?_
  simp [p149]
  refine pw_loopC (α := Unit) 0 (fun _ : Unit => ⟨slots [(0, .d (spansD [])), (1, vi 0), (2, .d x), (6, vi 20), (7, vi 0)], lk [], 0⟩) (fun _ => True) (fun _ => ⟨slots [(0, .d (spansD [])), (1, vi 0), (2, .d x), (6, vi 20), (7, vi 0), (8, vi 20)], lk [], 0⟩) (fun _ => True) (fun _ => 0) () trivial ?_ ?_ fun _ _ => ?_
  · refine Weak.mk hE (lk []) _ _ _ ?_ ?_ ?_ ?_ ?_ <;> simp
  · intro _ _
    simp [p149l0]
    refine Weak.mk hE (lk []) _ _ _ ?_ ?_ ?_ ?_ ?_ <;> simp
  · simp
    refine ACall.mk _ _ _ (ins_nil x) (by first | (simp; done) | simp [Bor_ls, Bor1_ls]) (by simp) (by first | (left; simp; done) | (right; simp; done)) ?_
    simp
    refine pw_loop (α := Unit) (fun _ => ⟨slots [(1, vi 0), (6, vi 20)], lk [], 0⟩) (fun _ => True) (fun _ => 0) () trivial ?_ ?_
    · refine Weak.mk hE (lk []) _ _ _ ?_ ?_ ?_ ?_ ?_ <;> simp
    · intro _ _
      simp [p149l2]
      refine RetOk.by (fun _ => none) ?_
      simp [results149]
theorem sort_nil (x : D) : Ct prog 138 [.d (spansD []), .d x] (.tup []) [] := by
  refine Ct.by gok eok mixed func138 c138 rfl (by simp [ntmps138]) (by simp) (by simp [ResIds]) fun E hE => ?_
  simp [p138]
  refine ACall.mk _ _ _ (stable_nil x) (by first | (simp; done) | simp [Bor_ls, Bor1_ls]) (by simp) (by first | (left; simp; done) | (right; simp; done)) ?_
  simp
  refine RetOk.by (fun _ => none) ?_
  simp [results138]
def addC (p e : Int × Int) : Int × Int := (p.1 + e.1, p.2 + e.2)
def ptsS : Int × Int → List (Int × Int) → List (Int × Int)
  | p, [] => [p]
  | p, e :: r => p :: ptsS (addC p e) r
theorem pts_len : ∀ (es : List (Int × Int)) (p : Int × Int), (ptsS p es).length = es.length + 1
  | [], _ => rfl
  | e :: r, p => by simp [ptsS, pts_len r]
theorem pts_zero : ∀ (es : List (Int × Int)) (p : Int × Int), (ptsS p es)[0]? = some p
  | [], _ => rfl
  | _ :: _, _ => rfl
theorem pts_next : ∀ {es : List (Int × Int)} {p : Int × Int} {i : Nat} {q e : Int × Int}, (ptsS p es)[i]? = some q → es[i]? = some e → (ptsS p es)[i + 1]? = some (addC q e)
  | [], _, i, _, _, _, h => by simp at h
  | e0 :: r, p, 0, q, e, h1, h2 => by
    simp only [ptsS, List.getElem?_cons_zero, Option.some.injEq] at h1 h2
    subst h1; subst h2
    simp only [ptsS, List.getElem?_cons_succ]
    exact pts_zero _ _
  | e0 :: r, p, i + 1, q, e, h1, h2 => by
    simp only [ptsS, List.getElem?_cons_succ] at h1 h2 ⊢
    exact pts_next h1 h2
end Go.Proofs.Try
