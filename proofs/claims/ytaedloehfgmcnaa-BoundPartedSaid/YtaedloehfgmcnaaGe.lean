/- Contracts: what each function of the program computes, for the arguments that its theorem names; and from there the given statement. Conditions: those that each theorem states. -/
namespace Go.Geo
abbrev C := Int × Int
def lt (a b : C) : Prop := a.1 < b.1 ∨ (a.1 = b.1 ∧ a.2 < b.2)
def cross (a b c : C) : Int := (b.1 - a.1) * (c.2 - a.2) - (b.2 - a.2) * (c.1 - a.1)
/-- the angle's order of two steps to the right -/
def xp (u v : C) : Int := u.1 * v.2 - u.2 * v.1
def pos (u : C) : Prop := 0 < u.1 ∨ (u.1 = 0 ∧ 0 < u.2)
def sb (a b : C) : C := (a.1 - b.1, a.2 - b.2)
theorem lt_irr (a : C) : ¬ lt a a := by unfold lt; omega
theorem lt_trans {a b c : C} (h1 : lt a b) (h2 : lt b c) : lt a c := by unfold lt at *; omega
theorem lt_tri (a b : C) : lt a b ∨ a = b ∨ lt b a := by
  rcases a with ⟨a1, a2⟩; rcases b with ⟨b1, b2⟩
  simp only [lt, Prod.mk.injEq]; omega
theorem pos_sb {a b : C} (h : lt a b) : pos (sb b a) := by unfold lt at h; unfold pos sb; omega
theorem xp_key (u v w : C) : v.1 * xp u w = w.1 * xp u v + u.1 * xp v w := by unfold xp; grind
theorem cross_xp (a b c : C) : cross a b c = xp (sb b a) (sb c a) := by unfold cross xp sb; grind
theorem cross_xp2 (a b c : C) : cross a b c = xp (sb b a) (sb c b) := by unfold cross xp sb; grind
theorem cross_xp3 (a b c : C) : cross a b c = xp (sb c a) (sb c b) := by unfold cross xp sb; grind
theorem xp_neg (u v : C) : xp u v = - xp v u := by unfold xp; grind
theorem cross_swap (a b c : C) : cross a b c = - cross a c b := by unfold cross; grind
theorem cross_swap2 (a b c : C) : cross a b c = - cross b a c := by unfold cross; grind
theorem cross_self (a b : C) : cross a b a = 0 := by unfold cross; grind
theorem cross_self2 (a b : C) : cross a b b = 0 := by unfold cross; grind
theorem cross_self3 (a b : C) : cross a a b = 0 := by unfold cross; grind
theorem le_of_pmul {x y : Int} (h : 0 < x) (hy : 0 ≤ x * y) : 0 ≤ y := by
  apply Int.not_lt.1; intro hn
  have := Int.mul_neg_of_pos_of_neg h hn
  omega
theorem lt_of_pmul {x y : Int} (h : 0 < x) (hy : 0 < x * y) : 0 < y := by
  apply Int.not_le.1; intro hn
  have := Int.mul_nonpos_of_nonneg_of_nonpos (Int.le_of_lt h) hn
  omega
theorem tr {u v w : C} (hu : pos u) (hv : pos v) (hw : pos w) (h1 : 0 ≤ xp u v) (h2 : 0 ≤ xp v w) : 0 ≤ xp u w := by
  rcases hv with hv | ⟨hv, hv2⟩
  · refine le_of_pmul hv ?_
    rw [xp_key]
    have a := Int.mul_nonneg (show 0 ≤ w.1 by unfold pos at hw; omega) h1
    have b := Int.mul_nonneg (show 0 ≤ u.1 by unfold pos at hu; omega) h2
    omega
  · have e1 : xp v w = v.2 * -w.1 := by unfold xp; rw [hv]; grind
    rw [e1] at h2
    have := le_of_pmul hv2 h2
    have hw1 : w.1 = 0 := by unfold pos at hw; omega
    have hw2 : 0 < w.2 := by unfold pos at hw; omega
    have e2 : xp u w = u.1 * w.2 := by unfold xp; rw [hw1]; grind
    rw [e2]
    exact Int.mul_nonneg (by unfold pos at hu; omega) (by omega)
theorem tr_s1 {u v w : C} (hu : pos u) (hv : pos v) (hw : pos w) (h1 : 0 < xp u v) (h2 : 0 ≤ xp v w) : 0 < xp u w := by
  have hu1 : 0 < u.1 := by
    apply Int.not_le.1; intro hn
    have : u.1 = 0 := by unfold pos at hu; omega
    have h3 : 0 < u.2 := by unfold pos at hu; omega
    have e : xp u v = -(u.2 * v.1) := by unfold xp; rw [this]; grind
    have := Int.mul_nonneg (Int.le_of_lt h3) (show 0 ≤ v.1 by unfold pos at hv; omega)
    omega
  rcases hv with hv | ⟨hv, hv2⟩
  · refine lt_of_pmul hv ?_
    rw [xp_key]
    by_cases hw1 : 0 < w.1
    · have a := Int.mul_pos hw1 h1
      have b := Int.mul_nonneg (Int.le_of_lt hu1) h2
      omega
    · have hw0 : w.1 = 0 := by unfold pos at hw; omega
      have hw2 : 0 < w.2 := by unfold pos at hw; omega
      have e : xp v w = v.1 * w.2 := by unfold xp; rw [hw0]; grind
      rw [e, hw0]
      have := Int.mul_pos hu1 (Int.mul_pos hv hw2)
      omega
  · have e1 : xp v w = v.2 * -w.1 := by unfold xp; rw [hv]; grind
    rw [e1] at h2
    have := le_of_pmul hv2 h2
    have hw1 : w.1 = 0 := by unfold pos at hw; omega
    have hw2 : 0 < w.2 := by unfold pos at hw; omega
    have e2 : xp u w = u.1 * w.2 := by unfold xp; rw [hw1]; grind
    rw [e2]
    exact Int.mul_pos hu1 hw2
theorem tr_s2 {u v w : C} (hu : pos u) (hv : pos v) (hw : pos w) (h1 : 0 ≤ xp u v) (h2 : 0 < xp v w) : 0 < xp u w := by
  have hv1 : 0 < v.1 := by
    apply Int.not_le.1; intro hn
    have h0 : v.1 = 0 := by unfold pos at hv; omega
    have h3 : 0 < v.2 := by unfold pos at hv; omega
    have e : xp v w = -(v.2 * w.1) := by unfold xp; rw [h0]; grind
    have := Int.mul_nonneg (Int.le_of_lt h3) (show 0 ≤ w.1 by unfold pos at hw; omega)
    omega
  refine lt_of_pmul hv1 ?_
  rw [xp_key]
  by_cases hu1 : 0 < u.1
  · have a := Int.mul_pos hu1 h2
    have b := Int.mul_nonneg (show 0 ≤ w.1 by unfold pos at hw; omega) h1
    omega
  · have hu0 : u.1 = 0 := by unfold pos at hu; omega
    have hu2 : 0 < u.2 := by unfold pos at hu; omega
    have e : xp u v = -(u.2 * v.1) := by unfold xp; rw [hu0]; grind
    have := Int.mul_pos hu2 hv1
    omega

/-! ## the chain -/
def pushS : List C → C → List C
  | b :: a :: r, p => if cross a b p ≤ 0 then pushS (a :: r) p else p :: b :: a :: r
  | st, p => p :: st
def chainR (l : List C) : List C := l.foldl pushS []
/-- the steps of a stack of corners, the top first -/
def edg : List C → List (C × C)
  | b :: a :: r => (a, b) :: edg (a :: r)
  | _ => []
/-- a chain, the top first: to the right, turning left, and all of 'done' to the left -/
def Good (done : List C) : List C → Prop
  | c :: b :: a :: r => lt b c ∧ 0 < cross a b c ∧ (∀ q ∈ done, 0 ≤ cross b c q) ∧ Good done (b :: a :: r)
  | c :: b :: [] => lt b c ∧ ∀ q ∈ done, 0 ≤ cross b c q
  | _ => True
theorem Good.tail {done : List C} {b : C} : ∀ {r : List C}, Good done (b :: r) → Good done r
  | [], _ => trivial
  | [_], _ => trivial
  | _ :: _ :: _, h => h.2.2.2
theorem Good.lt2 {done : List C} {c b : C} : ∀ {r : List C}, Good done (c :: b :: r) → lt b c
  | [], h => h.1
  | _ :: _, h => h.1
theorem Good.above {done : List C} {c b : C} : ∀ {r : List C}, Good done (c :: b :: r) → ∀ q ∈ done, 0 ≤ cross b c q
  | [], h => h.2
  | _ :: _, h => h.2.2.1
theorem Good.one {done : List C} {q : C} : ∀ {st : List C}, Good done st → (∀ e ∈ edg st, 0 ≤ cross e.1 e.2 q) → Good (done ++ [q]) st
  | [], _, _ => trivial
  | [_], _, _ => trivial
  | [c, b], h, hq => ⟨h.1, fun x hx => by
      rcases List.mem_append.1 hx with hx | hx
      · exact h.2 x hx
      · rw [List.mem_singleton.1 hx]; exact hq (b, c) (by simp [edg])⟩
  | c :: b :: a :: r, h, hq => ⟨h.1, h.2.1, fun x hx => by
      rcases List.mem_append.1 hx with hx | hx
      · exact h.2.2.1 x hx
      · rw [List.mem_singleton.1 hx]; exact hq (b, c) (by simp [edg]), Good.one h.2.2.2 fun e he => hq e (by simp only [edg, List.mem_cons] at he ⊢; exact Or.inr he)⟩
/-- a point that goes on to the left of the last step is to the left of all -/
theorem on_left {done : List C} {p : C} : ∀ {st : List C}, Good done st → (∀ b ∈ st, lt b p) → (∀ b a r, st = b :: a :: r → 0 ≤ cross a b p) → ∀ e ∈ edg st, 0 ≤ cross e.1 e.2 p
  | [], _, _, _, _, he => by simp [edg] at he
  | [_], _, _, _, _, he => by simp [edg] at he
  | [c, b], _, _, h, e, he => by simp [edg] at he; subst he; exact h c b [] rfl
  | c :: b :: a :: r, hg, hl, h, e, he => by
    simp only [edg, List.mem_cons] at he
    have h0 := h c b (a :: r) rfl
    have hba : lt a b := hg.2.2.2.lt2
    have hcb := hg.1
    rcases he with rfl | he
    · exact h0
    · refine on_left hg.2.2.2 (fun x hx => hl x (by simp [hx])) (fun x y s hs => ?_) e (by simp only [edg, List.mem_cons]; exact he)
      cases hs
      -- steps: b - a, then c - b, then p - b
      have h1 := hg.2.1
      rw [cross_xp2] at h1 ⊢
      rw [cross_xp] at h0
      exact tr (pos_sb hba) (pos_sb hcb) (pos_sb (hl b (by simp))) (Int.le_of_lt h1) h0
theorem mem_lt_top {done : List C} {b : C} : ∀ {r : List C}, Good done (b :: r) → ∀ x ∈ r, lt x b
  | [], _, _, hx => by simp at hx
  | c :: r, h, x, hx => by
    have h1 := h.lt2
    rcases List.mem_cons.1 hx with rfl | hx
    · exact h1
    · exact lt_trans (mem_lt_top h.tail x hx) h1
theorem push_good {done : List C} {p : C} (hp : ∀ q ∈ done, lt q p) : ∀ {st : List C}, Good done st → (∀ b ∈ st, b ∈ done) → (∀ b r, st = b :: r → ∀ q ∈ done, ¬ lt q b → 0 ≤ cross b p q) → (∀ f, st.getLast? = some f → ∀ q ∈ done, ¬ lt q f) → Good (done ++ [p]) (pushS st p)
  | [], _, _, _, _ => trivial
  | [b], _, hs, hk, h1 => by
    refine ⟨hp b (hs b (by simp)), fun q hq => ?_⟩
    rcases List.mem_append.1 hq with hq | hq
    · exact hk b [] rfl q hq (h1 b rfl q hq)
    · rw [List.mem_singleton.1 hq, cross_self2]; omega
  | b :: a :: r, hg, hs, hk, h1 => by
    have hab := hg.lt2
    have hbp := hp b (hs b (by simp))
    have hap := hp a (hs a (by simp))
    unfold pushS
    by_cases hc : cross a b p ≤ 0
    · rw [if_pos hc]
      refine push_good hp hg.tail (fun x hx => hs x (by simp [hx])) (fun a' r' e q hq hqa => ?_) (fun f e q hq => h1 f (by rw [List.getLast?_cons_cons]; exact e) q hq)
      cases e
      have hqp := hp q hq
      -- b is above the way from a to p
      have hba : 0 ≤ xp (sb p a) (sb b a) := by rw [cross_swap, cross_xp] at hc; omega
      have hbp2 : 0 ≤ xp (sb p b) (sb p a) := by rw [cross_xp3] at hc; rw [xp_neg]; omega
      rcases lt_tri q b with hqb | rfl | hbq
      · rcases lt_tri a q with haq | rfl | hqa2
        · have h2 := hg.above q hq
          rw [cross_xp] at h2 ⊢
          exact tr (pos_sb hap) (pos_sb hab) (pos_sb haq) hba h2
        · rw [cross_self]; omega
        · exact absurd hqa2 hqa
      · rw [cross_xp]; exact hba
      · have h2 := hk b (a :: r) rfl q hq (fun h => lt_irr _ (lt_trans h hbq))
        rw [cross_swap, cross_xp3] at h2
        rw [cross_swap, cross_xp3]
        have h3 : 0 ≤ xp (sb p q) (sb p b) := by rw [xp_neg]; omega
        have := tr (pos_sb hqp) (pos_sb hbp) (pos_sb hap) h3 hbp2
        rw [xp_neg] at this
        omega
    · rw [if_neg hc]
      refine ⟨hbp, by omega, fun q hq => ?_, hg.one (on_left hg (fun x hx => hp x (hs x hx)) fun b' a' r' e => by cases e; omega)⟩
      rcases List.mem_append.1 hq with hq | hq
      · rcases lt_tri q b with hqb | rfl | hbq
        · have h2 := hg.above q hq
          have h3 : 0 ≤ xp (sb b q) (sb b a) := by
            have : cross a b q = xp (sb b q) (sb b a) := by unfold cross xp sb; grind
            omega
          have h4 : 0 ≤ xp (sb b a) (sb p b) := by rw [← cross_xp2]; omega
          have := tr (pos_sb hqb) (pos_sb hab) (pos_sb hbp) h3 h4
          have e : cross b p q = xp (sb b q) (sb p b) := by unfold cross xp sb; grind
          omega
        · rw [cross_self]; omega
        · exact hk b (a :: r) rfl q hq fun h => lt_irr _ (lt_trans h hbq)
      · rw [List.mem_singleton.1 hq, cross_self2]; omega
/-- in increasing order, each once -/
def Sorted : List C → Prop := List.Pairwise lt
theorem pushS_head (p : C) : ∀ st : List C, ∃ r, pushS st p = p :: r ∧ (st = [] → r = []) ∧ (st ≠ [] → r ≠ [] ∧ r.getLast? = st.getLast?) ∧ r.Sublist st
  | [] => ⟨[], rfl, fun _ => rfl, fun h => absurd rfl h, List.Sublist.refl _⟩
  | [b] => ⟨[b], rfl, fun h => by simp at h, fun _ => ⟨by simp, rfl⟩, List.Sublist.refl _⟩
  | b :: a :: r => by
    unfold pushS
    by_cases h : cross a b p ≤ 0
    · rw [if_pos h]
      obtain ⟨r', h1, _, h3, h4⟩ := pushS_head p (a :: r)
      exact ⟨r', h1, fun h => by simp at h, fun _ => by rw [List.getLast?_cons_cons]; exact h3 (by simp), h4.cons b⟩
    · rw [if_neg h]
      exact ⟨b :: a :: r, rfl, fun h => by simp at h, fun _ => ⟨by simp, rfl⟩, List.Sublist.refl _⟩
/-- what a chain is: Good, of the points, from the first to the last -/
structure ChainOf (l st : List C) : Prop where
  good : Good l st
  sub : st.reverse.Sublist l
  top : st.head? = l.getLast?
  bot : st.getLast? = l.head?
theorem chainR_snoc (l : List C) (p : C) : chainR (l ++ [p]) = pushS (chainR l) p := by simp [chainR]
theorem sorted_first {l : List C} (h : Sorted l) {f : C} (hf : l.head? = some f) : ∀ q ∈ l, ¬ lt q f := by
  cases l with
  | nil => simp at hf
  | cons a r =>
    simp at hf; subst hf
    intro q hq hlt
    rcases List.mem_cons.1 hq with rfl | hq
    · exact lt_irr _ hlt
    · exact lt_irr _ (lt_trans hlt ((List.pairwise_cons.1 h).1 q hq))
theorem chain_is (l : List C) (h : Sorted l) : ChainOf l (chainR l) := by
  have key : ∀ n, ∀ l : List C, l.length = n → Sorted l → ChainOf l (chainR l) := by
    intro n
    induction n with
    | zero =>
      intro l hl _
      rw [List.length_eq_zero_iff] at hl
      subst hl
      exact ⟨trivial, List.Sublist.refl _, rfl, rfl⟩
    | succ n ih =>
      intro l hl hs
      rcases List.eq_nil_or_concat l with rfl | ⟨l', p, rfl⟩
      · simp at hl
      rw [List.concat_eq_append] at hl hs ⊢
      have hs' : Sorted l' := (List.pairwise_append.1 hs).1
      have hp : ∀ q ∈ l', lt q p := fun q hq => (List.pairwise_append.1 hs).2.2 q hq p (by simp)
      have hi := ih l' (by simpa using hl) hs'
      rw [chainR_snoc]
      obtain ⟨r, e, e1, e2, e3⟩ := pushS_head p (chainR l')
      have hmem : ∀ b ∈ chainR l', b ∈ l' := fun b hb => hi.sub.subset (List.mem_reverse.2 hb)
      refine ⟨push_good hp hi.good hmem ?_ ?_, ?_, ?_, ?_⟩
      · intro b r' hb q hq hqb
        -- the top is the last of all
        have ht := hi.top
        rw [hb] at ht
        simp at ht
        have hql : q = b := by
          rcases List.eq_nil_or_concat l' with rfl | ⟨l2, x, rfl⟩
          · simp at hq
          · rw [List.concat_eq_append] at ht hq hs'
            simp at ht
            subst ht
            rcases List.mem_append.1 hq with hq | hq
            · exact absurd ((List.pairwise_append.1 hs').2.2 q hq b (by simp)) hqb
            · exact List.mem_singleton.1 hq
        rw [hql, cross_self]; omega
      · intro f hf
        exact sorted_first hs' (by rw [← hi.bot]; exact hf)
      · rw [e, List.reverse_cons]
        exact ((List.reverse_sublist.2 e3).trans hi.sub).append (List.Sublist.refl _)
      · rw [e]; simp
      · rw [e]
        by_cases h0 : chainR l' = []
        · have hl' : l' = [] := by
            have := hi.top
            rw [h0] at this
            simp at this
            cases l' with
            | nil => rfl
            | cons a b => simp [List.getLast?_cons] at this
          subst hl'
          rw [e1 h0]; rfl
        · obtain ⟨h1, h2⟩ := e2 h0
          cases r with
          | nil => exact absurd rfl h1
          | cons x r =>
            rw [List.getLast?_cons_cons, h2, hi.bot]
            cases l' with
            | nil => exact absurd rfl h0
            | cons a b => rfl
  exact key _ l rfl h
end Go.Geo
namespace Go.Geo
def steps : List C → List (C × C)
  | a :: b :: r => (a, b) :: steps (b :: r)
  | _ => []
theorem steps_snoc (a b : C) : ∀ l : List C, steps (l ++ [a, b]) = steps (l ++ [a]) ++ [(a, b)]
  | [] => rfl
  | [x] => rfl
  | x :: y :: r => by
    have := steps_snoc a b (y :: r)
    simp only [List.cons_append, steps] at this ⊢
    rw [this]
theorem steps_rev : ∀ st : List C, steps st.reverse = (edg st).reverse
  | [] => rfl
  | [_] => rfl
  | b :: a :: r => by
    have h := steps_rev (a :: r)
    rw [edg, List.reverse_cons (a := (a, b)), ← h, List.reverse_cons (a := b), List.reverse_cons, List.append_assoc]
    exact steps_snoc a b r.reverse
theorem steps_app (x : C) (u : List C) : ∀ l : List C, steps (l ++ x :: u) = steps (l ++ [x]) ++ steps (x :: u)
  | [] => rfl
  | [a] => by simp [steps]
  | a :: b :: r => by
    have := steps_app x u (b :: r)
    simp only [List.cons_append, steps] at this ⊢
    rw [this]
/-- the sides of a polygon -/
def cyc (r : List C) : List (C × C) := match r with | [] => [] | a :: t => steps (a :: t ++ [a])
def neg (p : C) : C := (-p.1, -p.2)
theorem neg_neg (p : C) : neg (neg p) = p := by simp [neg]
theorem cross_neg (a b c : C) : cross (neg a) (neg b) (neg c) = cross a b c := by unfold cross neg; grind
theorem lt_neg {a b : C} : lt (neg a) (neg b) ↔ lt b a := by unfold lt neg; omega
theorem push_neg (p : C) : ∀ st : List C, pushS (st.map neg) (neg p) = (pushS st p).map neg
  | [] => rfl
  | [_] => rfl
  | b :: a :: r => by
    have ih := push_neg p (a :: r)
    simp only [List.map_cons] at ih ⊢
    unfold pushS
    simp only [cross_neg]
    split
    · exact ih
    · rfl
theorem chainR_neg (l : List C) : chainR (l.map neg) = (chainR l).map neg := by
  have key : ∀ (l st : List C), (l.map neg).foldl pushS (st.map neg) = (l.foldl pushS st).map neg := by
    intro l
    induction l with
    | nil => intro st; rfl
    | cons a l ih => intro st; simp only [List.map_cons, List.foldl_cons]; rw [push_neg, ih]
  exact key l []
theorem sorted_neg {l : List C} (h : Sorted l) : Sorted (l.reverse.map neg) := by
  unfold Sorted at *
  rw [List.pairwise_map, List.pairwise_reverse]
  exact h.imp fun h => lt_neg.2 h
theorem edg_map (f : C → C) : ∀ st : List C, edg (st.map f) = (edg st).map fun e => (f e.1, f e.2)
  | [] => rfl
  | [_] => rfl
  | b :: a :: r => by
    have := edg_map f (a :: r)
    simp only [List.map_cons, edg] at this ⊢
    rw [this]
/-- what the hull of points in increasing order is -/
def hullS (l : List C) : List C := if l.length < 3 then l else (chainR l).tail.reverse ++ (chainR l.reverse).tail.reverse
theorem up_is {l : List C} (h : Sorted l) : ChainOf (l.reverse.map neg) ((chainR l.reverse).map neg) := by
  rw [← chainR_neg]
  exact chain_is _ (sorted_neg h)
theorem top_of {l st : List C} (h : ChainOf l st) {a : C} (ha : l.getLast? = some a) : ∃ t, st = a :: t := by
  have := h.top
  rw [ha] at this
  cases st with
  | nil => simp at this
  | cons b t => simp at this; exact ⟨t, by rw [this]⟩
/-- both chains, from the first point to the last one and back -/
theorem chains {l : List C} (h : Sorted l) (h2 : 2 ≤ l.length) : ∃ f g lo up, l.head? = some f ∧ l.getLast? = some g ∧ f ≠ g ∧ chainR l = g :: lo ∧ chainR l.reverse = f :: up ∧ lo.getLast? = some f ∧ up.getLast? = some g := by
  cases l with
  | nil => simp at h2
  | cons f r =>
    rcases List.eq_nil_or_concat r with rfl | ⟨m, g, rfl⟩
    · simp at h2
    rw [List.concat_eq_append] at *
    have hfg : f ≠ g := by
      intro e
      have := (List.pairwise_cons.1 h).1 g (by simp)
      rw [e] at this
      exact lt_irr _ this
    have hl : (f :: (m ++ [g])).getLast? = some g := by rw [show f :: (m ++ [g]) = (f :: m) ++ [g] from rfl, List.getLast?_append]; rfl
    obtain ⟨lo, hlo⟩ := top_of (chain_is _ h) hl
    have hu := up_is h
    have hl2 : ((f :: (m ++ [g])).reverse.map neg).getLast? = some (neg f) := by rw [List.getLast?_map, List.getLast?_reverse]; rfl
    obtain ⟨u', hu'⟩ := top_of hu hl2
    have hb := (chain_is _ h).bot
    rw [hlo] at hb
    have hub := hu.bot
    obtain ⟨up, hup⟩ : ∃ up, chainR (f :: (m ++ [g])).reverse = f :: up := by
      cases hc : chainR (f :: (m ++ [g])).reverse with
      | nil => rw [hc] at hu'; simp at hu'
      | cons a t =>
        rw [hc] at hu'
        simp only [List.map_cons, List.cons.injEq] at hu'
        have : a = f := by rw [← neg_neg a, hu'.1, neg_neg]
        exact ⟨t, by rw [this]⟩
    refine ⟨f, g, lo, up, rfl, hl, hfg, hlo, hup, ?_, ?_⟩
    · cases lo with
      | nil => simp at hb; exact absurd hb.symm hfg
      | cons a t => rw [List.getLast?_cons_cons] at hb; rw [hb]; rfl
    · rw [hup] at hub
      simp at hub
      cases up with
      | nil =>
        simp at hub
        have : f = g := by rw [← neg_neg f, hub, neg_neg]
        exact absurd this hfg
      | cons a t =>
        simp [List.getLast?_cons_cons] at hub
        rw [← List.map_cons, List.getLast?_map, Option.map_eq_some_iff] at hub
        obtain ⟨x, hx1, hx2⟩ := hub
        rw [hx1, show x = g by rw [← neg_neg x, hx2, neg_neg]]
end Go.Geo
namespace Go.Geo
def le (a b : C) : Prop := ¬ lt b a
theorem steps_mem_edg (st : List C) (e : C × C) : e ∈ steps st.reverse ↔ e ∈ edg st := by rw [steps_rev, List.mem_reverse]
/-- the sides of the hull are the steps of both chains -/
theorem cyc_hull {l : List C} (h : Sorted l) (h3 : 3 ≤ l.length) (e : C × C) : e ∈ cyc (hullS l) ↔ e ∈ edg (chainR l) ∨ e ∈ edg (chainR l.reverse) := by
  obtain ⟨f, g, lo, up, hf, hg, hfg, e1, e2, b1, b2⟩ := chains h (by omega)
  unfold hullS
  rw [if_neg (by omega), e1, e2]
  simp only [List.tail_cons]
  obtain ⟨lo', rfl⟩ : ∃ lo', lo = lo' ++ [f] := by
    rcases List.eq_nil_or_concat lo with rfl | ⟨x, y, rfl⟩
    · simp at b1
    · rw [List.concat_eq_append] at b1 ⊢; simp at b1; exact ⟨x, by rw [b1]⟩
  obtain ⟨up', rfl⟩ : ∃ up', up = up' ++ [g] := by
    rcases List.eq_nil_or_concat up with rfl | ⟨x, y, rfl⟩
    · simp at b2
    · rw [List.concat_eq_append] at b2 ⊢; simp at b2; exact ⟨x, by rw [b2]⟩
  have hc : cyc ((lo' ++ [f]).reverse ++ (up' ++ [g]).reverse) = steps ((g :: (lo' ++ [f])).reverse) ++ steps ((f :: (up' ++ [g])).reverse) := by
    simp only [List.reverse_append, List.reverse_cons, List.reverse_nil, List.nil_append, List.cons_append, cyc]
    have := steps_app g (up'.reverse ++ [f]) (f :: lo'.reverse)
    simpa [List.append_assoc] using this
  rw [hc, List.mem_append, steps_mem_edg, steps_mem_edg]
theorem good_edge {done : List C} : ∀ {st : List C}, Good done st → ∀ e ∈ edg st, lt e.1 e.2 ∧ ∀ q ∈ done, 0 ≤ cross e.1 e.2 q
  | [], _, _, he => by simp [edg] at he
  | [_], _, _, he => by simp [edg] at he
  | c :: b :: r, h, e, he => by
    simp only [edg, List.mem_cons] at he
    rcases he with rfl | he
    · exact ⟨h.lt2, h.above⟩
    · exact good_edge h.tail e he
theorem up_edge {l : List C} (h : Sorted l) : ∀ e ∈ edg (chainR l.reverse), lt e.2 e.1 ∧ ∀ q ∈ l, 0 ≤ cross e.1 e.2 q := fun e he => by
  have hg := (up_is h).good
  obtain ⟨h1, h2⟩ := good_edge hg (neg e.1, neg e.2) (by rw [edg_map]; exact List.mem_map.2 ⟨e, he, rfl⟩)
  refine ⟨lt_neg.1 h1, fun q hq => ?_⟩
  have := h2 (neg q) (List.mem_map.2 ⟨q, List.mem_reverse.2 hq, rfl⟩)
  rwa [cross_neg] at this
/-- all points are to the left of each side of the hull -/
theorem hull_left {l : List C} (h : Sorted l) (h3 : 3 ≤ l.length) : ∀ e ∈ cyc (hullS l), ∀ q ∈ l, 0 ≤ cross e.1 e.2 q := fun e he => by
  rcases (cyc_hull h h3 e).1 he with he | he
  · exact (good_edge (chain_is l h).good e he).2
  · exact (up_edge h e he).2
theorem hull_sub {l : List C} (h : Sorted l) : ∀ p ∈ hullS l, p ∈ l := fun p hp => by
  unfold hullS at hp
  split at hp
  · exact hp
  · rcases List.mem_append.1 hp with hp | hp
    · exact (chain_is l h).sub.subset (List.mem_reverse.2 (List.mem_of_mem_tail (List.mem_reverse.1 hp)))
    · have h1 := List.mem_of_mem_tail (List.mem_reverse.1 hp)
      have h2 := (up_is h).sub.subset (List.mem_reverse.2 (List.mem_map.2 ⟨p, h1, rfl⟩))
      obtain ⟨q, hq, e⟩ := List.mem_map.1 h2
      have : p = q := by rw [← neg_neg p, ← e, neg_neg]
      rw [this]; exact List.mem_reverse.1 hq
/-! ## between which corners a point is -/
theorem straddle {done : List C} {q t f : C} : ∀ {st : List C}, Good done st → st.head? = some t → st.getLast? = some f → 2 ≤ st.length → le f q → le q t → ∃ e ∈ edg st, le e.1 q ∧ le q e.2
  | [], _, h, _, _, _, _ => by simp at h
  | [_], _, _, _, h, _, _ => by simp at h
  | [c, b], _, h1, h2, _, h3, h4 => by
    simp at h1 h2; subst h1; subst h2
    exact ⟨(b, c), by simp [edg], h3, h4⟩
  | c :: b :: a :: r, hg, h1, h2, _, h3, h4 => by
    simp at h1; subst h1
    by_cases hb : le q b
    · rw [List.getLast?_cons_cons] at h2
      obtain ⟨e, he, h5⟩ := straddle (st := b :: a :: r) hg.tail rfl h2 (by simp) h3 hb
      exact ⟨e, by simp only [edg, List.mem_cons] at he ⊢; exact Or.inr he, h5⟩
    · exact ⟨(b, c), by simp [edg], fun h => hb (fun h' => lt_irr _ (lt_trans h h')), h4⟩
/-- a line's value between two corners, above the way between them -/
theorem val_max {α β M : Int} {a b q : C} (hab : lt a b) (h1 : le a q) (h2 : le q b) (hc : 0 ≤ cross a b q) (hβ : β ≤ 0 ∨ cross a b q = 0) (ha : α * a.1 + β * a.2 ≤ M) (hb : α * b.1 + β * b.2 ≤ M) : α * q.1 + β * q.2 ≤ M := by
  have hk : (b.1 - a.1) * (α * q.1 + β * q.2) = (b.1 - q.1) * (α * a.1 + β * a.2) + (q.1 - a.1) * (α * b.1 + β * b.2) + β * cross a b q := by unfold cross; grind
  have hbc : β * cross a b q ≤ 0 := by
    rcases hβ with h | h
    · exact Int.mul_nonpos_of_nonpos_of_nonneg h hc
    · rw [h]; omega
  by_cases hx : a.1 < b.1
  · have q1 : a.1 ≤ q.1 := by unfold le lt at h1; omega
    have q2 : q.1 ≤ b.1 := by unfold le lt at h2; omega
    have k1 := Int.mul_le_mul_of_nonneg_left ha (show 0 ≤ b.1 - q.1 by omega)
    have k2 := Int.mul_le_mul_of_nonneg_left hb (show 0 ≤ q.1 - a.1 by omega)
    have e : (b.1 - q.1) * M + (q.1 - a.1) * M = (b.1 - a.1) * M := by grind
    have : (b.1 - a.1) * (α * q.1 + β * q.2) ≤ (b.1 - a.1) * M := by omega
    exact Int.le_of_mul_le_mul_left this (by omega)
  · have e1 : a.1 = b.1 := by unfold lt at hab; omega
    have e2 : a.2 < b.2 := by unfold lt at hab; omega
    have e3 : q.1 = a.1 := by unfold le lt at h1 h2; omega
    have e4 : a.2 ≤ q.2 := by unfold le lt at h1; omega
    have e5 : q.2 ≤ b.2 := by unfold le lt at h2; omega
    rw [e3]
    rw [← e1] at hb
    by_cases hb0 : 0 ≤ β
    · have := Int.mul_le_mul_of_nonneg_left e5 hb0
      omega
    · have := Int.mul_le_mul_of_nonpos_left (show β ≤ 0 by omega) e4
      omega
end Go.Geo
namespace Go.Geo
/-- a line's greatest value is at a corner of the hull -/
theorem hull_max {l : List C} (h : Sorted l) {α β M : Int} (hv : ∀ v ∈ hullS l, α * v.1 + β * v.2 ≤ M) : ∀ q ∈ l, α * q.1 + β * q.2 ≤ M := by
  intro q hq
  by_cases h3 : l.length < 3
  · refine hv q ?_
    unfold hullS; rw [if_pos h3]; exact hq
  obtain ⟨f, g, lo, up, hf, hg, hfg, e1, e2, b1, b2⟩ := chains h (by omega)
  -- corners of the chains are corners of the hull
  have hlo : ∀ v ∈ chainR l, v ∈ hullS l := fun v hm => by
    unfold hullS
    rw [if_neg h3, e1, e2]
    rw [e1] at hm
    simp only [List.tail_cons, List.mem_append, List.mem_reverse]
    rcases List.mem_cons.1 hm with rfl | hm
    · right; exact List.mem_of_getLast? b2
    · left; exact hm
  have hup : ∀ v ∈ chainR l.reverse, v ∈ hullS l := fun v hm => by
    unfold hullS
    rw [if_neg h3, e1, e2]
    rw [e2] at hm
    simp only [List.tail_cons, List.mem_append, List.mem_reverse]
    rcases List.mem_cons.1 hm with rfl | hm
    · left; exact List.mem_of_getLast? b1
    · right; exact hm
  have hfirst := sorted_first h hf q hq
  have hlast : le q g := by
    have hs := sorted_neg h
    have := sorted_first hs (f := neg g) (by rw [List.head?_map, List.head?_reverse, hg]; rfl) (neg q) (List.mem_map.2 ⟨q, List.mem_reverse.2 hq, rfl⟩)
    intro hlt
    exact this (lt_neg.2 hlt)
  have mem_edg : ∀ {st : List C} {e : C × C}, e ∈ edg st → e.1 ∈ st ∧ e.2 ∈ st := by
    intro st
    induction st with
    | nil => intro e he; simp [edg] at he
    | cons c r ih =>
      intro e he
      cases r with
      | nil => simp [edg] at he
      | cons b r =>
        simp only [edg, List.mem_cons] at he
        rcases he with rfl | he
        · simp
        · have := ih he
          exact ⟨List.mem_cons_of_mem _ this.1, List.mem_cons_of_mem _ this.2⟩
  by_cases hβ : β ≤ 0
  · have hc := chain_is l h
    obtain ⟨e, he, h4, h5⟩ := straddle hc.good (q := q) (t := g) (f := f) (by rw [e1]; rfl) (by rw [hc.bot, hf]) (by rw [e1]; cases lo with | nil => simp at b1 | cons => simp) hfirst hlast
    obtain ⟨k1, k2⟩ := good_edge hc.good e he
    exact val_max k1 h4 h5 (k2 q hq) (Or.inl hβ) (hv _ (hlo _ (mem_edg he).1)) (hv _ (hlo _ (mem_edg he).2))
  · have hu := up_is h
    obtain ⟨e, he, h4, h5⟩ := straddle hu.good (q := neg q) (t := neg f) (f := neg g) (by rw [e2]; rfl) (by rw [hu.bot, List.head?_map, List.head?_reverse, hg]; rfl) (by rw [e2]; cases up with | nil => simp at b2 | cons => simp) (fun hh => hlast (lt_neg.1 hh)) (fun hh => hfirst (lt_neg.1 hh))
    obtain ⟨k1, k2⟩ := good_edge hu.good e he
    rw [edg_map] at he
    obtain ⟨e', he', rfl⟩ := List.mem_map.1 he
    have hn := k2 (neg q) (List.mem_map.2 ⟨q, List.mem_reverse.2 hq, rfl⟩)
    have r := val_max (α := -α) (β := -β) (M := M) k1 h4 h5 hn (Or.inl (by omega)) (by
      have := hv _ (hup _ (mem_edg he').1)
      simp only [neg]; rw [Int.neg_mul_neg, Int.neg_mul_neg]; exact this) (by
      have := hv _ (hup _ (mem_edg he').2)
      simp only [neg]; rw [Int.neg_mul_neg, Int.neg_mul_neg]; exact this)
    simp only [neg] at r
    rw [Int.neg_mul_neg, Int.neg_mul_neg] at r
    exact r
/-! ## a chain is determined by its points -/
theorem good_mid {done : List C} {y v x : C} {t : List C} : ∀ {s : List C}, Good done (s ++ y :: v :: x :: t) → lt v y ∧ lt x v ∧ 0 < cross x v y ∧ (∀ q ∈ done, 0 ≤ cross v y q) ∧ ∀ q ∈ done, 0 ≤ cross x v q
  | [], h => ⟨h.1, h.2.2.2.lt2, h.2.1, h.2.2.1, h.2.2.2.above⟩
  | _ :: s, h => good_mid (s := s) h.tail
theorem mem_cases {v : C} : ∀ {st : List C}, v ∈ st → st.head? = some v ∨ st.getLast? = some v ∨ ∃ s y x t, st = s ++ y :: v :: x :: t
  | [], h => by simp at h
  | [a], h => by simp at h; left; simp [h]
  | a :: b :: r, h => by
    rcases List.mem_cons.1 h with rfl | h
    · left; rfl
    · rcases mem_cases h with h1 | h1 | ⟨s, y, x, t, h1⟩
      · simp at h1; subst h1
        cases r with
        | nil => right; left; rfl
        | cons x t => right; right; exact ⟨[], a, x, t, rfl⟩
      · right; left; rw [List.getLast?_cons_cons]; exact h1
      · right; right; exact ⟨a :: s, y, x, t, by rw [h1]; rfl⟩
theorem good_desc {done : List C} : ∀ {st : List C}, Good done st → List.Pairwise (fun a b => lt b a) st
  | [], _ => List.Pairwise.nil
  | _ :: _, h => List.pairwise_cons.2 ⟨fun x hx => mem_lt_top h x hx, good_desc h.tail⟩
theorem chain_mem {l st st' : List C} (h : ChainOf l st) (h' : ChainOf l st') : ∀ v ∈ st, v ∈ st' := by
  intro v hv
  have hmem : ∀ x ∈ st, x ∈ l := fun x hx => h.sub.subset (List.mem_reverse.2 hx)
  have hmem' : ∀ x ∈ st', x ∈ l := fun x hx => h'.sub.subset (List.mem_reverse.2 hx)
  rcases mem_cases hv with h1 | h1 | ⟨s, y, x, t, rfl⟩
  · rw [h.top, ← h'.top] at h1; exact List.mem_of_head? h1
  · rw [h.bot, ← h'.bot] at h1; exact List.mem_of_getLast? h1
  · obtain ⟨vy, xv, hc, a1, a2⟩ := good_mid h.good
    by_cases hin : v ∈ st'
    · exact hin
    exfalso
    have hd := good_desc h.good
    -- the last and the first corner of the other chain
    obtain ⟨g, hg⟩ : ∃ g, l.getLast? = some g := by
      cases hl : l.getLast? with
      | some g => exact ⟨g, rfl⟩
      | none =>
        rw [List.getLast?_eq_none_iff] at hl
        have := hmem v hv
        rw [hl] at this; simp at this
    obtain ⟨f, hf⟩ : ∃ f, l.head? = some f := by
      cases hl : l.head? with
      | some g => exact ⟨g, rfl⟩
      | none =>
        rw [List.head?_eq_none_iff] at hl
        have := hmem v hv
        rw [hl] at this; simp at this
    have hvg : lt v g := by
      have ht := h.top
      rw [hg] at ht
      cases s with
      | nil => simp at ht; subst ht; exact vy
      | cons c s =>
        simp at ht; subst ht
        exact (List.pairwise_cons.1 hd).1 v (by simp)
    have hfv : lt f v := by
      have ht := h.bot
      rw [hf] at ht
      have hlast : (x :: t).getLast? = some f := by
        rw [← ht]
        rw [show s ++ y :: v :: x :: t = (s ++ [y, v]) ++ (x :: t) by simp, List.getLast?_append]
        cases hx : (x :: t).getLast? with
        | none => simp [List.getLast?_cons] at hx
        | some z => rfl
      have hfm : f ∈ x :: t := List.mem_of_getLast? hlast
      have h3 := (List.pairwise_append.1 hd).2.1
      have h4 := (List.pairwise_cons.1 (List.pairwise_cons.1 h3).2).1
      exact h4 f hfm
    have hlen : 2 ≤ st'.length := by
      have t1 := h'.top; have t2 := h'.bot
      rw [hg] at t1; rw [hf] at t2
      match st', t1, t2 with
      | [], t1, _ => simp at t1
      | [c], t1, t2 => simp at t1 t2; subst t1; subst t2; exact absurd (lt_trans hvg hfv) (lt_irr _)
      | _ :: _ :: _, _, _ => simp
    obtain ⟨e, he, h5, h6⟩ := straddle h'.good (q := v) (by rw [h'.top, hg]) (by rw [h'.bot, hf]) hlen (fun hh => lt_irr _ (lt_trans hfv hh)) (fun hh => lt_irr _ (lt_trans hvg hh))
    obtain ⟨k1, k2⟩ := good_edge h'.good e he
    have m1 : e.1 ∈ st' ∧ e.2 ∈ st' := by
      have : ∀ {st : List C} {e : C × C}, e ∈ edg st → e.1 ∈ st ∧ e.2 ∈ st := by
        intro st
        induction st with
        | nil => intro e he; simp [edg] at he
        | cons c r ih =>
          intro e he
          cases r with
          | nil => simp [edg] at he
          | cons b r =>
            simp only [edg, List.mem_cons] at he
            rcases he with rfl | he
            · simp
            · have := ih he
              exact ⟨List.mem_cons_of_mem _ this.1, List.mem_cons_of_mem _ this.2⟩
      exact this he
    have n1 : e.1 ≠ v := fun e0 => hin (e0 ▸ m1.1)
    have n2 : e.2 ≠ v := fun e0 => hin (e0 ▸ m1.2)
    have l1 : lt e.1 v := by rcases lt_tri e.1 v with h | h | h; exact h; exact absurd h n1; exact absurd h h5
    have l2 : lt v e.2 := by rcases lt_tri v e.2 with h | h | h; exact h; exact absurd h.symm n2; exact absurd h h6
    -- steps: v - a', v - x, y - v, b' - v
    have c1 := a2 e.1 (hmem' _ m1.1)
    have c2 := a1 e.2 (hmem' _ m1.2)
    have c3 := k2 v (hmem v hv)
    have d1 : 0 ≤ xp (sb v e.1) (sb v x) := by have : cross x v e.1 = xp (sb v e.1) (sb v x) := by unfold cross xp sb; grind
                                               omega
    have d2 : 0 < xp (sb v x) (sb y v) := by rw [← cross_xp2]; exact hc
    have d3 : 0 ≤ xp (sb y v) (sb e.2 v) := by rw [← cross_xp]; exact c2
    have d4 := tr_s2 (pos_sb l1) (pos_sb xv) (pos_sb vy) d1 d2
    have d5 := tr_s1 (pos_sb l1) (pos_sb vy) (pos_sb l2) d4 d3
    have d6 : cross e.1 e.2 v = - xp (sb v e.1) (sb e.2 v) := by unfold cross xp sb; grind
    omega
theorem sub_eq {l : List C} (hl : Sorted l) : ∀ {s s' : List C}, s.Sublist l → s'.Sublist l → (∀ x, x ∈ s ↔ x ∈ s') → s = s' := by
  induction l with
  | nil => intro s s' h h' _; rw [List.sublist_nil.1 h, List.sublist_nil.1 h']
  | cons a l ih =>
    intro s s' h h' hm
    have hl' : Sorted l := (List.pairwise_cons.1 hl).2
    have hna : a ∉ l := fun hc => lt_irr _ ((List.pairwise_cons.1 hl).1 a hc)
    have hin : ∀ {s : List C}, s.Sublist (a :: l) → (s.Sublist l ∧ a ∉ s) ∨ ∃ r, s = a :: r ∧ r.Sublist l := by
      intro s h
      cases h with
      | cons _ h => exact Or.inl ⟨h, fun hc => hna (h.subset hc)⟩
      | cons_cons _ h => exact Or.inr ⟨_, rfl, h⟩
    rcases hin h with ⟨h1, n1⟩ | ⟨r, rfl, h1⟩ <;> rcases hin h' with ⟨h2, n2⟩ | ⟨r', rfl, h2⟩
    · exact ih hl' h1 h2 hm
    · exact absurd ((hm a).2 (by simp)) n1
    · exact absurd ((hm a).1 (by simp)) n2
    · have : r = r' := ih hl' h1 h2 fun x => by
        have := hm x
        simp only [List.mem_cons] at this
        constructor
        · intro hx
          rcases this.1 (Or.inr hx) with rfl | h
          · exact absurd (h1.subset hx) hna
          · exact h
        · intro hx
          rcases this.2 (Or.inr hx) with rfl | h
          · exact absurd (h2.subset hx) hna
          · exact h
      rw [this]
theorem chain_unique {l st st' : List C} (hl : Sorted l) (h : ChainOf l st) (h' : ChainOf l st') : st = st' := by
  have := sub_eq hl h.sub h'.sub fun x => by
    rw [List.mem_reverse, List.mem_reverse]
    exact ⟨chain_mem h h' x, chain_mem h' h x⟩
  exact List.reverse_inj.1 this
end Go.Geo
