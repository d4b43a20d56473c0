/- Contracts: what each function of the program computes, for the arguments that its theorem names; and from there the given statement. Conditions: those that each theorem states. -/
import Derived.Test.YtaedloehfgmcnaaGe
namespace Go.Geo
/-- a corner between both ends of a chain is strictly to the right of the way between them -/
theorem chain_ends {l st : List C} (h : ChainOf l st) {f g : C} (hf : l.head? = some f) (hg : l.getLast? = some g) {s t : List C} {y v x : C} (e : st = s ++ y :: v :: x :: t) : lt f v ∧ lt v g := by
  subst e
  have hd := good_desc h.good
  obtain ⟨vy, xv, _, _, _⟩ := good_mid h.good
  constructor
  · have ht := h.bot
    rw [hf] at ht
    have hlast : (x :: t).getLast? = some f := by
      rw [← ht]
      rw [show s ++ y :: v :: x :: t = (s ++ [y, v]) ++ (x :: t) by simp, List.getLast?_append]
      cases hx : (x :: t).getLast? with
      | none => simp [List.getLast?_cons] at hx
      | some z => rfl
    have hfm : f ∈ x :: t := List.mem_of_getLast? hlast
    have h3 := (List.pairwise_append.1 hd).2.1
    exact (List.pairwise_cons.1 (List.pairwise_cons.1 h3).2).1 f hfm
  · have ht := h.top
    rw [hg] at ht
    cases s with
    | nil => simp at ht; subst ht; exact vy
    | cons c s =>
      simp at ht; subst ht
      exact (List.pairwise_cons.1 hd).1 v (by simp)
theorem inner {l st : List C} (h : ChainOf l st) {f g : C} (hf : l.head? = some f) (hg : l.getLast? = some g) {s t : List C} {y v x : C} (e : st = s ++ y :: v :: x :: t) : 0 < cross f v g := by
  obtain ⟨hfv, hvg⟩ := chain_ends h hf hg e
  subst e
  obtain ⟨vy, xv, hc, a1, a2⟩ := good_mid h.good
  have c1 := a2 f (List.mem_of_head? hf)
  have c2 := a1 g (List.mem_of_getLast? hg)
  have d1 : 0 ≤ xp (sb v f) (sb v x) := by have : cross x v f = xp (sb v f) (sb v x) := by unfold cross xp sb; grind
                                           omega
  have d2 : 0 < xp (sb v x) (sb y v) := by rw [← cross_xp2]; exact hc
  have d3 : 0 ≤ xp (sb y v) (sb g v) := by rw [← cross_xp]; exact c2
  have d4 := tr_s2 (pos_sb hfv) (pos_sb xv) (pos_sb vy) d1 d2
  have d5 := tr_s1 (pos_sb hfv) (pos_sb vy) (pos_sb hvg) d4 d3
  rw [cross_xp2]; exact d5
theorem edg_last (a f : C) : ∀ s : List C, (f, a) ∈ edg (s ++ [a, f])
  | [] => by simp [edg]
  | [x] => by simp [edg]
  | x :: y :: s => by simp only [List.cons_append, edg, List.mem_cons]; right; exact edg_last a f (y :: s)
theorem two_last {st : List C} {f : C} (h2 : 2 ≤ st.length) (hb : st.getLast? = some f) : ∃ s a, st = s ++ [a, f] := by
  rcases List.eq_nil_or_concat st with rfl | ⟨r, z, rfl⟩
  · simp at h2
  · rcases List.eq_nil_or_concat r with rfl | ⟨s, a, rfl⟩
    · simp at h2
    · simp only [List.concat_eq_append, List.getLast?_append, List.getLast?_singleton, Option.some_or, Option.some.injEq] at hb
      subst hb
      exact ⟨s, a, by simp⟩
theorem neg_lt0 {a b : C} (h : lt a b) : pos (sb b a) := pos_sb h
/-- a point to the left of all sides is not before the first corner -/
theorem first_le {l : List C} (h : Sorted l) (h2 : 2 ≤ l.length) (hnd : 5 ≤ (chainR l).length + (chainR l.reverse).length) {f : C} (hf : l.head? = some f) {p : C} (hl : ∀ e ∈ edg (chainR l), 0 ≤ cross e.1 e.2 p) (hu : ∀ e ∈ edg (chainR l.reverse), 0 ≤ cross e.1 e.2 p) : le f p := by
  intro hpf
  obtain ⟨f', g, lo, up, hf', hg, hfg, e1, e2, b1, b2⟩ := chains h h2
  rw [hf] at hf'; cases hf'
  have c1 := chain_is l h
  have c2 := up_is h
  have hgl : lt f g := by
    rcases lt_tri f g with h1 | h1 | h1
    · exact h1
    · exact absurd h1 hfg
    · exact absurd h1 (sorted_first h hf g (List.mem_of_getLast? hg))
  have l1 : 2 ≤ (chainR l).length := by rw [e1]; cases lo with | nil => simp at b1 | cons => simp
  have l2 : 2 ≤ (chainR l.reverse).length := by rw [e2]; cases up with | nil => simp at b2 | cons => simp
  have k1 : (chainR l).getLast? = some f := by rw [c1.bot, hf]
  obtain ⟨s, a, hs⟩ := two_last l1 k1
  obtain ⟨b, u, hbu⟩ : ∃ b u, up = b :: u := by cases up with | nil => simp at b2 | cons b u => exact ⟨b, u, rfl⟩
  have ea : (f, a) ∈ edg (chainR l) := by rw [hs]; exact edg_last a f s
  have eb : (b, f) ∈ edg (chainR l.reverse) := by rw [e2, hbu]; simp [edg]
  have hfa := (good_edge c1.good _ ea).1
  have hfb := (up_edge h _ eb).1
  have q1 := hl _ ea
  have q2 := hu _ eb
  simp only at hfa hfb q1 q2
  have ha : a = g ∨ 0 < xp (sb a f) (sb g f) := by
    rcases List.eq_nil_or_concat s with rfl | ⟨s', y, rfl⟩
    · left
      rw [e1] at hs; simp at hs; exact hs.1.symm
    · right
      have := inner c1 hf hg (s := s') (t := []) (y := y) (v := a) (x := f) (by rw [hs]; simp)
      rw [cross_xp] at this; exact this
  have hb : b = g ∨ 0 < xp (sb g f) (sb b f) := by
    cases u with
    | nil => left; rw [hbu] at b2; simpa using b2
    | cons x t =>
      right
      have := inner c2 (f := neg g) (g := neg f) (by rw [List.head?_map, List.head?_reverse, hg]; rfl) (by rw [List.getLast?_map, List.getLast?_reverse, hf]; rfl) (s := []) (t := t.map neg) (y := neg f) (v := neg b) (x := neg x) (by rw [e2, hbu]; rfl)
      rw [cross_neg] at this
      have e : cross g b f = xp (sb g f) (sb b f) := by unfold cross xp sb; grind
      rw [← e]; exact this
  have hab : 0 < xp (sb a f) (sb b f) := by
    rcases ha with ha | ha <;> rcases hb with hb | hb
    · exfalso
      have n1 : (chainR l).length = 2 := by
        have hs0 : s = [] := by
          rcases List.eq_nil_or_concat s with h | ⟨s', y, rfl⟩
          · exact h
          · exfalso
            have := (chain_ends c1 hf hg (s := s') (t := []) (y := y) (v := a) (x := f) (by rw [hs]; simp)).2
            rw [ha] at this; exact lt_irr _ this
        rw [hs, hs0]; rfl
      have n2 : (chainR l.reverse).length = 2 := by
        have hu0 : u = [] := by
          cases u with
          | nil => rfl
          | cons x t =>
            exfalso
            have := (chain_ends c2 (f := neg g) (g := neg f) (by rw [List.head?_map, List.head?_reverse, hg]; rfl) (by rw [List.getLast?_map, List.getLast?_reverse, hf]; rfl) (s := []) (t := t.map neg) (y := neg f) (v := neg b) (x := neg x) (by rw [e2, hbu]; rfl)).1
            rw [hb] at this; exact lt_irr _ this
        rw [e2, hbu, hu0]; rfl
      omega
    · rw [ha]; exact hb
    · rw [hb]; exact ha
    · exact tr_s1 (pos_sb hfa) (pos_sb hgl) (pos_sb hfb) ha (Int.le_of_lt hb)
  -- the step from p to f
  have d1 : xp (sb a f) (sb f p) ≤ 0 := by
    have e : cross f a p = - xp (sb a f) (sb f p) := by unfold cross xp sb; grind
    omega
  have d2 : 0 ≤ xp (sb b f) (sb f p) := by
    have e : cross b f p = xp (sb b f) (sb f p) := by unfold cross xp sb; grind
    omega
  have := tr_s1 (pos_sb hfa) (pos_sb hfb) (pos_sb hpf) hab d2
  omega
theorem neg_map_map (l : List C) : (l.map neg).map neg = l := by
  rw [List.map_map]; conv => rhs; rw [← List.map_id l]
  exact List.map_congr_left fun x _ => neg_neg x
theorem last_le {l : List C} (h : Sorted l) (h2 : 2 ≤ l.length) (hnd : 5 ≤ (chainR l).length + (chainR l.reverse).length) {g : C} (hg : l.getLast? = some g) {p : C} (hl : ∀ e ∈ edg (chainR l), 0 ≤ cross e.1 e.2 p) (hu : ∀ e ∈ edg (chainR l.reverse), 0 ≤ cross e.1 e.2 p) : le p g := by
  have er : (l.reverse.map neg).reverse = l.map neg := by rw [← List.map_reverse, List.reverse_reverse]
  have := first_le (sorted_neg h) (by simpa using h2) (by rw [er, chainR_neg, chainR_neg]; simp; omega) (f := neg g) (by rw [List.head?_map, List.head?_reverse, hg]; rfl) (p := neg p)
    (fun e he => by
      rw [chainR_neg, edg_map] at he
      obtain ⟨e', he', rfl⟩ := List.mem_map.1 he
      rw [cross_neg]; exact hu e' he')
    (fun e he => by
      rw [er, chainR_neg, edg_map] at he
      obtain ⟨e', he', rfl⟩ := List.mem_map.1 he
      rw [cross_neg]; exact hl e' he')
  intro hh
  exact this (lt_neg.2 hh)
def box (a b p : C) : Prop := (min a.1 b.1 ≤ p.1 ∧ p.1 ≤ max a.1 b.1) ∧ min a.2 b.2 ≤ p.2 ∧ p.2 ≤ max a.2 b.2
/-- in the polygon -/
def InR (r : List C) (p : C) : Prop := (∀ e ∈ cyc r, 0 ≤ cross e.1 e.2 p) ∧ (2 < r.length ∨ ∃ a b, r.head? = some a ∧ r.getLast? = some b ∧ box a b p)
theorem zero_of_mul {x y : Int} (hx : 0 < x) (h : x * y = 0) : y = 0 := by
  rcases Int.mul_eq_zero.1 h with h | h
  · omega
  · exact h
theorem seg_le {a b p : C} (hab : lt a b) (hb : box a b p) (hc : cross a b p = 0) : le a p ∧ le p b := by
  unfold box at hb
  unfold lt at hab
  unfold cross at hc
  rcases hab with hab | ⟨h1, h2⟩
  · constructor
    · intro h
      unfold lt at h
      have e : p.1 = a.1 := by omega
      have : (b.1 - a.1) * (p.2 - a.2) = 0 := by rw [e] at hc; grind
      have := zero_of_mul (by omega) this
      omega
    · intro h
      unfold lt at h
      have e : p.1 = b.1 := by omega
      have : (b.1 - a.1) * (p.2 - b.2) = 0 := by rw [e] at hc; grind
      have := zero_of_mul (by omega) this
      omega
  · constructor <;> (intro h; unfold lt at h; omega)
theorem seg_box {a b p : C} (hab : lt a b) (h1 : le a p) (h2 : le p b) (hc : cross a b p = 0) : box a b p := by
  unfold box
  unfold le lt at h1 h2
  unfold lt at hab
  unfold cross at hc
  rcases hab with hab | ⟨h3, h4⟩
  · have k1 : 0 ≤ p.1 - a.1 := by omega
    have k2 : 0 ≤ b.1 - p.1 := by omega
    have e1 : (b.1 - a.1) * (p.2 - a.2) = (b.2 - a.2) * (p.1 - a.1) := by omega
    have e2 : (b.1 - a.1) * (b.2 - p.2) = (b.2 - a.2) * (b.1 - p.1) := by grind
    rcases Int.le_total a.2 b.2 with h | h
    · have q1 := Int.mul_nonneg (show 0 ≤ b.2 - a.2 by omega) k1
      have q2 := Int.mul_nonneg (show 0 ≤ b.2 - a.2 by omega) k2
      have := le_of_pmul (show 0 < b.1 - a.1 by omega) (by rw [e1]; exact q1)
      have := le_of_pmul (show 0 < b.1 - a.1 by omega) (by rw [e2]; exact q2)
      omega
    · have q1 := Int.mul_nonneg (show 0 ≤ a.2 - b.2 by omega) k1
      have q2 := Int.mul_nonneg (show 0 ≤ a.2 - b.2 by omega) k2
      have := le_of_pmul (y := a.2 - p.2) (show 0 < b.1 - a.1 by omega) (by have : (b.1 - a.1) * (a.2 - p.2) = (a.2 - b.2) * (p.1 - a.1) := by grind
                                                                            rw [this]; exact q1)
      have := le_of_pmul (y := p.2 - b.2) (show 0 < b.1 - a.1 by omega) (by have : (b.1 - a.1) * (p.2 - b.2) = (a.2 - b.2) * (b.1 - p.1) := by grind
                                                                            rw [this]; exact q2)
      omega
  · omega
theorem mem_edg {st : List C} {e : C × C} (he : e ∈ edg st) : e.1 ∈ st ∧ e.2 ∈ st := by
  induction st with
  | nil => simp [edg] at he
  | cons c r ih =>
    cases r with
    | nil => simp [edg] at he
    | cons b r =>
      simp only [edg, List.mem_cons] at he
      rcases he with rfl | he
      · simp
      · have := ih he
        exact ⟨List.mem_cons_of_mem _ this.1, List.mem_cons_of_mem _ this.2⟩
/-- the corners of both chains are those of the hull -/
theorem chain_hull {l : List C} (h : Sorted l) (h3 : ¬ l.length < 3) : (∀ v ∈ chainR l, v ∈ hullS l) ∧ ∀ v ∈ chainR l.reverse, v ∈ hullS l := by
  obtain ⟨f, g, lo, up, hf, hg, hfg, e1, e2, b1, b2⟩ := chains h (by omega)
  constructor
  · intro v hm
    unfold hullS
    rw [if_neg h3, e1, e2]
    rw [e1] at hm
    simp only [List.tail_cons, List.mem_append, List.mem_reverse]
    rcases List.mem_cons.1 hm with rfl | hm
    · right; exact List.mem_of_getLast? b2
    · left; exact hm
  · intro v hm
    unfold hullS
    rw [if_neg h3, e1, e2]
    rw [e2] at hm
    simp only [List.tail_cons, List.mem_append, List.mem_reverse]
    rcases List.mem_cons.1 hm with rfl | hm
    · left; exact List.mem_of_getLast? b1
    · right; exact hm
/-- a line's greatest value over a polygon is at a corner -/
theorem mid_max {l : List C} (h : Sorted l) (h3 : ¬ l.length < 3) {α β M : Int} (hv : ∀ v ∈ hullS l, α * v.1 + β * v.2 ≤ M) {p f g : C} (hf : l.head? = some f) (hg : l.getLast? = some g) (hc : ∀ e ∈ cyc (hullS l), 0 ≤ cross e.1 e.2 p) (h1 : le f p) (h2 : le p g) : α * p.1 + β * p.2 ≤ M := by
  obtain ⟨hlo, hup⟩ := chain_hull h h3
  obtain ⟨f', g', lo, up, hf', hg', hfg, e1, e2, b1, b2⟩ := chains h (by omega)
  rw [hf] at hf'; cases hf'
  rw [hg] at hg'; cases hg'
  by_cases hβ : β ≤ 0
  · have hcc := chain_is l h
    obtain ⟨e, he, h4, h5⟩ := straddle hcc.good (q := p) (t := g) (f := f) (by rw [e1]; rfl) (by rw [hcc.bot, hf]) (by rw [e1]; cases lo with | nil => simp at b1 | cons => simp) h1 h2
    obtain ⟨k1, _⟩ := good_edge hcc.good e he
    exact val_max k1 h4 h5 (hc e ((cyc_hull h (by omega) e).2 (Or.inl he))) (Or.inl hβ) (hv _ (hlo _ (mem_edg he).1)) (hv _ (hlo _ (mem_edg he).2))
  · have hu := up_is h
    obtain ⟨e, he, h4, h5⟩ := straddle hu.good (q := neg p) (t := neg f) (f := neg g) (by rw [e2]; rfl) (by rw [hu.bot, List.head?_map, List.head?_reverse, hg]; rfl) (by rw [e2]; cases up with | nil => simp at b2 | cons => simp) (fun hh => h2 (lt_neg.1 hh)) (fun hh => h1 (lt_neg.1 hh))
    obtain ⟨k1, _⟩ := good_edge hu.good e he
    rw [edg_map] at he
    obtain ⟨e', he', rfl⟩ := List.mem_map.1 he
    have r := val_max (α := -α) (β := -β) (M := M) k1 h4 h5 (by rw [cross_neg]; exact hc e' ((cyc_hull h (by omega) e').2 (Or.inr he'))) (Or.inl (by omega)) (by
      have := hv _ (hup _ (mem_edg he').1)
      simp only [neg]; rw [Int.neg_mul_neg, Int.neg_mul_neg]; exact this) (by
      have := hv _ (hup _ (mem_edg he').2)
      simp only [neg]; rw [Int.neg_mul_neg, Int.neg_mul_neg]; exact this)
    simp only [neg] at r
    rw [Int.neg_mul_neg, Int.neg_mul_neg] at r
    exact r
theorem hull_two {l : List C} (h : Sorted l) (h3 : ¬ l.length < 3) (hn : ¬ 5 ≤ (chainR l).length + (chainR l.reverse).length) : ∃ f g, l.head? = some f ∧ l.getLast? = some g ∧ lt f g ∧ hullS l = [f, g] ∧ chainR l = [g, f] ∧ chainR l.reverse = [f, g] := by
  obtain ⟨f, g, lo, up, hf, hg, hfg, e1, e2, b1, b2⟩ := chains h (by omega)
  have hgl : lt f g := by
    rcases lt_tri f g with h1 | h1 | h1
    · exact h1
    · exact absurd h1 hfg
    · exact absurd h1 (sorted_first h hf g (List.mem_of_getLast? hg))
  refine ⟨f, g, hf, hg, hgl, ?_⟩
  rw [e1, e2] at hn
  unfold hullS
  rw [if_neg h3, e1, e2]
  match lo, up, b1, b2, hn with
  | [x], [y], b1, b2, _ => simp at b1 b2; subst b1; subst b2; exact ⟨rfl, rfl, rfl⟩
  | [], _, b1, _, _ => simp at b1
  | _, [], _, b2, _ => simp at b2
  | _ :: _ :: _, _ :: _, _, _, hn => simp at hn; omega
  | [_], _ :: _ :: _, _, _, hn => simp at hn; omega
theorem hull_len {l : List C} (h3 : ¬ l.length < 3) : (hullS l).length + 2 = (chainR l).length - 1 + ((chainR l.reverse).length - 1) + 2 := by
  unfold hullS; rw [if_neg h3]; simp
theorem chain_len2 {l : List C} (h : Sorted l) (h2 : 2 ≤ l.length) : 2 ≤ (chainR l).length ∧ 2 ≤ (chainR l.reverse).length := by
  obtain ⟨f, g, lo, up, hf, hg, hfg, e1, e2, b1, b2⟩ := chains h h2
  rw [e1, e2]
  constructor
  · cases lo with | nil => simp at b1 | cons => simp
  · cases up with | nil => simp at b2 | cons => simp
theorem in_max {l : List C} (h : Sorted l) {α β M : Int} (hv : ∀ v ∈ hullS l, α * v.1 + β * v.2 ≤ M) {p : C} (hp : InR (hullS l) p) : α * p.1 + β * p.2 ≤ M := by
  obtain ⟨hc, hb⟩ := hp
  -- a segment
  have seg : ∀ f g, lt f g → hullS l = [f, g] → α * p.1 + β * p.2 ≤ M := by
    intro f g hfg e
    rw [e] at hc hb hv
    have c1 := hc (f, g) (by simp [cyc, steps])
    have c2 := hc (g, f) (by simp [cyc, steps])
    simp only at c1 c2
    rw [cross_swap2] at c2
    obtain ⟨a, b, ha, hb', hbox⟩ : ∃ a b, [f, g].head? = some a ∧ [f, g].getLast? = some b ∧ box a b p := by simpa using hb
    simp at ha hb'; subst ha; subst hb'
    obtain ⟨k1, k2⟩ := seg_le hfg hbox (by omega)
    exact val_max hfg k1 k2 c1 (Or.inr (by omega)) (hv _ (by simp)) (hv _ (by simp))
  by_cases h3 : l.length < 3
  · have e : hullS l = l := by unfold hullS; rw [if_pos h3]
    match l, h3, h, e with
    | [], _, _, e => rw [e] at hb; simp at hb
    | [a], _, _, e =>
      rw [e] at hb hv
      obtain ⟨a', b, ha, hb', hbox⟩ : ∃ a' b, [a].head? = some a' ∧ [a].getLast? = some b ∧ box a' b p := by simpa using hb
      simp at ha hb'; subst ha; subst hb'
      unfold box at hbox
      have e1 : p.1 = a.1 := by omega
      have e2 : p.2 = a.2 := by omega
      rw [e1, e2]; exact hv a (by simp)
    | [a, b], _, h, e => exact seg a b ((List.pairwise_cons.1 h).1 b (by simp)) e
    | _ :: _ :: _ :: _, h3, _, _ => simp at h3; omega
  · by_cases hn : 5 ≤ (chainR l).length + (chainR l.reverse).length
    · obtain ⟨f, g, lo, up, hf, hg, _⟩ := chains h (by omega)
      have hl : ∀ e ∈ edg (chainR l), 0 ≤ cross e.1 e.2 p := fun e he => hc e ((cyc_hull h (by omega) e).2 (Or.inl he))
      have hu : ∀ e ∈ edg (chainR l.reverse), 0 ≤ cross e.1 e.2 p := fun e he => hc e ((cyc_hull h (by omega) e).2 (Or.inr he))
      exact mid_max h h3 hv hf hg hc (first_le h (by omega) hn hf hl hu) (last_le h (by omega) hn hg hl hu)
    · obtain ⟨f, g, _, _, hfg, e, _⟩ := hull_two h h3 hn
      exact seg f g hfg e
/-- the hull holds all of its points -/
theorem hull_in {l : List C} (h : Sorted l) : ∀ q ∈ l, InR (hullS l) q := by
  intro q hq
  by_cases h3 : l.length < 3
  · have e : hullS l = l := by unfold hullS; rw [if_pos h3]
    rw [e]
    match l, h3, h, hq with
    | [], _, _, hq => simp at hq
    | [a], _, _, hq =>
      simp at hq; subst hq
      refine ⟨fun e he => ?_, Or.inr ⟨q, q, rfl, rfl, by unfold box; omega⟩⟩
      simp [cyc, steps] at he; subst he; rw [cross_self]; omega
    | [a, b], _, h, hq =>
      refine ⟨fun e he => ?_, Or.inr ⟨a, b, rfl, rfl, ?_⟩⟩
      · simp [cyc, steps] at he
        simp at hq
        rcases he with rfl | rfl <;> rcases hq with rfl | rfl <;> simp only [cross_self, cross_self2] <;> omega
      · simp at hq
        rcases hq with rfl | rfl <;> (unfold box; omega)
    | _ :: _ :: _ :: _, h3, _, _ => simp at h3; omega
  · have hl := hull_left h (by omega)
    refine ⟨fun e he => hl e he q hq, ?_⟩
    have hlen := hull_len h3
    have h22 := chain_len2 h (by omega)
    by_cases hn : 5 ≤ (chainR l).length + (chainR l.reverse).length
    · left; omega
    · right
      obtain ⟨f, g, hf, hg, hfg, e, _⟩ := hull_two h h3 hn
      refine ⟨f, g, by rw [e]; rfl, by rw [e]; rfl, ?_⟩
      have c1 := hl (f, g) (by rw [e]; simp [cyc, steps]) q hq
      have c2 := hl (g, f) (by rw [e]; simp [cyc, steps]) q hq
      simp only at c1 c2
      rw [cross_swap2] at c2
      have hlast : le q g := by
        have hs := sorted_neg h
        have := sorted_first hs (f := neg g) (by rw [List.head?_map, List.head?_reverse, hg]; rfl) (neg q) (List.mem_map.2 ⟨q, List.mem_reverse.2 hq, rfl⟩)
        intro hlt
        exact this (lt_neg.2 hlt)
      exact seg_box hfg (sorted_first h hf q hq) hlast (by omega)
end Go.Geo
namespace Go.Geo
theorem sorted_nodup {l : List C} (h : Sorted l) : l.Nodup := h.imp fun h e => by subst e; exact lt_irr _ h
theorem sorted_same {l m : List C} (hl : Sorted l) (hm : Sorted m) (h : ∀ x, x ∈ l ↔ x ∈ m) : l = m := by
  have hp : l.Perm m := (List.perm_ext_iff_of_nodup (sorted_nodup hl) (sorted_nodup hm)).2 h
  exact hp.eq_of_pairwise (fun a b _ _ h1 h2 => absurd (lt_trans h1 h2) (lt_irr _)) hl hm
theorem sub_of_mem {l m : List C} (hl : Sorted l) (hm : Sorted m) (h : ∀ x ∈ l, x ∈ m) : l.Sublist m := by
  have e : l = m.filter (fun x => decide (x ∈ l)) := by
    refine sorted_same hl (hm.sublist List.filter_sublist) fun x => ?_
    rw [List.mem_filter, decide_eq_true_eq]
    exact ⟨fun hx => ⟨h x hx, hx⟩, fun hx => hx.2⟩
  rw [e]; exact List.filter_sublist
theorem Good.mono {d d' : List C} (hd : ∀ q ∈ d', q ∈ d) : ∀ {st : List C}, Good d st → Good d' st
  | [], _ => trivial
  | [_], _ => trivial
  | [_, _], h => ⟨h.1, fun q hq => h.2 q (hd q hq)⟩
  | _ :: _ :: _ :: _, h => ⟨h.1, h.2.1, fun q hq => h.2.2.1 q (hd q hq), Good.mono hd h.2.2.2⟩
theorem head_is {m : List C} (hm : Sorted m) {f : C} (hf : f ∈ m) (h : ∀ x ∈ m, ¬ lt x f) : m.head? = some f := by
  cases m with
  | nil => simp at hf
  | cons a r =>
    rcases List.mem_cons.1 hf with rfl | hf
    · rfl
    · exact absurd ((List.pairwise_cons.1 hm).1 f hf) (h a (by simp))
theorem last_is {m : List C} (hm : Sorted m) {g : C} (hg : g ∈ m) (h : ∀ x ∈ m, ¬ lt g x) : m.getLast? = some g := by
  have := head_is (sorted_neg hm) (f := neg g) (List.mem_map.2 ⟨g, List.mem_reverse.2 hg, rfl⟩) (fun x hx => by
    obtain ⟨y, hy, rfl⟩ := List.mem_map.1 hx
    intro hh; exact h y (List.mem_reverse.1 hy) (lt_neg.1 hh))
  rw [List.head?_map, List.head?_reverse] at this
  cases hl : m.getLast? with
  | none => rw [hl] at this; simp at this
  | some z => rw [hl] at this; simp at this; rw [← neg_neg z, this, neg_neg]
theorem sorted_last {l : List C} (h : Sorted l) {g : C} (hg : l.getLast? = some g) : ∀ q ∈ l, ¬ lt g q := fun q hq hh => by
  have := sorted_first (sorted_neg h) (f := neg g) (by rw [List.head?_map, List.head?_reverse, hg]; rfl) (neg q) (List.mem_map.2 ⟨q, List.mem_reverse.2 hq, rfl⟩)
  exact this (lt_neg.2 hh)
/-- the chains of the corners alone are those of all points -/
theorem chain_again {l m : List C} (h : Sorted l) (h3 : ¬ l.length < 3) (hm : Sorted m) (he : ∀ x, x ∈ m ↔ x ∈ hullS l) : chainR m = chainR l ∧ chainR m.reverse = chainR l.reverse := by
  obtain ⟨hlo, hup⟩ := chain_hull h h3
  obtain ⟨f, g, lo, up, hf, hg, hfg, e1, e2, b1, b2⟩ := chains h (by omega)
  have hsub : ∀ x ∈ m, x ∈ l := fun x hx => hull_sub h x ((he x).1 hx)
  have hfm : f ∈ m := (he f).2 (hup f (by rw [e2]; simp))
  have hgm : g ∈ m := (he g).2 (hlo g (by rw [e1]; simp))
  have mf : m.head? = some f := head_is hm hfm fun x hx => sorted_first h hf x (hsub x hx)
  have mg : m.getLast? = some g := last_is hm hgm fun x hx => sorted_last h hg x (hsub x hx)
  have c1 := chain_is l h
  have c2 := up_is h
  constructor
  · refine chain_unique hm (chain_is m hm) ⟨c1.good.mono hsub, ?_, ?_, ?_⟩
    · refine sub_of_mem ?_ hm fun x hx => (he x).2 (hlo x (List.mem_reverse.1 hx))
      exact List.pairwise_reverse.2 (good_desc c1.good)
    · rw [c1.top, hg, mg]
    · rw [c1.bot, hf, mf]
  · have := chain_unique (sorted_neg hm) (up_is hm) (st' := (chainR l.reverse).map neg) ⟨c2.good.mono fun q hq => by
      obtain ⟨y, hy, rfl⟩ := List.mem_map.1 hq
      exact List.mem_map.2 ⟨y, List.mem_reverse.2 (hsub y (List.mem_reverse.1 hy)), rfl⟩, ?_, ?_, ?_⟩
    · have k := congrArg (List.map neg) this
      rw [neg_map_map, neg_map_map] at k
      exact k
    · refine sub_of_mem ?_ (sorted_neg hm) fun x hx => ?_
      · exact List.pairwise_reverse.2 (good_desc c2.good)
      · obtain ⟨y, hy, rfl⟩ := List.mem_map.1 (List.mem_reverse.1 hx)
        exact List.mem_map.2 ⟨y, List.mem_reverse.2 ((he y).2 (hup y hy)), rfl⟩
    · rw [c2.top, List.getLast?_map, List.getLast?_map, List.getLast?_reverse, List.getLast?_reverse, hf, mf]
    · rw [c2.bot, List.head?_map, List.head?_map, List.head?_reverse, List.head?_reverse, hg, mg]
theorem hullS_again {l m : List C} (h : Sorted l) (hm : Sorted m) (he : ∀ x, x ∈ m ↔ x ∈ hullS l) : hullS m = hullS l := by
  by_cases h3 : l.length < 3
  · have e : hullS l = l := by unfold hullS; rw [if_pos h3]
    rw [e] at he ⊢
    have : m = l := sorted_same hm h he
    rw [this]; exact e
  · obtain ⟨k1, k2⟩ := chain_again h h3 hm he
    by_cases hm3 : m.length < 3
    · -- two corners
      obtain ⟨f, g, lo, up, hf, hg, hfg, e1, e2, b1, b2⟩ := chains h (by omega)
      obtain ⟨hlo, hup⟩ := chain_hull h h3
      have hfm : f ∈ m := (he f).2 (hup f (by rw [e2]; simp))
      have hgm : g ∈ m := (he g).2 (hlo g (by rw [e1]; simp))
      have eh : hullS m = m := by unfold hullS; rw [if_pos hm3]
      have hn : ¬ 5 ≤ (chainR l).length + (chainR l.reverse).length := by
        have s1 := (chain_is m hm).sub.length_le
        have s2 := (up_is hm).sub.length_le
        rw [k1] at s1; rw [k2] at s2
        simp at s1 s2
        omega
      obtain ⟨f', g', hf', hg', hlt, e, _⟩ := hull_two h h3 hn
      rw [hf] at hf'; cases hf'
      rw [hg] at hg'; cases hg'
      rw [eh, e]
      refine sorted_same hm (List.pairwise_cons.2 ⟨fun x hx => by simp at hx; rw [hx]; exact hlt, List.pairwise_singleton _ _⟩) fun x => by rw [he, e]
    · unfold hullS
      rw [if_neg h3, if_neg hm3, k1, k2]
theorem nd_lo {l : List C} (h : Sorted l) : (hullS l).Nodup := by
  by_cases h3 : l.length < 3
  · have e : hullS l = l := by unfold hullS; rw [if_pos h3]
    rw [e]; exact sorted_nodup h
  · obtain ⟨f, g, lo, up, hf, hg, hfg, e1, e2, b1, b2⟩ := chains h (by omega)
    have c1 := chain_is l h
    have c2 := up_is h
    have d1 := good_desc c1.good
    have d2 := good_desc c2.good
    rw [e1] at d1
    rw [e2] at d2
    have hgl : lt f g := by
      rcases lt_tri f g with h1 | h1 | h1
      · exact h1
      · exact absurd h1 hfg
      · exact absurd h1 (sorted_first h hf g (List.mem_of_getLast? hg))
    have n1 : lo.Nodup := ((List.pairwise_cons.1 d1).2).imp fun h e => by subst e; exact lt_irr _ h
    have n2 : up.Nodup := by
      have := (List.pairwise_cons.1 d2).2
      rw [List.pairwise_map] at this
      exact this.imp fun h e => by subst e; exact lt_irr _ h
    unfold hullS
    rw [if_neg h3, e1, e2]
    simp only [List.tail_cons]
    refine List.nodup_append.2 ⟨List.pairwise_reverse.2 (n1.imp Ne.symm), List.pairwise_reverse.2 (n2.imp Ne.symm), fun v hv w hw hvw => ?_⟩
    subst hvw
    rw [List.mem_reverse] at hv hw
    -- v is in both chains, and no end of either
    have v1 : lt v g := (List.pairwise_cons.1 d1).1 v hv
    have v2 : lt f v := by
      have := (List.pairwise_cons.1 d2).1 (neg v) (List.mem_map.2 ⟨v, hw, rfl⟩)
      exact lt_neg.1 this
    have m1 : v ∈ chainR l := by rw [e1]; exact List.mem_cons_of_mem _ hv
    have m2 : neg v ∈ (chainR l.reverse).map neg := List.mem_map.2 ⟨v, by rw [e2]; exact List.mem_cons_of_mem _ hw, rfl⟩
    have i1 : 0 < cross f v g := by
      rcases mem_cases m1 with k | k | ⟨s, y, x, t, k⟩
      · rw [e1] at k; simp at k; subst k; exact absurd v1 (lt_irr _)
      · rw [c1.bot, hf] at k; simp at k; subst k; exact absurd v2 (lt_irr _)
      · exact inner c1 hf hg k
    have i2 : 0 < cross (neg g) (neg v) (neg f) := by
      have t1 : (l.reverse.map neg).head? = some (neg g) := by rw [List.head?_map, List.head?_reverse, hg]; rfl
      have t2 : (l.reverse.map neg).getLast? = some (neg f) := by rw [List.getLast?_map, List.getLast?_reverse, hf]; rfl
      rcases mem_cases m2 with k | k | ⟨s, y, x, t, k⟩
      · rw [c2.top, t2] at k
        have : f = v := by simp at k; rw [← neg_neg f, k, neg_neg]
        subst this; exact absurd v2 (lt_irr _)
      · rw [c2.bot, t1] at k
        have : g = v := by simp at k; rw [← neg_neg g, k, neg_neg]
        subst this; exact absurd v1 (lt_irr _)
      · exact inner c2 t1 t2 k
    rw [cross_neg] at i2
    have : cross g v f = - cross f v g := by unfold cross; grind
    omega
theorem hull_le {l : List C} (h : Sorted l) : (hullS l).length ≤ l.length := by
  have hs : (l.filter fun x => decide (x ∈ hullS l)).Sublist l := List.filter_sublist
  have hp : (hullS l).Perm (l.filter fun x => decide (x ∈ hullS l)) := (List.perm_ext_iff_of_nodup (nd_lo h) ((sorted_nodup h).sublist hs)).2 fun x => by
    rw [List.mem_filter, decide_eq_true_eq]
    exact ⟨fun hx => ⟨hull_sub h x hx, hx⟩, fun hx => hx.2⟩
  rw [hp.length_eq]; exact hs.length_le
end Go.Geo
namespace Go.Geo
/-! ## directions that part -/
def dot (d v : C) : Int := d.1 * v.1 + d.2 * v.2
def Parted (d : C) (A B : List C) : Prop := ∀ p ∈ A, ∀ q ∈ B, dot d p < dot d q
theorem dot_sb (d a b : C) : dot d (sb a b) = dot d a - dot d b := by unfold dot sb; grind
theorem xp_sb (u a b : C) : xp u (sb a b) = xp u a - xp u b := by unfold xp sb; grind
theorem dot_key (d u v w : C) : dot d v * xp u w = dot d w * xp u v + dot d u * xp v w := by unfold dot xp; grind
theorem dot_par (w d v : C) : dot w w * dot d v = dot w d * dot w v + xp w d * xp w v := by unfold dot xp; grind
theorem trH {d u v w : C} (hu : 0 < dot d u) (hv : 0 < dot d v) (hw : 0 < dot d w) (h1 : 0 ≤ xp u v) (h2 : 0 ≤ xp v w) : 0 ≤ xp u w ∧ (xp u w = 0 → xp u v = 0 ∧ xp v w = 0) := by
  have k := dot_key d u v w
  have a := Int.mul_nonneg (Int.le_of_lt hw) h1
  have b := Int.mul_nonneg (Int.le_of_lt hu) h2
  refine ⟨le_of_pmul hv (by omega), fun h => ?_⟩
  rw [h] at k
  exact ⟨zero_of_mul hw (by omega), zero_of_mul hu (by omega)⟩
/-- the first of some steps of one half of the directions -/
theorem first_dir (d : C) : ∀ W : List C, W ≠ [] → (∀ w ∈ W, 0 < dot d w) → ∃ w0 ∈ W, ∀ w ∈ W, 0 ≤ xp w0 w ∧ (xp w0 w = 0 → dot d w0 ≤ dot d w)
  | [], h, _ => absurd rfl h
  | [w], _, _ => ⟨w, by simp, fun x hx => by simp at hx; subst hx; exact ⟨by unfold xp; grind, fun _ => Int.le_refl _⟩⟩
  | w :: w' :: W, _, hp => by
    obtain ⟨w0, hw0, h⟩ := first_dir d (w' :: W) (by simp) fun x hx => hp x (List.mem_cons_of_mem _ hx)
    have p0 := hp w0 (List.mem_cons_of_mem _ hw0)
    have pw := hp w (by simp)
    by_cases hc : 0 < xp w w0 ∨ (xp w w0 = 0 ∧ dot d w ≤ dot d w0)
    · refine ⟨w, by simp, fun x hx => ?_⟩
      rcases List.mem_cons.1 hx with rfl | hx
      · exact ⟨by unfold xp; grind, fun _ => Int.le_refl _⟩
      · obtain ⟨h1, h2⟩ := h x hx
        have px := hp x (List.mem_cons_of_mem _ hx)
        obtain ⟨t1, t2⟩ := trH pw p0 px (by omega) h1
        refine ⟨t1, fun e => ?_⟩
        obtain ⟨e1, e2⟩ := t2 e
        have := h2 e2
        omega
    · refine ⟨w0, List.mem_cons_of_mem _ hw0, fun x hx => ?_⟩
      rcases List.mem_cons.1 hx with rfl | hx
      · rw [xp_neg w0 x]
        refine ⟨by omega, fun e => by omega⟩
      · exact h x hx
/-- turned so that w0 goes down -/
def T (w v : C) : C := (-(xp w v), -(dot w v))
theorem xp_T (w u v : C) : xp (T w u) (T w v) = dot w w * xp v u := by unfold T xp dot; grind
theorem sq_pos {d w : C} (h : 0 < dot d w) : 0 < dot w w := by
  unfold dot at *
  rcases Int.lt_trichotomy w.1 0 with h1 | h1 | h1
  · have := Int.mul_pos_of_neg_of_neg h1 h1
    have h2 : 0 ≤ w.2 * w.2 := by rcases Int.le_total 0 w.2 with k | k; exact Int.mul_nonneg k k; exact Int.mul_nonneg_of_nonpos_of_nonpos k k
    omega
  · have h3 : w.2 ≠ 0 := fun e => by rw [h1, e] at h; simp at h
    have h2 : 0 < w.2 * w.2 := by
      rcases Int.lt_or_gt_of_ne h3 with k | k
      · exact Int.mul_pos_of_neg_of_neg k k
      · exact Int.mul_pos k k
    rw [h1]; omega
  · have := Int.mul_pos h1 h1
    have h2 : 0 ≤ w.2 * w.2 := by rcases Int.le_total 0 w.2 with k | k; exact Int.mul_nonneg k k; exact Int.mul_nonneg_of_nonpos_of_nonpos k k
    omega
theorem zero_dir {w v : C} (hw : 0 < dot w w) (h1 : xp w v = 0) (h2 : dot w v = 0) : v = (0, 0) := by
  have e1 : dot w w * v.1 = w.1 * dot w v - w.2 * xp w v := by unfold dot xp; grind
  have e2 : dot w w * v.2 = w.2 * dot w v + w.1 * xp w v := by unfold dot xp; grind
  rw [h1, h2] at e1 e2
  have a := zero_of_mul hw (y := v.1) (by omega)
  have b := zero_of_mul hw (y := v.2) (by omega)
  ext; exact a; exact b
/-- w0 = q0 - p0 is the first of all steps from A to B, and the shortest -/
structure First (d : C) (A B : List C) (p0 q0 : C) : Prop where
  pm : p0 ∈ A
  qm : q0 ∈ B
  dp : 0 < dot d (sb q0 p0)
  min : ∀ p ∈ A, ∀ q ∈ B, 0 ≤ xp (sb q0 p0) (sb q p) ∧ (xp (sb q0 p0) (sb q p) = 0 → dot d (sb q0 p0) ≤ dot d (sb q p))
theorem first_is {d : C} {A B : List C} (hA : A ≠ []) (hB : B ≠ []) (h : Parted d A B) : ∃ p0 q0, First d A B p0 q0 := by
  obtain ⟨w0, hw0, hm⟩ := first_dir d (A.flatMap fun p => B.map fun q => sb q p) (by
    obtain ⟨a, A', rfl⟩ := List.exists_cons_of_ne_nil hA
    obtain ⟨b, B', rfl⟩ := List.exists_cons_of_ne_nil hB
    simp) (fun w hw => by
    simp only [List.mem_flatMap, List.mem_map] at hw
    obtain ⟨p, hp, q, hq, rfl⟩ := hw
    rw [dot_sb]; have := h p hp q hq; omega)
  simp only [List.mem_flatMap, List.mem_map] at hw0
  obtain ⟨p0, hp0, q0, hq0, rfl⟩ := hw0
  refine ⟨p0, q0, hp0, hq0, by rw [dot_sb]; have := h p0 hp0 q0 hq0; omega, fun p hp q hq => hm _ ?_⟩
  simp only [List.mem_flatMap, List.mem_map]
  exact ⟨p, hp, q, hq, rfl⟩
theorem pos_of {d w v : C} (hw : 0 < dot d w) (h1 : xp w v ≤ 0) (h2 : xp w v = 0 → dot d v ≤ 0) (hv : v ≠ (0, 0)) : pos (T w v) := by
  unfold pos T
  simp only
  by_cases h : xp w v = 0
  · right
    refine ⟨by omega, ?_⟩
    have hn := sq_pos hw
    have k := dot_par w d v
    have hd : dot w d = dot d w := by unfold dot; grind
    rw [h, hd] at k
    have hle : dot w v ≤ 0 := by
      apply Int.not_lt.1; intro hh
      have a := Int.mul_pos hw hh
      have b := Int.mul_nonpos_of_nonneg_of_nonpos (Int.le_of_lt hn) (h2 h)
      omega
    have hne : dot w v ≠ 0 := fun e => hv (zero_dir hn h e)
    omega
  · left; omega
theorem First.posA {d : C} {A B : List C} {p0 q0 : C} (h : First d A B p0 q0) {p : C} (hp : p ∈ A) (hne : p ≠ p0) : pos (T (sb q0 p0) (sb p p0)) := by
  obtain ⟨m1, m2⟩ := h.min p hp q0 h.qm
  have e : xp (sb q0 p0) (sb q0 p) = - xp (sb q0 p0) (sb p p0) := by unfold xp sb; grind
  have e2 : dot d (sb q0 p) = dot d (sb q0 p0) - dot d (sb p p0) := by unfold dot sb; grind
  refine pos_of h.dp (by omega) (fun e0 => ?_) fun e0 => hne ?_
  · have := m2 (by omega); omega
  · unfold sb at e0; simp at e0; ext <;> omega
theorem First.posB {d : C} {A B : List C} {p0 q0 : C} (h : First d A B p0 q0) {q : C} (hq : q ∈ B) (hne : q ≠ q0) : pos (T (sb q0 p0) (sb q0 q)) := by
  obtain ⟨m1, m2⟩ := h.min p0 h.pm q hq
  have e : xp (sb q0 p0) (sb q p0) = - xp (sb q0 p0) (sb q0 q) := by unfold xp sb; grind
  have e2 : dot d (sb q p0) = dot d (sb q0 p0) - dot d (sb q0 q) := by unfold dot sb; grind
  refine pos_of h.dp (by omega) (fun e0 => ?_) fun e0 => hne ?_
  · have := m2 (by omega); omega
  · unfold sb at e0; simp at e0; ext <;> omega
/-- the normal of v, or the way against v, parts -/
theorem parts_of {d : C} {A B : List C} {p0 q0 v : C} (h : First d A B p0 q0) (hv : pos (T (sb q0 p0) v)) (hA : ∀ p ∈ A, p ≠ p0 → 0 ≤ xp (sb p p0) v) (hB : ∀ q ∈ B, q ≠ q0 → 0 ≤ xp (sb q0 q) v) : Parted (-v.2, v.1) A B ∨ Parted (-v.1, -v.2) A B := by
  have hn := sq_pos h.dp
  by_cases hz : xp v (sb q0 p0) = 0
  · right
    have hz2 : xp (sb q0 p0) v = 0 := by rw [xp_neg, hz]; rfl
    have hdv : dot (sb q0 p0) v < 0 := by unfold pos T at hv; simp only at hv; omega
    -- everything is on one line
    have line : ∀ x, pos (T (sb q0 p0) x) → 0 ≤ xp x v → dot (sb q0 p0) x < 0 := fun x hx hxv => by
      have k : dot (sb q0 p0) (sb q0 p0) * xp x v = xp (T (sb q0 p0) v) (T (sb q0 p0) x) := (xp_T _ _ _).symm
      have k2 : xp (T (sb q0 p0) v) (T (sb q0 p0) x) = dot (sb q0 p0) v * -(xp (sb q0 p0) x) * -1 * -1 := by
        unfold T xp at *; simp only; grind
      have a := Int.mul_nonneg (Int.le_of_lt hn) hxv
      unfold pos T at hx; simp only at hx
      rcases hx with hx | hx
      · have := Int.mul_neg_of_neg_of_pos hdv hx
        omega
      · omega
    have lA : ∀ p ∈ A, dot (sb q0 p0) (sb p p0) ≤ 0 := fun p hp => by
      by_cases hpe : p = p0
      · rw [hpe]; unfold dot sb; simp
      · exact Int.le_of_lt (line _ (h.posA hp hpe) (hA p hp hpe))
    have lB : ∀ q ∈ B, dot (sb q0 p0) (sb q0 q) ≤ 0 := fun q hq => by
      by_cases hqe : q = q0
      · rw [hqe]; unfold dot sb; simp
      · exact Int.le_of_lt (line _ (h.posB hq hqe) (hB q hq hqe))
    intro p hp q hq
    have a := lA p hp
    have b := lB q hq
    have e : dot (sb q0 p0) (sb q p) = dot (sb q0 p0) (sb q0 p0) - dot (sb q0 p0) (sb p p0) - dot (sb q0 p0) (sb q0 q) := by unfold dot sb; grind
    have k := dot_par (sb q0 p0) v (sb q p)
    rw [hz2] at k
    have c := Int.mul_neg_of_neg_of_pos hdv (show 0 < dot (sb q0 p0) (sb q p) by omega)
    have f : dot v (sb q p) < 0 := by
      apply Int.not_le.1; intro hh
      have := Int.mul_nonneg (Int.le_of_lt hn) hh
      omega
    have g : dot (-v.1, -v.2) q - dot (-v.1, -v.2) p = - dot v (sb q p) := by unfold dot sb; grind
    omega
  · left
    have hpos : 0 < xp v (sb q0 p0) := by
      have : xp (sb q0 p0) v ≤ 0 := by unfold pos T at hv; simp only at hv; omega
      rw [xp_neg] at this
      omega
    intro p hp q hq
    have a : xp v (sb p p0) ≤ 0 := by
      by_cases hpe : p = p0
      · rw [hpe]; unfold xp sb; simp
      · have := hA p hp hpe; rw [xp_neg] at this; omega
    have b : xp v (sb q0 q) ≤ 0 := by
      by_cases hqe : q = q0
      · rw [hqe]; unfold xp sb; simp
      · have := hB q hq hqe; rw [xp_neg] at this; omega
    have e : dot (-v.2, v.1) q - dot (-v.2, v.1) p = xp v (sb q0 p0) - xp v (sb p p0) - xp v (sb q0 q) := by unfold dot xp sb; grind
    omega
/-- the corners of a polygon: one, or each with a side that ends in it -/
def Poly (R : List C) : Prop := (∃ a, R = [a]) ∨ ∀ p ∈ R, ∃ x, (x, p) ∈ cyc R ∧ x ∈ R ∧ x ≠ p ∧ ∀ p' ∈ R, 0 ≤ cross x p p'
/-- the directions that are tried -/
inductive Tried (A B : List C) : C → Prop
  | right (e : C × C) (h : e ∈ cyc A ∨ e ∈ cyc B) : Tried A B ((sb e.2 e.1).2, -(sb e.2 e.1).1)
  | left (e : C × C) (h : e ∈ cyc A ∨ e ∈ cyc B) : Tried A B (-(sb e.2 e.1).2, (sb e.2 e.1).1)
  | on (e : C × C) (h : e ∈ cyc A ∨ e ∈ cyc B) : Tried A B (sb e.2 e.1)
  | back (e : C × C) (h : e ∈ cyc A ∨ e ∈ cyc B) : Tried A B (-(sb e.2 e.1).1, -(sb e.2 e.1).2)
  | way (a b : C) (ha : A = [a]) (hb : B = [b]) : Tried A B (sb b a)
theorem tried_all {A B : List C} (hA : A ≠ []) (hB : B ≠ []) (pA : Poly A) (pB : Poly B) {d : C} (h : Parted d A B) : ∃ d', Tried A B d' ∧ Parted d' A B := by
  obtain ⟨p0, q0, hf⟩ := first_is hA hB h
  have hn := sq_pos hf.dp
  -- with the step of a side of A, or of B
  have viaA : ∀ x, (x, p0) ∈ cyc A → pos (T (sb q0 p0) (sb x p0)) → (∀ p ∈ A, p ≠ p0 → 0 ≤ xp (sb p p0) (sb x p0)) → (∀ q ∈ B, q ≠ q0 → 0 ≤ xp (sb q0 q) (sb x p0)) → ∃ d', Tried A B d' ∧ Parted d' A B := fun x hx h1 h2 h3 => by
    rcases parts_of hf h1 h2 h3 with k | k
    · refine ⟨_, .right (x, p0) (Or.inl hx), ?_⟩
      have e : ((sb p0 x).2, -(sb p0 x).1) = (-(sb x p0).2, (sb x p0).1) := by unfold sb; ext <;> simp <;> omega
      rw [e]; exact k
    · refine ⟨_, .on (x, p0) (Or.inl hx), ?_⟩
      have e : sb p0 x = (-(sb x p0).1, -(sb x p0).2) := by unfold sb; ext <;> simp <;> omega
      rw [e]; exact k
  have viaB : ∀ z, (z, q0) ∈ cyc B → pos (T (sb q0 p0) (sb q0 z)) → (∀ p ∈ A, p ≠ p0 → 0 ≤ xp (sb p p0) (sb q0 z)) → (∀ q ∈ B, q ≠ q0 → 0 ≤ xp (sb q0 q) (sb q0 z)) → ∃ d', Tried A B d' ∧ Parted d' A B := fun z hz h1 h2 h3 => by
    rcases parts_of hf h1 h2 h3 with k | k
    · exact ⟨_, .left (z, q0) (Or.inr hz), k⟩
    · exact ⟨_, .back (z, q0) (Or.inr hz), k⟩
  have sideA : ∀ x, (∀ p' ∈ A, 0 ≤ cross x p0 p') → ∀ p ∈ A, 0 ≤ xp (sb p p0) (sb x p0) := fun x hx p hp => by
    have := hx p hp
    have e : cross x p0 p = xp (sb p p0) (sb x p0) := by unfold cross xp sb; grind
    omega
  have sideB : ∀ z, (∀ p' ∈ B, 0 ≤ cross z q0 p') → ∀ q ∈ B, 0 ≤ xp (sb q0 q) (sb q0 z) := fun z hz q hq => by
    have := hz q hq
    have e : cross z q0 q = xp (sb q0 q) (sb q0 z) := by unfold cross xp sb; grind
    omega
  have trT : ∀ {u v w : C}, pos (T (sb q0 p0) u) → pos (T (sb q0 p0) v) → pos (T (sb q0 p0) w) → 0 ≤ xp v u → 0 ≤ xp w v → 0 ≤ xp w u := fun {u v w} h1 h2 h3 h4 h5 => by
    have := tr h1 h2 h3 (by rw [xp_T]; exact Int.mul_nonneg (Int.le_of_lt hn) h4) (by rw [xp_T]; exact Int.mul_nonneg (Int.le_of_lt hn) h5)
    rw [xp_T] at this
    exact le_of_pmul hn this
  rcases pA with ⟨a, rfl⟩ | pA
  · have ea : p0 = a := by simpa using hf.pm
    subst ea
    rcases pB with ⟨b, rfl⟩ | pB
    · refine ⟨_, .way p0 b rfl rfl, fun p hp q hq => ?_⟩
      have eb : q0 = b := by simpa using hf.qm
      subst eb
      simp at hp hq; subst hp; subst hq
      rw [dot_sb] at hn; omega
    · obtain ⟨z, hz, hzm, hzq, hzl⟩ := pB q0 hf.qm
      exact viaB z hz (hf.posB hzm hzq) (fun p hp hpe => absurd (by simpa using hp) hpe) fun q hq _ => sideB z hzl q hq
  · obtain ⟨x, hx, hxm, hxp, hxl⟩ := pA p0 hf.pm
    have hpx := hf.posA hxm hxp
    rcases pB with ⟨b, rfl⟩ | pB
    · have eb : q0 = b := by simpa using hf.qm
      subst eb
      exact viaA x hx hpx (fun p hp _ => sideA x hxl p hp) fun q hq hqe => absurd (by simpa using hq) hqe
    · obtain ⟨z, hz, hzm, hzq, hzl⟩ := pB q0 hf.qm
      have hpz := hf.posB hzm hzq
      by_cases hc : 0 ≤ xp (sb x p0) (sb q0 z)
      · exact viaB z hz hpz (fun p hp hpe => trT hpz hpx (hf.posA hp hpe) hc (sideA x hxl p hp)) fun q hq _ => sideB z hzl q hq
      · exact viaA x hx hpx (fun p hp _ => sideA x hxl p hp) fun q hq hqe => trT hpx hpz (hf.posB hq hqe) (by rw [xp_neg]; omega) (sideB z hzl q hq)
end Go.Geo
namespace Go.Geo
theorem steps_len : ∀ l : List C, (steps l).length = l.length - 1
  | [] => rfl
  | [_] => rfl
  | _ :: b :: r => by simp only [steps, List.length_cons]; rw [steps_len (b :: r)]; simp
theorem steps_at : ∀ (l : List C) (i : Nat) (a b : C), l[i]? = some a → l[i + 1]? = some b → (steps l)[i]? = some (a, b)
  | [], _, _, _, h, _ => by simp at h
  | [_], i, _, _, _, h => by simp at h
  | x :: y :: r, 0, a, b, h1, h2 => by simp at h1 h2; subst h1; subst h2; rfl
  | x :: y :: r, i + 1, a, b, h1, h2 => by
    simp only [steps, List.getElem?_cons_succ] at h1 h2 ⊢
    exact steps_at (y :: r) i a b h1 h2
theorem cyc_len (r : List C) : (cyc r).length = r.length := by
  cases r with
  | nil => rfl
  | cons a t => simp only [cyc]; rw [steps_len]; simp
/-- the side that begins at a corner -/
theorem cyc_at {r : List C} {i j : Nat} {a b : C} (ha : r[i]? = some a) (hj : j = (i + 1) % r.length) (hb : r[j]? = some b) : (cyc r)[i]? = some (a, b) := by
  cases r with
  | nil => simp at ha
  | cons x t =>
    have hi := (List.getElem?_eq_some_iff.1 ha).1
    simp only [cyc]
    refine steps_at _ i a b ?_ ?_
    · rw [List.getElem?_append_left hi]; exact ha
    · by_cases h : i + 1 < (x :: t).length
      · rw [Nat.mod_eq_of_lt h] at hj
        subst hj
        rw [List.getElem?_append_left h]; exact hb
      · have e : i + 1 = (x :: t).length := by omega
        rw [e, Nat.mod_self] at hj
        subst hj
        simp at hb; subst hb
        rw [e, List.getElem?_append_right (Nat.le_refl _), Nat.sub_self]; rfl
theorem steps_mem : ∀ {l : List C} {e : C × C}, e ∈ steps l → e.1 ∈ l ∧ e.2 ∈ l
  | [], _, h => by simp [steps] at h
  | [_], _, h => by simp [steps] at h
  | a :: b :: r, e, h => by
    simp only [steps, List.mem_cons] at h
    rcases h with rfl | h
    · simp
    · have := steps_mem (l := b :: r) h
      exact ⟨List.mem_cons_of_mem _ this.1, List.mem_cons_of_mem _ this.2⟩
theorem cyc_mem {r : List C} {e : C × C} (h : e ∈ cyc r) : e.1 ∈ r ∧ e.2 ∈ r := by
  cases r with
  | nil => simp [cyc] at h
  | cons a t =>
    simp only [cyc] at h
    have := steps_mem h
    simp only [List.mem_append, List.mem_cons, List.not_mem_nil, or_false] at this ⊢
    constructor
    · rcases this.1 with h | h; exact h; exact Or.inl h
    · rcases this.2 with h | h; exact h; exact Or.inl h
theorem cyc_into {r : List C} (h2 : 2 ≤ r.length) (hn : r.Nodup) {p : C} (hp : p ∈ r) : ∃ x, (x, p) ∈ cyc r ∧ x ∈ r ∧ x ≠ p := by
  obtain ⟨s, t, rfl⟩ := List.append_of_mem hp
  rcases List.eq_nil_or_concat s with rfl | ⟨s', x, rfl⟩
  · rcases List.eq_nil_or_concat t with rfl | ⟨t', x, rfl⟩
    · simp at h2
    · refine ⟨x, ?_, by simp, ?_⟩
      · simp only [List.concat_eq_append, List.nil_append, cyc]
        have := steps_snoc x p (p :: t')
        simp only [List.cons_append, List.append_assoc, List.nil_append] at this ⊢
        rw [this]; simp
      · intro e; subst e; simp at hn
  · refine ⟨x, ?_, by simp, ?_⟩
    · simp only [List.concat_eq_append, List.append_assoc, List.singleton_append]
      cases s' with
      | nil => simp [cyc, steps]
      | cons a s' =>
        simp only [List.cons_append, cyc]
        have := steps_app x (p :: (t ++ [a])) (a :: s')
        simp only [List.cons_append, List.append_assoc] at this ⊢
        rw [this]; simp [steps]
    · intro e; subst e
      simp only [List.concat_eq_append, List.append_assoc, List.singleton_append] at hn
      have := (List.nodup_append.1 hn).2.1
      simp at this
theorem poly_hull {l : List C} (h : Sorted l) : Poly (hullS l) := by
  by_cases h2 : 2 ≤ (hullS l).length
  · right
    intro p hp
    obtain ⟨x, hx, hxm, hxp⟩ := cyc_into h2 (nd_lo h) hp
    refine ⟨x, hx, hxm, hxp, fun q hq => ?_⟩
    have hi := hull_in h q (hull_sub h q hq)
    exact hi.1 _ hx
  · by_cases h0 : hullS l = []
    · right; rw [h0]; intro p hp; simp at hp
    · left
      obtain ⟨a, t, e⟩ := List.exists_cons_of_ne_nil h0
      rw [e] at h2
      have : t = [] := by cases t with | nil => rfl | cons b r => exact absurd (by simp) h2
      exact ⟨a, by rw [e, this]⟩
end Go.Geo
