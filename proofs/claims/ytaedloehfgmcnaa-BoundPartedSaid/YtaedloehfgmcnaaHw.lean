/- Contracts: what each function of the program computes, for the arguments that its theorem names; and from there the given statement. Conditions: those that each theorem states. -/
import Derived.Test.YtaedloehfgmcnaaWb
import Derived.Test.YtaedloehfgmcnaaPc
namespace Go.Proofs.Try
open Go.Psl
theorem gS_iff {r n w d : Int} (h0 : 0 ≤ d) (hd : d ≤ w) : ((gS r n w).1 ≤ d ∧ d ≤ (gS r n w).2) ↔ n ≤ r * d := by
  unfold gS
  split
  · rename_i h
    simp only
    have e : -(-n / r) ≤ d ↔ n ≤ r * d := by
      have := @Int.le_ediv_iff_mul_le (-d) (-n) r (by omega)
      have e2 : -d * r = -(r * d) := by rw [Int.neg_mul, Int.mul_comm]
      omega
    omega
  · split
    · rename_i h
      simp only
      have e : d ≤ -n / (-r) ↔ n ≤ r * d := by
        have := @Int.le_ediv_iff_mul_le d (-n) (-r) (by omega)
        have e2 : d * -r = -(r * d) := by rw [Int.mul_neg, Int.mul_comm]
        omega
      omega
    · have hr : r = 0 := by omega
      subst hr
      split
      · simp only; omega
      · simp only; omega
/-- the line of a choice at d steps, times the width -/
def upP (f t w d : Int) : Int := f * w + (t - f) * d
theorem above_iff {f t w y d : Int} (h0 : 0 ≤ d) (hd : d ≤ w) : ((aboveS f t w y).1 ≤ d ∧ d ≤ (aboveS f t w y).2) ↔ y * w ≤ upP f t w d := by
  rw [above_gS, gS_iff h0 hd]
  unfold upP
  have : (y - f) * w = y * w - f * w := Int.sub_mul y f w
  omega
theorem edge_iff {pick : Int × Int → Int × Int} {y : Int × Int} {a k : Int × Int × Int} {d : Int} (h0 : 0 ≤ d) (hd : d ≤ k.1 - a.1) : ((edgeS pick y a k).1 ≤ d ∧ d ≤ (edgeS pick y a k).2) ↔ (y.1 * (k.1 - a.1) ≤ upP (pick a.2).1 (pick k.2).1 (k.1 - a.1) d ∧ upP (pick a.2).2 (pick k.2).2 (k.1 - a.1) d ≤ y.2 * (k.1 - a.1)) := by
  have h1 := above_iff (f := (pick a.2).1) (t := (pick k.2).1) (y := y.1) h0 hd
  have h2 := above_iff (f := -(pick a.2).2) (t := -(pick k.2).2) (y := -y.2) h0 hd
  have e : upP (-(pick a.2).2) (-(pick k.2).2) (k.1 - a.1) d = -upP (pick a.2).2 (pick k.2).2 (k.1 - a.1) d := by
    unfold upP
    have e1 : -(pick a.2).2 * (k.1 - a.1) = -((pick a.2).2 * (k.1 - a.1)) := Int.neg_mul _ _
    have e2 : (-(pick k.2).2 - -(pick a.2).2) * d = -(((pick k.2).2 - (pick a.2).2) * d) := by rw [← Int.neg_mul]; congr 1; omega
    omega
  rw [e] at h2
  have e3 : -y.2 * (k.1 - a.1) = -(y.2 * (k.1 - a.1)) := Int.neg_mul _ _
  rw [← h1, show upP (pick a.2).2 (pick k.2).2 (k.1 - a.1) d ≤ y.2 * (k.1 - a.1) ↔ (aboveS (-(pick a.2).2) (-(pick k.2).2) (k.1 - a.1) (-y.2)).1 ≤ d ∧ d ≤ (aboveS (-(pick a.2).2) (-(pick k.2).2) (k.1 - a.1) (-y.2)).2 by rw [h2]; omega]
  unfold edgeS
  simp only
  omega
/-- the j-th segment holds x, and there it is as asked -/
def segP (pick : Int × Int → Int × Int) (y : Int × Int) (l : List (Int × Int × Int)) (j : Nat) (x : Int) : Prop := ∃ a k, l[j]? = some a ∧ l[j + 1]? = some k ∧ a.1 ≤ x ∧ x ≤ k.1 ∧ y.1 * (k.1 - a.1) ≤ upP (pick a.2).1 (pick k.2).1 (k.1 - a.1) (x - a.1) ∧ upP (pick a.2).2 (pick k.2).2 (k.1 - a.1) (x - a.1) ≤ y.2 * (k.1 - a.1)
def hits (out : List (Int × Int)) (x : Int) : Prop := ∃ p ∈ out, p.1 ≤ x ∧ x ≤ p.2
def sepd (out : List (Int × Int)) : Prop := ∀ m p q, out[m]? = some p → out[m + 1]? = some q → p.2 + 1 < q.1
theorem sepd_snoc {l : List (Int × Int)} {p s : Int × Int} (h : sepd (l ++ [p])) (hs : p.2 + 1 < s.1) : sepd (l ++ [p] ++ [s]) := by
  intro m a b ha hb
  by_cases hm : m + 1 < l.length + 1
  · rw [List.getElem?_append_left (by simp; omega)] at ha hb
    exact h m a b ha hb
  · have hl := (List.getElem?_eq_some_iff.1 hb).1
    simp at hl
    have e : m = l.length := by omega
    subst e
    simp at ha hb
    subst ha hb; exact hs
theorem sepd_merge {l : List (Int × Int)} {p : Int × Int} (t : Int) (h : sepd (l ++ [p])) : sepd (l ++ [(p.1, t)]) := by
  intro m a b ha hb
  have hl := (List.getElem?_eq_some_iff.1 hb).1
  simp at hl
  rw [List.getElem?_append_left (by omega)] at ha
  by_cases hm : m + 1 < l.length
  · rw [List.getElem?_append_left hm] at hb
    exact h m a b (by rw [List.getElem?_append_left (by omega)]; exact ha) (by rw [List.getElem?_append_left hm]; exact hb)
  · have e : m + 1 = l.length := by omega
    rw [e] at hb
    simp at hb
    subst hb
    exact h m a p (by rw [List.getElem?_append_left (by omega)]; exact ha) (by rw [e]; simp)
theorem out_hits {pick : Int × Int → Int × Int} {y : Int × Int} {l : List (Int × Int × Int)} (ht : tabS l = true) : ∀ i, i + 1 ≤ l.length → (∀ x, hits (outS (edgeS pick y) l i) x ↔ ∃ j, j < i ∧ segP pick y l j x) ∧ sepd (outS (edgeS pick y) l i) ∧ ∀ p ∈ outS (edgeS pick y) l i, p.1 ≤ p.2 ∧ (∀ a, l[0]? = some a → a.1 ≤ p.1) ∧ ∀ a, l[i]? = some a → p.2 ≤ a.1
  | 0, _ => ⟨fun x => by simp [outS, hits], by simp [outS, sepd], by simp [outS]⟩
  | i + 1, hi => by
    obtain ⟨ih1, ih2, ih3⟩ := out_hits ht (pick := pick) (y := y) i (by omega)
    rw [outS_succ]
    unfold stepS
    obtain ⟨a, ha⟩ : ∃ a, l[i]? = some a := ⟨_, List.getElem?_eq_getElem (by omega)⟩
    obtain ⟨k, hk⟩ : ∃ k, l[i + 1]? = some k := ⟨_, List.getElem?_eq_getElem (by omega)⟩
    have hlt : a.1 < k.1 := tab_mono ht ha hk (by omega)
    rw [ha, hk]
    simp only
    have hz : ∀ z, l[0]? = some z → z.1 ≤ a.1 := fun z hz => by
      by_cases h : i = 0
      · subst h; rw [ha] at hz; cases hz; omega
      · have := tab_mono ht hz ha (by omega); omega
    have hseg : ∀ x, segP pick y l i x ↔ a.1 + (edgeS pick y a k).1 ≤ x ∧ x ≤ a.1 + (edgeS pick y a k).2 ∧ a.1 ≤ x ∧ x ≤ k.1 := fun x => by
      unfold segP
      constructor
      · rintro ⟨a', k', ha', hk', h1, h2, h3⟩
        rw [ha] at ha'; rw [hk] at hk'; cases ha'; cases hk'
        have := (edge_iff (pick := pick) (y := y) (a := a) (k := k) (d := x - a.1) (by omega) (by omega)).2 h3
        omega
      · rintro ⟨h1, h2, h3, h4⟩
        exact ⟨a, k, ha, hk, h3, h4, (edge_iff (by omega) (by omega)).1 (by omega)⟩
    by_cases he : (edgeS pick y a k).1 ≤ (edgeS pick y a k).2
    · rw [if_pos he]
      have b := edge_in he
      generalize edgeS pick y a k = e at *
      generalize outS (edgeS pick y) l i = out at *
      rcases List.eq_nil_or_concat out with rfl | ⟨r, p, rfl⟩
      · rw [putS_nil]
        refine ⟨fun x => ?_, ?_, ?_⟩
        · constructor
          · rintro ⟨q, hq, h1, h2⟩
            rw [List.mem_singleton] at hq; subst hq
            exact ⟨i, by omega, (hseg x).2 (by simp only at h1 h2; omega)⟩
          · rintro ⟨j, hj, h⟩
            by_cases e2 : j = i
            · subst e2
              have := (hseg x).1 h
              exact ⟨_, List.mem_singleton.2 rfl, by simp only; omega, by simp only; omega⟩
            · have := (ih1 x).2 ⟨j, by omega, h⟩
              simp [hits] at this
        · intro m p q h1 h2
          simp at h2
        · intro q hq
          rw [List.mem_singleton] at hq; subst hq
          refine ⟨by simp only; omega, fun z h => ?_, fun z h => ?_⟩
          · have := hz z h; simp only; omega
          · cases h; simp only; omega
      · rw [List.concat_eq_append] at *
        rw [putS_snoc]
        have hp := ih3 p (by simp)
        have hpa := hp.2.2 a ha
        split
        · rename_i hm
          simp only at hm
          refine ⟨fun x => ?_, sepd_merge _ ih2, ?_⟩
          · constructor
            · rintro ⟨q, hq, h1, h2⟩
              rcases List.mem_append.1 hq with hq | hq
              · obtain ⟨j, hj, h⟩ := (ih1 x).1 ⟨q, by simp [hq], h1, h2⟩
                exact ⟨j, by omega, h⟩
              · rw [List.mem_singleton] at hq; subst hq
                simp only at h1 h2
                by_cases hx : x ≤ p.2
                · obtain ⟨j, hj, h⟩ := (ih1 x).1 ⟨p, by simp, h1, hx⟩
                  exact ⟨j, by omega, h⟩
                · exact ⟨i, by omega, (hseg x).2 (by omega)⟩
            · rintro ⟨j, hj, h⟩
              by_cases e2 : j = i
              · subst e2
                have := (hseg x).1 h
                exact ⟨(p.1, a.1 + e.2), by simp, by simp only; omega, by simp only; omega⟩
              · obtain ⟨q, hq, h1, h2⟩ := (ih1 x).2 ⟨j, by omega, h⟩
                rcases List.mem_append.1 hq with hq | hq
                · exact ⟨q, by simp [hq], h1, h2⟩
                · rw [List.mem_singleton] at hq; subst hq
                  exact ⟨(q.1, a.1 + e.2), by simp, h1, by simp only; omega⟩
          · intro q hq
            rcases List.mem_append.1 hq with hq | hq
            · have := ih3 q (by simp [hq])
              refine ⟨this.1, this.2.1, fun z h => ?_⟩
              cases h
              have := this.2.2 a ha
              omega
            · rw [List.mem_singleton] at hq; subst hq
              refine ⟨by simp only; omega, hp.2.1, fun z h => ?_⟩
              cases h
              simp only; omega
        · rename_i hm
          simp only at hm
          refine ⟨fun x => ?_, sepd_snoc ih2 (by simp only; omega), ?_⟩
          · constructor
            · rintro ⟨q, hq, h1, h2⟩
              rcases List.mem_append.1 hq with hq | hq
              · obtain ⟨j, hj, h⟩ := (ih1 x).1 ⟨q, hq, h1, h2⟩
                exact ⟨j, by omega, h⟩
              · rw [List.mem_singleton] at hq; subst hq
                simp only at h1 h2
                exact ⟨i, by omega, (hseg x).2 (by omega)⟩
            · rintro ⟨j, hj, h⟩
              by_cases e2 : j = i
              · subst e2
                have := (hseg x).1 h
                exact ⟨(a.1 + e.1, a.1 + e.2), by simp, by simp only; omega, by simp only; omega⟩
              · obtain ⟨q, hq, h1, h2⟩ := (ih1 x).2 ⟨j, by omega, h⟩
                exact ⟨q, List.mem_append_left _ hq, h1, h2⟩
          · intro q hq
            rcases List.mem_append.1 hq with hq | hq
            · have := ih3 q hq
              refine ⟨this.1, this.2.1, fun z h => ?_⟩
              cases h
              have := this.2.2 a ha
              omega
            · rw [List.mem_singleton] at hq; subst hq
              refine ⟨by simp only; omega, fun z h => ?_, fun z h => ?_⟩
              · have := hz z h; simp only; omega
              · cases h; simp only; omega
    · rw [if_neg he]
      refine ⟨fun x => ?_, ih2, fun q hq => ?_⟩
      · rw [ih1 x]
        constructor
        · rintro ⟨j, hj, h⟩; exact ⟨j, by omega, h⟩
        · rintro ⟨j, hj, h⟩
          by_cases e2 : j = i
          · subst e2
            have := (hseg x).1 h
            omega
          · exact ⟨j, by omega, h⟩
      · have := ih3 q hq
        refine ⟨this.1, this.2.1, fun z h => ?_⟩
        cases h
        have := this.2.2 a ha
        omega
end Go.Proofs.Try
namespace Go.Proofs.Try
open Go.Psl
theorem upP_mono {f g t u w d : Int} (hf : f ≤ g) (ht : t ≤ u) (h0 : 0 ≤ d) (hd : d ≤ w) : upP f t w d ≤ upP g u w d := by
  unfold upP
  have h1 : f * (w - d) ≤ g * (w - d) := Int.mul_le_mul_of_nonneg_right hf (by omega)
  have h2 : t * d ≤ u * d := Int.mul_le_mul_of_nonneg_right ht h0
  have e1 : f * (w - d) = f * w - f * d := Int.mul_sub f w d
  have e2 : g * (w - d) = g * w - g * d := Int.mul_sub g w d
  have e3 : (t - f) * d = t * d - f * d := Int.sub_mul t f d
  have e4 : (u - g) * d = u * d - g * d := Int.sub_mul u g d
  omega
theorem segP_mono {pick : Int × Int → Int × Int} {y z : Int × Int} {l : List (Int × Int × Int)} {j : Nat} {x : Int} (h1 : z.1 ≤ y.1) (h2 : y.2 ≤ z.2) (h : segP pick y l j x) : segP pick z l j x := by
  obtain ⟨a, k, ha, hk, b1, b2, c1, c2⟩ := h
  refine ⟨a, k, ha, hk, b1, b2, ?_, ?_⟩
  · exact Int.le_trans (Int.mul_le_mul_of_nonneg_right h1 (by omega)) c1
  · exact Int.le_trans c2 (Int.mul_le_mul_of_nonneg_right h2 (by omega))
theorem segP_may {y : Int × Int} {l : List (Int × Int × Int)} (ht : tabS l = true) {j : Nat} {x : Int} (h : segP (pickM false) y l j x) : segP (pickM true) y l j x := by
  obtain ⟨a, k, ha, hk, b1, b2, c1, c2⟩ := h
  have oa := okK_iff.1 (tab_okK ht ha)
  have ok := okK_iff.1 (tab_okK ht hk)
  have hm := upP_mono (f := a.2.1) (g := a.2.2) (t := k.2.1) (u := k.2.2) (w := k.1 - a.1) (d := x - a.1) (by omega) (by omega) (by omega) (by omega)
  have p1 : ∀ v, pickM false v = v := fun v => rfl
  have p2 : ∀ v, pickM true v = (v.2, v.1) := fun v => rfl
  rw [p1, p1] at c1 c2
  refine ⟨a, k, ha, hk, b1, b2, ?_, ?_⟩
  · rw [p2, p2]; simp only; omega
  · rw [p2, p2]; simp only; omega
def nearP (y : Int × Int) : Int × Int := (nearS y.1, nearS y.2)
theorem find_hits {may : Bool} {y : Int × Int} {l : List (Int × Int × Int)} (ht : tabS l = true) (x : Int) : hits (findS (pickM may) l y) x ↔ ∃ j, segP (pickM may) (nearP y) l j x := by
  have hn := tab_len ht
  unfold findS
  rw [(out_hits ht (l.length - 1) (by omega)).1 x]
  constructor
  · rintro ⟨j, _, h⟩; exact ⟨j, h⟩
  · rintro ⟨j, h⟩
    refine ⟨j, ?_, h⟩
    obtain ⟨a, k, ha, hk, _⟩ := h
    have := (List.getElem?_eq_some_iff.1 hk).1
    omega
theorem find_shape {may : Bool} {y : Int × Int} {l : List (Int × Int × Int)} (ht : tabS l = true) {a b : Int × Int × Int} (ha : l[0]? = some a) (hb : l[l.length - 1]? = some b) : sepd (findS (pickM may) l y) ∧ ∀ p ∈ findS (pickM may) l y, p.1 ≤ p.2 ∧ a.1 ≤ p.1 ∧ p.2 ≤ b.1 := by
  have hn := tab_len ht
  obtain ⟨_, h1, h2⟩ := out_hits ht (pick := pickM may) (y := nearP y) (l.length - 1) (by omega)
  exact ⟨h1, fun p hp => ⟨(h2 p hp).1, (h2 p hp).2.1 a ha, (h2 p hp).2.2 b hb⟩⟩
theorem near_mono {m n : Int} (h : m ≤ n) : nearS m ≤ nearS n := by unfold nearS; omega
theorem find_mono {may : Bool} {y z : Int × Int} {l : List (Int × Int × Int)} (ht : tabS l = true) {x : Int} (h1 : z.1 ≤ y.1) (h2 : y.2 ≤ z.2) (h : hits (findS (pickM may) l y) x) : hits (findS (pickM may) l z) x := by
  rw [find_hits ht] at h ⊢
  obtain ⟨j, h⟩ := h
  exact ⟨j, segP_mono (y := nearP y) (z := nearP z) (near_mono h1) (near_mono h2) h⟩
theorem must_may {y : Int × Int} {l : List (Int × Int × Int)} (ht : tabS l = true) {x : Int} (h : hits (findS (pickM false) l y) x) : hits (findS (pickM true) l y) x := by
  rw [find_hits ht] at h ⊢
  obtain ⟨j, h⟩ := h
  exact ⟨j, segP_may ht h⟩
/-- x in the i-th segment, and no earlier one -/
def inSeg (l : List (Int × Int × Int)) (i : Nat) (a k : Int × Int × Int) (x : Int) : Prop := l[i]? = some a ∧ l[i + 1]? = some k ∧ a.1 ≤ x ∧ x ≤ k.1 ∧ (i = 0 ∨ a.1 < x)
theorem seg_other {l : List (Int × Int × Int)} (ht : tabS l = true) {i : Nat} {a k : Int × Int × Int} {x : Int} (h : inSeg l i a k x) {j : Nat} {a' k' : Int × Int × Int} (ha : l[j]? = some a') (hk : l[j + 1]? = some k') (h1 : a'.1 ≤ x) (h2 : x ≤ k'.1) : (j = i ∧ a' = a ∧ k' = k) ∨ (a' = k ∧ x = k.1) := by
  obtain ⟨ea, ek, b1, b2, b3⟩ := h
  by_cases e : j = i
  · subst e
    rw [ea] at ha; rw [ek] at hk; cases ha; cases hk
    exact Or.inl ⟨rfl, rfl, rfl⟩
  · by_cases hlt : j < i
    · exfalso
      have : k'.1 ≤ a.1 := by
        by_cases e2 : j + 1 = i
        · subst e2; rw [ea] at hk; cases hk; omega
        · have := tab_mono ht hk ea (by omega); omega
      omega
    · right
      by_cases e2 : j = i + 1
      · subst e2
        rw [ek] at ha; cases ha
        exact ⟨rfl, by omega⟩
      · exfalso
        have := tab_mono ht ek ha (by omega)
        omega
theorem upP_end (f t w : Int) : upP f t w w = t * w := by
  unfold upP
  have : (t - f) * w = t * w - f * w := Int.sub_mul t f w
  omega
theorem upP_zero (f t w : Int) : upP f t w 0 = f * w := by unfold upP; omega
/-- what a segment's line asks does not hang on which of two segments at a knot is taken -/
theorem segP_here {y : Int × Int} {l : List (Int × Int × Int)} (ht : tabS l = true) {i : Nat} {a k : Int × Int × Int} {x : Int} (h : inSeg l i a k x) {j : Nat} (hp : segP (pickM false) y l j x) : y.1 * (k.1 - a.1) ≤ upP a.2.1 k.2.1 (k.1 - a.1) (x - a.1) ∧ upP a.2.2 k.2.2 (k.1 - a.1) (x - a.1) ≤ y.2 * (k.1 - a.1) := by
  obtain ⟨a', k', ha, hk, h1, h2, c1, c2⟩ := hp
  have hlt : a.1 < k.1 := tab_mono ht h.1 h.2.1 (by omega)
  have hlt' : a'.1 < k'.1 := tab_mono ht ha hk (by omega)
  rcases seg_other ht h ha hk h1 h2 with ⟨rfl, rfl, rfl⟩ | ⟨rfl, rfl⟩
  · exact ⟨c1, c2⟩
  · rw [Int.sub_self, upP_zero] at c1 c2
    have p1 : ∀ v, pickM false v = v := fun v => rfl
    rw [p1] at c1 c2
    rw [upP_end, upP_end]
    have e1 : y.1 ≤ a'.2.1 := Int.le_of_mul_le_mul_right c1 (by omega)
    have e2 : a'.2.2 ≤ y.2 := Int.le_of_mul_le_mul_right c2 (by omega)
    exact ⟨Int.mul_le_mul_of_nonneg_right e1 (by omega), Int.mul_le_mul_of_nonneg_right e2 (by omega)⟩
/-- a number between knots, times the width -/
def numL (u v w d : Int) : Int := u * w + d * (v - u)
theorem num_up (u v w d : Int) : numL u v w d = upP u v w d := by unfold numL upP; rw [Int.mul_comm d]
theorem num_in {l : List (Int × Int × Int)} {i : Nat} {a k : Int × Int × Int} {x : Int} (h : inSeg l i a k x) {u v : Int} (hu : a.2.1 ≤ u ∧ u ≤ a.2.2) (hv : k.2.1 ≤ v ∧ v ≤ k.2.2) : upP a.2.1 k.2.1 (k.1 - a.1) (x - a.1) ≤ numL u v (k.1 - a.1) (x - a.1) ∧ numL u v (k.1 - a.1) (x - a.1) ≤ upP a.2.2 k.2.2 (k.1 - a.1) (x - a.1) := by
  rw [num_up]
  have := h.2.2
  exact ⟨upP_mono hu.1 hv.1 (by omega) (by omega), upP_mono hu.2 hv.2 (by omega) (by omega)⟩
section
variable {l : List (Int × Int × Int)} (ht : tabS l = true) {i : Nat} {a k : Int × Int × Int} {x : Int} (h : inSeg l i a k x) {u v : Int} (hu : a.2.1 ≤ u ∧ u ≤ a.2.2) (hv : k.2.1 ≤ v ∧ v ≤ k.2.2)
def lowP (y : Int × Int) : Int := max y.1 (-1073741825)
def highP (y : Int × Int) : Int := min y.2 1073741825
def isIn (y : Int × Int) (num den : Int) : Prop := lowP y ≤ 1073741825 ∧ -1073741825 ≤ highP y ∧ lowP y * den ≤ num ∧ num ≤ highP y * den
include ht h hu hv in
theorem in_may {y : Int × Int} (hi : isIn y (numL u v (k.1 - a.1) (x - a.1)) (k.1 - a.1)) : hits (findS (pickM true) l y) x := by
  rw [find_hits ht]
  obtain ⟨h1, h2, h3, h4⟩ := hi
  obtain ⟨n1, n2⟩ := num_in h hu hv
  have e1 : nearS y.1 = lowP y := by unfold nearS lowP at *; omega
  have e2 : nearS y.2 = highP y := by unfold nearS highP at *; omega
  refine ⟨i, a, k, h.1, h.2.1, h.2.2.1, h.2.2.2.1, ?_, ?_⟩
  · show nearS y.1 * _ ≤ upP a.2.2 k.2.2 _ _
    rw [e1]; omega
  · show upP a.2.1 k.2.1 _ _ ≤ nearS y.2 * _
    rw [e2]; omega
include ht h hu hv in
theorem must_in {y : Int × Int} (hm : hits (findS (pickM false) l y) x) : isIn y (numL u v (k.1 - a.1) (x - a.1)) (k.1 - a.1) := by
  rw [find_hits ht] at hm
  obtain ⟨j, hm⟩ := hm
  obtain ⟨c1, c2⟩ := segP_here ht h hm
  obtain ⟨n1, n2⟩ := num_in h hu hv
  have hlt : a.1 < k.1 := tab_mono ht h.1 h.2.1 (by omega)
  have oa := okK_iff.1 (tab_okK ht h.1)
  have ok := okK_iff.1 (tab_okK ht h.2.1)
  have b1 : upP a.2.1 k.2.1 (k.1 - a.1) (x - a.1) ≤ 1073741824 * (k.1 - a.1) := by
    have := upP_mono (f := a.2.1) (g := 1073741824) (t := k.2.1) (u := 1073741824) (w := k.1 - a.1) (d := x - a.1) (by omega) (by omega) (by have := h.2.2; omega) (by have := h.2.2; omega)
    unfold upP at this ⊢; omega
  have b2 : -1073741824 * (k.1 - a.1) ≤ upP a.2.2 k.2.2 (k.1 - a.1) (x - a.1) := by
    have := upP_mono (f := -1073741824) (g := a.2.2) (t := -1073741824) (u := k.2.2) (w := k.1 - a.1) (d := x - a.1) (by omega) (by omega) (by have := h.2.2; omega) (by have := h.2.2; omega)
    unfold upP at this ⊢; omega
  have l1 : nearS y.1 ≤ 1073741824 := Int.le_of_mul_le_mul_right (Int.le_trans c1 b1) (by omega)
  have l2 : -1073741824 ≤ nearS y.2 := Int.le_of_mul_le_mul_right (Int.le_trans b2 c2) (by omega)
  have e1 : nearS y.1 = lowP y := by unfold nearS lowP at *; omega
  have e2 : nearS y.2 = highP y := by unfold nearS highP at *; omega
  have g1 : (nearP y).1 = lowP y := e1
  have g2 : (nearP y).2 = highP y := e2
  rw [g1] at c1
  rw [g2] at c2
  refine ⟨?_, ?_, by omega, by omega⟩
  · unfold nearS lowP at *; omega
  · unfold nearS highP at *; omega
end
end Go.Proofs.Try
namespace Go.Proofs.Try
open Go.Psl
theorem fz_spans (out : List (Int × Int)) : Fz1 (lk (outB out 0)) (hdrV out 0) (.d (spansD out)) := by
  rcases List.eq_nil_or_concat out with rfl | ⟨l, p, rfl⟩
  · exact Or.inr ⟨rfl, 2, rfl⟩
  · rw [List.concat_eq_append]
    have h := bor_spans (H := lk (outB (l ++ [p]) 0)) (id := 0) (l := l) (p := p) (by simp)
    have e : hdrV (l ++ [p]) 0 = .ls 0 0 (l.length + 1) 2 := by simp
    rw [e]
    exact h
theorem fz_ret2 {P : Program} {f : FuncId} {args : List V} {out : List (Int × Int)} {e : Int} (h : Ct P f args (.tup [hdrV out 0, vi e]) (outB out 0)) : Ct P f args (.tup [.d (spansD out), vi e]) [] :=
  Cm.freeze h ⟨fz_spans out, Or.inl rfl, trivial⟩
theorem fn22d (l : List (Int × Int × Int)) (y : Int × Int) (hl : l.length ≤ 1000000) : Ct prog 22 [.d (knotsD l), vsp y.1 y.2] (.tup [.d (spansD (mayS (pickM true) l y).1), vi (mayS (pickM true) l y).2]) [] := fz_ret2 (fn22p l y hl)
theorem fn24d (l : List (Int × Int × Int)) (y : Int × Int) (hl : l.length ≤ 1000000) : Ct prog 24 [.d (knotsD l), vsp y.1 y.2] (.tup [.d (spansD (mayS (pickM false) l y).1), vi (mayS (pickM false) l y).2]) [] := fz_ret2 (fn24p l y hl)
end Go.Proofs.Try
