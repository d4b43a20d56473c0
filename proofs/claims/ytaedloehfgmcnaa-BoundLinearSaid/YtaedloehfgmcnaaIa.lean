/- Contracts: what each function of the program computes, for the arguments that its theorem names; and from there the given statement. Conditions: those that each theorem states. -/
import Derived.Test.YtaedloehfgmcnaaHw
import Derived.Test.YtaedloehfgmcnaaHm
import Derived.Test.YtaedloehfgmcnaaHy
import Derived.Test.YtaedloehfgmcnaaFq
namespace Go.Proofs.Try
open Go.Psl
abbrev bytesD (l : List Int) : D := .sl 1 (l.map fun n => [.lit (.int .u8 n)])
theorem seg_ex {l : List (Int × Int × Int)} {x : Int} : ∀ (j : Nat) (k : Int × Int × Int), l[j + 1]? = some k → x ≤ k.1 → (∀ a, l[0]? = some a → a.1 ≤ x) → ∃ i a k, inSeg l i a k x
  | 0, k, hk, h, h0 => by
    obtain ⟨a, ha⟩ : ∃ a, l[0]? = some a := ⟨_, List.getElem?_eq_getElem (by have := (List.getElem?_eq_some_iff.1 hk).1; omega)⟩
    exact ⟨0, a, k, ha, hk, h0 a ha, h, Or.inl rfl⟩
  | j + 1, k, hk, h, h0 => by
    obtain ⟨a, ha⟩ : ∃ a, l[j + 1]? = some a := ⟨_, List.getElem?_eq_getElem (by have := (List.getElem?_eq_some_iff.1 hk).1; omega)⟩
    by_cases hx : a.1 < x
    · exact ⟨j + 1, a, k, ha, hk, by omega, h, Or.inr hx⟩
    · exact seg_ex j a ha (by omega) h0
/-- the number of a knot's values that a choice names -/
def useS (cs : List Int) (v : Int × Int) (j : Nat) : Int := match cs[j % cs.length]? with
  | some c => someS v (IntKind.wrap .i64 c)
  | none => v.1
theorem useS_in {cs : List Int} {v : Int × Int} (h : v.1 ≤ v.2) (j : Nat) : v.1 ≤ useS cs v j ∧ useS cs v j ≤ v.2 := by
  unfold useS
  split
  · exact someS_in h _
  · omega
theorem num_fit {u v w d : Int} (hu : -1073741824 ≤ u ∧ u ≤ 1073741824) (hv : -1073741824 ≤ v ∧ v ≤ 1073741824) (h0 : 0 ≤ d) (hd : d ≤ w) (hw : w ≤ 2147483648) : (-2305843009213693952 ≤ u * w ∧ u * w ≤ 2305843009213693952) ∧ (-4611686018427387904 ≤ d * (v - u) ∧ d * (v - u) ≤ 4611686018427387904) := by
  have h1 := mul_abs (M := 1073741824) (N := 2147483648) (x := u) (y := w) (by omega) (by omega)
  have h2 := mul_abs (M := 2147483648) (N := 2147483648) (x := d) (y := v - u) (by omega) (by omega)
  omega
set_option maxHeartbeats 4000000 in
set_option maxRecDepth 20000 in
theorem fn70 (l : List (Int × Int × Int)) (cs : List Int) (x : Int) (ht : tabS l = true) {i : Nat} {a k : Int × Int × Int} (h : inSeg l i a k x) : Ct prog 70 [.d (knotsD l), .d (bytesD cs), vi x] (.tup [vi (numL (useS cs a.2 i) (useS cs k.2 (i + 1)) (k.1 - a.1) (x - a.1)), vi (k.1 - a.1)]) [] := by
  refine Ct.by gok eok mixed func70 c70 rfl (by simp [ntmps70]) (by simp) (by simp [ResIds]) fun E hE => ?_
  have hlen := tab_len ht
  obtain ⟨ha, hk, b1, b2, b3⟩ := h
  have oa := okK_iff.1 (tab_okK ht ha)
  have ok := okK_iff.1 (tab_okK ht hk)
  have hi := (List.getElem?_eq_some_iff.1 hk).1
  simp [p70]
  refine pw_loop (α := Nat) (fun j => ⟨slots [(0, .d (knotsD l)), (1, .d (bytesD cs)), (2, vi x), (8, vi j)], lk [], 0⟩) (fun j => 1 ≤ j ∧ j ≤ i + 1) (fun j => i + 1 - j) 1 ?_ ?_ ?_
  · simp
  · refine Weak.mk hE (lk []) _ _ _ ?_ ?_ ?_ ?_ ?_ <;> simp
  · rintro j ⟨h1, h2⟩
    have hz : IntKind.wrap .i64 ((j : Int) + 1) = (j : Int) + 1 := wrap64 (by omega) (by omega)
    simp [p70l0]
    refine cR_split (fun h => ?_) (fun h => ?_)
    · by_cases hj : j = i + 1
      · have hkj : l[j]? = some k := by rw [hj]; exact hk
        have hx : ¬ k.1 < x := by omega
        have hm : IntKind.wrap .i64 ((j : Int) - 1) = (i : Int) := by rw [wrap64 (by omega) (by omega)]; omega
        have wd : IntKind.wrap .i64 (k.1 - a.1) = k.1 - a.1 := wrap64 (by omega) (by omega)
        have wx : IntKind.wrap .i64 (x - a.1) = x - a.1 := wrap64 (by omega) (by omega)
        have ua := useS_in (cs := cs) (v := a.2) (by omega) i
        have uk := useS_in (cs := cs) (v := k.2) (by omega) (i + 1)
        have nf := num_fit (u := useS cs a.2 i) (v := useS cs k.2 (i + 1)) (w := k.1 - a.1) (d := x - a.1) (by omega) (by omega) (by omega) (by omega) (by omega)
        by_cases hcs : cs = []
        · subst hcs
          have e1 : useS [] a.2 i = a.2.1 := rfl
          have e2 : useS [] k.2 (i + 1) = k.2.1 := rfl
          rw [e1, e2] at nf
          have w1 : IntKind.wrap .i64 (a.2.1 * (k.1 - a.1)) = a.2.1 * (k.1 - a.1) := wrap64 (by omega) (by omega)
          have w2 : IntKind.wrap .i64 (k.2.1 - a.2.1) = k.2.1 - a.2.1 := wrap64 (by omega) (by omega)
          have w3 : IntKind.wrap .i64 ((x - a.1) * (k.2.1 - a.2.1)) = (x - a.1) * (k.2.1 - a.2.1) := wrap64 (by omega) (by omega)
          have w4 : IntKind.wrap .i64 (a.2.1 * (k.1 - a.1) + (x - a.1) * (k.2.1 - a.2.1)) = a.2.1 * (k.1 - a.1) + (x - a.1) * (k.2.1 - a.2.1) := wrap64 (by omega) (by omega)
          simp [hkj, hx]
          refine pw_drawA [(11, 9), (12, 10)] (by kernel_rfl) ?_
          simp [hkj, ha, hm, inC, Nat.testBit, splice, wd, wx, w1, w2, w3, w4]
          refine RetOk.by (fun _ => none) ?_
          simp [results70, e1, e2, numL]
        · have hpos : 0 < cs.length := List.length_pos_iff.2 hcs
          have q1 : (0 : Int) ≤ (i : Int).tmod (cs.length : Int) := Int.natCast_nonneg (i % cs.length)
          have q2 : (0 : Int) ≤ (j : Int).tmod (cs.length : Int) := Int.natCast_nonneg (j % cs.length)
          have q3 : ((i : Int).tmod (cs.length : Int)).toNat = i % cs.length := rfl
          have q4 : ((j : Int).tmod (cs.length : Int)).toNat = j % cs.length := rfl
          obtain ⟨c1, hc1⟩ : ∃ c, cs[i % cs.length]? = some c := ⟨_, List.getElem?_eq_getElem (Nat.mod_lt _ hpos)⟩
          obtain ⟨c2, hc2⟩ : ∃ c, cs[j % cs.length]? = some c := ⟨_, List.getElem?_eq_getElem (Nat.mod_lt _ hpos)⟩
          have e1 : useS cs a.2 i = someS a.2 (IntKind.wrap .i64 c1) := by unfold useS; rw [hc1]
          have e2 : useS cs k.2 (i + 1) = someS k.2 (IntKind.wrap .i64 c2) := by unfold useS; rw [← hj, hc2]
          rw [e1, e2] at nf ⊢
          have d1 := fn59 a.2 (IntKind.wrap .i64 c1) (by omega)
          have d2 := fn59 k.2 (IntKind.wrap .i64 c2) (by omega)
          rw [e1] at ua
          rw [e2] at uk
          generalize someS a.2 (IntKind.wrap .i64 c1) = u at *
          generalize someS k.2 (IntKind.wrap .i64 c2) = v at *
          have w1 : IntKind.wrap .i64 (u * (k.1 - a.1)) = u * (k.1 - a.1) := wrap64 (by omega) (by omega)
          have w2 : IntKind.wrap .i64 (v - u) = v - u := wrap64 (by omega) (by omega)
          have w3 : IntKind.wrap .i64 ((x - a.1) * (v - u)) = (x - a.1) * (v - u) := wrap64 (by omega) (by omega)
          have w4 : IntKind.wrap .i64 (u * (k.1 - a.1) + (x - a.1) * (v - u)) = u * (k.1 - a.1) + (x - a.1) * (v - u) := wrap64 (by omega) (by omega)
          have hne : ¬ cs.length = 0 := by omega
          simp [hkj, hx]
          refine pw_drawA [(11, 9), (12, 10)] (by kernel_rfl) ?_
          simp [hkj, ha, hm, inC, Nat.testBit, splice, hpos, hne, q1, q3, hc1]
          repeat ((first | (refine ACall.mk _ _ _ (d1) ?_ ?_ ?_ ?_; (focus (simp; done)); (focus (simp; done)); (focus (first | (left; simp; done) | (right; simp; done)))) | (refine ACall.mk _ _ _ (d2) ?_ ?_ ?_ ?_; (focus (simp; done)); (focus (simp; done)); (focus (first | (left; simp; done) | (right; simp; done))))); simp [inC, Nat.testBit, q2, q4, hc2, hne, wd, wx, w1, w2, w3, w4])
          refine RetOk.by (fun _ => none) ?_
          simp [results70, numL]
      · obtain ⟨p, hp⟩ : ∃ p, l[j]? = some p := ⟨_, List.getElem?_eq_getElem (by omega)⟩
        have hpa : p.1 < x := by
          by_cases e : j = i
          · subst e; rw [ha] at hp; cases hp; omega
          · have := tab_mono ht hp ha (by omega); omega
        simp [hp, hpa, hz]
        refine ⟨j + 1, ⟨by omega, by omega⟩, by omega, ?_⟩
        refine Weak.mk hE (lk []) _ _ _ ?_ ?_ ?_ ?_ ?_ <;> simp
    · exfalso
      simp at h
      omega
end Go.Proofs.Try
namespace Go.Proofs.Try
open Go.Psl
theorem line_in {a k : Int × Int × Int} {x : Int} (hlt : a.1 < k.1) (h1 : a.1 ≤ x) (h2 : x ≤ k.1) : min a.2.1 k.2.1 ≤ (lineS a k x).1 ∧ (lineS a k x).2 ≤ max a.2.2 k.2.2 ∧ (lineS a k x).1 * (k.1 - a.1) ≤ upP a.2.1 k.2.1 (k.1 - a.1) (x - a.1) ∧ upP a.2.2 k.2.2 (k.1 - a.1) (x - a.1) ≤ (lineS a k x).2 * (k.1 - a.1) := by
  have key : ∀ m : Int, min 0 m ≤ (x - a.1) * m / (k.1 - a.1) := fun m => by
    rw [Int.le_ediv_iff_mul_le (by omega)]
    by_cases hm : 0 ≤ m
    · rw [show min 0 m = 0 by omega, Int.zero_mul]
      exact Int.mul_nonneg (by omega) hm
    · rw [show min 0 m = m by omega, Int.mul_comm (x - a.1)]
      exact Int.mul_le_mul_of_nonpos_left (by omega) (by omega)
  have d1 := Int.ediv_mul_le ((x - a.1) * (k.2.1 - a.2.1)) (show k.1 - a.1 ≠ 0 by omega)
  have d2 := Int.ediv_mul_le ((x - a.1) * (a.2.2 - k.2.2)) (show k.1 - a.1 ≠ 0 by omega)
  have k1 := key (k.2.1 - a.2.1)
  have k2 := key (a.2.2 - k.2.2)
  unfold lineS upP
  simp only
  generalize (x - a.1) * (k.2.1 - a.2.1) / (k.1 - a.1) = p at *
  generalize (x - a.1) * (a.2.2 - k.2.2) / (k.1 - a.1) = q at *
  refine ⟨by omega, by omega, ?_, ?_⟩
  · rw [Int.add_mul, Int.mul_comm (k.2.1 - a.2.1)]; omega
  · rw [Int.sub_mul a.2.2 q (k.1 - a.1)]
    have : (k.2.2 - a.2.2) * (x - a.1) = -((x - a.1) * (a.2.2 - k.2.2)) := by rw [Int.mul_comm, ← Int.mul_neg]; congr 1; omega
    omega
theorem line_zero {a k : Int × Int × Int} : lineS a k a.1 = a.2 := by
  unfold lineS; simp
theorem line_end {a k : Int × Int × Int} (hlt : a.1 < k.1) : lineS a k k.1 = k.2 := by
  unfold lineS
  have e1 : (k.1 - a.1) * (k.2.1 - a.2.1) / (k.1 - a.1) = k.2.1 - a.2.1 := Int.mul_ediv_cancel_left _ (by omega)
  have e2 : (k.1 - a.1) * (a.2.2 - k.2.2) / (k.1 - a.1) = a.2.2 - k.2.2 := Int.mul_ediv_cancel_left _ (by omega)
  rw [e1, e2]
  ext <;> simp only <;> omega
theorem seg_at {l : List (Int × Int × Int)} (ht : tabS l = true) {x : Int} (h0 : ∀ a, l[0]? = some a → a.1 ≤ x) (h1 : ∀ b, l[l.length - 1]? = some b → x ≤ b.1) : ∃ j a k, l[j]? = some a ∧ l[j + 1]? = some k ∧ a.1 ≤ x ∧ x ≤ k.1 ∧ atS l x = lineS a k x := by
  have hlen := tab_len ht
  have hle := cnt_le l x
  have hpos : 1 ≤ cntS l x := by
    by_cases h : cntS l x = 0
    · obtain ⟨a, ha⟩ : ∃ a, l[cntS l x]? = some a := ⟨_, List.getElem?_eq_getElem (by omega)⟩
      have := cnt_at l x a ha
      rw [h] at ha
      have := h0 a ha
      omega
    · omega
  obtain ⟨s, hs⟩ : ∃ s, s = segS l x := ⟨_, rfl⟩
  have hsv : s = min (cntS l x) (l.length - 1) - 1 := by rw [hs]; unfold segS; omega
  obtain ⟨a, ha⟩ : ∃ a, l[s]? = some a := ⟨_, List.getElem?_eq_getElem (by omega)⟩
  obtain ⟨k, hk⟩ : ∃ k, l[s + 1]? = some k := ⟨_, List.getElem?_eq_getElem (by omega)⟩
  refine ⟨s, a, k, ha, hk, cnt_in l x s a ha (by omega), ?_, ?_⟩
  · by_cases h : cntS l x ≤ l.length - 1
    · have e : s + 1 = cntS l x := by omega
      rw [e] at hk
      have := cnt_at l x k hk
      omega
    · have e : s + 1 = l.length - 1 := by omega
      rw [e] at hk
      exact h1 k hk
  · unfold atS
    rw [← hs, ha, hk]
section
variable {l : List (Int × Int × Int)} (ht : tabS l = true) {x : Int} (h0 : ∀ a, l[0]? = some a → a.1 ≤ x) (h1 : ∀ b, l[l.length - 1]? = some b → x ≤ b.1)
include ht h0 h1 in
/-- a value at x is between what two knots have -/
theorem at_between : ∃ a k, a ∈ l ∧ k ∈ l ∧ min a.2.1 k.2.1 ≤ (atS l x).1 ∧ (atS l x).2 ≤ max a.2.2 k.2.2 := by
  obtain ⟨j, a, k, ha, hk, b1, b2, e⟩ := seg_at ht h0 h1
  have hlt : a.1 < k.1 := tab_mono ht ha hk (by omega)
  have := line_in hlt b1 b2
  rw [← e] at this
  exact ⟨a, k, List.mem_of_getElem? ha, List.mem_of_getElem? hk, this.1, this.2.1⟩
include ht h0 h1 in
theorem at_num {i : Nat} {a k : Int × Int × Int} (h : inSeg l i a k x) {u v : Int} (hu : a.2.1 ≤ u ∧ u ≤ a.2.2) (hv : k.2.1 ≤ v ∧ v ≤ k.2.2) : (atS l x).1 * (k.1 - a.1) ≤ numL u v (k.1 - a.1) (x - a.1) ∧ numL u v (k.1 - a.1) (x - a.1) ≤ (atS l x).2 * (k.1 - a.1) := by
  obtain ⟨j, a', k', ha, hk, b1, b2, e⟩ := seg_at ht h0 h1
  have hlt : a.1 < k.1 := tab_mono ht h.1 h.2.1 (by omega)
  rcases seg_other ht h ha hk b1 b2 with ⟨_, rfl, rfl⟩ | ⟨rfl, rfl⟩
  · have n := num_in h hu hv
    have := line_in hlt b1 b2
    rw [e]
    omega
  · rw [e, line_zero, num_up, upP_end]
    exact ⟨Int.mul_le_mul_of_nonneg_right hv.1 (by omega), Int.mul_le_mul_of_nonneg_right hv.2 (by omega)⟩
include ht h0 h1 in
theorem at_order : (atS l x).1 ≤ (atS l x).2 ∧ -1073741824 ≤ (atS l x).1 ∧ (atS l x).2 ≤ 1073741824 := by
  obtain ⟨j, a, k, ha, hk, b1, b2, e⟩ := seg_at ht h0 h1
  have hlt : a.1 < k.1 := tab_mono ht ha hk (by omega)
  have := line_in hlt b1 b2
  rw [← e] at this
  have oa := okK_iff.1 (tab_okK ht ha)
  have ok := okK_iff.1 (tab_okK ht hk)
  have hm := upP_mono (f := a.2.1) (g := a.2.2) (t := k.2.1) (u := k.2.2) (w := k.1 - a.1) (d := x - a.1) (by omega) (by omega) (by omega) (by omega)
  exact ⟨Int.le_of_mul_le_mul_right (Int.le_trans this.2.2.1 (Int.le_trans hm this.2.2.2)) (by omega), by omega, by omega⟩
include ht h0 h1 in
theorem val_at (hx : -1073741824 ≤ x ∧ x ≤ 1073741824) : valS l (x, x) = (atS l x, 0) := by
  have hlen := tab_len ht
  obtain ⟨a, ha⟩ : ∃ a, l[0]? = some a := ⟨_, List.getElem?_eq_getElem (by omega)⟩
  obtain ⟨b, hb⟩ : ∃ b, l[l.length - 1]? = some b := ⟨_, List.getElem?_eq_getElem (by omega)⟩
  have ho : okS (x, x) = true := by rw [okS_iff]; simp only; omega
  have e0 := h0 a ha
  have e1 := h1 b hb
  have hacc : ∀ i, i ≤ l.length → accV l (x, x) i = atS l x := fun i => by
    induction i with
    | zero => intro _; unfold accV joinI; ext <;> simp
    | succ i ih =>
      intro hi
      obtain ⟨k, hk⟩ : ∃ k, l[i]? = some k := ⟨_, List.getElem?_eq_getElem (by omega)⟩
      rw [accV_succ hk, if_neg (by simp only; omega)]
      exact ih (by omega)
  unfold valS
  rw [if_pos ht, if_pos ho, ha, hb]
  simp only
  rw [if_neg (by omega), hacc _ (Nat.le_refl _)]
end
theorem at_first {l : List (Int × Int × Int)} (ht : tabS l = true) {a b : Int × Int × Int} (ha : l[0]? = some a) (hb : l[l.length - 1]? = some b) : atS l a.1 = a.2 ∧ atS l b.1 = b.2 := by
  have hlen := tab_len ht
  have hab : a.1 < b.1 := tab_mono ht ha hb (by omega)
  constructor
  · obtain ⟨j, c, k, hc, hk, b1, b2, e⟩ := seg_at ht (x := a.1) (fun z hz => by rw [ha] at hz; cases hz; omega) (fun z hz => by rw [hb] at hz; cases hz; omega)
    by_cases hj : j = 0
    · subst hj; rw [ha] at hc; cases hc; rw [e, line_zero]
    · have := tab_mono ht ha hc (by omega); omega
  · obtain ⟨j, c, k, hc, hk, b1, b2, e⟩ := seg_at ht (x := b.1) (fun z hz => by rw [ha] at hz; cases hz; omega) (fun z hz => by rw [hb] at hz; cases hz; omega)
    by_cases hj : j + 1 = l.length - 1
    · rw [hj] at hk; rw [hb] at hk; cases hk
      rw [e, line_end (tab_mono ht hc hb (by omega))]
    · have := tab_mono ht hk hb (by have := (List.getElem?_eq_some_iff.1 hk).1; omega); omega
theorem all_val {l : List (Int × Int × Int)} (ht : tabS l = true) {a b : Int × Int × Int} (ha : l[0]? = some a) (hb : l[l.length - 1]? = some b) : ∃ v, valS l (a.1, b.1) = (v, 0) ∧ ∀ k ∈ l, v.1 ≤ k.2.1 ∧ k.2.2 ≤ v.2 := by
  have hlen := tab_len ht
  have hab : a.1 < b.1 := tab_mono ht ha hb (by omega)
  have oa := okK_iff.1 (tab_okK ht ha)
  have ob := okK_iff.1 (tab_okK ht hb)
  obtain ⟨ea, eb⟩ := at_first ht ha hb
  have ho : okS (a.1, b.1) = true := by rw [okS_iff]; simp only; omega
  have hacc : ∀ i, i ≤ l.length → ((accV l (a.1, b.1) i).1 ≤ a.2.1 ∧ a.2.2 ≤ (accV l (a.1, b.1) i).2 ∧ (accV l (a.1, b.1) i).1 ≤ b.2.1 ∧ b.2.2 ≤ (accV l (a.1, b.1) i).2) ∧ ∀ j k, j < i → l[j]? = some k → (accV l (a.1, b.1) i).1 ≤ k.2.1 ∧ k.2.2 ≤ (accV l (a.1, b.1) i).2 := fun i => by
    induction i with
    | zero =>
      intro _
      refine ⟨?_, fun j k h => by omega⟩
      unfold accV
      simp only [List.take_zero, List.foldl_nil, ea, eb]
      unfold joinI
      simp only; omega
    | succ i ih =>
      intro hi
      obtain ⟨k, hk⟩ : ∃ k, l[i]? = some k := ⟨_, List.getElem?_eq_getElem (by omega)⟩
      obtain ⟨i1, i2⟩ := ih (by omega)
      rw [accV_succ hk]
      simp only
      split
      · generalize accV l (a.1, b.1) i = s at *
        unfold joinI
        refine ⟨by simp only; omega, fun j z hj hz => ?_⟩
        by_cases e : j = i
        · subst e; rw [hk] at hz; cases hz; simp only; omega
        · have := i2 j z (by omega) hz; simp only; omega
      · rename_i hn
        refine ⟨i1, fun j z hj hz => ?_⟩
        by_cases e : j = i
        · subst e; rw [hk] at hz; cases hz
          by_cases e0 : j = 0
          · subst e0; rw [ha] at hk; cases hk; exact ⟨i1.1, i1.2.1⟩
          · by_cases en : j = l.length - 1
            · subst en; rw [hb] at hk; cases hk; exact ⟨i1.2.2.1, i1.2.2.2⟩
            · have t1 := tab_mono ht ha hk (by omega)
              have t2 := tab_mono ht hk hb (by omega)
              exact absurd ⟨t1, t2⟩ hn
        · exact i2 j z (by omega) hz
  refine ⟨accV l (a.1, b.1) l.length, ?_, fun k hk => ?_⟩
  · unfold valS
    rw [if_pos ht, if_pos ho, ha, hb]
    simp only
    rw [if_neg (by omega)]
  · obtain ⟨j, hj⟩ := List.getElem?_of_mem hk
    exact (hacc _ (Nat.le_refl _)).2 j k (List.getElem?_eq_some_iff.1 hj).1 hj
end Go.Proofs.Try
namespace Go.Proofs.Try
open Go.Psl
set_option maxHeartbeats 4000000 in
set_option maxRecDepth 20000 in
theorem lin_may (x : Int) (out U : List (Int × Int)) (inn : Bool) (hl : out.length ≤ 1000) {E : Ent} (hE : ∀ i, ¬ E.stab i) {Q : AExit → St → Prop} : ∀ m : Nat, m ≤ out.length → PW prog tys eqs E p9l0 (seqQ (fun st' => ∃ n, n ≤ out.length ∧ out.length - n < out.length - m ∧ Weak prog E st' ⟨slots [(9, vb true), (10, vi x), (19, .d (spansD U)), (23, vb inn), (24, vb (hitB (out.take n) x)), (25, vb false), (193, .d (spansD out)), (194, vi out.length), (195, vi n)], lk [], 0⟩)
    (exC prog E Q 0 (fun _ : Unit => ⟨slots [(9, vb true), (10, vi x), (19, .d (spansD U)), (23, vb inn), (24, vb (hitB out x)), (25, vb false)], lk [], 0⟩) (fun _ => True)))
    ⟨slots [(9, vb true), (10, vi x), (19, .d (spansD U)), (23, vb inn), (24, vb (hitB (out.take m) x)), (25, vb false), (193, .d (spansD out)), (194, vi out.length), (195, vi m)], lk [], 0⟩ := by
  intro m hm
  simp [p9l0]
  refine cR_split (fun h => ?_) (fun h => ?_)
  · simp at h
    obtain ⟨p, hp⟩ : ∃ p, out[m]? = some p := ⟨_, List.getElem?_eq_getElem h⟩
    have hz : IntKind.wrap .i64 ((m : Int) + 1) = (m : Int) + 1 := wrap64 (by omega) (by omega)
    have ht := hitB_take (x := x) hp
    obtain ⟨B, hB⟩ : ∃ B, hitB (out.take m) x = B := ⟨_, rfl⟩
    rw [hB] at ht
    have d1 := fn71 p x
    rw [hB]
    cases B
    · simp [hp, splice]
      refine ACall.mk _ _ _ (d1) (by first | (simp; done) | simp [Bor_ls, Bor1_ls]) (by simp) (by first | (left; simp; done) | (right; simp; done)) ?_
      simp [hz]
      refine ⟨m + 1, by omega, by omega, ?_⟩
      rw [ht]
      refine Weak.mk hE (lk []) _ _ _ ?_ ?_ ?_ ?_ ?_ <;> simp
    · simp [hp, splice, hz]
      refine ⟨m + 1, by omega, by omega, ?_⟩
      rw [ht]
      refine Weak.mk hE (lk []) _ _ _ ?_ ?_ ?_ ?_ ?_ <;> simp
  · simp at h
    have e : out.take m = out := List.take_of_length_le h
    simp [e]
    refine Weak.mk hE (lk []) _ _ _ ?_ ?_ ?_ ?_ ?_ <;> simp
set_option maxHeartbeats 4000000 in
set_option maxRecDepth 20000 in
theorem lin_must (x : Int) (out : List (Int × Int)) (inn mm : Bool) (hl : out.length ≤ 1000) {E : Ent} (hE : ∀ i, ¬ E.stab i) {Q : AExit → St → Prop} : ∀ m : Nat, m ≤ out.length → PW prog tys eqs E p9l1 (seqQ (fun st' => ∃ n, n ≤ out.length ∧ out.length - n < out.length - m ∧ Weak prog E st' ⟨slots [(9, vb true), (10, vi x), (23, vb inn), (24, vb mm), (25, vb (hitB (out.take n) x)), (206, .d (spansD out)), (207, vi out.length), (208, vi n)], lk [], 0⟩)
    (exC prog E Q 2 (fun _ : Unit => ⟨slots [(9, vb true), (23, vb inn), (24, vb mm), (25, vb (hitB out x))], lk [], 0⟩) (fun _ => True)))
    ⟨slots [(9, vb true), (10, vi x), (23, vb inn), (24, vb mm), (25, vb (hitB (out.take m) x)), (206, .d (spansD out)), (207, vi out.length), (208, vi m)], lk [], 0⟩ := by
  intro m hm
  simp [p9l1]
  refine cR_split (fun h => ?_) (fun h => ?_)
  · simp at h
    obtain ⟨p, hp⟩ : ∃ p, out[m]? = some p := ⟨_, List.getElem?_eq_getElem h⟩
    have hz : IntKind.wrap .i64 ((m : Int) + 1) = (m : Int) + 1 := wrap64 (by omega) (by omega)
    have ht := hitB_take (x := x) hp
    obtain ⟨B, hB⟩ : ∃ B, hitB (out.take m) x = B := ⟨_, rfl⟩
    rw [hB] at ht
    have d1 := fn71 p x
    rw [hB]
    cases B
    · simp [hp, splice]
      refine ACall.mk _ _ _ (d1) (by first | (simp; done) | simp [Bor_ls, Bor1_ls]) (by simp) (by first | (left; simp; done) | (right; simp; done)) ?_
      simp [hz]
      refine ⟨m + 1, by omega, by omega, ?_⟩
      rw [ht]
      refine Weak.mk hE (lk []) _ _ _ ?_ ?_ ?_ ?_ ?_ <;> simp
    · simp [hp, splice, hz]
      refine ⟨m + 1, by omega, by omega, ?_⟩
      rw [ht]
      refine Weak.mk hE (lk []) _ _ _ ?_ ?_ ?_ ?_ ?_ <;> simp
  · simp at h
    have e : out.take m = out := List.take_of_length_le h
    simp [e]
    refine Weak.mk hE (lk []) _ _ _ ?_ ?_ ?_ ?_ ?_ <;> simp
end Go.Proofs.Try
namespace Go.Proofs.Try
open Go.Psl
set_option maxHeartbeats 8000000 in
set_option maxRecDepth 20000 in
theorem fn9 (hS : SortOk) (l : List (Int × Int × Int)) (cs : List Int) (y : Int × Int) (n : Int) : Ct prog 9 [.d (knotsD l), .d (bytesD cs), vsp y.1 y.2, vi n] (vb true) [] := by
  have c0 := fn58 hS
  refine Ct.by gok eok mixed func9 c9 rfl (by simp [ntmps9]) (by simp) (by simp [ResIds]) fun E hE => ?_
  by_cases h40 : 40 < l.length
  · have h40' : (40 : Int) < l.length := by omega
    simp [p9]
    repeat ((first | (refine ACall.mk _ _ _ (c0) ?_ ?_ ?_ ?_; (focus (simp; done)); (focus (simp; done)); (focus (first | (left; simp; done) | (right; simp; done))))); simp [h40'])
    refine RetOk.by (fun _ => none) ?_
    simp [results9]
  have h40' : ¬ (40 : Int) < l.length := by omega
  have c1 := fn27 l (by omega)
  have c2 := fn46 y
  by_cases ht : tabS l = true
  · by_cases hy : okS y = true
    · rw [if_pos ht] at c1
      rw [if_pos hy] at c2
      have hlen := tab_len ht
      obtain ⟨a, ha⟩ : ∃ a, l[0]? = some a := ⟨l[0], by simp⟩
      obtain ⟨e, he⟩ : ∃ e, e = l.length - 1 := ⟨_, rfl⟩
      obtain ⟨b, hb⟩ : ∃ b, l[e]? = some b := ⟨l[e], by simp [show e < l.length by omega]⟩
      have we : IntKind.wrap .i64 ((l.length : Int) - 1) = (e : Int) := by rw [wrap64 (by omega) (by omega)]; omega
      have hab : a.1 < b.1 := tab_mono ht ha hb (by omega)
      have oa := okK_iff.1 (tab_okK ht ha)
      have ob := okK_iff.1 (tab_okK ht hb)
      have iy := okS_iff.1 hy
      have hb' : l[l.length - 1]? = some b := by rw [← he]; exact hb
      have d1 := fn69 a.1 b.1
      have d2 := fn59 (a.1, b.1) n (by simp only; omega)
      have hx := someS_in (s := (a.1, b.1)) (by simp only; omega) n
      generalize someS (a.1, b.1) n = x at *
      simp only at hx
      have h0 : ∀ z, l[0]? = some z → z.1 ≤ x := fun z hz => by rw [ha] at hz; cases hz; omega
      have h1 : ∀ z, l[l.length - 1]? = some z → x ≤ z.1 := fun z hz => by rw [hb'] at hz; cases hz; omega
      obtain ⟨i, p, q, hs⟩ : ∃ i p q, inSeg l i p q x := seg_ex (e - 1) b (by rw [show e - 1 + 1 = e by omega]; exact hb) (by omega) h0
      have hpq : p.1 < q.1 := tab_mono ht hs.1 hs.2.1 (by omega)
      have op := okK_iff.1 (tab_okK ht hs.1)
      have oq := okK_iff.1 (tab_okK ht hs.2.1)
      have d3 := fn70 l cs x ht hs
      have hu := useS_in (cs := cs) (v := p.2) (by omega) i
      have hv := useS_in (cs := cs) (v := q.2) (by omega) (i + 1)
      have an := at_num ht h0 h1 hs hu hv
      have im := @in_may l ht i p q x hs _ _ hu hv y
      have mi := @must_in l ht i p q x hs _ _ hu hv y
      have mm := must_may (y := y) ht (x := x)
      have va := val_at ht h0 h1 (by omega)
      have vo := at_order ht h0 h1
      have nf := num_fit (u := useS cs p.2 i) (v := useS cs q.2 (i + 1)) (w := q.1 - p.1) (d := x - p.1) (by omega) (by omega) (by have := hs.2.2; omega) (by have := hs.2.2; omega) (by omega)
      generalize numL (useS cs p.2 i) (useS cs q.2 (i + 1)) (q.1 - p.1) (x - p.1) = num at *
      obtain ⟨w, hw⟩ : ∃ w, q.1 - p.1 = w := ⟨_, rfl⟩
      rw [hw] at d3 an im mi
      obtain ⟨s, hall, hk⟩ := all_val ht ha hb'
      obtain ⟨g, k, hg, hkk, bt1, bt2⟩ := at_between ht h0 h1
      have q1 := hk g hg
      have q2 := hk k hkk
      have d4 := fn69 x x
      have d5 := fn20 l (x, x) (by omega)
      have d6 := fn20 l (a.1, b.1) (by omega)
      rw [va] at d5
      rw [hall] at d6
      generalize atS l x = v at *
      have eM : mayS (pickM true) l y = (findS (pickM true) l y, 0) := by simp [mayS, ht, hy]
      have eU : mayS (pickM false) l y = (findS (pickM false) l y, 0) := by simp [mayS, ht, hy]
      have d7 := fn22d l y (by omega)
      have d8 := fn24d l y (by omega)
      have lM := mayS_len (pickM true) l y
      have lU := mayS_len (pickM false) l y
      rw [eM] at d7 lM
      rw [eU] at d8 lU
      generalize findS (pickM true) l y = M at *
      generalize findS (pickM false) l y = U at *
      simp only at lM lU
      have d9 := fn71 s v.1
      have d10 := fn71 s v.2
      rw [show inS s v.1 = true by unfold inS; simp only [Bool.and_eq_true, decide_eq_true_eq]; omega] at d9
      rw [show inS s v.2 = true by unfold inS; simp only [Bool.and_eq_true, decide_eq_true_eq]; omega] at d10
      have d11 := d4
      have pf := fun (r : Int) (hr : -1073741825 ≤ r ∧ r ≤ 1073741825) => mul_abs (M := 1073741825) (N := 2147483648) (x := r) (y := w) (by omega) (by omega)
      have p1 := pf v.1 (by omega)
      have p2 := pf v.2 (by omega)
      have n1 : ¬ v.2 < v.1 := by omega
      have w1 : IntKind.wrap .i64 (-v.1) = -v.1 := wrap64 (by omega) (by omega)
      have n2 : ¬ 1073741824 < max (-v.1) v.2 := by omega
      have w2 : IntKind.wrap .i64 (v.1 * w) = v.1 * w := wrap64 (by omega) (by omega)
      have w3 : IntKind.wrap .i64 (v.2 * w) = v.2 * w := wrap64 (by omega) (by omega)
      have n3 : ¬ num < v.1 * w := by omega
      have n4 : ¬ v.2 * w < num := by omega
      have ml : max y.1 (-1073741825) = lowP y := rfl
      have mh : min y.2 1073741825 = highP y := rfl
      have lb : -1073741825 ≤ lowP y := by unfold lowP; omega
      have ub : highP y ≤ 1073741825 := by unfold highP; omega
      simp [p9]
      repeat ((first | (refine ACall.mk _ _ _ (c0) ?_ ?_ ?_ ?_; (focus (simp; done)); (focus (simp; done)); (focus (first | (left; simp; done) | (right; simp; done)))) | (refine ACall.mk _ _ _ (c1) ?_ ?_ ?_ ?_; (focus (simp; done)); (focus (simp; done)); (focus (first | (left; simp; done) | (right; simp; done)))) | (refine ACall.mk _ _ _ (c2) ?_ ?_ ?_ ?_; (focus (simp; done)); (focus (simp; done)); (focus (first | (left; simp; done) | (right; simp; done)))) | (refine ACall.mk _ _ _ (d1) ?_ ?_ ?_ ?_; (focus (simp; done)); (focus (simp; done)); (focus (first | (left; simp; done) | (right; simp; done)))) | (refine ACall.mk _ _ _ (d2) ?_ ?_ ?_ ?_; (focus (simp; done)); (focus (simp; done)); (focus (first | (left; simp; done) | (right; simp; done)))) | (refine ACall.mk _ _ _ (d3) ?_ ?_ ?_ ?_; (focus (simp; done)); (focus (simp; done)); (focus (first | (left; simp; done) | (right; simp; done)))) | (refine ACall.mk _ _ _ (d4) ?_ ?_ ?_ ?_; (focus (simp; done)); (focus (simp; done)); (focus (first | (left; simp; done) | (right; simp; done)))) | (refine ACall.mk _ _ _ (d5) ?_ ?_ ?_ ?_; (focus (simp; done)); (focus (simp; done)); (focus (first | (left; simp; done) | (right; simp; done)))) | (refine ACall.mk _ _ _ (d6) ?_ ?_ ?_ ?_; (focus (simp; done)); (focus (simp; done)); (focus (first | (left; simp; done) | (right; simp; done)))) | (refine ACall.mk _ _ _ (d7) ?_ ?_ ?_ ?_; (focus (simp; done)); (focus (simp; done)); (focus (first | (left; simp; done) | (right; simp; done)))) | (refine ACall.mk _ _ _ (d8) ?_ ?_ ?_ ?_; (focus (simp; done)); (focus (simp; done)); (focus (first | (left; simp; done) | (right; simp; done)))) | (refine ACall.mk _ _ _ (d9) ?_ ?_ ?_ ?_; (focus (simp; done)); (focus (simp; done)); (focus (first | (left; simp; done) | (right; simp; done)))) | (refine ACall.mk _ _ _ (d10) ?_ ?_ ?_ ?_; (focus (simp; done)); (focus (simp; done)); (focus (first | (left; simp; done) | (right; simp; done))))); simp [h40', splice, ha, hb, we])
      refine pw_drawA [(18, 17)] (by kernel_rfl) ?_
      simp [ha, hb, we]
      repeat ((first | (refine ACall.mk _ _ _ (d1) ?_ ?_ ?_ ?_; (focus (simp; done)); (focus (simp; done)); (focus (first | (left; simp; done) | (right; simp; done)))) | (refine ACall.mk _ _ _ (d5) ?_ ?_ ?_ ?_; (focus (simp; done)); (focus (simp; done)); (focus (first | (left; simp; done) | (right; simp; done)))) | (refine ACall.mk _ _ _ (d6) ?_ ?_ ?_ ?_; (focus (simp; done)); (focus (simp; done)); (focus (first | (left; simp; done) | (right; simp; done)))) | (refine ACall.mk _ _ _ (d7) ?_ ?_ ?_ ?_; (focus (simp; done)); (focus (simp; done)); (focus (first | (left; simp; done) | (right; simp; done)))) | (refine ACall.mk _ _ _ (d8) ?_ ?_ ?_ ?_; (focus (simp; done)); (focus (simp; done)); (focus (first | (left; simp; done) | (right; simp; done)))) | (refine ACall.mk _ _ _ (d9) ?_ ?_ ?_ ?_; (focus (simp; done)); (focus (simp; done)); (focus (first | (left; simp; done) | (right; simp; done)))) | (refine ACall.mk _ _ _ (d10) ?_ ?_ ?_ ?_; (focus (simp; done)); (focus (simp; done)); (focus (first | (left; simp; done) | (right; simp; done))))); simp [splice, inC, Nat.testBit, n1, n2, n3, n4, w1, w2, w3, ml, mh])
      have no : ¬ isIn y num w → hitB U x = false := fun h => by
        rw [Bool.eq_false_iff]; intro h2; exact h (mi (hitB_iff.1 h2))
      by_cases g1 : lowP y ≤ 1073741825
      · have bl := pf (lowP y) (by omega)
        have wl : IntKind.wrap .i64 (lowP y * w) = lowP y * w := wrap64 (by omega) (by omega)
        by_cases g2 : -1073741825 ≤ highP y
        · have bh := pf (highP y) (by omega)
          have wh : IntKind.wrap .i64 (highP y * w) = highP y * w := wrap64 (by omega) (by omega)
          by_cases g3 : lowP y * w ≤ num
          · by_cases g4 : num ≤ highP y * w
            · have hM : hitB M x = true := hitB_iff.2 (im ⟨g1, g2, g3, g4⟩)
              obtain ⟨uu, hU⟩ : ∃ uu, hitB U x = uu := ⟨_, rfl⟩
              simp [g1, g2, g3, g4, wl, wh]
              refine pw_loopC (α := Nat) 0 (fun _ : Unit => ⟨slots [(9, vb true), (10, vi x), (19, .d (spansD U)), (23, vb true), (24, vb (hitB M x)), (25, vb false)], lk [], 0⟩) (fun _ => True) (fun m => ⟨slots [(9, vb true), (10, vi x), (19, .d (spansD U)), (23, vb true), (24, vb (hitB (M.take m) x)), (25, vb false), (193, .d (spansD M)), (194, vi M.length), (195, vi m)], lk [], 0⟩) (fun m => m ≤ M.length) (fun m => M.length - m) 0 ?_ ?_ ?_ fun _ _ => ?_
              · simp
              · refine Weak.mk hE (lk []) _ _ _ ?_ ?_ ?_ ?_ ?_ <;> simp [hitB]
              · exact lin_may x M U true (by omega) hE
              · simp
                refine pw_loopC (α := Nat) 2 (fun _ : Unit => ⟨slots [(9, vb true), (23, vb true), (24, vb (hitB M x)), (25, vb (hitB U x))], lk [], 0⟩) (fun _ => True) (fun m => ⟨slots [(9, vb true), (10, vi x), (23, vb true), (24, vb (hitB M x)), (25, vb (hitB (U.take m) x)), (206, .d (spansD U)), (207, vi U.length), (208, vi m)], lk [], 0⟩) (fun m => m ≤ U.length) (fun m => U.length - m) 0 ?_ ?_ ?_ fun _ _ => ?_
                · simp
                · refine Weak.mk hE (lk []) _ _ _ ?_ ?_ ?_ ?_ ?_ <;> simp [hitB]
                · exact lin_must x U true (hitB M x) (by omega) hE
                · rw [hM, hU]
                  cases uu
                  · simp
                    refine RetOk.by (fun _ => none) ?_
                    simp [results9]
                  · simp
                    refine RetOk.by (fun _ => none) ?_
                    simp [results9]
            · have hU := no (fun h => g4 h.2.2.2)
              obtain ⟨mv, hM⟩ : ∃ mv, hitB M x = mv := ⟨_, rfl⟩
              simp [g1, g2, g3, g4, wl, wh]
              refine pw_loopC (α := Nat) 0 (fun _ : Unit => ⟨slots [(9, vb true), (10, vi x), (19, .d (spansD U)), (23, vb false), (24, vb (hitB M x)), (25, vb false)], lk [], 0⟩) (fun _ => True) (fun m => ⟨slots [(9, vb true), (10, vi x), (19, .d (spansD U)), (23, vb false), (24, vb (hitB (M.take m) x)), (25, vb false), (193, .d (spansD M)), (194, vi M.length), (195, vi m)], lk [], 0⟩) (fun m => m ≤ M.length) (fun m => M.length - m) 0 ?_ ?_ ?_ fun _ _ => ?_
              · simp
              · refine Weak.mk hE (lk []) _ _ _ ?_ ?_ ?_ ?_ ?_ <;> simp [hitB]
              · exact lin_may x M U false (by omega) hE
              · simp
                refine pw_loopC (α := Nat) 2 (fun _ : Unit => ⟨slots [(9, vb true), (23, vb false), (24, vb (hitB M x)), (25, vb (hitB U x))], lk [], 0⟩) (fun _ => True) (fun m => ⟨slots [(9, vb true), (10, vi x), (23, vb false), (24, vb (hitB M x)), (25, vb (hitB (U.take m) x)), (206, .d (spansD U)), (207, vi U.length), (208, vi m)], lk [], 0⟩) (fun m => m ≤ U.length) (fun m => U.length - m) 0 ?_ ?_ ?_ fun _ _ => ?_
                · simp
                · refine Weak.mk hE (lk []) _ _ _ ?_ ?_ ?_ ?_ ?_ <;> simp [hitB]
                · exact lin_must x U false (hitB M x) (by omega) hE
                · rw [hM, hU]
                  cases mv
                  · simp
                    refine RetOk.by (fun _ => none) ?_
                    simp [results9]
                  · simp
                    refine RetOk.by (fun _ => none) ?_
                    simp [results9]
          · have hU := no (fun h => g3 h.2.2.1)
            obtain ⟨mv, hM⟩ : ∃ mv, hitB M x = mv := ⟨_, rfl⟩
            simp [g1, g2, g3, wl]
            refine pw_loopC (α := Nat) 0 (fun _ : Unit => ⟨slots [(9, vb true), (10, vi x), (19, .d (spansD U)), (23, vb false), (24, vb (hitB M x)), (25, vb false)], lk [], 0⟩) (fun _ => True) (fun m => ⟨slots [(9, vb true), (10, vi x), (19, .d (spansD U)), (23, vb false), (24, vb (hitB (M.take m) x)), (25, vb false), (193, .d (spansD M)), (194, vi M.length), (195, vi m)], lk [], 0⟩) (fun m => m ≤ M.length) (fun m => M.length - m) 0 ?_ ?_ ?_ fun _ _ => ?_
            · simp
            · refine Weak.mk hE (lk []) _ _ _ ?_ ?_ ?_ ?_ ?_ <;> simp [hitB]
            · exact lin_may x M U false (by omega) hE
            · simp
              refine pw_loopC (α := Nat) 2 (fun _ : Unit => ⟨slots [(9, vb true), (23, vb false), (24, vb (hitB M x)), (25, vb (hitB U x))], lk [], 0⟩) (fun _ => True) (fun m => ⟨slots [(9, vb true), (10, vi x), (23, vb false), (24, vb (hitB M x)), (25, vb (hitB (U.take m) x)), (206, .d (spansD U)), (207, vi U.length), (208, vi m)], lk [], 0⟩) (fun m => m ≤ U.length) (fun m => U.length - m) 0 ?_ ?_ ?_ fun _ _ => ?_
              · simp
              · refine Weak.mk hE (lk []) _ _ _ ?_ ?_ ?_ ?_ ?_ <;> simp [hitB]
              · exact lin_must x U false (hitB M x) (by omega) hE
              · rw [hM, hU]
                cases mv
                · simp
                  refine RetOk.by (fun _ => none) ?_
                  simp [results9]
                · simp
                  refine RetOk.by (fun _ => none) ?_
                  simp [results9]
        · have hU := no (fun h => g2 h.2.1)
          obtain ⟨mv, hM⟩ : ∃ mv, hitB M x = mv := ⟨_, rfl⟩
          simp [g1, g2]
          refine pw_loopC (α := Nat) 0 (fun _ : Unit => ⟨slots [(9, vb true), (10, vi x), (19, .d (spansD U)), (23, vb false), (24, vb (hitB M x)), (25, vb false)], lk [], 0⟩) (fun _ => True) (fun m => ⟨slots [(9, vb true), (10, vi x), (19, .d (spansD U)), (23, vb false), (24, vb (hitB (M.take m) x)), (25, vb false), (193, .d (spansD M)), (194, vi M.length), (195, vi m)], lk [], 0⟩) (fun m => m ≤ M.length) (fun m => M.length - m) 0 ?_ ?_ ?_ fun _ _ => ?_
          · simp
          · refine Weak.mk hE (lk []) _ _ _ ?_ ?_ ?_ ?_ ?_ <;> simp [hitB]
          · exact lin_may x M U false (by omega) hE
          · simp
            refine pw_loopC (α := Nat) 2 (fun _ : Unit => ⟨slots [(9, vb true), (23, vb false), (24, vb (hitB M x)), (25, vb (hitB U x))], lk [], 0⟩) (fun _ => True) (fun m => ⟨slots [(9, vb true), (10, vi x), (23, vb false), (24, vb (hitB M x)), (25, vb (hitB (U.take m) x)), (206, .d (spansD U)), (207, vi U.length), (208, vi m)], lk [], 0⟩) (fun m => m ≤ U.length) (fun m => U.length - m) 0 ?_ ?_ ?_ fun _ _ => ?_
            · simp
            · refine Weak.mk hE (lk []) _ _ _ ?_ ?_ ?_ ?_ ?_ <;> simp [hitB]
            · exact lin_must x U false (hitB M x) (by omega) hE
            · rw [hM, hU]
              cases mv
              · simp
                refine RetOk.by (fun _ => none) ?_
                simp [results9]
              · simp
                refine RetOk.by (fun _ => none) ?_
                simp [results9]
      · have hU := no (fun h => g1 h.1)
        obtain ⟨mv, hM⟩ : ∃ mv, hitB M x = mv := ⟨_, rfl⟩
        simp [g1]
        refine pw_loopC (α := Nat) 0 (fun _ : Unit => ⟨slots [(9, vb true), (10, vi x), (19, .d (spansD U)), (23, vb false), (24, vb (hitB M x)), (25, vb false)], lk [], 0⟩) (fun _ => True) (fun m => ⟨slots [(9, vb true), (10, vi x), (19, .d (spansD U)), (23, vb false), (24, vb (hitB (M.take m) x)), (25, vb false), (193, .d (spansD M)), (194, vi M.length), (195, vi m)], lk [], 0⟩) (fun m => m ≤ M.length) (fun m => M.length - m) 0 ?_ ?_ ?_ fun _ _ => ?_
        · simp
        · refine Weak.mk hE (lk []) _ _ _ ?_ ?_ ?_ ?_ ?_ <;> simp [hitB]
        · exact lin_may x M U false (by omega) hE
        · simp
          refine pw_loopC (α := Nat) 2 (fun _ : Unit => ⟨slots [(9, vb true), (23, vb false), (24, vb (hitB M x)), (25, vb (hitB U x))], lk [], 0⟩) (fun _ => True) (fun m => ⟨slots [(9, vb true), (10, vi x), (23, vb false), (24, vb (hitB M x)), (25, vb (hitB (U.take m) x)), (206, .d (spansD U)), (207, vi U.length), (208, vi m)], lk [], 0⟩) (fun m => m ≤ U.length) (fun m => U.length - m) 0 ?_ ?_ ?_ fun _ _ => ?_
          · simp
          · refine Weak.mk hE (lk []) _ _ _ ?_ ?_ ?_ ?_ ?_ <;> simp [hitB]
          · exact lin_must x U false (hitB M x) (by omega) hE
          · rw [hM, hU]
            cases mv
            · simp
              refine RetOk.by (fun _ => none) ?_
              simp [results9]
            · simp
              refine RetOk.by (fun _ => none) ?_
              simp [results9]
    · have hy : okS y = false := by simpa using hy
      rw [if_pos ht] at c1
      rw [hy] at c2
      simp [p9]
      repeat ((first | (refine ACall.mk _ _ _ (c0) ?_ ?_ ?_ ?_; (focus (simp; done)); (focus (simp; done)); (focus (first | (left; simp; done) | (right; simp; done)))) | (refine ACall.mk _ _ _ (c1) ?_ ?_ ?_ ?_; (focus (simp; done)); (focus (simp; done)); (focus (first | (left; simp; done) | (right; simp; done)))) | (refine ACall.mk _ _ _ (c2) ?_ ?_ ?_ ?_; (focus (simp; done)); (focus (simp; done)); (focus (first | (left; simp; done) | (right; simp; done))))); simp [h40'])
      refine RetOk.by (fun _ => none) ?_
      simp [results9]
  · rw [if_neg ht] at c1
    simp [p9]
    repeat ((first | (refine ACall.mk _ _ _ (c0) ?_ ?_ ?_ ?_; (focus (simp; done)); (focus (simp; done)); (focus (first | (left; simp; done) | (right; simp; done)))) | (refine ACall.mk _ _ _ (c1) ?_ ?_ ?_ ?_; (focus (simp; done)); (focus (simp; done)); (focus (first | (left; simp; done) | (right; simp; done))))); simp [h40'])
    refine RetOk.by (fun _ => none) ?_
    simp [results9]
end Go.Proofs.Try
