/- Own lemmas and contracts of functions, used by the last text of this claim for the given statement. Conditions: those that each theorem states. -/
import Derived.Test.YtaedloehfgmcnaaSk
import Derived.Test.YtaedloehfgmcnaaSj
import Derived.Test.YtaedloehfgmcnaaSg
import Derived.Shelf.SlSortCmp.NoneTotal
import Derived.Test.YtaedloehfgmcnaaProg
namespace Go.Proofs.Try
open Go.Psl
open Go.Stb
open Go.Geo (Sup Dirs way sds bf le2 InR hullS)
theorem half_yes {p : Int × Int} (h : Go.Geo.pos p) : halfS p = 0 := if_pos h
theorem half_no {p : Int × Int} (h : ¬ Go.Geo.pos p) : halfS p = 1 := if_neg h
theorem sumB_bf (a b : Int × Int) : sumB a b = decide (bf a b) := by
  unfold sumB sumcS
  have e : turnS a b = Go.Geo.xp a b := rfl
  have k : ∀ x : Int, orI [0, x] = x := fun x => by simp [orI]; exact fun h => h.symm
  rw [e]
  by_cases pa : Go.Geo.pos a <;> by_cases pb : Go.Geo.pos b
  · rw [half_yes pa, half_yes pb, show cmpI 0 0 = 0 from rfl, k]
    simp only [bf, pa, pb, not_true, and_false, false_or, iff_self, true_and]
    unfold cmpI
    split
    · simp [*]
    · split <;> simp [*]
  · rw [half_yes pa, half_no pb, show cmpI 0 1 = -1 from rfl]
    have : orI [-1, cmpI 0 (Go.Geo.xp a b)] = -1 := by simp [orI]
    rw [this]
    simp [bf, pa, pb]
  · rw [half_no pa, half_yes pb, show cmpI 1 0 = 1 from rfl]
    have : orI [1, cmpI 0 (Go.Geo.xp a b)] = 1 := by simp [orI]
    rw [this]
    simp [bf, pa, pb]
  · rw [half_no pa, half_no pb, show cmpI 1 1 = 0 from rfl, k]
    simp only [bf, pa, pb, false_or, iff_self, true_and, false_and]
    unfold cmpI
    split
    · simp [*]
    · split <;> simp [*]
theorem sum_ord : Ord sumB (fun e => e ≠ (0, 0)) (fun x y => (x ≠ (0, 0) ∧ y ≠ (0, 0)) ∧ le2 x y) where
  tr := fun x y z h1 h2 => ⟨⟨h1.1.1, h2.1.2⟩, Go.Geo.le2_trans h1.1.1 h1.1.2 h2.1.2 h1.2 h2.2⟩
  yes := fun x y hx hy h => by
    rw [sumB_bf, decide_eq_true_eq] at h
    refine ⟨⟨hy, hx⟩, fun h2 => ?_⟩
    rcases h with ⟨p1, p2⟩ | ⟨p1, p2⟩
    · rcases h2 with ⟨q1, q2⟩ | ⟨q1, q2⟩
      · exact q2 p1
      · exact p2 (q1.2 p1)
    · rcases h2 with ⟨q1, q2⟩ | ⟨q1, q2⟩
      · exact q2 (p1.2 q1)
      · rw [Go.Geo.xp_neg] at q2; omega
  no := fun x y hx hy h => by
    rw [sumB_bf, decide_eq_false_iff_not] at h
    exact ⟨⟨hx, hy⟩, h⟩
theorem pts_way : ∀ (es : List (Int × Int)) (p : Int × Int), ptsS p es = way p es
  | [], _ => rfl
  | e :: r, p => by
    show p :: ptsS (addC p e) r = p :: way (Go.Geo.ad p e) r
    rw [pts_way r]; rfl
def pairS (s : Int) (a b : List (Int × Int)) : List (Int × Int) := a.flatMap fun p => b.map fun q => (p.1 + s * q.1, p.2 + s * q.2)
theorem mem_pair {s : Int} {a b : List (Int × Int)} {x : Int × Int} : x ∈ pairS s a b ↔ ∃ p ∈ a, ∃ q ∈ b, x = (p.1 + s * q.1, p.2 + s * q.2) := by
  unfold pairS
  simp only [List.mem_flatMap, List.mem_map]
  constructor
  · rintro ⟨p, hp, q, hq, rfl⟩; exact ⟨p, hp, q, hq, rfl⟩
  · rintro ⟨p, hp, q, hq, rfl⟩; exact ⟨p, hp, q, hq, rfl⟩
theorem hullP_same {l m : List (Int × Int)} (hl : l ≠ []) (hm : m ≠ []) (h1 : Sup l m) (h2 : Sup m l) : hullP l = hullP m := by
  have hz : ∀ {l : List (Int × Int)}, l ≠ [] → ddC (sortC l) ≠ [] := fun {l} h e => by
    obtain ⟨x, t, rfl⟩ := List.exists_cons_of_ne_nil h
    have : x ∈ ddC (sortC (x :: t)) := by rw [ddC_mem, sortC_mem]; simp
    rw [e] at this; simp at this
  have hs : ∀ {l m : List (Int × Int)}, Sup l m → Sup (ddC (sortC l)) (ddC (sortC m)) := fun {l m} h d M hM v hv => by
    rw [ddC_mem, sortC_mem] at hv
    exact h d M (fun v hv => hM v (by rw [ddC_mem, sortC_mem]; exact hv)) v hv
  unfold hullP
  refine Go.Geo.hull_same (sorted_dd l) (sorted_dd m) (sorted_dd (l ++ m)) (fun x => ?_) (hz hl) (hz hm) (hs h1) (hs h2)
  rw [ddC_mem, sortC_mem, ddC_mem, sortC_mem, ddC_mem, sortC_mem, List.mem_append]
theorem sumE_ok {a b : List (Int × Int)} (ha : regS a = true) (hb : regS b = true) : (sumE a b).Perm (sds a ++ sds b) ∧ (sumE a b).Pairwise le2 := by
  have h1 := Go.Geo.sds_dirs (sorted_dd a)
  have h2 := Go.Geo.sds_dirs (sorted_dd b)
  rw [← (reg_hull ha).1] at h1
  rw [← (reg_hull hb).1] at h2
  obtain ⟨p, q⟩ := stb_ok sum_ord (D := sidS a ++ sidS b) fun x hx => by
    rcases List.mem_append.1 hx with h | h
    · exact h1.1 x h
    · exact h2.1 x h
  exact ⟨p, q.imp fun h => h.2⟩
theorem sumL_dot {a b : List (Int × Int)} (ha : regS a = true) (hb : regS b = true) (d : Int × Int) : (∀ q ∈ sumL a b, ∃ v ∈ a, ∃ w ∈ b, Go.Geo.dot d q ≤ Go.Geo.dot d (addC v w)) ∧ ∀ v ∈ a, ∀ w ∈ b, ∃ q ∈ sumL a b, Go.Geo.dot d (addC v w) ≤ Go.Geo.dot d q := by
  obtain ⟨p, q⟩ := sumE_ok ha hb
  obtain ⟨eA, na⟩ := reg_hull ha
  obtain ⟨eB, nb⟩ := reg_hull hb
  obtain ⟨x, ta, xa⟩ := List.exists_cons_of_ne_nil na
  obtain ⟨y, tb, xb⟩ := List.exists_cons_of_ne_nil nb
  have h := Go.Geo.sum_mx (sorted_dd a) (sorted_dd b) eA eB (a := x) (b := y) (by rw [xa]; rfl) (by rw [xb]; rfl) p q d
  have e : sumL a b = way (Go.Geo.ad x y) (sumE a b) := by
    rw [← pts_way]; rw [xa, xb]; rfl
  rw [e]; exact h
theorem sumL_bd {a b : List (Int × Int)} (ha : regS a = true) (hb : regS b = true) : ∀ q ∈ sumL a b, bd 536870912 q := fun q hq => by
  have ba := regS_bd ha
  have bb := regS_bd hb
  have key : ∀ d : Int × Int, (∀ v ∈ a, Go.Geo.dot d v ≤ 268435456) → (∀ w ∈ b, Go.Geo.dot d w ≤ 268435456) → Go.Geo.dot d q ≤ 536870912 := fun d h1 h2 => by
    obtain ⟨v, hv, w, hw, h⟩ := (sumL_dot ha hb d).1 q hq
    have := h1 v hv
    have := h2 w hw
    have e : Go.Geo.dot d (addC v w) = Go.Geo.dot d v + Go.Geo.dot d w := Go.Geo.dot_ad d v w
    omega
  have e1 := key (1, 0) (fun v hv => by have := ba v hv; unfold bd at this; unfold Go.Geo.dot; simp only; omega) (fun v hv => by have := bb v hv; unfold bd at this; unfold Go.Geo.dot; simp only; omega)
  have e2 := key (-1, 0) (fun v hv => by have := ba v hv; unfold bd at this; unfold Go.Geo.dot; simp only; omega) (fun v hv => by have := bb v hv; unfold bd at this; unfold Go.Geo.dot; simp only; omega)
  have e3 := key (0, 1) (fun v hv => by have := ba v hv; unfold bd at this; unfold Go.Geo.dot; simp only; omega) (fun v hv => by have := bb v hv; unfold bd at this; unfold Go.Geo.dot; simp only; omega)
  have e4 := key (0, -1) (fun v hv => by have := ba v hv; unfold bd at this; unfold Go.Geo.dot; simp only; omega) (fun v hv => by have := bb v hv; unfold bd at this; unfold Go.Geo.dot; simp only; omega)
  unfold Go.Geo.dot at e1 e2 e3 e4
  simp only at e1 e2 e3 e4
  unfold bd; omega
theorem addC_pair (v w : Int × Int) : (v.1 + 1 * w.1, v.2 + 1 * w.2) = addC v w := by unfold addC; simp
theorem pair_ne {s : Int} {a b : List (Int × Int)} (na : a ≠ []) (nb : b ≠ []) : pairS s a b ≠ [] := by
  obtain ⟨x, ta, rfl⟩ := List.exists_cons_of_ne_nil na
  obtain ⟨y, tb, rfl⟩ := List.exists_cons_of_ne_nil nb
  intro e
  have : (x.1 + s * y.1, x.2 + s * y.2) ∈ pairS s (x :: ta) (y :: tb) := mem_pair.2 ⟨x, by simp, y, by simp, rfl⟩
  rw [e] at this; simp at this
theorem sumL_ne {a b : List (Int × Int)} (na : a ≠ []) (nb : b ≠ []) : sumL a b ≠ [] := by
  obtain ⟨x, ta, rfl⟩ := List.exists_cons_of_ne_nil na
  obtain ⟨y, tb, rfl⟩ := List.exists_cons_of_ne_nil nb
  intro e
  have := congrArg List.length e
  rw [sumL, pts_len] at this
  simp at this
theorem sum_hull {a b : List (Int × Int)} (ha : regS a = true) (hb : regS b = true) : hullP (sumL a b) = hullP (pairS 1 a b) := by
  have na := (reg_hull ha).2
  have nb := (reg_hull hb).2
  refine hullP_same (sumL_ne na nb) (pair_ne na nb) (fun d M hM q hq => ?_) (fun d M hM q hq => ?_)
  · obtain ⟨v, hv, w, hw, h⟩ := (sumL_dot ha hb d).1 q hq
    have := hM (addC v w) (mem_pair.2 ⟨v, hv, w, hw, (addC_pair v w).symm⟩)
    omega
  · obtain ⟨v, hv, w, hw, rfl⟩ := mem_pair.1 hq
    rw [addC_pair]
    obtain ⟨q, hq, h⟩ := (sumL_dot ha hb d).2 v hv w hw
    have := hM q hq
    omega
end Go.Proofs.Try
namespace Go.Proofs.Try
open Go.Psl
open Go.Stb
open Go.Geo (Parted)
theorem fz_ret2z {P : Program} {f : FuncId} {args : List V} {out z : List (Int × Int)} {e : Int} (h : Ct P f args (.tup [hdrV out 0, vi e]) (outZ out z 0)) : Ct P f args (.tup [.d (spansD out), vi e]) [] :=
  Cm.freeze h ⟨fz_outZ out z, Or.inl rfl, trivial⟩
end Go.Proofs.Try
namespace Go.Proofs.Try
open Go.Psl
def segA : List (Int × Int) := [(0, 0), (2, 1)]
def segB : List (Int × Int) := [(0, 0), (0, 3)]
def sumAB : List (Int × Int) := [(0, 0), (2, 1), (2, 4), (0, 3)]
theorem hull_segA : hullP segA = segA := by
  rw [hullP_eq (m := segA) (by decide +kernel) (by decide +kernel)]
  decide +kernel
theorem hull_segB : hullP segB = segB := by
  rw [hullP_eq (m := segB) (by decide +kernel) (by decide +kernel)]
  decide +kernel
theorem hull_sumAB : hullP (pairS 1 segA segB) = sumAB := by
  rw [hullP_eq (m := [(0, 0), (0, 3), (2, 1), (2, 4)]) (by decide +kernel) (by decide +kernel)]
  decide +kernel
theorem reg_segA : regS segA = true := by
  unfold regS; rw [hull_segA]; decide +kernel
theorem reg_segB : regS segB = true := by
  unfold regS; rw [hull_segB]; decide +kernel
theorem reg_pt (p : Int × Int) (h : okC p = true) : regS [p] = true := by
  unfold regS
  rw [hullP_eq (m := [p]) (List.Perm.refl _) (List.pairwise_singleton _ _)]
  have e : Go.Geo.hullS (ddC [p]) = [p] := by simp [ddC, ddStep, Go.Geo.hullS]
  rw [e]
  simp [nearC, h]
theorem ex_sumE : sumErr segA segB = 0 := by
  unfold sumErr
  rw [reg_segA, reg_segB, sum_hull reg_segA reg_segB, hull_sumAB]
  decide +kernel
theorem ex_sumO : sumOut segA segB = sumAB := by unfold sumOut; rw [ex_sumE, sum_hull reg_segA reg_segB, hull_sumAB]; rfl
theorem ex_bent : regS [(4, 0), (4, 4), (0, 4), (0, 0)] = false := by
  unfold regS
  rw [hullP_eq (m := [(0, 0), (0, 4), (4, 0), (4, 4)]) (by decide +kernel) (by decide +kernel)]
  decide +kernel
theorem ex_in : inV squareL (2, 4) = true := by unfold inV; rw [reg_square]; decide +kernel
theorem ex_out : inV squareL (5, 2) = false := by unfold inV; rw [reg_square]; decide +kernel
theorem ex_regE : regE squareL = 0 := by unfold regE; rw [reg_square]; rfl
theorem ex_prE (dx dy : Int) (h : strS dx dy = true) : prtE squareL [(5, 2)] dx dy = 0 := by unfold prtE; rw [reg_square, reg_pt (5, 2) (by decide), h]; rfl
theorem ex_yes : prtV squareL [(5, 2)] 1 0 = true := by unfold prtV; rw [ex_prE _ _ (by decide)]; decide +kernel
theorem ex_no : prtV squareL [(5, 2)] 0 1 = false := by unfold prtV; rw [ex_prE _ _ (by decide)]; decide +kernel
theorem ex_apart : apartS squareL [(4, 2)] = (0, 0, 6) := by
  have : findP squareL [(4, 2)] (candS squareL [(4, 2)]) = none := by decide +kernel
  unfold apartS
  rw [reg_square, reg_pt (4, 2) (by decide), this]; rfl
theorem ex_reach : reachE squareL 1073741825 0 = 2 := by unfold reachE; rw [reg_square]; decide +kernel
theorem bor_hill1 {H : Hp} {id : Nat} (h : H id = some [vi 0, vi 0, vi 2, vi 10, vi 20, vi 25, vi 20, vi 5, vi 5]) : Bor H (.ls id 0 1 3) (.d (knotsD [(0, 0, 2)])) := by
  rw [Bor_ls]
  exact ⟨rfl, rfl, by simp, _, h, rfl⟩
end Go.Proofs.Try
namespace Go.Proofs.Try
open Go.Psl
theorem bor_p52 {H : Hp} {id : Nat} (h : H id = some [vi 5, vi 2]) : Bor H (.ls id 0 1 2) (.d (spansD [(5, 2)])) := bor_pairs [(5, 2)] h rfl
theorem bor_p42 {H : Hp} {id : Nat} (h : H id = some [vi 4, vi 2]) : Bor H (.ls id 0 1 2) (.d (spansD [(4, 2)])) := bor_pairs [(4, 2)] h rfl
theorem bor_segA {H : Hp} {id : Nat} (h : H id = some [vi 0, vi 0, vi 2, vi 1]) : Bor H (.ls id 0 2 2) (.d (spansD segA)) := bor_pairs segA h rfl
theorem bor_segB {H : Hp} {id : Nat} (h : H id = some [vi 0, vi 0, vi 0, vi 3]) : Bor H (.ls id 0 2 2) (.d (spansD segB)) := bor_pairs segB h rfl
theorem bor_sumAB {H : Hp} {id : Nat} (h : H id = some [vi 0, vi 0, vi 2, vi 1, vi 2, vi 4, vi 0, vi 3]) : Bor H (.ls id 0 4 2) (.d (spansD sumAB)) := bor_pairs sumAB h rfl
theorem bor_bent {H : Hp} {id : Nat} (h : H id = some [vi 4, vi 0, vi 4, vi 4, vi 0, vi 4, vi 0, vi 0]) : Bor H (.ls id 0 4 2) (.d (spansD [(4, 0), (4, 4), (0, 4), (0, 0)])) := bor_pairs [(4, 0), (4, 4), (0, 4), (0, 0)] h rfl
theorem bor_1010 {H : Hp} {id : Nat} (h : H id = some [vi 10, vi 10]) : Bor H (.ls id 0 1 2) (.d (spansD [(10, 10)])) := bor_pairs [(10, 10)] h rfl
theorem bor_2020 {H : Hp} {id : Nat} (h : H id = some [vi 20, vi 20]) : Bor H (.ls id 0 1 2) (.d (spansD [(20, 20)])) := bor_pairs [(20, 20)] h rfl
theorem bor_22 {H : Hp} {id : Nat} (h : H id = some [vi 2, vi 2, vi 20, vi 20]) : Bor H (.ls id 0 2 2) (.d (spansD [(2, 2), (20, 20)])) := bor_pairs [(2, 2), (20, 20)] h rfl
theorem bor_sumz {H : Hp} {id : Nat} {z : List (Int × Int)} (h : H id = some (List.map V.d (spD (sumAB ++ z)))) : Bor H (.ls id 0 4 2) (.d (spansD sumAB)) := bor_cut (l := sumAB) h
theorem hull_frozen (hS : SortOk) (l : List (Int × Int)) (hl : l.length ≤ 1000000000) : Ct prog 49 [.d (spansD l)] (.tup [.d (spansD (hullO l)), vi (hullE l)]) [] := by
  obtain ⟨z, h⟩ := fn49 hS l hl
  exact fz_ret2z h
set_option maxHeartbeats 16000000 in
set_option maxRecDepth 20000 in
theorem fn19 (hS : SortOk) : Ct prog 19 [] (vb true) [] := by
  have sp := fn69
  have k0 := fn58 hS
  have a1 := fn30 (-7, -7) (1, 1) (2, 2)
  have a2 := fn32 (2, 9)
  have a3 := fn40 (0, 4) (3, 9)
  have a4 := fn40 (0, 2) (3, 9)
  have a5 := fn42 (0, 2) (3, 9)
  have b1 := fn20 hillL (3, 3) (by decide)
  have b2 := fn24p hillL (20, 30) (by decide)
  have b3 := fn22p hillL (5, 5) (by decide)
  have b4 := fn24p hillL (5, 5) (by decide)
  have b5 := fn20 hillL (0, 21) (by decide)
  have b6 := fn28 [(10, 10)] [(10, 10)] (by decide) (by decide)
  have b7 := fn28 [(2, 2), (20, 20)] [(2, 2), (20, 20)] (by decide) (by decide)
  have b8 := fn28 [(20, 20)] [(20, 20)] (by decide) (by decide)
  have c1 := fn51 hS squareL (2, 4) (by decide)
  have c2 := fn51 hS squareL (5, 2) (by decide)
  obtain ⟨z, c3⟩ := fn62 hS segA segB (by decide) (by decide) (fun h1 h2 => sumL_bd h1 h2)
  have c4 := fn64 hS squareL [(5, 2)] 1 0 (by decide) (by decide)
  have c5 := fn64 hS squareL [(5, 2)] 0 1 (by decide) (by decide)
  have c6 := fn66 hS squareL [(4, 2)] (by decide) (by decide)
  have c7 := fn57 sumAB sumAB (by decide) (by decide)
  have d1 := fn30 (1, 2) (1, 2) (0, 2)
  have d2 := fn38 (0, 549755813888) (0, 3)
  have d3 := fn32 (-1, 4)
  have d4 := hull_frozen hS [] (by decide)
  have d5 := fn60 hS squareL 1073741825 0 (by decide)
  have d6 := fn46 (1, 0)
  have d7 := fn26 [(0, 0, 2)] (by decide)
  have d8 := fn55 hS [] (by decide)
  have d9 := fn55 hS [(4, 0), (4, 4), (0, 4), (0, 0)] (by decide)
  rw [show overS (-7, -7) (1, 1) (2, 2) = ((-4, -3), 0) by decide +kernel] at a1
  rw [show rootS (2, 9) = ((1, 3), 0) by decide +kernel] at a2
  rw [show meetS (0, 4) (3, 9) = ((3, 4), 0) by decide +kernel] at a3
  rw [show meetS (0, 2) (3, 9) = ((0, 0), 6) by decide +kernel] at a4
  rw [show joinS (0, 2) (3, 9) = ((0, 9), 0) by decide +kernel] at a5
  rw [show valS hillL (3, 3) = ((6, 9), 0) by decide +kernel] at b1
  rw [show mayS (pickM false) hillL (20, 30) = ([(10, 10)], 0) by decide +kernel] at b2
  rw [show mayS (pickM true) hillL (5, 5) = ([(2, 2), (20, 20)], 0) by decide +kernel] at b3
  rw [show mayS (pickM false) hillL (5, 5) = ([(20, 20)], 0) by decide +kernel] at b4
  rw [show valS hillL (0, 21) = ((0, 0), 2) by decide +kernel] at b5
  rw [ex_in, ex_regE] at c1
  rw [ex_out, ex_regE] at c2
  rw [ex_sumO, ex_sumE, hdrV_ne (by decide), outZ_ne (by decide), show sumAB.length = 4 from rfl] at c3
  rw [ex_yes, ex_prE _ _ (by decide)] at c4
  rw [ex_no, ex_prE _ _ (by decide)] at c5
  rw [ex_apart] at c6
  rw [show overS (1, 2) (1, 2) (0, 2) = ((0, 0), 12) by decide +kernel] at d1
  rw [show mulS (0, 549755813888) (0, 3) = ((0, 0), 11) by decide +kernel] at d2
  rw [show rootS (-1, 4) = ((0, 0), 2) by decide +kernel] at d3
  rw [show hullE [] = 2 by decide +kernel, show hullO [] = [] by decide +kernel] at d4
  rw [show reachV squareL 1073741825 0 = 0 by unfold reachV; rw [ex_reach]; decide, ex_reach] at d5
  rw [show okS (1, 0) = false by decide +kernel] at d6
  rw [show tabS [(0, 0, 2)] = false by decide +kernel] at d7
  rw [show regS [] = false by decide +kernel] at d8
  rw [ex_bent] at d9
  rw [hdrV_ne (by decide), outB_ne (by decide), show cellsI [(2, 2), (20, 20)] = [vi 2, vi 2, vi 20, vi 20] from rfl] at b3
  simp at b2 b3 b4 b6 b7 b8
  refine Ct.by gok eok mixed func19 c19 rfl (by simp [ntmps19]) (by simp) (by simp [ResIds]) fun E hE => ?_
  simp [p19]
  repeat ((first | (refine ACall.mk _ _ _ (sp (-7) (-7)) ?_ ?_ ?_ ?_; (focus (simp; done)); (focus (simp; done)); (focus (first | (left; simp; done) | (right; simp; done)))) | (refine ACall.mk _ _ _ (sp (1) (1)) ?_ ?_ ?_ ?_; (focus (simp; done)); (focus (simp; done)); (focus (first | (left; simp; done) | (right; simp; done)))) | (refine ACall.mk _ _ _ (sp (2) (2)) ?_ ?_ ?_ ?_; (focus (simp; done)); (focus (simp; done)); (focus (first | (left; simp; done) | (right; simp; done)))) | (refine ACall.mk _ _ _ (sp (2) (9)) ?_ ?_ ?_ ?_; (focus (simp; done)); (focus (simp; done)); (focus (first | (left; simp; done) | (right; simp; done)))) | (refine ACall.mk _ _ _ (sp (0) (4)) ?_ ?_ ?_ ?_; (focus (simp; done)); (focus (simp; done)); (focus (first | (left; simp; done) | (right; simp; done)))) | (refine ACall.mk _ _ _ (sp (3) (9)) ?_ ?_ ?_ ?_; (focus (simp; done)); (focus (simp; done)); (focus (first | (left; simp; done) | (right; simp; done)))) | (refine ACall.mk _ _ _ (sp (0) (2)) ?_ ?_ ?_ ?_; (focus (simp; done)); (focus (simp; done)); (focus (first | (left; simp; done) | (right; simp; done)))) | (refine ACall.mk _ _ _ (sp (-4) (-3)) ?_ ?_ ?_ ?_; (focus (simp; done)); (focus (simp; done)); (focus (first | (left; simp; done) | (right; simp; done)))) | (refine ACall.mk _ _ _ (sp (1) (3)) ?_ ?_ ?_ ?_; (focus (simp; done)); (focus (simp; done)); (focus (first | (left; simp; done) | (right; simp; done)))) | (refine ACall.mk _ _ _ (sp (3) (4)) ?_ ?_ ?_ ?_; (focus (simp; done)); (focus (simp; done)); (focus (first | (left; simp; done) | (right; simp; done)))) | (refine ACall.mk _ _ _ (sp (0) (9)) ?_ ?_ ?_ ?_; (focus (simp; done)); (focus (simp; done)); (focus (first | (left; simp; done) | (right; simp; done)))) | (refine ACall.mk _ _ _ (a1) ?_ ?_ ?_ ?_; (focus (simp; done)); (focus (simp; done)); (focus (first | (left; simp; done) | (right; simp; done)))) | (refine ACall.mk _ _ _ (a2) ?_ ?_ ?_ ?_; (focus (simp; done)); (focus (simp; done)); (focus (first | (left; simp; done) | (right; simp; done)))) | (refine ACall.mk _ _ _ (a3) ?_ ?_ ?_ ?_; (focus (simp; done)); (focus (simp; done)); (focus (first | (left; simp; done) | (right; simp; done)))) | (refine ACall.mk _ _ _ (a4) ?_ ?_ ?_ ?_; (focus (simp; done)); (focus (simp; done)); (focus (first | (left; simp; done) | (right; simp; done)))) | (refine ACall.mk _ _ _ (a5) ?_ ?_ ?_ ?_; (focus (simp; done)); (focus (simp; done)); (focus (first | (left; simp; done) | (right; simp; done))))); simp [splice, inC, Nat.testBit])
  repeat ((first | (refine ACall.mk _ _ _ (fn72) ?_ ?_ ?_ ?_; (focus (simp; done)); (focus (simp; done)); (focus (first | (left; simp; done) | (right; simp; done)))) | (refine ACall.mk _ _ _ (sp (3) (3)) ?_ ?_ ?_ ?_; (focus (simp; done)); (focus (simp; done)); (focus (first | (left; simp; done) | (right; simp; done)))) | (refine ACall.mk _ _ _ (sp (20) (30)) ?_ ?_ ?_ ?_; (focus (simp; done)); (focus (simp; done)); (focus (first | (left; simp; done) | (right; simp; done)))) | (refine ACall.mk _ _ _ (sp (5) (5)) ?_ ?_ ?_ ?_; (focus (simp; done)); (focus (simp; done)); (focus (first | (left; simp; done) | (right; simp; done)))) | (refine ACall.mk _ _ _ (sp (0) (21)) ?_ ?_ ?_ ?_; (focus (simp; done)); (focus (simp; done)); (focus (first | (left; simp; done) | (right; simp; done)))) | (refine ACall.mk _ _ _ (sp (6) (9)) ?_ ?_ ?_ ?_; (focus (simp; done)); (focus (simp; done)); (focus (first | (left; simp; done) | (right; simp; done)))) | (refine ACall.mk _ _ _ (sp (10) (10)) ?_ ?_ ?_ ?_; (focus (simp; done)); (focus (simp; done)); (focus (first | (left; simp; done) | (right; simp; done)))) | (refine ACall.mk _ _ _ (sp (2) (2)) ?_ ?_ ?_ ?_; (focus (simp; done)); (focus (simp; done)); (focus (first | (left; simp; done) | (right; simp; done)))) | (refine ACall.mk _ _ _ (sp (20) (20)) ?_ ?_ ?_ ?_; (focus (simp; done)); (focus (simp; done)); (focus (first | (left; simp; done) | (right; simp; done)))) | (refine ACall.mk _ _ _ (b1) ?_ ?_ ?_ ?_; (focus (simp [bor_hill]; done)); (focus (simp; done)); (focus (first | (left; simp; done) | (right; simp; done)))) | (refine ACall.mk _ _ _ (b2) ?_ ?_ ?_ ?_; (focus (simp [bor_hill]; done)); (focus (simp; done)); (focus (first | (left; simp; done) | (right; simp; done)))) | (refine ACall.mk _ _ _ (b3) ?_ ?_ ?_ ?_; (focus (simp [bor_hill]; done)); (focus (simp; done)); (focus (first | (left; simp; done) | (right; simp; done)))) | (refine ACall.mk _ _ _ (b4) ?_ ?_ ?_ ?_; (focus (simp [bor_hill]; done)); (focus (simp; done)); (focus (first | (left; simp; done) | (right; simp; done)))) | (refine ACall.mk _ _ _ (b5) ?_ ?_ ?_ ?_; (focus (simp [bor_hill]; done)); (focus (simp; done)); (focus (first | (left; simp; done) | (right; simp; done)))) | (refine ACall.mk _ _ _ (b6) ?_ ?_ ?_ ?_; (focus (simp [bor_1010, inC, Nat.testBit]; done)); (focus (simp; done)); (focus (first | (left; simp; done) | (right; simp; done)))) | (refine ACall.mk _ _ _ (b7) ?_ ?_ ?_ ?_; (focus (simp [bor_22, inC, Nat.testBit]; done)); (focus (simp; done)); (focus (first | (left; simp; done) | (right; simp; done)))) | (refine ACall.mk _ _ _ (b8) ?_ ?_ ?_ ?_; (focus (simp [bor_2020]; done)); (focus (simp; done)); (focus (first | (left; simp; done) | (right; simp; done))))); simp [splice, repl, inC, Nat.testBit])
  repeat ((first | (refine ACall.mk _ _ _ (fn73) ?_ ?_ ?_ ?_; (focus (simp; done)); (focus (simp; done)); (focus (first | (left; simp; done) | (right; simp; done)))) | (refine ACall.mk _ _ _ (c1) ?_ ?_ ?_ ?_; (focus (simp [bor_sq]; done)); (focus (simp; done)); (focus (first | (left; simp; done) | (right; simp; done)))) | (refine ACall.mk _ _ _ (c2) ?_ ?_ ?_ ?_; (focus (simp [bor_sq]; done)); (focus (simp; done)); (focus (first | (left; simp; done) | (right; simp; done))))); simp [splice, repl])
  refine ACall.mk _ _ _ (c3) (by simp [bor_segA, bor_segB]) (by simp) (by first | (left; simp; done) | (right; simp; done) | (right; simp; exact fun a ha => spD_lit a ha)) ?_
  simp
  repeat ((first | (refine ACall.mk _ _ _ (fn73) ?_ ?_ ?_ ?_; (focus (simp; done)); (focus (simp; done)); (focus (first | (left; simp; done) | (right; simp; done)))) | (refine ACall.mk _ _ _ (c4) ?_ ?_ ?_ ?_; (focus (simp [bor_sq, bor_p52]; done)); (focus (simp; done)); (focus (first | (left; simp; done) | (right; simp; done)))) | (refine ACall.mk _ _ _ (c5) ?_ ?_ ?_ ?_; (focus (simp [bor_sq, bor_p52]; done)); (focus (simp; done)); (focus (first | (left; simp; done) | (right; simp; done)))) | (refine ACall.mk _ _ _ (c6) ?_ ?_ ?_ ?_; (focus (simp [bor_sq, bor_p42]; done)); (focus (simp; done)); (focus (first | (left; simp; done) | (right; simp; done)))) | (refine ACall.mk _ _ _ (c7) ?_ ?_ ?_ ?_; (focus (simp [bor_sumAB, bor_sumz (z := z)]; done)); (focus (simp; done)); (focus (first | (left; simp; done) | (right; simp; done))))); simp [splice, repl])
  repeat ((first | (refine ACall.mk _ _ _ (sp (1) (2)) ?_ ?_ ?_ ?_; (focus (simp; done)); (focus (simp; done)); (focus (first | (left; simp; done) | (right; simp; done)))) | (refine ACall.mk _ _ _ (sp (0) (2)) ?_ ?_ ?_ ?_; (focus (simp; done)); (focus (simp; done)); (focus (first | (left; simp; done) | (right; simp; done)))) | (refine ACall.mk _ _ _ (sp (0) (549755813888)) ?_ ?_ ?_ ?_; (focus (simp; done)); (focus (simp; done)); (focus (first | (left; simp; done) | (right; simp; done)))) | (refine ACall.mk _ _ _ (sp (0) (3)) ?_ ?_ ?_ ?_; (focus (simp; done)); (focus (simp; done)); (focus (first | (left; simp; done) | (right; simp; done)))) | (refine ACall.mk _ _ _ (sp (-1) (4)) ?_ ?_ ?_ ?_; (focus (simp; done)); (focus (simp; done)); (focus (first | (left; simp; done) | (right; simp; done)))) | (refine ACall.mk _ _ _ (sp (1) (0)) ?_ ?_ ?_ ?_; (focus (simp; done)); (focus (simp; done)); (focus (first | (left; simp; done) | (right; simp; done)))) | (refine ACall.mk _ _ _ (fn73) ?_ ?_ ?_ ?_; (focus (simp; done)); (focus (simp; done)); (focus (first | (left; simp; done) | (right; simp; done)))) | (refine ACall.mk _ _ _ (fn72) ?_ ?_ ?_ ?_; (focus (simp; done)); (focus (simp; done)); (focus (first | (left; simp; done) | (right; simp; done)))) | (refine ACall.mk _ _ _ (k0) ?_ ?_ ?_ ?_; (focus (simp; done)); (focus (simp; done)); (focus (first | (left; simp; done) | (right; simp; done)))) | (refine ACall.mk _ _ _ (d1) ?_ ?_ ?_ ?_; (focus (simp; done)); (focus (simp; done)); (focus (first | (left; simp; done) | (right; simp; done)))) | (refine ACall.mk _ _ _ (d2) ?_ ?_ ?_ ?_; (focus (simp; done)); (focus (simp; done)); (focus (first | (left; simp; done) | (right; simp; done)))) | (refine ACall.mk _ _ _ (d3) ?_ ?_ ?_ ?_; (focus (simp; done)); (focus (simp; done)); (focus (first | (left; simp; done) | (right; simp; done)))) | (refine ACall.mk _ _ _ (d4) ?_ ?_ ?_ ?_; (focus (simp; done)); (focus (simp; done)); (focus (first | (left; simp; done) | (right; simp; done)))) | (refine ACall.mk _ _ _ (d5) ?_ ?_ ?_ ?_; (focus (simp [bor_sq]; done)); (focus (simp; done)); (focus (first | (left; simp; done) | (right; simp; done)))) | (refine ACall.mk _ _ _ (d6) ?_ ?_ ?_ ?_; (focus (simp; done)); (focus (simp; done)); (focus (first | (left; simp; done) | (right; simp; done)))) | (refine ACall.mk _ _ _ (d7) ?_ ?_ ?_ ?_; (focus (simp [bor_hill1]; done)); (focus (simp; done)); (focus (first | (left; simp; done) | (right; simp; done)))) | (refine ACall.mk _ _ _ (d8) ?_ ?_ ?_ ?_; (focus (simp; done)); (focus (simp; done)); (focus (first | (left; simp; done) | (right; simp; done)))) | (refine ACall.mk _ _ _ (d9) ?_ ?_ ?_ ?_; (focus (simp [bor_bent]; done)); (focus (simp; done)); (focus (first | (left; simp; done) | (right; simp; done))))); simp [splice, repl])
  refine RetOk.by (fun _ => none) ?_
  simp [results19]
end Go.Proofs.Try
namespace Go.Psl
open Go.Shelf Go.RowKit Go.Lib Go.Sort
variable {P : Program} {ρ : Ren} {α : Type} [Inhabited α]
theorem grow_of {W W' : World} (hos : W'.os = W.os) (hta : W'.tape = W.tape) (hou : W'.output = W.output) (hdr : W.drawn ≤ W'.drawn) (hsz : W.heap.size ≤ W'.heap.size) (hb : ∀ b, b < W.heap.size → W'.heap[b]? = W.heap[b]?) :
    ∃ q os', W' = grow (W.drewN q) os' := by
  refine ⟨W'.drawn - W.drawn, W'.heap.extract W.heap.size W'.heap.size, ?_⟩
  obtain ⟨h, t, d, o, u⟩ := W
  obtain ⟨h', t', d', o', u'⟩ := W'
  simp only at hos hta hou hdr hsz hb
  subst hos hta hou
  simp only [grow, World.drewN]
  congr 1
  · apply Array.ext_getElem?
    intro i
    by_cases hi : i < h.size
    · rw [Array.getElem?_append_left hi, hb i hi]
    · rw [Array.getElem?_append_right (by omega), Array.getElem?_extract]
      split
      · congr 1; omega
      · rw [Array.getElem?_eq_none (by omega)]
  · omega
theorem flat_at {enc : α → List Value} {k : Nat} (h0 : 0 < k) (hk : ∀ x, (enc x).length = k) (l : List α) (j : Nat) (hj : j < l.length * k) : (l.flatMap enc)[j]? = some (flatK enc k l.toArray)[j]! := by
  rw [get_flatK _ _ _ _ (by simpa using hj), List.flatMap_def, flatten_get h0 _ (fun e he => by obtain ⟨x, _, rfl⟩ := List.mem_map.1 he; exact hk x)]
  have h1 : j / k < l.length := by rw [Nat.div_lt_iff_lt_mul h0]; exact hj
  have hm : j % k < k := Nat.mod_lt _ h0
  rw [List.getElem?_map, List.getElem?_eq_getElem h1]
  simp only [Option.map_some, Option.bind_some]
  have e1 : l.toArray[j / k]! = l[j / k] := by rw [getElem!_pos _ _ (by simpa using h1)]; simp
  rw [e1, List.getElem?_eq_getElem (by rw [hk]; exact hm), getElem!_pos _ _ (by rw [hk]; exact hm)]
omit [Inhabited α] in
theorem flat_len {enc : α → List Value} {k : Nat} (hk : ∀ x, (enc x).length = k) (l : List α) : (l.flatMap enc).length = l.length * k := by
  rw [List.flatMap_def, flatten_len (sz := k) _ (fun e he => by obtain ⟨x, _, rfl⟩ := List.mem_map.1 he; exact hk x), List.length_map]
theorem cV_rel {G : Gh} {W : World} {vs : List Value} (h : ∀ v ∈ vs, flatV v = true) : All2 (R1 G W) (vs.map cV) vs := by
  induction vs with
  | nil => trivial
  | cons v vs ih => exact ⟨RD.lit v (h v (by simp)), ih fun x hx => h x (by simp [hx])⟩
theorem cmpLays_of {g : Nat} {enc : α → List Value} {k : Nat} {cf : α → α → Int} (hflat : ∀ x, ∀ v ∈ enc x, flatV v = true) (hcmp : ∀ x y, Ct P g [.agg ((enc x).map cV), .agg ((enc y).map cV)] (.d (.lit (.int .i64 (cf x y)))) []) (blk off size : Nat) (w : World) : Go.Proofs.CmpLays P g #[] enc k cf blk off size w := by
  intro m os dk _ x y
  refine ((hcmp x y).2 ⟨fun _ => 0, fun _ => 0, fun _ => true, fun _ => true, fun _ => False⟩ _ #[.agg (enc x).toArray, .agg (enc y).toArray] (fun _ h => h.elim) ⟨⟨_, rfl, cV_rel (hflat x)⟩, ⟨_, rfl, cV_rel (hflat y)⟩, trivial⟩ ⟨nofun, fun i _ h => by simp [InH] at h, nofun⟩).mono fun e W' ⟨G', hp⟩ => ?_
  refine ⟨?_, grow_of hp.os hp.tape hp.output hp.drawn hp.size fun b hb => hp.block b hb fun ⟨_, h, _⟩ => by simp [InH] at h⟩
  cases e with
  | returned v => rw [rv_int hp.rv]
  | _ => exact hp.rv.elim
theorem sortFunc_cm (L : Go.Proofs.SlLaysF0.n6 P ρ) (hf : isFn P (ρ.f 6)) (k : Nat) (h0 : 0 < k) (aE : ∀ w, (isAgg (ρ.t 24)).run P w = .ok true w) (zE : ∀ w, (Go.sizeOf (ρ.t 24)).run P w = .ok k w) (enc : α → List Value) (hk : ∀ x, (enc x).length = k) (hflat : ∀ x, ∀ v ∈ enc x, flatV v = true) (cf : α → α → Int) (hO : SWO (Go.Proofs.ltOf cf)) (hT : ∀ x y, (Go.Proofs.ltOf cf) x y = false → (Go.Proofs.ltOf cf) y x = false → x = y)
    (g : Nat) (eg : ∀ args w, (callFunc g args).run P w = .ok (.enter g args) w) (hcmp : ∀ x y, Ct P g [.agg ((enc x).map cV), .agg ((enc y).map cV)] (.d (.lit (.int .i64 (cf x y)))) []) (l : List α) (hl0 : 0 < l.length) (hsz : l.length < 4611686018427387904) :
    Cm P (ρ.f 6) [.ls 0 0 l.length k, .d (.fn g [])] (lk [(0, (l.flatMap enc).map cV)]) [0] (.ret (.tup [])) (lk [(0, ((l.mergeSort fun x y => !(Go.Proofs.ltOf cf) y x).flatMap enc).map cV)]) := by
  refine ⟨hf, fun G W xs hGW hargs hpre => ?_⟩
  obtain ⟨v1, v2, rfl⟩ : ∃ v1 v2, xs = #[v1, v2] := by
    have := hargs.length
    obtain ⟨xs⟩ := xs
    match xs, this with
    | [a, b], _ => exact ⟨a, b, rfl⟩
    | [], h => simp at h
    | [_], h => simp at h
    | _ :: _ :: _ :: _, h => simp at h
  obtain ⟨h1, h2, _⟩ := hargs
  obtain ⟨hIn, hph⟩ := hpre.st 0 (by simp)
  obtain ⟨hml, ⟨_, h, _⟩ | ⟨hphl, o, cap, rfl, hcap, ho⟩⟩ := h1
  · omega
  obtain ⟨rfl, hbs0⟩ := ho (by omega)
  obtain ⟨cv, rfl, hcv⟩ : ∃ cv, v2 = .func (.func g) #[] cv ∧ cv.size = 0 := by
    cases h2 with
    | fn _ _ cv hl _ => exact ⟨cv, rfl, hl⟩
  obtain rfl : cv = #[] := Array.eq_empty_of_size_eq_zero hcv
  have hHB := hpre.hb 0 _ rfl
  obtain ⟨hnim, c, T, hb, hbs, hcl, hcr, hca⟩ := hHB.read hphl
  have hblk : G.β 0 < W.heap.size := (Array.getElem?_eq_some_iff.1 hb).1
  have hfl := flat_len hk l
  rw [List.length_map, hfl] at hcl hcr
  have hcell : ∀ j, j < l.length * k → c[j]? = some (flatK enc k l.toArray)[j]! := fun j hj => by
    have h3 := flat_at h0 hk l j hj
    have h4 : ((l.flatMap enc).map cV)[j]? = some (cV (flatK enc k l.toArray)[j]!) := by rw [List.getElem?_map, h3]; rfl
    obtain ⟨x, hx, hr⟩ := hcr.get h4
    rw [List.getElem?_take, if_pos hj, Array.getElem?_toList] at hx
    rw [hx, rv_lit hr.r2.rv]
  have hH : HoldsK enc k W (G.β 0) 0 l.toArray := fun j hj => by
    have hj' : j < l.length * k := by simpa using hj
    refine ⟨?_, ?_⟩
    · unfold World.cell?
      simp only [Nat.zero_add, hb, Option.isSome_none, Bool.false_eq_true, if_false]
      exact hcell j hj'
    · unfold World.frozen?
      simp [hb]
  have h1c : ∀ x, ∀ v ∈ enc x, v.oneCell' = true := fun x v hv => RD.oneCell (Im := fun _ => True) (W := W) (RD.lit v (hflat x v hv))
  have key := Go.Proofs.AnyQ.slices_SortFunc_total L k aE zE enc hk h1c cf hO g #[] (G.β 0) 0 cap l.toArray W eg (cmpLays_of hflat hcmp _ _ _ _) hH hblk (by simpa using hsz) hT
  have hperm : (l.mergeSort fun x y => !(Go.Proofs.ltOf cf) y x).length = l.length := List.length_mergeSort _
  generalize (l.mergeSort fun x y => !(Go.Proofs.ltOf cf) y x) = l' at key hperm ⊢
  have key' : Calls P (ρ.f 6) #[.slice (some ⟨G.β 0, 0, none⟩) l.length cap, .func (.func g) #[] #[]] W fun e w' => e = .returned (.tuple #[]) ∧ ∃ n os, w' = Go.Proofs.sortWorldK enc k W (G.β 0) 0 n l'.toArray os := by simpa using key
  refine key'.mono fun e W' ⟨he, n, os, hW'⟩ => ?_
  subst he
  have hlent : ∀ b, lentB G (lk [(0, (l.flatMap enc).map cV)]) b → b = G.β 0 := fun b ⟨i, hi, _, hbi⟩ => by
    have : i = 0 := by simp only [InH, lk] at hi; split at hi; assumption; cases hi
    rw [← hbi, this]
  have hlent0 : lentB G (lk [(0, (l.flatMap enc).map cV)]) (G.β 0) := ⟨0, hIn, hph, rfl⟩
  have hheap : ∀ b, b < W.heap.size → W'.heap[b]? = if b = G.β 0 then some (.cells (putCells id 0 (flatK enc k l'.toArray) c) T (0, 0)) else W.heap[b]? := fun b hlt => by
    rw [hW']
    show ((putRow id (Sort.ahead W n) (G.β 0) 0 (flatK enc k l'.toArray)).heap ++ os)[b]? = _
    rw [Array.getElem?_append_left (by simpa using hlt)]
    show (W.heap.modify (G.β 0) _)[b]? = _
    rw [Array.getElem?_modify]
    by_cases e : b = G.β 0
    · subst e
      simp [hb, onCells]
    · rw [if_neg (fun h => e h.symm), if_neg e]
  have hsz' : W.heap.size ≤ W'.heap.size := by rw [hW']; exact Go.Proofs.size_sortWorldK_c enc k W (G.β 0) 0 n l'.toArray os
  refine ⟨G, ⟨by rw [hW']; rfl, by rw [hW']; rfl, by rw [hW']; rfl, by rw [hW']; exact Nat.le_add_right _ _, hsz', fun b hlt hn => ?_, fun b hb => ⟨Nat.lt_of_lt_of_le (hGW b hb) hsz', .inl hb⟩, fun _ h => h, ⟨#[], rfl, trivial⟩, fun _ h => (by cases h), fun i cs hi => ?_, fun i j hi hj _ _ _ => ?_, fun i hi _ => ⟨rfl, rfl, (hpre.st i hi).2, rfl⟩⟩⟩
  · rw [hheap b hlt, if_neg (fun e : b = G.β 0 => hn (by rw [e]; exact hlent0))]
  · have hi0 : i = 0 ∧ cs = (l'.flatMap enc).map cV := by
      simp only [lk] at hi
      split at hi
      · rename_i e; cases hi; exact ⟨e, rfl⟩
      · cases hi
    obtain ⟨rfl, rfl⟩ := hi0
    have hfl' := flat_len hk l'
    refine ⟨.inr (.inl ⟨hphl.1, hphl.2, hnim, _, T, by rw [hheap _ hblk, if_pos rfl], by simp [putCells, hbs], by simp [putCells, hfl', hperm]; exact hcl, ?_, ?_⟩), fun _ => .inr hlent0, fun x hx => ?_⟩
    · refine All2.of_get ?_ fun j x y hx hy => ?_
      · simp [putCells, hfl', hperm]; omega
      · have hj : j < l'.length * k := by
          have := (List.getElem?_eq_some_iff.1 hx).1
          simpa [hfl'] using this
        rw [List.getElem?_map, flat_at h0 hk l' j hj] at hx
        cases hx
        rw [List.getElem?_take, List.length_map, hfl', if_pos hj, Array.getElem?_toList] at hy
        have hjc : j < c.size := by rw [hperm] at hj; omega
        simp only [putCells, Array.getElem?_mapIdx, Array.getElem?_eq_getElem hjc, Option.map_some, Nat.zero_le, true_and, Nat.zero_add, size_flatK, List.size_toArray, hj, if_true, Option.some.injEq, Nat.sub_zero, id] at hy
        subst hy
        have hm := flat_at h0 hk l' j hj
        have hmem := List.mem_of_getElem? hm
        obtain ⟨a, _, ha⟩ := List.mem_flatMap.1 hmem
        exact RD.lit _ (hflat a _ ha)
    · simp only [List.all_map, List.all_eq_true]
      intro v _; rfl
    · obtain ⟨v, _, rfl⟩ := List.mem_map.1 hx
      trivial
  · have e1 : i = 0 := by simp only [InH, lk] at hi; split at hi; assumption; cases hi
    have e2 : j = 0 := by simp only [InH, lk] at hj; split at hj; assumption; cases hj
    rw [e1, e2]
end Go.Psl
namespace Go.Proofs
def Try.sortL_ren : Go.Shelf.Ren := ⟨fun | 6 => 127 | 15 => 146 | 14 => 145 | 28 => 160 | 29 => 151 | 20 => 152 | 21 => 153 | 22 => 154 | 23 => 155 | 24 => 156 | 25 => 157 | 26 => 158 | 27 => 159 | 46 => 162 | 47 => 163 | 48 => 164 | 49 => 165 | 50 => 166 | 57 => 168 | n => n, fun | 22 => 54 | 24 => 56 | 25 => 148 | 3 => 3 | 39 => 116 | 0 => 0 | 53 => 174 | 55 => 140 | 4 => 4 | 46 => 168 | 45 => 167 | 50 => 145 | 5 => 5 | 9 => 9 | 66 => 175 | 70 => 179 | 76 => 181 | 77 => 75 | n => n, fun | n => n⟩
theorem Try.sortL : Go.Proofs.SlLaysF0.n6 Try.prog Try.sortL_ren := {
  mixed := by kernel_rfl,
  f6 := ⟨Try.f127.name, by decide, Try.func127.trans (congrArg some (by kernel_rfl))⟩,
  f14 := ⟨Try.f145.name, by decide, Try.func145.trans (congrArg some (by kernel_rfl))⟩,
  f15 := Try.func146.trans (congrArg some (by kernel_rfl)),
  f20 := ⟨Try.f152.name, by decide, Try.func152.trans (congrArg some (by kernel_rfl))⟩,
  f21 := ⟨Try.f153.name, by decide, Try.func153.trans (congrArg some (by kernel_rfl))⟩,
  f22 := ⟨Try.f154.name, by decide, Try.func154.trans (congrArg some (by kernel_rfl))⟩,
  f23 := ⟨Try.f155.name, by decide, Try.func155.trans (congrArg some (by kernel_rfl))⟩,
  f24 := ⟨Try.f156.name, by decide, Try.func156.trans (congrArg some (by kernel_rfl))⟩,
  f25 := ⟨Try.f157.name, by decide, Try.func157.trans (congrArg some (by kernel_rfl))⟩,
  f26 := ⟨Try.f158.name, by decide, Try.func158.trans (congrArg some (by kernel_rfl))⟩,
  f27 := ⟨Try.f159.name, by decide, Try.func159.trans (congrArg some (by kernel_rfl))⟩,
  f28 := Try.func160.trans (congrArg some (by kernel_rfl)),
  f29 := Try.func151.trans (congrArg some (by kernel_rfl)),
  f46 := ⟨Try.f162.name, by decide, Try.func162.trans (congrArg some (by kernel_rfl))⟩,
  f47 := Try.func163.trans (congrArg some (by kernel_rfl)),
  f48 := Try.func164.trans (congrArg some (by kernel_rfl)),
  f49 := ⟨Try.f165.name, by decide, Try.func165.trans (congrArg some (by kernel_rfl))⟩,
  f50 := ⟨Try.f166.name, by decide, Try.func166.trans (congrArg some (by kernel_rfl))⟩,
  f57 := ⟨Try.f168.name, by decide, Try.func168.trans (congrArg some (by kernel_rfl))⟩,
  t0 := Try.underlying0,
  a0 := Try.isAgg0,
  z0 := Try.sizeOf0,
  v0 := Try.zeroValue0,
  t3 := Try.underlying3,
  a3 := Try.isAgg3,
  z3 := Try.sizeOf3,
  v3 := Try.zeroValue3,
  t4 := Try.underlying4,
  a4 := Try.isAgg4,
  z4 := Try.sizeOf4,
  v4 := Try.zeroValue4,
  t5 := Try.underlying5,
  a5 := Try.isAgg5,
  z5 := Try.sizeOf5,
  v5 := Try.zeroValue5,
  t9 := Try.underlying9,
  a9 := Try.isAgg9,
  z9 := Try.sizeOf9,
  v9 := Try.zeroValue9,
  t22 := Try.underlying54,
  a22 := Try.isAgg54,
  z22 := Try.sizeOf54,
  v22 := Try.zeroValue54,
  t25 := Try.underlying148,
  a25 := Try.isAgg148,
  z25 := Try.sizeOf148,
  v25 := Try.zeroValue148,
  t39 := Try.underlying116,
  a39 := Try.isAgg116,
  z39 := Try.sizeOf116,
  v39 := Try.zeroValue116,
  t45 := Try.underlying167,
  a45 := Try.isAgg167,
  z45 := Try.sizeOf167,
  v45 := Try.zeroValue167,
  t46 := Try.underlying168,
  a46 := Try.isAgg168,
  z46 := Try.sizeOf168,
  v46 := Try.zeroValue168,
  t50 := Try.underlying145,
  a50 := Try.isAgg145,
  z50 := Try.sizeOf145,
  v50 := Try.zeroValue145,
  t53 := Try.underlying174,
  a53 := Try.isAgg174,
  z53 := Try.sizeOf174,
  v53 := Try.zeroValue174,
  t55 := Try.underlying140,
  a55 := Try.isAgg140,
  z55 := Try.sizeOf140,
  v55 := Try.zeroValue140,
  t66 := Try.underlying175,
  a66 := Try.isAgg175,
  z66 := Try.sizeOf175,
  v66 := Try.zeroValue175,
  t70 := Try.underlying179,
  a70 := Try.isAgg179,
  z70 := Try.sizeOf179,
  v70 := Try.zeroValue179,
  t76 := Try.underlying181,
  a76 := Try.isAgg181,
  z76 := Try.sizeOf181,
  v76 := Try.zeroValue181,
  t77 := Try.underlying75,
  a77 := Try.isAgg75,
  z77 := Try.sizeOf75,
  v77 := Try.zeroValue75 }
end Go.Proofs
namespace Go.Proofs.Try
open Go.Psl
def encC (p : Int × Int) : List Value := [.int .i64 p.1, .int .i64 p.2]
theorem enc_cells (l : List (Int × Int)) : (l.flatMap encC).map cV = cellsI l := by
  induction l with
  | nil => rfl
  | cons a l ih =>
    rw [List.flatMap_cons, List.map_append, ih]
    rfl
theorem ltOf_order (x y : Int × Int) : Go.Proofs.ltOf orderS x y = true ↔ Go.Geo.lt x y := by
  unfold Go.Proofs.ltOf; rw [decide_eq_true_eq, order_lt]
theorem ltOf_order' (x y : Int × Int) : Go.Proofs.ltOf orderS x y = false ↔ ¬ Go.Geo.lt x y := by
  rw [← ltOf_order]; simp
theorem swo_order : Go.Sort.SWO (Go.Proofs.ltOf orderS) where
  irrefl x := by rw [ltOf_order']; exact Go.Geo.lt_irr x
  trans x y z h1 h2 := by rw [ltOf_order] at *; exact Go.Geo.lt_trans h1 h2
  ntrans x y z h1 h2 := by rw [ltOf_order'] at *; unfold Go.Geo.lt at *; omega
theorem sortOk : SortOk := fun l h1 h2 => by
  have hcmp : ∀ x y : Int × Int, Ct prog 128 [.agg ((encC x).map cV), .agg ((encC y).map cV)] (.d (.lit (.int .i64 (orderS x y)))) [] := fun x y => fn128 x y
  have h := sortFunc_cm Try.sortL ⟨_, func127, by kernel_rfl, by decide⟩ 2 (by omega) Try.isAgg56 Try.sizeOf56 encC (fun _ => rfl) (fun x v hv => by simp [encC] at hv; rcases hv with rfl | rfl <;> rfl) orderS swo_order
    (fun x y a b => by
      rw [ltOf_order'] at a b
      rcases Go.Geo.lt_tri x y with h | h | h
      · exact absurd h a
      · exact h
      · exact absurd h b) 128 (Go.Proofs.enters_of func128 (by kernel_rfl) rfl) hcmp l h1 (by omega)
  rw [enc_cells, enc_cells] at h
  exact h
end Go.Proofs.Try
