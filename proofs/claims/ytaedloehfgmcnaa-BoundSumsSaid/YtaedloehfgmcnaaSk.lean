/- Own lemmas and contracts of functions, used by the last text of this claim for the given statement. Conditions: those that each theorem states. -/
import Derived.Test.YtaedloehfgmcnaaSj
import Derived.Test.YtaedloehfgmcnaaSi
import Derived.Test.YtaedloehfgmcnaaSg
import Derived.Shelf.SlSortCmp.NoneTotal
import Derived.Test.YtaedloehfgmcnaaProg
namespace Go.Proofs.Try
open Go.Psl
open Go.Stb
def sumE (a b : List (Int × Int)) : List (Int × Int) := stb sumB (sidS a ++ sidS b)
def sumL (a b : List (Int × Int)) : List (Int × Int) := match a, b with
  | x :: _, y :: _ => ptsS (addC x y) (sumE a b)
  | _, _ => []
def ptA (p : Int × Int) (es : List (Int × Int)) (j : Nat) : Int × Int := (ptsS p es).getD j (0, 0)
set_option maxHeartbeats 1000000 in
theorem sum_round (es : List (Int × Int)) (p : Int × Int) (hl : es.length ≤ 1000) (hb : ∀ q ∈ ptsS p es, bd 536870912 q) {E : Ent} (hE : ∀ i, ¬ E.stab i) {Q : AExit → St → Prop} : ∀ i : Nat, i ≤ es.length → PW prog tys eqs E p105l0
    (seqQ (fun st' => ∃ j, j ≤ es.length ∧ es.length - j < es.length - i ∧ Weak prog E st' ⟨slots [(6, .lp 0 0), (7, .ls 1 0 (j + 1) 2), (39, .ls 2 0 es.length 2), (40, vi es.length), (41, vi j)], lk [(0, [vi (ptA p es j).1, vi (ptA p es j).2]), (1, cellsI ((ptsS p es).take (j + 1))), (2, cellsI es)], 3⟩)
      (exC prog E Q 0 (fun _ : Unit => ⟨slots [(7, .ls 0 0 (ptsS p es).length 2)], lk [(0, cellsI (ptsS p es))], 1⟩) (fun _ => True)))
    ⟨slots [(6, .lp 0 0), (7, .ls 1 0 (i + 1) 2), (39, .ls 2 0 es.length 2), (40, vi es.length), (41, vi i)], lk [(0, [vi (ptA p es i).1, vi (ptA p es i).2]), (1, cellsI ((ptsS p es).take (i + 1))), (2, cellsI es)], 3⟩ := by
  intro i hi
  have hpl := pts_len es p
  simp [p105l0]
  by_cases h : i < es.length
  · obtain ⟨e, he⟩ : ∃ e, es[i]? = some e := ⟨_, List.getElem?_eq_getElem h⟩
    obtain ⟨q, hq⟩ : ∃ q, (ptsS p es)[i]? = some q := ⟨_, List.getElem?_eq_getElem (by omega)⟩
    have hq2 := pts_next hq he
    have b1 := hb q (List.mem_of_getElem? hq)
    have b2 := hb _ (List.mem_of_getElem? hq2)
    unfold bd addC at b2
    unfold bd at b1
    simp only at b2
    have w1 : IntKind.wrap .i64 (q.1 + e.1) = q.1 + e.1 := wrap64 (by omega) (by omega)
    have w2 : IntKind.wrap .i64 (q.2 + e.2) = q.2 + e.2 := wrap64 (by omega) (by omega)
    have w3 : IntKind.wrap .i64 ((i : Int) + 1) = ((i + 1 : Nat) : Int) := by rw [wrap64 (by omega) (by omega)]; omega
    have gq : ptA p es i = q := by rw [ptA, List.getD_eq_getElem?_getD, hq]; rfl
    have gq2 : ptA p es (i + 1) = addC q e := by rw [ptA, List.getD_eq_getElem?_getD, hq2]; rfl
    have ce := cells_at he
    have q1 : i * 2 + 2 ≤ es.length * 2 := by omega
    have hdl := spD_len es
    have htk : (ptsS p es).take (i + 1 + 1) = (ptsS p es).take (i + 1) ++ [addC q e] := by rw [List.take_add_one (i := i + 1), hq2]; rfl
    obtain ⟨O, hO⟩ : ∃ O, (ptsS p es).take (i + 1) = O := ⟨_, rfl⟩
    have hOl : O.length = i + 1 := by rw [← hO, List.length_take]; omega
    have hsl := spD_len O
    rw [hOl] at hsl
    have hfull : List.take ((i + 1) * 2) (cellsI O) = cellsI O := List.take_of_length_le (by simp [hsl])
    have n1 : (i + 1 + 1) * 16 ≤ 140737488355328 := by omega
    have n2 : i + 1 + 1 ≤ 9223372036854775807 := by omega
    have fin : cellsI (O ++ [addC q e]) = (spD O).map V.d ++ [vi (addC q e).1, vi (addC q e).2] := spD_one _ O
    rw [hO] at htk ⊢
    rw [gq]
    simp [h, w1, w2, w3, ce, q1, hdl, hsl, hfull, n1, n2, splice, repl]
    refine ⟨i + 1, by omega, by omega, ?_⟩
    rw [gq2, htk, fin]
    refine Weak.mk hE (lk [(0, 0), (1, 20971523), (2, 2)]) _ _ _ ?_ ?_ ?_ ?_ ?_ <;> simp [addC]
    rintro c (⟨a, _, rfl⟩ | rfl | rfl) <;> simp
  · have : i = es.length := by omega
    subst this
    rw [List.take_of_length_le (by omega)]
    simp
    refine Weak.mk hE (lk [(0, 1)]) _ _ _ ?_ ?_ ?_ ?_ ?_ <;> simp
    omega
theorem st0_len (c : Int × Int → Int × Int → Bool) (N : Nat) : ∀ (n a : Nat) (M : List (Int × Int)), (st0 c N n a M).length = M.length
  | 0, a, M => insF_len _ _ _ _
  | n + 1, a, M => by
    unfold st0
    split
    · rw [st0_len c N n, insF_len]
    · exact insF_len _ _ _ _
theorem st2_len (c : Int × Int → Int × Int → Bool) (N : Nat) : ∀ (n a : Nat) (M : List (Int × Int)), M.length = N → (st2 c N n a M).length = N
  | 0, a, M, h => h
  | n + 1, a, M, h => by
    unfold st2
    split
    · exact st2_len c N n _ _ (st1_all (dom := fun _ => True) N a N 0 M (fun _ _ => trivial) h).2
    · exact h
theorem stb_length (c : Int × Int → Int × Int → Bool) (l : List (Int × Int)) : (stb c l).length = l.length := st2_len c _ _ _ _ (st0_len c _ _ _ _)
set_option maxHeartbeats 1000000 in
theorem fn105 (hS : SortOk) (a b : List (Int × Int)) (na : a ≠ []) (nb : b ≠ []) (la : a.length ≤ 64) (lb : b.length ≤ 64) (ba : ∀ q ∈ a, bd 268435456 q) (bb : ∀ q ∈ b, bd 268435456 q) (hb : ∀ q ∈ sumL a b, bd 536870912 q) : ∃ z, Ct prog 105 [.d (spansD a), .d (spansD b)] (.ls 0 0 (hullP (sumL a b)).length 2) [(0, cellsI (hullP (sumL a b) ++ z))] := by
  have sa := sid_len a
  have sb := sid_len b
  obtain ⟨U, hU⟩ : ∃ U, sidS a ++ sidS b = U := ⟨_, rfl⟩
  have hUl : U.length ≤ 128 := by rw [← hU, List.length_append]; omega
  have hUb : ∀ u ∈ U, bd 2000000000 u := fun u hu => by
    rw [← hU] at hu
    rcases List.mem_append.1 hu with h3 | h3
    · exact bd_mono (sid_bd ba u h3) (by omega)
    · exact bd_mono (sid_bd bb u h3) (by omega)
  obtain ⟨x, ta, ea⟩ := List.exists_cons_of_ne_nil na
  obtain ⟨y, tb, eb⟩ := List.exists_cons_of_ne_nil nb
  have hx : a[0]? = some x := by rw [ea]; rfl
  have hy : b[0]? = some y := by rw [eb]; rfl
  have hq0 : (0 : Int) < a.length ∧ (0 : Int) < b.length := by rw [ea, eb]; simp
  obtain ⟨W, hW⟩ : ∃ W, stb sumB U = W := ⟨_, rfl⟩
  have hWl : W.length = U.length := by rw [← hW, stb_length]
  have hsum : sumL a b = ptsS (addC x y) W := by rw [ea, eb, sumL, sumE, ← ea, ← eb, hU, hW]
  have hpl := pts_len W (addC x y)
  obtain ⟨z, ch⟩ := fn93 hS (sumL a b) (by rw [hsum]; omega) (by rw [hsum]; omega) hb
  refine ⟨z, ?_⟩
  have gA : ∀ V, ptA (addC x y) V 0 = addC x y := fun V => by rw [ptA, List.getD_eq_getElem?_getD, pts_zero]; rfl
  have gT : ∀ V, (ptsS (addC x y) V).take (0 + 1) = [addC x y] := fun V => by rw [List.take_add_one, pts_zero]; rfl
  have gC : ∀ p : Int × Int, cellsI [p] = [vi p.1, vi p.2] := fun _ => rfl
  have gN : cellsI [] = [] := rfl
  have bx := ba x (by rw [ea]; simp)
  have by' := bb y (by rw [eb]; simp)
  unfold bd at bx by'
  have w1 : IntKind.wrap .i64 (x.1 + y.1) = x.1 + y.1 := wrap64 (by omega) (by omega)
  have w2 : IntKind.wrap .i64 (x.2 + y.2) = x.2 + y.2 := wrap64 (by omega) (by omega)
  have cU := fn108 (sidS a) (sidS b) (by omega) (by omega)
  rw [hU] at cU
  rw [hsum] at ch hb ⊢
  refine Ct.by gok eok mixed func105 c105 rfl (by simp [ntmps105]) (by simp) (by simp [ResIds]) fun E hE => ?_
  simp [p105]
  refine ACall.mk _ _ _ (fz_sp (fn109 a (by omega) (fun q hq => bd_mono (ba q hq) (by omega)))) (by first | (simp; done) | simp [Bor_ls, Bor1_ls]) (by simp) (by first | (left; simp; done) | (right; simp; done)) ?_
  simp
  refine ACall.mk _ _ _ (fz_sp (fn109 b (by omega) (fun q hq => bd_mono (bb q hq) (by omega)))) (by first | (simp; done) | simp [Bor_ls, Bor1_ls]) (by simp) (by first | (left; simp; done) | (right; simp; done)) ?_
  simp [splice, repl]
  refine ACall.mk _ _ _ (cU) (by simp [bor_two_ls, twoD]) (by simp) (by first | (left; simp; done) | (right; simp; done) | (right; simp; exact fun a h => spD_lit a h)) ?_
  simp
  by_cases hu0 : U = []
  · subst hu0
    have hW0 : W = [] := List.eq_nil_of_length_eq_zero (by simpa using hWl)
    subst hW0
    refine ACall.mk _ _ _ (sort_nil (.fn 139 [])) (by first | (simp; done) | simp [Bor_ls]) (by simp) (by first | (left; simp; done) | (right; simp; done)) ?_
    simp [hx, hy, w1, w2, splice, repl]
    refine pw_loopC (α := Nat) 0 (fun _ : Unit => ⟨slots [(7, .ls 0 0 (ptsS (addC x y) ([] : List (Int × Int))).length 2)], lk [(0, cellsI (ptsS (addC x y) ([] : List (Int × Int))))], 1⟩) (fun _ => True) (fun j => ⟨slots [(6, .lp 0 0), (7, .ls 1 0 (j + 1) 2), (39, .ls 2 0 ([] : List (Int × Int)).length 2), (40, vi ([] : List (Int × Int)).length), (41, vi j)], lk [(0, [vi (ptA (addC x y) ([] : List (Int × Int)) j).1, vi (ptA (addC x y) ([] : List (Int × Int)) j).2]), (1, cellsI ((ptsS (addC x y) ([] : List (Int × Int))).take (j + 1))), (2, cellsI ([] : List (Int × Int)))], 3⟩) (fun j => j ≤ ([] : List (Int × Int)).length) (fun j => ([] : List (Int × Int)).length - j) 0 ?_ ?_ (sum_round ([] : List (Int × Int)) (addC x y) (by simp) hb hE) fun _ _ => ?_
    · simp
    · rw [gA, gT]
      refine Weak.mk hE (lk [(0, 30408704), (1, 33554432), (2, 6291456)]) _ _ _ ?_ ?_ ?_ ?_ ?_ <;> simp [addC, gC, gN]
    · simp
      refine ACall.mk _ _ _ (ch) (by simp [bor_own]) (by simp) (by first | (left; simp; done) | (right; simp; done) | (right; simp; exact fun a h => spD_lit a h)) ?_
      simp
      refine RetOk.by (lk [(0, 1048577)]) ?_
      simp [results105]
  · have hpos : 0 < U.length := List.length_pos_iff.2 hu0
    have n0 : spD U ≠ [] := spD_ne hpos
    have cs := fn138 sum_cmp U hUb hpos (by omega)
    rw [hW] at cs
    have cs2 := cs.rename (fun _ => 6291456) 1 (by omega) (by simp) (by simp) (by simp)
    simp [renL, renR] at cs2
    refine ACall.mkR _ _ _ _ _ (cs2) (by simp) (by simp) (by simp [n0]) (by simp) (by first | (left; simp; done) | (right; simp [n0]; done)) ?_
    simp [hx, hy, w1, w2, splice, repl]
    refine pw_loopC (α := Nat) 0 (fun _ : Unit => ⟨slots [(7, .ls 0 0 (ptsS (addC x y) W).length 2)], lk [(0, cellsI (ptsS (addC x y) W))], 1⟩) (fun _ => True) (fun j => ⟨slots [(6, .lp 0 0), (7, .ls 1 0 (j + 1) 2), (39, .ls 2 0 W.length 2), (40, vi W.length), (41, vi j)], lk [(0, [vi (ptA (addC x y) W j).1, vi (ptA (addC x y) W j).2]), (1, cellsI ((ptsS (addC x y) W).take (j + 1))), (2, cellsI W)], 3⟩) (fun j => j ≤ W.length) (fun j => W.length - j) 0 ?_ ?_ (sum_round W (addC x y) (by omega) hb hE) fun _ _ => ?_
    · omega
    · rw [gA, gT]
      refine Weak.mk hE (lk [(0, 30408704), (1, 33554432), (2, 6291456)]) _ _ _ ?_ ?_ ?_ ?_ ?_ <;> simp [addC, hWl, gC]
    · simp
      refine ACall.mk _ _ _ (ch) (by simp [bor_own]) (by simp) (by first | (left; simp; done) | (right; simp; done) | (right; simp; exact fun a h => spD_lit a h)) ?_
      simp
      refine RetOk.by (lk [(0, 1048577)]) ?_
      simp [results105]
end Go.Proofs.Try
namespace Go.Proofs.Try
open Go.Psl
open Go.Stb
def sumErr (a b : List (Int × Int)) : Int := if regS a && regS b then (if nearC (hullP (sumL a b)) then (if 64 < (hullP (sumL a b)).length then 4 else 0) else 11) else 14
def sumOut (a b : List (Int × Int)) : List (Int × Int) := if sumErr a b = 0 then hullP (sumL a b) else []
set_option maxHeartbeats 1000000 in
theorem fn62 (hS : SortOk) (a b : List (Int × Int)) (ha : a.length ≤ 1000000000) (hb : b.length ≤ 1000000000) (hbd : regS a = true → regS b = true → ∀ q ∈ sumL a b, bd 536870912 q) : ∃ z, Ct prog 62 [.d (spansD a), .d (spansD b)] (.tup [hdrV (sumOut a b) 0, vi (sumErr a b)]) (outZ (sumOut a b) z 0) := by
  cases h : regS a && regS b
  · have e : sumErr a b = 14 := by unfold sumErr; rw [h]; rfl
    have e2 : sumOut a b = [] := by unfold sumOut; rw [e]; rfl
    refine ⟨[], ?_⟩
    rw [e, e2, hdrV_nil, outZ_nil]
    have cr := fn98 hS a b ha hb
    rw [h] at cr
    refine Ct.by gok eok mixed func62 c62 rfl (by simp [ntmps62]) (by simp) (by simp [ResIds]) fun E hE => ?_
    simp [p62, splice, repl]
    refine ACall.mk _ _ _ (cr) (by simp [bor_two_ls]) (by simp) (by first | (left; simp; done) | (right; simp; done)) ?_
    simp
    refine RetOk.by (fun _ => none) ?_
    simp [results62]
  have h12 := h
  rw [Bool.and_eq_true] at h12
  have ba := regS_bd h12.1
  have bb := regS_bd h12.2
  have la := regS_len h12.1
  have lb := regS_len h12.2
  have na := (reg_hull h12.1).2
  have nb := (reg_hull h12.2).2
  have cr := fn98 hS a b ha hb
  rw [h] at cr
  obtain ⟨z, cs⟩ := fn105 hS a b na nb (by omega) (by omega) ba bb (hbd h12.1 h12.2)
  obtain ⟨x, ta, ea⟩ := List.exists_cons_of_ne_nil na
  obtain ⟨y, tb, eb⟩ := List.exists_cons_of_ne_nil nb
  have hsl : 0 < (sumL a b).length ∧ (sumL a b).length ≤ 1000 := by
    have s1 := sid_len a
    have s2 := sid_len b
    have : (sumL a b).length = (sidS a ++ sidS b).length + 1 := by
      rw [ea, eb, sumL, pts_len, sumE, stb_length]
    rw [this, List.length_append]; omega
  have hne := hullP_ne (l := sumL a b) hsl.1
  have hpl := hullP_len (sumL a b)
  obtain ⟨P, hP⟩ : ∃ P, hullP (sumL a b) = P := ⟨_, rfl⟩
  rw [hP] at cs hne hpl
  have e0 : sumErr a b = if nearC P then (if 64 < P.length then 4 else 0) else 11 := by unfold sumErr; rw [h, hP]; rfl
  cases h3 : nearC P
  · have e : sumErr a b = 11 := by rw [e0, h3]; rfl
    have e2 : sumOut a b = [] := by unfold sumOut; rw [e]; rfl
    refine ⟨[], ?_⟩
    rw [e, e2, hdrV_nil, outZ_nil]
    refine Ct.by gok eok mixed func62 c62 rfl (by simp [ntmps62]) (by simp) (by simp [ResIds]) fun E hE => ?_
    simp [p62, splice, repl]
    refine ACall.mk _ _ _ (cr) (by simp [bor_two_ls]) (by simp) (by first | (left; simp; done) | (right; simp; done)) ?_
    simp
    refine ACall.mk _ _ _ (cs) (by first | (simp; done) | simp [Bor_ls, Bor1_ls]) (by simp) (by first | (left; simp; done) | (right; simp; done)) ?_
    simp
    refine ACall.mk _ _ _ (fn92 P (by omega)) (by simp [bor_cut (z := z)]) (by simp) (by first | (left; simp; done) | (right; simp; done)) ?_
    simp [h3]
    refine RetOk.by (fun _ => none) ?_
    simp [results62]
  · by_cases h4 : 64 < P.length
    · have e : sumErr a b = 4 := by rw [e0, h3]; simp [h4]
      have e2 : sumOut a b = [] := by unfold sumOut; rw [e]; rfl
      have h4' : (64 : Int) < P.length := by omega
      refine ⟨[], ?_⟩
      rw [e, e2, hdrV_nil, outZ_nil]
      refine Ct.by gok eok mixed func62 c62 rfl (by simp [ntmps62]) (by simp) (by simp [ResIds]) fun E hE => ?_
      simp [p62, splice, repl]
      refine ACall.mk _ _ _ (cr) (by simp [bor_two_ls]) (by simp) (by first | (left; simp; done) | (right; simp; done)) ?_
      simp
      refine ACall.mk _ _ _ (cs) (by first | (simp; done) | simp [Bor_ls, Bor1_ls]) (by simp) (by first | (left; simp; done) | (right; simp; done)) ?_
      simp
      refine ACall.mk _ _ _ (fn92 P (by omega)) (by simp [bor_cut (z := z)]) (by simp) (by first | (left; simp; done) | (right; simp; done)) ?_
      simp [h3, h4']
      refine RetOk.by (fun _ => none) ?_
      simp [results62]
    · have e : sumErr a b = 0 := by rw [e0, h3]; simp [h4]
      have e2 : sumOut a b = P := by unfold sumOut; rw [e, hP]; rfl
      have h4' : ¬ (64 : Int) < P.length := by omega
      refine ⟨z, ?_⟩
      rw [e, e2, hdrV_ne hne, outZ_ne hne]
      refine Ct.by gok eok mixed func62 c62 rfl (by simp [ntmps62]) (by simp) (by simp [ResIds]) fun E hE => ?_
      simp [p62, splice, repl]
      refine ACall.mk _ _ _ (cr) (by simp [bor_two_ls]) (by simp) (by first | (left; simp; done) | (right; simp; done)) ?_
      simp
      refine ACall.mk _ _ _ (cs) (by first | (simp; done) | simp [Bor_ls, Bor1_ls]) (by simp) (by first | (left; simp; done) | (right; simp; done)) ?_
      simp
      refine ACall.mk _ _ _ (fn92 P (by omega)) (by simp [bor_cut (z := z)]) (by simp) (by first | (left; simp; done) | (right; simp; done)) ?_
      simp [h3, h4']
      refine RetOk.by (lk [(0, 11534336)]) ?_
      simp [results62]
end Go.Proofs.Try
namespace Go.Geo
def Sup (l m : List C) : Prop := ∀ (d : C) (M : Int), (∀ v ∈ m, dot d v ≤ M) → ∀ v ∈ l, dot d v ≤ M
theorem Sup.mem {l m : List C} (h : ∀ x ∈ l, x ∈ m) : Sup l m := fun _ _ hM v hv => hM v (h v hv)
theorem Sup.trans {l m k : List C} (h1 : Sup l m) (h2 : Sup m k) : Sup l k := fun d M hM => h1 d M (h2 d M hM)
theorem Sup.hull {l : List C} (h : Sorted l) : Sup l (hullS l) := fun d _ hM q hq => hull_max h (α := d.1) (β := d.2) hM q hq
theorem far_low (f : C) : ∀ l : List C, ∃ N : Int, 0 ≤ N ∧ ∀ v ∈ l, f.2 - v.2 ≤ N
  | [] => ⟨0, by omega, by simp⟩
  | a :: r => by
    obtain ⟨N, h0, h⟩ := far_low f r
    refine ⟨max N (f.2 - a.2), by omega, fun v hv => ?_⟩
    rcases List.mem_cons.1 hv with rfl | hv
    · omega
    · have := h v hv; omega
theorem Sup.first {k l : List C} (hs : Sup k l) {f : C} (h : ∀ v ∈ l, ¬ lt v f) : ∀ x ∈ k, ¬ lt x f := fun x hx hlt => by
  rcases hlt with hlt | ⟨e, hlt⟩
  · have := hs (-1, 0) (-f.1) (fun v hv => by have := h v hv; unfold lt at this; unfold dot; simp only; omega) x hx
    unfold dot at this; simp only at this; omega
  · obtain ⟨N, h0, hN⟩ := far_low f l
    have := hs (-N, -1) (-N * f.1 - f.2) (fun v hv => by
      have h1 := h v hv
      have h2 := hN v hv
      unfold lt at h1
      unfold dot; simp only
      by_cases e : v.1 = f.1
      · rw [e]; omega
      · have h3 : f.1 + 1 ≤ v.1 := by omega
        have h4 := Int.mul_le_mul_of_nonneg_left (show 1 ≤ v.1 - f.1 by omega) h0
        have h5 : N * (v.1 - f.1) = N * v.1 - N * f.1 := Int.mul_sub _ _ _
        have h6 : -N * v.1 = -(N * v.1) := Int.neg_mul _ _
        have h7 : -N * f.1 = -(N * f.1) := Int.neg_mul _ _
        omega) x hx
    unfold dot at this; simp only at this
    rw [e] at this; omega
theorem dot_neg (d v : C) : dot d (neg v) = - dot d v := by unfold dot neg; grind
theorem dot_neg2 (d v : C) : dot (neg d) v = - dot d v := by unfold dot neg; grind
theorem Sup.neg {k l : List C} (hs : Sup k l) : Sup (k.map neg) (l.map neg) := fun d M hM v hv => by
  obtain ⟨y, hy, rfl⟩ := List.mem_map.1 hv
  have := hs (Go.Geo.neg d) M (fun v hv => by
    have := hM (Go.Geo.neg v) (List.mem_map.2 ⟨v, hv, rfl⟩)
    rw [dot_neg] at this; rw [dot_neg2]; exact this) y hy
  rw [dot_neg2] at this; rw [dot_neg]; exact this
theorem Sup.rev {k l : List C} (hs : Sup k l) : Sup (k.reverse.map Go.Geo.neg) (l.reverse.map Go.Geo.neg) := by
  refine Sup.neg fun d M hM v hv => hs d M (fun v hv => hM v (List.mem_reverse.2 hv)) v (List.mem_reverse.1 hv)
theorem cross_sup {k l : List C} (hs : Sup k l) {b c : C} (h : ∀ q ∈ l, 0 ≤ cross b c q) : ∀ q ∈ k, 0 ≤ cross b c q := fun q hq => by
  have e : ∀ q, dot (c.2 - b.2, -(c.1 - b.1)) q = dot (c.2 - b.2, -(c.1 - b.1)) b - cross b c q := fun q => by unfold dot cross; grind
  have := hs (c.2 - b.2, -(c.1 - b.1)) (dot (c.2 - b.2, -(c.1 - b.1)) b) (fun v hv => by have := h v hv; rw [e v]; omega) q hq
  rw [e q] at this; omega
theorem Good.sup {k l : List C} (hs : Sup k l) : ∀ {st : List C}, Good l st → Good k st
  | [], _ => trivial
  | [_], _ => trivial
  | [_, _], h => ⟨h.1, cross_sup hs h.2⟩
  | _ :: _ :: _ :: _, h => ⟨h.1, h.2.1, cross_sup hs h.2.2.1, Good.sup hs h.2.2.2⟩
theorem chain_more {l k : List C} (hl : Sorted l) (hk : Sorted k) (hs : ∀ x ∈ l, x ∈ k) (hS : Sup k l) (hne : l ≠ []) : chainR k = chainR l := by
  have c1 := chain_is l hl
  obtain ⟨f, t, e⟩ := List.exists_cons_of_ne_nil hne
  have hf : l.head? = some f := by rw [e]; rfl
  obtain ⟨g, hg⟩ : ∃ g, l.getLast? = some g := by
    cases h : l.getLast? with
    | none => rw [List.getLast?_eq_none_iff] at h; exact absurd h hne
    | some g => exact ⟨g, rfl⟩
  have kf : k.head? = some f := head_is hk (hs f (List.mem_of_head? hf)) (hS.first (sorted_first hl hf))
  have kg : k.getLast? = some g := by
    refine last_is hk (hs g (List.mem_of_getLast? hg)) fun x hx hlt => ?_
    refine hS.neg.first (f := Go.Geo.neg g) (fun v hv => ?_) (Go.Geo.neg x) (List.mem_map.2 ⟨x, hx, rfl⟩) (lt_neg.2 hlt)
    obtain ⟨y, hy, rfl⟩ := List.mem_map.1 hv
    exact fun h => sorted_last hl hg y hy (lt_neg.1 h)
  refine chain_unique hk (chain_is k hk) ⟨c1.good.sup hS, c1.sub.trans (sub_of_mem hl hk hs), ?_, ?_⟩
  · rw [c1.top, hg, kg]
  · rw [c1.bot, hf, kf]
theorem chain_more2 {l k : List C} (hl : Sorted l) (hk : Sorted k) (hs : ∀ x ∈ l, x ∈ k) (hS : Sup k l) (hne : l ≠ []) : chainR k.reverse = chainR l.reverse := by
  have := chain_more (sorted_neg hl) (sorted_neg hk) (fun x hx => by
    obtain ⟨y, hy, rfl⟩ := List.mem_map.1 hx
    exact List.mem_map.2 ⟨y, List.mem_reverse.2 (hs y (List.mem_reverse.1 hy)), rfl⟩) hS.rev (fun e => hne (by simpa using e))
  rw [chainR_neg, chainR_neg] at this
  have k := congrArg (List.map neg) this
  rwa [neg_map_map, neg_map_map] at k
theorem hull_more {l k : List C} (hl : Sorted l) (hk : Sorted k) (hs : ∀ x ∈ l, x ∈ k) (hS : Sup k l) (hne : l ≠ []) : hullS k = hullS l := by
  have h1 := chain_more hl hk hs hS hne
  have h2 := chain_more2 hl hk hs hS hne
  have hsub := (sub_of_mem hl hk hs).length_le
  by_cases k3 : k.length < 3
  · have l3 : l.length < 3 := by omega
    unfold hullS
    rw [if_pos k3, if_pos l3]
    match k, l, hne, k3 with
    | _, [], hne, _ => exact absurd rfl hne
    | [a], [b], _, _ => have := hs b (by simp); simp at this; rw [this]
    | [a, c], [b, d], _, _ => exact ((sub_of_mem hl hk hs).eq_of_length (by simp)).symm
    | [a, c], [b], _, _ =>
      have hac : lt a c := (List.pairwise_cons.1 hk).1 c (by simp)
      simp [chainR, pushS] at h1
    | _ :: _ :: _ :: _, _, _, k3 => simp at k3; omega
    | [a], _ :: _ :: _, _, _ => simp at hsub
    | [a, c], _ :: _ :: _ :: _, _, _ => simp at hsub
    | [], _ :: _, _, _ => simp at hsub
  · unfold hullS
    rw [if_neg k3, h1, h2]
    by_cases l3 : l.length < 3
    · rw [if_pos l3]
      match l, hne, l3 with
      | [], hne, _ => exact absurd rfl hne
      | [b], _, _ =>
        obtain ⟨f, g, lo, up, hf, hg, hfg, e1, e2, b1, b2⟩ := chains hk (by omega)
        rw [e1] at h1
        simp [chainR, pushS] at h1
        rw [h1.2] at b1; simp at b1
      | [b, d], _, _ => simp [chainR, pushS]
      | _ :: _ :: _ :: _, _, l3 => simp at l3; omega
    · rw [if_neg l3]
theorem Sup.union {k l m : List C} (hk : ∀ x ∈ k, x ∈ l ∨ x ∈ m) (h : Sup m l) : Sup k l := fun d M hM v hv => by
  rcases hk v hv with h' | h'
  · exact hM v h'
  · exact h d M hM v h'
theorem hull_same {l m k : List C} (hl : Sorted l) (hm : Sorted m) (hk : Sorted k) (he : ∀ x, x ∈ k ↔ x ∈ l ∨ x ∈ m) (hl0 : l ≠ []) (hm0 : m ≠ []) (h1 : Sup l m) (h2 : Sup m l) : hullS l = hullS m := by
  rw [← hull_more hl hk (fun x hx => (he x).2 (Or.inl hx)) (Sup.union (fun x hx => (he x).1 hx) h2) hl0]
  exact hull_more hm hk (fun x hx => (he x).2 (Or.inr hx)) (Sup.union (fun x hx => ((he x).1 hx).symm) h1) hm0
theorem in_of_sup {l k : List C} (hl : Sorted l) (hne : l ≠ []) {p : C} (hp : Sup [p] l) (hk : Sorted k) (he : ∀ x, x ∈ k ↔ x ∈ l ∨ x = p) : InR (hullS l) p := by
  rw [← hull_more hl hk (fun x hx => (he x).2 (Or.inl hx)) (Sup.union (m := [p]) (fun x hx => by rcases (he x).1 hx with h | h; exact Or.inl h; exact Or.inr (by rw [h]; simp)) hp) hne]
  exact hull_in hk p ((he p).2 (Or.inr rfl))
theorem in_sup {l : List C} (h : Sorted l) {p : C} (hp : InR (hullS l) p) : Sup [p] (hullS l) := fun d M hM v hv => by
  rw [List.mem_singleton.1 hv]
  exact in_max h (α := d.1) (β := d.2) hM hp
end Go.Geo
namespace Go.Geo
def bf (a b : C) : Prop := (pos a ∧ ¬ pos b) ∨ ((pos a ↔ pos b) ∧ 0 < xp a b)
instance (a b : C) : Decidable (bf a b) := by unfold bf pos; infer_instance
theorem not_pos {a : C} (ha : a ≠ (0, 0)) (h : ¬ pos a) : pos (neg a) := by
  unfold pos at *; unfold neg
  have : ¬ (a.1 = 0 ∧ a.2 = 0) := fun h => ha (Prod.ext h.1 h.2)
  simp only; omega
theorem xp_neg1 (a b : C) : xp (neg a) b = - xp a b := by unfold xp neg; grind
theorem xp_neg2 (a b : C) : xp a (neg b) = - xp a b := by unfold xp neg; grind
def le2 (a b : C) : Prop := ¬ bf b a
theorem le2_trans {a b c : C} (ha : a ≠ (0, 0)) (hb : b ≠ (0, 0)) (hc : c ≠ (0, 0)) (h1 : le2 a b) (h2 : le2 b c) : le2 a c := by
  unfold le2 bf at *
  by_cases pa : pos a <;> by_cases pb : pos b <;> by_cases pc : pos c <;> simp only [pa, pb, pc, not_true, not_false_eq_true, and_true, and_false, true_and, false_and, or_false, false_or, iff_self, true_iff, false_iff, Int.not_lt] at h1 h2 ⊢
  · have e1 := xp_neg b a
    have e2 := xp_neg c b
    have e3 := xp_neg c a
    have := tr pa pb pc (by omega) (by omega)
    omega
  · have e1 := xp_neg b a
    have e2 := xp_neg c b
    have e3 := xp_neg c a
    have := tr (not_pos ha pa) (not_pos hb pb) (not_pos hc pc) (by rw [xp_neg1, xp_neg2]; omega) (by rw [xp_neg1, xp_neg2]; omega)
    rw [xp_neg1, xp_neg2] at this; omega
def sm (d : C) (l : List C) : Int := (l.map (dot d)).sum
theorem sm_nil (d : C) : sm d [] = 0 := rfl
theorem sm_cons (d a : C) (l : List C) : sm d (a :: l) = dot d a + sm d l := by simp [sm]
theorem sm_app (d : C) (l m : List C) : sm d (l ++ m) = sm d l + sm d m := by simp [sm]
theorem sm_perm {d : C} {l m : List C} (h : l.Perm m) : sm d l = sm d m := by
  unfold sm
  induction h with
  | nil => rfl
  | cons x _ ih => simp [ih]
  | swap x y l => simp; omega
  | trans _ _ i1 i2 => rw [i1, i2]
theorem sm_nonneg {d : C} : ∀ {l : List C}, (∀ e ∈ l, 0 ≤ dot d e) → 0 ≤ sm d l
  | [], _ => by simp [sm]
  | a :: r, h => by
    rw [sm_cons]
    have := h a (by simp)
    have := sm_nonneg (fun e he => h e (List.mem_cons_of_mem _ he))
    omega
theorem sm_nonpos {d : C} : ∀ {l : List C}, (∀ e ∈ l, dot d e ≤ 0) → sm d l ≤ 0
  | [], _ => by simp [sm]
  | a :: r, h => by
    rw [sm_cons]
    have := h a (by simp)
    have := sm_nonpos (fun e he => h e (List.mem_cons_of_mem _ he))
    omega
def lf (d : C) : C := (-d.2, d.1)
theorem dot_lf (d e : C) : dot d e = xp e (lf d) := by unfold dot xp lf; grind
theorem dot0 (e : C) : dot (0, 0) e = 0 := by unfold dot; grind
def mx (d : C) (l : List C) : Int := sm d (l.filter fun e => decide (bf e (lf d)))
theorem mx_app (d : C) (l m : List C) : mx d (l ++ m) = mx d l + mx d m := by unfold mx; rw [List.filter_append, sm_app]
theorem mx_perm {d : C} {l m : List C} (h : l.Perm m) : mx d l = mx d m := sm_perm (h.filter _)
def Dirs (l : List C) : Prop := (∀ e ∈ l, e ≠ (0, 0)) ∧ l.Pairwise le2
theorem before_prefix {u : C} (hu : u ≠ (0, 0)) : ∀ {l : List C}, Dirs l → ∃ m, l = l.filter (fun e => decide (bf e u)) ++ m ∧ ∀ e ∈ m, ¬ bf e u
  | [], _ => ⟨[], rfl, by simp⟩
  | a :: r, h => by
    obtain ⟨hz, hp⟩ := h
    have hp' := List.pairwise_cons.1 hp
    have hr : Dirs r := ⟨fun e he => hz e (List.mem_cons_of_mem _ he), hp'.2⟩
    by_cases ha : bf a u
    · obtain ⟨m, e, hm⟩ := before_prefix hu hr
      refine ⟨m, ?_, hm⟩
      rw [List.filter_cons, if_pos (by simpa using ha), List.cons_append, ← e]
    · have hall : ∀ e ∈ r, ¬ bf e u := fun e he => le2_trans hu (hz a (by simp)) (hz e (List.mem_cons_of_mem _ he)) ha (hp'.1 e he)
      refine ⟨a :: r, ?_, fun e he => ?_⟩
      · rw [List.filter_eq_nil_iff.2]; rfl
        intro e he
        rcases List.mem_cons.1 he with rfl | he
        · simpa using ha
        · simpa using hall e he
      · rcases List.mem_cons.1 he with rfl | he
        · exact ha
        · exact hall e he
theorem app_split {x y s t : List C} (h : x ++ y = s ++ t) : (∃ z, s = x ++ z ∧ y = z ++ t) ∨ ∃ z, x = s ++ z ∧ t = z ++ y := by
  rcases List.append_eq_append_iff.1 h with ⟨z, h1, h2⟩ | ⟨z, h1, h2⟩
  · exact Or.inl ⟨z, h1, h2⟩
  · exact Or.inr ⟨z, h1, h2⟩
theorem mx_zero (l : List C) : mx (0, 0) l = 0 := by
  have h : ∀ l, sm (0, 0) l = 0 := fun l => by
    have h1 := sm_nonneg (d := (0, 0)) (l := l) (fun e _ => by rw [dot0]; omega)
    have h2 := sm_nonpos (d := (0, 0)) (l := l) (fun e _ => by rw [dot0]; omega)
    omega
  exact h _
theorem mx_most {d : C} {l : List C} (h : Dirs l) (h0 : sm d l = 0) {x y : List C} (e : l = x ++ y) : sm d x ≤ mx d l := by
  by_cases hd : d = (0, 0)
  · subst hd
    rw [mx_zero]
    exact sm_nonpos fun e _ => by rw [dot0]; omega
  have hu : lf d ≠ (0, 0) := fun h => hd (by
    have h1 := congrArg Prod.fst h
    have h2 := congrArg Prod.snd h
    simp only [lf] at h1 h2
    exact Prod.ext h2 (by simp only; omega))
  obtain ⟨m, hm, hb⟩ := before_prefix hu h
  obtain ⟨s, hs⟩ : ∃ s, l.filter (fun e => decide (bf e (lf d))) = s := ⟨_, rfl⟩
  have hsb : ∀ e ∈ s, bf e (lf d) := fun e he => by rw [← hs] at he; simpa using (List.mem_filter.1 he).2
  have hmx : mx d l = sm d s := by unfold mx; rw [hs]
  rw [hs] at hm
  rw [hmx]
  obtain ⟨hz, hp⟩ := h
  have htot : sm d s + sm d m = 0 := by rw [← sm_app, ← hm]; exact h0
  rcases app_split (e ▸ hm) with ⟨z, e1, e2⟩ | ⟨z, e1, e2⟩
  ·
    have hsz : sm d s = sm d x + sm d z := by rw [e1, sm_app]
    by_cases hall : ∀ e ∈ z, 0 ≤ dot d e
    · have := sm_nonneg hall; omega
    · simp only [Classical.not_forall, Int.not_le] at hall
      obtain ⟨e', he', hneg⟩ := hall
      have hbz := hsb e' (by rw [e1]; simp [he'])
      rw [dot_lf] at hneg
      have pe : pos e' := by
        rcases hbz with ⟨h1, _⟩ | ⟨_, h2⟩
        · exact h1
        · omega
      have pu : ¬ pos (lf d) := by
        rcases hbz with ⟨_, h1⟩ | ⟨_, h2⟩
        · exact h1
        · omega
      have hx : sm d x ≤ 0 := sm_nonpos fun a ha => by
        have hle : le2 a e' := by
          rw [e] at hp
          refine (List.pairwise_append.1 hp).2.2 a ha e' ?_
          rw [e2]; simp [he']
        have pa : pos a := by
          refine Classical.byContradiction fun na => hle ?_
          exact Or.inl ⟨pe, na⟩
        have h1 : 0 ≤ xp a e' := by
          refine Classical.byContradiction fun hn => hle (Or.inr ⟨by simp [pa, pe], ?_⟩)
          rw [xp_neg]; omega
        have := tr pa pe (not_pos hu pu) h1 (by rw [xp_neg2]; omega)
        rw [xp_neg2] at this
        rw [dot_lf]; omega
      have hm0 : sm d m ≤ 0 := sm_nonpos fun a ha => by
        have := hb a ha
        rw [dot_lf]
        refine Classical.byContradiction fun hn => this ?_
        by_cases pa : pos a
        · exact Or.inl ⟨pa, pu⟩
        · exact Or.inr ⟨by simp [pa, pu], by omega⟩
      omega
  · have hxz : sm d x = sm d s + sm d z := by rw [e1, sm_app]
    by_cases hall : ∀ e ∈ z, dot d e ≤ 0
    · have := sm_nonpos hall; omega
    · simp only [Classical.not_forall, Int.not_le] at hall
      obtain ⟨e', he', hpos⟩ := hall
      have hnb := hb e' (by rw [e2]; simp [he'])
      rw [dot_lf] at hpos
      have pu : pos (lf d) := by
        refine Classical.byContradiction fun pu => hnb ?_
        by_cases pa : pos e'
        · exact Or.inl ⟨pa, pu⟩
        · exact Or.inr ⟨by simp [pa, pu], by omega⟩
      have ne : ¬ pos e' := fun pe => hnb (Or.inr ⟨by simp [pe, pu], by omega⟩)
      have ze : e' ≠ (0, 0) := hz e' (by rw [hm, e2]; simp [he'])
      have hy : 0 ≤ sm d y := sm_nonneg fun a ha => by
        have za : a ≠ (0, 0) := hz a (by rw [e]; simp [ha])
        have hle : le2 e' a := by
          rw [e] at hp
          refine (List.pairwise_append.1 hp).2.2 e' ?_ a ha
          rw [e1]; simp [he']
        have na : ¬ pos a := fun pa => hle (Or.inl ⟨pa, ne⟩)
        have h1 : 0 ≤ xp e' a := by
          refine Classical.byContradiction fun hn => hle (Or.inr ⟨by simp [na, ne], ?_⟩)
          rw [xp_neg]; omega
        have := tr pu (not_pos ze ne) (not_pos za na) (by rw [xp_neg2, xp_neg]; omega) (by rw [xp_neg1, xp_neg2]; omega)
        rw [xp_neg2, xp_neg] at this
        rw [dot_lf]; omega
      have hs0 : 0 ≤ sm d s := sm_nonneg fun a ha => by
        rw [dot_lf]
        rcases hsb a ha with ⟨_, h2⟩ | ⟨_, h2⟩
        · exact absurd pu h2
        · omega
      have hm' : sm d m = sm d z + sm d y := by rw [e2, sm_app]
      omega
theorem mx_met {d : C} {l : List C} (h : Dirs l) : ∃ x y, l = x ++ y ∧ sm d x = mx d l := by
  by_cases hd : d = (0, 0)
  · subst hd
    exact ⟨[], l, rfl, by rw [mx_zero, sm_nil]⟩
  have hu : lf d ≠ (0, 0) := fun h => hd (by
    have h1 := congrArg Prod.fst h
    have h2 := congrArg Prod.snd h
    simp only [lf] at h1 h2
    exact Prod.ext h2 (by simp only; omega))
  obtain ⟨m, hm, _⟩ := before_prefix hu h
  exact ⟨_, m, hm, rfl⟩
end Go.Geo
namespace Go.Geo
def df (e : C × C) : C := sb e.2 e.1
theorem good_turn {done : List C} : ∀ {st : List C}, Good done st → (edg st).Pairwise (fun e' e => 0 < xp (df e) (df e')) ∧ ∀ e ∈ edg st, pos (df e)
  | [], _ => ⟨List.Pairwise.nil, by simp [edg]⟩
  | [_], _ => ⟨List.Pairwise.nil, by simp [edg]⟩
  | [c, b], h => ⟨List.pairwise_singleton _ _, fun e he => by simp [edg] at he; subst he; exact pos_sb h.1⟩
  | c :: b :: a :: r, h => by
    obtain ⟨h1, h2⟩ := good_turn h.2.2.2
    have hcb : pos (df (b, c)) := pos_sb h.1
    have hba : pos (df (a, b)) := h2 (a, b) (by simp [edg])
    have ht : 0 < xp (df (a, b)) (df (b, c)) := by have := h.2.1; rw [cross_xp2] at this; exact this
    refine ⟨?_, fun e he => ?_⟩
    · show ((b, c) :: edg (b :: a :: r)).Pairwise _
      refine List.pairwise_cons.2 ⟨fun e he => ?_, h1⟩
      have h1' := List.pairwise_cons.1 (show ((a, b) :: edg (a :: r)).Pairwise _ from h1)
      rcases List.mem_cons.1 (show e ∈ (a, b) :: edg (a :: r) from he) with rfl | he'
      · exact ht
      · exact tr_s1 (h2 e he) hba hcb (h1'.1 e he') (Int.le_of_lt ht)
    · rcases List.mem_cons.1 (show e ∈ (b, c) :: edg (b :: a :: r) from he) with rfl | he'
      · exact hcb
      · exact h2 e he'
theorem cyc_hull_eq {l : List C} (h : Sorted l) (h3 : 3 ≤ l.length) : cyc (hullS l) = (edg (chainR l)).reverse ++ (edg (chainR l.reverse)).reverse := by
  obtain ⟨f, g, lo, up, hf, hg, hfg, e1, e2, b1, b2⟩ := chains h (by omega)
  unfold hullS
  rw [if_neg (by omega), e1, e2]
  simp only [List.tail_cons]
  obtain ⟨lo', rfl⟩ : ∃ lo', lo = lo' ++ [f] := by
    rcases List.eq_nil_or_concat lo with rfl | ⟨x, y, rfl⟩
    · simp at b1
    · rw [List.concat_eq_append] at b1 ⊢; simp at b1; exact ⟨x, by rw [b1]⟩
  obtain ⟨up', rfl⟩ : ∃ up', up = up' ++ [g] := by
    rcases List.eq_nil_or_concat up with rfl | ⟨x, y, rfl⟩
    · simp at b2
    · rw [List.concat_eq_append] at b2 ⊢; simp at b2; exact ⟨x, by rw [b2]⟩
  have hc : cyc ((lo' ++ [f]).reverse ++ (up' ++ [g]).reverse) = steps ((g :: (lo' ++ [f])).reverse) ++ steps ((f :: (up' ++ [g])).reverse) := by
    simp only [List.reverse_append, List.reverse_cons, List.reverse_nil, List.nil_append, List.cons_append, cyc]
    have := steps_app g (up'.reverse ++ [f]) (f :: lo'.reverse)
    simpa [List.append_assoc] using this
  rw [hc, steps_rev, steps_rev]
theorem le2_of_pos {a b : C} (pa : pos a) (_ : pos b) (h : 0 < xp a b) : le2 a b := by
  rintro (⟨_, h2⟩ | ⟨_, h2⟩)
  · exact h2 pa
  · rw [xp_neg] at h2; omega
theorem pos_ne {a : C} (h : pos a) : a ≠ (0, 0) := fun e => by subst e; unfold pos at h; simp at h
theorem pos_not {a : C} (h : pos (neg a)) : ¬ pos a := fun h2 => by unfold pos neg at *; simp only at h; omega
theorem le2_neg {a b : C} (_ : pos (neg a)) (pb : pos (neg b)) (h : 0 < xp a b) : le2 a b := by
  rintro (⟨h1, _⟩ | ⟨_, h2⟩)
  · exact pos_not pb h1
  · rw [xp_neg] at h2; omega
theorem df_neg (e : C × C) : df (neg e.1, neg e.2) = neg (df e) := by unfold df sb neg; simp only; exact Prod.ext (by simp only; omega) (by simp only; omega)
theorem dirs_hull {l : List C} (h : Sorted l) (h2 : 2 ≤ (hullS l).length) : Dirs ((cyc (hullS l)).map df) := by
  by_cases h3 : l.length < 3
  · have e : hullS l = l := by unfold hullS; rw [if_pos h3]
    rw [e] at h2 ⊢
    match l, h2, h3, h with
    | [f, g], _, _, h =>
      have hfg : lt f g := (List.pairwise_cons.1 h).1 g (by simp)
      have p1 : pos (df (f, g)) := pos_sb hfg
      have p2 : pos (neg (df (g, f))) := by
        have : neg (df (g, f)) = df (f, g) := by unfold df sb neg; simp only; exact Prod.ext (by simp only; omega) (by simp only; omega)
        rw [this]; exact p1
      show Dirs [df (f, g), df (g, f)]
      refine ⟨fun e he => ?_, ?_⟩
      · simp only [List.mem_cons, List.not_mem_nil, or_false] at he
        rcases he with rfl | rfl
        · exact pos_ne p1
        · intro e; rw [e] at p2; revert p2; unfold pos neg; simp
      · refine List.pairwise_cons.2 ⟨fun e he => ?_, List.pairwise_singleton _ _⟩
        rw [List.mem_singleton.1 he]
        rintro (⟨h1, _⟩ | ⟨h1, _⟩)
        · exact pos_not p2 h1
        · exact pos_not p2 (h1.2 p1)
    | [_], h2, _, _ => simp at h2
    | [], h2, _, _ => simp at h2
    | _ :: _ :: _ :: _, _, h3, _ => simp at h3; omega
  · rw [cyc_hull_eq h (by omega), List.map_append, List.map_reverse, List.map_reverse]
    obtain ⟨g1, g2⟩ := good_turn (chain_is l h).good
    obtain ⟨k1, k2⟩ := good_turn (up_is h).good
    rw [edg_map, List.pairwise_map] at k1
    rw [edg_map] at k2
    have k2' : ∀ e ∈ edg (chainR l.reverse), pos (neg (df e)) := fun e he => by
      have := k2 _ (List.mem_map.2 ⟨e, he, rfl⟩)
      rwa [df_neg] at this
    have nz : ∀ {a : C}, pos (neg a) → a ≠ (0, 0) := fun h e => by rw [e] at h; revert h; unfold pos neg; simp
    refine ⟨fun e he => ?_, ?_⟩
    · rcases List.mem_append.1 he with he | he
      · obtain ⟨x, hx, rfl⟩ := List.mem_map.1 (List.mem_reverse.1 he)
        exact pos_ne (g2 x hx)
      · obtain ⟨x, hx, rfl⟩ := List.mem_map.1 (List.mem_reverse.1 he)
        exact nz (k2' x hx)
    · refine List.pairwise_append.2 ⟨?_, ?_, fun a ha b hb => ?_⟩
      · rw [List.pairwise_reverse, List.pairwise_map]
        exact g1.imp_of_mem fun ha hb hab => le2_of_pos (g2 _ hb) (g2 _ ha) hab
      · rw [List.pairwise_reverse, List.pairwise_map]
        refine k1.imp_of_mem fun ha hb hab => ?_
        rw [df_neg, df_neg, xp_neg1, xp_neg2] at hab
        exact le2_neg (k2' _ hb) (k2' _ ha) (by omega)
      · obtain ⟨x, hx, rfl⟩ := List.mem_map.1 (List.mem_reverse.1 ha)
        obtain ⟨y, hy, rfl⟩ := List.mem_map.1 (List.mem_reverse.1 hb)
        rintro (⟨h1, _⟩ | ⟨h1, _⟩)
        · exact pos_not (k2' y hy) h1
        · exact pos_not (k2' y hy) (h1.2 (g2 x hx))
def ad (p e : C) : C := (p.1 + e.1, p.2 + e.2)
def way : C → List C → List C
  | p, [] => [p]
  | p, e :: r => p :: way (ad p e) r
theorem dot_ad (d p e : C) : dot d (ad p e) = dot d p + dot d e := by unfold dot ad; grind
theorem way_dot {d q : C} : ∀ {l : List C} {p : C}, q ∈ way p l → ∃ x y, l = x ++ y ∧ dot d q = dot d p + sm d x
  | [], p, h => ⟨[], [], rfl, by simp [way] at h; rw [h, sm_nil]; omega⟩
  | e :: r, p, h => by
    rcases List.mem_cons.1 (show q ∈ p :: way (ad p e) r from h) with rfl | h
    · exact ⟨[], e :: r, rfl, by rw [sm_nil]; omega⟩
    · obtain ⟨x, y, h1, h2⟩ := way_dot (d := d) h
      exact ⟨e :: x, y, by rw [h1]; rfl, by rw [h2, sm_cons, dot_ad]; omega⟩
theorem way_at (d : C) (x y : List C) : ∀ p : C, ∃ q ∈ way p (x ++ y), dot d q = dot d p + sm d x := by
  induction x with
  | nil => exact fun p => ⟨p, by cases y <;> simp [way], by rw [sm_nil]; omega⟩
  | cons e r ih =>
    intro p
    obtain ⟨q, h1, h2⟩ := ih (ad p e)
    exact ⟨q, List.mem_cons_of_mem _ h1, by rw [h2, sm_cons, dot_ad]; omega⟩
theorem way_steps : ∀ (t : List C) (a : C), way a ((steps (a :: t)).map df) = a :: t
  | [], a => rfl
  | b :: r, a => by
    show a :: way (ad a (df (a, b))) ((steps (b :: r)).map df) = _
    have : ad a (df (a, b)) = b := by unfold ad df sb; exact Prod.ext (by simp only; omega) (by simp only; omega)
    rw [this, way_steps r b]
theorem sm_steps (d : C) : ∀ (t : List C) (a b : C), sm d ((steps (a :: t ++ [b])).map df) = dot d b - dot d a
  | [], a, b => by
    show sm d [df (a, b)] = _
    rw [sm_cons, sm_nil]; unfold df; rw [dot_sb]; simp only; omega
  | c :: r, a, b => by
    show sm d (df (a, c) :: (steps (c :: r ++ [b])).map df) = _
    rw [sm_cons, sm_steps d r c b]; unfold df; rw [dot_sb]; simp only; omega
def sds (r : List C) : List C := if 1 < r.length then (cyc r).map df else []
theorem sds_zero (d : C) (r : List C) : sm d (sds r) = 0 := by
  unfold sds
  split
  · match r with
    | [] => rfl
    | a :: t =>
      show sm d ((steps (a :: t ++ [a])).map df) = 0
      rw [sm_steps]; omega
  · rfl
theorem sds_way {r : List C} {a : C} (h : r.head? = some a) (q : C) : q ∈ way a (sds r) ↔ q ∈ r := by
  match r, h with
  | b :: t, h =>
    simp at h; subst h
    unfold sds
    split
    · show q ∈ way b ((steps (b :: (t ++ [b]))).map df) ↔ _
      rw [way_steps]; simp; exact ⟨fun h => by rcases h with h | h | h <;> simp [h], fun h => by rcases h with h | h <;> simp [h]⟩
    · rename_i hl
      have : t = [] := by cases t <;> simp_all
      subst this
      simp [way]
theorem sds_dirs {l : List C} (h : Sorted l) : Dirs (sds (hullS l)) := by
  unfold sds
  split
  · exact dirs_hull h (by omega)
  · exact ⟨by simp, List.Pairwise.nil⟩
theorem hull_mx {l : List C} (h : Sorted l) {a : C} (ha : (hullS l).head? = some a) (d : C) : (∀ v ∈ hullS l, dot d v ≤ dot d a + mx d (sds (hullS l))) ∧ ∃ v ∈ hullS l, dot d v = dot d a + mx d (sds (hullS l)) := by
  constructor
  · intro v hv
    obtain ⟨x, y, h1, h2⟩ := way_dot (d := d) ((sds_way ha v).2 hv)
    have := mx_most (sds_dirs h) (sds_zero d _) h1
    omega
  · obtain ⟨x, y, h1, h2⟩ := mx_met (d := d) (sds_dirs h)
    obtain ⟨q, h3, h4⟩ := way_at d x y a
    rw [← h1] at h3
    exact ⟨q, (sds_way ha q).1 h3, by omega⟩
theorem sum_mx {A B : List C} {l m : List C} (hl : Sorted l) (hm : Sorted m) (eA : A = hullS l) (eB : B = hullS m) {a b : C} (ha : A.head? = some a) (hb : B.head? = some b) {E : List C} (hp : E.Perm (sds A ++ sds B)) (hE : E.Pairwise le2) (d : C) :
    (∀ q ∈ way (ad a b) E, ∃ v ∈ A, ∃ w ∈ B, dot d q ≤ dot d (ad v w)) ∧ ∀ v ∈ A, ∀ w ∈ B, ∃ q ∈ way (ad a b) E, dot d (ad v w) ≤ dot d q := by
  subst eA; subst eB
  have hd : Dirs E := ⟨fun e he => by
    rcases List.mem_append.1 (hp.mem_iff.1 he) with h | h
    · exact (sds_dirs hl).1 e h
    · exact (sds_dirs hm).1 e h, hE⟩
  have h0 : sm d E = 0 := by rw [sm_perm hp, sm_app, sds_zero, sds_zero]; rfl
  have hmx : mx d E = mx d (sds (hullS l)) + mx d (sds (hullS m)) := by rw [mx_perm hp, mx_app]
  obtain ⟨a1, v, hv, a2⟩ := hull_mx hl ha d
  obtain ⟨b1, w, hw, b2⟩ := hull_mx hm hb d
  constructor
  · intro q hq
    obtain ⟨x, y, h1, h2⟩ := way_dot (d := d) hq
    have := mx_most hd h0 h1
    refine ⟨v, hv, w, hw, ?_⟩
    rw [dot_ad] at h2 ⊢
    omega
  · intro v' hv' w' hw'
    obtain ⟨x, y, h1, h2⟩ := mx_met (d := d) hd
    obtain ⟨q, h3, h4⟩ := way_at d x y (ad a b)
    rw [← h1] at h3
    refine ⟨q, h3, ?_⟩
    have := a1 v' hv'
    have := b1 w' hw'
    rw [dot_ad] at h4 ⊢
    omega
end Go.Geo
namespace Go.Proofs.Try
open Go.Psl
open Go.Geo (cross cyc InR box hullS)
theorem hullP_le (l : List (Int × Int)) : (hullP l).length ≤ l.length := by
  have h1 := Go.Geo.hull_le (sorted_dd l)
  have h2 : (ddC (sortC l)).length ≤ l.length := by
    have := dd_len (sortC l) (sortC l).length
    rw [List.take_length, sortC_len] at this; exact this
  unfold hullP; omega
theorem hullP_sub {l : List (Int × Int)} {q : Int × Int} (h : q ∈ hullP l) : q ∈ l := by
  have := Go.Geo.hull_sub (sorted_dd l) q h
  rwa [ddC_mem, sortC_mem] at this
end Go.Proofs.Try
namespace Go.Proofs.Try
open Go.Psl
open Go.Stb
open Go.Geo (Sup Dirs way sds bf le2 InR hullS)
theorem half_yes {p : Int × Int} (h : Go.Geo.pos p) : halfS p = 0 := if_pos h
theorem half_no {p : Int × Int} (h : ¬ Go.Geo.pos p) : halfS p = 1 := if_neg h
theorem sumB_bf (a b : Int × Int) : sumB a b = decide (bf a b) := by
  unfold sumB sumcS
  have e : turnS a b = Go.Geo.xp a b := rfl
  have k : ∀ x : Int, orI [0, x] = x := fun x => by simp [orI]; exact fun h => h.symm
  rw [e]
  by_cases pa : Go.Geo.pos a <;> by_cases pb : Go.Geo.pos b
  · rw [half_yes pa, half_yes pb, show cmpI 0 0 = 0 from rfl, k]
    simp only [bf, pa, pb, not_true, and_false, false_or, iff_self, true_and]
    unfold cmpI
    split
    · simp [*]
    · split <;> simp [*]
  · rw [half_yes pa, half_no pb, show cmpI 0 1 = -1 from rfl]
    have : orI [-1, cmpI 0 (Go.Geo.xp a b)] = -1 := by simp [orI]
    rw [this]
    simp [bf, pa, pb]
  · rw [half_no pa, half_yes pb, show cmpI 1 0 = 1 from rfl]
    have : orI [1, cmpI 0 (Go.Geo.xp a b)] = 1 := by simp [orI]
    rw [this]
    simp [bf, pa, pb]
  · rw [half_no pa, half_no pb, show cmpI 1 1 = 0 from rfl, k]
    simp only [bf, pa, pb, false_or, iff_self, true_and, false_and]
    unfold cmpI
    split
    · simp [*]
    · split <;> simp [*]
theorem sum_ord : Ord sumB (fun e => e ≠ (0, 0)) (fun x y => (x ≠ (0, 0) ∧ y ≠ (0, 0)) ∧ le2 x y) where
  tr := fun x y z h1 h2 => ⟨⟨h1.1.1, h2.1.2⟩, Go.Geo.le2_trans h1.1.1 h1.1.2 h2.1.2 h1.2 h2.2⟩
  yes := fun x y hx hy h => by
    rw [sumB_bf, decide_eq_true_eq] at h
    refine ⟨⟨hy, hx⟩, fun h2 => ?_⟩
    rcases h with ⟨p1, p2⟩ | ⟨p1, p2⟩
    · rcases h2 with ⟨q1, q2⟩ | ⟨q1, q2⟩
      · exact q2 p1
      · exact p2 (q1.2 p1)
    · rcases h2 with ⟨q1, q2⟩ | ⟨q1, q2⟩
      · exact q2 (p1.2 q1)
      · rw [Go.Geo.xp_neg] at q2; omega
  no := fun x y hx hy h => by
    rw [sumB_bf, decide_eq_false_iff_not] at h
    exact ⟨⟨hx, hy⟩, h⟩
theorem pts_way : ∀ (es : List (Int × Int)) (p : Int × Int), ptsS p es = way p es
  | [], _ => rfl
  | e :: r, p => by
    show p :: ptsS (addC p e) r = p :: way (Go.Geo.ad p e) r
    rw [pts_way r]; rfl
def pairS (s : Int) (a b : List (Int × Int)) : List (Int × Int) := a.flatMap fun p => b.map fun q => (p.1 + s * q.1, p.2 + s * q.2)
theorem mem_pair {s : Int} {a b : List (Int × Int)} {x : Int × Int} : x ∈ pairS s a b ↔ ∃ p ∈ a, ∃ q ∈ b, x = (p.1 + s * q.1, p.2 + s * q.2) := by
  unfold pairS
  simp only [List.mem_flatMap, List.mem_map]
  constructor
  · rintro ⟨p, hp, q, hq, rfl⟩; exact ⟨p, hp, q, hq, rfl⟩
  · rintro ⟨p, hp, q, hq, rfl⟩; exact ⟨p, hp, q, hq, rfl⟩
theorem hullP_same {l m : List (Int × Int)} (hl : l ≠ []) (hm : m ≠ []) (h1 : Sup l m) (h2 : Sup m l) : hullP l = hullP m := by
  have hz : ∀ {l : List (Int × Int)}, l ≠ [] → ddC (sortC l) ≠ [] := fun {l} h e => by
    obtain ⟨x, t, rfl⟩ := List.exists_cons_of_ne_nil h
    have : x ∈ ddC (sortC (x :: t)) := by rw [ddC_mem, sortC_mem]; simp
    rw [e] at this; simp at this
  have hs : ∀ {l m : List (Int × Int)}, Sup l m → Sup (ddC (sortC l)) (ddC (sortC m)) := fun {l m} h d M hM v hv => by
    rw [ddC_mem, sortC_mem] at hv
    exact h d M (fun v hv => hM v (by rw [ddC_mem, sortC_mem]; exact hv)) v hv
  unfold hullP
  refine Go.Geo.hull_same (sorted_dd l) (sorted_dd m) (sorted_dd (l ++ m)) (fun x => ?_) (hz hl) (hz hm) (hs h1) (hs h2)
  rw [ddC_mem, sortC_mem, ddC_mem, sortC_mem, ddC_mem, sortC_mem, List.mem_append]
theorem sup_hullP (l : List (Int × Int)) : Sup l (hullP l) := fun d M hM v hv => (Go.Geo.Sup.hull (sorted_dd l)) d M hM v (by rw [ddC_mem, sortC_mem]; exact hv)
theorem hullP_sup (l : List (Int × Int)) : Sup (hullP l) l := Go.Geo.Sup.mem fun _ hx => hullP_sub hx
theorem hullP_app (l e : List (Int × Int)) (h : l ≠ []) : hullP (hullP l ++ e) = hullP (l ++ e) := by
  have hp : 0 < l.length := List.length_pos_iff.2 h
  refine hullP_same (by simp [hullP_ne hp]) (by simp [h]) (fun d M hM v hv => ?_) (fun d M hM v hv => ?_)
  · rcases List.mem_append.1 hv with h1 | h1
    · exact hullP_sup l d M (fun v hv => hM v (List.mem_append_left _ hv)) v h1
    · exact hM v (List.mem_append_right _ h1)
  · rcases List.mem_append.1 hv with h1 | h1
    · exact sup_hullP l d M (fun v hv => hM v (List.mem_append_left _ hv)) v h1
    · exact hM v (List.mem_append_right _ h1)
theorem sumE_ok {a b : List (Int × Int)} (ha : regS a = true) (hb : regS b = true) : (sumE a b).Perm (sds a ++ sds b) ∧ (sumE a b).Pairwise le2 := by
  have h1 := Go.Geo.sds_dirs (sorted_dd a)
  have h2 := Go.Geo.sds_dirs (sorted_dd b)
  rw [← (reg_hull ha).1] at h1
  rw [← (reg_hull hb).1] at h2
  obtain ⟨p, q⟩ := stb_ok sum_ord (D := sidS a ++ sidS b) fun x hx => by
    rcases List.mem_append.1 hx with h | h
    · exact h1.1 x h
    · exact h2.1 x h
  exact ⟨p, q.imp fun h => h.2⟩
theorem sumL_dot {a b : List (Int × Int)} (ha : regS a = true) (hb : regS b = true) (d : Int × Int) : (∀ q ∈ sumL a b, ∃ v ∈ a, ∃ w ∈ b, Go.Geo.dot d q ≤ Go.Geo.dot d (addC v w)) ∧ ∀ v ∈ a, ∀ w ∈ b, ∃ q ∈ sumL a b, Go.Geo.dot d (addC v w) ≤ Go.Geo.dot d q := by
  obtain ⟨p, q⟩ := sumE_ok ha hb
  obtain ⟨eA, na⟩ := reg_hull ha
  obtain ⟨eB, nb⟩ := reg_hull hb
  obtain ⟨x, ta, xa⟩ := List.exists_cons_of_ne_nil na
  obtain ⟨y, tb, xb⟩ := List.exists_cons_of_ne_nil nb
  have h := Go.Geo.sum_mx (sorted_dd a) (sorted_dd b) eA eB (a := x) (b := y) (by rw [xa]; rfl) (by rw [xb]; rfl) p q d
  have e : sumL a b = way (Go.Geo.ad x y) (sumE a b) := by
    rw [← pts_way]; rw [xa, xb]; rfl
  rw [e]; exact h
theorem sumL_bd {a b : List (Int × Int)} (ha : regS a = true) (hb : regS b = true) : ∀ q ∈ sumL a b, bd 536870912 q := fun q hq => by
  have ba := regS_bd ha
  have bb := regS_bd hb
  have key : ∀ d : Int × Int, (∀ v ∈ a, Go.Geo.dot d v ≤ 268435456) → (∀ w ∈ b, Go.Geo.dot d w ≤ 268435456) → Go.Geo.dot d q ≤ 536870912 := fun d h1 h2 => by
    obtain ⟨v, hv, w, hw, h⟩ := (sumL_dot ha hb d).1 q hq
    have := h1 v hv
    have := h2 w hw
    have e : Go.Geo.dot d (addC v w) = Go.Geo.dot d v + Go.Geo.dot d w := Go.Geo.dot_ad d v w
    omega
  have e1 := key (1, 0) (fun v hv => by have := ba v hv; unfold bd at this; unfold Go.Geo.dot; simp only; omega) (fun v hv => by have := bb v hv; unfold bd at this; unfold Go.Geo.dot; simp only; omega)
  have e2 := key (-1, 0) (fun v hv => by have := ba v hv; unfold bd at this; unfold Go.Geo.dot; simp only; omega) (fun v hv => by have := bb v hv; unfold bd at this; unfold Go.Geo.dot; simp only; omega)
  have e3 := key (0, 1) (fun v hv => by have := ba v hv; unfold bd at this; unfold Go.Geo.dot; simp only; omega) (fun v hv => by have := bb v hv; unfold bd at this; unfold Go.Geo.dot; simp only; omega)
  have e4 := key (0, -1) (fun v hv => by have := ba v hv; unfold bd at this; unfold Go.Geo.dot; simp only; omega) (fun v hv => by have := bb v hv; unfold bd at this; unfold Go.Geo.dot; simp only; omega)
  unfold Go.Geo.dot at e1 e2 e3 e4
  simp only at e1 e2 e3 e4
  unfold bd; omega
theorem addC_pair (v w : Int × Int) : (v.1 + 1 * w.1, v.2 + 1 * w.2) = addC v w := by unfold addC; simp
theorem pair_ne {s : Int} {a b : List (Int × Int)} (na : a ≠ []) (nb : b ≠ []) : pairS s a b ≠ [] := by
  obtain ⟨x, ta, rfl⟩ := List.exists_cons_of_ne_nil na
  obtain ⟨y, tb, rfl⟩ := List.exists_cons_of_ne_nil nb
  intro e
  have : (x.1 + s * y.1, x.2 + s * y.2) ∈ pairS s (x :: ta) (y :: tb) := mem_pair.2 ⟨x, by simp, y, by simp, rfl⟩
  rw [e] at this; simp at this
theorem sumL_ne {a b : List (Int × Int)} (na : a ≠ []) (nb : b ≠ []) : sumL a b ≠ [] := by
  obtain ⟨x, ta, rfl⟩ := List.exists_cons_of_ne_nil na
  obtain ⟨y, tb, rfl⟩ := List.exists_cons_of_ne_nil nb
  intro e
  have := congrArg List.length e
  rw [sumL, pts_len] at this
  simp at this
theorem sum_hull {a b : List (Int × Int)} (ha : regS a = true) (hb : regS b = true) : hullP (sumL a b) = hullP (pairS 1 a b) := by
  have na := (reg_hull ha).2
  have nb := (reg_hull hb).2
  refine hullP_same (sumL_ne na nb) (pair_ne na nb) (fun d M hM q hq => ?_) (fun d M hM q hq => ?_)
  · obtain ⟨v, hv, w, hw, h⟩ := (sumL_dot ha hb d).1 q hq
    have := hM (addC v w) (mem_pair.2 ⟨v, hv, w, hw, (addC_pair v w).symm⟩)
    omega
  · obtain ⟨v, hv, w, hw, rfl⟩ := mem_pair.1 hq
    rw [addC_pair]
    obtain ⟨q, hq, h⟩ := (sumL_dot ha hb d).2 v hv w hw
    have := hM q hq
    omega
def rsum (s : Int) (b : List (Int × Int)) : List (Int × Int) → List (Int × Int) → List (Int × Int)
  | acc, [] => acc
  | acc, p :: r => rsum s b (hullP (acc ++ b.map fun q => (p.1 + s * q.1, p.2 + s * q.2))) r
theorem pair_app (s : Int) (a c b : List (Int × Int)) : pairS s (a ++ c) b = pairS s a b ++ pairS s c b := by unfold pairS; rw [List.flatMap_append]
theorem pair_one (s : Int) (p : Int × Int) (b : List (Int × Int)) : pairS s [p] b = b.map fun q => (p.1 + s * q.1, p.2 + s * q.2) := by simp [pairS]
end Go.Proofs.Try
namespace Go.Proofs.Try
open Go.Psl
def rchN (l : List (Int × Int)) (dx dy : Int) (p : Int × Int) (i : Nat) : Int := if i = 0 then dotS dx dy p else (alN l dx dy i).2
theorem rch_next {l : List (Int × Int)} {dx dy : Int} {p q : Int × Int} {i : Nat} (h0 : l[0]? = some p) (hq : l[i]? = some q) : max (rchN l dx dy p i) (dotS dx dy q) = rchN l dx dy p (i + 1) := by
  unfold rchN
  rw [if_neg (Nat.succ_ne_zero i), alN, hq]
  by_cases h : i = 0
  · subst h
    rw [h0] at hq; cases hq
    simp
  · simp [h]
theorem fn104 (l : List (Int × Int)) (dx dy : Int) (h1 : 0 < l.length) (hl : l.length ≤ 1000000000) (hd : bd 1073741824 (dx, dy)) (hb : ∀ q ∈ l, bd 536870912 q) : Ct prog 104 [.d (spansD l), vi dx, vi dy] (vi (alongS l dx dy).2) [] := by
  refine Ct.by gok eok mixed func104 c104 rfl (by simp [ntmps104]) (by simp) (by simp [ResIds]) fun E hE => ?_
  obtain ⟨p, hp⟩ : ∃ p, l[0]? = some p := ⟨l[0], List.getElem?_eq_getElem h1⟩
  have b := dot_bd hd (hb p (List.mem_of_getElem? hp))
  have w1 : IntKind.wrap .i64 (dx * p.1) = dx * p.1 := wrap64 (by omega) (by omega)
  have w2 : IntKind.wrap .i64 (dy * p.2) = dy * p.2 := wrap64 (by omega) (by omega)
  have w3 : IntKind.wrap .i64 (dx * p.1 + dy * p.2) = dx * p.1 + dy * p.2 := wrap64 (by omega) (by omega)
  have hq : (0 : Int) < l.length := by omega
  simp [p104, hp, w1, w2, w3]
  refine pw_loop (α := Nat) (fun i => ⟨slots [(0, .d (spansD l)), (1, vi dx), (2, vi dy), (7, vi (rchN l dx dy p i)), (8, vi i)], lk [], 0⟩) (fun i => i ≤ l.length) (fun i => l.length - i) 0 ?_ ?_ ?_
  · simp
  · refine Weak.mk hE (lk []) _ _ _ ?_ ?_ ?_ ?_ ?_ <;> simp [rchN, dotS]
  · intro i hi
    have hz : IntKind.wrap .i64 ((i : Int) + 1) = ((i : Int) + 1) := wrap64 (by omega) (by omega)
    simp [p104l0]
    refine cR_split (fun h => ?_) (fun h => ?_)
    · simp at h
      obtain ⟨q, hq2⟩ : ∃ q, l[i]? = some q := ⟨l[i], by simp [h]⟩
      have b := dot_bd hd (hb q (List.mem_of_getElem? hq2))
      have v1 : IntKind.wrap .i64 (dx * q.1) = dx * q.1 := wrap64 (by omega) (by omega)
      have v2 : IntKind.wrap .i64 (dy * q.2) = dy * q.2 := wrap64 (by omega) (by omega)
      have v3 : IntKind.wrap .i64 (dx * q.1 + dy * q.2) = dx * q.1 + dy * q.2 := wrap64 (by omega) (by omega)
      have hn := rch_next (dx := dx) (dy := dy) hp hq2
      have hid : (i : Int) < l.length := by omega
      rw [dotS] at hn
      simp [hq2, v1, v2, v3, hz, hn]
      refine ⟨i + 1, by omega, by omega, ?_⟩
      refine Weak.mk hE (lk []) _ _ _ ?_ ?_ ?_ ?_ ?_ <;> simp
    · simp at h
      have hil : i = l.length := by omega
      subst hil
      have hn : rchN l dx dy p l.length = (alongS l dx dy).2 := by unfold rchN alongS; rw [if_neg (by omega)]
      rw [hn]
      simp
      refine RetOk.by (fun _ => none) ?_
      simp [results104]
end Go.Proofs.Try
namespace Go.Proofs.Try
open Go.Psl
theorem str_split (dx dy : Int) : strS dx dy = ((decide (-1073741824 ≤ dx) && decide (dx ≤ 1073741824)) && (decide (-1073741824 ≤ dy) && decide (dy ≤ 1073741824))) := by
  rw [Bool.eq_iff_iff, strS_iff]; unfold bd; simp
theorem fn61 (r : List (Int × Int)) (dx dy : Int) (hr : r.length ≤ 1000000000) : Ct prog 61 [.d (spansD r), vi dx, vi dy] (.tup [vi (reachV r dx dy), vi (reachE r dx dy)]) [] := by
  refine Ct.by gok eok mixed func61 c61 rfl (by simp [ntmps61]) (by simp) (by simp [ResIds]) fun E hE => ?_
  simp [p61]
  refine ACall.mk _ _ _ (fn67 r hr) (by first | (simp; done) | simp [Bor_ls, Bor1_ls]) (by simp) (by first | (left; simp; done) | (right; simp; done)) ?_
  by_cases h1 : regS r = true
  · simp [h1]
    refine ACall.mk _ _ _ (fn79 dx (-1073741824) 1073741824) (by first | (simp; done) | simp [Bor_ls, Bor1_ls]) (by simp) (by first | (left; simp; done) | (right; simp; done)) ?_
    cases c1 : decide (-1073741824 ≤ dx) && decide (dx ≤ 1073741824)
    · have h2 : strS dx dy = false := by rw [str_split, c1]; rfl
      simp
      refine RetOk.by (fun _ => none) ?_
      simp [results61, reachV, reachE, h1, h2]
    · simp
      refine ACall.mk _ _ _ (fn79 dy (-1073741824) 1073741824) (by first | (simp; done) | simp [Bor_ls, Bor1_ls]) (by simp) (by first | (left; simp; done) | (right; simp; done)) ?_
      cases c2 : decide (-1073741824 ≤ dy) && decide (dy ≤ 1073741824)
      · have h2 : strS dx dy = false := by rw [str_split, c1, c2]; rfl
        simp
        refine RetOk.by (fun _ => none) ?_
        simp [results61, reachV, reachE, h1, h2]
      · have h2 : strS dx dy = true := by rw [str_split, c1, c2]; rfl
        have hl := regS_len h1
        simp
        refine ACall.mk _ _ _ (fn104 r dx dy (by omega) hr (strS_iff.1 h2) (fun q hq => bd_mono (regS_bd h1 q hq) (by omega))) (by first | (simp; done) | simp [Bor_ls, Bor1_ls]) (by simp) (by first | (left; simp; done) | (right; simp; done)) ?_
        simp
        refine RetOk.by (fun _ => none) ?_
        simp [results61, reachV, reachE, h1, h2]
  · simp [h1]
    refine RetOk.by (fun _ => none) ?_
    simp [results61, reachV, reachE, h1]
theorem alN_neg (l : List (Int × Int)) (dx dy : Int) : ∀ i, alN l (-dx) (-dy) i = (-(alN l dx dy i).2, -(alN l dx dy i).1)
  | 0 => rfl
  | i + 1 => by
    unfold alN
    cases l[i]? with
    | none => exact alN_neg l dx dy i
    | some p =>
      have hd : dotS (-dx) (-dy) p = -dotS dx dy p := by unfold dotS; rw [Int.neg_mul, Int.neg_mul]; omega
      simp only [hd]
      by_cases h : i = 0
      · rw [if_pos h, if_pos h]
      · rw [if_neg h, if_neg h, alN_neg l dx dy i]
        ext <;> simp only <;> omega
end Go.Proofs.Try
namespace Go.Proofs.Try
open Go.Psl
theorem al_abs {l : List (Int × Int)} {dx dy : Int} (hd : bd 1073741824 (dx, dy)) (hb : ∀ q ∈ l, bd 536870912 q) : ∀ i, (-1152921504606846976 ≤ (alN l dx dy i).1 ∧ (alN l dx dy i).1 ≤ 1152921504606846976) ∧ (-1152921504606846976 ≤ (alN l dx dy i).2 ∧ (alN l dx dy i).2 ≤ 1152921504606846976)
  | 0 => by unfold alN; simp only; omega
  | i + 1 => by
    have ih := al_abs hd hb i
    unfold alN
    cases h : l[i]? with
    | none => exact ih
    | some p =>
      have b := dot_bd hd (hb p (List.mem_of_getElem? h))
      have e : dotS dx dy p = dx * p.1 + dy * p.2 := rfl
      simp only
      by_cases h0 : i = 0
      · rw [if_pos h0]; simp only; omega
      · rw [if_neg h0]; simp only; omega
theorem fn65 (a b : List (Int × Int)) (dx dy : Int) (ha : a.length ≤ 1000000000) (hb : b.length ≤ 1000000000) : Ct prog 65 [.d (spansD a), .d (spansD b), vi dx, vi dy] (.tup [vb (prtV a b dx dy), vi (prtE a b dx dy)]) [] := by
  refine Ct.by gok eok mixed func65 c65 rfl (by simp [ntmps65]) (by simp) (by simp [ResIds]) fun E hE => ?_
  simp [p65]
  refine ACall.mk _ _ _ (fn67 a ha) (by first | (simp; done) | simp [Bor_ls, Bor1_ls]) (by simp) (by first | (left; simp; done) | (right; simp; done)) ?_
  cases ra : regS a
  · have e : prtE a b dx dy = 14 := by unfold prtE; rw [ra]; rfl
    simp
    refine RetOk.by (fun _ => none) ?_
    simp [results65, prtV, e]
  simp
  refine ACall.mk _ _ _ (fn67 b hb) (by first | (simp; done) | simp [Bor_ls, Bor1_ls]) (by simp) (by first | (left; simp; done) | (right; simp; done)) ?_
  cases rb : regS b
  · have e : prtE a b dx dy = 14 := by unfold prtE; rw [ra, rb]; rfl
    simp
    refine RetOk.by (fun _ => none) ?_
    simp [results65, prtV, e]
  simp
  refine ACall.mk _ _ _ (fn79 dx (-1073741824) 1073741824) (by first | (simp; done) | simp [Bor_ls, Bor1_ls]) (by simp) (by first | (left; simp; done) | (right; simp; done)) ?_
  cases c1 : decide (-1073741824 ≤ dx) && decide (dx ≤ 1073741824)
  · have e : prtE a b dx dy = 2 := by unfold prtE; rw [ra, rb, str_split, c1]; rfl
    simp
    refine RetOk.by (fun _ => none) ?_
    simp [results65, prtV, e]
  simp
  refine ACall.mk _ _ _ (fn79 dy (-1073741824) 1073741824) (by first | (simp; done) | simp [Bor_ls, Bor1_ls]) (by simp) (by first | (left; simp; done) | (right; simp; done)) ?_
  cases c2 : decide (-1073741824 ≤ dy) && decide (dy ≤ 1073741824)
  · have e : prtE a b dx dy = 2 := by unfold prtE; rw [ra, rb, str_split, c1, c2]; rfl
    simp
    refine RetOk.by (fun _ => none) ?_
    simp [results65, prtV, e]
  have h2 : strS dx dy = true := by rw [str_split, c1, c2]; rfl
  have e : prtE a b dx dy = 0 := by unfold prtE; rw [ra, rb, h2]; rfl
  have hd := strS_iff.1 h2
  have hdn : bd 1073741824 (-dx, -dy) := by unfold bd at hd ⊢; simp only at hd ⊢; omega
  have la := regS_len ra
  have lb := regS_len rb
  have w1 : IntKind.wrap .i64 (-dx) = -dx := by unfold bd at hd; simp only at hd; exact wrap64 (by omega) (by omega)
  have w2 : IntKind.wrap .i64 (-dy) = -dy := by unfold bd at hd; simp only at hd; exact wrap64 (by omega) (by omega)
  have cb := fn104 b (-dx) (-dy) (by omega) hb hdn (fun q hq => bd_mono (regS_bd rb q hq) (by omega))
  have hneg : (alongS b (-dx) (-dy)).2 = -(alongS b dx dy).1 := by unfold alongS; rw [alN_neg]
  rw [hneg] at cb
  have ab := (al_abs hd (fun q hq => bd_mono (regS_bd rb q hq) (by omega)) b.length).1
  have w3 : IntKind.wrap .i64 (-(-(alongS b dx dy).1)) = (alongS b dx dy).1 := by unfold alongS; rw [Int.neg_neg]; exact wrap64 (by omega) (by omega)
  rw [Int.neg_neg] at w3
  simp
  refine ACall.mk _ _ _ (fn104 a dx dy (by omega) ha hd (fun q hq => bd_mono (regS_bd ra q hq) (by omega))) (by first | (simp; done) | simp [Bor_ls, Bor1_ls]) (by simp) (by first | (left; simp; done) | (right; simp; done)) ?_
  simp [w1, w2]
  refine ACall.mk _ _ _ (cb) (by first | (simp; done) | simp [Bor_ls, Bor1_ls]) (by simp) (by first | (left; simp; done) | (right; simp; done)) ?_
  simp [w3]
  refine RetOk.by (fun _ => none) ?_
  simp [results65, prtV, prtS, e]
end Go.Proofs.Try
namespace Go.Proofs.Try
open Go.Psl
open Go.Stb
open Go.Geo (hullS chainR)
set_option maxHeartbeats 4000000 in
set_option maxRecDepth 20000 in
theorem hul_short2 (l : List (Int × Int)) (hl : l.length ≤ 100000) (h0 : l ≠ []) (h3 : (ddC (sortC l)).length < 3) : Ct prog 95 [.d (spansD l)] (hdrV (hullP l) 0) (outB (hullP l) 0) := by
  have c1 := srt_main l hl
  have e : hullP l = ddC (sortC l) := by unfold hullP hullS; rw [if_pos h3]
  have hne : ddC (sortC l) ≠ [] := by rw [← e]; exact hullP_ne (List.length_pos_iff.2 h0)
  rw [e]
  generalize ddC (sortC l) = s at *
  have h3' : (s.length : Int) < 3 := by omega
  rw [hdrV_ne hne, outB_ne hne] at c1 ⊢
  refine Ct.by gok eok mixed func95 c95 rfl (by simp [ntmps95]) (by simp) (by simp [ResIds]) fun E hE => ?_
  simp [p95]
  refine ACall.mk _ _ _ (c1) (by simp) (by simp) (by first | (left; simp; done) | (right; simp; done) | (right; simp; exact fun a h => spD_lit a h)) ?_
  simp [h3']
  refine RetOk.by (lk [(0, 2097152)]) ?_
  simp [results95]
theorem hul_blk (l : List (Int × Int)) (hl : l.length ≤ 100000) (h0 : l ≠ []) (hbd : ∀ q ∈ l, bd 536870912 q) : Ct prog 95 [.d (spansD l)] (.ls 0 0 (hullP l).length 2) [(0, cellsI (hullP l))] := by
  have hne : hullP l ≠ [] := hullP_ne (List.length_pos_iff.2 h0)
  by_cases h3 : (ddC (sortC l)).length < 3
  · have := hul_short2 l hl h0 h3
    rw [hdrV_ne hne, outB_ne hne] at this
    exact this
  · have := hul_long l hl hbd h3
    rw [hdrV_ne hne, outZ_ne hne, List.append_nil] at this
    exact this
def rowS (s : Int) (b : List (Int × Int)) (p : Int × Int) : List (Int × Int) := b.map fun q => (p.1 + s * q.1, p.2 + s * q.2)
theorem row_len (s : Int) (b : List (Int × Int)) (p : Int × Int) : (rowS s b p).length = b.length := by simp [rowS]
theorem row_at {s : Int} {b : List (Int × Int)} {p q : Int × Int} {k : Nat} (h : b[k]? = some q) : (rowS s b p).take (k + 1) = (rowS s b p).take k ++ [(p.1 + s * q.1, p.2 + s * q.2)] := by
  rw [List.take_add_one]
  have : (rowS s b p)[k]? = some (p.1 + s * q.1, p.2 + s * q.2) := by unfold rowS; rw [List.getElem?_map, h]; rfl
  rw [this]; rfl
theorem sgn_bd {s x : Int} (hs : s = 1 ∨ s = -1) (hx : -268435456 ≤ x ∧ x ≤ 268435456) : -268435456 ≤ s * x ∧ s * x ≤ 268435456 := by
  rcases hs with rfl | rfl <;> omega
set_option maxHeartbeats 4000000 in
set_option maxRecDepth 20000 in
theorem sms_row (a b L : List (Int × Int)) (s : Int) (i : Nat) (p : Int × Int) (hp : a[i]? = some p) (hs : s = 1 ∨ s = -1) (hb : b.length ≤ 1000) (bp : bd 268435456 p) (bb : ∀ q ∈ b, bd 268435456 q) {E : Ent} (hE : ∀ i, ¬ E.stab i) {Q : AExit → St → Prop} : ∀ k : Nat, k ≤ b.length → PW prog tys eqs E p106l0
    (seqQ (fun st' => ∃ j, j ≤ b.length ∧ b.length - j < b.length - k ∧ Weak prog E st' ⟨slots [(0, .d (spansD a)), (1, .d (spansD b)), (2, vi s), (7, hdrV L 0), (8, vi i), (9, hdrV ((rowS s b p).take j) 1), (10, vi j)], lk (outB L 0 ++ outB ((rowS s b p).take j) 1), 2⟩)
      (exC prog E Q 2 (fun _ : Unit => ⟨slots [(0, .d (spansD a)), (1, .d (spansD b)), (2, vi s), (7, hdrV L 0), (8, vi i), (9, hdrV (rowS s b p) 1)], lk (outB L 0 ++ outB (rowS s b p) 1), 2⟩) (fun _ => True)))
    ⟨slots [(0, .d (spansD a)), (1, .d (spansD b)), (2, vi s), (7, hdrV L 0), (8, vi i), (9, hdrV ((rowS s b p).take k) 1), (10, vi k)], lk (outB L 0 ++ outB ((rowS s b p).take k) 1), 2⟩ := by
  intro k hk
  have hrl := row_len s b p
  by_cases h : k < b.length
  · obtain ⟨q, hq⟩ : ∃ q, b[k]? = some q := ⟨_, List.getElem?_eq_getElem h⟩
    have hnx := row_at (s := s) (p := p) hq
    have hol : ((rowS s b p).take k).length = k := by rw [List.length_take]; omega
    have bq := bb q (List.mem_of_getElem? hq)
    unfold bd at bq bp
    have s1 := sgn_bd hs bq.1
    have s2 := sgn_bd hs bq.2
    have w1 : IntKind.wrap .i64 (s * q.1) = s * q.1 := wrap64 (by omega) (by omega)
    have w2 : IntKind.wrap .i64 (s * q.2) = s * q.2 := wrap64 (by omega) (by omega)
    have w3 : IntKind.wrap .i64 (p.1 + s * q.1) = p.1 + s * q.1 := wrap64 (by omega) (by omega)
    have w4 : IntKind.wrap .i64 (p.2 + s * q.2) = p.2 + s * q.2 := wrap64 (by omega) (by omega)
    have hz : IntKind.wrap .i64 ((k : Int) + 1) = ((k + 1 : Nat) : Int) := by rw [wrap64 (by omega) (by omega)]; omega
    have hI : (k : Int) < b.length := by omega
    obtain ⟨O, hO⟩ : ∃ O, (rowS s b p).take k = O := ⟨_, rfl⟩
    rw [hO] at hnx hol ⊢
    have fin : cellsI (O ++ [(p.1 + s * q.1, p.2 + s * q.2)]) = (spD O).map V.d ++ [vi (p.1 + s * q.1), vi (p.2 + s * q.2)] := spD_one _ O
    by_cases hL : L = []
    · subst hL
      rw [hdrV_nil, outB_nil, List.nil_append]
      by_cases hne : O = []
      · subst hne
        simp [p106l0, hI, hp, hq, repl, splice, w1, w2, w3, w4, hz]
        refine ⟨k + 1, by omega, by omega, ?_⟩
        rw [hnx, hdrV_ne (by simp), outB_ne (by simp), fin]
        refine Weak.mk hE (lk [(1, 34603010)]) _ _ _ ?_ ?_ ?_ ?_ ?_ <;> simp
      · have hsl := spD_len O
        have htk : List.take (O.length * 2) (cellsI O) = cellsI O := List.take_of_length_le (by simp)
        have n1 : (O.length + 1) * 16 ≤ 140737488355328 := by omega
        have n2 : O.length + 1 ≤ 9223372036854775807 := by omega
        rw [hdrV_ne hne, outB_ne hne]
        simp [p106l0, hI, hp, hq, repl, splice, w1, w2, w3, w4, hz, hsl, htk, n1, n2]
        refine ⟨k + 1, by omega, by omega, ?_⟩
        rw [hnx, hdrV_ne (by simp), outB_ne (by simp), fin]
        refine Weak.mk hE (lk [(1, 34603010)]) _ _ _ ?_ ?_ ?_ ?_ ?_ <;> simp
        rintro c (⟨a, _, rfl⟩ | rfl | rfl) <;> simp
    · rw [hdrV_ne hL, outB_ne hL]
      by_cases hne : O = []
      · subst hne
        simp [p106l0, hI, hp, hq, repl, splice, w1, w2, w3, w4, hz]
        refine ⟨k + 1, by omega, by omega, ?_⟩
        rw [hnx, hdrV_ne (by simp), outB_ne (by simp), fin]
        refine Weak.mk hE (lk [(0, 0), (1, 34603010)]) _ _ _ ?_ ?_ ?_ ?_ ?_ <;> simp
      · have hsl := spD_len O
        have htk : List.take (O.length * 2) (cellsI O) = cellsI O := List.take_of_length_le (by simp)
        have n1 : (O.length + 1) * 16 ≤ 140737488355328 := by omega
        have n2 : O.length + 1 ≤ 9223372036854775807 := by omega
        rw [hdrV_ne hne, outB_ne hne]
        simp [p106l0, hI, hp, hq, repl, splice, w1, w2, w3, w4, hz, hsl, htk, n1, n2]
        refine ⟨k + 1, by omega, by omega, ?_⟩
        rw [hnx, hdrV_ne (by simp), outB_ne (by simp), fin]
        refine Weak.mk hE (lk [(0, 0), (1, 34603010)]) _ _ _ ?_ ?_ ?_ ?_ ?_ <;> simp
        rintro c (⟨a, _, rfl⟩ | rfl | rfl) <;> simp
  · have e : k = b.length := by omega
    have hn : ¬ (k : Int) < b.length := by omega
    have hall : (rowS s b p).take k = rowS s b p := List.take_of_length_le (by omega)
    rw [hall]
    by_cases hL : L = []
    · subst hL
      rw [hdrV_nil, outB_nil, List.nil_append]
      rcases out_cases (rowS s b p) with h | ⟨o, x, h⟩
      · simp only [h]
        simp [p106l0, hn]
        refine Weak.mk hE (lk []) _ _ _ ?_ ?_ ?_ ?_ ?_ <;> simp
      · simp only [h]
        simp [p106l0, hn]
        refine Weak.mk hE (lk [(1, 1)]) _ _ _ ?_ ?_ ?_ ?_ ?_ <;> simp
        rintro c (⟨a, _, rfl⟩ | rfl | rfl) <;> simp
    · rw [hdrV_ne hL, outB_ne hL]
      rcases out_cases (rowS s b p) with h | ⟨o, x, h⟩
      · simp only [h]
        simp [p106l0, hn]
        refine Weak.mk hE (lk [(0, 0)]) _ _ _ ?_ ?_ ?_ ?_ ?_ <;> simp
      · simp only [h]
        simp [p106l0, hn]
        refine Weak.mk hE (lk [(0, 0), (1, 1)]) _ _ _ ?_ ?_ ?_ ?_ ?_ <;> simp
        rintro c (⟨a, _, rfl⟩ | rfl | rfl) <;> simp
end Go.Proofs.Try
namespace Go.Proofs.Try
open Go.Psl
open Go.Stb
theorem rsum_snoc (s : Int) (b : List (Int × Int)) (p : Int × Int) : ∀ (l acc : List (Int × Int)), rsum s b acc (l ++ [p]) = hullP (rsum s b acc l ++ rowS s b p)
  | [], _ => rfl
  | x :: r, acc => by
    show rsum s b _ (r ++ [p]) = hullP (rsum s b _ r ++ rowS s b p)
    exact rsum_snoc s b p r _
theorem rsum_sub {s : Int} {b : List (Int × Int)} : ∀ {l acc : List (Int × Int)}, ∀ x ∈ rsum s b acc l, x ∈ acc ∨ x ∈ pairS s l b
  | [], _, x, h => Or.inl h
  | p :: r, acc, x, h => by
    rcases rsum_sub (l := r) x h with h | h
    · rcases List.mem_append.1 (hullP_sub h) with h | h
      · exact Or.inl h
      · right
        obtain ⟨q, hq, rfl⟩ := List.mem_map.1 h
        exact mem_pair.2 ⟨p, by simp, q, hq, rfl⟩
    · right
      obtain ⟨v, hv, w, hw, e⟩ := mem_pair.1 h
      exact mem_pair.2 ⟨v, List.mem_cons_of_mem _ hv, w, hw, e⟩
theorem rsum_len {s : Int} {b : List (Int × Int)} : ∀ {l acc : List (Int × Int)}, (rsum s b acc l).length ≤ acc.length + l.length * b.length
  | [], acc => by simp [rsum]
  | p :: r, acc => by
    have h1 := rsum_len (s := s) (b := b) (l := r) (acc := hullP (acc ++ rowS s b p))
    have h2 := hullP_le (acc ++ rowS s b p)
    rw [List.length_append, row_len] at h2
    have e : (p :: r).length * b.length = r.length * b.length + b.length := by rw [List.length_cons, Nat.succ_mul]
    have e2 : rsum s b acc (p :: r) = rsum s b (hullP (acc ++ rowS s b p)) r := rfl
    rw [e, e2]
    omega
theorem rsum_eq {s : Int} {b : List (Int × Int)} (nb : b ≠ []) : ∀ (n : Nat) (l : List (Int × Int)), l.length = n + 1 → rsum s b [] l = hullP (pairS s l b)
  | 0, l, h => by
    obtain ⟨p, rfl⟩ := List.length_eq_one_iff.1 h
    show hullP ([] ++ rowS s b p) = _
    rw [pair_one]; rfl
  | n + 1, l, h => by
    rcases List.eq_nil_or_concat l with rfl | ⟨m, p, rfl⟩
    · simp at h
    rw [List.concat_eq_append] at h ⊢
    have hm : m.length = n + 1 := by simp at h; omega
    have nm : m ≠ [] := fun e => by rw [e] at hm; simp at hm
    rw [rsum_snoc, rsum_eq nb n m hm, hullP_app _ _ (pair_ne nm nb), pair_app, pair_one]; rfl
theorem pair_bd {s : Int} (hs : s = 1 ∨ s = -1) {a b : List (Int × Int)} (ba : ∀ q ∈ a, bd 268435456 q) (bb : ∀ q ∈ b, bd 268435456 q) : ∀ q ∈ pairS s a b, bd 536870912 q := fun x hx => by
  obtain ⟨v, hv, w, hw, rfl⟩ := mem_pair.1 hx
  have h1 := ba v hv
  have h2 := bb w hw
  unfold bd at *
  rcases hs with rfl | rfl <;> simp only <;> omega
set_option maxHeartbeats 4000000 in
set_option maxRecDepth 20000 in
theorem sms_main (a b : List (Int × Int)) (s : Int) (hs : s = 1 ∨ s = -1) (ha : a.length ≤ 100) (_ : a ≠ []) (nb : b ≠ []) (hb : b.length ≤ 100) (ba : ∀ q ∈ a, bd 268435456 q) (bb : ∀ q ∈ b, bd 268435456 q) {E : Ent} (hE : ∀ i, ¬ E.stab i) {Q : AExit → St → Prop} : ∀ i : Nat, i ≤ a.length → PW prog tys eqs E p106l1
    (seqQ (fun st' => ∃ j, j ≤ a.length ∧ a.length - j < a.length - i ∧ Weak prog E st' ⟨slots [(0, .d (spansD a)), (1, .d (spansD b)), (2, vi s), (7, hdrV (rsum s b [] (a.take j)) 0), (8, vi j)], lk (outB (rsum s b [] (a.take j)) 0), 1⟩)
      (exC prog E Q 0 (fun _ : Unit => ⟨slots [(7, hdrV (rsum s b [] a) 0)], lk (outB (rsum s b [] a) 0), 1⟩) (fun _ => True)))
    ⟨slots [(0, .d (spansD a)), (1, .d (spansD b)), (2, vi s), (7, hdrV (rsum s b [] (a.take i)) 0), (8, vi i)], lk (outB (rsum s b [] (a.take i)) 0), 1⟩ := by
  intro i hi
  have hbl : 0 < b.length := List.length_pos_iff.2 nb
  by_cases h : i < a.length
  · obtain ⟨p, hp⟩ : ∃ p, a[i]? = some p := ⟨_, List.getElem?_eq_getElem h⟩
    have htk : a.take (i + 1) = a.take i ++ [p] := by rw [List.take_add_one, hp]; rfl
    have hnx : rsum s b [] (a.take (i + 1)) = hullP (rsum s b [] (a.take i) ++ rowS s b p) := by rw [htk, rsum_snoc]
    have hln : (rsum s b [] (a.take i)).length ≤ 10000 := by
      have h1 := rsum_len (s := s) (b := b) (l := a.take i) (acc := [])
      have h2 : (a.take i).length * b.length ≤ 100 * 100 := Nat.mul_le_mul (by simp; omega) hb
      rw [List.length_nil] at h1; omega
    have hrl := row_len s b p
    have hrne : rowS s b p ≠ [] := fun e => by rw [e] at hrl; simp at hrl; omega
    have hbd : ∀ q ∈ rsum s b [] (a.take i) ++ rowS s b p, bd 536870912 q := fun q hq => by
      have key := pair_bd hs (a := a) (b := b) ba bb
      rcases List.mem_append.1 hq with hq | hq
      · rcases rsum_sub q hq with hq | hq
        · simp at hq
        · obtain ⟨v, hv, w, hw, e⟩ := mem_pair.1 hq
          exact key q (mem_pair.2 ⟨v, List.mem_of_mem_take hv, w, hw, e⟩)
      · obtain ⟨w, hw, rfl⟩ := List.mem_map.1 hq
        exact key _ (mem_pair.2 ⟨p, List.mem_of_getElem? hp, w, hw, rfl⟩)
    have c1 := hul_blk (rsum s b [] (a.take i) ++ rowS s b p) (by rw [List.length_append]; omega) (by simp [hrne]) hbd
    have hne := hullP_ne (l := rsum s b [] (a.take i) ++ rowS s b p) (by rw [List.length_append]; omega)
    have hI : (i : Int) < a.length := by omega
    have hz : IntKind.wrap .i64 ((i : Int) + 1) = ((i + 1 : Nat) : Int) := by rw [wrap64 (by omega) (by omega)]; omega
    have hrow := fun (L : List (Int × Int)) (Q : AExit → St → Prop) => sms_row (Q := Q) a b L s i p hp hs (by omega) (ba p (List.mem_of_getElem? hp)) bb hE
    obtain ⟨L, hL⟩ : ∃ L, rsum s b [] (a.take i) = L := ⟨_, rfl⟩
    rw [hL] at hnx hln c1 hne ⊢
    obtain ⟨R, hR⟩ : ∃ R, rowS s b p = R := ⟨_, rfl⟩
    have hrow := hrow L
    rw [hR] at hnx hrl hrne c1 hne hrow
    obtain ⟨P, hP⟩ : ∃ P, hullP (L ++ R) = P := ⟨_, rfl⟩
    rw [hP] at hnx c1 hne
    have hsr := spD_len R
    have htr : List.take (R.length * 2) (cellsI R) = cellsI R := List.take_of_length_le (by simp)
    have n1 : R.length * 16 ≤ 140737488355328 := by omega
    have n2 : R.length ≤ 9223372036854775807 := by omega
    have n3 : (L.length + R.length) * 16 ≤ 140737488355328 := by omega
    have n4 : L.length + R.length ≤ 9223372036854775807 := by omega
    have hsl := spD_len L
    have htl : List.take (L.length * 2) (cellsI L) = cellsI L := List.take_of_length_le (by simp)
    have hca : cellsI L ++ cellsI R = cellsI (L ++ R) := cells_app _ _
    by_cases hLn : L = []
    · subst hLn
      simp [p106l1, hI]
      refine pw_loopC (α := Nat) 2 (fun _ : Unit => ⟨slots [(0, .d (spansD a)), (1, .d (spansD b)), (2, vi s), (7, hdrV [] 0), (8, vi i), (9, hdrV R 1)], lk (outB [] 0 ++ outB R 1), 2⟩) (fun _ => True) (fun j => ⟨slots [(0, .d (spansD a)), (1, .d (spansD b)), (2, vi s), (7, hdrV [] 0), (8, vi i), (9, hdrV (R.take j) 1), (10, vi j)], lk (outB [] 0 ++ outB (R.take j) 1), 2⟩) (fun j => j ≤ b.length) (fun j => b.length - j) 0 ?_ ?_ (hrow _) fun _ _ => ?_
      · simp
      · simp only [List.take_zero]
        refine Weak.mk hE (lk []) _ _ _ ?_ ?_ ?_ ?_ ?_ <;> simp
      · rw [hdrV_ne hrne, outB_ne hrne]
        simp [hsr, htr, n1, n2]
        rw [List.nil_append] at c1
        refine ACall.mk _ _ _ (c1) (by simp [bor_own]) (by simp) (by first | (left; simp; done) | (right; simp; done) | (right; simp; exact fun a h => spD_lit a h)) ?_
        simp [hz]
        refine ⟨i + 1, by omega, by omega, ?_⟩
        rw [hnx, hdrV_ne hne, outB_ne hne]
        refine Weak.mk hE (lk [(0, 3145730)]) _ _ _ ?_ ?_ ?_ ?_ ?_ <;> simp
    · rw [hdrV_ne hLn, outB_ne hLn]
      simp [p106l1, hI]
      refine pw_loopC (α := Nat) 2 (fun _ : Unit => ⟨slots [(0, .d (spansD a)), (1, .d (spansD b)), (2, vi s), (7, hdrV L 0), (8, vi i), (9, hdrV R 1)], lk (outB L 0 ++ outB R 1), 2⟩) (fun _ => True) (fun j => ⟨slots [(0, .d (spansD a)), (1, .d (spansD b)), (2, vi s), (7, hdrV L 0), (8, vi i), (9, hdrV (R.take j) 1), (10, vi j)], lk (outB L 0 ++ outB (R.take j) 1), 2⟩) (fun j => j ≤ b.length) (fun j => b.length - j) 0 ?_ ?_ (hrow _) fun _ _ => ?_
      · simp
      · simp only [List.take_zero]
        rw [hdrV_ne hLn, outB_ne hLn]
        refine Weak.mk hE (lk [(0, 0)]) _ _ _ ?_ ?_ ?_ ?_ ?_ <;> simp
      · obtain ⟨LR, hLR⟩ : ∃ LR, L ++ R = LR := ⟨_, rfl⟩
        have hlr : L.length + R.length = LR.length := by rw [← hLR, List.length_append]
        rw [hLR] at c1 hca
        rw [hlr] at n3 n4
        rw [hdrV_ne hrne, outB_ne hrne, hdrV_ne hLn, outB_ne hLn]
        simp [hsr, htr, hsl, htl, n3, n4, hca, hlr]
        refine ACall.mk _ _ _ (c1) (by simp [bor_own]) (by simp) (by first | (left; simp; done) | (right; simp; done) | (right; simp; exact fun a h => spD_lit a h)) ?_
        simp [hz]
        refine ⟨i + 1, by omega, by omega, ?_⟩
        rw [hnx, hdrV_ne hne, outB_ne hne]
        refine Weak.mk hE (lk [(0, 3145730)]) _ _ _ ?_ ?_ ?_ ?_ ?_ <;> simp
  · have e : i = a.length := by omega
    have hn : ¬ (i : Int) < a.length := by omega
    rw [e, List.take_length]
    rcases out_cases (rsum s b [] a) with h | ⟨o, x, h⟩
    · simp only [h]
      simp [p106l1]
      refine Weak.mk hE (lk []) _ _ _ ?_ ?_ ?_ ?_ ?_ <;> simp
    · simp only [h]
      simp [p106l1]
      refine Weak.mk hE (lk [(0, 0)]) _ _ _ ?_ ?_ ?_ ?_ ?_ <;> simp
      rintro c (⟨a, _, rfl⟩ | rfl | rfl) <;> simp
set_option maxHeartbeats 4000000 in
theorem fn106 (a b : List (Int × Int)) (s : Int) (hs : s = 1 ∨ s = -1) (ha : a.length ≤ 100) (na : a ≠ []) (nb : b ≠ []) (hb : b.length ≤ 100) (ba : ∀ q ∈ a, bd 268435456 q) (bb : ∀ q ∈ b, bd 268435456 q) : Ct prog 106 [.d (spansD a), .d (spansD b), vi s] (.ls 0 0 (hullP (pairS s a b)).length 2) [(0, cellsI (hullP (pairS s a b)))] := by
  have e : rsum s b [] a = hullP (pairS s a b) := rsum_eq nb (a.length - 1) a (by have := List.length_pos_iff.2 na; omega)
  have hne : hullP (pairS s a b) ≠ [] := hullP_ne (List.length_pos_iff.2 (pair_ne na nb))
  refine Ct.by gok eok mixed func106 c106 rfl (by simp [ntmps106]) (by simp) (by simp [ResIds]) fun E hE => ?_
  simp [p106]
  refine pw_loopC (α := Nat) 0 (fun _ : Unit => ⟨slots [(7, hdrV (rsum s b [] a) 0)], lk (outB (rsum s b [] a) 0), 1⟩) (fun _ => True) (fun j => ⟨slots [(0, .d (spansD a)), (1, .d (spansD b)), (2, vi s), (7, hdrV (rsum s b [] (a.take j)) 0), (8, vi j)], lk (outB (rsum s b [] (a.take j)) 0), 1⟩) (fun j => j ≤ a.length) (fun j => a.length - j) 0 ?_ ?_ (sms_main a b s hs ha na nb hb ba bb hE) fun _ _ => ?_
  · simp
  · simp only [List.take_zero, rsum]
    refine Weak.mk hE (lk []) _ _ _ ?_ ?_ ?_ ?_ ?_ <;> simp
  · rw [e, hdrV_ne hne, outB_ne hne]
    simp
    refine RetOk.by (lk [(0, 0)]) ?_
    simp [results106]
end Go.Proofs.Try
namespace Go.Proofs.Try
open Go.Psl
open Go.Stb
open Go.Geo (cross cyc InR box hullS Parted Sup)
theorem insS_hull {r s : List (Int × Int)} (hs : Go.Geo.Sorted s) (hr : r = hullS s) (hne : r ≠ []) (p : Int × Int) : insS r p = true ↔ InR r p := by
  match r, hne, hr with
  | [], hne, _ => exact absurd rfl hne
  | [a], _, _ => rw [in_one]; unfold insS; simp
  | [a, b], _, hr =>
    have hlt := hull_seg hs hr.symm
    rw [in_two]
    unfold insS
    simp only [Bool.and_eq_true, Bool.or_eq_true, leftL_iff]
    have e : cyc [a, b] = [(a, b), (b, a)] := rfl
    rw [e]
    simp only [List.mem_cons, List.not_mem_nil, or_false, forall_eq_or_imp, forall_eq]
    rw [Go.Geo.cross_swap2 b a p]
    have hw : (winB p.1 a.1 b.1 = true ∧ winB p.2 (min a.2 b.2) (max a.2 b.2) = true) ↔ box a b p := by
      unfold winB box Go.Geo.lt at *
      simp only [Bool.and_eq_true, decide_eq_true_eq]
      omega
    rw [hw]
    simp
    omega
  | a :: b :: c :: t, _, _ =>
    unfold insS InR
    simp [leftL_iff]
theorem ins_sup {l : List (Int × Int)} (h : l ≠ []) (p : Int × Int) : insS (hullP l) p = true ↔ Sup [p] l := by
  have hne := hullP_ne (List.length_pos_iff.2 h)
  have hs := sorted_dd l
  rw [insS_hull (r := hullP l) hs rfl hne]
  have hz : ddC (sortC l) ≠ [] := fun e => by
    obtain ⟨x, t, rfl⟩ := List.exists_cons_of_ne_nil h
    have : x ∈ ddC (sortC (x :: t)) := by rw [ddC_mem, sortC_mem]; simp
    rw [e] at this; simp at this
  have hm : ∀ x, x ∈ ddC (sortC l) ↔ x ∈ l := fun x => by rw [ddC_mem, sortC_mem]
  constructor
  · intro hi d M hM v hv
    exact (Go.Geo.in_sup hs hi) d M (fun v hv => hM v ((hm v).1 (Go.Geo.hull_sub hs v hv))) v hv
  · intro hp
    refine Go.Geo.in_of_sup hs hz (k := ddC (sortC (l ++ [p]))) (fun d M hM v hv => hp d M (fun v hv => hM v ((hm v).2 hv)) v hv) (sorted_dd _) fun x => ?_
    rw [hm, ddC_mem, sortC_mem, List.mem_append, List.mem_singleton]
theorem dot_diff (d p q : Int × Int) : Go.Geo.dot d (p.1 + -1 * q.1, p.2 + -1 * q.2) = Go.Geo.dot d p - Go.Geo.dot d q := by unfold Go.Geo.dot; grind
theorem com_iff {a b : List (Int × Int)} (na : a ≠ []) (nb : b ≠ []) : insS (hullP (pairS (-1) a b)) (0, 0) = true ↔ ∀ d, ¬ Parted d a b := by
  rw [ins_sup (pair_ne na nb)]
  have h0 : ∀ d : Int × Int, Go.Geo.dot d (0, 0) = 0 := fun d => by unfold Go.Geo.dot; simp
  constructor
  · intro hs d hp
    have := hs d (-1) (fun v hv => by
      obtain ⟨p, hp', q, hq, rfl⟩ := mem_pair.1 hv
      have := hp p hp' q hq
      rw [dot_diff]; omega) (0, 0) (by simp)
    rw [h0] at this; omega
  · intro h d M hM v hv
    rw [List.mem_singleton.1 hv, h0]
    refine Classical.byContradiction fun hn => h d fun p hp q hq => ?_
    have := hM _ (mem_pair.2 ⟨p, hp, q, hq, rfl⟩)
    rw [dot_diff] at this
    omega
theorem ref_sum (a b : List (Int × Int)) (hab : regS a = true) (hbb : regS b = true) (s : Int) (hs : s = 1 ∨ s = -1) : Ct prog 106 [.d (spansD a), .d (spansD b), vi s] (.d (spansD (hullP (pairS s a b)))) [] := by
  have la := regS_len hab
  have lb := regS_len hbb
  exact fz_own (fn106 a b s hs (by omega) (reg_hull hab).2 (reg_hull hbb).2 (by omega) (regS_bd hab) (regS_bd hbb))
theorem hullP_pair_len {s : Int} {a b : List (Int × Int)} (ha : regS a = true) (hb : regS b = true) : (hullP (pairS s a b)).length ≤ 10000 := by
  have la := regS_len ha
  have lb := regS_len hb
  have h1 := hullP_le (pairS s a b)
  have h2 : ∀ l : List (Int × Int), (pairS s l b).length = l.length * b.length := fun l => by
    induction l with
    | nil => simp [pairS]
    | cons x t ih =>
      have : pairS s (x :: t) b = rowS s b x ++ pairS s t b := rfl
      rw [this, List.length_append, row_len, ih, List.length_cons, Nat.succ_mul]; omega
  have h3 : a.length * b.length ≤ 64 * 64 := Nat.mul_le_mul la.2 lb.2
  have := h2 a
  omega
theorem fn63 (a b : List (Int × Int)) (ha : a.length ≤ 1000000000) (hb : b.length ≤ 1000000000) : Ct prog 63 [.d (spansD a), .d (spansD b)] (.tup [.d (spansD (sumOut a b)), vi (sumErr a b)]) [] := by
  cases h1 : regS a
  · have e : sumErr a b = 14 := by unfold sumErr; rw [h1]; rfl
    have e2 : sumOut a b = [] := by unfold sumOut; rw [e]; rfl
    rw [e, e2]
    refine fz_nil2 ?_
    refine Ct.by gok eok mixed func63 c63 rfl (by simp [ntmps63]) (by simp) (by simp [ResIds]) fun E hE => ?_
    simp [p63]
    refine ACall.mk _ _ _ (fn67 a ha) (by first | (simp; done) | simp [Bor_ls, Bor1_ls]) (by simp) (by first | (left; simp; done) | (right; simp; done)) ?_
    simp [h1]
    refine RetOk.by (fun _ => none) ?_
    simp [results63]
  cases h2 : regS b
  · have e : sumErr a b = 14 := by unfold sumErr; rw [h1, h2]; rfl
    have e2 : sumOut a b = [] := by unfold sumOut; rw [e]; rfl
    rw [e, e2]
    refine fz_nil2 ?_
    refine Ct.by gok eok mixed func63 c63 rfl (by simp [ntmps63]) (by simp) (by simp [ResIds]) fun E hE => ?_
    simp [p63]
    refine ACall.mk _ _ _ (fn67 a ha) (by first | (simp; done) | simp [Bor_ls, Bor1_ls]) (by simp) (by first | (left; simp; done) | (right; simp; done)) ?_
    simp [h1]
    refine ACall.mk _ _ _ (fn67 b hb) (by first | (simp; done) | simp [Bor_ls, Bor1_ls]) (by simp) (by first | (left; simp; done) | (right; simp; done)) ?_
    simp [h2]
    refine RetOk.by (fun _ => none) ?_
    simp [results63]
  have c1 := ref_sum a b h1 h2 1 (Or.inl rfl)
  have hl := hullP_pair_len (s := 1) h1 h2
  have e0 : sumErr a b = if nearC (hullP (pairS 1 a b)) then (if 64 < (hullP (pairS 1 a b)).length then 4 else 0) else 11 := by unfold sumErr; rw [h1, h2, sum_hull h1 h2]; rfl
  have e1 : sumErr a b = 0 → sumOut a b = hullP (pairS 1 a b) := fun e => by unfold sumOut; rw [e, sum_hull h1 h2]; rfl
  have e2 : sumErr a b ≠ 0 → sumOut a b = [] := fun e => by unfold sumOut; rw [if_neg e]
  obtain ⟨P, hP⟩ : ∃ P, hullP (pairS 1 a b) = P := ⟨_, rfl⟩
  rw [hP] at c1 hl e0 e1
  cases h3 : nearC P
  · have e : sumErr a b = 11 := by rw [e0, h3]; rfl
    rw [e2 (by rw [e]; decide), e]
    refine fz_nil2 ?_
    refine Ct.by gok eok mixed func63 c63 rfl (by simp [ntmps63]) (by simp) (by simp [ResIds]) fun E hE => ?_
    simp [p63]
    refine ACall.mk _ _ _ (fn67 a ha) (by first | (simp; done) | simp [Bor_ls, Bor1_ls]) (by simp) (by first | (left; simp; done) | (right; simp; done)) ?_
    simp [h1]
    refine ACall.mk _ _ _ (fn67 b hb) (by first | (simp; done) | simp [Bor_ls, Bor1_ls]) (by simp) (by first | (left; simp; done) | (right; simp; done)) ?_
    simp [h2]
    refine ACall.mk _ _ _ (c1) (by first | (simp; done) | simp [Bor_ls, Bor1_ls]) (by simp) (by first | (left; simp; done) | (right; simp; done)) ?_
    simp
    refine ACall.mk _ _ _ (fn94 P (by omega)) (by first | (simp; done) | simp [Bor_ls, Bor1_ls]) (by simp) (by first | (left; simp; done) | (right; simp; done)) ?_
    simp [h3]
    refine RetOk.by (fun _ => none) ?_
    simp [results63]
  · by_cases h4 : 64 < P.length
    · have e : sumErr a b = 4 := by rw [e0, h3]; simp [h4]
      have h4' : (64 : Int) < P.length := by omega
      rw [e2 (by rw [e]; decide), e]
      refine fz_nil2 ?_
      refine Ct.by gok eok mixed func63 c63 rfl (by simp [ntmps63]) (by simp) (by simp [ResIds]) fun E hE => ?_
      simp [p63]
      refine ACall.mk _ _ _ (fn67 a ha) (by first | (simp; done) | simp [Bor_ls, Bor1_ls]) (by simp) (by first | (left; simp; done) | (right; simp; done)) ?_
      simp [h1]
      refine ACall.mk _ _ _ (fn67 b hb) (by first | (simp; done) | simp [Bor_ls, Bor1_ls]) (by simp) (by first | (left; simp; done) | (right; simp; done)) ?_
      simp [h2]
      refine ACall.mk _ _ _ (c1) (by first | (simp; done) | simp [Bor_ls, Bor1_ls]) (by simp) (by first | (left; simp; done) | (right; simp; done)) ?_
      simp
      refine ACall.mk _ _ _ (fn94 P (by omega)) (by first | (simp; done) | simp [Bor_ls, Bor1_ls]) (by simp) (by first | (left; simp; done) | (right; simp; done)) ?_
      simp [h3, h4']
      refine RetOk.by (fun _ => none) ?_
      simp [results63]
    · have e : sumErr a b = 0 := by rw [e0, h3]; simp [h4]
      have h4' : ¬ (64 : Int) < P.length := by omega
      rw [e1 e, e]
      refine Ct.by gok eok mixed func63 c63 rfl (by simp [ntmps63]) (by simp) (by simp [ResIds]) fun E hE => ?_
      simp [p63]
      refine ACall.mk _ _ _ (fn67 a ha) (by first | (simp; done) | simp [Bor_ls, Bor1_ls]) (by simp) (by first | (left; simp; done) | (right; simp; done)) ?_
      simp [h1]
      refine ACall.mk _ _ _ (fn67 b hb) (by first | (simp; done) | simp [Bor_ls, Bor1_ls]) (by simp) (by first | (left; simp; done) | (right; simp; done)) ?_
      simp [h2]
      refine ACall.mk _ _ _ (c1) (by first | (simp; done) | simp [Bor_ls, Bor1_ls]) (by simp) (by first | (left; simp; done) | (right; simp; done)) ?_
      simp
      refine ACall.mk _ _ _ (fn94 P (by omega)) (by first | (simp; done) | simp [Bor_ls, Bor1_ls]) (by simp) (by first | (left; simp; done) | (right; simp; done)) ?_
      simp [h3, h4']
      refine RetOk.by (fun _ => none) ?_
      simp [results63]
theorem hullP_pair_bd {s : Int} (hs : s = 1 ∨ s = -1) {a b : List (Int × Int)} (ha : regS a = true) (hb : regS b = true) : ∀ q ∈ hullP (pairS s a b), bd 536870912 q := fun q hq => pair_bd hs (regS_bd ha) (regS_bd hb) q (hullP_sub hq)
theorem fn68 (a b : List (Int × Int)) (ha : regS a = true) (hb : regS b = true) : Ct prog 68 [.d (spansD a), .d (spansD b)] (vb (insS (hullP (pairS (-1) a b)) (0, 0))) [] := by
  have c1 := ref_sum a b ha hb (-1) (Or.inr rfl)
  have hl := hullP_pair_len (s := -1) ha hb
  have hne := hullP_ne (List.length_pos_iff.2 (pair_ne (s := -1) (reg_hull ha).2 (reg_hull hb).2))
  have c2 := fn97 (hullP (pairS (-1) a b)) (0, 0) (List.length_pos_iff.2 hne) (by omega) (hullP_pair_bd (Or.inr rfl) ha hb) (by unfold bd; simp only; omega)
  refine Ct.by gok eok mixed func68 c68 rfl (by simp [ntmps68]) (by simp) (by simp [ResIds]) fun E hE => ?_
  simp [p68]
  refine ACall.mk _ _ _ (c1) (by first | (simp; done) | simp [Bor_ls, Bor1_ls]) (by simp) (by first | (left; simp; done) | (right; simp; done)) ?_
  simp
  refine ACall.mk _ _ _ (c2) (by first | (simp; done) | simp [Bor_ls, Bor1_ls]) (by simp) (by first | (left; simp; done) | (right; simp; done)) ?_
  simp
  refine RetOk.by (fun _ => none) ?_
  simp [results68]
end Go.Proofs.Try
namespace Go.Proofs.Try
open Go.Psl
open Go.Stb
open Go.Geo (Parted)
theorem fz_ret2z {P : Program} {f : FuncId} {args : List V} {out z : List (Int × Int)} {e : Int} (h : Ct P f args (.tup [hdrV out 0, vi e]) (outZ out z 0)) : Ct P f args (.tup [.d (spansD out), vi e]) [] :=
  Cm.freeze h ⟨fz_outZ out z, Or.inl rfl, trivial⟩
theorem sum_frozen (hS : SortOk) (a b : List (Int × Int)) (ha : a.length ≤ 1000000000) (hb : b.length ≤ 1000000000) : Ct prog 62 [.d (spansD a), .d (spansD b)] (.tup [.d (spansD (sumOut a b)), vi (sumErr a b)]) [] := by
  obtain ⟨z, h⟩ := fn62 hS a b ha hb (fun h1 h2 => sumL_bd h1 h2)
  exact fz_ret2z h
theorem sumOut_len (a b : List (Int × Int)) : (sumOut a b).length ≤ 64 := by
  unfold sumOut
  split
  · rename_i h
    unfold sumErr at h
    split at h
    · split at h
      · split at h
        · cases h
        · omega
      · cases h
    · cases h
  · simp
set_option maxHeartbeats 16000000 in
set_option maxRecDepth 20000 in
theorem fn8 (hS : SortOk) (a b : List (Int × Int)) (dx dy : Int) : Ct prog 8 [.d (spansD a), .d (spansD b), vi dx, vi dy] (vb true) [] := by
  refine Ct.by gok eok mixed func8 c8 rfl (by simp [ntmps8]) (by simp) (by simp [ResIds]) fun E hE => ?_
  simp [p8]
  refine ACall.mk _ _ _ (fn48 a) (by first | (simp; done) | simp [Bor_ls, Bor1_ls]) (by simp) (by first | (left; simp; done) | (right; simp; done)) ?_
  by_cases g1 : 80 < a.length
  · simp [g1]
    refine RetOk.by (fun _ => none) ?_
    simp [results8]
  simp [g1]
  refine ACall.mk _ _ _ (fn48 b) (by first | (simp; done) | simp [Bor_ls, Bor1_ls]) (by simp) (by first | (left; simp; done) | (right; simp; done)) ?_
  by_cases g2 : 80 < b.length
  · simp [g2]
    refine RetOk.by (fun _ => none) ?_
    simp [results8]
  have d1 := fn60 hS a dx dy (by omega)
  have d2 := fn61 a dx dy (by omega)
  have d3 := sum_frozen hS a b (by omega) (by omega)
  have d4 := fn63 a b (by omega) (by omega)
  have d5 := fn64 hS a b dx dy (by omega) (by omega)
  have d6 := fn65 a b dx dy (by omega) (by omega)
  have d7 := fn57 (sumOut a b) (sumOut a b) (by have := sumOut_len a b; omega) (by have := sumOut_len a b; omega)
  have d8 := fn66 hS a b (by omega) (by omega)
  have d9 := fn67 a (by omega)
  have d10 := fn67 b (by omega)
  generalize sumOut a b = SO at *
  generalize sumErr a b = SE at *
  generalize reachV a dx dy = RV at *
  generalize reachE a dx dy = RE at *
  generalize prtV a b dx dy = PV at *
  generalize prtE a b dx dy = PE at *
  cases ha : regS a
  · have e1 : apartS a b = (0, 0, 14) := by unfold apartS; rw [ha]; rfl
    rw [e1] at d8
    rw [ha] at d9
    simp [g2]
    repeat ((first | (refine ACall.mk _ _ _ (d1) ?_ ?_ ?_ ?_; (focus (simp; done)); (focus (simp; done)); (focus (first | (left; simp; done) | (right; simp; done)))) | (refine ACall.mk _ _ _ (d2) ?_ ?_ ?_ ?_; (focus (simp; done)); (focus (simp; done)); (focus (first | (left; simp; done) | (right; simp; done)))) | (refine ACall.mk _ _ _ (d3) ?_ ?_ ?_ ?_; (focus (simp; done)); (focus (simp; done)); (focus (first | (left; simp; done) | (right; simp; done)))) | (refine ACall.mk _ _ _ (d4) ?_ ?_ ?_ ?_; (focus (simp; done)); (focus (simp; done)); (focus (first | (left; simp; done) | (right; simp; done)))) | (refine ACall.mk _ _ _ (d5) ?_ ?_ ?_ ?_; (focus (simp; done)); (focus (simp; done)); (focus (first | (left; simp; done) | (right; simp; done)))) | (refine ACall.mk _ _ _ (d6) ?_ ?_ ?_ ?_; (focus (simp; done)); (focus (simp; done)); (focus (first | (left; simp; done) | (right; simp; done)))) | (refine ACall.mk _ _ _ (d7) ?_ ?_ ?_ ?_; (focus (simp; done)); (focus (simp; done)); (focus (first | (left; simp; done) | (right; simp; done)))) | (refine ACall.mk _ _ _ (d8) ?_ ?_ ?_ ?_; (focus (simp; done)); (focus (simp; done)); (focus (first | (left; simp; done) | (right; simp; done)))) | (refine ACall.mk _ _ _ (d9) ?_ ?_ ?_ ?_; (focus (simp; done)); (focus (simp; done)); (focus (first | (left; simp; done) | (right; simp; done))))); simp)
    refine RetOk.by (fun _ => none) ?_
    simp [results8]
  cases hb : regS b
  · have e1 : apartS a b = (0, 0, 14) := by unfold apartS; rw [hb, Bool.and_false]; rfl
    rw [e1] at d8
    rw [ha] at d9
    rw [hb] at d10
    simp [g2]
    repeat ((first | (refine ACall.mk _ _ _ (d1) ?_ ?_ ?_ ?_; (focus (simp; done)); (focus (simp; done)); (focus (first | (left; simp; done) | (right; simp; done)))) | (refine ACall.mk _ _ _ (d2) ?_ ?_ ?_ ?_; (focus (simp; done)); (focus (simp; done)); (focus (first | (left; simp; done) | (right; simp; done)))) | (refine ACall.mk _ _ _ (d3) ?_ ?_ ?_ ?_; (focus (simp; done)); (focus (simp; done)); (focus (first | (left; simp; done) | (right; simp; done)))) | (refine ACall.mk _ _ _ (d4) ?_ ?_ ?_ ?_; (focus (simp; done)); (focus (simp; done)); (focus (first | (left; simp; done) | (right; simp; done)))) | (refine ACall.mk _ _ _ (d5) ?_ ?_ ?_ ?_; (focus (simp; done)); (focus (simp; done)); (focus (first | (left; simp; done) | (right; simp; done)))) | (refine ACall.mk _ _ _ (d6) ?_ ?_ ?_ ?_; (focus (simp; done)); (focus (simp; done)); (focus (first | (left; simp; done) | (right; simp; done)))) | (refine ACall.mk _ _ _ (d7) ?_ ?_ ?_ ?_; (focus (simp; done)); (focus (simp; done)); (focus (first | (left; simp; done) | (right; simp; done)))) | (refine ACall.mk _ _ _ (d8) ?_ ?_ ?_ ?_; (focus (simp; done)); (focus (simp; done)); (focus (first | (left; simp; done) | (right; simp; done)))) | (refine ACall.mk _ _ _ (d9) ?_ ?_ ?_ ?_; (focus (simp; done)); (focus (simp; done)); (focus (first | (left; simp; done) | (right; simp; done)))) | (refine ACall.mk _ _ _ (d10) ?_ ?_ ?_ ?_; (focus (simp; done)); (focus (simp; done)); (focus (first | (left; simp; done) | (right; simp; done))))); simp)
    refine RetOk.by (fun _ => none) ?_
    simp [results8]
  rw [ha] at d9
  rw [hb] at d10
  have na := (reg_hull ha).2
  have nb := (reg_hull hb).2
  have la := regS_len ha
  have lb := regS_len hb
  have c := fn68 a b ha hb
  have hc := com_iff na nb
  have hfn := find_none ha hb
  have eA : apartS a b = match findP a b (candS a b) with | some d => (d.1, d.2, 0) | none => (0, 0, 6) := by unfold apartS; rw [ha, hb]; rfl
  cases hcv : Go.Proofs.Try.insS (hullP (pairS (-1) a b)) (0, 0)
  · rw [hcv] at c hc
    cases hf : findP a b (candS a b) with
    | none =>
      exact absurd (hc.2 (hfn.1 hf)) (by simp)
    | some d =>
      rw [hf] at eA
      replace eA : apartS a b = (d.1, d.2, 0) := eA
      rw [eA] at d8
      obtain ⟨hp, hdm⟩ := find_some hf
      have hbd := cand_bd (regS_bd ha) (regS_bd hb) na nb d hdm
      have hs : strS d.1 d.2 = true := strS_iff.2 hbd
      have d11 := fn65 a b d.1 d.2 (by omega) (by omega)
      have e6 : prtE a b d.1 d.2 = 0 := by unfold prtE; rw [ha, hb, hs]; rfl
      have v6 : prtV a b d.1 d.2 = true := by unfold prtV; rw [e6, hp]; rfl
      rw [e6, v6] at d11
      simp [g2]
      repeat ((first | (refine ACall.mk _ _ _ (d1) ?_ ?_ ?_ ?_; (focus (simp; done)); (focus (simp; done)); (focus (first | (left; simp; done) | (right; simp; done)))) | (refine ACall.mk _ _ _ (d2) ?_ ?_ ?_ ?_; (focus (simp; done)); (focus (simp; done)); (focus (first | (left; simp; done) | (right; simp; done)))) | (refine ACall.mk _ _ _ (d3) ?_ ?_ ?_ ?_; (focus (simp; done)); (focus (simp; done)); (focus (first | (left; simp; done) | (right; simp; done)))) | (refine ACall.mk _ _ _ (d4) ?_ ?_ ?_ ?_; (focus (simp; done)); (focus (simp; done)); (focus (first | (left; simp; done) | (right; simp; done)))) | (refine ACall.mk _ _ _ (d5) ?_ ?_ ?_ ?_; (focus (simp; done)); (focus (simp; done)); (focus (first | (left; simp; done) | (right; simp; done)))) | (refine ACall.mk _ _ _ (d6) ?_ ?_ ?_ ?_; (focus (simp; done)); (focus (simp; done)); (focus (first | (left; simp; done) | (right; simp; done)))) | (refine ACall.mk _ _ _ (d7) ?_ ?_ ?_ ?_; (focus (simp; done)); (focus (simp; done)); (focus (first | (left; simp; done) | (right; simp; done)))) | (refine ACall.mk _ _ _ (d8) ?_ ?_ ?_ ?_; (focus (simp; done)); (focus (simp; done)); (focus (first | (left; simp; done) | (right; simp; done)))) | (refine ACall.mk _ _ _ (d9) ?_ ?_ ?_ ?_; (focus (simp; done)); (focus (simp; done)); (focus (first | (left; simp; done) | (right; simp; done)))) | (refine ACall.mk _ _ _ (d10) ?_ ?_ ?_ ?_; (focus (simp; done)); (focus (simp; done)); (focus (first | (left; simp; done) | (right; simp; done)))) | (refine ACall.mk _ _ _ (c) ?_ ?_ ?_ ?_; (focus (simp; done)); (focus (simp; done)); (focus (first | (left; simp; done) | (right; simp; done)))) | (refine ACall.mk _ _ _ (d11) ?_ ?_ ?_ ?_; (focus (simp; done)); (focus (simp; done)); (focus (first | (left; simp; done) | (right; simp; done))))); simp)
      refine RetOk.by (fun _ => none) ?_
      simp [results8]
  · rw [hcv] at c hc
    have hf := hfn.2 (hc.1 rfl)
    rw [hf] at eA
    replace eA : apartS a b = (0, 0, 6) := eA
    rw [eA] at d8
    simp [g2]
    repeat ((first | (refine ACall.mk _ _ _ (d1) ?_ ?_ ?_ ?_; (focus (simp; done)); (focus (simp; done)); (focus (first | (left; simp; done) | (right; simp; done)))) | (refine ACall.mk _ _ _ (d2) ?_ ?_ ?_ ?_; (focus (simp; done)); (focus (simp; done)); (focus (first | (left; simp; done) | (right; simp; done)))) | (refine ACall.mk _ _ _ (d3) ?_ ?_ ?_ ?_; (focus (simp; done)); (focus (simp; done)); (focus (first | (left; simp; done) | (right; simp; done)))) | (refine ACall.mk _ _ _ (d4) ?_ ?_ ?_ ?_; (focus (simp; done)); (focus (simp; done)); (focus (first | (left; simp; done) | (right; simp; done)))) | (refine ACall.mk _ _ _ (d5) ?_ ?_ ?_ ?_; (focus (simp; done)); (focus (simp; done)); (focus (first | (left; simp; done) | (right; simp; done)))) | (refine ACall.mk _ _ _ (d6) ?_ ?_ ?_ ?_; (focus (simp; done)); (focus (simp; done)); (focus (first | (left; simp; done) | (right; simp; done)))) | (refine ACall.mk _ _ _ (d7) ?_ ?_ ?_ ?_; (focus (simp; done)); (focus (simp; done)); (focus (first | (left; simp; done) | (right; simp; done)))) | (refine ACall.mk _ _ _ (d8) ?_ ?_ ?_ ?_; (focus (simp; done)); (focus (simp; done)); (focus (first | (left; simp; done) | (right; simp; done)))) | (refine ACall.mk _ _ _ (d9) ?_ ?_ ?_ ?_; (focus (simp; done)); (focus (simp; done)); (focus (first | (left; simp; done) | (right; simp; done)))) | (refine ACall.mk _ _ _ (d10) ?_ ?_ ?_ ?_; (focus (simp; done)); (focus (simp; done)); (focus (first | (left; simp; done) | (right; simp; done)))) | (refine ACall.mk _ _ _ (c) ?_ ?_ ?_ ?_; (focus (simp; done)); (focus (simp; done)); (focus (first | (left; simp; done) | (right; simp; done))))); simp)
    refine RetOk.by (fun _ => none) ?_
    simp [results8]
end Go.Proofs.Try
namespace Go.Psl
open Go.Shelf Go.RowKit Go.Lib Go.Sort
variable {P : Program} {ρ : Ren} {α : Type} [Inhabited α]
theorem grow_of {W W' : World} (hos : W'.os = W.os) (hta : W'.tape = W.tape) (hou : W'.output = W.output) (hdr : W.drawn ≤ W'.drawn) (hsz : W.heap.size ≤ W'.heap.size) (hb : ∀ b, b < W.heap.size → W'.heap[b]? = W.heap[b]?) :
    ∃ q os', W' = grow (W.drewN q) os' := by
  refine ⟨W'.drawn - W.drawn, W'.heap.extract W.heap.size W'.heap.size, ?_⟩
  obtain ⟨h, t, d, o, u⟩ := W
  obtain ⟨h', t', d', o', u'⟩ := W'
  simp only at hos hta hou hdr hsz hb
  subst hos hta hou
  simp only [grow, World.drewN]
  congr 1
  · apply Array.ext_getElem?
    intro i
    by_cases hi : i < h.size
    · rw [Array.getElem?_append_left hi, hb i hi]
    · rw [Array.getElem?_append_right (by omega), Array.getElem?_extract]
      split
      · congr 1; omega
      · rw [Array.getElem?_eq_none (by omega)]
  · omega
theorem flat_at {enc : α → List Value} {k : Nat} (h0 : 0 < k) (hk : ∀ x, (enc x).length = k) (l : List α) (j : Nat) (hj : j < l.length * k) : (l.flatMap enc)[j]? = some (flatK enc k l.toArray)[j]! := by
  rw [get_flatK _ _ _ _ (by simpa using hj), List.flatMap_def, flatten_get h0 _ (fun e he => by obtain ⟨x, _, rfl⟩ := List.mem_map.1 he; exact hk x)]
  have h1 : j / k < l.length := by rw [Nat.div_lt_iff_lt_mul h0]; exact hj
  have hm : j % k < k := Nat.mod_lt _ h0
  rw [List.getElem?_map, List.getElem?_eq_getElem h1]
  simp only [Option.map_some, Option.bind_some]
  have e1 : l.toArray[j / k]! = l[j / k] := by rw [getElem!_pos _ _ (by simpa using h1)]; simp
  rw [e1, List.getElem?_eq_getElem (by rw [hk]; exact hm), getElem!_pos _ _ (by rw [hk]; exact hm)]
omit [Inhabited α] in
theorem flat_len {enc : α → List Value} {k : Nat} (hk : ∀ x, (enc x).length = k) (l : List α) : (l.flatMap enc).length = l.length * k := by
  rw [List.flatMap_def, flatten_len (sz := k) _ (fun e he => by obtain ⟨x, _, rfl⟩ := List.mem_map.1 he; exact hk x), List.length_map]
theorem cV_rel {G : Gh} {W : World} {vs : List Value} (h : ∀ v ∈ vs, flatV v = true) : All2 (R1 G W) (vs.map cV) vs := by
  induction vs with
  | nil => trivial
  | cons v vs ih => exact ⟨RD.lit v (h v (by simp)), ih fun x hx => h x (by simp [hx])⟩
theorem cmpLays_of {g : Nat} {enc : α → List Value} {k : Nat} {cf : α → α → Int} (hflat : ∀ x, ∀ v ∈ enc x, flatV v = true) (hcmp : ∀ x y, Ct P g [.agg ((enc x).map cV), .agg ((enc y).map cV)] (.d (.lit (.int .i64 (cf x y)))) []) (blk off size : Nat) (w : World) : Go.Proofs.CmpLays P g #[] enc k cf blk off size w := by
  intro m os dk _ x y
  refine ((hcmp x y).2 ⟨fun _ => 0, fun _ => 0, fun _ => true, fun _ => true, fun _ => False⟩ _ #[.agg (enc x).toArray, .agg (enc y).toArray] (fun _ h => h.elim) ⟨⟨_, rfl, cV_rel (hflat x)⟩, ⟨_, rfl, cV_rel (hflat y)⟩, trivial⟩ ⟨nofun, fun i _ h => by simp [InH] at h, nofun⟩).mono fun e W' ⟨G', hp⟩ => ?_
  refine ⟨?_, grow_of hp.os hp.tape hp.output hp.drawn hp.size fun b hb => hp.block b hb fun ⟨_, h, _⟩ => by simp [InH] at h⟩
  cases e with
  | returned v => rw [rv_int hp.rv]
  | _ => exact hp.rv.elim
theorem sortFunc_cm (L : Go.Proofs.SlLaysF0.n6 P ρ) (hf : isFn P (ρ.f 6)) (k : Nat) (h0 : 0 < k) (aE : ∀ w, (isAgg (ρ.t 24)).run P w = .ok true w) (zE : ∀ w, (Go.sizeOf (ρ.t 24)).run P w = .ok k w) (enc : α → List Value) (hk : ∀ x, (enc x).length = k) (hflat : ∀ x, ∀ v ∈ enc x, flatV v = true) (cf : α → α → Int) (hO : SWO (Go.Proofs.ltOf cf)) (hT : ∀ x y, (Go.Proofs.ltOf cf) x y = false → (Go.Proofs.ltOf cf) y x = false → x = y)
    (g : Nat) (eg : ∀ args w, (callFunc g args).run P w = .ok (.enter g args) w) (hcmp : ∀ x y, Ct P g [.agg ((enc x).map cV), .agg ((enc y).map cV)] (.d (.lit (.int .i64 (cf x y)))) []) (l : List α) (hl0 : 0 < l.length) (hsz : l.length < 4611686018427387904) :
    Cm P (ρ.f 6) [.ls 0 0 l.length k, .d (.fn g [])] (lk [(0, (l.flatMap enc).map cV)]) [0] (.ret (.tup [])) (lk [(0, ((l.mergeSort fun x y => !(Go.Proofs.ltOf cf) y x).flatMap enc).map cV)]) := by
  refine ⟨hf, fun G W xs hGW hargs hpre => ?_⟩
  obtain ⟨v1, v2, rfl⟩ : ∃ v1 v2, xs = #[v1, v2] := by
    have := hargs.length
    obtain ⟨xs⟩ := xs
    match xs, this with
    | [a, b], _ => exact ⟨a, b, rfl⟩
    | [], h => simp at h
    | [_], h => simp at h
    | _ :: _ :: _ :: _, h => simp at h
  obtain ⟨h1, h2, _⟩ := hargs
  obtain ⟨hIn, hph⟩ := hpre.st 0 (by simp)
  obtain ⟨hml, ⟨_, h, _⟩ | ⟨hphl, o, cap, rfl, hcap, ho⟩⟩ := h1
  · omega
  obtain ⟨rfl, hbs0⟩ := ho (by omega)
  obtain ⟨cv, rfl, hcv⟩ : ∃ cv, v2 = .func (.func g) #[] cv ∧ cv.size = 0 := by
    cases h2 with
    | fn _ _ cv hl _ => exact ⟨cv, rfl, hl⟩
  obtain rfl : cv = #[] := Array.eq_empty_of_size_eq_zero hcv
  have hHB := hpre.hb 0 _ rfl
  obtain ⟨hnim, c, T, hb, hbs, hcl, hcr, hca⟩ := hHB.read hphl
  have hblk : G.β 0 < W.heap.size := (Array.getElem?_eq_some_iff.1 hb).1
  have hfl := flat_len hk l
  rw [List.length_map, hfl] at hcl hcr
  have hcell : ∀ j, j < l.length * k → c[j]? = some (flatK enc k l.toArray)[j]! := fun j hj => by
    have h3 := flat_at h0 hk l j hj
    have h4 : ((l.flatMap enc).map cV)[j]? = some (cV (flatK enc k l.toArray)[j]!) := by rw [List.getElem?_map, h3]; rfl
    obtain ⟨x, hx, hr⟩ := hcr.get h4
    rw [List.getElem?_take, if_pos hj, Array.getElem?_toList] at hx
    rw [hx, rv_lit hr.r2.rv]
  have hH : HoldsK enc k W (G.β 0) 0 l.toArray := fun j hj => by
    have hj' : j < l.length * k := by simpa using hj
    refine ⟨?_, ?_⟩
    · unfold World.cell?
      simp only [Nat.zero_add, hb, Option.isSome_none, Bool.false_eq_true, if_false]
      exact hcell j hj'
    · unfold World.frozen?
      simp [hb]
  have h1c : ∀ x, ∀ v ∈ enc x, v.oneCell' = true := fun x v hv => RD.oneCell (Im := fun _ => True) (W := W) (RD.lit v (hflat x v hv))
  have key := Go.Proofs.AnyQ.slices_SortFunc_total L k aE zE enc hk h1c cf hO g #[] (G.β 0) 0 cap l.toArray W eg (cmpLays_of hflat hcmp _ _ _ _) hH hblk (by simpa using hsz) hT
  have hperm : (l.mergeSort fun x y => !(Go.Proofs.ltOf cf) y x).length = l.length := List.length_mergeSort _
  generalize (l.mergeSort fun x y => !(Go.Proofs.ltOf cf) y x) = l' at key hperm ⊢
  have key' : Calls P (ρ.f 6) #[.slice (some ⟨G.β 0, 0, none⟩) l.length cap, .func (.func g) #[] #[]] W fun e w' => e = .returned (.tuple #[]) ∧ ∃ n os, w' = Go.Proofs.sortWorldK enc k W (G.β 0) 0 n l'.toArray os := by simpa using key
  refine key'.mono fun e W' ⟨he, n, os, hW'⟩ => ?_
  subst he
  have hlent : ∀ b, lentB G (lk [(0, (l.flatMap enc).map cV)]) b → b = G.β 0 := fun b ⟨i, hi, _, hbi⟩ => by
    have : i = 0 := by simp only [InH, lk] at hi; split at hi; assumption; cases hi
    rw [← hbi, this]
  have hlent0 : lentB G (lk [(0, (l.flatMap enc).map cV)]) (G.β 0) := ⟨0, hIn, hph, rfl⟩
  have hheap : ∀ b, b < W.heap.size → W'.heap[b]? = if b = G.β 0 then some (.cells (putCells id 0 (flatK enc k l'.toArray) c) T (0, 0)) else W.heap[b]? := fun b hlt => by
    rw [hW']
    show ((putRow id (Sort.ahead W n) (G.β 0) 0 (flatK enc k l'.toArray)).heap ++ os)[b]? = _
    rw [Array.getElem?_append_left (by simpa using hlt)]
    show (W.heap.modify (G.β 0) _)[b]? = _
    rw [Array.getElem?_modify]
    by_cases e : b = G.β 0
    · subst e
      simp [hb, onCells]
    · rw [if_neg (fun h => e h.symm), if_neg e]
  have hsz' : W.heap.size ≤ W'.heap.size := by rw [hW']; exact Go.Proofs.size_sortWorldK_c enc k W (G.β 0) 0 n l'.toArray os
  refine ⟨G, ⟨by rw [hW']; rfl, by rw [hW']; rfl, by rw [hW']; rfl, by rw [hW']; exact Nat.le_add_right _ _, hsz', fun b hlt hn => ?_, fun b hb => ⟨Nat.lt_of_lt_of_le (hGW b hb) hsz', .inl hb⟩, fun _ h => h, ⟨#[], rfl, trivial⟩, fun _ h => (by cases h), fun i cs hi => ?_, fun i j hi hj _ _ _ => ?_, fun i hi _ => ⟨rfl, rfl, (hpre.st i hi).2, rfl⟩⟩⟩
  · rw [hheap b hlt, if_neg (fun e : b = G.β 0 => hn (by rw [e]; exact hlent0))]
  · have hi0 : i = 0 ∧ cs = (l'.flatMap enc).map cV := by
      simp only [lk] at hi
      split at hi
      · rename_i e; cases hi; exact ⟨e, rfl⟩
      · cases hi
    obtain ⟨rfl, rfl⟩ := hi0
    have hfl' := flat_len hk l'
    refine ⟨.inr (.inl ⟨hphl.1, hphl.2, hnim, _, T, by rw [hheap _ hblk, if_pos rfl], by simp [putCells, hbs], by simp [putCells, hfl', hperm]; exact hcl, ?_, ?_⟩), fun _ => .inr hlent0, fun x hx => ?_⟩
    · refine All2.of_get ?_ fun j x y hx hy => ?_
      · simp [putCells, hfl', hperm]; omega
      · have hj : j < l'.length * k := by
          have := (List.getElem?_eq_some_iff.1 hx).1
          simpa [hfl'] using this
        rw [List.getElem?_map, flat_at h0 hk l' j hj] at hx
        cases hx
        rw [List.getElem?_take, List.length_map, hfl', if_pos hj, Array.getElem?_toList] at hy
        have hjc : j < c.size := by rw [hperm] at hj; omega
        simp only [putCells, Array.getElem?_mapIdx, Array.getElem?_eq_getElem hjc, Option.map_some, Nat.zero_le, true_and, Nat.zero_add, size_flatK, List.size_toArray, hj, if_true, Option.some.injEq, Nat.sub_zero, id] at hy
        subst hy
        have hm := flat_at h0 hk l' j hj
        have hmem := List.mem_of_getElem? hm
        obtain ⟨a, _, ha⟩ := List.mem_flatMap.1 hmem
        exact RD.lit _ (hflat a _ ha)
    · simp only [List.all_map, List.all_eq_true]
      intro v _; rfl
    · obtain ⟨v, _, rfl⟩ := List.mem_map.1 hx
      trivial
  · have e1 : i = 0 := by simp only [InH, lk] at hi; split at hi; assumption; cases hi
    have e2 : j = 0 := by simp only [InH, lk] at hj; split at hj; assumption; cases hj
    rw [e1, e2]
end Go.Psl
namespace Go.Proofs
def Try.sortL_ren : Go.Shelf.Ren := ⟨fun | 6 => 127 | 15 => 146 | 14 => 145 | 28 => 160 | 29 => 151 | 20 => 152 | 21 => 153 | 22 => 154 | 23 => 155 | 24 => 156 | 25 => 157 | 26 => 158 | 27 => 159 | 46 => 162 | 47 => 163 | 48 => 164 | 49 => 165 | 50 => 166 | 57 => 168 | n => n, fun | 22 => 54 | 24 => 56 | 25 => 148 | 3 => 3 | 39 => 116 | 0 => 0 | 53 => 174 | 55 => 140 | 4 => 4 | 46 => 168 | 45 => 167 | 50 => 145 | 5 => 5 | 9 => 9 | 66 => 175 | 70 => 179 | 76 => 181 | 77 => 75 | n => n, fun | n => n⟩
theorem Try.sortL : Go.Proofs.SlLaysF0.n6 Try.prog Try.sortL_ren := {
  mixed := by kernel_rfl,
  f6 := ⟨Try.f127.name, by decide, Try.func127.trans (congrArg some (by kernel_rfl))⟩,
  f14 := ⟨Try.f145.name, by decide, Try.func145.trans (congrArg some (by kernel_rfl))⟩,
  f15 := Try.func146.trans (congrArg some (by kernel_rfl)),
  f20 := ⟨Try.f152.name, by decide, Try.func152.trans (congrArg some (by kernel_rfl))⟩,
  f21 := ⟨Try.f153.name, by decide, Try.func153.trans (congrArg some (by kernel_rfl))⟩,
  f22 := ⟨Try.f154.name, by decide, Try.func154.trans (congrArg some (by kernel_rfl))⟩,
  f23 := ⟨Try.f155.name, by decide, Try.func155.trans (congrArg some (by kernel_rfl))⟩,
  f24 := ⟨Try.f156.name, by decide, Try.func156.trans (congrArg some (by kernel_rfl))⟩,
  f25 := ⟨Try.f157.name, by decide, Try.func157.trans (congrArg some (by kernel_rfl))⟩,
  f26 := ⟨Try.f158.name, by decide, Try.func158.trans (congrArg some (by kernel_rfl))⟩,
  f27 := ⟨Try.f159.name, by decide, Try.func159.trans (congrArg some (by kernel_rfl))⟩,
  f28 := Try.func160.trans (congrArg some (by kernel_rfl)),
  f29 := Try.func151.trans (congrArg some (by kernel_rfl)),
  f46 := ⟨Try.f162.name, by decide, Try.func162.trans (congrArg some (by kernel_rfl))⟩,
  f47 := Try.func163.trans (congrArg some (by kernel_rfl)),
  f48 := Try.func164.trans (congrArg some (by kernel_rfl)),
  f49 := ⟨Try.f165.name, by decide, Try.func165.trans (congrArg some (by kernel_rfl))⟩,
  f50 := ⟨Try.f166.name, by decide, Try.func166.trans (congrArg some (by kernel_rfl))⟩,
  f57 := ⟨Try.f168.name, by decide, Try.func168.trans (congrArg some (by kernel_rfl))⟩,
  t0 := Try.underlying0,
  a0 := Try.isAgg0,
  z0 := Try.sizeOf0,
  v0 := Try.zeroValue0,
  t3 := Try.underlying3,
  a3 := Try.isAgg3,
  z3 := Try.sizeOf3,
  v3 := Try.zeroValue3,
  t4 := Try.underlying4,
  a4 := Try.isAgg4,
  z4 := Try.sizeOf4,
  v4 := Try.zeroValue4,
  t5 := Try.underlying5,
  a5 := Try.isAgg5,
  z5 := Try.sizeOf5,
  v5 := Try.zeroValue5,
  t9 := Try.underlying9,
  a9 := Try.isAgg9,
  z9 := Try.sizeOf9,
  v9 := Try.zeroValue9,
  t22 := Try.underlying54,
  a22 := Try.isAgg54,
  z22 := Try.sizeOf54,
  v22 := Try.zeroValue54,
  t25 := Try.underlying148,
  a25 := Try.isAgg148,
  z25 := Try.sizeOf148,
  v25 := Try.zeroValue148,
  t39 := Try.underlying116,
  a39 := Try.isAgg116,
  z39 := Try.sizeOf116,
  v39 := Try.zeroValue116,
  t45 := Try.underlying167,
  a45 := Try.isAgg167,
  z45 := Try.sizeOf167,
  v45 := Try.zeroValue167,
  t46 := Try.underlying168,
  a46 := Try.isAgg168,
  z46 := Try.sizeOf168,
  v46 := Try.zeroValue168,
  t50 := Try.underlying145,
  a50 := Try.isAgg145,
  z50 := Try.sizeOf145,
  v50 := Try.zeroValue145,
  t53 := Try.underlying174,
  a53 := Try.isAgg174,
  z53 := Try.sizeOf174,
  v53 := Try.zeroValue174,
  t55 := Try.underlying140,
  a55 := Try.isAgg140,
  z55 := Try.sizeOf140,
  v55 := Try.zeroValue140,
  t66 := Try.underlying175,
  a66 := Try.isAgg175,
  z66 := Try.sizeOf175,
  v66 := Try.zeroValue175,
  t70 := Try.underlying179,
  a70 := Try.isAgg179,
  z70 := Try.sizeOf179,
  v70 := Try.zeroValue179,
  t76 := Try.underlying181,
  a76 := Try.isAgg181,
  z76 := Try.sizeOf181,
  v76 := Try.zeroValue181,
  t77 := Try.underlying75,
  a77 := Try.isAgg75,
  z77 := Try.sizeOf75,
  v77 := Try.zeroValue75 }
end Go.Proofs
namespace Go.Proofs.Try
open Go.Psl
def encC (p : Int × Int) : List Value := [.int .i64 p.1, .int .i64 p.2]
theorem enc_cells (l : List (Int × Int)) : (l.flatMap encC).map cV = cellsI l := by
  induction l with
  | nil => rfl
  | cons a l ih =>
    rw [List.flatMap_cons, List.map_append, ih]
    rfl
theorem ltOf_order (x y : Int × Int) : Go.Proofs.ltOf orderS x y = true ↔ Go.Geo.lt x y := by
  unfold Go.Proofs.ltOf; rw [decide_eq_true_eq, order_lt]
theorem ltOf_order' (x y : Int × Int) : Go.Proofs.ltOf orderS x y = false ↔ ¬ Go.Geo.lt x y := by
  rw [← ltOf_order]; simp
theorem swo_order : Go.Sort.SWO (Go.Proofs.ltOf orderS) where
  irrefl x := by rw [ltOf_order']; exact Go.Geo.lt_irr x
  trans x y z h1 h2 := by rw [ltOf_order] at *; exact Go.Geo.lt_trans h1 h2
  ntrans x y z h1 h2 := by rw [ltOf_order'] at *; unfold Go.Geo.lt at *; omega
theorem sortOk : SortOk := fun l h1 h2 => by
  have hcmp : ∀ x y : Int × Int, Ct prog 128 [.agg ((encC x).map cV), .agg ((encC y).map cV)] (.d (.lit (.int .i64 (orderS x y)))) [] := fun x y => fn128 x y
  have h := sortFunc_cm Try.sortL ⟨_, func127, by kernel_rfl, by decide⟩ 2 (by omega) Try.isAgg56 Try.sizeOf56 encC (fun _ => rfl) (fun x v hv => by simp [encC] at hv; rcases hv with rfl | rfl <;> rfl) orderS swo_order
    (fun x y a b => by
      rw [ltOf_order'] at a b
      rcases Go.Geo.lt_tri x y with h | h | h
      · exact absurd h a
      · exact h
      · exact absurd h b) 128 (Go.Proofs.enters_of func128 (by kernel_rfl) rfl) hcmp l h1 (by omega)
  rw [enc_cells, enc_cells] at h
  exact h
end Go.Proofs.Try
