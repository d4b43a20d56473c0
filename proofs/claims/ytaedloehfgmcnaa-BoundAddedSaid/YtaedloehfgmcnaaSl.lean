/- Own lemmas and contracts of functions, used by the last text of this claim for the given statement. Conditions: those that each theorem states. -/
import Derived.Test.YtaedloehfgmcnaaSk
import Derived.Test.YtaedloehfgmcnaaSj
import Derived.Test.YtaedloehfgmcnaaSg
import Derived.Shelf.SlSortCmp.NoneTotal
import Derived.Test.YtaedloehfgmcnaaProg
namespace Go.Proofs.Try
open Go.Psl
open Go.Stb
open Go.Geo (cross cyc InR box hullS Parted Sup)
theorem insS_hull {r s : List (Int × Int)} (hs : Go.Geo.Sorted s) (hr : r = hullS s) (hne : r ≠ []) (p : Int × Int) : insS r p = true ↔ InR r p := by
  match r, hne, hr with
  | [], hne, _ => exact absurd rfl hne
  | [a], _, _ => rw [in_one]; unfold insS; simp
  | [a, b], _, hr =>
    have hlt := hull_seg hs hr.symm
    rw [in_two]
    unfold insS
    simp only [Bool.and_eq_true, Bool.or_eq_true, leftL_iff]
    have e : cyc [a, b] = [(a, b), (b, a)] := rfl
    rw [e]
    simp only [List.mem_cons, List.not_mem_nil, or_false, forall_eq_or_imp, forall_eq]
    rw [Go.Geo.cross_swap2 b a p]
    have hw : (winB p.1 a.1 b.1 = true ∧ winB p.2 (min a.2 b.2) (max a.2 b.2) = true) ↔ box a b p := by
      unfold winB box Go.Geo.lt at *
      simp only [Bool.and_eq_true, decide_eq_true_eq]
      omega
    rw [hw]
    simp
    omega
  | a :: b :: c :: t, _, _ =>
    unfold insS InR
    simp [leftL_iff]
theorem ins_sup {l : List (Int × Int)} (h : l ≠ []) (p : Int × Int) : insS (hullP l) p = true ↔ Sup [p] l := by
  have hne := hullP_ne (List.length_pos_iff.2 h)
  have hs := sorted_dd l
  rw [insS_hull (r := hullP l) hs rfl hne]
  have hz : ddC (sortC l) ≠ [] := fun e => by
    obtain ⟨x, t, rfl⟩ := List.exists_cons_of_ne_nil h
    have : x ∈ ddC (sortC (x :: t)) := by rw [ddC_mem, sortC_mem]; simp
    rw [e] at this; simp at this
  have hm : ∀ x, x ∈ ddC (sortC l) ↔ x ∈ l := fun x => by rw [ddC_mem, sortC_mem]
  constructor
  · intro hi d M hM v hv
    exact (Go.Geo.in_sup hs hi) d M (fun v hv => hM v ((hm v).1 (Go.Geo.hull_sub hs v hv))) v hv
  · intro hp
    refine Go.Geo.in_of_sup hs hz (k := ddC (sortC (l ++ [p]))) (fun d M hM v hv => hp d M (fun v hv => hM v ((hm v).2 hv)) v hv) (sorted_dd _) fun x => ?_
    rw [hm, ddC_mem, sortC_mem, List.mem_append, List.mem_singleton]
end Go.Proofs.Try
namespace Go.Proofs.Try
open Go.Psl
open Go.Stb
open Go.Geo (Parted)
theorem fz_ret2z {P : Program} {f : FuncId} {args : List V} {out z : List (Int × Int)} {e : Int} (h : Ct P f args (.tup [hdrV out 0, vi e]) (outZ out z 0)) : Ct P f args (.tup [.d (spansD out), vi e]) [] :=
  Cm.freeze h ⟨fz_outZ out z, Or.inl rfl, trivial⟩
theorem sum_frozen (hS : SortOk) (a b : List (Int × Int)) (ha : a.length ≤ 1000000000) (hb : b.length ≤ 1000000000) : Ct prog 62 [.d (spansD a), .d (spansD b)] (.tup [.d (spansD (sumOut a b)), vi (sumErr a b)]) [] := by
  obtain ⟨z, h⟩ := fn62 hS a b ha hb (fun h1 h2 => sumL_bd h1 h2)
  exact fz_ret2z h
theorem sumOut_len (a b : List (Int × Int)) : (sumOut a b).length ≤ 64 := by
  unfold sumOut
  split
  · rename_i h
    unfold sumErr at h
    split at h
    · split at h
      · split at h
        · cases h
        · omega
      · cases h
    · cases h
  · simp
end Go.Proofs.Try
namespace Go.Proofs.Try
open Go.Psl
open Go.Geo (Sup)
theorem pair_comm {a b : List (Int × Int)} : hullP (pairS 1 a b) = hullP (pairS 1 b a) := by
  unfold hullP
  have : ddC (sortC (pairS 1 a b)) = ddC (sortC (pairS 1 b a)) := sorted_unique (sorted_dd _) (sorted_dd _) fun x => by
    rw [ddC_mem, sortC_mem, ddC_mem, sortC_mem, mem_pair, mem_pair]
    constructor
    · rintro ⟨p, hp, q, hq, rfl⟩; exact ⟨q, hq, p, hp, by rw [addC_pair, addC_pair]; unfold addC; rw [Int.add_comm p.1, Int.add_comm p.2]⟩
    · rintro ⟨p, hp, q, hq, rfl⟩; exact ⟨q, hq, p, hp, by rw [addC_pair, addC_pair]; unfold addC; rw [Int.add_comm p.1, Int.add_comm p.2]⟩
  rw [this]
theorem sumErr_no {a b : List (Int × Int)} (h : (regS a && regS b) = false) : sumErr a b = 14 := by unfold sumErr; rw [h]; rfl
theorem sumErr_comm (a b : List (Int × Int)) : sumErr b a = sumErr a b := by
  cases h : regS a && regS b
  · rw [sumErr_no h, sumErr_no (by rw [Bool.and_comm]; exact h)]
  · have h2 := h
    rw [Bool.and_eq_true] at h2
    unfold sumErr
    rw [h, show (regS b && regS a) = true by rw [Bool.and_comm]; exact h, sum_hull h2.1 h2.2, sum_hull h2.2 h2.1, pair_comm]
theorem sumOut_comm (a b : List (Int × Int)) : sumOut b a = sumOut a b := by
  unfold sumOut
  rw [sumErr_comm]
  split
  · rename_i h
    have h1 : (regS a && regS b) = true := by
      cases h2 : regS a && regS b
      · rw [sumErr_no h2] at h; cases h
      · rfl
    rw [Bool.and_eq_true] at h1
    rw [sum_hull h1.1 h1.2, sum_hull h1.2 h1.1, pair_comm]
  · rfl
structure SumOk (a b S : List (Int × Int)) : Prop where
  ra : regS a = true
  rb : regS b = true
  rs : regS S = true
  eq : S = hullP (pairS 1 a b)
theorem sum_ok {a b : List (Int × Int)} (h : sumErr a b = 0) : SumOk a b (sumOut a b) := by
  have h1 : (regS a && regS b) = true := by
    cases h2 : regS a && regS b
    · rw [sumErr_no h2] at h; cases h
    · rfl
  have h12 := h1
  rw [Bool.and_eq_true] at h12
  have e : sumOut a b = hullP (pairS 1 a b) := by unfold sumOut; rw [if_pos h, sum_hull h12.1 h12.2]
  have hl := sumOut_len a b
  have hne := hullP_ne (List.length_pos_iff.2 (pair_ne (s := 1) (reg_hull h12.1).2 (reg_hull h12.2).2))
  have hn : nearC (hullP (pairS 1 a b)) = true := by
    unfold sumErr at h
    rw [h1, sum_hull h12.1 h12.2] at h
    cases hc : nearC (hullP (pairS 1 a b))
    · rw [hc] at h; simp at h
    · rfl
  refine ⟨h12.1, h12.2, ?_, e⟩
  rw [e] at hl ⊢
  have hpos : 0 < (hullP (pairS 1 a b)).length := List.length_pos_iff.2 hne
  unfold regS
  rw [decide_eq_true (by omega), decide_eq_true hl, hn, decide_eq_true (hullP_again _)]; rfl
theorem ins_dot {a : List (Int × Int)} (h : regS a = true) {p : Int × Int} (hp : insS a p = true) (d : Int × Int) : ∃ v ∈ a, Go.Geo.dot d p ≤ Go.Geo.dot d v := by
  have la := regS_len h
  obtain ⟨⟨v, hv, e⟩, _⟩ := al_at (dx := d.1) (dy := d.2) (l := a) (by omega)
  have := (in_reach h hp d.1 d.2).2
  refine ⟨v, hv, ?_⟩
  have e1 : ∀ x : Int × Int, Go.Geo.dot d x = dotS d.1 d.2 x := fun x => rfl
  rw [e1, e1]; omega
theorem ins_add {a b S : List (Int × Int)} (h : SumOk a b S) {p q : Int × Int} (hp : insS a p = true) (hq : insS b q = true) : insS S (addC p q) = true := by
  rw [h.eq, ins_sup (pair_ne (reg_hull h.ra).2 (reg_hull h.rb).2)]
  intro d M hM v hv
  rw [List.mem_singleton.1 hv]
  obtain ⟨v, hv, h1⟩ := ins_dot h.ra hp d
  obtain ⟨w, hw, h2⟩ := ins_dot h.rb hq d
  have := hM _ (mem_pair.2 ⟨v, hv, w, hw, rfl⟩)
  rw [addC_pair] at this
  have e1 : Go.Geo.dot d (addC v w) = Go.Geo.dot d v + Go.Geo.dot d w := Go.Geo.dot_ad d v w
  have e2 : Go.Geo.dot d (addC p q) = Go.Geo.dot d p + Go.Geo.dot d q := Go.Geo.dot_ad d p q
  omega
theorem ins_okC {S : List (Int × Int)} (h : regS S = true) {p : Int × Int} (hp : insS S p = true) : okC p = true := by
  have key : ∀ d : Int × Int, (∀ v ∈ S, Go.Geo.dot d v ≤ 268435456) → Go.Geo.dot d p ≤ 268435456 := fun d hd => by
    obtain ⟨v, hv, h1⟩ := ins_dot h hp d
    have := hd v hv
    omega
  have bs := regS_bd h
  have e1 := key (1, 0) (fun v hv => by have := bs v hv; unfold bd at this; unfold Go.Geo.dot; simp only; omega)
  have e2 := key (-1, 0) (fun v hv => by have := bs v hv; unfold bd at this; unfold Go.Geo.dot; simp only; omega)
  have e3 := key (0, 1) (fun v hv => by have := bs v hv; unfold bd at this; unfold Go.Geo.dot; simp only; omega)
  have e4 := key (0, -1) (fun v hv => by have := bs v hv; unfold bd at this; unfold Go.Geo.dot; simp only; omega)
  unfold Go.Geo.dot at e1 e2 e3 e4
  simp only at e1 e2 e3 e4
  rw [okC_iff]; unfold bd; omega
theorem reach_add {a b S : List (Int × Int)} (h : SumOk a b S) (dx dy : Int) : (alongS a dx dy).2 + (alongS b dx dy).2 = (alongS S dx dy).2 := by
  have la := regS_len h.ra
  have lb := regS_len h.rb
  have ls := regS_len h.rs
  obtain ⟨⟨v, hv, e1⟩, _⟩ := al_at (dx := dx) (dy := dy) (l := a) (by omega)
  obtain ⟨⟨w, hw, e2⟩, _⟩ := al_at (dx := dx) (dy := dy) (l := b) (by omega)
  obtain ⟨⟨u, hu, e3⟩, _⟩ := al_at (dx := dx) (dy := dy) (l := S) (by omega)
  have ed : ∀ v w : Int × Int, dotS dx dy (addC v w) = dotS dx dy v + dotS dx dy w := fun v w => Go.Geo.dot_ad (dx, dy) v w
  have h1 : dotS dx dy u ≤ (alongS a dx dy).2 + (alongS b dx dy).2 := by
    rw [h.eq] at hu
    obtain ⟨v, hv, w, hw, rfl⟩ := mem_pair.1 (hullP_sub hu)
    rw [addC_pair, ed]
    have := (al_max (dx := dx) (dy := dy) hv).2
    have := (al_max (dx := dx) (dy := dy) hw).2
    omega
  have h2 : dotS dx dy (addC v w) ≤ (alongS S dx dy).2 := by
    have := sup_hullP (pairS 1 a b) (dx, dy) (alongS S dx dy).2 (fun x hx => by rw [← h.eq] at hx; exact (al_max (dx := dx) (dy := dy) hx).2) (addC v w) (mem_pair.2 ⟨v, hv, w, hw, (addC_pair v w).symm⟩)
    exact this
  rw [ed] at h2
  omega
end Go.Proofs.Try
namespace Go.Proofs.Try
open Go.Psl
set_option maxHeartbeats 16000000 in
set_option maxRecDepth 20000 in
theorem fn18 (hS : SortOk) (a b : List (Int × Int)) (p q : Int × Int) (dx dy : Int) : Ct prog 18 [.d (spansD a), .d (spansD b), vsp p.1 p.2, vsp q.1 q.2, vi dx, vi dy] (vb true) [] := by
  have k0 := fn58 hS
  refine Ct.by gok eok mixed func18 c18 rfl (by simp [ntmps18]) (by simp) (by simp [ResIds]) fun E hE => ?_
  simp [p18]
  refine ACall.mk _ _ _ (k0) (by first | (simp; done) | simp [Bor_ls, Bor1_ls]) (by simp) (by first | (left; simp; done) | (right; simp; done)) ?_
  simp
  refine ACall.mk _ _ _ (fn48 a) (by first | (simp; done) | simp [Bor_ls, Bor1_ls]) (by simp) (by first | (left; simp; done) | (right; simp; done)) ?_
  by_cases g1 : 80 < a.length
  · simp [g1]
    refine RetOk.by (fun _ => none) ?_
    simp [results18]
  simp [g1]
  refine ACall.mk _ _ _ (fn48 b) (by first | (simp; done) | simp [Bor_ls, Bor1_ls]) (by simp) (by first | (left; simp; done) | (right; simp; done)) ?_
  by_cases g2 : 80 < b.length
  · simp [g2]
    refine RetOk.by (fun _ => none) ?_
    simp [results18]
  have k1 := sum_frozen hS a b (by omega) (by omega)
  have k2 := sum_frozen hS b a (by omega) (by omega)
  rw [sumOut_comm, sumErr_comm] at k2
  have hSl := sumOut_len a b
  by_cases he : sumErr a b = 0
  · have ok := sum_ok he
    rw [he] at k1 k2
    have la := regS_len ok.ra
    have lb := regS_len ok.rb
    have ls := regS_len ok.rs
    obtain ⟨S, hSv⟩ : ∃ S, sumOut a b = S := ⟨_, rfl⟩
    rw [hSv] at k1 k2 ok hSl ls
    have c1 := fn57 S S (by omega) (by omega)
    have c2 := fn55 hS S (by omega)
    have c3 := fn51 hS a p (by omega)
    have c4 := fn51 hS b q (by omega)
    have c6 := fn60 hS a dx dy (by omega)
    have c7 := fn60 hS b dx dy (by omega)
    have c8 := fn60 hS S dx dy (by omega)
    have eA : regE a = 0 := by unfold regE; rw [ok.ra]; rfl
    have eB : regE b = 0 := by unfold regE; rw [ok.rb]; rfl
    have eS : regE S = 0 := by unfold regE; rw [ok.rs]; rfl
    rw [eA] at c3
    rw [eB] at c4
    rw [ok.rs] at c2
    have hin : inV a p = true → inV b q = true → IntKind.wrap .i64 (p.1 + q.1) = (addC p q).1 ∧ IntKind.wrap .i64 (p.2 + q.2) = (addC p q).2 ∧ inV S (addC p q) = true := fun h1 h2 => by
      unfold inV at h1 h2
      rw [ok.ra] at h1
      rw [ok.rb] at h2
      simp only [Bool.true_and, Bool.and_eq_true] at h1 h2
      have hi := ins_add ok h1.2 h2.2
      have b1 := okC_iff.1 h1.1
      have b2 := okC_iff.1 h2.1
      unfold bd at b1 b2
      refine ⟨wrap64 (by omega) (by omega), wrap64 (by omega) (by omega), ?_⟩
      unfold inV
      rw [ok.rs, ins_okC ok.rs hi, hi]; rfl
    have c5 := fn51 hS S (addC p q) (by omega)
    rw [eS] at c5
    have hr : (reachE a dx dy = 2 ∧ reachE b dx dy = 2 ∧ reachE S dx dy = 2) ∨ (reachE a dx dy = 0 ∧ reachE b dx dy = 0 ∧ reachE S dx dy = 0 ∧ IntKind.wrap .i64 (reachV a dx dy + reachV b dx dy) = reachV S dx dy) := by
      have e1 : reachE a dx dy = if strS dx dy = false then 2 else 0 := by unfold reachE; rw [ok.ra]; rfl
      have e2 : reachE b dx dy = if strS dx dy = false then 2 else 0 := by unfold reachE; rw [ok.rb]; rfl
      have e3 : reachE S dx dy = if strS dx dy = false then 2 else 0 := by unfold reachE; rw [ok.rs]; rfl
      cases hs : strS dx dy
      · rw [hs] at e1 e2 e3
        exact Or.inl ⟨e1, e2, e3⟩
      · rw [hs] at e1 e2 e3
        refine Or.inr ⟨e1, e2, e3, ?_⟩
        have v1 : reachV a dx dy = (alongS a dx dy).2 := by unfold reachV; rw [e1]; rfl
        have v2 : reachV b dx dy = (alongS b dx dy).2 := by unfold reachV; rw [e2]; rfl
        have v3 : reachV S dx dy = (alongS S dx dy).2 := by unfold reachV; rw [e3]; rfl
        have hd := strS_iff.1 hs
        have a1 := (al_abs hd (fun q hq => bd_mono (regS_bd ok.ra q hq) (by omega)) a.length).2
        have a2 := (al_abs hd (fun q hq => bd_mono (regS_bd ok.rb q hq) (by omega)) b.length).2
        have hadd := reach_add ok dx dy
        rw [v1, v2, v3, ← hadd]
        unfold alongS
        exact wrap64 (by omega) (by omega)
    generalize reachE a dx dy = E1 at *
    generalize reachE b dx dy = E2 at *
    generalize reachE S dx dy = E3 at *
    generalize reachV a dx dy = V1 at *
    generalize reachV b dx dy = V2 at *
    generalize reachV S dx dy = V3 at *
    cases h1 : inV a p
    · rw [h1] at c3
      rcases hr with ⟨rfl, rfl, rfl⟩ | ⟨rfl, rfl, rfl, hw⟩
      · simp [g2]
        repeat ((first | (refine ACall.mk _ _ _ (k1) ?_ ?_ ?_ ?_; (focus (simp; done)); (focus (simp; done)); (focus (first | (left; simp; done) | (right; simp; done)))) | (refine ACall.mk _ _ _ (k2) ?_ ?_ ?_ ?_; (focus (simp; done)); (focus (simp; done)); (focus (first | (left; simp; done) | (right; simp; done)))) | (refine ACall.mk _ _ _ (c1) ?_ ?_ ?_ ?_; (focus (simp; done)); (focus (simp; done)); (focus (first | (left; simp; done) | (right; simp; done)))) | (refine ACall.mk _ _ _ (c2) ?_ ?_ ?_ ?_; (focus (simp; done)); (focus (simp; done)); (focus (first | (left; simp; done) | (right; simp; done)))) | (refine ACall.mk _ _ _ (c3) ?_ ?_ ?_ ?_; (focus (simp; done)); (focus (simp; done)); (focus (first | (left; simp; done) | (right; simp; done)))) | (refine ACall.mk _ _ _ (c4) ?_ ?_ ?_ ?_; (focus (simp; done)); (focus (simp; done)); (focus (first | (left; simp; done) | (right; simp; done)))) | (refine ACall.mk _ _ _ (c6) ?_ ?_ ?_ ?_; (focus (simp; done)); (focus (simp; done)); (focus (first | (left; simp; done) | (right; simp; done)))) | (refine ACall.mk _ _ _ (c7) ?_ ?_ ?_ ?_; (focus (simp; done)); (focus (simp; done)); (focus (first | (left; simp; done) | (right; simp; done)))) | (refine ACall.mk _ _ _ (c8) ?_ ?_ ?_ ?_; (focus (simp; done)); (focus (simp; done)); (focus (first | (left; simp; done) | (right; simp; done))))); simp)
        refine RetOk.by (fun _ => none) ?_
        simp [results18]
      · simp [g2]
        repeat ((first | (refine ACall.mk _ _ _ (k1) ?_ ?_ ?_ ?_; (focus (simp; done)); (focus (simp; done)); (focus (first | (left; simp; done) | (right; simp; done)))) | (refine ACall.mk _ _ _ (k2) ?_ ?_ ?_ ?_; (focus (simp; done)); (focus (simp; done)); (focus (first | (left; simp; done) | (right; simp; done)))) | (refine ACall.mk _ _ _ (c1) ?_ ?_ ?_ ?_; (focus (simp; done)); (focus (simp; done)); (focus (first | (left; simp; done) | (right; simp; done)))) | (refine ACall.mk _ _ _ (c2) ?_ ?_ ?_ ?_; (focus (simp; done)); (focus (simp; done)); (focus (first | (left; simp; done) | (right; simp; done)))) | (refine ACall.mk _ _ _ (c3) ?_ ?_ ?_ ?_; (focus (simp; done)); (focus (simp; done)); (focus (first | (left; simp; done) | (right; simp; done)))) | (refine ACall.mk _ _ _ (c4) ?_ ?_ ?_ ?_; (focus (simp; done)); (focus (simp; done)); (focus (first | (left; simp; done) | (right; simp; done)))) | (refine ACall.mk _ _ _ (c6) ?_ ?_ ?_ ?_; (focus (simp; done)); (focus (simp; done)); (focus (first | (left; simp; done) | (right; simp; done)))) | (refine ACall.mk _ _ _ (c7) ?_ ?_ ?_ ?_; (focus (simp; done)); (focus (simp; done)); (focus (first | (left; simp; done) | (right; simp; done)))) | (refine ACall.mk _ _ _ (c8) ?_ ?_ ?_ ?_; (focus (simp; done)); (focus (simp; done)); (focus (first | (left; simp; done) | (right; simp; done))))); simp [hw])
        refine RetOk.by (fun _ => none) ?_
        simp [results18]
    · rw [h1] at c3
      cases h2 : inV b q
      · rw [h2] at c4
        rcases hr with ⟨rfl, rfl, rfl⟩ | ⟨rfl, rfl, rfl, hw⟩
        · simp [g2]
          repeat ((first | (refine ACall.mk _ _ _ (k1) ?_ ?_ ?_ ?_; (focus (simp; done)); (focus (simp; done)); (focus (first | (left; simp; done) | (right; simp; done)))) | (refine ACall.mk _ _ _ (k2) ?_ ?_ ?_ ?_; (focus (simp; done)); (focus (simp; done)); (focus (first | (left; simp; done) | (right; simp; done)))) | (refine ACall.mk _ _ _ (c1) ?_ ?_ ?_ ?_; (focus (simp; done)); (focus (simp; done)); (focus (first | (left; simp; done) | (right; simp; done)))) | (refine ACall.mk _ _ _ (c2) ?_ ?_ ?_ ?_; (focus (simp; done)); (focus (simp; done)); (focus (first | (left; simp; done) | (right; simp; done)))) | (refine ACall.mk _ _ _ (c3) ?_ ?_ ?_ ?_; (focus (simp; done)); (focus (simp; done)); (focus (first | (left; simp; done) | (right; simp; done)))) | (refine ACall.mk _ _ _ (c4) ?_ ?_ ?_ ?_; (focus (simp; done)); (focus (simp; done)); (focus (first | (left; simp; done) | (right; simp; done)))) | (refine ACall.mk _ _ _ (c6) ?_ ?_ ?_ ?_; (focus (simp; done)); (focus (simp; done)); (focus (first | (left; simp; done) | (right; simp; done)))) | (refine ACall.mk _ _ _ (c7) ?_ ?_ ?_ ?_; (focus (simp; done)); (focus (simp; done)); (focus (first | (left; simp; done) | (right; simp; done)))) | (refine ACall.mk _ _ _ (c8) ?_ ?_ ?_ ?_; (focus (simp; done)); (focus (simp; done)); (focus (first | (left; simp; done) | (right; simp; done))))); simp)
          refine RetOk.by (fun _ => none) ?_
          simp [results18]
        · simp [g2]
          repeat ((first | (refine ACall.mk _ _ _ (k1) ?_ ?_ ?_ ?_; (focus (simp; done)); (focus (simp; done)); (focus (first | (left; simp; done) | (right; simp; done)))) | (refine ACall.mk _ _ _ (k2) ?_ ?_ ?_ ?_; (focus (simp; done)); (focus (simp; done)); (focus (first | (left; simp; done) | (right; simp; done)))) | (refine ACall.mk _ _ _ (c1) ?_ ?_ ?_ ?_; (focus (simp; done)); (focus (simp; done)); (focus (first | (left; simp; done) | (right; simp; done)))) | (refine ACall.mk _ _ _ (c2) ?_ ?_ ?_ ?_; (focus (simp; done)); (focus (simp; done)); (focus (first | (left; simp; done) | (right; simp; done)))) | (refine ACall.mk _ _ _ (c3) ?_ ?_ ?_ ?_; (focus (simp; done)); (focus (simp; done)); (focus (first | (left; simp; done) | (right; simp; done)))) | (refine ACall.mk _ _ _ (c4) ?_ ?_ ?_ ?_; (focus (simp; done)); (focus (simp; done)); (focus (first | (left; simp; done) | (right; simp; done)))) | (refine ACall.mk _ _ _ (c6) ?_ ?_ ?_ ?_; (focus (simp; done)); (focus (simp; done)); (focus (first | (left; simp; done) | (right; simp; done)))) | (refine ACall.mk _ _ _ (c7) ?_ ?_ ?_ ?_; (focus (simp; done)); (focus (simp; done)); (focus (first | (left; simp; done) | (right; simp; done)))) | (refine ACall.mk _ _ _ (c8) ?_ ?_ ?_ ?_; (focus (simp; done)); (focus (simp; done)); (focus (first | (left; simp; done) | (right; simp; done))))); simp [hw])
          refine RetOk.by (fun _ => none) ?_
          simp [results18]
      · rw [h2] at c4
        obtain ⟨w1, w2, h3⟩ := hin h1 h2
        rw [h3] at c5
        rcases hr with ⟨rfl, rfl, rfl⟩ | ⟨rfl, rfl, rfl, hw⟩
        · simp [g2]
          repeat ((first | (refine ACall.mk _ _ _ (k1) ?_ ?_ ?_ ?_; (focus (simp; done)); (focus (simp; done)); (focus (first | (left; simp; done) | (right; simp; done)))) | (refine ACall.mk _ _ _ (k2) ?_ ?_ ?_ ?_; (focus (simp; done)); (focus (simp; done)); (focus (first | (left; simp; done) | (right; simp; done)))) | (refine ACall.mk _ _ _ (c1) ?_ ?_ ?_ ?_; (focus (simp; done)); (focus (simp; done)); (focus (first | (left; simp; done) | (right; simp; done)))) | (refine ACall.mk _ _ _ (c2) ?_ ?_ ?_ ?_; (focus (simp; done)); (focus (simp; done)); (focus (first | (left; simp; done) | (right; simp; done)))) | (refine ACall.mk _ _ _ (c3) ?_ ?_ ?_ ?_; (focus (simp; done)); (focus (simp; done)); (focus (first | (left; simp; done) | (right; simp; done)))) | (refine ACall.mk _ _ _ (c4) ?_ ?_ ?_ ?_; (focus (simp; done)); (focus (simp; done)); (focus (first | (left; simp; done) | (right; simp; done)))) | (refine ACall.mk _ _ _ (c5) ?_ ?_ ?_ ?_; (focus (simp; done)); (focus (simp; done)); (focus (first | (left; simp; done) | (right; simp; done)))) | (refine ACall.mk _ _ _ (c6) ?_ ?_ ?_ ?_; (focus (simp; done)); (focus (simp; done)); (focus (first | (left; simp; done) | (right; simp; done)))) | (refine ACall.mk _ _ _ (c7) ?_ ?_ ?_ ?_; (focus (simp; done)); (focus (simp; done)); (focus (first | (left; simp; done) | (right; simp; done)))) | (refine ACall.mk _ _ _ (c8) ?_ ?_ ?_ ?_; (focus (simp; done)); (focus (simp; done)); (focus (first | (left; simp; done) | (right; simp; done))))); simp [splice, w1, w2])
          refine RetOk.by (fun _ => none) ?_
          simp [results18]
        · simp [g2]
          repeat ((first | (refine ACall.mk _ _ _ (k1) ?_ ?_ ?_ ?_; (focus (simp; done)); (focus (simp; done)); (focus (first | (left; simp; done) | (right; simp; done)))) | (refine ACall.mk _ _ _ (k2) ?_ ?_ ?_ ?_; (focus (simp; done)); (focus (simp; done)); (focus (first | (left; simp; done) | (right; simp; done)))) | (refine ACall.mk _ _ _ (c1) ?_ ?_ ?_ ?_; (focus (simp; done)); (focus (simp; done)); (focus (first | (left; simp; done) | (right; simp; done)))) | (refine ACall.mk _ _ _ (c2) ?_ ?_ ?_ ?_; (focus (simp; done)); (focus (simp; done)); (focus (first | (left; simp; done) | (right; simp; done)))) | (refine ACall.mk _ _ _ (c3) ?_ ?_ ?_ ?_; (focus (simp; done)); (focus (simp; done)); (focus (first | (left; simp; done) | (right; simp; done)))) | (refine ACall.mk _ _ _ (c4) ?_ ?_ ?_ ?_; (focus (simp; done)); (focus (simp; done)); (focus (first | (left; simp; done) | (right; simp; done)))) | (refine ACall.mk _ _ _ (c5) ?_ ?_ ?_ ?_; (focus (simp; done)); (focus (simp; done)); (focus (first | (left; simp; done) | (right; simp; done)))) | (refine ACall.mk _ _ _ (c6) ?_ ?_ ?_ ?_; (focus (simp; done)); (focus (simp; done)); (focus (first | (left; simp; done) | (right; simp; done)))) | (refine ACall.mk _ _ _ (c7) ?_ ?_ ?_ ?_; (focus (simp; done)); (focus (simp; done)); (focus (first | (left; simp; done) | (right; simp; done)))) | (refine ACall.mk _ _ _ (c8) ?_ ?_ ?_ ?_; (focus (simp; done)); (focus (simp; done)); (focus (first | (left; simp; done) | (right; simp; done))))); simp [splice, hw, w1, w2])
          refine RetOk.by (fun _ => none) ?_
          simp [results18]
  · have hSO : sumOut a b = [] := by unfold sumOut; rw [if_neg he]
    rw [hSO] at k1 k2
    simp [g2]
    repeat ((first | (refine ACall.mk _ _ _ (k1) ?_ ?_ ?_ ?_; (focus (simp; done)); (focus (simp; done)); (focus (first | (left; simp; done) | (right; simp; done)))) | (refine ACall.mk _ _ _ (k2) ?_ ?_ ?_ ?_; (focus (simp; done)); (focus (simp; done)); (focus (first | (left; simp; done) | (right; simp; done))))); simp [he])
    refine RetOk.by (fun _ => none) ?_
    simp [results18]
end Go.Proofs.Try
namespace Go.Psl
open Go.Shelf Go.RowKit Go.Lib Go.Sort
variable {P : Program} {ρ : Ren} {α : Type} [Inhabited α]
theorem grow_of {W W' : World} (hos : W'.os = W.os) (hta : W'.tape = W.tape) (hou : W'.output = W.output) (hdr : W.drawn ≤ W'.drawn) (hsz : W.heap.size ≤ W'.heap.size) (hb : ∀ b, b < W.heap.size → W'.heap[b]? = W.heap[b]?) :
    ∃ q os', W' = grow (W.drewN q) os' := by
  refine ⟨W'.drawn - W.drawn, W'.heap.extract W.heap.size W'.heap.size, ?_⟩
  obtain ⟨h, t, d, o, u⟩ := W
  obtain ⟨h', t', d', o', u'⟩ := W'
  simp only at hos hta hou hdr hsz hb
  subst hos hta hou
  simp only [grow, World.drewN]
  congr 1
  · apply Array.ext_getElem?
    intro i
    by_cases hi : i < h.size
    · rw [Array.getElem?_append_left hi, hb i hi]
    · rw [Array.getElem?_append_right (by omega), Array.getElem?_extract]
      split
      · congr 1; omega
      · rw [Array.getElem?_eq_none (by omega)]
  · omega
theorem flat_at {enc : α → List Value} {k : Nat} (h0 : 0 < k) (hk : ∀ x, (enc x).length = k) (l : List α) (j : Nat) (hj : j < l.length * k) : (l.flatMap enc)[j]? = some (flatK enc k l.toArray)[j]! := by
  rw [get_flatK _ _ _ _ (by simpa using hj), List.flatMap_def, flatten_get h0 _ (fun e he => by obtain ⟨x, _, rfl⟩ := List.mem_map.1 he; exact hk x)]
  have h1 : j / k < l.length := by rw [Nat.div_lt_iff_lt_mul h0]; exact hj
  have hm : j % k < k := Nat.mod_lt _ h0
  rw [List.getElem?_map, List.getElem?_eq_getElem h1]
  simp only [Option.map_some, Option.bind_some]
  have e1 : l.toArray[j / k]! = l[j / k] := by rw [getElem!_pos _ _ (by simpa using h1)]; simp
  rw [e1, List.getElem?_eq_getElem (by rw [hk]; exact hm), getElem!_pos _ _ (by rw [hk]; exact hm)]
omit [Inhabited α] in
theorem flat_len {enc : α → List Value} {k : Nat} (hk : ∀ x, (enc x).length = k) (l : List α) : (l.flatMap enc).length = l.length * k := by
  rw [List.flatMap_def, flatten_len (sz := k) _ (fun e he => by obtain ⟨x, _, rfl⟩ := List.mem_map.1 he; exact hk x), List.length_map]
theorem cV_rel {G : Gh} {W : World} {vs : List Value} (h : ∀ v ∈ vs, flatV v = true) : All2 (R1 G W) (vs.map cV) vs := by
  induction vs with
  | nil => trivial
  | cons v vs ih => exact ⟨RD.lit v (h v (by simp)), ih fun x hx => h x (by simp [hx])⟩
theorem cmpLays_of {g : Nat} {enc : α → List Value} {k : Nat} {cf : α → α → Int} (hflat : ∀ x, ∀ v ∈ enc x, flatV v = true) (hcmp : ∀ x y, Ct P g [.agg ((enc x).map cV), .agg ((enc y).map cV)] (.d (.lit (.int .i64 (cf x y)))) []) (blk off size : Nat) (w : World) : Go.Proofs.CmpLays P g #[] enc k cf blk off size w := by
  intro m os dk _ x y
  refine ((hcmp x y).2 ⟨fun _ => 0, fun _ => 0, fun _ => true, fun _ => true, fun _ => False⟩ _ #[.agg (enc x).toArray, .agg (enc y).toArray] (fun _ h => h.elim) ⟨⟨_, rfl, cV_rel (hflat x)⟩, ⟨_, rfl, cV_rel (hflat y)⟩, trivial⟩ ⟨nofun, fun i _ h => by simp [InH] at h, nofun⟩).mono fun e W' ⟨G', hp⟩ => ?_
  refine ⟨?_, grow_of hp.os hp.tape hp.output hp.drawn hp.size fun b hb => hp.block b hb fun ⟨_, h, _⟩ => by simp [InH] at h⟩
  cases e with
  | returned v => rw [rv_int hp.rv]
  | _ => exact hp.rv.elim
theorem sortFunc_cm (L : Go.Proofs.SlLaysF0.n6 P ρ) (hf : isFn P (ρ.f 6)) (k : Nat) (h0 : 0 < k) (aE : ∀ w, (isAgg (ρ.t 24)).run P w = .ok true w) (zE : ∀ w, (Go.sizeOf (ρ.t 24)).run P w = .ok k w) (enc : α → List Value) (hk : ∀ x, (enc x).length = k) (hflat : ∀ x, ∀ v ∈ enc x, flatV v = true) (cf : α → α → Int) (hO : SWO (Go.Proofs.ltOf cf)) (hT : ∀ x y, (Go.Proofs.ltOf cf) x y = false → (Go.Proofs.ltOf cf) y x = false → x = y)
    (g : Nat) (eg : ∀ args w, (callFunc g args).run P w = .ok (.enter g args) w) (hcmp : ∀ x y, Ct P g [.agg ((enc x).map cV), .agg ((enc y).map cV)] (.d (.lit (.int .i64 (cf x y)))) []) (l : List α) (hl0 : 0 < l.length) (hsz : l.length < 4611686018427387904) :
    Cm P (ρ.f 6) [.ls 0 0 l.length k, .d (.fn g [])] (lk [(0, (l.flatMap enc).map cV)]) [0] (.ret (.tup [])) (lk [(0, ((l.mergeSort fun x y => !(Go.Proofs.ltOf cf) y x).flatMap enc).map cV)]) := by
  refine ⟨hf, fun G W xs hGW hargs hpre => ?_⟩
  obtain ⟨v1, v2, rfl⟩ : ∃ v1 v2, xs = #[v1, v2] := by
    have := hargs.length
    obtain ⟨xs⟩ := xs
    match xs, this with
    | [a, b], _ => exact ⟨a, b, rfl⟩
    | [], h => simp at h
    | [_], h => simp at h
    | _ :: _ :: _ :: _, h => simp at h
  obtain ⟨h1, h2, _⟩ := hargs
  obtain ⟨hIn, hph⟩ := hpre.st 0 (by simp)
  obtain ⟨hml, ⟨_, h, _⟩ | ⟨hphl, o, cap, rfl, hcap, ho⟩⟩ := h1
  · omega
  obtain ⟨rfl, hbs0⟩ := ho (by omega)
  obtain ⟨cv, rfl, hcv⟩ : ∃ cv, v2 = .func (.func g) #[] cv ∧ cv.size = 0 := by
    cases h2 with
    | fn _ _ cv hl _ => exact ⟨cv, rfl, hl⟩
  obtain rfl : cv = #[] := Array.eq_empty_of_size_eq_zero hcv
  have hHB := hpre.hb 0 _ rfl
  obtain ⟨hnim, c, T, hb, hbs, hcl, hcr, hca⟩ := hHB.read hphl
  have hblk : G.β 0 < W.heap.size := (Array.getElem?_eq_some_iff.1 hb).1
  have hfl := flat_len hk l
  rw [List.length_map, hfl] at hcl hcr
  have hcell : ∀ j, j < l.length * k → c[j]? = some (flatK enc k l.toArray)[j]! := fun j hj => by
    have h3 := flat_at h0 hk l j hj
    have h4 : ((l.flatMap enc).map cV)[j]? = some (cV (flatK enc k l.toArray)[j]!) := by rw [List.getElem?_map, h3]; rfl
    obtain ⟨x, hx, hr⟩ := hcr.get h4
    rw [List.getElem?_take, if_pos hj, Array.getElem?_toList] at hx
    rw [hx, rv_lit hr.r2.rv]
  have hH : HoldsK enc k W (G.β 0) 0 l.toArray := fun j hj => by
    have hj' : j < l.length * k := by simpa using hj
    refine ⟨?_, ?_⟩
    · unfold World.cell?
      simp only [Nat.zero_add, hb, Option.isSome_none, Bool.false_eq_true, if_false]
      exact hcell j hj'
    · unfold World.frozen?
      simp [hb]
  have h1c : ∀ x, ∀ v ∈ enc x, v.oneCell' = true := fun x v hv => RD.oneCell (Im := fun _ => True) (W := W) (RD.lit v (hflat x v hv))
  have key := Go.Proofs.AnyQ.slices_SortFunc_total L k aE zE enc hk h1c cf hO g #[] (G.β 0) 0 cap l.toArray W eg (cmpLays_of hflat hcmp _ _ _ _) hH hblk (by simpa using hsz) hT
  have hperm : (l.mergeSort fun x y => !(Go.Proofs.ltOf cf) y x).length = l.length := List.length_mergeSort _
  generalize (l.mergeSort fun x y => !(Go.Proofs.ltOf cf) y x) = l' at key hperm ⊢
  have key' : Calls P (ρ.f 6) #[.slice (some ⟨G.β 0, 0, none⟩) l.length cap, .func (.func g) #[] #[]] W fun e w' => e = .returned (.tuple #[]) ∧ ∃ n os, w' = Go.Proofs.sortWorldK enc k W (G.β 0) 0 n l'.toArray os := by simpa using key
  refine key'.mono fun e W' ⟨he, n, os, hW'⟩ => ?_
  subst he
  have hlent : ∀ b, lentB G (lk [(0, (l.flatMap enc).map cV)]) b → b = G.β 0 := fun b ⟨i, hi, _, hbi⟩ => by
    have : i = 0 := by simp only [InH, lk] at hi; split at hi; assumption; cases hi
    rw [← hbi, this]
  have hlent0 : lentB G (lk [(0, (l.flatMap enc).map cV)]) (G.β 0) := ⟨0, hIn, hph, rfl⟩
  have hheap : ∀ b, b < W.heap.size → W'.heap[b]? = if b = G.β 0 then some (.cells (putCells id 0 (flatK enc k l'.toArray) c) T (0, 0)) else W.heap[b]? := fun b hlt => by
    rw [hW']
    show ((putRow id (Sort.ahead W n) (G.β 0) 0 (flatK enc k l'.toArray)).heap ++ os)[b]? = _
    rw [Array.getElem?_append_left (by simpa using hlt)]
    show (W.heap.modify (G.β 0) _)[b]? = _
    rw [Array.getElem?_modify]
    by_cases e : b = G.β 0
    · subst e
      simp [hb, onCells]
    · rw [if_neg (fun h => e h.symm), if_neg e]
  have hsz' : W.heap.size ≤ W'.heap.size := by rw [hW']; exact Go.Proofs.size_sortWorldK_c enc k W (G.β 0) 0 n l'.toArray os
  refine ⟨G, ⟨by rw [hW']; rfl, by rw [hW']; rfl, by rw [hW']; rfl, by rw [hW']; exact Nat.le_add_right _ _, hsz', fun b hlt hn => ?_, fun b hb => ⟨Nat.lt_of_lt_of_le (hGW b hb) hsz', .inl hb⟩, fun _ h => h, ⟨#[], rfl, trivial⟩, fun _ h => (by cases h), fun i cs hi => ?_, fun i j hi hj _ _ _ => ?_, fun i hi _ => ⟨rfl, rfl, (hpre.st i hi).2, rfl⟩⟩⟩
  · rw [hheap b hlt, if_neg (fun e : b = G.β 0 => hn (by rw [e]; exact hlent0))]
  · have hi0 : i = 0 ∧ cs = (l'.flatMap enc).map cV := by
      simp only [lk] at hi
      split at hi
      · rename_i e; cases hi; exact ⟨e, rfl⟩
      · cases hi
    obtain ⟨rfl, rfl⟩ := hi0
    have hfl' := flat_len hk l'
    refine ⟨.inr (.inl ⟨hphl.1, hphl.2, hnim, _, T, by rw [hheap _ hblk, if_pos rfl], by simp [putCells, hbs], by simp [putCells, hfl', hperm]; exact hcl, ?_, ?_⟩), fun _ => .inr hlent0, fun x hx => ?_⟩
    · refine All2.of_get ?_ fun j x y hx hy => ?_
      · simp [putCells, hfl', hperm]; omega
      · have hj : j < l'.length * k := by
          have := (List.getElem?_eq_some_iff.1 hx).1
          simpa [hfl'] using this
        rw [List.getElem?_map, flat_at h0 hk l' j hj] at hx
        cases hx
        rw [List.getElem?_take, List.length_map, hfl', if_pos hj, Array.getElem?_toList] at hy
        have hjc : j < c.size := by rw [hperm] at hj; omega
        simp only [putCells, Array.getElem?_mapIdx, Array.getElem?_eq_getElem hjc, Option.map_some, Nat.zero_le, true_and, Nat.zero_add, size_flatK, List.size_toArray, hj, if_true, Option.some.injEq, Nat.sub_zero, id] at hy
        subst hy
        have hm := flat_at h0 hk l' j hj
        have hmem := List.mem_of_getElem? hm
        obtain ⟨a, _, ha⟩ := List.mem_flatMap.1 hmem
        exact RD.lit _ (hflat a _ ha)
    · simp only [List.all_map, List.all_eq_true]
      intro v _; rfl
    · obtain ⟨v, _, rfl⟩ := List.mem_map.1 hx
      trivial
  · have e1 : i = 0 := by simp only [InH, lk] at hi; split at hi; assumption; cases hi
    have e2 : j = 0 := by simp only [InH, lk] at hj; split at hj; assumption; cases hj
    rw [e1, e2]
end Go.Psl
namespace Go.Proofs
def Try.sortL_ren : Go.Shelf.Ren := ⟨fun | 6 => 127 | 15 => 146 | 14 => 145 | 28 => 160 | 29 => 151 | 20 => 152 | 21 => 153 | 22 => 154 | 23 => 155 | 24 => 156 | 25 => 157 | 26 => 158 | 27 => 159 | 46 => 162 | 47 => 163 | 48 => 164 | 49 => 165 | 50 => 166 | 57 => 168 | n => n, fun | 22 => 54 | 24 => 56 | 25 => 148 | 3 => 3 | 39 => 116 | 0 => 0 | 53 => 174 | 55 => 140 | 4 => 4 | 46 => 168 | 45 => 167 | 50 => 145 | 5 => 5 | 9 => 9 | 66 => 175 | 70 => 179 | 76 => 181 | 77 => 75 | n => n, fun | n => n⟩
theorem Try.sortL : Go.Proofs.SlLaysF0.n6 Try.prog Try.sortL_ren := {
  mixed := by kernel_rfl,
  f6 := ⟨Try.f127.name, by decide, Try.func127.trans (congrArg some (by kernel_rfl))⟩,
  f14 := ⟨Try.f145.name, by decide, Try.func145.trans (congrArg some (by kernel_rfl))⟩,
  f15 := Try.func146.trans (congrArg some (by kernel_rfl)),
  f20 := ⟨Try.f152.name, by decide, Try.func152.trans (congrArg some (by kernel_rfl))⟩,
  f21 := ⟨Try.f153.name, by decide, Try.func153.trans (congrArg some (by kernel_rfl))⟩,
  f22 := ⟨Try.f154.name, by decide, Try.func154.trans (congrArg some (by kernel_rfl))⟩,
  f23 := ⟨Try.f155.name, by decide, Try.func155.trans (congrArg some (by kernel_rfl))⟩,
  f24 := ⟨Try.f156.name, by decide, Try.func156.trans (congrArg some (by kernel_rfl))⟩,
  f25 := ⟨Try.f157.name, by decide, Try.func157.trans (congrArg some (by kernel_rfl))⟩,
  f26 := ⟨Try.f158.name, by decide, Try.func158.trans (congrArg some (by kernel_rfl))⟩,
  f27 := ⟨Try.f159.name, by decide, Try.func159.trans (congrArg some (by kernel_rfl))⟩,
  f28 := Try.func160.trans (congrArg some (by kernel_rfl)),
  f29 := Try.func151.trans (congrArg some (by kernel_rfl)),
  f46 := ⟨Try.f162.name, by decide, Try.func162.trans (congrArg some (by kernel_rfl))⟩,
  f47 := Try.func163.trans (congrArg some (by kernel_rfl)),
  f48 := Try.func164.trans (congrArg some (by kernel_rfl)),
  f49 := ⟨Try.f165.name, by decide, Try.func165.trans (congrArg some (by kernel_rfl))⟩,
  f50 := ⟨Try.f166.name, by decide, Try.func166.trans (congrArg some (by kernel_rfl))⟩,
  f57 := ⟨Try.f168.name, by decide, Try.func168.trans (congrArg some (by kernel_rfl))⟩,
  t0 := Try.underlying0,
  a0 := Try.isAgg0,
  z0 := Try.sizeOf0,
  v0 := Try.zeroValue0,
  t3 := Try.underlying3,
  a3 := Try.isAgg3,
  z3 := Try.sizeOf3,
  v3 := Try.zeroValue3,
  t4 := Try.underlying4,
  a4 := Try.isAgg4,
  z4 := Try.sizeOf4,
  v4 := Try.zeroValue4,
  t5 := Try.underlying5,
  a5 := Try.isAgg5,
  z5 := Try.sizeOf5,
  v5 := Try.zeroValue5,
  t9 := Try.underlying9,
  a9 := Try.isAgg9,
  z9 := Try.sizeOf9,
  v9 := Try.zeroValue9,
  t22 := Try.underlying54,
  a22 := Try.isAgg54,
  z22 := Try.sizeOf54,
  v22 := Try.zeroValue54,
  t25 := Try.underlying148,
  a25 := Try.isAgg148,
  z25 := Try.sizeOf148,
  v25 := Try.zeroValue148,
  t39 := Try.underlying116,
  a39 := Try.isAgg116,
  z39 := Try.sizeOf116,
  v39 := Try.zeroValue116,
  t45 := Try.underlying167,
  a45 := Try.isAgg167,
  z45 := Try.sizeOf167,
  v45 := Try.zeroValue167,
  t46 := Try.underlying168,
  a46 := Try.isAgg168,
  z46 := Try.sizeOf168,
  v46 := Try.zeroValue168,
  t50 := Try.underlying145,
  a50 := Try.isAgg145,
  z50 := Try.sizeOf145,
  v50 := Try.zeroValue145,
  t53 := Try.underlying174,
  a53 := Try.isAgg174,
  z53 := Try.sizeOf174,
  v53 := Try.zeroValue174,
  t55 := Try.underlying140,
  a55 := Try.isAgg140,
  z55 := Try.sizeOf140,
  v55 := Try.zeroValue140,
  t66 := Try.underlying175,
  a66 := Try.isAgg175,
  z66 := Try.sizeOf175,
  v66 := Try.zeroValue175,
  t70 := Try.underlying179,
  a70 := Try.isAgg179,
  z70 := Try.sizeOf179,
  v70 := Try.zeroValue179,
  t76 := Try.underlying181,
  a76 := Try.isAgg181,
  z76 := Try.sizeOf181,
  v76 := Try.zeroValue181,
  t77 := Try.underlying75,
  a77 := Try.isAgg75,
  z77 := Try.sizeOf75,
  v77 := Try.zeroValue75 }
end Go.Proofs
namespace Go.Proofs.Try
open Go.Psl
def encC (p : Int × Int) : List Value := [.int .i64 p.1, .int .i64 p.2]
theorem enc_cells (l : List (Int × Int)) : (l.flatMap encC).map cV = cellsI l := by
  induction l with
  | nil => rfl
  | cons a l ih =>
    rw [List.flatMap_cons, List.map_append, ih]
    rfl
theorem ltOf_order (x y : Int × Int) : Go.Proofs.ltOf orderS x y = true ↔ Go.Geo.lt x y := by
  unfold Go.Proofs.ltOf; rw [decide_eq_true_eq, order_lt]
theorem ltOf_order' (x y : Int × Int) : Go.Proofs.ltOf orderS x y = false ↔ ¬ Go.Geo.lt x y := by
  rw [← ltOf_order]; simp
theorem swo_order : Go.Sort.SWO (Go.Proofs.ltOf orderS) where
  irrefl x := by rw [ltOf_order']; exact Go.Geo.lt_irr x
  trans x y z h1 h2 := by rw [ltOf_order] at *; exact Go.Geo.lt_trans h1 h2
  ntrans x y z h1 h2 := by rw [ltOf_order'] at *; unfold Go.Geo.lt at *; omega
theorem sortOk : SortOk := fun l h1 h2 => by
  have hcmp : ∀ x y : Int × Int, Ct prog 128 [.agg ((encC x).map cV), .agg ((encC y).map cV)] (.d (.lit (.int .i64 (orderS x y)))) [] := fun x y => fn128 x y
  have h := sortFunc_cm Try.sortL ⟨_, func127, by kernel_rfl, by decide⟩ 2 (by omega) Try.isAgg56 Try.sizeOf56 encC (fun _ => rfl) (fun x v hv => by simp [encC] at hv; rcases hv with rfl | rfl <;> rfl) orderS swo_order
    (fun x y a b => by
      rw [ltOf_order'] at a b
      rcases Go.Geo.lt_tri x y with h | h | h
      · exact absurd h a
      · exact h
      · exact absurd h b) 128 (Go.Proofs.enters_of func128 (by kernel_rfl) rfl) hcmp l h1 (by omega)
  rw [enc_cells, enc_cells] at h
  exact h
end Go.Proofs.Try
