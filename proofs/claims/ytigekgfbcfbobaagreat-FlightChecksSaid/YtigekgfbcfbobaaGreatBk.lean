/- Own lemmas and contracts of functions, used by the last text of this claim for the given statement. Conditions: those that each theorem states. -/
import Derived.Test.YtigekgfbcfbobaaGreatBj
import Derived.Test.YtigekgfbcfbobaaGreatBf
import Derived.Test.YtigekgfbcfbobaaGreatBg
import Derived.Shelf.SlSortCmp.NoneTotal
import Derived.Test.YtigekgfbcfbobaaGreatProg
namespace Go.Proofs.Tryz
open Go.Psl
open Go.Air
set_option maxRecDepth 20000
set_option maxHeartbeats 8000000
theorem refs_out (l : List Lev) (h : OkS l) {E : Ent} (hE : ∀ i, ¬ E.stab i) {Q : AExit → St → Prop} : ∀ y : List Lev × Bool, (LeL l y.1 ∧ LeL y.1 (swp l) ∧ (y.2 = false → y.1 = swp l)) → PW prog tys eqs E p134l1
    (seqQ (fun st' => ∃ z : List Lev × Bool, (LeL l z.1 ∧ LeL z.1 (swp l) ∧ (z.2 = false → z.1 = swp l)) ∧ (2 * far z.1 (swp l) + cond z.2 1 0) < (2 * far y.1 (swp l) + cond y.2 1 0) ∧ Weak prog E st' ⟨slots [(5, .ls 0 0 l.length 5), (6, vb z.2)], lk [(0, fcel levL z.1)], 1⟩)
      (exC prog E Q 0 (fun _ : Unit => ⟨slots [(5, .ls 0 0 l.length 5)], lk [(0, fcel levL (swp l))], 1⟩) (fun _ => True)))
    ⟨slots [(5, .ls 0 0 l.length 5), (6, vb y.2)], lk [(0, fcel levL y.1)], 1⟩ := by
  rintro ⟨m, c⟩ ⟨h1, h2, h3⟩
  simp only at h1 h2 h3
  have hlen := h.len
  cases c with
  | false =>
    have e := h3 rfl
    subst e
    simp [p134l1]
    refine Weak.mk hE (lk [(0, 0)]) _ _ _ ?_ ?_ ?_ ?_ ?_ <;> simp
  | true =>
    have hml := h1.len
    have hp := gs_pass h.lks h.pos h1 h2
    have eall : gsK (tmS (knT l)) l.length none m = gsP (tmS (knT l)) none m := gsK_all _ _ _ _ (by omega)
    simp [p134l1]
    refine pw_loopC (α := Nat) 2 (fun _ : Unit => ⟨slots [(5, .ls 0 0 l.length 5), (6, vb (!decide (gsK (tmS (knT l)) l.length none m = m)))], lk [(0, fcel levL (gsK (tmS (knT l)) l.length none m))], 1⟩) (fun _ => True) (fun j => ⟨slots [(5, .ls 0 0 l.length 5), (6, vb (!decide (gsK (tmS (knT l)) j none m = m))), (7, vi j)], lk [(0, fcel levL (gsK (tmS (knT l)) j none m))], 1⟩) (fun j => j ≤ l.length) (fun j => l.length - j) 0 ?_ ?_ (refs_in m l.length (fun i => gsK (tmS (knT l)) i none m) hlen.2 hml.symm (gsK_wrk h h1 h2) (fun i => by rw [gsK_len]; exact hml.symm) (fun i a ha => by rw [gsK_here _ i none m i (by omega)]; exact ha) (gsK_btr h1) hE) fun _ _ => ?_
    · omega
    · rw [show gsK (tmS (knT l)) 0 none m = m from rfl, decide_eq_true rfl]
      refine Weak.mk hE (lk [(0, 0)]) _ _ _ ?_ ?_ ?_ ?_ ?_ <;> simp
    · rw [eall]
      simp
      refine ⟨gsP (tmS (knT l)) none m, ?_⟩
      by_cases e : gsP (tmS (knT l)) none m = m
      · left
        have e2 := hp.2.2.1 e
        refine ⟨⟨hp.1, hp.2.1, by rw [e]; exact e2⟩, by rw [e]; omega, ?_⟩
        rw [decide_eq_true e]
        refine Weak.mk hE (lk [(0, 0)]) _ _ _ ?_ ?_ ?_ ?_ ?_ <;> simp
      · right
        refine ⟨⟨hp.1, hp.2.1⟩, hp.2.2.2 e, ?_⟩
        rw [decide_eq_false e]
        refine Weak.mk hE (lk [(0, 0)]) _ _ _ ?_ ?_ ?_ ?_ ?_ <;> simp
theorem refs_unfit (l : List Lev) (h : OkS l) (hq : 0 ≤ ixF unf (swp l)) : Ct prog 134 [.d (levsD l)] (.tup [.d (.lit (.slice none 0 0)), vi (ixF unf (swp l)), vi 21]) [] := by
  have hlen := h.len
  have h0 : l ≠ [] := by intro e; rw [e] at hlen; simp at hlen
  have hl2 := swp_len (l := l)
  have c1 := fn139 l (by omega)
  rw [okSnd_iff.2 h] at c1
  obtain ⟨x0, r0, e0⟩ := List.exists_cons_of_ne_nil h0
  have hmx : (r0.length + 1) * 40 ≤ 140737488355328 ∧ r0.length + 1 ≤ 9223372036854775807 := by rw [e0] at hlen; simp at hlen; omega
  have ee : levsD l = .sl 5 (levL x0 :: r0.map levL) := by rw [e0]; rfl
  have ef : (r0.map (List.map V.d ∘ levL)).flatten = fcel levL r0 := by simp [fcel, List.map_flatten]
  have hcl : (∀ x ∈ fcel levL r0, x.isCell = true) = True := eq_true fcel_cell
  have eln : l.length = r0.length + 1 := by rw [e0]; simp
  have efc : fcel levL l = vi x0.h :: vi x0.pl :: vi x0.ph :: vi x0.tl :: vi x0.th :: fcel levL r0 := by rw [e0, fcel_cons]; rfl
  refine Ct.by gok eok mixed func134 c134 rfl (by simp [ntmps134]) (by simp) (by simp [ResIds]) fun E hE => ?_
  simp [p134]
  refine ACall.mk _ _ _ (c1) (by first | (simp; done) | simp [Bor_ls, Bor1_ls]) (by simp) (by first | (left; simp; done) | (right; simp; done)) ?_
  simp [ee, ef, hcl, repl, hmx]
  refine pw_loopC (α := List Lev × Bool) 0 (fun _ : Unit => ⟨slots [(5, .ls 0 0 l.length 5)], lk [(0, fcel levL (swp l))], 1⟩) (fun _ => True) (fun z => ⟨slots [(5, .ls 0 0 l.length 5), (6, vb z.2)], lk [(0, fcel levL z.1)], 1⟩) (fun z => LeL l z.1 ∧ LeL z.1 (swp l) ∧ (z.2 = false → z.1 = swp l)) (fun z => 2 * far z.1 (swp l) + cond z.2 1 0) (l, true) ?_ ?_ (refs_out l h hE) fun _ _ => ?_
  · exact ⟨LeL.refl l, sweep_le l, by simp⟩
  · simp only
    rw [efc, eln]
    refine Weak.mk hE (lk [(0, 8388608)]) _ _ _ ?_ ?_ ?_ ?_ ?_ <;> simp [hcl]
  · simp
    refine pw_loop (α := Nat) (fun i => ⟨slots [(5, .ls 0 0 l.length 5), (9, vi i)], lk [(0, fcel levL (swp l))], 1⟩) (fun i => i ≤ l.length ∧ ∀ j, j < i → ((swp l)[j]?).all (fun x => !unf x) = true) (fun i => l.length - i) 0 ?_ ?_ ?_
    · exact ⟨by omega, fun j hj => by omega⟩
    · refine Weak.mk hE (lk [(0, 0)]) _ _ _ ?_ ?_ ?_ ?_ ?_ <;> simp
    · rintro i ⟨hi, hg3⟩
      have hg2 : ∀ (j : Nat) (x : Lev), j < i → (swp l)[j]? = some x → unf x = false := fun j x hj hx => by
        have := hg3 j hj
        rw [hx] at this
        have h9 : (!unf x) = true := this
        simpa using h9
      by_cases hil : i < l.length
      · obtain ⟨x, hx⟩ : ∃ x, (swp l)[i]? = some x := ⟨_, List.getElem?_eq_getElem (by omega)⟩
        have hz : IntKind.wrap .i64 ((i : Int) + 1) = ((i + 1 : Nat) : Int) := by rw [wrap64 (by omega) (by omega)]; omega
        have hI : (i : Int) < l.length := by omega
        have e1 : (fcel levL (swp l))[i * 5 + 1]? = some (vi x.pl) := fcel_cellat Tryz.hfl hx rfl
        have e2 : (fcel levL (swp l))[i * 5 + 2]? = some (vi x.ph) := fcel_cellat Tryz.hfl hx rfl
        have e3 : List.take 1 (List.drop (i * 5 + 1) (fcel levL (swp l))) = [vi x.pl] := fcel_sub Tryz.hfl hx (by omega)
        have e4 : List.take 1 (List.drop (i * 5 + 2) (fcel levL (swp l))) = [vi x.ph] := fcel_sub Tryz.hfl hx (by omega)
        have hsl := fcel_len Tryz.hfl (swp l)
        rw [hl2] at hsl
        have f1 : i * 5 + 1 + 1 ≤ l.length * 5 := by omega
        have f2 : i * 5 + 2 + 1 ≤ l.length * 5 := by omega
        have f3 : i * 5 + 1 < l.length * 5 := by omega
        have f4 : i * 5 + 2 < l.length * 5 := by omega
        by_cases hu : x.ph < x.pl
        · have hui : ixF unf (swp l) = i := ixF_some hx (decide_eq_true hu) fun j y hj hy => hg2 j y hj hy
          (rw [hui]; simp [p134l2, hI, e3, e4, hsl, f1, f2, hu, inC, Nat.testBit]; refine RetOk.by (fun _ => none) ?_; simp [results134])
        · simp [p134l2, hI, e3, e4, hsl, f1, f2, hu, hz, inC, Nat.testBit]
          refine ⟨i + 1, ⟨by omega, fun j hj => ?_⟩, by omega, ?_⟩
          · by_cases e : j = i
            · subst e; rw [hx]
              have : unf x = false := decide_eq_false hu
              show (!unf x) = true
              rw [this]; rfl
            · exact hg3 j (by omega)
          · refine Weak.mk hE (lk [(0, 0)]) _ _ _ ?_ ?_ ?_ ?_ ?_ <;> simp
      · have ei : i = l.length := by omega
        have hI : ¬ (i : Int) < l.length := by omega
        (have := ixF_none (q := unf) (l := swp l) fun j x hx => hg2 j x (by have := (List.getElem?_eq_some_iff.1 hx).1; omega) hx; omega)
theorem refs_fit (l : List Lev) (h : OkS l) (hq : ¬ 0 ≤ ixF unf (swp l)) : Ct prog 134 [.d (levsD l)] (.tup [.ls 0 0 l.length 5, vi 0, vi 0]) [(0, fcel levL (swp l))] := by
  have hlen := h.len
  have h0 : l ≠ [] := by intro e; rw [e] at hlen; simp at hlen
  have hl2 := swp_len (l := l)
  have c1 := fn139 l (by omega)
  rw [okSnd_iff.2 h] at c1
  obtain ⟨x0, r0, e0⟩ := List.exists_cons_of_ne_nil h0
  have hmx : (r0.length + 1) * 40 ≤ 140737488355328 ∧ r0.length + 1 ≤ 9223372036854775807 := by rw [e0] at hlen; simp at hlen; omega
  have ee : levsD l = .sl 5 (levL x0 :: r0.map levL) := by rw [e0]; rfl
  have ef : (r0.map (List.map V.d ∘ levL)).flatten = fcel levL r0 := by simp [fcel, List.map_flatten]
  have hcl : (∀ x ∈ fcel levL r0, x.isCell = true) = True := eq_true fcel_cell
  have eln : l.length = r0.length + 1 := by rw [e0]; simp
  have efc : fcel levL l = vi x0.h :: vi x0.pl :: vi x0.ph :: vi x0.tl :: vi x0.th :: fcel levL r0 := by rw [e0, fcel_cons]; rfl
  refine Ct.by gok eok mixed func134 c134 rfl (by simp [ntmps134]) (by simp) (by simp [ResIds]) fun E hE => ?_
  simp [p134]
  refine ACall.mk _ _ _ (c1) (by first | (simp; done) | simp [Bor_ls, Bor1_ls]) (by simp) (by first | (left; simp; done) | (right; simp; done)) ?_
  simp [ee, ef, hcl, repl, hmx]
  refine pw_loopC (α := List Lev × Bool) 0 (fun _ : Unit => ⟨slots [(5, .ls 0 0 l.length 5)], lk [(0, fcel levL (swp l))], 1⟩) (fun _ => True) (fun z => ⟨slots [(5, .ls 0 0 l.length 5), (6, vb z.2)], lk [(0, fcel levL z.1)], 1⟩) (fun z => LeL l z.1 ∧ LeL z.1 (swp l) ∧ (z.2 = false → z.1 = swp l)) (fun z => 2 * far z.1 (swp l) + cond z.2 1 0) (l, true) ?_ ?_ (refs_out l h hE) fun _ _ => ?_
  · exact ⟨LeL.refl l, sweep_le l, by simp⟩
  · simp only
    rw [efc, eln]
    refine Weak.mk hE (lk [(0, 8388608)]) _ _ _ ?_ ?_ ?_ ?_ ?_ <;> simp [hcl]
  · simp
    refine pw_loop (α := Nat) (fun i => ⟨slots [(5, .ls 0 0 l.length 5), (9, vi i)], lk [(0, fcel levL (swp l))], 1⟩) (fun i => i ≤ l.length ∧ ∀ j, j < i → ((swp l)[j]?).all (fun x => !unf x) = true) (fun i => l.length - i) 0 ?_ ?_ ?_
    · exact ⟨by omega, fun j hj => by omega⟩
    · refine Weak.mk hE (lk [(0, 0)]) _ _ _ ?_ ?_ ?_ ?_ ?_ <;> simp
    · rintro i ⟨hi, hg3⟩
      have hg2 : ∀ (j : Nat) (x : Lev), j < i → (swp l)[j]? = some x → unf x = false := fun j x hj hx => by
        have := hg3 j hj
        rw [hx] at this
        have h9 : (!unf x) = true := this
        simpa using h9
      by_cases hil : i < l.length
      · obtain ⟨x, hx⟩ : ∃ x, (swp l)[i]? = some x := ⟨_, List.getElem?_eq_getElem (by omega)⟩
        have hz : IntKind.wrap .i64 ((i : Int) + 1) = ((i + 1 : Nat) : Int) := by rw [wrap64 (by omega) (by omega)]; omega
        have hI : (i : Int) < l.length := by omega
        have e1 : (fcel levL (swp l))[i * 5 + 1]? = some (vi x.pl) := fcel_cellat Tryz.hfl hx rfl
        have e2 : (fcel levL (swp l))[i * 5 + 2]? = some (vi x.ph) := fcel_cellat Tryz.hfl hx rfl
        have e3 : List.take 1 (List.drop (i * 5 + 1) (fcel levL (swp l))) = [vi x.pl] := fcel_sub Tryz.hfl hx (by omega)
        have e4 : List.take 1 (List.drop (i * 5 + 2) (fcel levL (swp l))) = [vi x.ph] := fcel_sub Tryz.hfl hx (by omega)
        have hsl := fcel_len Tryz.hfl (swp l)
        rw [hl2] at hsl
        have f1 : i * 5 + 1 + 1 ≤ l.length * 5 := by omega
        have f2 : i * 5 + 2 + 1 ≤ l.length * 5 := by omega
        have f3 : i * 5 + 1 < l.length * 5 := by omega
        have f4 : i * 5 + 2 < l.length * 5 := by omega
        by_cases hu : x.ph < x.pl
        · have hui : ixF unf (swp l) = i := ixF_some hx (decide_eq_true hu) fun j y hj hy => hg2 j y hj hy
          omega
        · simp [p134l2, hI, e3, e4, hsl, f1, f2, hu, hz, inC, Nat.testBit]
          refine ⟨i + 1, ⟨by omega, fun j hj => ?_⟩, by omega, ?_⟩
          · by_cases e : j = i
            · subst e; rw [hx]
              have : unf x = false := decide_eq_false hu
              show (!unf x) = true
              rw [this]; rfl
            · exact hg3 j (by omega)
          · refine Weak.mk hE (lk [(0, 0)]) _ _ _ ?_ ?_ ?_ ?_ ?_ <;> simp
      · have ei : i = l.length := by omega
        have hI : ¬ (i : Int) < l.length := by omega
        (simp [p134l2, hI]; refine RetOk.by (lk [(0, 0)]) ?_; simp [results134])
theorem refs_bad (l : List Lev) (hl : l.length ≤ 1000000) (h : okSnd l = false) : Ct prog 134 [.d (levsD l)] (.tup [.d (.lit (.slice none 0 0)), vi 0, vi 20]) [] := by
  have c1 := fn139 l hl
  rw [h] at c1
  refine Ct.by gok eok mixed func134 c134 rfl (by simp [ntmps134]) (by simp) (by simp [ResIds]) fun E hE => ?_
  simp [p134]
  refine ACall.mk _ _ _ (c1) (by first | (simp; done) | simp [Bor_ls, Bor1_ls]) (by simp) (by first | (left; simp; done) | (right; simp; done)) ?_
  simp
  refine RetOk.by (fun _ => none) ?_
  simp [results134]
theorem fn134 (l : List Lev) (hl : l.length ≤ 1000000) : Ct prog 134 [.d (levsD l)] (setV (setS l)) [] := by
  cases h : okSnd l
  · refine Cm.freeze (refs_bad l hl h) ?_
    unfold setS
    rw [h]
    exact ⟨Or.inr ⟨rfl, 5, rfl⟩, Or.inl rfl, Or.inl rfl, trivial⟩
  · have ho := okSnd_iff.1 h
    by_cases hq : 0 ≤ ixF unf (swp l)
    · refine Cm.freeze (refs_unfit l ho hq) ?_
      unfold setS
      rw [h, if_pos rfl, if_pos hq]
      exact ⟨Or.inr ⟨rfl, 5, rfl⟩, Or.inl rfl, Or.inl rfl, trivial⟩
    · refine Cm.freeze (refs_fit l ho hq) ?_
      unfold setS
      rw [h, if_pos rfl, if_neg hq]
      refine ⟨?_, Or.inl rfl, Or.inl rfl, trivial⟩
      have := bw_blk (ws := swp l) (b := 0) (swp_len (l := l)) (lk [(0, fcel levL (swp l))]) (by simp)
      exact this
end Go.Proofs.Tryz
namespace Go.Proofs.Tryz
open Go.Psl
open Go.Air
set_option maxRecDepth 20000
set_option maxHeartbeats 8000000
theorem fn135 (l : List Gal) (hl : l.length ≤ 1000000) : Ct prog 135 [.d (galsD l)] (vb (okWnd l)) [] := by
  have c1 := fn207 (l.length : Int) 1 16
  cases hn : rgB 1 16 [(l.length : Int)]
  · rw [hn] at c1
    have hbad : okWnd l = false := by unfold okWnd; simp [hn]
    refine Ct.by gok eok mixed func135 c135 rfl (by simp [ntmps135]) (by simp) (by simp [ResIds]) fun E hE => ?_
    simp [p135]
    refine ACall.mk _ _ _ (c1) (by first | (simp; done) | simp [Bor_ls, Bor1_ls]) (by simp) (by first | (left; simp; done) | (right; simp; done)) ?_
    simp
    refine RetOk.by (fun _ => none) ?_
    simp [results135, hbad]
  rw [hn] at c1
  refine Ct.by gok eok mixed func135 c135 rfl (by simp [ntmps135]) (by simp) (by simp [ResIds]) fun E hE => ?_
  simp [p135]
  refine ACall.mk _ _ _ (c1) (by first | (simp; done) | simp [Bor_ls, Bor1_ls]) (by simp) (by first | (left; simp; done) | (right; simp; done)) ?_
  simp
  refine pw_loop (α := Nat) (fun i => ⟨slots [(0, .d (galsD l)), (3, vi i)], lk [], 0⟩) (fun i => i ≤ l.length ∧ ∀ j, j < i → galB l j = true) (fun i => l.length - i) 0 ?_ ?_ ?_
  · exact ⟨by omega, fun j hj => by omega⟩
  · refine Weak.mk hE (lk []) _ _ _ ?_ ?_ ?_ ?_ ?_ <;> simp
  · rintro i ⟨hi, hg⟩
    by_cases h : i < l.length
    · obtain ⟨x, hx⟩ : ∃ x, l[i]? = some x := ⟨_, List.getElem?_eq_getElem h⟩
      have hz : IntKind.wrap .i64 ((i : Int) + 1) = ((i + 1 : Nat) : Int) := by rw [wrap64 (by omega) (by omega)]; omega
      have hI : (i : Int) < l.length := by omega
      have c2 := fn207 x.h (-500) 9000
      have c3 := fn207 x.g 0 500
      have c4 := fn208 x.xl x.xh (-1000) 1000
      have c5 := fn208 x.yl x.yh (-1000) 1000
      have eg : galB l i = (rgB (-500) 9000 [x.h] && (if i = 0 then true else match l[i - 1]? with | some y => decide (y.h < x.h) | none => true) && rgB 0 500 [x.g] && spB (-1000) 1000 x.xl x.xh && spB (-1000) 1000 x.yl x.yh) := by unfold galB; simp only [hx]; rfl
      have fin : galB l i = true → ∀ j, j < i + 1 → galB l j = true := fun he j hj => by
        by_cases e : j = i
        · rw [e]; exact he
        · exact hg j (by omega)
      generalize rgB (-500) 9000 [x.h] = b1 at *
      generalize rgB 0 500 [x.g] = b2 at *
      generalize spB (-1000) 1000 x.xl x.xh = b3 at *
      generalize spB (-1000) 1000 x.yl x.yh = b4 at *
      cases b1
      · have hbad := wnd_no h (by rw [eg]; rfl)
        simp [p135l0, hI, hx, splice, inC, Nat.testBit]
        refine ACall.mk _ _ _ (c2) (by first | (simp; done) | simp [Bor_ls, Bor1_ls]) (by simp) (by first | (left; simp; done) | (right; simp; done)) ?_
        simp
        refine RetOk.by (fun _ => none) ?_
        simp [results135, hbad]
      · by_cases h0 : i = 0
        · rw [if_pos h0] at eg
          have hI0 : ¬ 0 < i := by omega
          cases b3
          · have hbad := wnd_no h (by rw [eg]; simp)
            simp [p135l0, hI, hx, splice, inC, Nat.testBit]
            repeat ((first | (refine ACall.mk _ _ _ (c2) ?_ ?_ ?_ ?_; (focus (simp; done)); (focus (simp; done)); (focus (first | (left; simp; done) | (right; simp; done)))) | (refine ACall.mk _ _ _ (c4) ?_ ?_ ?_ ?_; (focus (simp; done)); (focus (simp; done)); (focus (first | (left; simp; done) | (right; simp; done)))) | (refine ACall.mk _ _ _ (c5) ?_ ?_ ?_ ?_; (focus (simp; done)); (focus (simp; done)); (focus (first | (left; simp; done) | (right; simp; done)))) | (refine ACall.mk _ _ _ (c3) ?_ ?_ ?_ ?_; (focus (simp; done)); (focus (simp; done)); (focus (first | (left; simp; done) | (right; simp; done))))); simp [hI0])
            refine RetOk.by (fun _ => none) ?_
            simp [results135, hbad]
          cases b4
          · have hbad := wnd_no h (by rw [eg]; simp)
            simp [p135l0, hI, hx, splice, inC, Nat.testBit]
            repeat ((first | (refine ACall.mk _ _ _ (c2) ?_ ?_ ?_ ?_; (focus (simp; done)); (focus (simp; done)); (focus (first | (left; simp; done) | (right; simp; done)))) | (refine ACall.mk _ _ _ (c4) ?_ ?_ ?_ ?_; (focus (simp; done)); (focus (simp; done)); (focus (first | (left; simp; done) | (right; simp; done)))) | (refine ACall.mk _ _ _ (c5) ?_ ?_ ?_ ?_; (focus (simp; done)); (focus (simp; done)); (focus (first | (left; simp; done) | (right; simp; done)))) | (refine ACall.mk _ _ _ (c3) ?_ ?_ ?_ ?_; (focus (simp; done)); (focus (simp; done)); (focus (first | (left; simp; done) | (right; simp; done))))); simp [hI0])
            refine RetOk.by (fun _ => none) ?_
            simp [results135, hbad]
          cases b2
          · have hbad := wnd_no h (by rw [eg]; simp)
            simp [p135l0, hI, hx, splice, inC, Nat.testBit]
            repeat ((first | (refine ACall.mk _ _ _ (c2) ?_ ?_ ?_ ?_; (focus (simp; done)); (focus (simp; done)); (focus (first | (left; simp; done) | (right; simp; done)))) | (refine ACall.mk _ _ _ (c4) ?_ ?_ ?_ ?_; (focus (simp; done)); (focus (simp; done)); (focus (first | (left; simp; done) | (right; simp; done)))) | (refine ACall.mk _ _ _ (c5) ?_ ?_ ?_ ?_; (focus (simp; done)); (focus (simp; done)); (focus (first | (left; simp; done) | (right; simp; done)))) | (refine ACall.mk _ _ _ (c3) ?_ ?_ ?_ ?_; (focus (simp; done)); (focus (simp; done)); (focus (first | (left; simp; done) | (right; simp; done))))); simp [hI0])
            refine RetOk.by (fun _ => none) ?_
            simp [results135, hbad]
          · have hok := fin (by rw [eg]; rfl)
            simp [p135l0, hI, hx, splice, inC, Nat.testBit]
            repeat ((first | (refine ACall.mk _ _ _ (c2) ?_ ?_ ?_ ?_; (focus (simp; done)); (focus (simp; done)); (focus (first | (left; simp; done) | (right; simp; done)))) | (refine ACall.mk _ _ _ (c4) ?_ ?_ ?_ ?_; (focus (simp; done)); (focus (simp; done)); (focus (first | (left; simp; done) | (right; simp; done)))) | (refine ACall.mk _ _ _ (c5) ?_ ?_ ?_ ?_; (focus (simp; done)); (focus (simp; done)); (focus (first | (left; simp; done) | (right; simp; done)))) | (refine ACall.mk _ _ _ (c3) ?_ ?_ ?_ ?_; (focus (simp; done)); (focus (simp; done)); (focus (first | (left; simp; done) | (right; simp; done))))); simp [hI0, hz])
            refine ⟨i + 1, ⟨by omega, hok⟩, by omega, ?_⟩
            refine Weak.mk hE (lk []) _ _ _ ?_ ?_ ?_ ?_ ?_ <;> simp
        · obtain ⟨y, hy⟩ : ∃ y, l[i - 1]? = some y := ⟨_, List.getElem?_eq_getElem (by omega)⟩
          have hw : IntKind.wrap .i64 ((i : Int) - 1) = ((i - 1 : Nat) : Int) := by rw [wrap64 (by omega) (by omega)]; omega
          have hI0 : 0 < i := by omega
          rw [if_neg h0, hy] at eg
          simp only at eg
          by_cases hc : x.h ≤ y.h
          · have hbad := wnd_no h (by rw [eg, decide_eq_false (by omega)]; simp)
            simp [p135l0, hI, hx, splice, inC, Nat.testBit]
            refine ACall.mk _ _ _ (c2) (by first | (simp; done) | simp [Bor_ls, Bor1_ls]) (by simp) (by first | (left; simp; done) | (right; simp; done)) ?_
            simp [hI0, hw, hy, hc, inC, Nat.testBit]
            refine RetOk.by (fun _ => none) ?_
            simp [results135, hbad]
          · rw [decide_eq_true (by omega : y.h < x.h)] at eg
            cases b3
            · have hbad := wnd_no h (by rw [eg]; simp)
              simp [p135l0, hI, hx, splice, inC, Nat.testBit]
              repeat ((first | (refine ACall.mk _ _ _ (c2) ?_ ?_ ?_ ?_; (focus (simp; done)); (focus (simp; done)); (focus (first | (left; simp; done) | (right; simp; done)))) | (refine ACall.mk _ _ _ (c4) ?_ ?_ ?_ ?_; (focus (simp; done)); (focus (simp; done)); (focus (first | (left; simp; done) | (right; simp; done)))) | (refine ACall.mk _ _ _ (c5) ?_ ?_ ?_ ?_; (focus (simp; done)); (focus (simp; done)); (focus (first | (left; simp; done) | (right; simp; done)))) | (refine ACall.mk _ _ _ (c3) ?_ ?_ ?_ ?_; (focus (simp; done)); (focus (simp; done)); (focus (first | (left; simp; done) | (right; simp; done))))); simp [inC, Nat.testBit, hI0, hw, hy, hc])
              refine RetOk.by (fun _ => none) ?_
              simp [results135, hbad]
            cases b4
            · have hbad := wnd_no h (by rw [eg]; simp)
              simp [p135l0, hI, hx, splice, inC, Nat.testBit]
              repeat ((first | (refine ACall.mk _ _ _ (c2) ?_ ?_ ?_ ?_; (focus (simp; done)); (focus (simp; done)); (focus (first | (left; simp; done) | (right; simp; done)))) | (refine ACall.mk _ _ _ (c4) ?_ ?_ ?_ ?_; (focus (simp; done)); (focus (simp; done)); (focus (first | (left; simp; done) | (right; simp; done)))) | (refine ACall.mk _ _ _ (c5) ?_ ?_ ?_ ?_; (focus (simp; done)); (focus (simp; done)); (focus (first | (left; simp; done) | (right; simp; done)))) | (refine ACall.mk _ _ _ (c3) ?_ ?_ ?_ ?_; (focus (simp; done)); (focus (simp; done)); (focus (first | (left; simp; done) | (right; simp; done))))); simp [inC, Nat.testBit, hI0, hw, hy, hc])
              refine RetOk.by (fun _ => none) ?_
              simp [results135, hbad]
            cases b2
            · have hbad := wnd_no h (by rw [eg]; simp)
              simp [p135l0, hI, hx, splice, inC, Nat.testBit]
              repeat ((first | (refine ACall.mk _ _ _ (c2) ?_ ?_ ?_ ?_; (focus (simp; done)); (focus (simp; done)); (focus (first | (left; simp; done) | (right; simp; done)))) | (refine ACall.mk _ _ _ (c4) ?_ ?_ ?_ ?_; (focus (simp; done)); (focus (simp; done)); (focus (first | (left; simp; done) | (right; simp; done)))) | (refine ACall.mk _ _ _ (c5) ?_ ?_ ?_ ?_; (focus (simp; done)); (focus (simp; done)); (focus (first | (left; simp; done) | (right; simp; done)))) | (refine ACall.mk _ _ _ (c3) ?_ ?_ ?_ ?_; (focus (simp; done)); (focus (simp; done)); (focus (first | (left; simp; done) | (right; simp; done))))); simp [inC, Nat.testBit, hI0, hw, hy, hc])
              refine RetOk.by (fun _ => none) ?_
              simp [results135, hbad]
            · have hok := fin (by rw [eg]; rfl)
              simp [p135l0, hI, hx, splice, inC, Nat.testBit]
              repeat ((first | (refine ACall.mk _ _ _ (c2) ?_ ?_ ?_ ?_; (focus (simp; done)); (focus (simp; done)); (focus (first | (left; simp; done) | (right; simp; done)))) | (refine ACall.mk _ _ _ (c4) ?_ ?_ ?_ ?_; (focus (simp; done)); (focus (simp; done)); (focus (first | (left; simp; done) | (right; simp; done)))) | (refine ACall.mk _ _ _ (c5) ?_ ?_ ?_ ?_; (focus (simp; done)); (focus (simp; done)); (focus (first | (left; simp; done) | (right; simp; done)))) | (refine ACall.mk _ _ _ (c3) ?_ ?_ ?_ ?_; (focus (simp; done)); (focus (simp; done)); (focus (first | (left; simp; done) | (right; simp; done))))); simp [inC, Nat.testBit, hI0, hw, hy, hc, hz])
              refine ⟨i + 1, ⟨by omega, hok⟩, by omega, ?_⟩
              refine Weak.mk hE (lk []) _ _ _ ?_ ?_ ?_ ?_ ?_ <;> simp
    · have e : i = l.length := by omega
      have hnn : ¬ (i : Int) < l.length := by omega
      have hall : okWnd l = true := by
        unfold okWnd
        rw [hn, Bool.true_and, List.all_eq_true]
        intro j hj
        exact hg j (by have : j < l.length := by simpa using hj
                       omega)
      simp [p135l0, hnn]
      refine RetOk.by (fun _ => none) ?_
      simp [results135, hall]
end Go.Proofs.Tryz
namespace Go.Proofs.Tryz
open Go.Psl
open Go.Air
set_option maxRecDepth 20000
set_option maxHeartbeats 8000000
theorem fn71 (k : Sky) (h1 : k.s.length ≤ 1000000) (h2 : k.w.length ≤ 1000000) : Ct prog 71 [skyV k] (vb (okSky k)) [] := by
  have c1 := fn134 k.s h1
  have c2 := fn135 k.w h2
  have e : okSky k = (decide ((setS k.s).2.2 = 0) && okWnd k.w) := rfl
  unfold setV at c1
  generalize (setS k.s).2.2 = er at *
  by_cases h : er = 0
  · rw [decide_eq_true h, Bool.true_and] at e
    refine Ct.by gok eok mixed func71 c71 rfl (by simp [ntmps71]) (by simp) (by simp [ResIds]) fun E hE => ?_
    simp [p71]
    refine ACall.mk _ _ _ (c1) (by first | (simp; done) | simp [Bor_ls, Bor1_ls]) (by simp) (by first | (left; simp; done) | (right; simp; done)) ?_
    simp [h]
    refine ACall.mk _ _ _ (c2) (by first | (simp; done) | simp [Bor_ls, Bor1_ls]) (by simp) (by first | (left; simp; done) | (right; simp; done)) ?_
    simp
    refine RetOk.by (fun _ => none) ?_
    simp [results71, e]
  · rw [decide_eq_false h, Bool.false_and] at e
    refine Ct.by gok eok mixed func71 c71 rfl (by simp [ntmps71]) (by simp) (by simp [ResIds]) fun E hE => ?_
    simp [p71]
    refine ACall.mk _ _ _ (c1) (by first | (simp; done) | simp [Bor_ls, Bor1_ls]) (by simp) (by first | (left; simp; done) | (right; simp; done)) ?_
    simp [h]
    refine RetOk.by (fun _ => none) ?_
    simp [results71, e]
end Go.Proofs.Tryz
namespace Go.Proofs.Tryz
open Go.Psl
open Go.Air
set_option maxRecDepth 20000
set_option maxHeartbeats 8000000
theorem fn19 (s : Shp) : Ct prog 19 [shpV s (.d (cellsD s.gas.cs))] (vb (decide (20 < s.gas.cs.length))) [] := by
  have e : decide ((20 : Int) < s.gas.cs.length) = decide (20 < s.gas.cs.length) := decide_eq_decide.2 (by omega)
  refine Ct.by gok eok mixed func19 c19 rfl (by simp [ntmps19]) (by simp) (by simp [ResIds]) fun E hE => ?_
  simp [p19]
  refine RetOk.by (fun _ => none) ?_
  simp [results19, e]
theorem fn18 (k : Sky) : Ct prog 18 [skyV k] (vb (decide (24 < k.s.length) || decide (24 < k.w.length))) [] := by
  have e : decide ((24 : Int) < k.w.length) = decide (24 < k.w.length) := decide_eq_decide.2 (by omega)
  by_cases h : 24 < k.s.length
  · have hI : (24 : Int) < k.s.length := by omega
    refine Ct.by gok eok mixed func18 c18 rfl (by simp [ntmps18]) (by simp) (by simp [ResIds]) fun E hE => ?_
    simp [p18, hI]
    refine RetOk.by (fun _ => none) ?_
    simp [results18, h]
  · have hI : ¬ (24 : Int) < k.s.length := by omega
    refine Ct.by gok eok mixed func18 c18 rfl (by simp [ntmps18]) (by simp) (by simp [ResIds]) fun E hE => ?_
    simp [p18, hI]
    refine RetOk.by (fun _ => none) ?_
    simp [results18, h, e]
end Go.Proofs.Tryz
namespace Go.Proofs.Tryz
open Go.Psl
open Go.Air
set_option maxRecDepth 20000
set_option maxHeartbeats 8000000
theorem fn153 (l m : List Cel) (hl : l.length ≤ 1000000) (_ : m.length ≤ 1000000) : Ct prog 153 [.d (cellsD l), .d (cellsD m)] (vb (decide (l = m))) [] := by
  by_cases hlen : l.length = m.length
  case neg =>
    have hn : ¬ (l.length : Int) = m.length := by omega
    have hne : ¬ l = m := fun h => hlen (by rw [h])
    refine Ct.by gok eok mixed func153 c153 rfl (by simp [ntmps153]) (by simp) (by simp [ResIds]) fun E hE => ?_
    simp [p153, hn]
    refine RetOk.by (fun _ => none) ?_
    simp [results153, hne]
  refine Ct.by gok eok mixed func153 c153 rfl (by simp [ntmps153]) (by simp) (by simp [ResIds]) fun E hE => ?_
  simp [p153, hlen]
  refine pw_loop (α := Nat) (fun i => ⟨slots [(0, .d (cellsD l)), (1, .d (cellsD m)), (12, vi m.length), (13, vi i)], lk [], 0⟩) (fun i => i ≤ l.length ∧ l.take i = m.take i) (fun i => l.length - i) 0 ?_ ?_ ?_
  · simp
  · refine Weak.mk hE (lk []) _ _ _ ?_ ?_ ?_ ?_ ?_ <;> simp
  · rintro i ⟨hi, hg⟩
    have hz : IntKind.wrap .i64 ((i : Int) + 1) = ((i : Int) + 1) := wrap64 (by omega) (by omega)
    by_cases h : i < m.length
    · have hI : (i : Int) < m.length := by omega
      have hI2 : (i : Int) < l.length := by omega
      obtain ⟨a, ha⟩ : ∃ a, l[i]? = some a := ⟨l[i], by simp [show i < l.length by omega]⟩
      obtain ⟨b, hb⟩ : ∃ b, m[i]? = some b := ⟨m[i], by simp [h]⟩
      by_cases hab : a = b
      · subst hab
        simp [p153l0, hI, ha, hb, hz]
        refine ⟨i + 1, ⟨by omega, by simp [List.take_add_one, hg, ha, hb]⟩, by omega, ?_⟩
        refine Weak.mk hE (lk []) _ _ _ ?_ ?_ ?_ ?_ ?_ <;> simp
      · have hne : ¬ l = m := fun h => by
          rw [h, hb] at ha
          cases ha
          exact hab rfl
        have hd : (!decide (a.rm = b.rm) || (!decide (a.he = b.he) || (!decide (a.ai = b.ai) || (!decide (a.wl = b.wl) || (!decide (a.wh = b.wh) || (!decide (a.lk = b.lk) || !decide (a.ow = b.ow))))))) = true := by
          cases a; cases b
          simp at hab ⊢
          omega
        simp [p153l0, hI, ha, hb, hd]
        refine RetOk.by (fun _ => none) ?_
        simp [results153, hne]
    · have hI : ¬ (i : Int) < m.length := by omega
      have hI2 : ¬ (i : Int) < l.length := by omega
      have hil : i = l.length := by omega
      have hlm : l = m := by rw [hil, List.take_length, hlen, List.take_length] at hg; exact hg
      simp [p153l0, hI]
      refine RetOk.by (fun _ => none) ?_
      simp [results153, hlm]
theorem fn150 (l m : List Cel) (hl : l.length ≤ 1000000) (_ : m.length ≤ 1000000) : Ct prog 150 [.d (cellsD l), .d (cellsD m)] (vb (decide (l = m))) [] := by
  by_cases hlen : l.length = m.length
  case neg =>
    have hn : ¬ (l.length : Int) = m.length := by omega
    have hne : ¬ l = m := fun h => hlen (by rw [h])
    refine Ct.by gok eok mixed func150 c150 rfl (by simp [ntmps150]) (by simp) (by simp [ResIds]) fun E hE => ?_
    simp [p150, hn]
    refine RetOk.by (fun _ => none) ?_
    simp [results150, hne]
  refine Ct.by gok eok mixed func150 c150 rfl (by simp [ntmps150]) (by simp) (by simp [ResIds]) fun E hE => ?_
  simp [p150, hlen]
  refine pw_loop (α := Nat) (fun i => ⟨slots [(0, .d (cellsD l)), (1, .d (cellsD m)), (5, vi i)], lk [], 0⟩) (fun i => i ≤ l.length ∧ l.take i = m.take i) (fun i => l.length - i) 0 ?_ ?_ ?_
  · simp
  · refine Weak.mk hE (lk []) _ _ _ ?_ ?_ ?_ ?_ ?_ <;> simp
  · rintro i ⟨hi, hg⟩
    have hz : IntKind.wrap .i64 ((i : Int) + 1) = ((i : Int) + 1) := wrap64 (by omega) (by omega)
    by_cases h : i < m.length
    · have hI : (i : Int) < m.length := by omega
      have hI2 : (i : Int) < l.length := by omega
      obtain ⟨a, ha⟩ : ∃ a, l[i]? = some a := ⟨l[i], by simp [show i < l.length by omega]⟩
      obtain ⟨b, hb⟩ : ∃ b, m[i]? = some b := ⟨m[i], by simp [h]⟩
      by_cases hab : a = b
      · subst hab
        simp [p150l0, hI2, ha, hb, hz]
        refine ⟨i + 1, ⟨by omega, by simp [List.take_add_one, hg, ha, hb]⟩, by omega, ?_⟩
        refine Weak.mk hE (lk []) _ _ _ ?_ ?_ ?_ ?_ ?_ <;> simp
      · have hne : ¬ l = m := fun h => by
          rw [h, hb] at ha
          cases ha
          exact hab rfl
        have hd : (!decide (a.rm = b.rm) || (!decide (a.he = b.he) || (!decide (a.ai = b.ai) || (!decide (a.wl = b.wl) || (!decide (a.wh = b.wh) || (!decide (a.lk = b.lk) || !decide (a.ow = b.ow))))))) = true := by
          cases a; cases b
          simp at hab ⊢
          omega
        simp [p150l0, hI2, ha, hb, hd]
        refine RetOk.by (fun _ => none) ?_
        simp [results150, hne]
    · have hI : ¬ (i : Int) < m.length := by omega
      have hI2 : ¬ (i : Int) < l.length := by omega
      have hil : i = l.length := by omega
      have hlm : l = m := by rw [hil, List.take_length, hlen, List.take_length] at hg; exact hg
      simp [p150l0, hI2]
      refine RetOk.by (fun _ => none) ?_
      simp [results150, hlm]
theorem plt_split {a b : Plt} {P : Prop} (n1 : ¬ a.bt = b.bt → P)
    (n2 : a.bt = b.bt → (decide (a.ih = b.ih) && decide (a.ia = b.ia)) = false → P)
    (n3 : a.bt = b.bt → (a.ih = b.ih ∧ a.ia = b.ia) → (decide (a.vh = b.vh) && decide (a.va = b.va)) = false → P)
    (n4 : a.bt = b.bt → (a.ih = b.ih ∧ a.ia = b.ia) → (a.vh = b.vh ∧ a.va = b.va) → (decide (a.lh = b.lh) && decide (a.la = b.la)) = false → P)
    (n5 : a.bt = b.bt → (a.ih = b.ih ∧ a.ia = b.ia) → (a.vh = b.vh ∧ a.va = b.va) → (a.lh = b.lh ∧ a.la = b.la) → (decide (a.ph = b.ph) && decide (a.pa = b.pa)) = false → P)
    (y : a.bt = b.bt → (a.ih = b.ih ∧ a.ia = b.ia) → (a.vh = b.vh ∧ a.va = b.va) → (a.lh = b.lh ∧ a.la = b.la) → (a.ph = b.ph ∧ a.pa = b.pa) → P) : P := by
  have f : ∀ {p q : Prop} [Decidable p] [Decidable q], ¬ (p ∧ q) → (decide p && decide q) = false := fun h => by simpa using h
  by_cases h1 : a.bt = b.bt
  · by_cases h2 : a.ih = b.ih ∧ a.ia = b.ia
    · by_cases h3 : a.vh = b.vh ∧ a.va = b.va
      · by_cases h4 : a.lh = b.lh ∧ a.la = b.la
        · by_cases h5 : a.ph = b.ph ∧ a.pa = b.pa
          · exact y h1 h2 h3 h4 h5
          · exact n5 h1 h2 h3 h4 (f h5)
        · exact n4 h1 h2 h3 (f h4)
      · exact n3 h1 h2 (f h3)
    · exact n2 h1 (f h2)
  · exact n1 h1
theorem plt_eq {a b : Plt} (h0 : a.cs = b.cs) (h1 : a.bt = b.bt) (h2 : a.ih = b.ih ∧ a.ia = b.ia) (h3 : a.vh = b.vh ∧ a.va = b.va) (h4 : a.lh = b.lh ∧ a.la = b.la) (h5 : a.ph = b.ph ∧ a.pa = b.pa) : a = b := by
  cases a; cases b; simp_all
theorem fn83 (a b : Plt) (ha : a.cs.length ≤ 1000000) (hb : b.cs.length ≤ 1000000) : Ct prog 83 [pltV a (.d (cellsD a.cs)), pltV b (.d (cellsD b.cs))] (vb (decide (a = b))) [] := by
  have c := fn150 a.cs b.cs ha hb
  by_cases h0 : a.cs = b.cs
  case neg =>
    have e : decide (a = b) = false := decide_eq_false fun h => h0 (by rw [h])
    rw [decide_eq_false h0] at c
    refine Ct.by gok eok mixed func83 c83 rfl (by simp [ntmps83]) (by simp) (by simp [ResIds]) fun E hE => ?_
    simp [p83]
    refine ACall.mk _ _ _ (c) (by first | (simp; done) | simp [Bor_ls, Bor1_ls]) (by simp) (by first | (left; simp; done) | (right; simp; done)) ?_
    simp
    refine RetOk.by (fun _ => none) ?_
    simp [results83, e]
  rw [decide_eq_true h0] at c
  refine plt_split (a := a) (b := b) (fun h => ?_) (fun h1 h => ?_) (fun h1 h2 h => ?_) (fun h1 h2 h3 h => ?_) (fun h1 h2 h3 h4 h => ?_) (fun h1 h2 h3 h4 h5 => ?_)
  · have e : ¬ a = b := fun he => h (by rw [he])
    refine Ct.by gok eok mixed func83 c83 rfl (by simp [ntmps83]) (by simp) (by simp [ResIds]) fun E hE => ?_
    simp [p83]
    refine ACall.mk _ _ _ (c) (by first | (simp; done) | simp [Bor_ls, Bor1_ls]) (by simp) (by first | (left; simp; done) | (right; simp; done)) ?_
    simp [h]
    refine RetOk.by (fun _ => none) ?_
    simp [results83, e]
  · have e : ¬ a = b := fun he => by rw [he] at h; simp at h
    refine Ct.by gok eok mixed func83 c83 rfl (by simp [ntmps83]) (by simp) (by simp [ResIds]) fun E hE => ?_
    simp [p83]
    refine ACall.mk _ _ _ (c) (by first | (simp; done) | simp [Bor_ls, Bor1_ls]) (by simp) (by first | (left; simp; done) | (right; simp; done)) ?_
    simp [h1, h]
    refine RetOk.by (fun _ => none) ?_
    simp [results83, e]
  · have e : ¬ a = b := fun he => by rw [he] at h; simp at h
    refine Ct.by gok eok mixed func83 c83 rfl (by simp [ntmps83]) (by simp) (by simp [ResIds]) fun E hE => ?_
    simp [p83]
    refine ACall.mk _ _ _ (c) (by first | (simp; done) | simp [Bor_ls, Bor1_ls]) (by simp) (by first | (left; simp; done) | (right; simp; done)) ?_
    simp [h1, h2, h]
    refine RetOk.by (fun _ => none) ?_
    simp [results83, e]
  · have e : ¬ a = b := fun he => by rw [he] at h; simp at h
    refine Ct.by gok eok mixed func83 c83 rfl (by simp [ntmps83]) (by simp) (by simp [ResIds]) fun E hE => ?_
    simp [p83]
    refine ACall.mk _ _ _ (c) (by first | (simp; done) | simp [Bor_ls, Bor1_ls]) (by simp) (by first | (left; simp; done) | (right; simp; done)) ?_
    simp [h1, h2, h3, h]
    refine RetOk.by (fun _ => none) ?_
    simp [results83, e]
  · have e : ¬ a = b := fun he => by rw [he] at h; simp at h
    refine Ct.by gok eok mixed func83 c83 rfl (by simp [ntmps83]) (by simp) (by simp [ResIds]) fun E hE => ?_
    simp [p83]
    refine ACall.mk _ _ _ (c) (by first | (simp; done) | simp [Bor_ls, Bor1_ls]) (by simp) (by first | (left; simp; done) | (right; simp; done)) ?_
    simp [h1, h2, h3, h4, h]
    refine RetOk.by (fun _ => none) ?_
    simp [results83, e]
  · have e : a = b := plt_eq h0 h1 h2 h3 h4 h5
    refine Ct.by gok eok mixed func83 c83 rfl (by simp [ntmps83]) (by simp) (by simp [ResIds]) fun E hE => ?_
    simp [p83]
    refine ACall.mk _ _ _ (c) (by first | (simp; done) | simp [Bor_ls, Bor1_ls]) (by simp) (by first | (left; simp; done) | (right; simp; done)) ?_
    simp [h1, h2, h3, h4, h5]
    refine RetOk.by (fun _ => none) ?_
    simp [results83, e]
def liesB (a b : Int × Int) : Bool := decide (a.1 ≤ b.1) && decide (b.2 ≤ a.2)
def hldB (a b : Shp) : Bool := liesB (a.xl, a.xh) (b.xl, b.xh) && liesB (a.yl, a.yh) (b.yl, b.yh) && liesB (a.hl, a.hh) (b.hl, b.hh) && liesB (a.fl, a.fh) (b.fl, b.fh) && liesB (a.wl, a.wh) (b.wl, b.wh) && liesB (a.bl, a.bh) (b.bl, b.bh)
def hldS (a b : Shp) : Bool := hldB a b && decide (a.dry = b.dry) && decide (a.bal = b.bal) && decide (a.drp = b.drp) && decide (a.gas = b.gas)
def hldA (a b : Shp) : Bool × Int := if okShp a && okShp b then (hldS a b, 0) else (false, 52)
theorem fn154 (a b : Int × Int) : Ct prog 154 [vsp b.1 b.2, vsp a.1 a.2] (vb (liesB a b)) [] := by
  by_cases h : a.1 ≤ b.1
  · refine Ct.by gok eok mixed func154 c154 rfl (by simp [ntmps154]) (by simp) (by simp [ResIds]) fun E hE => ?_
    simp [p154, h]
    refine RetOk.by (fun _ => none) ?_
    simp [results154, liesB, h]
  · refine Ct.by gok eok mixed func154 c154 rfl (by simp [ntmps154]) (by simp) (by simp [ResIds]) fun E hE => ?_
    simp [p154, h]
    refine RetOk.by (fun _ => none) ?_
    simp [results154, liesB, h]
theorem fn87 (a b : Shp) (ha : a.gas.cs.length ≤ 1000000) (hb : b.gas.cs.length ≤ 1000000) : Ct prog 87 [shpV a (.d (cellsD a.gas.cs)), shpV b (.d (cellsD b.gas.cs))] (vb (hldS a b)) [] := by
  have c1 := fn154 (a.xl, a.xh) (b.xl, b.xh)
  have c2 := fn154 (a.yl, a.yh) (b.yl, b.yh)
  have c3 := fn154 (a.hl, a.hh) (b.hl, b.hh)
  have c4 := fn154 (a.fl, a.fh) (b.fl, b.fh)
  have c5 := fn154 (a.wl, a.wh) (b.wl, b.wh)
  have c6 := fn154 (a.bl, a.bh) (b.bl, b.bh)
  have c7 := fn83 a.gas b.gas ha hb
  have e : hldS a b = (liesB (a.xl, a.xh) (b.xl, b.xh) && liesB (a.yl, a.yh) (b.yl, b.yh) && liesB (a.hl, a.hh) (b.hl, b.hh) && liesB (a.fl, a.fh) (b.fl, b.fh) && liesB (a.wl, a.wh) (b.wl, b.wh) && liesB (a.bl, a.bh) (b.bl, b.bh) && decide (a.dry = b.dry) && decide (a.bal = b.bal) && decide (a.drp = b.drp) && decide (a.gas = b.gas)) := rfl
  rw [e]
  generalize liesB (a.xl, a.xh) (b.xl, b.xh) = b1 at *
  generalize liesB (a.yl, a.yh) (b.yl, b.yh) = b2 at *
  generalize liesB (a.hl, a.hh) (b.hl, b.hh) = b3 at *
  generalize liesB (a.fl, a.fh) (b.fl, b.fh) = b4 at *
  generalize liesB (a.wl, a.wh) (b.wl, b.wh) = b5 at *
  generalize liesB (a.bl, a.bh) (b.bl, b.bh) = b6 at *
  generalize decide (a.gas = b.gas) = b7 at *
  cases b1
  · refine Ct.by gok eok mixed func87 c87 rfl (by simp [ntmps87]) (by simp) (by simp [ResIds]) fun E hE => ?_
    simp [p87]
    repeat ((first | (refine ACall.mk _ _ _ (c1) ?_ ?_ ?_ ?_; (focus (simp; done)); (focus (simp; done)); (focus (first | (left; simp; done) | (right; simp; done)))) | (refine ACall.mk _ _ _ (c2) ?_ ?_ ?_ ?_; (focus (simp; done)); (focus (simp; done)); (focus (first | (left; simp; done) | (right; simp; done)))) | (refine ACall.mk _ _ _ (c3) ?_ ?_ ?_ ?_; (focus (simp; done)); (focus (simp; done)); (focus (first | (left; simp; done) | (right; simp; done)))) | (refine ACall.mk _ _ _ (c4) ?_ ?_ ?_ ?_; (focus (simp; done)); (focus (simp; done)); (focus (first | (left; simp; done) | (right; simp; done)))) | (refine ACall.mk _ _ _ (c5) ?_ ?_ ?_ ?_; (focus (simp; done)); (focus (simp; done)); (focus (first | (left; simp; done) | (right; simp; done)))) | (refine ACall.mk _ _ _ (c6) ?_ ?_ ?_ ?_; (focus (simp; done)); (focus (simp; done)); (focus (first | (left; simp; done) | (right; simp; done)))) | (refine ACall.mk _ _ _ (c7) ?_ ?_ ?_ ?_; (focus (simp; done)); (focus (simp; done)); (focus (first | (left; simp; done) | (right; simp; done))))); simp)
    refine RetOk.by (fun _ => none) ?_
    simp [results87]
  cases b2
  · refine Ct.by gok eok mixed func87 c87 rfl (by simp [ntmps87]) (by simp) (by simp [ResIds]) fun E hE => ?_
    simp [p87]
    repeat ((first | (refine ACall.mk _ _ _ (c1) ?_ ?_ ?_ ?_; (focus (simp; done)); (focus (simp; done)); (focus (first | (left; simp; done) | (right; simp; done)))) | (refine ACall.mk _ _ _ (c2) ?_ ?_ ?_ ?_; (focus (simp; done)); (focus (simp; done)); (focus (first | (left; simp; done) | (right; simp; done)))) | (refine ACall.mk _ _ _ (c3) ?_ ?_ ?_ ?_; (focus (simp; done)); (focus (simp; done)); (focus (first | (left; simp; done) | (right; simp; done)))) | (refine ACall.mk _ _ _ (c4) ?_ ?_ ?_ ?_; (focus (simp; done)); (focus (simp; done)); (focus (first | (left; simp; done) | (right; simp; done)))) | (refine ACall.mk _ _ _ (c5) ?_ ?_ ?_ ?_; (focus (simp; done)); (focus (simp; done)); (focus (first | (left; simp; done) | (right; simp; done)))) | (refine ACall.mk _ _ _ (c6) ?_ ?_ ?_ ?_; (focus (simp; done)); (focus (simp; done)); (focus (first | (left; simp; done) | (right; simp; done)))) | (refine ACall.mk _ _ _ (c7) ?_ ?_ ?_ ?_; (focus (simp; done)); (focus (simp; done)); (focus (first | (left; simp; done) | (right; simp; done))))); simp)
    refine RetOk.by (fun _ => none) ?_
    simp [results87]
  cases b3
  · refine Ct.by gok eok mixed func87 c87 rfl (by simp [ntmps87]) (by simp) (by simp [ResIds]) fun E hE => ?_
    simp [p87]
    repeat ((first | (refine ACall.mk _ _ _ (c1) ?_ ?_ ?_ ?_; (focus (simp; done)); (focus (simp; done)); (focus (first | (left; simp; done) | (right; simp; done)))) | (refine ACall.mk _ _ _ (c2) ?_ ?_ ?_ ?_; (focus (simp; done)); (focus (simp; done)); (focus (first | (left; simp; done) | (right; simp; done)))) | (refine ACall.mk _ _ _ (c3) ?_ ?_ ?_ ?_; (focus (simp; done)); (focus (simp; done)); (focus (first | (left; simp; done) | (right; simp; done)))) | (refine ACall.mk _ _ _ (c4) ?_ ?_ ?_ ?_; (focus (simp; done)); (focus (simp; done)); (focus (first | (left; simp; done) | (right; simp; done)))) | (refine ACall.mk _ _ _ (c5) ?_ ?_ ?_ ?_; (focus (simp; done)); (focus (simp; done)); (focus (first | (left; simp; done) | (right; simp; done)))) | (refine ACall.mk _ _ _ (c6) ?_ ?_ ?_ ?_; (focus (simp; done)); (focus (simp; done)); (focus (first | (left; simp; done) | (right; simp; done)))) | (refine ACall.mk _ _ _ (c7) ?_ ?_ ?_ ?_; (focus (simp; done)); (focus (simp; done)); (focus (first | (left; simp; done) | (right; simp; done))))); simp)
    refine RetOk.by (fun _ => none) ?_
    simp [results87]
  cases b4
  · refine Ct.by gok eok mixed func87 c87 rfl (by simp [ntmps87]) (by simp) (by simp [ResIds]) fun E hE => ?_
    simp [p87]
    repeat ((first | (refine ACall.mk _ _ _ (c1) ?_ ?_ ?_ ?_; (focus (simp; done)); (focus (simp; done)); (focus (first | (left; simp; done) | (right; simp; done)))) | (refine ACall.mk _ _ _ (c2) ?_ ?_ ?_ ?_; (focus (simp; done)); (focus (simp; done)); (focus (first | (left; simp; done) | (right; simp; done)))) | (refine ACall.mk _ _ _ (c3) ?_ ?_ ?_ ?_; (focus (simp; done)); (focus (simp; done)); (focus (first | (left; simp; done) | (right; simp; done)))) | (refine ACall.mk _ _ _ (c4) ?_ ?_ ?_ ?_; (focus (simp; done)); (focus (simp; done)); (focus (first | (left; simp; done) | (right; simp; done)))) | (refine ACall.mk _ _ _ (c5) ?_ ?_ ?_ ?_; (focus (simp; done)); (focus (simp; done)); (focus (first | (left; simp; done) | (right; simp; done)))) | (refine ACall.mk _ _ _ (c6) ?_ ?_ ?_ ?_; (focus (simp; done)); (focus (simp; done)); (focus (first | (left; simp; done) | (right; simp; done)))) | (refine ACall.mk _ _ _ (c7) ?_ ?_ ?_ ?_; (focus (simp; done)); (focus (simp; done)); (focus (first | (left; simp; done) | (right; simp; done))))); simp)
    refine RetOk.by (fun _ => none) ?_
    simp [results87]
  cases b5
  · refine Ct.by gok eok mixed func87 c87 rfl (by simp [ntmps87]) (by simp) (by simp [ResIds]) fun E hE => ?_
    simp [p87]
    repeat ((first | (refine ACall.mk _ _ _ (c1) ?_ ?_ ?_ ?_; (focus (simp; done)); (focus (simp; done)); (focus (first | (left; simp; done) | (right; simp; done)))) | (refine ACall.mk _ _ _ (c2) ?_ ?_ ?_ ?_; (focus (simp; done)); (focus (simp; done)); (focus (first | (left; simp; done) | (right; simp; done)))) | (refine ACall.mk _ _ _ (c3) ?_ ?_ ?_ ?_; (focus (simp; done)); (focus (simp; done)); (focus (first | (left; simp; done) | (right; simp; done)))) | (refine ACall.mk _ _ _ (c4) ?_ ?_ ?_ ?_; (focus (simp; done)); (focus (simp; done)); (focus (first | (left; simp; done) | (right; simp; done)))) | (refine ACall.mk _ _ _ (c5) ?_ ?_ ?_ ?_; (focus (simp; done)); (focus (simp; done)); (focus (first | (left; simp; done) | (right; simp; done)))) | (refine ACall.mk _ _ _ (c6) ?_ ?_ ?_ ?_; (focus (simp; done)); (focus (simp; done)); (focus (first | (left; simp; done) | (right; simp; done)))) | (refine ACall.mk _ _ _ (c7) ?_ ?_ ?_ ?_; (focus (simp; done)); (focus (simp; done)); (focus (first | (left; simp; done) | (right; simp; done))))); simp)
    refine RetOk.by (fun _ => none) ?_
    simp [results87]
  cases b6
  · refine Ct.by gok eok mixed func87 c87 rfl (by simp [ntmps87]) (by simp) (by simp [ResIds]) fun E hE => ?_
    simp [p87]
    repeat ((first | (refine ACall.mk _ _ _ (c1) ?_ ?_ ?_ ?_; (focus (simp; done)); (focus (simp; done)); (focus (first | (left; simp; done) | (right; simp; done)))) | (refine ACall.mk _ _ _ (c2) ?_ ?_ ?_ ?_; (focus (simp; done)); (focus (simp; done)); (focus (first | (left; simp; done) | (right; simp; done)))) | (refine ACall.mk _ _ _ (c3) ?_ ?_ ?_ ?_; (focus (simp; done)); (focus (simp; done)); (focus (first | (left; simp; done) | (right; simp; done)))) | (refine ACall.mk _ _ _ (c4) ?_ ?_ ?_ ?_; (focus (simp; done)); (focus (simp; done)); (focus (first | (left; simp; done) | (right; simp; done)))) | (refine ACall.mk _ _ _ (c5) ?_ ?_ ?_ ?_; (focus (simp; done)); (focus (simp; done)); (focus (first | (left; simp; done) | (right; simp; done)))) | (refine ACall.mk _ _ _ (c6) ?_ ?_ ?_ ?_; (focus (simp; done)); (focus (simp; done)); (focus (first | (left; simp; done) | (right; simp; done)))) | (refine ACall.mk _ _ _ (c7) ?_ ?_ ?_ ?_; (focus (simp; done)); (focus (simp; done)); (focus (first | (left; simp; done) | (right; simp; done))))); simp)
    refine RetOk.by (fun _ => none) ?_
    simp [results87]
  by_cases h1 : a.dry = b.dry
  case neg =>
    refine Ct.by gok eok mixed func87 c87 rfl (by simp [ntmps87]) (by simp) (by simp [ResIds]) fun E hE => ?_
    simp [p87]
    repeat ((first | (refine ACall.mk _ _ _ (c1) ?_ ?_ ?_ ?_; (focus (simp; done)); (focus (simp; done)); (focus (first | (left; simp; done) | (right; simp; done)))) | (refine ACall.mk _ _ _ (c2) ?_ ?_ ?_ ?_; (focus (simp; done)); (focus (simp; done)); (focus (first | (left; simp; done) | (right; simp; done)))) | (refine ACall.mk _ _ _ (c3) ?_ ?_ ?_ ?_; (focus (simp; done)); (focus (simp; done)); (focus (first | (left; simp; done) | (right; simp; done)))) | (refine ACall.mk _ _ _ (c4) ?_ ?_ ?_ ?_; (focus (simp; done)); (focus (simp; done)); (focus (first | (left; simp; done) | (right; simp; done)))) | (refine ACall.mk _ _ _ (c5) ?_ ?_ ?_ ?_; (focus (simp; done)); (focus (simp; done)); (focus (first | (left; simp; done) | (right; simp; done)))) | (refine ACall.mk _ _ _ (c6) ?_ ?_ ?_ ?_; (focus (simp; done)); (focus (simp; done)); (focus (first | (left; simp; done) | (right; simp; done)))) | (refine ACall.mk _ _ _ (c7) ?_ ?_ ?_ ?_; (focus (simp; done)); (focus (simp; done)); (focus (first | (left; simp; done) | (right; simp; done))))); simp [h1])
    refine RetOk.by (fun _ => none) ?_
    simp [results87]
  by_cases h2 : a.bal = b.bal
  case neg =>
    refine Ct.by gok eok mixed func87 c87 rfl (by simp [ntmps87]) (by simp) (by simp [ResIds]) fun E hE => ?_
    simp [p87]
    repeat ((first | (refine ACall.mk _ _ _ (c1) ?_ ?_ ?_ ?_; (focus (simp; done)); (focus (simp; done)); (focus (first | (left; simp; done) | (right; simp; done)))) | (refine ACall.mk _ _ _ (c2) ?_ ?_ ?_ ?_; (focus (simp; done)); (focus (simp; done)); (focus (first | (left; simp; done) | (right; simp; done)))) | (refine ACall.mk _ _ _ (c3) ?_ ?_ ?_ ?_; (focus (simp; done)); (focus (simp; done)); (focus (first | (left; simp; done) | (right; simp; done)))) | (refine ACall.mk _ _ _ (c4) ?_ ?_ ?_ ?_; (focus (simp; done)); (focus (simp; done)); (focus (first | (left; simp; done) | (right; simp; done)))) | (refine ACall.mk _ _ _ (c5) ?_ ?_ ?_ ?_; (focus (simp; done)); (focus (simp; done)); (focus (first | (left; simp; done) | (right; simp; done)))) | (refine ACall.mk _ _ _ (c6) ?_ ?_ ?_ ?_; (focus (simp; done)); (focus (simp; done)); (focus (first | (left; simp; done) | (right; simp; done)))) | (refine ACall.mk _ _ _ (c7) ?_ ?_ ?_ ?_; (focus (simp; done)); (focus (simp; done)); (focus (first | (left; simp; done) | (right; simp; done))))); simp [h1, h2])
    refine RetOk.by (fun _ => none) ?_
    simp [results87]
  by_cases h3 : a.drp = b.drp
  case neg =>
    refine Ct.by gok eok mixed func87 c87 rfl (by simp [ntmps87]) (by simp) (by simp [ResIds]) fun E hE => ?_
    simp [p87]
    repeat ((first | (refine ACall.mk _ _ _ (c1) ?_ ?_ ?_ ?_; (focus (simp; done)); (focus (simp; done)); (focus (first | (left; simp; done) | (right; simp; done)))) | (refine ACall.mk _ _ _ (c2) ?_ ?_ ?_ ?_; (focus (simp; done)); (focus (simp; done)); (focus (first | (left; simp; done) | (right; simp; done)))) | (refine ACall.mk _ _ _ (c3) ?_ ?_ ?_ ?_; (focus (simp; done)); (focus (simp; done)); (focus (first | (left; simp; done) | (right; simp; done)))) | (refine ACall.mk _ _ _ (c4) ?_ ?_ ?_ ?_; (focus (simp; done)); (focus (simp; done)); (focus (first | (left; simp; done) | (right; simp; done)))) | (refine ACall.mk _ _ _ (c5) ?_ ?_ ?_ ?_; (focus (simp; done)); (focus (simp; done)); (focus (first | (left; simp; done) | (right; simp; done)))) | (refine ACall.mk _ _ _ (c6) ?_ ?_ ?_ ?_; (focus (simp; done)); (focus (simp; done)); (focus (first | (left; simp; done) | (right; simp; done)))) | (refine ACall.mk _ _ _ (c7) ?_ ?_ ?_ ?_; (focus (simp; done)); (focus (simp; done)); (focus (first | (left; simp; done) | (right; simp; done))))); simp [h1, h2, h3])
    refine RetOk.by (fun _ => none) ?_
    simp [results87]
  refine Ct.by gok eok mixed func87 c87 rfl (by simp [ntmps87]) (by simp) (by simp [ResIds]) fun E hE => ?_
  simp [p87]
  repeat ((first | (refine ACall.mk _ _ _ (c1) ?_ ?_ ?_ ?_; (focus (simp; done)); (focus (simp; done)); (focus (first | (left; simp; done) | (right; simp; done)))) | (refine ACall.mk _ _ _ (c2) ?_ ?_ ?_ ?_; (focus (simp; done)); (focus (simp; done)); (focus (first | (left; simp; done) | (right; simp; done)))) | (refine ACall.mk _ _ _ (c3) ?_ ?_ ?_ ?_; (focus (simp; done)); (focus (simp; done)); (focus (first | (left; simp; done) | (right; simp; done)))) | (refine ACall.mk _ _ _ (c4) ?_ ?_ ?_ ?_; (focus (simp; done)); (focus (simp; done)); (focus (first | (left; simp; done) | (right; simp; done)))) | (refine ACall.mk _ _ _ (c5) ?_ ?_ ?_ ?_; (focus (simp; done)); (focus (simp; done)); (focus (first | (left; simp; done) | (right; simp; done)))) | (refine ACall.mk _ _ _ (c6) ?_ ?_ ?_ ?_; (focus (simp; done)); (focus (simp; done)); (focus (first | (left; simp; done) | (right; simp; done)))) | (refine ACall.mk _ _ _ (c7) ?_ ?_ ?_ ?_; (focus (simp; done)); (focus (simp; done)); (focus (first | (left; simp; done) | (right; simp; done))))); simp [h1, h2, h3])
  refine RetOk.by (fun _ => none) ?_
  simp [results87]
theorem fn31 (a b : Shp) (ha : a.gas.cs.length ≤ 1000000) (hb : b.gas.cs.length ≤ 1000000) : Ct prog 31 [shpV a (.d (cellsD a.gas.cs)), shpV b (.d (cellsD b.gas.cs))] (.tup [vb (hldA a b).1, vi (hldA a b).2]) [] := by
  have c1 := fn72 a ha
  have c2 := fn72 b hb
  have c3 := fn87 a b ha hb
  unfold hldA
  generalize okShp a = b1 at *
  generalize okShp b = b2 at *
  cases b1
  · refine Ct.by gok eok mixed func31 c31 rfl (by simp [ntmps31]) (by simp) (by simp [ResIds]) fun E hE => ?_
    simp [p31]
    repeat ((first | (refine ACall.mk _ _ _ (c1) ?_ ?_ ?_ ?_; (focus (simp; done)); (focus (simp; done)); (focus (first | (left; simp; done) | (right; simp; done)))) | (refine ACall.mk _ _ _ (c2) ?_ ?_ ?_ ?_; (focus (simp; done)); (focus (simp; done)); (focus (first | (left; simp; done) | (right; simp; done)))) | (refine ACall.mk _ _ _ (c3) ?_ ?_ ?_ ?_; (focus (simp; done)); (focus (simp; done)); (focus (first | (left; simp; done) | (right; simp; done))))); simp)
    refine RetOk.by (fun _ => none) ?_
    simp [results31]
  cases b2
  · refine Ct.by gok eok mixed func31 c31 rfl (by simp [ntmps31]) (by simp) (by simp [ResIds]) fun E hE => ?_
    simp [p31]
    repeat ((first | (refine ACall.mk _ _ _ (c1) ?_ ?_ ?_ ?_; (focus (simp; done)); (focus (simp; done)); (focus (first | (left; simp; done) | (right; simp; done)))) | (refine ACall.mk _ _ _ (c2) ?_ ?_ ?_ ?_; (focus (simp; done)); (focus (simp; done)); (focus (first | (left; simp; done) | (right; simp; done)))) | (refine ACall.mk _ _ _ (c3) ?_ ?_ ?_ ?_; (focus (simp; done)); (focus (simp; done)); (focus (first | (left; simp; done) | (right; simp; done))))); simp)
    refine RetOk.by (fun _ => none) ?_
    simp [results31]
  · refine Ct.by gok eok mixed func31 c31 rfl (by simp [ntmps31]) (by simp) (by simp [ResIds]) fun E hE => ?_
    simp [p31]
    repeat ((first | (refine ACall.mk _ _ _ (c1) ?_ ?_ ?_ ?_; (focus (simp; done)); (focus (simp; done)); (focus (first | (left; simp; done) | (right; simp; done)))) | (refine ACall.mk _ _ _ (c2) ?_ ?_ ?_ ?_; (focus (simp; done)); (focus (simp; done)); (focus (first | (left; simp; done) | (right; simp; done)))) | (refine ACall.mk _ _ _ (c3) ?_ ?_ ?_ ?_; (focus (simp; done)); (focus (simp; done)); (focus (first | (left; simp; done) | (right; simp; done))))); simp)
    refine RetOk.by (fun _ => none) ?_
    simp [results31]
end Go.Proofs.Tryz
namespace Go.Proofs.Tryz
open Go.Psl
open Go.Air
set_option maxRecDepth 20000
set_option maxHeartbeats 8000000
theorem fn151 (s : Shp) : Cm prog 151 [.lp 0 0] (lk [(0, (shpR s).map .d)]) [0] (.ret (.agg [.lp 0 0, .lp 0 2, .lp 0 4, .lp 0 6, .lp 0 8, .lp 0 10])) (lk [(0, (shpR s).map .d)]) := by
  refine Cm.by gok eok mixed 1 func151 c151 rfl (by simp [ntmps151]) (by simp) (HpIds.at (by simp)) (by simp) (by simp [ResIds]) fun E hs hE => ?_
  simp [p151, splice]
  refine RetOk.by (lk [(0, 0)]) ?_
  simp [results151]
def spS (s : Shp) (k : Nat) : Int × Int := [(s.xl, s.xh), (s.yl, s.yh), (s.hl, s.hh), (s.fl, s.fh), (s.wl, s.wh), (s.bl, s.bh)].getD k (0, 0)
theorem okShp_sp {s : Shp} (h : okShp s = true) (k : Nat) : okS (spS s k) = true := by
  unfold okShp at h
  simp only [Bool.and_eq_true, spB_iff] at h
  obtain ⟨⟨⟨⟨⟨⟨h1, h2⟩, h3⟩, h4⟩, _⟩, _⟩, _⟩ := h
  unfold okS spS
  match k with
  | 0 => simp; omega
  | 1 => simp; omega
  | 2 => simp; omega
  | 3 => simp; omega
  | 4 => simp; omega
  | 5 => simp; omega
  | n + 6 => simp
theorem hld_sp {a b : Shp} (ha : okShp a = true) (hb : okShp b = true) (k : Nat) : holdsS (spS a k) (spS b k) = (liesB (spS a k) (spS b k), 0) := by
  unfold holdsS liesB
  rw [okShp_sp ha, okShp_sp hb]
  simp
theorem hld_split {a b : Shp} {P : Prop} (n1 : ¬ a.dry = b.dry → P) (n2 : a.dry = b.dry → ¬ a.bal = b.bal → P) (n3 : a.dry = b.dry → a.bal = b.bal → ¬ a.drp = b.drp → P) (y : a.dry = b.dry → a.bal = b.bal → a.drp = b.drp → P) : P := by
  by_cases h1 : a.dry = b.dry
  · by_cases h2 : a.bal = b.bal
    · by_cases h3 : a.drp = b.drp
      · exact y h1 h2 h3
      · exact n3 h1 h2 h3
    · exact n2 h1 h2
  · exact n1 h1
theorem hldS_sp {a b : Shp} {k : Nat} (hk : k < 6) (h : liesB (spS a k) (spS b k) = false) : hldS a b = false := by
  unfold hldS hldB
  match k, hk with
  | 0, _ => rw [show liesB (a.xl, a.xh) (b.xl, b.xh) = false from h]; rfl
  | 1, _ => rw [show liesB (a.yl, a.yh) (b.yl, b.yh) = false from h]; simp
  | 2, _ => rw [show liesB (a.hl, a.hh) (b.hl, b.hh) = false from h]; simp
  | 3, _ => rw [show liesB (a.fl, a.fh) (b.fl, b.fh) = false from h]; simp
  | 4, _ => rw [show liesB (a.wl, a.wh) (b.wl, b.wh) = false from h]; simp
  | 5, _ => rw [show liesB (a.bl, a.bh) (b.bl, b.bh) = false from h]; simp
theorem hldB_sp {a b : Shp} (h : ∀ k, k < 6 → liesB (spS a k) (spS b k) = true) : hldB a b = true := by
  unfold hldB
  rw [show liesB (a.xl, a.xh) (b.xl, b.xh) = true from h 0 (by omega), show liesB (a.yl, a.yh) (b.yl, b.yh) = true from h 1 (by omega), show liesB (a.hl, a.hh) (b.hl, b.hh) = true from h 2 (by omega), show liesB (a.fl, a.fh) (b.fl, b.fh) = true from h 3 (by omega), show liesB (a.wl, a.wh) (b.wl, b.wh) = true from h 4 (by omega), show liesB (a.bl, a.bh) (b.bl, b.bh) = true from h 5 (by omega)]
  rfl
theorem fn86 (a b : Shp) (ha : okShp a = true) (hb : okShp b = true) : Ct prog 86 [shpV a (.d (cellsD a.gas.cs)), shpV b (.d (cellsD b.gas.cs))] (vb (hldS a b)) [] := by
  have hna := (okShp_B ha).n
  have hnb := (okShp_B hb).n
  have d1 := (fn151 b).rename (fun _ => 1048576) 1 (by omega) (by simp) (by simp) (by simp)
  have d2 := fn151 a
  simp [renL, renR] at d1
  have cE := fn153 a.gas.cs b.gas.cs (by omega) (by omega)
  refine Ct.by gok eok mixed func86 c86 rfl (by simp [ntmps86]) (by simp) (by simp [ResIds]) fun E hE => ?_
  simp [p86]
  refine ACall.mkR _ _ _ _ _ (d1) (by simp) (by simp) (by simp) (by simp) (by first | (left; simp; done) | (right; simp [splice]; done)) ?_
  simp [splice]
  refine ACall.mkR _ _ _ _ _ (d2) (by simp) (by simp) (by simp) (by simp) (by first | (left; simp; done) | (right; simp [splice]; done)) ?_
  simp
  refine pw_loop (α := Nat) (fun i => ⟨slots [(2, .lp 0 0), (3, .lp 1 0), (5, .lp 2 0), (13, .agg [.lp 0 0, .lp 0 2, .lp 0 4, .lp 0 6, .lp 0 8, .lp 0 10]), (14, vi i)], lk [(0, (shpR a).map .d), (1, (shpR b).map .d), (2, [.lp 1 0, .lp 1 2, .lp 1 4, .lp 1 6, .lp 1 8, .lp 1 10])], 3⟩) (fun i => i ≤ 6 ∧ ∀ j, j < i → liesB (spS a j) (spS b j) = true) (fun i => 6 - i) 0 ?_ ?_ ?_
  · exact ⟨by omega, fun j hj => by omega⟩
  · refine Weak.mk hE (lk [(0, 0), (1, 1048576), (2, 4194304)]) _ _ _ ?_ ?_ ?_ ?_ ?_ <;> simp
  · rintro i ⟨hi, hg⟩
    have wwA : (IntKind.wrap .i64 1 = 1 ∧ IntKind.wrap .i64 2 = 2 ∧ IntKind.wrap .i64 3 = 3) ∧ IntKind.wrap .i64 4 = 4 ∧ IntKind.wrap .i64 5 = 5 ∧ IntKind.wrap .i64 6 = 6 := by decide
    match i, hi, hg with
    | 0, hi, hg =>
      have c := fn152 (spS a 0) (spS b 0)
      rw [hld_sp ha hb] at c
      cases hq : liesB (spS a 0) (spS b 0)
      · have e : hldS a b = false := hldS_sp (k := 0) (by omega) hq
        rw [hq] at c
        simp [spS] at c
        simp [p86l0, inC, Nat.testBit]
        refine ACall.mk _ _ _ (c) (by first | (simp; done) | simp [Bor_ls, Bor1_ls]) (by simp) (by first | (left; simp; done) | (right; simp; done)) ?_
        simp
        refine RetOk.by (fun _ => none) ?_
        simp [results86, e]
      · skip
        rw [hq] at c
        simp [spS] at c
        simp [p86l0, inC, Nat.testBit]
        refine ACall.mk _ _ _ (c) (by first | (simp; done) | simp [Bor_ls, Bor1_ls]) (by simp) (by first | (left; simp; done) | (right; simp; done)) ?_
        simp
        refine ⟨0 + 1, ⟨by omega, fun j hj => ?_⟩, by omega, ?_⟩
        · by_cases e : j = 0
          · subst e; exact hq
          · exact hg j (by omega)
        · refine Weak.mk hE (lk [(0, 0), (1, 1), (2, 2)]) _ _ _ ?_ ?_ ?_ ?_ ?_ <;> simp [wwA]
    | 1, hi, hg =>
      have c := fn152 (spS a 1) (spS b 1)
      rw [hld_sp ha hb] at c
      cases hq : liesB (spS a 1) (spS b 1)
      · have e : hldS a b = false := hldS_sp (k := 1) (by omega) hq
        rw [hq] at c
        simp [spS] at c
        simp [p86l0, inC, Nat.testBit]
        refine ACall.mk _ _ _ (c) (by first | (simp; done) | simp [Bor_ls, Bor1_ls]) (by simp) (by first | (left; simp; done) | (right; simp; done)) ?_
        simp
        refine RetOk.by (fun _ => none) ?_
        simp [results86, e]
      · skip
        rw [hq] at c
        simp [spS] at c
        simp [p86l0, inC, Nat.testBit]
        refine ACall.mk _ _ _ (c) (by first | (simp; done) | simp [Bor_ls, Bor1_ls]) (by simp) (by first | (left; simp; done) | (right; simp; done)) ?_
        simp
        refine ⟨1 + 1, ⟨by omega, fun j hj => ?_⟩, by omega, ?_⟩
        · by_cases e : j = 1
          · subst e; exact hq
          · exact hg j (by omega)
        · refine Weak.mk hE (lk [(0, 0), (1, 1), (2, 2)]) _ _ _ ?_ ?_ ?_ ?_ ?_ <;> simp [wwA]
    | 2, hi, hg =>
      have c := fn152 (spS a 2) (spS b 2)
      rw [hld_sp ha hb] at c
      cases hq : liesB (spS a 2) (spS b 2)
      · have e : hldS a b = false := hldS_sp (k := 2) (by omega) hq
        rw [hq] at c
        simp [spS] at c
        simp [p86l0, inC, Nat.testBit]
        refine ACall.mk _ _ _ (c) (by first | (simp; done) | simp [Bor_ls, Bor1_ls]) (by simp) (by first | (left; simp; done) | (right; simp; done)) ?_
        simp
        refine RetOk.by (fun _ => none) ?_
        simp [results86, e]
      · skip
        rw [hq] at c
        simp [spS] at c
        simp [p86l0, inC, Nat.testBit]
        refine ACall.mk _ _ _ (c) (by first | (simp; done) | simp [Bor_ls, Bor1_ls]) (by simp) (by first | (left; simp; done) | (right; simp; done)) ?_
        simp
        refine ⟨2 + 1, ⟨by omega, fun j hj => ?_⟩, by omega, ?_⟩
        · by_cases e : j = 2
          · subst e; exact hq
          · exact hg j (by omega)
        · refine Weak.mk hE (lk [(0, 0), (1, 1), (2, 2)]) _ _ _ ?_ ?_ ?_ ?_ ?_ <;> simp [wwA]
    | 3, hi, hg =>
      have c := fn152 (spS a 3) (spS b 3)
      rw [hld_sp ha hb] at c
      cases hq : liesB (spS a 3) (spS b 3)
      · have e : hldS a b = false := hldS_sp (k := 3) (by omega) hq
        rw [hq] at c
        simp [spS] at c
        simp [p86l0, inC, Nat.testBit]
        refine ACall.mk _ _ _ (c) (by first | (simp; done) | simp [Bor_ls, Bor1_ls]) (by simp) (by first | (left; simp; done) | (right; simp; done)) ?_
        simp
        refine RetOk.by (fun _ => none) ?_
        simp [results86, e]
      · skip
        rw [hq] at c
        simp [spS] at c
        simp [p86l0, inC, Nat.testBit]
        refine ACall.mk _ _ _ (c) (by first | (simp; done) | simp [Bor_ls, Bor1_ls]) (by simp) (by first | (left; simp; done) | (right; simp; done)) ?_
        simp
        refine ⟨3 + 1, ⟨by omega, fun j hj => ?_⟩, by omega, ?_⟩
        · by_cases e : j = 3
          · subst e; exact hq
          · exact hg j (by omega)
        · refine Weak.mk hE (lk [(0, 0), (1, 1), (2, 2)]) _ _ _ ?_ ?_ ?_ ?_ ?_ <;> simp [wwA]
    | 4, hi, hg =>
      have c := fn152 (spS a 4) (spS b 4)
      rw [hld_sp ha hb] at c
      cases hq : liesB (spS a 4) (spS b 4)
      · have e : hldS a b = false := hldS_sp (k := 4) (by omega) hq
        rw [hq] at c
        simp [spS] at c
        simp [p86l0, inC, Nat.testBit]
        refine ACall.mk _ _ _ (c) (by first | (simp; done) | simp [Bor_ls, Bor1_ls]) (by simp) (by first | (left; simp; done) | (right; simp; done)) ?_
        simp
        refine RetOk.by (fun _ => none) ?_
        simp [results86, e]
      · skip
        rw [hq] at c
        simp [spS] at c
        simp [p86l0, inC, Nat.testBit]
        refine ACall.mk _ _ _ (c) (by first | (simp; done) | simp [Bor_ls, Bor1_ls]) (by simp) (by first | (left; simp; done) | (right; simp; done)) ?_
        simp
        refine ⟨4 + 1, ⟨by omega, fun j hj => ?_⟩, by omega, ?_⟩
        · by_cases e : j = 4
          · subst e; exact hq
          · exact hg j (by omega)
        · refine Weak.mk hE (lk [(0, 0), (1, 1), (2, 2)]) _ _ _ ?_ ?_ ?_ ?_ ?_ <;> simp [wwA]
    | 5, hi, hg =>
      have c := fn152 (spS a 5) (spS b 5)
      rw [hld_sp ha hb] at c
      cases hq : liesB (spS a 5) (spS b 5)
      · have e : hldS a b = false := hldS_sp (k := 5) (by omega) hq
        rw [hq] at c
        simp [spS] at c
        simp [p86l0, inC, Nat.testBit]
        refine ACall.mk _ _ _ (c) (by first | (simp; done) | simp [Bor_ls, Bor1_ls]) (by simp) (by first | (left; simp; done) | (right; simp; done)) ?_
        simp
        refine RetOk.by (fun _ => none) ?_
        simp [results86, e]
      · skip
        rw [hq] at c
        simp [spS] at c
        simp [p86l0, inC, Nat.testBit]
        refine ACall.mk _ _ _ (c) (by first | (simp; done) | simp [Bor_ls, Bor1_ls]) (by simp) (by first | (left; simp; done) | (right; simp; done)) ?_
        simp
        refine ⟨5 + 1, ⟨by omega, fun j hj => ?_⟩, by omega, ?_⟩
        · by_cases e : j = 5
          · subst e; exact hq
          · exact hg j (by omega)
        · refine Weak.mk hE (lk [(0, 0), (1, 1), (2, 2)]) _ _ _ ?_ ?_ ?_ ?_ ?_ <;> simp [wwA]
    | n + 7, hi, _ => omega
    | 6, hi, hg =>
      have hB := hldB_sp hg
      have e0 : hldS a b = (decide (a.dry = b.dry) && decide (a.bal = b.bal) && decide (a.drp = b.drp) && decide (a.gas = b.gas)) := by unfold hldS; rw [hB]; rfl
      simp [p86l0]
      refine pw_drawW [(6, 5242883), (7, 6291459)] (by kernel_rfl) ?_
      simp [splice, inC, Nat.testBit]
      refine hld_split (a := a) (b := b) (fun h => ?_) (fun k1 h => ?_) (fun k1 k2 h => ?_) (fun k1 k2 k3 => ?_)
      · have e : ¬ a.dry = b.dry := h
        simp [h]
        refine RetOk.by (fun _ => none) ?_
        simp [results86, e0, e]
      · have e : ¬ a.bal = b.bal := h
        simp [k1, h]
        refine RetOk.by (fun _ => none) ?_
        simp [results86, e0, e, k1]
      · have e : ¬ a.drp = b.drp := h
        simp [k1, k2, h]
        refine RetOk.by (fun _ => none) ?_
        simp [results86, e0, e, k1, k2]
      refine plt_split (a := a.gas) (b := b.gas) (fun h => ?_) (fun h1 h => ?_) (fun h1 h2 h => ?_) (fun h1 h2 h3 h => ?_) (fun h1 h2 h3 h4 h => ?_) (fun h1 h2 h3 h4 h5 => ?_)
      · have e : ¬ a.gas = b.gas := fun he => h (by rw [he])
        simp [k1, k2, k3, h]
        refine RetOk.by (fun _ => none) ?_
        simp [results86, e0, e, k1, k2, k3]
      · have e : ¬ a.gas = b.gas := fun he => by rw [he] at h; simp at h
        simp [k1, k2, k3, h1, h]
        refine RetOk.by (fun _ => none) ?_
        simp [results86, e0, e, k1, k2, k3]
      · have e : ¬ a.gas = b.gas := fun he => by rw [he] at h; simp at h
        simp [k1, k2, k3, h1, h2, h]
        refine RetOk.by (fun _ => none) ?_
        simp [results86, e0, e, k1, k2, k3]
      · have e : ¬ a.gas = b.gas := fun he => by rw [he] at h; simp at h
        simp [k1, k2, k3, h1, h2, h3, h]
        refine RetOk.by (fun _ => none) ?_
        simp [results86, e0, e, k1, k2, k3]
      · have e : ¬ a.gas = b.gas := fun he => by rw [he] at h; simp at h
        simp [k1, k2, k3, h1, h2, h3, h4, h]
        refine RetOk.by (fun _ => none) ?_
        simp [results86, e0, e, k1, k2, k3]
      · have e : (a.gas = b.gas) = (a.gas.cs = b.gas.cs) := by
          rw [eq_iff_iff]
          exact ⟨fun he => by rw [he], fun h0 => plt_eq h0 h1 h2 h3 h4 h5⟩
        simp [k1, k2, k3, h1, h2, h3, h4, h5]
        refine ACall.mk _ _ _ (cE) (by first | (simp; done) | simp [Bor_ls, Bor1_ls]) (by simp) (by first | (left; simp; done) | (right; simp; done)) ?_
        simp
        refine RetOk.by (fun _ => none) ?_
        simp [results86, e0, e, k1, k2, k3]
theorem first52 (x y : Bool) : (if (if x then 0 else 52 : Int) = 0 then (if y then 0 else 52 : Int) else (if x then 0 else 52)) = if x && y then 0 else 52 := by cases x <;> cases y <;> rfl
theorem fn30 (a b : Shp) (ha : a.gas.cs.length ≤ 1000000) (hb : b.gas.cs.length ≤ 1000000) : Ct prog 30 [shpV a (.d (cellsD a.gas.cs)), shpV b (.d (cellsD b.gas.cs))] (.tup [vb (hldA a b).1, vi (hldA a b).2]) [] := by
  have c1 := fn36 a (by omega)
  have c2 := fn36 b (by omega)
  have c3 := fn69 (if okShp a then 0 else 52) (if okShp b then 0 else 52)
  rw [first52] at c3
  obtain ⟨x, hx⟩ : ∃ x : Int, (if okShp a then 0 else 52) = x := ⟨_, rfl⟩
  obtain ⟨y, hy⟩ : ∃ y : Int, (if okShp b then 0 else 52) = y := ⟨_, rfl⟩
  rw [hx] at c1; rw [hy] at c2; rw [hx, hy] at c3
  cases hab : okShp a && okShp b
  · have e : hldA a b = (false, 52) := by unfold hldA; rw [hab]; rfl
    rw [hab] at c3
    rw [e]
    refine Ct.by gok eok mixed func30 c30 rfl (by simp [ntmps30]) (by simp) (by simp [ResIds]) fun E hE => ?_
    simp [p30, inC, Nat.testBit]
    refine ACall.mk _ _ _ (c1) (by first | (simp; done) | simp [Bor_ls, Bor1_ls]) (by simp) (by first | (left; simp; done) | (right; simp; done)) ?_
    simp [inC, Nat.testBit]
    refine ACall.mk _ _ _ (c2) (by first | (simp; done) | simp [Bor_ls, Bor1_ls]) (by simp) (by first | (left; simp; done) | (right; simp; done)) ?_
    simp [splice, repl]
    refine ACall.mk _ _ _ (c3) (by simp [bor_i2]) (by simp) (by first | (left; simp; done) | (right; simp; done)) ?_
    simp
    refine RetOk.by (fun _ => none) ?_
    simp [results30]
  · have e : hldA a b = (hldS a b, 0) := by unfold hldA; rw [hab]; rfl
    simp only [Bool.and_eq_true] at hab
    have c4 := fn86 a b hab.1 hab.2
    rw [hab.1, hab.2] at c3
    rw [e]
    refine Ct.by gok eok mixed func30 c30 rfl (by simp [ntmps30]) (by simp) (by simp [ResIds]) fun E hE => ?_
    simp [p30, inC, Nat.testBit]
    refine ACall.mk _ _ _ (c1) (by first | (simp; done) | simp [Bor_ls, Bor1_ls]) (by simp) (by first | (left; simp; done) | (right; simp; done)) ?_
    simp [inC, Nat.testBit]
    refine ACall.mk _ _ _ (c2) (by first | (simp; done) | simp [Bor_ls, Bor1_ls]) (by simp) (by first | (left; simp; done) | (right; simp; done)) ?_
    simp [splice, repl]
    refine ACall.mk _ _ _ (c3) (by simp [bor_i2]) (by simp) (by first | (left; simp; done) | (right; simp; done)) ?_
    simp
    refine ACall.mk _ _ _ (c4) (by first | (simp; done) | simp [Bor_ls, Bor1_ls]) (by simp) (by first | (left; simp; done) | (right; simp; done)) ?_
    simp
    refine RetOk.by (fun _ => none) ?_
    simp [results30]
end Go.Proofs.Tryz
namespace Go.Proofs.Tryz
open Go.Psl
open Go.Air
set_option maxRecDepth 20000
set_option maxHeartbeats 8000000
theorem fn33 (k : Sky) (h1 : k.s.length ≤ 1000000) (h2 : k.w.length ≤ 1000000) : Ct prog 33 [skyV k] (vi (if okSky k then 0 else 50)) [] := by
  have c1 := fn71 k h1 h2
  generalize okSky k = b at *
  cases b
  · refine Ct.by gok eok mixed func33 c33 rfl (by simp [ntmps33]) (by simp) (by simp [ResIds]) fun E hE => ?_
    simp [p33]
    refine ACall.mk _ _ _ (c1) (by first | (simp; done) | simp [Bor_ls, Bor1_ls]) (by simp) (by first | (left; simp; done) | (right; simp; done)) ?_
    simp
    refine RetOk.by (fun _ => none) ?_
    simp [results33]
  · refine Ct.by gok eok mixed func33 c33 rfl (by simp [ntmps33]) (by simp) (by simp [ResIds]) fun E hE => ?_
    simp [p33]
    refine ACall.mk _ _ _ (c1) (by first | (simp; done) | simp [Bor_ls, Bor1_ls]) (by simp) (by first | (left; simp; done) | (right; simp; done)) ?_
    simp
    refine RetOk.by (fun _ => none) ?_
    simp [results33]
theorem fn37 (s : Shp) (h : s.gas.cs.length ≤ 1000000) : Ct prog 37 [shpV s (.d (cellsD s.gas.cs))] (vi (if okShp s then 0 else 52)) [] := by
  have c1 := fn72 s h
  generalize okShp s = b at *
  cases b
  · refine Ct.by gok eok mixed func37 c37 rfl (by simp [ntmps37]) (by simp) (by simp [ResIds]) fun E hE => ?_
    simp [p37]
    refine ACall.mk _ _ _ (c1) (by first | (simp; done) | simp [Bor_ls, Bor1_ls]) (by simp) (by first | (left; simp; done) | (right; simp; done)) ?_
    simp
    refine RetOk.by (fun _ => none) ?_
    simp [results37]
  · refine Ct.by gok eok mixed func37 c37 rfl (by simp [ntmps37]) (by simp) (by simp [ResIds]) fun E hE => ?_
    simp [p37]
    refine ACall.mk _ _ _ (c1) (by first | (simp; done) | simp [Bor_ls, Bor1_ls]) (by simp) (by first | (left; simp; done) | (right; simp; done)) ?_
    simp
    refine RetOk.by (fun _ => none) ?_
    simp [results37]
def grSky (k : Sky) : Bool := decide (24 < k.s.length) || decide (24 < k.w.length)
def grA (k : Sky) (r : Rig) (s : Shp) (l : List Leg) : Bool := grSky k || decide (80 < r.reg.length) || decide (20 < s.gas.cs.length) || grL l
theorem grA_no {k : Sky} {r : Rig} {s : Shp} {l : List Leg} (h : grA k r s l = false) : (k.s.length ≤ 24 ∧ k.w.length ≤ 24) ∧ r.reg.length ≤ 80 ∧ s.gas.cs.length ≤ 20 ∧ l.length ≤ 30 ∧ ∀ x ∈ l, x.acts.length ≤ 20 := by
  unfold grA grSky at h
  rw [grL_eq] at h
  simp only [Bool.or_eq_false_iff, decide_eq_false_iff_not, List.any_eq_false, decide_eq_true_eq] at h
  obtain ⟨⟨⟨⟨h1, h2⟩, h3⟩, h4⟩, ⟨h5, h6⟩, _⟩ := h
  exact ⟨⟨by omega, by omega⟩, by omega, by omega, by omega, fun x hx => by have := h6 x hx; omega⟩
theorem fn29 (k : Sky) (r : Rig) (s : Shp) (l : List Leg) : Ct prog 29 [skyV k, rigV r, shpV s (.d (cellsD s.gas.cs)), .d (legsD l)] (vb (grA k r s l)) [] := by
  have c1 := fn18 k
  have c2 := fn84 r
  have c3 := fn19 s
  have c4 := fn85 l
  have e : grA k r s l = ((decide (24 < k.s.length) || decide (24 < k.w.length)) || decide (80 < r.reg.length) || decide (20 < s.gas.cs.length) || grL l) := rfl
  rw [e]
  generalize (decide (24 < k.s.length) || decide (24 < k.w.length)) = b1 at *
  generalize decide (80 < r.reg.length) = b2 at *
  generalize decide (20 < s.gas.cs.length) = b3 at *
  generalize grL l = b4 at *
  cases b1
  · cases b2
    · cases b3
      · refine Ct.by gok eok mixed func29 c29 rfl (by simp [ntmps29]) (by simp) (by simp [ResIds]) fun E hE => ?_
        simp [p29]
        repeat ((first | (refine ACall.mk _ _ _ (c1) ?_ ?_ ?_ ?_; (focus (simp; done)); (focus (simp; done)); (focus (first | (left; simp; done) | (right; simp; done)))) | (refine ACall.mk _ _ _ (c2) ?_ ?_ ?_ ?_; (focus (simp; done)); (focus (simp; done)); (focus (first | (left; simp; done) | (right; simp; done)))) | (refine ACall.mk _ _ _ (c3) ?_ ?_ ?_ ?_; (focus (simp; done)); (focus (simp; done)); (focus (first | (left; simp; done) | (right; simp; done)))) | (refine ACall.mk _ _ _ (c4) ?_ ?_ ?_ ?_; (focus (simp; done)); (focus (simp; done)); (focus (first | (left; simp; done) | (right; simp; done))))); simp)
        refine RetOk.by (fun _ => none) ?_
        simp [results29]
      · refine Ct.by gok eok mixed func29 c29 rfl (by simp [ntmps29]) (by simp) (by simp [ResIds]) fun E hE => ?_
        simp [p29]
        repeat ((first | (refine ACall.mk _ _ _ (c1) ?_ ?_ ?_ ?_; (focus (simp; done)); (focus (simp; done)); (focus (first | (left; simp; done) | (right; simp; done)))) | (refine ACall.mk _ _ _ (c2) ?_ ?_ ?_ ?_; (focus (simp; done)); (focus (simp; done)); (focus (first | (left; simp; done) | (right; simp; done)))) | (refine ACall.mk _ _ _ (c3) ?_ ?_ ?_ ?_; (focus (simp; done)); (focus (simp; done)); (focus (first | (left; simp; done) | (right; simp; done)))) | (refine ACall.mk _ _ _ (c4) ?_ ?_ ?_ ?_; (focus (simp; done)); (focus (simp; done)); (focus (first | (left; simp; done) | (right; simp; done))))); simp)
        refine RetOk.by (fun _ => none) ?_
        simp [results29]
    · refine Ct.by gok eok mixed func29 c29 rfl (by simp [ntmps29]) (by simp) (by simp [ResIds]) fun E hE => ?_
      simp [p29]
      repeat ((first | (refine ACall.mk _ _ _ (c1) ?_ ?_ ?_ ?_; (focus (simp; done)); (focus (simp; done)); (focus (first | (left; simp; done) | (right; simp; done)))) | (refine ACall.mk _ _ _ (c2) ?_ ?_ ?_ ?_; (focus (simp; done)); (focus (simp; done)); (focus (first | (left; simp; done) | (right; simp; done)))) | (refine ACall.mk _ _ _ (c3) ?_ ?_ ?_ ?_; (focus (simp; done)); (focus (simp; done)); (focus (first | (left; simp; done) | (right; simp; done)))) | (refine ACall.mk _ _ _ (c4) ?_ ?_ ?_ ?_; (focus (simp; done)); (focus (simp; done)); (focus (first | (left; simp; done) | (right; simp; done))))); simp)
      refine RetOk.by (fun _ => none) ?_
      simp [results29]
  · refine Ct.by gok eok mixed func29 c29 rfl (by simp [ntmps29]) (by simp) (by simp [ResIds]) fun E hE => ?_
    simp [p29]
    repeat ((first | (refine ACall.mk _ _ _ (c1) ?_ ?_ ?_ ?_; (focus (simp; done)); (focus (simp; done)); (focus (first | (left; simp; done) | (right; simp; done)))) | (refine ACall.mk _ _ _ (c2) ?_ ?_ ?_ ?_; (focus (simp; done)); (focus (simp; done)); (focus (first | (left; simp; done) | (right; simp; done)))) | (refine ACall.mk _ _ _ (c3) ?_ ?_ ?_ ?_; (focus (simp; done)); (focus (simp; done)); (focus (first | (left; simp; done) | (right; simp; done)))) | (refine ACall.mk _ _ _ (c4) ?_ ?_ ?_ ?_; (focus (simp; done)); (focus (simp; done)); (focus (first | (left; simp; done) | (right; simp; done))))); simp)
    refine RetOk.by (fun _ => none) ?_
    simp [results29]
theorem fn4 (hS : SortOk) (k : Sky) (r : Rig) (s t : Shp) (l : List Leg) : Ct prog 4 [skyV k, rigV r, shpV s (.d (cellsD s.gas.cs)), shpV t (.d (cellsD t.gas.cs)), .d (legsD l)] (vb true) [] := by
  have d1 := fn29 k r s l
  cases hg : grA k r s l
  case true =>
    rw [hg] at d1
    refine Ct.by gok eok mixed func4 c4 rfl (by simp [ntmps4]) (by simp) (by simp [ResIds]) fun E hE => ?_
    simp [p4]
    refine ACall.mk _ _ _ (d1) (by first | (simp; done) | simp [Bor_ls, Bor1_ls]) (by simp) (by first | (left; simp; done) | (right; simp; done)) ?_
    simp
    refine RetOk.by (fun _ => none) ?_
    simp [results4]
  rw [hg] at d1
  obtain ⟨⟨g1, g2⟩, g3, g4, g5, g6⟩ := grA_no hg
  have d2 := fn19 t
  cases ht : decide (20 < t.gas.cs.length)
  case true =>
    rw [ht] at d2
    refine Ct.by gok eok mixed func4 c4 rfl (by simp [ntmps4]) (by simp) (by simp [ResIds]) fun E hE => ?_
    simp [p4]
    refine ACall.mk _ _ _ (d1) (by first | (simp; done) | simp [Bor_ls, Bor1_ls]) (by simp) (by first | (left; simp; done) | (right; simp; done)) ?_
    simp
    refine ACall.mk _ _ _ (d2) (by first | (simp; done) | simp [Bor_ls, Bor1_ls]) (by simp) (by first | (left; simp; done) | (right; simp; done)) ?_
    simp
    refine RetOk.by (fun _ => none) ?_
    simp [results4]
  rw [ht] at d2
  simp only [decide_eq_false_iff_not] at ht
  have d3 := fn30 s t (by omega) (by omega)
  have d4 := fn31 s t (by omega) (by omega)
  have d5 := fn32 k (by omega) (by omega)
  have d6 := fn33 k (by omega) (by omega)
  have d7 := fn34 hS r (by omega)
  have d8 := fn35 r (by omega)
  have d9 := fn36 s (by omega)
  have dA := fn37 s (by omega)
  have dB := fn38 l (by omega) fun x hx => by have := g6 x hx; omega
  have dC := fn39 l (by omega) fun x hx => by have := g6 x hx; omega
  generalize (if okSky k then 0 else 50 : Int) = e1 at *
  generalize (if okRig r then 0 else 51 : Int) = e2 at *
  generalize (if okShp s then 0 else 52 : Int) = e3 at *
  generalize chkL l = e4 at *
  generalize hldA s t = hh at *
  refine Ct.by gok eok mixed func4 c4 rfl (by simp [ntmps4]) (by simp) (by simp [ResIds]) fun E hE => ?_
  simp [p4]
  refine ACall.mk _ _ _ (d1) (by first | (simp; done) | simp [Bor_ls, Bor1_ls]) (by simp) (by first | (left; simp; done) | (right; simp; done)) ?_
  simp
  refine ACall.mk _ _ _ (d2) (by first | (simp; done) | simp [Bor_ls, Bor1_ls]) (by simp) (by first | (left; simp; done) | (right; simp; done)) ?_
  simp
  refine ACall.mk _ _ _ (d3) (by first | (simp; done) | simp [Bor_ls, Bor1_ls]) (by simp) (by first | (left; simp; done) | (right; simp; done)) ?_
  simp
  refine ACall.mk _ _ _ (d4) (by first | (simp; done) | simp [Bor_ls, Bor1_ls]) (by simp) (by first | (left; simp; done) | (right; simp; done)) ?_
  simp [inC, Nat.testBit]
  refine ACall.mk _ _ _ (d5) (by first | (simp; done) | simp [Bor_ls, Bor1_ls]) (by simp) (by first | (left; simp; done) | (right; simp; done)) ?_
  simp [inC, Nat.testBit]
  refine ACall.mk _ _ _ (d6) (by first | (simp; done) | simp [Bor_ls, Bor1_ls]) (by simp) (by first | (left; simp; done) | (right; simp; done)) ?_
  simp [inC, Nat.testBit]
  refine ACall.mk _ _ _ (d7) (by first | (simp; done) | simp [Bor_ls, Bor1_ls]) (by simp) (by first | (left; simp; done) | (right; simp; done)) ?_
  simp [inC, Nat.testBit]
  refine ACall.mk _ _ _ (d8) (by first | (simp; done) | simp [Bor_ls, Bor1_ls]) (by simp) (by first | (left; simp; done) | (right; simp; done)) ?_
  simp [inC, Nat.testBit]
  refine ACall.mk _ _ _ (d9) (by first | (simp; done) | simp [Bor_ls, Bor1_ls]) (by simp) (by first | (left; simp; done) | (right; simp; done)) ?_
  simp [inC, Nat.testBit]
  refine ACall.mk _ _ _ (dA) (by first | (simp; done) | simp [Bor_ls, Bor1_ls]) (by simp) (by first | (left; simp; done) | (right; simp; done)) ?_
  simp
  refine ACall.mk _ _ _ (dB) (by first | (simp; done) | simp [Bor_ls, Bor1_ls]) (by simp) (by first | (left; simp; done) | (right; simp; done)) ?_
  simp
  refine ACall.mk _ _ _ (dC) (by first | (simp; done) | simp [Bor_ls, Bor1_ls]) (by simp) (by first | (left; simp; done) | (right; simp; done)) ?_
  simp
  refine RetOk.by (fun _ => none) ?_
  simp [results4]
end Go.Proofs.Tryz
namespace Go.Psl
open Go.Shelf Go.RowKit Go.Lib Go.Sort
variable {P : Program} {ρ : Ren} {α : Type} [Inhabited α]
theorem grow_of {W W' : World} (hos : W'.os = W.os) (hta : W'.tape = W.tape) (hou : W'.output = W.output) (hdr : W.drawn ≤ W'.drawn) (hsz : W.heap.size ≤ W'.heap.size) (hb : ∀ b, b < W.heap.size → W'.heap[b]? = W.heap[b]?) :
    ∃ q os', W' = grow (W.drewN q) os' := by
  refine ⟨W'.drawn - W.drawn, W'.heap.extract W.heap.size W'.heap.size, ?_⟩
  obtain ⟨h, t, d, o, u⟩ := W
  obtain ⟨h', t', d', o', u'⟩ := W'
  simp only at hos hta hou hdr hsz hb
  subst hos hta hou
  simp only [grow, World.drewN]
  congr 1
  · apply Array.ext_getElem?
    intro i
    by_cases hi : i < h.size
    · rw [Array.getElem?_append_left hi, hb i hi]
    · rw [Array.getElem?_append_right (by omega), Array.getElem?_extract]
      split
      · congr 1; omega
      · rw [Array.getElem?_eq_none (by omega)]
  · omega
theorem flat_at {enc : α → List Value} {k : Nat} (h0 : 0 < k) (hk : ∀ x, (enc x).length = k) (l : List α) (j : Nat) (hj : j < l.length * k) : (l.flatMap enc)[j]? = some (flatK enc k l.toArray)[j]! := by
  rw [get_flatK _ _ _ _ (by simpa using hj), List.flatMap_def, flatten_get h0 _ (fun e he => by obtain ⟨x, _, rfl⟩ := List.mem_map.1 he; exact hk x)]
  have h1 : j / k < l.length := by rw [Nat.div_lt_iff_lt_mul h0]; exact hj
  have hm : j % k < k := Nat.mod_lt _ h0
  rw [List.getElem?_map, List.getElem?_eq_getElem h1]
  simp only [Option.map_some, Option.bind_some]
  have e1 : l.toArray[j / k]! = l[j / k] := by rw [getElem!_pos _ _ (by simpa using h1)]; simp
  rw [e1, List.getElem?_eq_getElem (by rw [hk]; exact hm), getElem!_pos _ _ (by rw [hk]; exact hm)]
omit [Inhabited α] in
theorem flat_len {enc : α → List Value} {k : Nat} (hk : ∀ x, (enc x).length = k) (l : List α) : (l.flatMap enc).length = l.length * k := by
  rw [List.flatMap_def, flatten_len (sz := k) _ (fun e he => by obtain ⟨x, _, rfl⟩ := List.mem_map.1 he; exact hk x), List.length_map]
theorem cV_rel {G : Gh} {W : World} {vs : List Value} (h : ∀ v ∈ vs, flatV v = true) : All2 (R1 G W) (vs.map cV) vs := by
  induction vs with
  | nil => trivial
  | cons v vs ih => exact ⟨RD.lit v (h v (by simp)), ih fun x hx => h x (by simp [hx])⟩
theorem cmpLays_of {g : Nat} {enc : α → List Value} {k : Nat} {cf : α → α → Int} (hflat : ∀ x, ∀ v ∈ enc x, flatV v = true) (hcmp : ∀ x y, Ct P g [.agg ((enc x).map cV), .agg ((enc y).map cV)] (.d (.lit (.int .i64 (cf x y)))) []) (blk off size : Nat) (w : World) : Go.Proofs.CmpLays P g #[] enc k cf blk off size w := by
  intro m os dk _ x y
  refine ((hcmp x y).2 ⟨fun _ => 0, fun _ => 0, fun _ => true, fun _ => true, fun _ => False⟩ _ #[.agg (enc x).toArray, .agg (enc y).toArray] (fun _ h => h.elim) ⟨⟨_, rfl, cV_rel (hflat x)⟩, ⟨_, rfl, cV_rel (hflat y)⟩, trivial⟩ ⟨nofun, fun i _ h => by simp [InH] at h, nofun⟩).mono fun e W' ⟨G', hp⟩ => ?_
  refine ⟨?_, grow_of hp.os hp.tape hp.output hp.drawn hp.size fun b hb => hp.block b hb fun ⟨_, h, _⟩ => by simp [InH] at h⟩
  cases e with
  | returned v => rw [rv_int hp.rv]
  | _ => exact hp.rv.elim
theorem sortFunc_cm (L : Go.Proofs.SlLaysF0.n6 P ρ) (hf : isFn P (ρ.f 6)) (k : Nat) (h0 : 0 < k) (aE : ∀ w, (isAgg (ρ.t 24)).run P w = .ok true w) (zE : ∀ w, (Go.sizeOf (ρ.t 24)).run P w = .ok k w) (enc : α → List Value) (hk : ∀ x, (enc x).length = k) (hflat : ∀ x, ∀ v ∈ enc x, flatV v = true) (cf : α → α → Int) (hO : SWO (Go.Proofs.ltOf cf)) (hT : ∀ x y, (Go.Proofs.ltOf cf) x y = false → (Go.Proofs.ltOf cf) y x = false → x = y)
    (g : Nat) (eg : ∀ args w, (callFunc g args).run P w = .ok (.enter g args) w) (hcmp : ∀ x y, Ct P g [.agg ((enc x).map cV), .agg ((enc y).map cV)] (.d (.lit (.int .i64 (cf x y)))) []) (l : List α) (hl0 : 0 < l.length) (hsz : l.length < 4611686018427387904) :
    Cm P (ρ.f 6) [.ls 0 0 l.length k, .d (.fn g [])] (lk [(0, (l.flatMap enc).map cV)]) [0] (.ret (.tup [])) (lk [(0, ((l.mergeSort fun x y => !(Go.Proofs.ltOf cf) y x).flatMap enc).map cV)]) := by
  refine ⟨hf, fun G W xs hGW hargs hpre => ?_⟩
  obtain ⟨v1, v2, rfl⟩ : ∃ v1 v2, xs = #[v1, v2] := by
    have := hargs.length
    obtain ⟨xs⟩ := xs
    match xs, this with
    | [a, b], _ => exact ⟨a, b, rfl⟩
    | [], h => simp at h
    | [_], h => simp at h
    | _ :: _ :: _ :: _, h => simp at h
  obtain ⟨h1, h2, _⟩ := hargs
  obtain ⟨hIn, hph⟩ := hpre.st 0 (by simp)
  obtain ⟨hml, ⟨_, h, _⟩ | ⟨hphl, o, cap, rfl, hcap, ho⟩⟩ := h1
  · omega
  obtain ⟨rfl, hbs0⟩ := ho (by omega)
  obtain ⟨cv, rfl, hcv⟩ : ∃ cv, v2 = .func (.func g) #[] cv ∧ cv.size = 0 := by
    cases h2 with
    | fn _ _ cv hl _ => exact ⟨cv, rfl, hl⟩
  obtain rfl : cv = #[] := Array.eq_empty_of_size_eq_zero hcv
  have hHB := hpre.hb 0 _ rfl
  obtain ⟨hnim, c, T, hb, hbs, hcl, hcr, hca⟩ := hHB.read hphl
  have hblk : G.β 0 < W.heap.size := (Array.getElem?_eq_some_iff.1 hb).1
  have hfl := flat_len hk l
  rw [List.length_map, hfl] at hcl hcr
  have hcell : ∀ j, j < l.length * k → c[j]? = some (flatK enc k l.toArray)[j]! := fun j hj => by
    have h3 := flat_at h0 hk l j hj
    have h4 : ((l.flatMap enc).map cV)[j]? = some (cV (flatK enc k l.toArray)[j]!) := by rw [List.getElem?_map, h3]; rfl
    obtain ⟨x, hx, hr⟩ := hcr.get h4
    rw [List.getElem?_take, if_pos hj, Array.getElem?_toList] at hx
    rw [hx, rv_lit hr.r2.rv]
  have hH : HoldsK enc k W (G.β 0) 0 l.toArray := fun j hj => by
    have hj' : j < l.length * k := by simpa using hj
    refine ⟨?_, ?_⟩
    · unfold World.cell?
      simp only [Nat.zero_add, hb, Option.isSome_none, Bool.false_eq_true, if_false]
      exact hcell j hj'
    · unfold World.frozen?
      simp [hb]
  have h1c : ∀ x, ∀ v ∈ enc x, v.oneCell' = true := fun x v hv => RD.oneCell (Im := fun _ => True) (W := W) (RD.lit v (hflat x v hv))
  have key := Go.Proofs.AnyQ.slices_SortFunc_total L k aE zE enc hk h1c cf hO g #[] (G.β 0) 0 cap l.toArray W eg (cmpLays_of hflat hcmp _ _ _ _) hH hblk (by simpa using hsz) hT
  have hperm : (l.mergeSort fun x y => !(Go.Proofs.ltOf cf) y x).length = l.length := List.length_mergeSort _
  generalize (l.mergeSort fun x y => !(Go.Proofs.ltOf cf) y x) = l' at key hperm ⊢
  have key' : Calls P (ρ.f 6) #[.slice (some ⟨G.β 0, 0, none⟩) l.length cap, .func (.func g) #[] #[]] W fun e w' => e = .returned (.tuple #[]) ∧ ∃ n os, w' = Go.Proofs.sortWorldK enc k W (G.β 0) 0 n l'.toArray os := by simpa using key
  refine key'.mono fun e W' ⟨he, n, os, hW'⟩ => ?_
  subst he
  have hlent : ∀ b, lentB G (lk [(0, (l.flatMap enc).map cV)]) b → b = G.β 0 := fun b ⟨i, hi, _, hbi⟩ => by
    have : i = 0 := by simp only [InH, lk] at hi; split at hi; assumption; cases hi
    rw [← hbi, this]
  have hlent0 : lentB G (lk [(0, (l.flatMap enc).map cV)]) (G.β 0) := ⟨0, hIn, hph, rfl⟩
  have hheap : ∀ b, b < W.heap.size → W'.heap[b]? = if b = G.β 0 then some (.cells (putCells id 0 (flatK enc k l'.toArray) c) T (0, 0)) else W.heap[b]? := fun b hlt => by
    rw [hW']
    show ((putRow id (Sort.ahead W n) (G.β 0) 0 (flatK enc k l'.toArray)).heap ++ os)[b]? = _
    rw [Array.getElem?_append_left (by simpa using hlt)]
    show (W.heap.modify (G.β 0) _)[b]? = _
    rw [Array.getElem?_modify]
    by_cases e : b = G.β 0
    · subst e
      simp [hb, onCells]
    · rw [if_neg (fun h => e h.symm), if_neg e]
  have hsz' : W.heap.size ≤ W'.heap.size := by rw [hW']; exact Go.Proofs.size_sortWorldK_c enc k W (G.β 0) 0 n l'.toArray os
  refine ⟨G, ⟨by rw [hW']; rfl, by rw [hW']; rfl, by rw [hW']; rfl, by rw [hW']; exact Nat.le_add_right _ _, hsz', fun b hlt hn => ?_, fun b hb => ⟨Nat.lt_of_lt_of_le (hGW b hb) hsz', .inl hb⟩, fun _ h => h, ⟨#[], rfl, trivial⟩, fun _ h => (by cases h), fun i cs hi => ?_, fun i j hi hj _ _ _ => ?_, fun i hi _ => ⟨rfl, rfl, (hpre.st i hi).2, rfl⟩⟩⟩
  · rw [hheap b hlt, if_neg (fun e : b = G.β 0 => hn (by rw [e]; exact hlent0))]
  · have hi0 : i = 0 ∧ cs = (l'.flatMap enc).map cV := by
      simp only [lk] at hi
      split at hi
      · rename_i e; cases hi; exact ⟨e, rfl⟩
      · cases hi
    obtain ⟨rfl, rfl⟩ := hi0
    have hfl' := flat_len hk l'
    refine ⟨.inr (.inl ⟨hphl.1, hphl.2, hnim, _, T, by rw [hheap _ hblk, if_pos rfl], by simp [putCells, hbs], by simp [putCells, hfl', hperm]; exact hcl, ?_, ?_⟩), fun _ => .inr hlent0, fun x hx => ?_⟩
    · refine All2.of_get ?_ fun j x y hx hy => ?_
      · simp [putCells, hfl', hperm]; omega
      · have hj : j < l'.length * k := by
          have := (List.getElem?_eq_some_iff.1 hx).1
          simpa [hfl'] using this
        rw [List.getElem?_map, flat_at h0 hk l' j hj] at hx
        cases hx
        rw [List.getElem?_take, List.length_map, hfl', if_pos hj, Array.getElem?_toList] at hy
        have hjc : j < c.size := by rw [hperm] at hj; omega
        simp only [putCells, Array.getElem?_mapIdx, Array.getElem?_eq_getElem hjc, Option.map_some, Nat.zero_le, true_and, Nat.zero_add, size_flatK, List.size_toArray, hj, if_true, Option.some.injEq, Nat.sub_zero, id] at hy
        subst hy
        have hm := flat_at h0 hk l' j hj
        have hmem := List.mem_of_getElem? hm
        obtain ⟨a, _, ha⟩ := List.mem_flatMap.1 hmem
        exact RD.lit _ (hflat a _ ha)
    · simp only [List.all_map, List.all_eq_true]
      intro v _; rfl
    · obtain ⟨v, _, rfl⟩ := List.mem_map.1 hx
      trivial
  · have e1 : i = 0 := by simp only [InH, lk] at hi; split at hi; assumption; cases hi
    have e2 : j = 0 := by simp only [InH, lk] at hj; split at hj; assumption; cases hj
    rw [e1, e2]
end Go.Psl
namespace Go.Proofs
def Tryz.sortL_ren : Go.Shelf.Ren := ⟨fun | 6 => 221 | 15 => 270 | 14 => 269 | 28 => 300 | 29 => 301 | 20 => 292 | 21 => 293 | 22 => 294 | 23 => 295 | 24 => 296 | 25 => 297 | 26 => 298 | 27 => 299 | 46 => 312 | 47 => 313 | 48 => 314 | 49 => 315 | 50 => 316 | 57 => 318 | n => n, fun | 22 => 55 | 24 => 122 | 25 => 275 | 3 => 3 | 39 => 222 | 0 => 0 | 53 => 339 | 55 => 341 | 4 => 4 | 46 => 333 | 45 => 332 | 50 => 266 | 5 => 5 | 9 => 9 | 66 => 348 | 70 => 352 | 76 => 356 | 77 => 50 | n => n, fun | n => n⟩
theorem Tryz.sortL : Go.Proofs.SlLaysF0.n6 Tryz.prog Tryz.sortL_ren := {
  mixed := by kernel_rfl,
  f6 := ⟨Tryz.f221.name, by decide, Tryz.func221.trans (congrArg some (by kernel_rfl))⟩,
  f14 := ⟨Tryz.f269.name, by decide, Tryz.func269.trans (congrArg some (by kernel_rfl))⟩,
  f15 := Tryz.func270.trans (congrArg some (by kernel_rfl)),
  f20 := ⟨Tryz.f292.name, by decide, Tryz.func292.trans (congrArg some (by kernel_rfl))⟩,
  f21 := ⟨Tryz.f293.name, by decide, Tryz.func293.trans (congrArg some (by kernel_rfl))⟩,
  f22 := ⟨Tryz.f294.name, by decide, Tryz.func294.trans (congrArg some (by kernel_rfl))⟩,
  f23 := ⟨Tryz.f295.name, by decide, Tryz.func295.trans (congrArg some (by kernel_rfl))⟩,
  f24 := ⟨Tryz.f296.name, by decide, Tryz.func296.trans (congrArg some (by kernel_rfl))⟩,
  f25 := ⟨Tryz.f297.name, by decide, Tryz.func297.trans (congrArg some (by kernel_rfl))⟩,
  f26 := ⟨Tryz.f298.name, by decide, Tryz.func298.trans (congrArg some (by kernel_rfl))⟩,
  f27 := ⟨Tryz.f299.name, by decide, Tryz.func299.trans (congrArg some (by kernel_rfl))⟩,
  f28 := Tryz.func300.trans (congrArg some (by kernel_rfl)),
  f29 := Tryz.func301.trans (congrArg some (by kernel_rfl)),
  f46 := ⟨Tryz.f312.name, by decide, Tryz.func312.trans (congrArg some (by kernel_rfl))⟩,
  f47 := Tryz.func313.trans (congrArg some (by kernel_rfl)),
  f48 := Tryz.func314.trans (congrArg some (by kernel_rfl)),
  f49 := ⟨Tryz.f315.name, by decide, Tryz.func315.trans (congrArg some (by kernel_rfl))⟩,
  f50 := ⟨Tryz.f316.name, by decide, Tryz.func316.trans (congrArg some (by kernel_rfl))⟩,
  f57 := ⟨Tryz.f318.name, by decide, Tryz.func318.trans (congrArg some (by kernel_rfl))⟩,
  t0 := Tryz.underlying0,
  a0 := Tryz.isAgg0,
  z0 := Tryz.sizeOf0,
  v0 := Tryz.zeroValue0,
  t3 := Tryz.underlying3,
  a3 := Tryz.isAgg3,
  z3 := Tryz.sizeOf3,
  v3 := Tryz.zeroValue3,
  t4 := Tryz.underlying4,
  a4 := Tryz.isAgg4,
  z4 := Tryz.sizeOf4,
  v4 := Tryz.zeroValue4,
  t5 := Tryz.underlying5,
  a5 := Tryz.isAgg5,
  z5 := Tryz.sizeOf5,
  v5 := Tryz.zeroValue5,
  t9 := Tryz.underlying9,
  a9 := Tryz.isAgg9,
  z9 := Tryz.sizeOf9,
  v9 := Tryz.zeroValue9,
  t22 := Tryz.underlying55,
  a22 := Tryz.isAgg55,
  z22 := Tryz.sizeOf55,
  v22 := Tryz.zeroValue55,
  t25 := Tryz.underlying275,
  a25 := Tryz.isAgg275,
  z25 := Tryz.sizeOf275,
  v25 := Tryz.zeroValue275,
  t39 := Tryz.underlying222,
  a39 := Tryz.isAgg222,
  z39 := Tryz.sizeOf222,
  v39 := Tryz.zeroValue222,
  t45 := Tryz.underlying332,
  a45 := Tryz.isAgg332,
  z45 := Tryz.sizeOf332,
  v45 := Tryz.zeroValue332,
  t46 := Tryz.underlying333,
  a46 := Tryz.isAgg333,
  z46 := Tryz.sizeOf333,
  v46 := Tryz.zeroValue333,
  t50 := Tryz.underlying266,
  a50 := Tryz.isAgg266,
  z50 := Tryz.sizeOf266,
  v50 := Tryz.zeroValue266,
  t53 := Tryz.underlying339,
  a53 := Tryz.isAgg339,
  z53 := Tryz.sizeOf339,
  v53 := Tryz.zeroValue339,
  t55 := Tryz.underlying341,
  a55 := Tryz.isAgg341,
  z55 := Tryz.sizeOf341,
  v55 := Tryz.zeroValue341,
  t66 := Tryz.underlying348,
  a66 := Tryz.isAgg348,
  z66 := Tryz.sizeOf348,
  v66 := Tryz.zeroValue348,
  t70 := Tryz.underlying352,
  a70 := Tryz.isAgg352,
  z70 := Tryz.sizeOf352,
  v70 := Tryz.zeroValue352,
  t76 := Tryz.underlying356,
  a76 := Tryz.isAgg356,
  z76 := Tryz.sizeOf356,
  v76 := Tryz.zeroValue356,
  t77 := Tryz.underlying50,
  a77 := Tryz.isAgg50,
  z77 := Tryz.sizeOf50,
  v77 := Tryz.zeroValue50 }
end Go.Proofs
namespace Go.Proofs.Tryz
open Go.Psl
def encC (p : Int × Int) : List Value := [.int .i64 p.1, .int .i64 p.2]
theorem enc_cells (l : List (Int × Int)) : (l.flatMap encC).map cV = cellsI l := by
  induction l with
  | nil => rfl
  | cons a l ih =>
    rw [List.flatMap_cons, List.map_append, ih]
    rfl
theorem ltOf_order (x y : Int × Int) : Go.Proofs.ltOf orderS x y = true ↔ Go.Geo.lt x y := by
  unfold Go.Proofs.ltOf; rw [decide_eq_true_eq, order_lt]
theorem ltOf_order' (x y : Int × Int) : Go.Proofs.ltOf orderS x y = false ↔ ¬ Go.Geo.lt x y := by
  rw [← ltOf_order]; simp
theorem swo_order : Go.Sort.SWO (Go.Proofs.ltOf orderS) where
  irrefl x := by rw [ltOf_order']; exact Go.Geo.lt_irr x
  trans x y z h1 h2 := by rw [ltOf_order] at *; exact Go.Geo.lt_trans h1 h2
  ntrans x y z h1 h2 := by rw [ltOf_order'] at *; unfold Go.Geo.lt at *; omega
theorem sortOk : SortOk := fun l h1 h2 => by
  have hcmp : ∀ x y : Int × Int, Ct prog 222 [.agg ((encC x).map cV), .agg ((encC y).map cV)] (.d (.lit (.int .i64 (orderS x y)))) [] := fun x y => fn222 x y
  have h := sortFunc_cm Tryz.sortL ⟨_, func221, by kernel_rfl, by decide⟩ 2 (by omega) Tryz.isAgg122 Tryz.sizeOf122 encC (fun _ => rfl) (fun x v hv => by simp [encC] at hv; rcases hv with rfl | rfl <;> rfl) orderS swo_order
    (fun x y a b => by
      rw [ltOf_order'] at a b
      rcases Go.Geo.lt_tri x y with h | h | h
      · exact absurd h a
      · exact h
      · exact absurd h b) 222 (Go.Proofs.enters_of func222 (by kernel_rfl) rfl) hcmp l h1 (by omega)
  rw [enc_cells, enc_cells] at h
  exact h
end Go.Proofs.Tryz
