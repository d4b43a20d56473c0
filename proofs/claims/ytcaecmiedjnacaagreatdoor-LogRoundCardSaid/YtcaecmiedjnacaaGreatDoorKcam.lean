/- Own lemmas, used by the last text. Conditions: those that each theorem states. -/
import Derived.Test.YtcaecmiedjnacaaGreatDoorKcal
set_option maxRecDepth 200000
set_option maxHeartbeats 8000000
namespace Go.Log
theorem dm_text {l : Lg} (h : okLg l = true) : ∀ i, i <= l.es.length -> dmAt (linesOf (textS l)) (i + 1) = ([], chkS (hdC l) (l.es.take i)) := by
 obtain ⟨h1, h2, h3⟩ := ok_all h
 have hc := hdC_bd l
 intro i
 induction i with
 | zero =>
   intro _
   have hp : (linesOf (textS l))[0]? = some (lineS (headS l.s l.es.length) (hdC l)) := by rw [lines_text h]; rfl
   rw [dmAt_succ hp]
   have e0 : dmAt (linesOf (textS l)) 0 = ([], 0) := rfl
   rw [e0]
   simp only [dmStep]
   rw [open_lineS _ hc.1 hc.2]
   simp only
   have e1 : sumS (headS l.s l.es.length) 0 = hdC l := rfl
   rw [if_pos e1]
   rfl
 | succ i ih =>
   intro hi
   obtain ⟨x, hx⟩ : ∃ x, l.es[i]? = some x := ⟨_, List.getElem?_eq_getElem (by omega)⟩
   have hb := chkS_bd (l.es.take i) (hdC l) hc.1 hc.2
   have hs := sumS_lt (bodyS x) _ hb.1 hb.2
   have hp : (linesOf (textS l))[i + 1]? = some (lineS (bodyS x) (sumS (bodyS x) (chkS (hdC l) (l.es.take i)))) := by
     rw [lines_text h, List.getElem?_cons_succ, lnsL_at hx]
   rw [dmAt_succ hp, ih (by omega)]
   simp only [dmStep]
   rw [open_lineS _ hs.1 hs.2]
   simp only
   rw [if_pos trivial, chkS_take hx]
theorem dmg_text {l : Lg} (h : okLg l = true) : (dmAt (linesOf (textS l)) (linesOf (textS l)).length).1 = [] := by
 have e : (linesOf (textS l)).length = l.es.length + 1 := by rw [lines_text h]; simp [lnsL_len]
 rw [e, dm_text h _ (Nat.le_refl _)]
theorem body_len2 {x : Etr} (h : entS x = true) : (bodyS x).length <= 190 := by
 have hw := ent_word h
 have ht := ent_time h
 have ha := ent_arg h
 have hn : x.n.length <= 40 := by
   simp only [entS, Bool.and_eq_true] at h
   have hn := h.2
   simp only [noteS, Bool.or_eq_true, Bool.and_eq_true, decide_eq_true_eq] at hn
   rcases hn with hn | hn
   . rw [hn]; simp
   . simp only [madeS, betw, Bool.and_eq_true, decide_eq_true_eq] at hn; omega
 have hal : x.a.length <= 6 := by
   simp only [entS, Bool.and_eq_true, decide_eq_true_eq] at h
   exact h.1.1.2
 have hwl : x.w.length <= 11 := by
   simp only [wordS, madeS, betw, Bool.and_eq_true, decide_eq_true_eq] at hw; omega
 have h1 := numS_len x.t (by omega) (by omega)
 have h2 : (Go.Lib.joinTail [32] (x.w :: x.a.map numS)).length <= (x.w :: x.a.map numS).length * ([32].length + 11) := joinTail_len [32] 11 _ fun y hy => by
   rcases List.mem_cons.1 hy with rfl | hy
   . exact hwl
   . obtain ⟨n, hn, rfl⟩ := List.mem_map.1 hy
     have := ha n hn
     exact numS_len n (by omega) (by omega)
 simp only [List.length_cons, List.length_map, List.length_nil] at h2
 rw [body_parts]
 unfold wordsS
 rw [Go.Lib.join_cons, List.length_append, List.length_append]
 split
 . simp only [List.length_nil]; omega
 . simp only [List.length_append, List.length_cons, List.length_nil]; omega
theorem letS_len (c : Int) : (letS c).length = 2 := rfl
theorem lines_len2 : ∀ (es : List Etr) (c : Int), (∀ x ∈ es, entS x = true) -> (linesS c es).length <= es.length * 194
 | [], _, _ => by simp [linesS]
 | x :: r, c, h => by
   have h1 := body_len2 (h x (by simp))
   have ih := lines_len2 r (sumS (bodyS x) c) fun y hy => h y (by simp [hy])
   simp only [linesS, lineS, List.length_append, letS_len, List.length_cons, List.length_nil]
   omega
theorem text_len {l : Lg} (h : okLg l = true) : (textS l).length <= 40000 := by
 obtain ⟨h1, h2, h3⟩ := ok_all h
 have h4 := lines_len2 l.es (sumS (headS l.s l.es.length) 0) (ordS_ents h3)
 have h7 : (headS l.s l.es.length).length = l.s.length + 5 + (numS l.es.length).length := by simp [headS]; omega
 have h5 := numS_len l.es.length (by omega) (by omega)
 have h6 : l.s.length <= 8 := by simp only [shipS, madeS, betw, Bool.and_eq_true, decide_eq_true_eq] at h1; omega
 simp only [textS, lineS, List.length_append, letS_len, List.length_cons, List.length_nil]
 omega
theorem step_err {i : Nat} {st : Rst} {l : By} {fed : Bool} {e : Int} (h : rdStep i st l fed = .error e) : e = 91 \/ e = 92 \/ e = 93 := by
 unfold rdStep at h
 split at h
 . cases h; exact .inr (.inr rfl)
 . split at h
   . cases h; exact .inl rfl
   . split at h
     . cases h; exact .inl rfl
     . split at h
       . cases h
       . cases h; exact .inr (.inl rfl)
theorem read_err {t : By} (h : (readS t).2.2 ≠ 0) : (readS t).1 = ⟨[], []⟩ /\ 0 <= (readS t).2.1 /\ ((readS t).2.2 = 91 \/ (readS t).2.2 = 92 \/ (readS t).2.2 = 93) := by
 unfold readS rdFin at h ⊢
 rcases rd_cases (fedsOf t) with ⟨st, h1, _⟩ | ⟨j, p, st, e, _, _, h3, h4, _⟩
 . rw [h1] at h ⊢
   simp only at h ⊢
   split
   . exact ⟨rfl, by decide, .inl rfl⟩
   . rename_i hn
     rw [if_neg hn] at h
     split
     . exact ⟨rfl, by show (0 : Int) <= ((fedsOf t).length : Int); omega, .inr (.inr rfl)⟩
     . rename_i hq
       rw [if_neg hq] at h
       exact absurd rfl h
 . rw [h4] at h ⊢
   exact ⟨rfl, by show (0 : Int) <= (j : Int); omega, step_err h3⟩
theorem chkS_snoc : ∀ (es : List Etr) (c : Int) (x : Etr), chkS c (es ++ [x]) = sumS (bodyS x) (chkS c es)
 | [], _, _ => rfl
 | y :: r, c, x => by simp only [List.cons_append, chkS]; exact chkS_snoc r _ x
theorem linesS_snoc : ∀ (es : List Etr) (c : Int) (x : Etr), linesS c (es ++ [x]) = linesS c es ++ lineS (bodyS x) (sumS (bodyS x) (chkS c es))
 | [], _, _ => by simp [linesS, chkS]
 | y :: r, c, x => by simp only [List.cons_append, linesS, chkS]; rw [linesS_snoc r _ x, List.append_assoc]
def backS (st : Rst) : By := lineS (headS st.s st.n) (sumS (headS st.s st.n) 0) ++ linesS (sumS (headS st.s st.n) 0) st.es
theorem step_some {i : Nat} {st st' : Rst} {l : By} {fed : Bool} (h : rdStep i st l fed = .ok st') : (i : Int) <= st.n /\ fed = true /\ ∃ b, openS l = some (b, st'.c) /\ rdBody i st b = some st' := by
 unfold rdStep at h
 split at h
 . cases h
 . rename_i hn
   split at h
   . cases h
   . rename_i b c ho
     split at h
     . cases h
     . rename_i st2 hb
       split at h
       . rename_i hc
         cases h
         split at ho
         . rename_i hf
           exact ⟨by omega, hf, b, by rw [ho, hc], hb⟩
         . cases ho
       . cases h
theorem back_of {t : By} : ∀ {i : Nat} {st : Rst}, i < (linesOf t).length -> rdAt (fedsOf t) (i + 1) = .ok st ->
   ((linesOf t).take (i + 1)).flatten = backS st /\ st.c = chkS (sumS (headS st.s st.n) 0) st.es /\ (0 < i -> (i : Int) <= st.n)
 | i, st, hi, h => by
   obtain ⟨l, hl⟩ := Go.Psl.gE hi
   have hp : (fedsOf t)[i]? = some (chopS l, fedS l) := by unfold fedsOf; rw [List.getElem?_map, hl]; rfl
   have htk : ((linesOf t).take (i + 1)).flatten = ((linesOf t).take i).flatten ++ l := by rw [List.take_add_one, hl]; simp
   cases i with
   | zero =>
     rw [rdAt_succ (i := 0) rfl hp] at h
     split at h
     . cases h
     . rename_i st' hs
       cases h
       obtain ⟨_, hf, b, ho, hb⟩ := step_some hs
       have hline := line_of hf ho
       unfold rdBody at hb
       rw [if_pos rfl] at hb
       cases hh : hdP b with
       | none => rw [hh] at hb; cases hb
       | some p =>
         obtain ⟨s, n⟩ := p
         rw [hh] at hb
         cases hb
         obtain ⟨_, _, _, h4⟩ := hdP_some hh
         refine ⟨?_, ?_, fun h => absurd h (by omega)⟩
         . rw [htk, hline]
           simp only [backS, rd0, linesS, h4, List.take_zero, List.flatten_nil, List.nil_append, List.append_nil]
         . simp only [rd0, chkS, h4]
   | succ i =>
     cases hq : rdAt (fedsOf t) (i + 1) with
     | error e => rw [rdAt, hq] at h; cases h
     | ok st0 =>
       obtain ⟨ih1, ih2, _⟩ := back_of (i := i) (by omega) hq
       rw [rdAt_succ hq hp] at h
       split at h
       . cases h
       . rename_i st' hs
         cases h
         obtain ⟨hn, hf, b, ho, hb⟩ := step_some hs
         have hline := line_of hf ho
         unfold rdBody at hb
         rw [if_neg (by omega)] at hb
         cases hh : etP b (lastE st0.es) with
         | none => rw [hh] at hb; cases hb
         | some x =>
           rw [hh] at hb
           cases hb
           obtain ⟨_, _, h4⟩ := etP_some hh
           refine ⟨?_, ?_, fun _ => hn⟩
           . rw [htk, ih1, hline]
             simp only [backS]
             rw [linesS_snoc, h4, ih2, List.append_assoc]
           . simp only
             rw [chkS_snoc, h4, ih2]
theorem read_back {t : By} (h : (readS t).2.2 = 0) : (readS t).2.1 = 0 /\ okLg (readS t).1 = true /\ textS (readS t).1 = t := by
 unfold readS rdFin at h ⊢
 rcases rd_cases (fedsOf t) with ⟨st, h1, _⟩ | ⟨j, p, st, e, _, _, h3, h4, _⟩
 . rw [h1] at h ⊢
   simp only at h ⊢
   split
   . rename_i hn; rw [if_pos hn] at h; exact absurd h (by decide)
   . rename_i hn
     rw [if_neg hn] at h
     split
     . rename_i hq; rw [if_pos hq] at h; exact absurd (show (93 : Int) = 0 from h) (by decide)
     . rename_i hq
       have hlen : (fedsOf t).length = (linesOf t).length := by simp [fedsOf]
       obtain ⟨n, hnl⟩ : ∃ n, (fedsOf t).length = n + 1 := ⟨(fedsOf t).length - 1, by
         have : (fedsOf t).length ≠ 0 := fun e => hn (List.length_eq_zero_iff.1 e)
         omega⟩
       have hok := rdAt_ok (Nat.le_refl _) h1
       rw [hnl] at h1 hok hq
       obtain ⟨b1, b2, b3⟩ := back_of (by omega) h1
       have hel : st.es.length = n := by have := hok.len; omega
       have hne : st.n = st.es.length := by
         rw [hel]
         by_cases h0 : 0 < n
         . have := b3 h0; omega
         . have := hok.n0; omega
       refine ⟨rfl, ?_, ?_⟩
       . have h2 := hok.s (by omega)
         have h5 := hok.n1
         have h6 : st.es.length <= 200 := by omega
         simp [okLg, h2, h6, hok.es]
       . have e1 : ((linesOf t).take (n + 1)).flatten = t := by rw [List.take_of_length_le (by omega), linesOf_flat]
         rw [<- e1, b1]
         simp only [backS, textS, hne]
 . rw [h4] at h
   simp only at h
   rcases step_err h3 with h5 | h5 | h5 <;> omega
end Go.Log
namespace Go.Proofs.Tryz
open Go.Psl
open Go.Log
theorem okLg_sized {l : Lg} (h : okLg l = true) : SizedL l := by
 obtain ⟨h1, h2, h3⟩ := ok_all h
 refine ⟨?_, by omega, fun x hx => ?_⟩
 . simp only [shipS, madeS, betw, Bool.and_eq_true, decide_eq_true_eq] at h1; omega
 . have he := ordS_ents h3 x hx
   have hb := body_len2 he
   have hw := ent_word he
   simp only [wordS, madeS, betw, Bool.and_eq_true, decide_eq_true_eq] at hw
   simp only [entS, Bool.and_eq_true, decide_eq_true_eq] at he
   have hn := he.2
   simp only [noteS, madeS, betw, Bool.or_eq_true, Bool.and_eq_true, decide_eq_true_eq] at hn
   have : x.n.length <= 40 := by
     rcases hn with hn | hn
     . rw [hn]; simp
     . omega
   exact ⟨by omega, by omega, by omega⟩
theorem dmg_ok {l : Lg} (h : okLg l = true) : Ct prog 13 [vS (textS l)] (.tup [.d (.lit (.slice none 0 0)), vi 0]) [] := by
 have := fn13 (textS l) (text_len h)
 rw [show dmgS (textS l) = [] from dmg_text h] at this
 exact this
theorem rd_text_ok {l : Lg} (h : okLg l = true) : Ct prog 11 [vS (textS l)] (.tup [logV l, vi 0, vi 0]) [] := by
 have := fn11 (textS l) (text_len h)
 rw [read_text h] at this
 exact this
theorem fn5 (l : Lg) (t : By) : Ct prog 5 [logV l, vS t] (vb true) [] := by
 have g := fn26 l
 by_cases hg : grL l = true
 . rw [hg] at g
   refine CB func5 c5 fun E hE => ?_
   simp [p5]
   refine CLa fn25 ?_
   simp
   refine CLa g ?_
   simp
   apply RZ
   simp [results5]
 simp only [Bool.not_eq_true] at hg
 rw [hg] at g
 have hs := grL_sized hg
 by_cases ht : 4000 < t.length
 . have ht' : (4000 : Int) < t.length := by omega
   refine CB func5 c5 fun E hE => ?_
   simp [p5]
   refine CLa fn25 ?_
   simp
   refine CLa g ?_
   simp [ht']
   apply RZ
   simp [results5]
 have ht' : ¬ (4000 : Int) < t.length := by omega
 have d : Ct prog 11 [vS t] (.tup [logV (readS t).1, vi (readS t).2.1, vi (readS t).2.2]) [] := fn11 t (by omega)
 have ck := fn28 l hs
 by_cases hr : (readS t).2.2 = 0
 . obtain ⟨r1, r2, r3⟩ := read_back hr
   rw [r1, hr] at d
   generalize (readS t).1 = m at d r2 r3
   have w := fn27ok m (okLg_sized r2) r2
   have cm := fn28 m (okLg_sized r2)
   rw [r3] at w
   rw [r2, if_pos rfl] at cm
   cases ho : okLg l with
   | true =>
     have w0 := fn27ok l hs ho
     refine CB func5 c5 fun E hE => ?_
     simp [p5]
     refine CLa fn25 ?_
     simp
     refine CLa g ?_
     simp [ht']
     refine CLa w0 ?_
     simp
     refine CLa (rd_text_ok ho) ?_
     simp [splice]
     refine CLa (dmg_ok ho) ?_
     simp
     refine CLa (fn15 l hs) ?_
     simp
     refine CLa d ?_
     simp [splice]
     refine CLa w ?_
     simp
     refine CLa cm ?_
     simp
     apply RZ
     simp [results5]
   | false =>
     have w0 := fn27no l hs ho
     rw [ho, if_neg (by decide)] at ck
     refine CB func5 c5 fun E hE => ?_
     simp [p5]
     refine CLa fn25 ?_
     simp
     refine CLa g ?_
     simp [ht']
     refine CLa w0 ?_
     simp
     refine CLa ck ?_
     simp
     refine CLa d ?_
     simp [splice]
     refine CLa w ?_
     simp
     refine CLa cm ?_
     simp
     apply RZ
     simp [results5]
 . obtain ⟨r1, r2, r3⟩ := read_err hr
   rw [r1] at d
   have sm := fn15 ⟨[], []⟩ ⟨by simp, by simp, fun x hx => by cases hx⟩
   generalize (readS t).2.1 = n at d r2
   generalize (readS t).2.2 = e at d hr r3
   cases ho : okLg l with
   | true =>
     have w0 := fn27ok l hs ho
     rcases r3 with rfl | rfl | rfl
     all_goals
       refine CB func5 c5 fun E hE => ?_
       simp [p5]
       refine CLa fn25 ?_
       simp
       refine CLa g ?_
       simp [ht']
       refine CLa w0 ?_
       simp
       refine CLa (rd_text_ok ho) ?_
       simp [splice]
       refine CLa (dmg_ok ho) ?_
       simp
       refine CLa (fn15 l hs) ?_
       simp
       refine CLa d ?_
       simp [splice, r2]
       refine CLa sm ?_
       simp
       apply RZ
       simp [results5]
   | false =>
     have w0 := fn27no l hs ho
     rw [ho, if_neg (by decide)] at ck
     rcases r3 with rfl | rfl | rfl
     all_goals
       refine CB func5 c5 fun E hE => ?_
       simp [p5]
       refine CLa fn25 ?_
       simp
       refine CLa g ?_
       simp [ht']
       refine CLa w0 ?_
       simp
       refine CLa ck ?_
       simp
       refine CLa d ?_
       simp [splice, r2]
       refine CLa sm ?_
       simp
       apply RZ
       simp [results5]
end Go.Proofs.Tryz
