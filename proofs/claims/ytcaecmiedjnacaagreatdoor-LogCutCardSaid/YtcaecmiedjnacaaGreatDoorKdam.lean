/- Own lemmas, used by the last text. Conditions: those that each theorem states. -/
import Derived.Test.YtcaecmiedjnacaaGreatDoorKdal
set_option maxRecDepth 200000
set_option maxHeartbeats 8000000
namespace Go.Log
theorem body_len2 {x : Etr} (h : entS x = true) : (bodyS x).length <= 190 := by
 have hw := ent_word h
 have ht := ent_time h
 have ha := ent_arg h
 have hn : x.n.length <= 40 := by
   simp only [entS, Bool.and_eq_true] at h
   have hn := h.2
   simp only [noteS, Bool.or_eq_true, Bool.and_eq_true, decide_eq_true_eq] at hn
   rcases hn with hn | hn
   . rw [hn]; simp
   . simp only [madeS, betw, Bool.and_eq_true, decide_eq_true_eq] at hn; omega
 have hal : x.a.length <= 6 := by
   simp only [entS, Bool.and_eq_true, decide_eq_true_eq] at h
   exact h.1.1.2
 have hwl : x.w.length <= 11 := by
   simp only [wordS, madeS, betw, Bool.and_eq_true, decide_eq_true_eq] at hw; omega
 have h1 := numS_len x.t (by omega) (by omega)
 have h2 : (Go.Lib.joinTail [32] (x.w :: x.a.map numS)).length <= (x.w :: x.a.map numS).length * ([32].length + 11) := joinTail_len [32] 11 _ fun y hy => by
   rcases List.mem_cons.1 hy with rfl | hy
   . exact hwl
   . obtain ⟨n, hn, rfl⟩ := List.mem_map.1 hy
     have := ha n hn
     exact numS_len n (by omega) (by omega)
 simp only [List.length_cons, List.length_map, List.length_nil] at h2
 rw [body_parts]
 unfold wordsS
 rw [Go.Lib.join_cons, List.length_append, List.length_append]
 split
 . simp only [List.length_nil]; omega
 . simp only [List.length_append, List.length_cons, List.length_nil]; omega
theorem letS_len (c : Int) : (letS c).length = 2 := rfl
theorem lines_len2 : ∀ (es : List Etr) (c : Int), (∀ x ∈ es, entS x = true) -> (linesS c es).length <= es.length * 194
 | [], _, _ => by simp [linesS]
 | x :: r, c, h => by
   have h1 := body_len2 (h x (by simp))
   have ih := lines_len2 r (sumS (bodyS x) c) fun y hy => h y (by simp [hy])
   simp only [linesS, lineS, List.length_append, letS_len, List.length_cons, List.length_nil]
   omega
theorem linesOf_more : ∀ {s more : By}, s.getLast? = some 10 -> linesOf (s ++ more) = linesOf s ++ linesOf more
 | [], _, h => by cases h
 | [a], more, h => by
   simp at h
   subst h
   simp [linesOf]
 | a :: b :: r, more, h => by
   have h2 : (b :: r).getLast? = some 10 := by simpa using h
   have ih := linesOf_more (s := b :: r) (more := more) h2
   rw [List.cons_append, linesOf_cons, linesOf_cons a (b :: r), ih]
   split
   . rfl
   . cases hl : linesOf (b :: r) with
     | nil => rw [linesOf_fir (by simp)] at hl; cases hl
     | cons x xs => rfl
theorem rdAt_pre {a b : List (By × Bool)} : ∀ {i : Nat}, i <= a.length -> rdAt (a ++ b) i = rdAt a i
 | 0, _ => rfl
 | i + 1, h => by
   rw [rdAt, rdAt, rdAt_pre (i := i) (by omega), List.getElem?_append_left (by omega)]
theorem text_last {l : Lg} (h : okLg l = true) : (textS l).getLast? = some 10 := by
 have e := linesOf_flat (textS l)
 rw [lines_text h] at e
 have hl : ∀ (c : Int) (es : List Etr) (b : By) (k : Int), (lineS b k :: lnsL c es).flatten.getLast? = some 10 := by
   intro c es
   induction es generalizing c with
   | nil => intro b k; simp [lnsL, lineS, letS]
   | cons x r ih =>
     intro b k
     simp only [lnsL, List.flatten_cons]
     rw [List.getLast?_append]
     have := ih (sumS (bodyS x) c) (bodyS x) (sumS (bodyS x) c)
     simp only [List.flatten_cons] at this
     rw [this]; rfl
 rw [<- e]
 exact hl _ _ _ _
theorem rdAt_err {ls : List (By × Bool)} {j : Nat} {e : Int × Int} (h : rdAt ls j = .error e) : ∀ k, rdAt ls (j + k) = .error e
 | 0 => h
 | k + 1 => by rw [<- Nat.add_assoc, rdAt, rdAt_err h k]
theorem read_more {l : Lg} (h : okLg l = true) {more : By} (hm : more ≠ []) : (readS (textS l ++ more)).2.1 = (l.es.length : Int) + 1 /\ (readS (textS l ++ more)).2.2 = 93 := by
 have e : fedsOf (textS l ++ more) = fedsOf (textS l) ++ fedsOf more := by
   unfold fedsOf
   rw [linesOf_more (text_last h), List.map_append]
 have h1 := feds_len h
 have h2 := rd_text h l.es.length (Nat.le_refl _)
 obtain ⟨p, q, hq⟩ : ∃ p q, fedsOf more = p :: q := by
   unfold fedsOf
   rw [linesOf_fir hm]
   exact ⟨_, _, rfl⟩
 have h3 : rdAt (fedsOf (textS l ++ more)) (l.es.length + 1) = rdAt (fedsOf (textS l)) (l.es.length + 1) := by
   rw [e]; exact rdAt_pre (by omega)
 have h4 : (fedsOf (textS l ++ more))[l.es.length + 1]? = some p := by
   rw [e, List.getElem?_append_right (by omega), h1, hq]; simp
 have h5 := rdAt_succ (h3.trans h2) h4
 simp only [rdStep] at h5
 rw [if_pos (by omega)] at h5
 simp only at h5
 have hlen : (fedsOf (textS l ++ more)).length = (l.es.length + 1 + 1) + q.length := by
   rw [e, List.length_append, h1, hq, List.length_cons]; omega
 have h6 := rdAt_err h5 q.length
 unfold readS rdFin
 rw [hlen, h6]
 exact ⟨by simp, rfl⟩
def txP (l : Lg) (i : Nat) : By := lineS (headS l.s l.es.length) (hdC l) ++ linesS (hdC l) (l.es.take i)
theorem lnsL_take : ∀ (es : List Etr) (c : Int) (i : Nat), lnsL c (es.take i) = (lnsL c es).take i
 | [], _, i => by simp [lnsL]
 | x :: r, c, 0 => rfl
 | x :: r, c, i + 1 => by simp only [List.take_succ_cons, lnsL]; rw [lnsL_take r _ i]
theorem lines_txP {l : Lg} (h : okLg l = true) (i : Nat) : linesOf (txP l i) = (linesOf (textS l)).take (i + 1) := by
 obtain ⟨h1, h2, h3⟩ := ok_all h
 have hc := hdC_bd l
 have h4 := lineS_no (c := hdC l) (head_no h1 l.es.length) hc.1 hc.2
 rw [lines_text h, List.take_succ_cons]
 show linesOf (headS l.s l.es.length ++ [32] ++ letS (hdC l) ++ [10] ++ linesS (hdC l) (l.es.take i)) = _
 rw [linesOf_line h4, lines_lns _ _ hc.1 hc.2 (fun x hx => ordS_ents h3 x (List.mem_of_mem_take hx)), lnsL_take]
 rfl
theorem feds_txP {l : Lg} (h : okLg l = true) (i : Nat) : fedsOf (txP l i) = (fedsOf (textS l)).take (i + 1) := by
 unfold fedsOf
 rw [lines_txP h, List.map_take]
theorem rd_txP {l : Lg} (h : okLg l = true) {i : Nat} (hi : i <= l.es.length) : rdAt (fedsOf (txP l i)) (i + 1) = rdAt (fedsOf (textS l)) (i + 1) := by
 have h1 := feds_len h
 have e : fedsOf (textS l) = fedsOf (txP l i) ++ (fedsOf (textS l)).drop (i + 1) := by rw [feds_txP h, List.take_append_drop]
 have h2 : (fedsOf (txP l i)).length = i + 1 := by rw [feds_txP h, List.length_take]; omega
 conv => rhs; rw [e]
 exact (rdAt_pre (by omega)).symm
theorem read_less {l : Lg} (h : okLg l = true) {j : Nat} (hj : l.es.length = j + 1) : (readS (txP l j)).2.1 = (l.es.length : Int) /\ (readS (txP l j)).2.2 = 93 := by
 have h1 := feds_len h
 have h2 := rd_txP h (i := j) (by omega)
 rw [rd_text h j (by omega)] at h2
 have h3 : (fedsOf (txP l j)).length = j + 1 := by rw [feds_txP h, List.length_take]; omega
 unfold readS rdFin
 rw [h3, h2]
 simp only
 rw [if_neg (by intro e; rw [e] at h3; cases h3), if_pos (by omega)]
 exact ⟨by simp [hj], rfl⟩
theorem read_none : (readS []).2.1 = 0 /\ (readS []).2.2 = 91 := by decide +kernel
theorem linesOf_one : ∀ {x : By}, x ≠ [] -> noB 10 x -> linesOf x = [x]
 | [], h, _ => absurd rfl h
 | [a], _, h => by
   have := h a (by simp)
   simp [linesOf, this]
 | a :: b :: r, _, h => by
   have ha := h a (by simp)
   have ih := linesOf_one (x := b :: r) (by simp) fun z hz => h z (by simp [hz])
   rw [linesOf_cons, if_neg ha, ih]
theorem fed_no {x : By} (h : noB 10 x) : fedS x = false := by
 simp only [fedS, decide_eq_false_iff_not]
 intro e
 exact h 10 (List.mem_of_getLast? e) rfl
theorem read_short {A x : By} {n : Nat} {st : Rst} (hA : A = [] \/ A.getLast? = some 10) (hx : x ≠ []) (hn : noB 10 x) (hl : (fedsOf A).length = n) (hr : rdAt (fedsOf A) n = .ok st) (hs : (n : Int) <= st.n \/ n = 0) : (readS (A ++ x)).2.1 = (n : Int) /\ (readS (A ++ x)).2.2 = 91 := by
 have e : fedsOf (A ++ x) = fedsOf A ++ [(chopS x, false)] := by
   have : linesOf (A ++ x) = linesOf A ++ [x] := by
     rcases hA with rfl | hA
     . simp [linesOf, linesOf_one hx hn]
     . rw [linesOf_more hA, linesOf_one hx hn]
   unfold fedsOf
   rw [this, List.map_append]
   simp [fed_no hn]
 have h3 : rdAt (fedsOf (A ++ x)) n = .ok st := by rw [e, rdAt_pre (by omega)]; exact hr
 have h4 : (fedsOf (A ++ x))[n]? = some (chopS x, false) := by rw [e, List.getElem?_append_right (by omega), hl]; simp
 have h0 : ¬ st.n < (n : Int) := by
   rcases hs with hs | hs
   . omega
   . subst hs
     have : st = rd0 := by
       cases hr; rfl
     rw [this]; decide
 have h5 := rdAt_succ h3 h4
 simp only [rdStep] at h5
 rw [if_neg h0] at h5
 simp only [Bool.false_eq_true, if_false] at h5
 have h6 : (fedsOf (A ++ x)).length = n + 1 := by rw [e, List.length_append, hl]; rfl
 unfold readS rdFin
 rw [h6, h5]
 exact ⟨rfl, rfl⟩
theorem text_len2 {l : Lg} (h : okLg l = true) : (textS l).length <= 39000 := by
 obtain ⟨h1, h2, h3⟩ := ok_all h
 have h4 := lines_len2 l.es (sumS (headS l.s l.es.length) 0) (ordS_ents h3)
 have h7 : (headS l.s l.es.length).length = l.s.length + 5 + (numS l.es.length).length := by simp [headS]; omega
 have h5 := numS_len l.es.length (by omega) (by omega)
 have h6 : l.s.length <= 8 := by simp only [shipS, madeS, betw, Bool.and_eq_true, decide_eq_true_eq] at h1; omega
 simp only [textS, lineS, List.length_append, letS_len, List.length_cons, List.length_nil]
 omega
structure Cut (l : Lg) (A X : By) : Prop where
 e : textS l = A ++ (X ++ [10])
 a : A = [] \/ A.getLast? = some 10
 x : X ≠ []
 n : noB 10 X
 k : (readS A).2.1 = (l.es.length : Int)
 f : (readS A).2.2 = 93 \/ l.es.length = 0 /\ (readS A).2.2 = 91
 s : (readS (A ++ X)).2.1 = (l.es.length : Int) /\ (readS (A ++ X)).2.2 = 91
theorem txP_last {l : Lg} (_ : okLg l = true) (i : Nat) : (txP l i).getLast? = some 10 := by
 have hl : ∀ (c : Int) (es : List Etr) (b : By) (k : Int), (lineS b k ++ linesS c es).getLast? = some 10 := by
   intro c es
   induction es generalizing c with
   | nil => intro b k; simp [linesS, lineS, letS]
   | cons x r ih =>
     intro b k
     rw [List.getLast?_append]
     have := ih (sumS (bodyS x) c) (bodyS x) (sumS (bodyS x) c)
     show Option.or ((lineS (bodyS x) (sumS (bodyS x) c) ++ linesS (sumS (bodyS x) c) r).getLast?) _ = _
     rw [this]; rfl
 exact hl _ _ _ _
theorem cut_ex {l : Lg} (h : okLg l = true) : ∃ A X, Cut l A X := by
 obtain ⟨h1, h2, h3⟩ := ok_all h
 have hc := hdC_bd l
 by_cases h0 : l.es.length = 0
 . have he : l.es = [] := List.length_eq_zero_iff.1 h0
   have hn := lineS_no (c := hdC l) (head_no h1 l.es.length) hc.1 hc.2
   refine ⟨[], headS l.s l.es.length ++ [32] ++ letS (hdC l), ?_, .inl rfl, by simp, hn, ?_, ?_, ?_⟩
   . show lineS (headS l.s l.es.length) (hdC l) ++ linesS (hdC l) l.es = _
     rw [he]; simp [lineS, linesS]
   . rw [read_none.1]; omega
   . exact .inr ⟨h0, read_none.2⟩
   . have := read_short (A := []) (n := 0) (st := rd0) (.inl rfl) (x := headS l.s l.es.length ++ [32] ++ letS (hdC l)) (by simp) hn rfl rfl (.inr rfl)
     refine ⟨?_, this.2⟩
     rw [this.1]; omega
 . obtain ⟨j, hj⟩ : ∃ j, l.es.length = j + 1 := ⟨l.es.length - 1, by omega⟩
   obtain ⟨x, hx⟩ : ∃ x, l.es[j]? = some x := ⟨_, List.getElem?_eq_getElem (by omega)⟩
   have hb := chkS_bd (l.es.take j) (hdC l) hc.1 hc.2
   have hs := sumS_lt (bodyS x) _ hb.1 hb.2
   have hxe := ordS_ents h3 x (List.mem_of_getElem? hx)
   have hn := lineS_no (c := sumS (bodyS x) (chkS (hdC l) (l.es.take j))) (body_no hxe) hs.1 hs.2
   have hl := read_less h hj
   refine ⟨txP l j, bodyS x ++ [32] ++ letS (sumS (bodyS x) (chkS (hdC l) (l.es.take j))), ?_, .inr (txP_last h j), by simp, hn, hl.1, .inl hl.2, ?_⟩
   . have e : linesS (hdC l) l.es = linesS (hdC l) (l.es.take (j + 1)) := by rw [<- hj, List.take_length]
     show lineS (headS l.s l.es.length) (hdC l) ++ linesS (hdC l) l.es = _
     rw [e, linesS_take hx]
     simp [txP, lineS]
   . have h3' : (fedsOf (txP l j)).length = j + 1 := by rw [feds_txP h, List.length_take, feds_len h]; omega
     have hr := rd_txP h (i := j) (by omega)
     rw [rd_text h j (by omega)] at hr
     have := read_short (A := txP l j) (n := j + 1) (.inr (txP_last h j)) (x := bodyS x ++ [32] ++ letS (sumS (bodyS x) (chkS (hdC l) (l.es.take j)))) (by simp) hn h3' hr (.inl (by show ((j + 1 : Nat) : Int) <= (l.es.length : Int); omega))
     refine ⟨?_, this.2⟩
     rw [this.1]; omega
end Go.Log
namespace Go.Proofs.Tryz
open Go.Psl
open Go.Log
theorem rd_at (t : By) (h : t.length <= 40000) : Ct prog 11 [vS t] (.tup [logV (readS t).1, vi (readS t).2.1, vi (readS t).2.2]) [] := fn11 t h
theorem fn7 (l : Lg) (m : By) : Ct prog 7 [logV l, vS m] (vb true) [] := by
 have g := fn26 l
 by_cases hg : grL l = true
 . rw [hg] at g
   refine CB func7 c7 fun E hE => ?_
   simp [p7]
   refine CLa fn25 ?_
   simp
   refine CLa g ?_
   simp
   apply RZ
   simp [results7]
 simp only [Bool.not_eq_true] at hg
 rw [hg] at g
 have hs := grL_sized hg
 by_cases ht : 100 < m.length
 . have ht' : (100 : Int) < m.length := by omega
   refine CB func7 c7 fun E hE => ?_
   simp [p7]
   refine CLa fn25 ?_
   simp
   refine CLa g ?_
   simp [ht']
   apply RZ
   simp [results7]
 have ht' : ¬ (100 : Int) < m.length := by omega
 by_cases hm : m = []
 . subst hm
   refine CB func7 c7 fun E hE => ?_
   simp [p7]
   refine CLa fn25 ?_
   simp
   refine CLa g ?_
   simp [bs_beq]
   apply RZ
   simp [results7]
 cases ho : okLg l with
 | false =>
   have w0 := fn27no l hs ho
   refine CB func7 c7 fun E hE => ?_
   simp [p7]
   refine CLa fn25 ?_
   simp
   refine CLa g ?_
   simp [ht', bs_beq, hm]
   refine CLa w0 ?_
   simp
   apply RZ
   simp [results7]
 | true =>
   have w0 := fn27ok l hs ho
   obtain ⟨A, X, c⟩ := cut_ex ho
   have hl2 := text_len2 ho
   have hmo := read_more ho hm
   obtain ⟨S, hS⟩ : ∃ S, S = textS l := ⟨_, rfl⟩
   have hSe : S = A ++ (X ++ [10]) := by rw [hS, c.e]
   rw [<- hS] at w0 hl2 hmo
   have hXp : 0 < X.length := List.length_pos_iff.2 c.x
   have hSl : S.length = A.length + X.length + 1 := by rw [hSe]; simp; omega
   have t1 : S.take A.length = A := by rw [hSe, List.take_left' rfl]
   have t2 : S.take (A.length + X.length) = A ++ X := by rw [hSe, <- List.append_assoc, List.take_left' (by simp)]
   have d1 := rd_at A (by omega)
   have d2 := rd_at (A ++ X) (by simp; omega)
   have d3 := rd_at (S ++ m) (by simp; omega)
   rw [c.k] at d1
   rw [c.s.1, c.s.2] at d2
   rw [hmo.1, hmo.2] at d3
   have hf := c.f
   generalize (readS A).2.2 = f at d1 hf
   generalize (readS A).1 = g1 at d1
   generalize (readS (A ++ X)).1 = g2 at d2
   generalize (readS (S ++ m)).1 = g3 at d3
   have hge : ∀ e, e < X.length -> ∃ b, S[A.length + e]? = some b /\ ¬ (b.toNat : Int) = 10 := fun e he => by
     refine ⟨X[e], ?_, ?_⟩
     . rw [hSe, List.getElem?_append_right (by omega), List.getElem?_append_left (by omega)]
       simp [he]
     . exact u8_ne (c := 10) (c.n _ (List.getElem_mem he))
   have hga : 0 < A.length -> S[A.length - 1]? = some 10 := fun h0 => by
     rcases c.a with ha | ha
     . rw [ha] at h0; cases h0
     . rw [List.getLast?_eq_getElem?] at ha
       rw [hSe, List.getElem?_append_left (by omega), ha]
   have q1 : ¬ (S.length : Int) < 2 := by omega
   have w1 : IntKind.wrap .i64 ((S.length : Int) - 1) = ((A.length + X.length : Nat) : Int) := by rw [wrap64 (by omega) (by omega)]; omega
   have k1 : (A.length : Int) <= S.length := by omega
   have k2 : A.length <= S.length := by omega
   have k3 : ((A.length + X.length : Nat) : Int) <= S.length := by omega
   have k4 : A.length + X.length <= S.length := by omega
   have k5 : S.length + m.length <= 9223372036854775807 := by omega
   have w2 : IntKind.wrap .i64 ((l.es.length : Int) + 1) = (l.es.length : Int) + 1 := wrap64 (by have := (ok_all ho).2.1; omega) (by have := (ok_all ho).2.1; omega)
   obtain ⟨N, hN⟩ : ∃ N, N = A.length + X.length := ⟨_, rfl⟩
   rw [<- hN] at w1 k3 k4 t2
   clear hS hSe hmo
   refine CB func7 c7 fun E hE => ?_
   simp [p7]
   refine CLa fn25 ?_
   simp
   refine CLa g ?_
   simp [ht', bs_beq, hm]
   refine CLa w0 ?_
   simp [q1, w1]
   refine pw_loopC (α := Nat) 0 (fun _ : Unit => ⟨slots [(1, vS m), (2, .lp 0 0), (5, vb true), (6, vS S), (8, vi A.length)], lk [(0, [vS l.s, .d (entsD l.es)])], 1⟩) (fun _ => True) (fun e => ⟨slots [(1, vS m), (2, .lp 0 0), (5, vb true), (6, vS S), (8, vi e)], lk [(0, [vS l.s, .d (entsD l.es)])], 1⟩) (fun e => A.length <= e /\ e <= N) (fun e => e) N ?_ ?_ ?_ fun _ _ => ?_
   . omega
   . exact WK hE (lk [(0, 0)])
   . rintro e ⟨e1, e2⟩
     by_cases he : A.length < e
     . obtain ⟨b, hb, hb2⟩ := hge (e - 1 - A.length) (by omega)
       rw [show A.length + (e - 1 - A.length) = e - 1 by omega] at hb
       have v1 : 0 < e := by omega
       have v2 : IntKind.wrap .i64 ((e : Int) - 1) = ((e - 1 : Nat) : Int) := by rw [wrap64 (by omega) (by omega)]; omega
       simp [p7l0, v1, v2, hb, hb2]
       refine ⟨e - 1, by omega, by omega, ?_⟩
       exact WK hE (lk [(0, 0)])
     . obtain rfl : e = A.length := by omega
       by_cases h0 : 0 < A.length
       . have v2 : IntKind.wrap .i64 ((A.length : Int) - 1) = ((A.length - 1 : Nat) : Int) := by rw [wrap64 (by omega) (by omega)]; omega
         have hb := hga h0
         simp [p7l0, h0, v2, hb, exC_exit]
         exact WK hE (lk [(0, 0)])
       . simp [p7l0, h0, exC_exit]
         exact WK hE (lk [(0, 0)])
   . simp [k1, t1]
     refine CLa d1 ?_
     simp [splice, w1, k3, t2]
     refine CLa d2 ?_
     simp [splice, k5]
     refine CLa d3 ?_
     rcases hf with rfl | ⟨h0, rfl⟩
     . simp [splice, w2]
       apply RZ
       simp [results7]
     . have w3 : IntKind.wrap .i64 1 = 1 := by decide
       simp [splice, h0, w3]
       apply RZ
       simp [results7]
end Go.Proofs.Tryz
