/- Own lemmas, used by the last text. Conditions: those that each theorem states. -/
import Derived.Test.YtcaecmiedjnacaaGreatDoorKfah
import Derived.Test.YtcaecmiedjnacaaGreatDoorKfal
set_option maxRecDepth 200000
set_option maxHeartbeats 8000000
namespace Go.Log
theorem dm_text {l : Lg} (h : okLg l = true) : ∀ i, i <= l.es.length -> dmAt (linesOf (textS l)) (i + 1) = ([], chkS (hdC l) (l.es.take i)) := by
 obtain ⟨h1, h2, h3⟩ := ok_all h
 have hc := hdC_bd l
 intro i
 induction i with
 | zero =>
   intro _
   have hp : (linesOf (textS l))[0]? = some (lineS (headS l.s l.es.length) (hdC l)) := by rw [lines_text h]; rfl
   rw [dmAt_succ hp]
   have e0 : dmAt (linesOf (textS l)) 0 = ([], 0) := rfl
   rw [e0]
   simp only [dmStep]
   rw [open_lineS _ hc.1 hc.2]
   simp only
   have e1 : sumS (headS l.s l.es.length) 0 = hdC l := rfl
   rw [if_pos e1]
   rfl
 | succ i ih =>
   intro hi
   obtain ⟨x, hx⟩ : ∃ x, l.es[i]? = some x := ⟨_, List.getElem?_eq_getElem (by omega)⟩
   have hb := chkS_bd (l.es.take i) (hdC l) hc.1 hc.2
   have hs := sumS_lt (bodyS x) _ hb.1 hb.2
   have hp : (linesOf (textS l))[i + 1]? = some (lineS (bodyS x) (sumS (bodyS x) (chkS (hdC l) (l.es.take i)))) := by
     rw [lines_text h, List.getElem?_cons_succ, lnsL_at hx]
   rw [dmAt_succ hp, ih (by omega)]
   simp only [dmStep]
   rw [open_lineS _ hs.1 hs.2]
   simp only
   rw [if_pos trivial, chkS_take hx]
theorem body_len2 {x : Etr} (h : entS x = true) : (bodyS x).length <= 190 := by
 have hw := ent_word h
 have ht := ent_time h
 have ha := ent_arg h
 have hn : x.n.length <= 40 := by
   simp only [entS, Bool.and_eq_true] at h
   have hn := h.2
   simp only [noteS, Bool.or_eq_true, Bool.and_eq_true, decide_eq_true_eq] at hn
   rcases hn with hn | hn
   . rw [hn]; simp
   . simp only [madeS, betw, Bool.and_eq_true, decide_eq_true_eq] at hn; omega
 have hal : x.a.length <= 6 := by
   simp only [entS, Bool.and_eq_true, decide_eq_true_eq] at h
   exact h.1.1.2
 have hwl : x.w.length <= 11 := by
   simp only [wordS, madeS, betw, Bool.and_eq_true, decide_eq_true_eq] at hw; omega
 have h1 := numS_len x.t (by omega) (by omega)
 have h2 : (Go.Lib.joinTail [32] (x.w :: x.a.map numS)).length <= (x.w :: x.a.map numS).length * ([32].length + 11) := joinTail_len [32] 11 _ fun y hy => by
   rcases List.mem_cons.1 hy with rfl | hy
   . exact hwl
   . obtain ⟨n, hn, rfl⟩ := List.mem_map.1 hy
     have := ha n hn
     exact numS_len n (by omega) (by omega)
 simp only [List.length_cons, List.length_map, List.length_nil] at h2
 rw [body_parts]
 unfold wordsS
 rw [Go.Lib.join_cons, List.length_append, List.length_append]
 split
 . simp only [List.length_nil]; omega
 . simp only [List.length_append, List.length_cons, List.length_nil]; omega
theorem letS_len (c : Int) : (letS c).length = 2 := rfl
theorem lines_len2 : ∀ (es : List Etr) (c : Int), (∀ x ∈ es, entS x = true) -> (linesS c es).length <= es.length * 194
 | [], _, _ => by simp [linesS]
 | x :: r, c, h => by
   have h1 := body_len2 (h x (by simp))
   have ih := lines_len2 r (sumS (bodyS x) c) fun y hy => h y (by simp [hy])
   simp only [linesS, lineS, List.length_append, letS_len, List.length_cons, List.length_nil]
   omega
theorem text_len {l : Lg} (h : okLg l = true) : (textS l).length <= 40000 := by
 obtain ⟨h1, h2, h3⟩ := ok_all h
 have h4 := lines_len2 l.es (sumS (headS l.s l.es.length) 0) (ordS_ents h3)
 have h7 : (headS l.s l.es.length).length = l.s.length + 5 + (numS l.es.length).length := by simp [headS]; omega
 have h5 := numS_len l.es.length (by omega) (by omega)
 have h6 : l.s.length <= 8 := by simp only [shipS, madeS, betw, Bool.and_eq_true, decide_eq_true_eq] at h1; omega
 simp only [textS, lineS, List.length_append, letS_len, List.length_cons, List.length_nil]
 omega
theorem step_err {i : Nat} {st : Rst} {l : By} {fed : Bool} {e : Int} (h : rdStep i st l fed = .error e) : e = 91 \/ e = 92 \/ e = 93 := by
 unfold rdStep at h
 split at h
 . cases h; exact .inr (.inr rfl)
 . split at h
   . cases h; exact .inl rfl
   . split at h
     . cases h; exact .inl rfl
     . split at h
       . cases h
       . cases h; exact .inr (.inl rfl)
theorem read_err {t : By} (h : (readS t).2.2 ≠ 0) : (readS t).1 = ⟨[], []⟩ /\ 0 <= (readS t).2.1 /\ ((readS t).2.2 = 91 \/ (readS t).2.2 = 92 \/ (readS t).2.2 = 93) := by
 unfold readS rdFin at h ⊢
 rcases rd_cases (fedsOf t) with ⟨st, h1, _⟩ | ⟨j, p, st, e, _, _, h3, h4, _⟩
 . rw [h1] at h ⊢
   simp only at h ⊢
   split
   . exact ⟨rfl, by decide, .inl rfl⟩
   . rename_i hn
     rw [if_neg hn] at h
     split
     . exact ⟨rfl, by show (0 : Int) <= ((fedsOf t).length : Int); omega, .inr (.inr rfl)⟩
     . rename_i hq
       rw [if_neg hq] at h
       exact absurd rfl h
 . rw [h4] at h ⊢
   exact ⟨rfl, by show (0 : Int) <= (j : Int); omega, step_err h3⟩
theorem step_some {i : Nat} {st st' : Rst} {l : By} {fed : Bool} (h : rdStep i st l fed = .ok st') : (i : Int) <= st.n /\ fed = true /\ ∃ b, openS l = some (b, st'.c) /\ rdBody i st b = some st' := by
 unfold rdStep at h
 split at h
 . cases h
 . rename_i hn
   split at h
   . cases h
   . rename_i b c ho
     split at h
     . cases h
     . rename_i st2 hb
       split at h
       . rename_i hc
         cases h
         split at ho
         . rename_i hf
           exact ⟨by omega, hf, b, by rw [ho, hc], hb⟩
         . cases ho
       . cases h
theorem linesOf_more : ∀ {s more : By}, s.getLast? = some 10 -> linesOf (s ++ more) = linesOf s ++ linesOf more
 | [], _, h => by cases h
 | [a], more, h => by
   simp at h
   subst h
   simp [linesOf]
 | a :: b :: r, more, h => by
   have h2 : (b :: r).getLast? = some 10 := by simpa using h
   have ih := linesOf_more (s := b :: r) (more := more) h2
   rw [List.cons_append, linesOf_cons, linesOf_cons a (b :: r), ih]
   split
   . rfl
   . cases hl : linesOf (b :: r) with
     | nil => rw [linesOf_fir (by simp)] at hl; cases hl
     | cons x xs => rfl
theorem text_last {l : Lg} (h : okLg l = true) : (textS l).getLast? = some 10 := by
 have e := linesOf_flat (textS l)
 rw [lines_text h] at e
 have hl : ∀ (c : Int) (es : List Etr) (b : By) (k : Int), (lineS b k :: lnsL c es).flatten.getLast? = some 10 := by
   intro c es
   induction es generalizing c with
   | nil => intro b k; simp [lnsL, lineS, letS]
   | cons x r ih =>
     intro b k
     simp only [lnsL, List.flatten_cons]
     rw [List.getLast?_append]
     have := ih (sumS (bodyS x) c) (bodyS x) (sumS (bodyS x) c)
     simp only [List.flatten_cons] at this
     rw [this]; rfl
 rw [<- e]
 exact hl _ _ _ _
theorem rdAt_err {ls : List (By × Bool)} {j : Nat} {e : Int × Int} (h : rdAt ls j = .error e) : ∀ k, rdAt ls (j + k) = .error e
 | 0 => h
 | k + 1 => by rw [<- Nat.add_assoc, rdAt, rdAt_err h k]
structure Cut (l : Lg) (A X : By) : Prop where
 e : textS l = A ++ (X ++ [10])
 a : A = [] \/ A.getLast? = some 10
 x : X ≠ []
 n : noB 10 X
 k : (readS A).2.1 = (l.es.length : Int)
 f : (readS A).2.2 = 93 \/ l.es.length = 0 /\ (readS A).2.2 = 91
 s : (readS (A ++ X)).2.1 = (l.es.length : Int) /\ (readS (A ++ X)).2.2 = 91
end Go.Log
namespace Go.Proofs.YtcaecmiedjnacaaGreatDoor
open Go.Joins Go.ChangeShapes Go.WideShapes Go.ChangeAt Go.RowKit Go.Psl Go.Log
theorem u16_arg {H : Type} {enc : TypeId × Value -> H} {W : World} {base : Nat} {v : Value} {d : DataW H} {p : List MemPlace} (hval : Value.okWide Tryz.prog W .any base 60 v) (h : DataW.Trod enc Tryz.prog W 0 (fun _ => true) true 60 v d p) :
   ∃ k : Nat, k < 65536 /\ R2 (GA W) W (.d (.lit (.int .u16 k))) v := by
 obtain ⟨n, rfl, _, _, hw⟩ := open_int Tryz.underlying60 hval h
 simp only [Lit.wf, Bool.and_eq_true, decide_eq_true_eq] at hw
 have e1 : IntKind.u16.min = 0 := by decide
 have e2 : IntKind.u16.max = 65535 := by decide
 obtain ⟨k, rfl⟩ : ∃ k : Nat, n = k := ⟨n.toNat, by omega⟩
 exact ⟨k, by omega, .lit _ rfl⟩
theorem byte_arg {H : Type} {enc : TypeId × Value -> H} {W : World} {base : Nat} {v : Value} {d : DataW H} {p : List MemPlace} (hval : Value.okWide Tryz.prog W .any base 5 v) (h : DataW.Trod enc Tryz.prog W 0 (fun _ => true) true 5 v d p) :
   ∃ b : UInt8, R2 (GA W) W (Tryz.vu b) v := by
 obtain ⟨n, rfl, _, _, hw⟩ := open_int Tryz.underlying5 hval h
 simp only [Lit.wf, Bool.and_eq_true, decide_eq_true_eq] at hw
 have e1 : IntKind.u8.min = 0 := by decide
 have e2 : IntKind.u8.max = 255 := by decide
 have e3 : ((UInt8.ofNat n.toNat).toNat : Int) = n := by
   simp only [UInt8.toNat_ofNat']
   omega
 refine ⟨UInt8.ofNat n.toNat, ?_⟩
 show R2 _ _ (.d (.lit (.int .u8 _))) _
 rw [e3]
 exact .lit _ rfl
theorem bool_arg {H : Type} {enc : TypeId × Value -> H} {W : World} {base : Nat} {v : Value} {d : DataW H} {p : List MemPlace} (hval : Value.okWide Tryz.prog W .any base 4 v) (h : DataW.Trod enc Tryz.prog W 0 (fun _ => true) true 4 v d p) :
   ∃ b : Bool, R2 (GA W) W (Tryz.vb b) v := by
 obtain ⟨b, rfl, _⟩ := open_bool Tryz.underlying4 hval h
 exact ⟨b, .lit _ rfl⟩
end Go.Proofs.YtcaecmiedjnacaaGreatDoor
namespace Go.Log
theorem sumS_app : ∀ (u v : By) (c : Int), sumS (u ++ v) c = sumS v (sumS u c)
 | [], _, _ => rfl
 | _ :: u, v, _ => sumS_app u v _
theorem sumS_inj : ∀ (w : By) (c d : Int), sumS w c = sumS w d -> c % 673 = d % 673
 | [], c, d, h => by have : c = d := h; rw [this]
 | b :: w, c, d, h => by
   have ih := sumS_inj w _ _ h
   omega
def Chg1 (x y : By) : Prop := ∃ u w, (∃ a b, x = u ++ [a] ++ w /\ y = u ++ [b] ++ w /\ a ≠ b) \/ ∃ a b, x = u ++ [a, b] ++ w /\ y = u ++ [b, a] ++ w /\ a ≠ b
theorem u8_ne' {a b : UInt8} (h : a ≠ b) : (a.toNat : Int) ≠ b.toNat := fun e => h (UInt8.toNat_inj.1 (by omega))
theorem sum_one {u w : By} {a b : UInt8} (c : Int) (h : a ≠ b) : sumS (u ++ [a] ++ w) c ≠ sumS (u ++ [b] ++ w) c := by
 intro e
 rw [sumS_app, sumS_app, sumS_app, sumS_app] at e
 have e2 := sumS_inj w _ _ e
 have h1 := u8_ne' h
 have h2 := u8_lt a
 have h3 := u8_lt b
 simp only [sumS] at e2
 omega
theorem sum_two {u w : By} {a b : UInt8} (c : Int) (h : a ≠ b) : sumS (u ++ [a, b] ++ w) c ≠ sumS (u ++ [b, a] ++ w) c := by
 intro e
 rw [sumS_app, sumS_app, sumS_app, sumS_app] at e
 have e2 := sumS_inj w _ _ e
 have h1 := u8_ne' h
 have h2 := u8_lt a
 have h3 := u8_lt b
 simp only [sumS] at e2
 omega
theorem let_inj {c d : Int} (h0 : 0 <= c) (h1 : c < 673) (g0 : 0 <= d) (g1 : d < 673) (h : letS c = letS d) : c = d := by
 have e1 := open_line [] h0 h1
 have e2 := open_line [] g0 g1
 rw [h, e2] at e1
 cases e1
 rfl
theorem chg_line {b b' : By} {c c' cp : Int} (hp0 : 0 <= cp) (hp1 : cp < 673) (hc : sumS b cp = c) (hc' : sumS b' cp = c') (h : Chg1 (b ++ ([32] ++ letS c)) (b' ++ ([32] ++ letS c'))) : False := by
 have hb := sumS_lt b cp hp0 hp1
 have hb' := sumS_lt b' cp hp0 hp1
 rw [hc] at hb
 rw [hc'] at hb'
 have hl3 : ∀ k : Int, ([32] ++ letS k : By).length = 3 := fun k => rfl
 have hbb : b = b' -> False := fun e => by
   subst e
   rw [hc] at hc'
   subst hc'
   obtain ⟨u, w, ⟨p, q, e1, e2, hn⟩ | ⟨p, q, e1, e2, hn⟩⟩ := h
   . rw [e1] at e2
     have := List.append_cancel_left (List.append_inj_left' e2 rfl)
     exact hn (by simpa using this)
   . rw [e1] at e2
     have := List.append_cancel_left (List.append_inj_left' e2 rfl)
     simp at this
     exact hn this.1
 obtain ⟨u, w, ⟨p, q, e1, e2, hn⟩ | ⟨p, q, e1, e2, hn⟩⟩ := h
 . have hlen : b.length = b'.length := by
     have g1 := congrArg List.length e1
     have g2 := congrArg List.length e2
     simp only [List.length_append, hl3, List.length_cons, List.length_nil] at g1 g2
     omega
   have t1 := congrArg (List.take b.length) e1
   have t2 := congrArg (List.take b.length) e2
   have d1 := congrArg (List.drop b.length) e1
   have d2 := congrArg (List.drop b.length) e2
   rw [List.take_left' rfl] at t1
   rw [List.take_left' hlen.symm] at t2
   rw [List.drop_left' rfl] at d1
   rw [List.drop_left' hlen.symm] at d2
   by_cases hu : u.length < b.length
   . have k : b.length = (u ++ [p]).length + (b.length - u.length - 1) := by simp; omega
     have k2 : b.length = (u ++ [q]).length + (b.length - u.length - 1) := by simp; omega
     rw [k, List.take_length_add_append] at t1
     rw [k2, List.take_length_add_append] at t2
     rw [k, List.drop_length_add_append] at d1
     rw [k2, List.drop_length_add_append] at d2
     have hcc : c = c' := let_inj hb.1 hb.2 hb'.1 hb'.2 (List.append_cancel_left (d1.trans d2.symm))
     exact sum_one (u := u) (w := w.take (b.length - u.length - 1)) cp hn (by rw [<- t1, <- t2, hc, hc', hcc])
   . refine hbb ?_
     rw [t1, t2, List.append_assoc, List.append_assoc, List.take_append_of_le_length (by omega), List.take_append_of_le_length (by omega)]
 . have hlen : b.length = b'.length := by
     have g1 := congrArg List.length e1
     have g2 := congrArg List.length e2
     simp only [List.length_append, hl3, List.length_cons, List.length_nil] at g1 g2
     omega
   have t1 := congrArg (List.take b.length) e1
   have t2 := congrArg (List.take b.length) e2
   have d1 := congrArg (List.drop b.length) e1
   have d2 := congrArg (List.drop b.length) e2
   rw [List.take_left' rfl] at t1
   rw [List.take_left' hlen.symm] at t2
   rw [List.drop_left' rfl] at d1
   rw [List.drop_left' hlen.symm] at d2
   by_cases hu : u.length + 1 < b.length
   . have k : b.length = (u ++ [p, q]).length + (b.length - u.length - 2) := by simp; omega
     have k2 : b.length = (u ++ [q, p]).length + (b.length - u.length - 2) := by simp; omega
     rw [k, List.take_length_add_append] at t1
     rw [k2, List.take_length_add_append] at t2
     rw [k, List.drop_length_add_append] at d1
     rw [k2, List.drop_length_add_append] at d2
     have hcc : c = c' := let_inj hb.1 hb.2 hb'.1 hb'.2 (List.append_cancel_left (d1.trans d2.symm))
     exact sum_two (u := u) (w := w.take (b.length - u.length - 2)) cp hn (by rw [<- t1, <- t2, hc, hc', hcc])
   . by_cases hu2 : u.length + 1 = b.length
     . have f1 : (b ++ ([32] ++ letS c))[b.length]? = some 32 := by rw [List.getElem?_append_right (by omega)]; simp
       have f2 : (b' ++ ([32] ++ letS c'))[b.length]? = some 32 := by rw [List.getElem?_append_right (by omega), hlen]; simp
       rw [e1, List.append_assoc, List.getElem?_append_right (by omega)] at f1
       rw [e2, List.append_assoc, List.getElem?_append_right (by omega)] at f2
       rw [show b.length - u.length = 1 by omega] at f1 f2
       simp at f1 f2
       exact hn (f2.trans f1.symm)
     . refine hbb ?_
       rw [t1, t2, List.append_assoc, List.append_assoc, List.take_append_of_le_length (by omega), List.take_append_of_le_length (by omega)]
def cnt10 : By -> Nat
 | [] => 0
 | b :: r => (if b = 10 then 1 else 0) + cnt10 r
theorem cnt10_app : ∀ (a b : By), cnt10 (a ++ b) = cnt10 a + cnt10 b
 | [], b => by simp [cnt10]
 | x :: a, b => by
   rw [List.cons_append]
   simp only [cnt10]
   rw [cnt10_app a b]
   omega
theorem cnt10_no : ∀ {u : By}, noB 10 u -> cnt10 u = 0
 | [], _ => rfl
 | b :: u, h => by
   have hb := h b (by simp)
   have ih := cnt10_no (u := u) fun c hc => h c (by simp [hc])
   simp only [cnt10, hb, if_false, ih]
theorem cnt10_lines : ∀ {A : By}, (A = [] \/ A.getLast? = some 10) -> (linesOf A).length = cnt10 A
 | [], _ => rfl
 | [b], h => by
   rcases h with h | h
   . cases h
   . simp at h
     subst h
     rfl
 | b :: c :: r, h => by
   have h2 : (c :: r).getLast? = some 10 := by
     rcases h with h | h
     . cases h
     . simpa using h
   have ih := cnt10_lines (A := c :: r) (.inr h2)
   rw [linesOf_cons, cnt10, <- ih]
   split
   . rw [List.length_cons]; omega
   . cases hl : linesOf (c :: r) with
     | nil => rw [linesOf_fir (by simp)] at hl; cases hl
     | cons x xs => simp
theorem cut_last : ∀ (p : By), ∃ A u, p = A ++ u /\ (A = [] \/ A.getLast? = some 10) /\ noB 10 u
 | [] => ⟨[], [], rfl, .inl rfl, fun b hb => by cases hb⟩
 | b :: r => by
   obtain ⟨A, u, h1, h2, h3⟩ := cut_last r
   by_cases hA : A = []
   . subst hA
     by_cases hb : b = 10
     . exact ⟨[b], u, by rw [h1]; rfl, .inr (by rw [hb]; rfl), h3⟩
     . exact ⟨[], b :: u, by rw [h1]; rfl, .inl rfl, fun c hc => by
         rcases List.mem_cons.1 hc with rfl | hc
         . exact hb
         . exact h3 c hc⟩
   . refine ⟨b :: A, u, by rw [h1]; rfl, .inr ?_, h3⟩
     rcases h2 with h2 | h2
     . exact absurd h2 hA
     . cases A with
       | nil => exact absurd rfl hA
       | cons a A => simpa using h2
theorem cut_first : ∀ {v : By}, v.getLast? = some 10 -> ∃ w B, v = w ++ [10] ++ B /\ noB 10 w
 | [], h => by cases h
 | b :: r, h => by
   by_cases hb : b = 10
   . exact ⟨[], r, by rw [hb]; rfl, fun c hc => by cases hc⟩
   . have hr : r.getLast? = some 10 := by
       cases r with
       | nil => simp at h; exact absurd h hb
       | cons c r => simpa using h
     obtain ⟨w, B, h1, h2⟩ := cut_first hr
     exact ⟨b :: w, B, by rw [h1]; rfl, fun c hc => by
       rcases List.mem_cons.1 hc with rfl | hc
       . exact hb
       . exact h2 c hc⟩
theorem lines_three {A x B : By} (hA : A = [] \/ A.getLast? = some 10) (hx : noB 10 x) : linesOf (A ++ (x ++ [10] ++ B)) = linesOf A ++ ((x ++ [10]) :: linesOf B) := by
 rcases hA with rfl | hA
 . rw [List.nil_append, linesOf_line hx]; rfl
 . rw [linesOf_more hA, linesOf_line hx]
def ckB (l : Lg) : Nat -> Int
 | 0 => 0
 | i + 1 => chkS (hdC l) (l.es.take i)
theorem ckB_bd (l : Lg) (k : Nat) : 0 <= ckB l k /\ ckB l k < 673 := by
 cases k with
 | zero => show (0 : Int) <= 0 /\ (0 : Int) < 673; omega
 | succ k => exact chkS_bd _ _ (hdC_bd l).1 (hdC_bd l).2
theorem dm_at {l : Lg} (h : okLg l = true) {k : Nat} (hk : k <= l.es.length + 1) : dmAt (linesOf (textS l)) k = ([], ckB l k) := by
 cases k with
 | zero => rfl
 | succ k => exact dm_text h k (by omega)
theorem rd_at' {l : Lg} (h : okLg l = true) {k : Nat} (hk : k <= l.es.length + 1) : ∃ st, rdAt (fedsOf (textS l)) k = .ok st /\ st.c = ckB l k := by
 cases k with
 | zero => exact ⟨_, rfl, rfl⟩
 | succ k => exact ⟨_, rd_text h k (by omega), rfl⟩
theorem lines_len' {l : Lg} (h : okLg l = true) : (linesOf (textS l)).length = l.es.length + 1 := by
 have := feds_len h
 simpa [fedsOf] using this
theorem line_ok {l : Lg} (h : okLg l = true) {k : Nat} {L : By} (hL : (linesOf (textS l))[k]? = some L) : ∃ b, openS (chopS L) = some (b, ckB l (k + 1)) /\ sumS b (ckB l k) = ckB l (k + 1) := by
 have hk : k < l.es.length + 1 := by
   have := (List.getElem?_eq_some_iff.1 hL).1
   rw [lines_len' h] at this
   exact this
 have h1 := dm_at h (k := k) (by omega)
 have h2 := dm_at h (k := k + 1) (by omega)
 rw [dmAt_succ hL, h1] at h2
 unfold dmStep at h2
 split at h2
 . simp at h2
 . rename_i b c ho
   simp only [Prod.mk.injEq] at h2
   obtain ⟨h3, h4⟩ := h2
   subst h4
   refine ⟨b, ho, ?_⟩
   split at h3
   . rename_i e; exact e
   . simp at h3
theorem bad_line {l : Lg} (h : okLg l = true) {k : Nat} {x y : By} (hL : (linesOf (textS l))[k]? = some (x ++ [10])) (hc : Chg1 x y) : ∀ b c, openS y = some (b, c) -> sumS b (ckB l k) ≠ c := by
 intro b c ho hs
 obtain ⟨b0, h1, h2⟩ := line_ok h hL
 rw [chop_line] at h1
 have e1 := open_some h1
 have e2 := open_some ho
 have hk := ckB_bd l k
 rw [e1, e2, List.append_assoc, List.append_assoc] at hc
 exact chg_line hk.1 hk.2 h2 hs hc
structure Chgd (l : Lg) (k : Nat) (t : By) : Prop where
 ok : okLg l = true
 x : ∃ x y, (linesOf (textS l))[k]? = some (x ++ [10]) /\ Chg1 x y /\ (linesOf t)[k]? = some (y ++ [10])
 o : ∀ j, j ≠ k -> (linesOf t)[j]? = (linesOf (textS l))[j]?
 n : (linesOf t).length = (linesOf (textS l)).length
theorem Chgd.lt {l : Lg} {k : Nat} {t : By} (c : Chgd l k t) : k < l.es.length + 1 := by
 obtain ⟨x, y, h, _⟩ := c.x
 have := (List.getElem?_eq_some_iff.1 h).1
 rw [lines_len' c.ok] at this
 exact this
theorem dm_same {a b : List By} : ∀ {i : Nat}, (∀ j, j < i -> a[j]? = b[j]?) -> dmAt a i = dmAt b i
 | 0, _ => rfl
 | i + 1, h => by rw [dmAt, dmAt, h i (by omega), dm_same fun j hj => h j (by omega)]
theorem rd_same {a b : List (By × Bool)} : ∀ {i : Nat}, (∀ j, j < i -> a[j]? = b[j]?) -> rdAt a i = rdAt b i
 | 0, _ => rfl
 | i + 1, h => by rw [rdAt, rdAt, h i (by omega), rd_same fun j hj => h j (by omega)]
theorem chgd_dmg {l : Lg} {k : Nat} {t : By} (c : Chgd l k t) : (dmAt (linesOf t) (linesOf t).length).1 = [(k : Int)] \/ (dmAt (linesOf t) (linesOf t).length).1 = [(k : Int), (k : Int) + 1] := by
 have hk := c.lt
 obtain ⟨x, y, h1, h2, h3⟩ := c.x
 have e0 : dmAt (linesOf t) k = ([], ckB l k) := by
   rw [dm_same (b := linesOf (textS l)) fun j hj => c.o j (by omega)]
   exact dm_at c.ok (by omega)
 have e1 : (dmAt (linesOf t) (k + 1)).1 = [(k : Int)] := by
   rw [dmAt_succ h3, e0]
   unfold dmStep
   rw [chop_line]
   split
   . rfl
   . rename_i b d ho
     have := bad_line c.ok h1 h2 b d ho
     simp only
     rw [if_neg this]
     rfl
 have hn : (linesOf t).length = l.es.length + 1 := by rw [c.n, lines_len' c.ok]
 have key : ∀ m, k + 1 + m <= l.es.length + 1 -> (m = 0 /\ (dmAt (linesOf t) (k + 1 + m)).1 = [(k : Int)]) \/ ((dmAt (linesOf t) (k + 1 + m)).2 = ckB l (k + 1 + m) /\ ((dmAt (linesOf t) (k + 1 + m)).1 = [(k : Int)] \/ (dmAt (linesOf t) (k + 1 + m)).1 = [(k : Int), (k : Int) + 1])) := by
   intro m
   induction m with
   | zero => exact fun _ => .inl ⟨rfl, e1⟩
   | succ m ih =>
     intro hm
     right
     have ih := ih (by omega)
     obtain ⟨L, hL⟩ : ∃ L, (linesOf (textS l))[k + 1 + m]? = some L := ⟨_, List.getElem?_eq_getElem (by rw [lines_len' c.ok]; omega)⟩
     have hL2 : (linesOf t)[k + 1 + m]? = some L := by rw [c.o _ (by omega)]; exact hL
     obtain ⟨b, g1, g2⟩ := line_ok c.ok hL
     rw [<- Nat.add_assoc, dmAt_succ hL2]
     generalize dmAt (linesOf t) (k + 1 + m) = st at ih
     unfold dmStep
     rw [g1]
     refine ⟨rfl, ?_⟩
     simp only
     rcases ih with ⟨rfl, i1⟩ | ⟨i1, i2⟩
     . split
       . exact .inl i1
       . rw [i1]; exact .inr (by simp)
     . rw [i1, g2, if_pos rfl]
       exact i2
 have := key (l.es.length - k) (by omega)
 rw [hn]
 rw [show k + 1 + (l.es.length - k) = l.es.length + 1 by omega] at this
 rcases this with ⟨_, h⟩ | ⟨_, h⟩
 . exact .inl h
 . exact h
theorem chgd_read {l : Lg} {k : Nat} {t : By} (c : Chgd l k t) : (readS t).2.1 = (k : Int) /\ (readS t).2.2 ≠ 0 := by
 have hk := c.lt
 obtain ⟨x, y, h1, h2, h3⟩ := c.x
 obtain ⟨st, r1, r2⟩ := rd_at' c.ok (k := k) (by omega)
 have e0 : rdAt (fedsOf t) k = .ok st := by
   rw [rd_same (b := fedsOf (textS l)) fun j hj => by unfold fedsOf; rw [List.getElem?_map, List.getElem?_map, c.o j (by omega)]]
   exact r1
 have hp : (fedsOf t)[k]? = some (chopS (y ++ [10]), fedS (y ++ [10])) := by unfold fedsOf; rw [List.getElem?_map, h3]; rfl
 have h4 := rdAt_succ e0 hp
 obtain ⟨e, he⟩ : ∃ e, rdStep k st (chopS (y ++ [10])) (fedS (y ++ [10])) = .error e := by
   cases hs : rdStep k st (chopS (y ++ [10])) (fedS (y ++ [10])) with
   | error e => exact ⟨e, rfl⟩
   | ok st' =>
     exfalso
     obtain ⟨_, _, b, ho, hb⟩ := step_some hs
     rw [chop_line] at ho
     have hc : st'.c = sumS b st.c := by
       unfold rdBody at hb
       split at hb
       . cases hh : hdP b with
         | none => rw [hh] at hb; cases hb
         | some p => rw [hh] at hb; cases hb; rfl
       . cases hh : etP b (lastE st.es) with
         | none => rw [hh] at hb; cases hb
         | some p => rw [hh] at hb; cases hb; rfl
     have := bad_line c.ok h1 h2 b _ ho
     rw [<- r2, <- hc] at this
     exact this rfl
 have hz := step_err he
 rw [he] at h4
 simp only at h4
 have hlen : (fedsOf t).length = (k + 1) + (l.es.length - k) := by
   unfold fedsOf
   rw [List.length_map, c.n, lines_len' c.ok]
   omega
 have h5 := rdAt_err h4 (l.es.length - k)
 unfold readS rdFin
 rw [hlen, h5]
 refine ⟨rfl, ?_⟩
 simp only
 omega
theorem chgd_of {l : Lg} (h : okLg l = true) {A x y B t : By} (hs : textS l = A ++ (x ++ [10] ++ B)) (ht : t = A ++ (y ++ [10] ++ B)) (hA : A = [] \/ A.getLast? = some 10) (hx : noB 10 x) (hy : noB 10 y) (hc : Chg1 x y) : Chgd l (cnt10 A) t := by
 have e1 := lines_three (B := B) hA hx
 have e2 := lines_three (B := B) hA hy
 rw [<- hs] at e1
 rw [<- ht] at e2
 have hk := cnt10_lines hA
 refine ⟨h, ⟨x, y, ?_, hc, ?_⟩, fun j hj => ?_, ?_⟩
 . rw [e1, List.getElem?_append_right (by omega), hk]; simp
 . rw [e2, List.getElem?_append_right (by omega), hk]; simp
 . rw [e1, e2]
   by_cases hjk : j < (linesOf A).length
   . rw [List.getElem?_append_left hjk, List.getElem?_append_left hjk]
   . rw [List.getElem?_append_right (by omega), List.getElem?_append_right (by omega)]
     obtain ⟨m, hm⟩ : ∃ m, j - (linesOf A).length = m + 1 := ⟨j - (linesOf A).length - 1, by omega⟩
     rw [hm]
     rfl
 . rw [e1, e2]; simp
def setB (S : By) (i : Nat) (vs : By) : By := S.take i ++ vs ++ S.drop (i + vs.length)
theorem set_len {S : By} {i : Nat} {vs : By} (h : i + vs.length <= S.length) : (setB S i vs).length = S.length := by
 simp only [setB, List.length_append, List.length_take, List.length_drop]
 omega
theorem drop_cons {S : By} {i : Nat} {a : UInt8} (h : S[i]? = some a) : S.drop i = a :: S.drop (i + 1) := by
 obtain ⟨hi, ha⟩ := List.getElem?_eq_some_iff.1 h
 rw [<- ha]
 exact List.drop_eq_getElem_cons hi
theorem noB_cons {c a : UInt8} {w : By} (h : a ≠ c) (hw : noB c w) : noB c (a :: w) := fun b hb => by
 rcases List.mem_cons.1 hb with rfl | hb
 . exact h
 . exact hw b hb
theorem last_app {P v : By} (hv : v ≠ []) : (P ++ v).getLast? = v.getLast? := by
 obtain ⟨r, b, rfl⟩ : ∃ r b, v = r ++ [b] := ⟨_, _, (List.dropLast_concat_getLast hv).symm⟩
 rw [<- List.append_assoc]
 simp
theorem chgd_set {l : Lg} (h : okLg l = true) {i : Nat} {a b : UInt8} (ha : (textS l)[i]? = some a) (h1 : a ≠ 10) (h2 : b ≠ 10) (h3 : a ≠ b) : Chgd l (cnt10 ((textS l).take i)) (setB (textS l) i [b]) := by
 have hl := text_last h
 have hd := drop_cons ha
 obtain ⟨A, u, p1, p2, p3⟩ := cut_last ((textS l).take i)
 have hs : textS l = A ++ u ++ (a :: (textS l).drop (i + 1)) := by rw [<- p1, <- hd, List.take_append_drop]
 have hv : (a :: (textS l).drop (i + 1)).getLast? = some 10 := by rw [hs, last_app (by simp)] at hl; exact hl
 have hv2 : ((textS l).drop (i + 1)).getLast? = some 10 := by
   generalize (textS l).drop (i + 1) = v at hv ⊢
   cases v with
   | nil => simp at hv; exact absurd hv h1
   | cons c v => simpa using hv
 obtain ⟨w, B, q1, q2⟩ := cut_first hv2
 have ht : setB (textS l) i [b] = A ++ ((u ++ [b] ++ w) ++ [10] ++ B) := by
   unfold setB
   rw [p1, show i + [b].length = i + 1 from rfl, q1]
   simp
 rw [q1] at hs
 rw [ht, p1, cnt10_app, cnt10_no p3, Nat.add_zero]
 exact chgd_of h (x := u ++ [a] ++ w) (y := u ++ [b] ++ w) (B := B) (by rw [hs]; simp) rfl p2
   (noB_app (noB_app p3 (noB_cons h1 fun _ hb => by cases hb)) q2) (noB_app (noB_app p3 (noB_cons h2 fun _ hb => by cases hb)) q2) ⟨u, w, .inl ⟨a, b, rfl, rfl, h3⟩⟩
theorem chgd_swap {l : Lg} (h : okLg l = true) {i : Nat} {a b : UInt8} (ha : (textS l)[i]? = some a) (hb : (textS l)[i + 1]? = some b) (h1 : a ≠ 10) (h2 : b ≠ 10) (h3 : a ≠ b) : Chgd l (cnt10 ((textS l).take i)) (setB (textS l) i [b, a]) := by
 have hl := text_last h
 have hd := drop_cons ha
 have hd2 := drop_cons hb
 rw [hd2] at hd
 obtain ⟨A, u, p1, p2, p3⟩ := cut_last ((textS l).take i)
 have hs : textS l = A ++ u ++ (a :: b :: (textS l).drop (i + 1 + 1)) := by rw [<- p1, <- hd, List.take_append_drop]
 have hv : (a :: b :: (textS l).drop (i + 1 + 1)).getLast? = some 10 := by rw [hs, last_app (by simp)] at hl; exact hl
 have hv2 : ((textS l).drop (i + 1 + 1)).getLast? = some 10 := by
   generalize (textS l).drop (i + 1 + 1) = v at hv ⊢
   cases v with
   | nil => simp at hv; exact absurd hv h2
   | cons c v => simpa using hv
 obtain ⟨w, B, q1, q2⟩ := cut_first hv2
 have ht : setB (textS l) i [b, a] = A ++ ((u ++ [b, a] ++ w) ++ [10] ++ B) := by
   unfold setB
   rw [p1, show i + [b, a].length = i + 1 + 1 from rfl, q1]
   simp
 rw [q1] at hs
 rw [ht, p1, cnt10_app, cnt10_no p3, Nat.add_zero]
 exact chgd_of h (x := u ++ [a, b] ++ w) (y := u ++ [b, a] ++ w) (B := B) (by rw [hs]; simp) rfl p2
   (noB_app (noB_app p3 (noB_cons h1 (noB_cons h2 fun _ hb => by cases hb))) q2) (noB_app (noB_app p3 (noB_cons h2 (noB_cons h1 fun _ hb => by cases hb))) q2) ⟨u, w, .inr ⟨a, b, rfl, rfl, h3⟩⟩
end Go.Log
namespace Go.Proofs.Tryz
open Go.Psl
open Go.Log
theorem cnt10_succ {S : By} {i : Nat} {b : UInt8} (h : S[i]? = some b) : cnt10 (S.take (i + 1)) = cnt10 (S.take i) + if b = 10 then 1 else 0 := by
 rw [List.take_add_one, h, cnt10_app]
 simp [cnt10]
theorem cnt10_le : ∀ s : By, cnt10 s <= s.length
 | [] => Nat.le_refl _
 | b :: r => by
   have := cnt10_le r
   simp only [cnt10, List.length_cons]
   split <;> omega
theorem fn29 (S : By) (n : Nat) (hn : n <= S.length) (hl : S.length <= 1000000) : Ct prog 29 [vS S, vi n] (vi (cnt10 (S.take n))) [] := by
 refine CB func29 c29 fun E hE => ?_
 simp [p29]
 refine pw_loop (α := Nat) (fun i => ⟨slots [(0, vS S), (5, vi (cnt10 (S.take i))), (7, vi n), (8, vi i)], lk [], 0⟩) (fun i => i <= n) (fun i => n - i) 0 ?_ ?_ ?_
 . omega
 . refine Weak.mk hE (lk []) _ _ _ ?_ ?_ ?_ ?_ ?_ <;> simp [cnt10]
 . intro i hi
   have hz := @wz i (by omega)
   by_cases h : i < n
   . obtain ⟨b, hb⟩ : ∃ b, S[i]? = some b := ⟨_, List.getElem?_eq_getElem (by omega)⟩
     have hI : (i : Int) < n := by omega
     have hc := cnt10_succ hb
     have hcl := cnt10_le (S.take i)
     rw [List.length_take] at hcl
     have hw : IntKind.wrap .i64 ((cnt10 (S.take i) : Int) + 1) = ((cnt10 (S.take i) + 1 : Nat) : Int) := by rw [wrap64 (by omega) (by omega)]; omega
     by_cases h10 : b = 10
     . have h10' : (b.toNat : Int) = 10 := by rw [h10]; rfl
       have h10d : decide ((b.toNat : Int) = 10) = true := decide_eq_true h10'
       rw [if_pos h10] at hc
       simp [p29l0, hI, hb, h10d, hz, hw]
       refine ⟨i + 1, by omega, by omega, ?_⟩
       rw [hc]
       exact WK hE (lk [])
     . have h10' := (fun e => h10 (UInt8.toNat_inj.1 (show b.toNat = (10 : UInt8).toNat by have : (10 : UInt8).toNat = 10 := rfl; omega)) : ¬ (b.toNat : Int) = 10)
       have h10d : decide ((b.toNat : Int) = 10) = false := decide_eq_false h10'
       rw [if_neg h10, Nat.add_zero] at hc
       simp [p29l0, hI, hb, h10d, hz]
       refine ⟨i + 1, by omega, by omega, ?_⟩
       rw [hc]
       exact WK hE (lk [])
   . have hI : ¬ (i : Int) < n := by omega
     obtain rfl : i = n := by omega
     simp [p29l0]
     apply RZ
     simp [results29]
theorem byteV_u8 (b : UInt8) : byteV (u8V b) = some b := by
 have := b.toNat_lt
 show (if 0 <= (b.toNat : Int) /\ (b.toNat : Int) < 256 then some (UInt8.ofNat (b.toNat : Int).toNat) else none) = some b
 rw [if_pos (by omega)]
 simp
theorem bytesV_u8 : ∀ l : By, bytesV (l.map u8V) = some l
 | [] => rfl
 | b :: l => by simp only [List.map_cons, bytesV, byteV_u8, bytesV_u8 l, Option.bind_some, Option.map_some]
theorem splice_u8 (S : By) (i : Nat) (vs : By) : splice (S.map u8V) i (vs.map u8V) = (setB S i vs).map u8V := by
 simp [splice, setB, List.map_drop, List.map_take]
theorem splice_one (S : By) (i : Nat) (b : UInt8) : splice (S.map u8V) i [vu b] = (setB S i [b]).map u8V := splice_u8 S i [b]
theorem set_two {S : By} {i : Nat} {a b : UInt8} (h : i + 2 <= S.length) : setB (setB S i [b]) (i + 1) [a] = setB S i [b, a] := by
 unfold setB
 have e1 : (S.take i ++ [b] ++ S.drop (i + 1)).take (i + 1) = S.take i ++ [b] := List.take_left' (by simp; omega)
 have e2 : (S.take i ++ [b] ++ S.drop (i + 1)).drop (i + 1 + 1) = S.drop (i + 2) := by
   rw [List.drop_append, List.drop_of_length_le (by simp; omega), List.nil_append, List.drop_drop]
   congr 1
   simp
   omega
 simp only [List.length_cons, List.length_nil]
 simp only [Nat.zero_add]
 rw [e1, e2]
 simp
theorem get_set {S : By} {i : Nat} {b : UInt8} {r : By} (h : i < S.length) : (setB S i (b :: r))[i]? = some b := by
 unfold setB
 rw [List.append_assoc, List.getElem?_append_right (by simp; omega)]
 simp [Nat.min_eq_left (Nat.le_of_lt h)]
theorem cell_u8 {T : By} {i : Nat} {b : UInt8} (h : T[i]? = some b) : ((T.map u8V).drop i).take 1 = [vu b] := by
 rw [<- List.map_drop, drop_cons h]
 rfl
theorem set_same {S : By} {i : Nat} {a : UInt8} (h : S[i]? = some a) : setB S i [a] = S := by
 unfold setB
 have := drop_cons h
 rw [List.append_assoc]
 show S.take i ++ a :: S.drop (i + 1) = S
 rw [<- this, List.take_append_drop]
theorem fn6 (l : Lg) (at' : Nat) (b : UInt8) (ex : Bool) (hat : at' < 65536) : Ct prog 6 [logV l, .d (.lit (.int .u16 at')), vu b, vb ex] (vb true) [] := by
 have g := fn26 l
 by_cases hg : grL l = true
 . rw [hg] at g
   refine CB func6 c6 fun E hE => ?_
   simp [p6]
   refine CLa fn25 ?_
   simp
   refine CLa g ?_
   simp
   apply RZ
   simp [results6]
 simp only [Bool.not_eq_true] at hg
 rw [hg] at g
 have hs := grL_sized hg
 cases ho : okLg l with
 | false =>
   have w0 := fn27no l hs ho
   refine CB func6 c6 fun E hE => ?_
   simp [p6]
   refine CLa fn25 ?_
   simp
   refine CLa g ?_
   simp
   refine CLa w0 ?_
   simp
   apply RZ
   simp [results6]
 | true =>
   have w0 := fn27ok l hs ho
   have hl := text_len ho
   have hl2 : 2 <= (textS l).length := by
     have := text_last ho
     simp only [textS, lineS, List.length_append, List.length_cons, List.length_nil]
     omega
   obtain ⟨S, hS⟩ : ∃ S, S = textS l := ⟨_, rfl⟩
   rw [<- hS] at w0 hl hl2
   obtain ⟨N, hN⟩ : ∃ N, N + 1 = S.length := ⟨S.length - 1, by omega⟩
   have q1 : ¬ (S.length : Int) < 2 := by omega
   have w1 : IntKind.wrap .i64 (at' : Int) = (at' : Int) := wrap64 (by omega) (by omega)
   have w2 : IntKind.wrap .i64 ((S.length : Int) - 1) = (N : Int) := by rw [wrap64 (by omega) (by omega)]; omega
   have hN0 : ¬ (N : Int) = 0 := by omega
   have m1 : (at' : Int).tmod (N : Int) = ((at' % N : Nat) : Int) := rfl
   obtain ⟨i, hi⟩ : ∃ i, i = at' % N := ⟨_, rfl⟩
   have hiN : i < N := by rw [hi]; exact Nat.mod_lt _ (by omega)
   rw [<- hi] at m1
   have w3 : IntKind.wrap .i64 (i : Int) = (i : Int) := wrap64 (by omega) (by omega)
   have w4 := @wz i (by omega)
   have hN1 : ¬ N = 0 := by omega
   have hi1 : (i : Int) < S.length := by omega
   have hi2 : i < S.length := by omega
   have hi3 : i + 1 <= S.length := by omega
   have hi4 : ((i + 1 : Nat) : Int) < S.length := by omega
   have hi5 : i + 1 < S.length := by omega
   have hi6 : i + 1 + 1 <= S.length := by omega
   have hj0 : (0 : Int) <= (i : Int) + 1 := by omega
   have hj1 : (i : Int) + 1 < S.length := by omega
   have hi7 : S.length <= 9223372036854775807 := by omega
   obtain ⟨a, ha⟩ := gE hi2
   obtain ⟨c, hc⟩ := gE hi5
   have ha' := cell_u8 ha
   have hc' := cell_u8 hc
   have hag : S[i]'hi2 = a := Option.some.inj ((List.getElem?_eq_getElem hi2).symm.trans ha)
   have hcg : S[i + 1]'hi5 = c := Option.some.inj ((List.getElem?_eq_getElem hi5).symm.trans hc)
   cases ex with
   | false =>
     obtain ⟨T, hT⟩ : ∃ T, T = setB S i [b] := ⟨_, rfl⟩
     have hsp := splice_one S i b
     rw [<- hT] at hsp
     have hTl : T.length = S.length := by rw [hT]; exact set_len (by simpa using hi3)
     have hTi : T[i]? = some b := by rw [hT]; exact get_set hi2
     have hTg : T[i]'(by omega) = b := Option.some.inj ((List.getElem?_eq_getElem (by omega)).symm.trans hTi)
     have hT' := cell_u8 hTi
     have hby := bytesV_u8 T
     have hbS := bytesV_u8 S
     have htk : (T.map u8V).take S.length = T.map u8V := List.take_of_length_le (by simp; omega)
     have htS : (S.map u8V).take S.length = S.map u8V := List.take_of_length_le (by simp)
     obtain ⟨k, hk⟩ : ∃ k, k = cnt10 (S.take i) := ⟨_, rfl⟩
     have hkl : k <= 40000 := by
       have := cnt10_le (S.take i)
       rw [List.length_take] at this
       omega
     have ln := fn29 S i (by omega) (by omega)
     rw [<- hk] at ln
     by_cases h1 : a = 10
     . have f1 : decide ((a.toNat : Int) = 10) = true := by rw [h1]; rfl
       refine CB func6 c6 fun E hE => ?_
       simp [p6]
       refine CLa fn25 ?_
       simp
       refine CLa g ?_
       simp
       refine CLa w0 ?_
       simp [q1, w1, w2, hN1, m1, hi1, hi2, hi3, hi7, bs_toList, hsp, hag, f1]
       apply RZ
       simp [results6]
     have f1 : decide ((a.toNat : Int) = 10) = false := decide_eq_false (fun e => h1 (UInt8.toNat_inj.1 (show a.toNat = (10 : UInt8).toNat by have : (10 : UInt8).toNat = 10 := rfl; omega)))
     by_cases h2 : b = 10
     . have f2 : decide ((b.toNat : Int) = 10) = true := by rw [h2]; rfl
       refine CB func6 c6 fun E hE => ?_
       simp [p6]
       refine CLa fn25 ?_
       simp
       refine CLa g ?_
       simp
       refine CLa w0 ?_
       simp [q1, w1, w2, hN1, m1, hi1, hi2, hi3, hi7, bs_toList, hsp, hag, hTl, hT', f1, f2]
       apply RZ
       simp [results6]
     have f2 : decide ((b.toNat : Int) = 10) = false := decide_eq_false (fun e => h2 (UInt8.toNat_inj.1 (show b.toNat = (10 : UInt8).toNat by have : (10 : UInt8).toNat = 10 := rfl; omega)))
     by_cases h3 : a = b
     . have f3 : T = S := by rw [hT, <- h3]; exact set_same ha
       refine CB func6 c6 fun E hE => ?_
       simp [p6]
       refine CLa fn25 ?_
       simp
       refine CLa g ?_
       simp
       refine CLa w0 ?_
       simp [q1, w1, w2, hN1, m1, hi1, hi2, hi3, hi7, bs_toList, hsp, hag, ha', hbS, htS, bs_beq, bs_mk, f1, f3]
       apply RZ
       simp [results6]
     have f3 : ¬ T = S := fun e => by
       rw [e, ha] at hTi
       exact h3 (Option.some.inj hTi)
     have hch : Chgd l k T := by
       rw [hk, hT, hS]
       exact chgd_set ho (hS ▸ ha) h1 h2 h3
     obtain ⟨r1, r2⟩ := chgd_read hch
     have d : Ct prog 11 [vS T] (.tup [logV (readS T).1, vi (readS T).2.1, vi (readS T).2.2]) [] := fn11 T (by omega)
     obtain ⟨r3, _, r4⟩ := read_err r2
     rw [r1, r3] at d
     generalize (readS T).2.2 = e at d r2 r4
     have dm := fn13 T (by omega)
     have sm := fn15 ⟨[], []⟩ ⟨by simp, by simp, fun x hx => by cases hx⟩
     have w5 : IntKind.wrap .i64 ((k : Int) + 1) = (k : Int) + 1 := wrap64 (by omega) (by omega)
     rcases chgd_dmg hch with hd | hd
     all_goals
       rw [show dmgS T = _ from hd] at dm
       simp only [hdR, bkR, List.cons_ne_nil, if_false, List.length_cons, List.length_nil, Nat.zero_add, Nat.reduceAdd] at dm
       rcases r4 with rfl | rfl | rfl
       all_goals
         refine CB func6 c6 fun E hE => ?_
         simp [p6]
         refine CLa fn25 ?_
         simp
         refine CLa g ?_
         simp
         refine CLa w0 ?_
         simp [q1, w1, w2, hN1, m1, hi1, hi2, hi3, hi7, bs_toList, hsp, hag, hTl, hT', hby, htk, bs_beq, bs_mk, f1, f2, f3]
         refine CLa ln ?_
         simp [hTl, hby, htk, bs_mk]
         refine CLa d ?_
         simp [hTl, hby, htk, bs_mk, splice]
         refine CLa dm ?_
         simp [fcel]
         refine CLa sm ?_
         simp [w5]
         apply RZ
         simp [results6]
   | true =>
     obtain ⟨T, hT⟩ : ∃ T, T = setB S i [c, a] := ⟨_, rfl⟩
     obtain ⟨T1, hT1⟩ : ∃ T1, T1 = setB S i [c] := ⟨_, rfl⟩
     have hsp := splice_one S i c
     rw [<- hT1] at hsp
     have hT1l : T1.length = S.length := by rw [hT1]; exact set_len (by simpa using hi3)
     have hsp2 := splice_one T1 (i + 1) a
     rw [show setB T1 (i + 1) [a] = T by rw [hT, hT1]; exact set_two (by omega)] at hsp2
     have hTl : T.length = S.length := by rw [hT]; exact set_len (by simp; omega)
     have hTi : T[i]? = some c := by rw [hT]; exact get_set hi2
     have hTg : T[i]'(by omega) = c := Option.some.inj ((List.getElem?_eq_getElem (by omega)).symm.trans hTi)
     have hT' := cell_u8 hTi
     have hby := bytesV_u8 T
     have hbS := bytesV_u8 S
     have htk : (T.map u8V).take S.length = T.map u8V := List.take_of_length_le (by simp; omega)
     have htS : (S.map u8V).take S.length = S.map u8V := List.take_of_length_le (by simp)
     obtain ⟨k, hk⟩ : ∃ k, k = cnt10 (S.take i) := ⟨_, rfl⟩
     have hkl : k <= 40000 := by
       have := cnt10_le (S.take i)
       rw [List.length_take] at this
       omega
     have ln := fn29 S i (by omega) (by omega)
     rw [<- hk] at ln
     by_cases h1 : a = 10
     . have f1 : decide ((a.toNat : Int) = 10) = true := by rw [h1]; rfl
       refine CB func6 c6 fun E hE => ?_
       simp [p6]
       refine CLa fn25 ?_
       simp
       refine CLa g ?_
       simp
       refine CLa w0 ?_
       simp [q1, w1, w2, hN1, m1, hi7, bs_toList]
       refine pw_drawW [(15, 31457280)] (by kernel_rfl) ?_
       simp [w4, hi1, hi2, hi3, hi6, hsp, hsp2, hT1l, hj0, hj1, hag, ha', hc', f1, inC, Nat.testBit]
       apply RZ
       simp [results6]
     have f1 : decide ((a.toNat : Int) = 10) = false := decide_eq_false (fun e => h1 (UInt8.toNat_inj.1 (show a.toNat = (10 : UInt8).toNat by have : (10 : UInt8).toNat = 10 := rfl; omega)))
     by_cases h2 : c = 10
     . have f2 : decide ((c.toNat : Int) = 10) = true := by rw [h2]; rfl
       refine CB func6 c6 fun E hE => ?_
       simp [p6]
       refine CLa fn25 ?_
       simp
       refine CLa g ?_
       simp
       refine CLa w0 ?_
       simp [q1, w1, w2, hN1, m1, hi7, bs_toList]
       refine pw_drawW [(15, 31457280)] (by kernel_rfl) ?_
       simp [w4, hi1, hi2, hi3, hi6, hsp, hsp2, hT1l, hj0, hj1, hag, ha', hc', hTl, hT', f1, f2, inC, Nat.testBit]
       apply RZ
       simp [results6]
     have f2 : decide ((c.toNat : Int) = 10) = false := decide_eq_false (fun e => h2 (UInt8.toNat_inj.1 (show c.toNat = (10 : UInt8).toNat by have : (10 : UInt8).toNat = 10 := rfl; omega)))
     by_cases h3 : a = c
     . have f3 : T = S := by
         rw [hT, <- h3, <- set_two (by omega), set_same ha]
         exact set_same (by rw [h3]; exact hc)
       refine CB func6 c6 fun E hE => ?_
       simp [p6]
       refine CLa fn25 ?_
       simp
       refine CLa g ?_
       simp
       refine CLa w0 ?_
       simp [q1, w1, w2, hN1, m1, hi7, bs_toList]
       refine pw_drawW [(15, 31457280)] (by kernel_rfl) ?_
       simp [w4, hi1, hi2, hi3, hi6, hsp, hsp2, hT1l, hj0, hj1, hag, ha', hc', hbS, htS, bs_beq, bs_mk, f1, f3, inC, Nat.testBit]
       apply RZ
       simp [results6]
     have f3 : ¬ T = S := fun e => by
       rw [e, ha] at hTi
       exact h3 (Option.some.inj hTi)
     have hch : Chgd l k T := by
       rw [hk, hT, hS]
       exact chgd_swap ho (hS ▸ ha) (hS ▸ hc) h1 h2 h3
     obtain ⟨r1, r2⟩ := chgd_read hch
     have d : Ct prog 11 [vS T] (.tup [logV (readS T).1, vi (readS T).2.1, vi (readS T).2.2]) [] := fn11 T (by omega)
     obtain ⟨r3, _, r4⟩ := read_err r2
     rw [r1, r3] at d
     generalize (readS T).2.2 = e at d r2 r4
     have dm := fn13 T (by omega)
     have sm := fn15 ⟨[], []⟩ ⟨by simp, by simp, fun x hx => by cases hx⟩
     have w5 : IntKind.wrap .i64 ((k : Int) + 1) = (k : Int) + 1 := wrap64 (by omega) (by omega)
     rcases chgd_dmg hch with hd | hd
     all_goals
       rw [show dmgS T = _ from hd] at dm
       simp only [hdR, bkR, List.cons_ne_nil, if_false, List.length_cons, List.length_nil, Nat.zero_add, Nat.reduceAdd] at dm
       rcases r4 with rfl | rfl | rfl
       all_goals
         refine CB func6 c6 fun E hE => ?_
         simp [p6]
         refine CLa fn25 ?_
         simp
         refine CLa g ?_
         simp
         refine CLa w0 ?_
         simp [q1, w1, w2, hN1, m1, hi7, bs_toList]
         refine pw_drawW [(15, 31457280)] (by kernel_rfl) ?_
         simp [w4, hi1, hi2, hi3, hi6, hsp, hsp2, hT1l, hj0, hj1, hag, ha', hc', hTl, hT', hby, htk, bs_beq, bs_mk, f1, f2, f3, inC, Nat.testBit]
         refine CLa ln ?_
         simp [hTl, hby, htk, bs_mk]
         refine CLa d ?_
         simp [hTl, hby, htk, bs_mk, splice]
         refine CLa dm ?_
         simp [fcel]
         refine CLa sm ?_
         simp [w5]
         apply RZ
         simp [results6]
end Go.Proofs.Tryz
