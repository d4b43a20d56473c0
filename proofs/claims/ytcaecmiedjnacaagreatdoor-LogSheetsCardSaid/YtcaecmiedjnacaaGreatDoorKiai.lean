/- Own lemmas, used by the last text. Conditions: those that each theorem states. -/
import Derived.Lib.AtoiAll
import Derived.Lib.AtoiErrMem
import Derived.Lib.ItoaNum
import Derived.Lib.Join
import Derived.Lib.SplitLaws
import Derived.Test.YtcaecmiedjnacaaGreatDoorKiag
import Derived.Test.YtcaecmiedjnacaaGreatDoorKiah
set_option maxRecDepth 200000
set_option maxHeartbeats 8000000
namespace Go.Proofs.Tryz
open Go.Psl
open Go.Log
open Go.RowKit
abbrev strsV (l : List By) : List V := l.map fun x => vS x
theorem fn76a (s : By) (h0 : 0 < s.length) (hlen : s.length <= 1000000000) : Cm prog 76 [.yl 0, vS s] (lk [(0, [.d (.lit (.slice none 0 0)), vi 0])]) [0] (.ret (.tup [vi s.length, .d (.lit .nilIface)])) (lk (bldL (bs s))) := by
 have := wstr_first wstrL bldX rfl rfl ⟨_, func76, by kernel_rfl, by decide⟩ (bs s) (by rw [bs_size]; exact h0) (by simp only [bs_size]; omega)
 simp only [bs_size] at this
 exact this
theorem fn76b (t s : By) (h0 : 0 < s.length) (hlen : t.length + s.length <= 1000000000) : Cm prog 76 [.yl 0, vS s] (lk (bldL (bs t))) [0] (.ret (.tup [vi s.length, .d (.lit .nilIface)])) (lk (bldL (bs (t ++ s)))) := by
 have := wstr_next wstrL bldX rfl rfl ⟨_, func76, by kernel_rfl, by decide⟩ (bs t) (bs s) (by rw [bs_size]; exact h0) (by simp only [bs_size]; omega)
 simp only [bs_size, bs_append] at this
 exact this
theorem fn77 (t : By) (h0 : 0 < t.length) : Cm prog 77 [.yl 0] (lk (bldL (bs t))) [] (.ret (vS t)) (lk []) :=
 bstr_cm bstrL bldXb rfl rfl ⟨_, func77, by kernel_rfl, by decide⟩ (bs t) (by rw [bs_size]; exact h0)
def sgB (a b i : Nat) : Nat := if i = 0 then a else if i = 1 then b else a + b + i
theorem sgB_inj {a b : Nat} (h : a ≠ b) : ∀ i j, i < 2 -> j < 2 -> sgB a b i = sgB a b j -> i = j := by
 intro i j hi hj he
 unfold sgB at he
 (repeat' split at he) <;> omega
end Go.Proofs.Tryz
namespace Go.Log
def numS (n : Int) : By := Go.Lib.itoa n
theorem nDigits_le : ∀ (k u : Nat), u < 10 ^ (k + 1) -> Go.Lib.nDigits u <= k + 1
 | 0, u, h => by rw [Go.Lib.nDigits_small (by simpa using h)]; omega
 | k + 1, u, h => by
   by_cases hu : u < 10
   . rw [Go.Lib.nDigits_small hu]; omega
   . rw [Go.Lib.nDigits_big hu]
     have := nDigits_le k (u / 10) (by rw [Nat.div_lt_iff_lt_mul (by decide)]; rw [Nat.pow_succ] at h; omega)
     omega
theorem numS_pos (n : Int) : 1 <= (numS n).length := by
 unfold numS Go.Lib.itoa
 split
 . simp
 . rw [Go.Lib.decDigits_length]; exact Go.Lib.nDigits_pos _
end Go.Log
namespace Go.Proofs.Tryz
open Go.Psl
open Go.Log
abbrev strL (x : By) : List D := [dS x]
theorem hfs : ∀ x : By, (strL x).length = 1 := fun _ => rfl
theorem strsV_eq (l : List By) : strsV l = fcel strL l := by
 induction l with
 | nil => rfl
 | cons a l ih => rw [fcel_cons, <- ih]; rfl
theorem wrapu8 {x : Int} (h1 : 0 <= x) (h2 : x < 256) : IntKind.wrap .u8 x = x := by
 have : x % 256 = x := by omega
 simpa [IntKind.wrap, IntKind.bits, IntKind.signed] using this
theorem bld_at1 (a b : Nat) (hab : a ≠ b) (s : By) (h0 : 0 < s.length) (hlen : s.length <= 1000000000) : Cm prog 76 [.yl a, vS s] (lk [(a, [.d (.lit (.slice none 0 0)), vi 0])]) [a] (.ret (.tup [vi s.length, .d (.lit .nilIface)])) (lk [(a, [.yl b, vi s.length]), (b, [vS s, vb false])]) := by
 have := (fn76a s h0 hlen).rename (sgB a b) 2 (sgB_inj hab) (by simp [idsLt]) (by simp [idsLt, bldL]) (by simp)
 simpa [renL, bldL, renR, renC, ren1, ren0, ren2, ren, sgB] using this
theorem bld_at2 (a b : Nat) (hab : a ≠ b) (t s : By) (h0 : 0 < s.length) (hlen : t.length + s.length <= 1000000000) : Cm prog 76 [.yl a, vS s] (lk [(a, [.yl b, vi t.length]), (b, [vS t, vb false])]) [a] (.ret (.tup [vi s.length, .d (.lit .nilIface)])) (lk [(a, [.yl b, vi (t ++ s).length]), (b, [vS (t ++ s), vb false])]) := by
 have := (fn76b t s h0 hlen).rename (sgB a b) 2 (sgB_inj hab) (by simp [idsLt, bldL]) (by simp [idsLt, bldL]) (by simp)
 simpa [renL, bldL, renR, renC, ren1, ren0, ren2, ren, sgB] using this
theorem bld_text (a b : Nat) (hab : a ≠ b) (t : By) (h0 : 0 < t.length) : Cm prog 77 [.yl a] (lk [(a, [.yl b, vi t.length]), (b, [vS t, vb false])]) [] (.ret (vS t)) (lk []) := by
 have := (fn77 t h0).rename (sgB a b) 2 (sgB_inj hab) (by simp [idsLt, bldL]) (by simp [idsLt]) (by simp)
 simpa [renL, bldL, renR, renC, ren1, ren0, ren2, ren, sgB] using this
theorem ship_len {s : By} (h : shipS s = true) : 1 <= s.length /\ s.length <= 8 := by
 simp only [shipS, madeS, betw, Bool.and_eq_true, decide_eq_true_eq] at h
 omega
end Go.Proofs.Tryz
namespace Go.Log
def linesOf : By -> List By
 | [] => []
 | b :: r => if b = 10 then [10] :: linesOf r else match linesOf r with
   | [] => [[b]]
   | l :: ls => (b :: l) :: ls
def firL : By -> By × By
 | [] => ([], [])
 | b :: r => if b = 10 then ([10], r) else (b :: (firL r).1, (firL r).2)
theorem firL_app : ∀ s : By, (firL s).1 ++ (firL s).2 = s
 | [] => rfl
 | b :: r => by
   unfold firL
   split
   . rename_i h; subst h; rfl
   . simp [firL_app r]
theorem firL_len (s : By) : (firL s).1.length + (firL s).2.length = s.length := by
 have := congrArg List.length (firL_app s)
 simpa using this
theorem firL_pos {s : By} (h : s ≠ []) : 0 < (firL s).1.length := by
 cases s with
 | nil => exact absurd rfl h
 | cons b r => unfold firL; split <;> simp
theorem linesOf_cons (b : UInt8) (r : By) : linesOf (b :: r) = if b = 10 then [10] :: linesOf r else match linesOf r with
   | [] => [[b]]
   | l :: ls => (b :: l) :: ls := by rw [linesOf]
theorem firL_cons (b : UInt8) (r : By) : firL (b :: r) = if b = 10 then ([10], r) else (b :: (firL r).1, (firL r).2) := by rw [firL]
theorem linesOf_fir : ∀ {s : By}, s ≠ [] -> linesOf s = (firL s).1 :: linesOf (firL s).2
 | [], h => absurd rfl h
 | b :: r, _ => by
   rw [linesOf_cons, firL_cons]
   by_cases hb : b = 10
   . rw [if_pos hb, if_pos hb]
   . rw [if_neg hb, if_neg hb]
     cases r with
     | nil => rfl
     | cons c t =>
       rw [linesOf_fir (s := c :: t) (by simp)]
theorem lines_le (s : By) : (linesOf s).length <= s.length := by
 induction s with
 | nil => simp [linesOf]
 | cons b r ih =>
   unfold linesOf
   split
   . simp; omega
   . split
     . simp
     . rename_i l ls h; rw [h] at ih; simp at ih ⊢; omega
def chopS (l : By) : By := if l.getLast? = some 10 then l.dropLast else l
theorem lines_mem_len : ∀ {s l : By}, l ∈ linesOf s -> l.length <= s.length
 | [], _, h => by simp [linesOf] at h
 | b :: r, l, h => by
   rw [linesOf_fir (by simp)] at h
   have h1 := firL_len (b :: r)
   have h2 := firL_pos (s := b :: r) (by simp)
   rcases List.mem_cons.1 h with rfl | h
   . omega
   . have := lines_mem_len (s := (firL (b :: r)).2) h
     omega
 termination_by s => s.length
 decreasing_by
   have _ := firL_len (b :: r)
   have _ := firL_pos (s := b :: r) (by simp)
   omega
end Go.Log
namespace Go.Proofs.Tryz
open Go.Psl
open Go.Log
theorem num_neg {n : Int} (h : n < 0) : numS n = 45 :: numS (-n) := by
 unfold numS Go.Lib.itoa
 rw [if_pos h, if_neg (by omega)]
 congr 2
 omega
theorem num_one {n : Int} (h0 : 0 <= n) (h1 : n < 10) : numS n = [UInt8.ofNat (48 + n).toNat] := by
 unfold numS Go.Lib.itoa
 rw [if_neg (by omega), Go.Lib.decDigits_one (by omega)]
 congr 2
 omega
theorem num_two {n : Int} (h : 10 <= n) : numS n = numS (n / 10) ++ numS (n % 10) := by
 rw [num_one (n := n % 10) (by omega) (by omega)]
 unfold numS Go.Lib.itoa
 rw [if_neg (by omega), if_neg (by omega), Go.Lib.decDigits, dif_neg (by omega)]
 congr 2
 . congr 1; omega
 . congr 1; omega
theorem num_len13 (n : Int) (h0 : -100000000000000 < n) (h1 : n < 100000000000000) : (numS n).length <= 15 := by
 unfold numS Go.Lib.itoa
 split
 . simp only [List.length_cons, Go.Lib.decDigits_length]
   have := nDigits_le 13 n.natAbs (by omega)
   omega
 . rw [Go.Lib.decDigits_length]
   have := nDigits_le 13 n.toNat (by omega)
   omega
theorem number_nn (m : Nat) : ∀ n : Int, 0 <= n -> n.toNat <= m -> n < 100000000000000 -> Ct prog 104 [vi n] (vS (numS n)) [] := by
 induction m using Nat.strongRecOn with
 | _ m ih =>
   intro n h0 h1 h2
   have hn0 : ¬ n < 0 := by omega
   by_cases h : n < 10
   . have w1 : IntKind.wrap .i64 (48 + n) = 48 + n := wrap64 (by omega) (by omega)
     have w2 : IntKind.wrap .u8 (48 + n) = 48 + n := wrapu8 (by omega) (by omega)
     have k1 : (0 : Int) <= 48 + n /\ 48 + n < 256 := by omega
     refine CB func104 c104 fun E hE => ?_
     simp [p104, hn0, h, w1, w2, k1, splice, repl]
     apply RZ
     simp [results104, num_one h0 h]
   . have q1 : n.tdiv 10 = n / 10 := Int.tdiv_eq_ediv_of_nonneg h0
     have q2 : n.tmod 10 = n % 10 := Int.tmod_eq_emod_of_nonneg h0
     have w1 : IntKind.wrap .i64 (n / 10) = n / 10 := wrap64 (by omega) (by omega)
     have c1 := ih (n / 10).toNat (by omega) (n / 10) (by omega) (by omega) (by omega)
     have c2 := ih (n % 10).toNat (by omega) (n % 10) (by omega) (by omega) (by omega)
     have l1 := num_len13 (n / 10) (by omega) (by omega)
     have l2 := num_len13 (n % 10) (by omega) (by omega)
     have b1 : (numS (n / 10)).length + (numS (n % 10)).length <= 9223372036854775807 := by omega
     refine CB func104 c104 fun E hE => ?_
     simp [p104, hn0, h, q1, w1]
     refine CLa c1 ?_
     simp [q2]
     refine CLa c2 ?_
     simp [b1]
     apply RZ
     simp [results104, num_two (n := n) (by omega)]
theorem fn104 (n : Int) (h0 : -100000000000000 < n) (h1 : n < 100000000000000) : Ct prog 104 [vi n] (vS (numS n)) [] := by
 by_cases h : n < 0
 . have c1 := number_nn _ (-n) (by omega) (Nat.le_refl _) (by omega)
   have w1 : IntKind.wrap .i64 (-n) = -n := wrap64 (by omega) (by omega)
   have l1 := num_len13 (-n) (by omega) (by omega)
   have b1 : 1 + (numS (-n)).length <= 9223372036854775807 := by omega
   have b2 : (numS (-n)).length + 1 <= 9223372036854775807 := by omega
   refine CB func104 c104 fun E hE => ?_
   simp [p104, h, w1]
   refine CLa c1 ?_
   simp [b1]
   apply RZ
   simp [results104, num_neg h]
 . exact number_nn _ n (by omega) (Nat.le_refl _) h1
def scanL (s : By) : Nat -> List By × Nat
 | 0 => ([], 0)
 | i + 1 => if s[i]? = some 10 then ((scanL s i).1 ++ [(s.take i).drop (scanL s i).2], i + 1) else scanL s i
theorem scanL_bd (s : By) : ∀ i, (scanL s i).2 <= i /\ (scanL s i).1.length <= i
 | 0 => by simp [scanL]
 | i + 1 => by
   have := scanL_bd s i
   unfold scanL
   split
   . simp; omega
   . omega
def hdT (k : Nat) (ls : List By) : V := if ls = [] then .d (.lit (.slice none 0 0)) else .ls k 0 ls.length 1
def bkT (k : Nat) (ls : List By) : List (Nat × List V) := if ls = [] then [] else [(k, fcel strL ls)]
def finL (s : By) : List By × Bool := if (scanL s s.length).2 < s.length then ((scanL s s.length).1 ++ [s.drop (scanL s s.length).2], false) else ((scanL s s.length).1, true)
theorem fn51 (s : By) (hl : s.length <= 1000000) : Ct prog 51 [vS s] (.tup [hdT 0 (finL s).1, vb (finL s).2]) (bkT 0 (finL s).1) := by
 have hri : ResIds (.tup [hdT 0 (finL s).1, vb (finL s).2]) (bkT 0 (finL s).1) := by
   unfold hdT bkT
   split
   . simp [ResIds]
   . simp [ResIds]
 have hne : ∀ (ls : List By) (x : By), ¬ (ls ++ [x] = []) := fun ls x => by simp
 refine Ct.by gok eok mixed func51 c51 rfl (by simp [ntmps51]) (by simp) hri fun E hE => ?_
 simp [p51]
 refine pw_loop (α := Nat) (fun i => ⟨slots [(0, vS s), (4, hdT 0 (scanL s i).1), (5, vi (scanL s i).2), (6, vi i)], lk (bkT 0 (scanL s i).1), 1⟩) (fun i => i <= s.length) (fun i => s.length - i) 0 ?_ ?_ ?_
 . omega
 . simp only [scanL, hdT, bkT, if_true]
   exact WK hE (lk [])
 . intro i hi
   have hbd := scanL_bd s i
   have hsl := fcel_len hfs (scanL s i).1
   have hwh := fcel_whole hfs (scanL s i).1
   rw [Nat.mul_one] at hsl hwh
   by_cases h : i < s.length
   . obtain ⟨b, hb⟩ := gE h
     have hz := @wz i (by omega)
     have hI : (i : Int) < s.length := by omega
     have i1 : ((scanL s i).2 : Int) <= i := by omega
     have i2 : (scanL s i).2 <= i := by omega
     have i3 : i <= s.length := by omega
     have i4 : (i : Int) <= s.length := by omega
     have n1 : ((scanL s i).1.length + 1) * 16 <= 140737488355328 := by omega
     have n2 : (scanL s i).1.length + 1 <= 9223372036854775807 := by omega
     by_cases hb10 : b = 10
     . subst hb10
       have h10 : True := trivial
       have hnx : scanL s (i + 1) = ((scanL s i).1 ++ [(s.take i).drop (scanL s i).2], i + 1) := by rw [scanL, if_pos hb]
       by_cases he : (scanL s i).1 = []
       . simp only [hdT, bkT, he, if_true]
         simp [p51l0, hI, hb, splice, repl, i2, i4, hz]
         refine ⟨i + 1, by omega, by omega, ?_⟩
         rw [hnx]
         simp only [he, List.nil_append]
         refine Weak.mk hE (lk [(0, 14680065)]) _ _ _ ?_ ?_ ?_ ?_ ?_ <;> simp [fcel]
       . simp only [hdT, bkT, he, if_false]
         simp [p51l0, hI, hb, splice, repl, i2, i4, hz, hsl, hwh, n1, n2]
         refine ⟨i + 1, by omega, by omega, ?_⟩
         rw [hnx]
         simp only [hne, if_false]
         refine Weak.mk hE (lk [(0, 14680065)]) _ _ _ ?_ ?_ ?_ ?_ ?_ <;> simp [fcel_one, List.length_append]
     . have h10 : ¬ ((b.toNat : Int) = 10) := fun e => hb10 (UInt8.toNat_inj.1 (by simpa using (by omega : b.toNat = 10)))
       have hnx : scanL s (i + 1) = scanL s i := by
         rw [scanL, if_neg]
         rw [hb]
         intro e
         exact hb10 (Option.some.inj e)
       by_cases he : (scanL s i).1 = []
       . simp only [hdT, bkT, he, if_true]
         simp [p51l0, hI, hb, h10, hz]
         refine ⟨i + 1, by omega, by omega, ?_⟩
         rw [hnx]
         simp only [he, if_true]
         exact WK hE (lk [])
       . simp only [hdT, bkT, he, if_false]
         simp [p51l0, hI, hb, h10, hz]
         refine ⟨i + 1, by omega, by omega, ?_⟩
         rw [hnx]
         simp only [he, if_false]
         exact WK hE (lk [(0, 0)])
   . have e : i = s.length := by omega
     subst e
     have hI : ¬ ((s.length : Int) < s.length) := by omega
     have n1 : ((scanL s s.length).1.length + 1) * 16 <= 140737488355328 := by omega
     have n2 : (scanL s s.length).1.length + 1 <= 9223372036854775807 := by omega
     have i1 : ((scanL s s.length).2 : Int) <= s.length := by omega
     have i2 : (scanL s s.length).2 <= s.length := by omega
     have ht : s.take s.length = s := List.take_length
     by_cases hf : (scanL s s.length).2 < s.length
     . have hfI : ((scanL s s.length).2 : Int) < s.length := by omega
       have hfin : finL s = ((scanL s s.length).1 ++ [s.drop (scanL s s.length).2], false) := by unfold finL; rw [if_pos hf]
       rw [hfin]
       by_cases he : (scanL s s.length).1 = []
       . simp only [hdT, bkT, he, if_true, List.nil_append]
         simp [p51l0, hfI, i2, splice, repl]
         refine RetOk.by (lk [(0, 13631489)]) ?_
         simp [results51, fcel]
       . simp only [hdT, bkT, he, if_false, hne]
         simp [p51l0, hfI, i2, splice, repl, hsl, hwh, n1, n2]
         refine RetOk.by (lk [(0, 13631489)]) ?_
         simp [results51, fcel_one]
     . have hfI : ¬ ((scanL s s.length).2 : Int) < s.length := by omega
       have hfin : finL s = ((scanL s s.length).1, true) := by unfold finL; rw [if_neg hf]
       rw [hfin]
       by_cases he : (scanL s s.length).1 = []
       . simp only [hdT, bkT, he, if_true]
         simp [p51l0, hfI]
         apply RZ
         simp [results51]
       . simp only [hdT, bkT, he, if_false]
         simp [p51l0, hfI]
         refine RetOk.by (lk [(0, 0)]) ?_
         simp [results51]
theorem linesOf_lf : ∀ (u v : By), (10 : UInt8) ∉ u -> linesOf (u ++ 10 :: v) = (u ++ [10]) :: linesOf v
 | [], v, _ => by rw [List.nil_append, linesOf_cons, if_pos rfl]; rfl
 | b :: u, v, h => by
   have hb : ¬ b = 10 := fun e => h (by simp [e])
   rw [List.cons_append, linesOf_cons, if_neg hb, linesOf_lf u v (fun e => h (by simp [e]))]
   rfl
theorem linesOf_no : ∀ (u : By), (10 : UInt8) ∉ u -> u ≠ [] -> linesOf u = [u]
 | [], _, h => absurd rfl h
 | b :: u, h, _ => by
   have hb : ¬ b = 10 := fun e => h (by simp [e])
   rw [linesOf_cons, if_neg hb]
   cases u with
   | nil => rfl
   | cons c t => rw [linesOf_no (c :: t) (fun e => h (by simp [e])) (by simp)]
theorem chop_lf (u : By) : chopS (u ++ [10]) = u := by simp [chopS]
theorem chop_no {u : By} (h : (10 : UInt8) ∉ u) : chopS u = u := by
 unfold chopS
 rw [if_neg]
 intro e
 exact h (List.mem_of_getLast? e)
theorem scan_inv (s : By) : ∀ i, i <= s.length -> linesOf s = (scanL s i).1.map (· ++ [10]) ++ linesOf (s.drop (scanL s i).2) /\ (10 : UInt8) ∉ (s.take i).drop (scanL s i).2 /\ ∀ l ∈ (scanL s i).1, (10 : UInt8) ∉ l
 | 0, _ => by simp [scanL]
 | i + 1, hi => by
   obtain ⟨h1, h2, h3⟩ := scan_inv s i (by omega)
   have hbd := scanL_bd s i
   have hlt : i < s.length := by omega
   by_cases hb : s[i]? = some 10
   . rw [scanL, if_pos hb]
     generalize hfr : (scanL s i).2 = fr at *
     generalize (scanL s i).1 = out at *
     have hs : s[i] = 10 := by rw [List.getElem?_eq_getElem hlt] at hb; exact Option.some.inj hb
     have e : s.drop fr = (s.take i).drop fr ++ 10 :: s.drop (i + 1) := by
       have h4 : s = s.take i ++ 10 :: s.drop (i + 1) := by
         conv => lhs; rw [<- List.take_append_drop i s, List.drop_eq_getElem_cons hlt, hs]
       conv => lhs; rw [h4]
       rw [List.drop_append_of_le_length (by rw [List.length_take]; omega)]
     refine ⟨?_, by simp, fun l hl => ?_⟩
     . rw [h1, e, linesOf_lf _ _ h2]
       simp
     . rcases List.mem_append.1 hl with hl | hl
       . exact h3 l hl
       . simp only [List.mem_cons, List.not_mem_nil, or_false] at hl
         subst hl
         exact h2
   . rw [scanL, if_neg hb]
     refine ⟨h1, ?_, h3⟩
     rw [List.take_add_one, List.getElem?_eq_getElem hlt, Option.toList_some, List.drop_append_of_le_length (by rw [List.length_take]; omega)]
     intro hm
     rcases List.mem_append.1 hm with hm | hm
     . exact h2 hm
     . simp only [List.mem_cons, List.not_mem_nil, or_false] at hm
       exact hb (by rw [List.getElem?_eq_getElem hlt, hm])
theorem finL_eq (s : By) : (finL s).1 = (linesOf s).map chopS := by
 obtain ⟨h1, h2, h3⟩ := scan_inv s s.length (Nat.le_refl _)
 rw [List.take_length] at h2
 have hm : ((scanL s s.length).1.map (· ++ [10])).map chopS = (scanL s s.length).1 := by
   rw [List.map_map]
   conv => rhs; rw [<- List.map_id (scanL s s.length).1]
   exact List.map_congr_left fun x _ => chop_lf x
 unfold finL
 split
 . rename_i h
   have hne : s.drop (scanL s s.length).2 ≠ [] := fun e => by
     have := congrArg List.length e
     simp at this
     omega
   rw [h1, linesOf_no _ h2 hne, List.map_append, hm]
   simp [chop_no h2]
 . rename_i h
   have he : s.drop (scanL s s.length).2 = [] := List.drop_eq_nil_of_le (by omega)
   rw [h1, he, List.map_append, hm]
   simp [linesOf]
open Go.RowKit
def errV : V := .d (.ifc 223 false [.ref []])
theorem ofErr {f : FuncId} {vs0 : List Value} {n : Int} (hf : isFn prog f)
   (h : ∀ W, GlobN W -> Calls prog f vs0.toArray W fun e W' => ∃ N c, e = .returned (.tuple #[.int .i64 n, .iface 223 (.pointer (some ⟨N, 0, none⟩))]) /\ W.heap.size <= N /\ W'.heap[N]? = some c /\ Below W.heap.size W W') : Ct prog f (vs0.map cV) (.tup [vi n, errV]) [] := by
 refine ⟨hf, fun G W xs hGW hargs hpre => ?_⟩
 have hx := lit_args hargs
 obtain ⟨xs⟩ := xs
 simp only at hx
 subst hx
 refine Calls.mono (h W hGW.globN) fun e W' ⟨N, c, he, hN, hc, hb⟩ => ?_
 subst he
 have hlt := (Array.getElem?_eq_some_iff.1 hc).1
 refine ⟨{ G with Im := fun b => G.Im b \/ b = N }, ⟨hb.os, hb.tape, hb.output, Nat.le_refl _, hb.size, fun b hb' _ => hb.block b hb', fun b hb' => ?_, fun _ h => .inl h, ?_, ?_, ?_, ?_, ?_⟩⟩
 . rcases hb' with h | rfl
   . exact ⟨Nat.lt_of_lt_of_le (hGW.1 b h) hb.size, .inl h⟩
   . exact ⟨hlt, .inr (.inl hN)⟩
 . refine ⟨_, rfl, .lit _ rfl, ?_, trivial⟩
   exact .ifc1 _ _ _ (.ref [] ⟨N, 0, none⟩ (fun _ => undef) (.inr rfl) (fun j x h => by simp at h) (fun j x h => by simp at h))
 . intro c hc
   simp at hc
   rcases hc with rfl | rfl <;> trivial
 . intro i cs h; cases h
 . intro i j h; simp [InH, lk] at h
 . intro i h; cases h
theorem synVar {W : World} (h : GlobN W) : ∃ tp p, W.var? prog "strconv.ErrSyntax" = some #[.iface tp p] := by
 obtain ⟨Wr, h1, h2⟩ := h
 have := h1 gSyn (by decide)
 obtain ⟨tp, p, h3⟩ : ∃ tp p, tabW Wr gSyn #[.iface tp p] := by simpa [globAt, gSyn, gMax] using this
 exact ⟨tp, p, tab_var (tab_of h3 h2) atoiL.m15⟩
theorem rngVar {W : World} (h : GlobN W) : ∃ tp p, W.var? prog "strconv.ErrRange" = some #[.iface tp p] := by
 obtain ⟨Wr, h1, h2⟩ := h
 have := h1 gRng (by decide)
 obtain ⟨tp, p, h3⟩ : ∃ tp p, tabW Wr gRng #[.iface tp p] := by simpa [globAt, gRng, gSyn, gMax] using this
 exact ⟨tp, p, tab_var (tab_of h3 h2) atoiL.m16⟩
def numA (s : By) : Int := match Go.Lib.atoiAll s with
 | .ok v => v
 | _ => -4611686018427387904
def isSyn : Go.Lib.NumEnd Int -> Bool
 | .ok _ => false
 | .range => false
 | _ => true
theorem atoi_three (s : By) : (∃ v, Go.Lib.atoiAll s = .ok v) \/ isSyn (Go.Lib.atoiAll s) = true \/ Go.Lib.atoiAll s = .range := by
 cases Go.Lib.atoiAll s <;> simp [isSyn]
theorem numA_syn {s : By} (h : isSyn (Go.Lib.atoiAll s) = true) : numA s = -4611686018427387904 := by
 unfold numA
 revert h
 cases Go.Lib.atoiAll s <;> simp [isSyn]
theorem atoi_syn (s : By) (hs : s.length <= 1000000000) (h : isSyn (Go.Lib.atoiAll s) = true) : Ct prog 90 [vS s] (.tup [vi 0, errV]) [] :=
 ofErr (vs0 := [.string (bs s)]) ⟨_, func90, by kernel_rfl, by decide⟩ fun W hW => by
   obtain ⟨tp, p, hv⟩ := synVar hW
   exact (Go.Proofs.Any.strconv_Atoi_syntax_var atoiL (bs s) (by simp only [bs_size]; omega) (by rw [bs_toList]; revert h; cases Go.Lib.atoiAll s <;> simp [isSyn]) tp p W hv).mono fun e W' ⟨N, he, hN, hc, hb⟩ => ⟨N, _, he, hN, hc, hb⟩
theorem atoi_rng (s : By) (hs : s.length <= 1000000000) (h : Go.Lib.atoiAll s = .range) : Ct prog 90 [vS s] (.tup [vi (Go.Lib.atoiSat s), errV]) [] :=
 ofErr (vs0 := [.string (bs s)]) ⟨_, func90, by kernel_rfl, by decide⟩ fun W hW => by
   obtain ⟨tp, p, hv⟩ := rngVar hW
   have := (Go.Proofs.Any.strconv_Atoi_range_var atoiL (bs s) (by simp only [bs_size]; omega) (by rw [bs_toList]; exact h) tp p W hv)
   rw [bs_toList] at this
   exact this.mono fun e W' ⟨N, he, hN, hc, hb⟩ => ⟨N, _, he, hN, hc, hb⟩
theorem number_ok (s : By) (v : Int) (hs : s.length <= 1000000000) (h : Go.Lib.atoiAll s = .ok v) : Ct prog 43 [vS s] (vi v) [] :=
 Cm.ofLit (vs0 := [.string (bs s)]) (v := .int .i64 v) ⟨_, func43, by kernel_rfl, by decide⟩ rfl fun W hW => by
   have e90 : ∀ args w, (callFunc 90 args).run prog w = .ok (.enter 90 args) w := Go.Proofs.enters_of func90 (by kernel_rfl) rfl
   go_enter func43, ntmps43
   go_wp2_with (go_at_fn 90; refine (Go.Proofs.Any.strconv_Atoi_ok atoiL (bs s) (by simp only [bs_size]; omega) v (by rw [bs_toList]; exact h) _).mono ?_; rintro e w' ⟨rfl, hw⟩)
   go_ret
   refine ⟨rfl, ?_⟩
   rcases hw with rfl | ⟨t, rfl⟩
   . exact Below.refl _ _
   . exact Go.Lib.bytesWorld_below _ _ _
theorem fn43 (s : By) (hs : s.length <= 1000000000) : Ct prog 43 [vS s] (vi (numA s)) [] := by
 cases atoi_three s with
 | inl h =>
   obtain ⟨v, h⟩ := h
   have := number_ok s v hs h
   simpa only [numA, h] using this
 | inr h =>
 cases h with
 | inl h =>
   have c1 := atoi_syn s hs h
   have h := numA_syn h
   unfold errV at c1
   refine CB func43 c43 fun E hE => ?_
   simp [p43]
   refine CLa c1 ?_
   simp
   apply RZ
   simp [results43, h]
 | inr h =>
   have c1 := atoi_rng s hs h
   unfold errV at c1
   refine CB func43 c43 fun E hE => ?_
   simp [p43]
   refine CLa c1 ?_
   simp
   apply RZ
   simp [results43, numA, h]
end Go.Proofs.Tryz
namespace Go.Psl
variable {P : Program} {Γ : Tys} {eqs : Eqs} {K : RK} {Kx : V -> RK} {b n : Nat} {r : List PO} {f : Nat -> V} {H : Hp} {dst : Option Nat}
def panK (Kx : V -> RK) (f : Nat -> V) (H : Hp) (n : Nat) : V -> Prop
 | .d (.ifc t ag cs) => Kx (.d (.ifc t ag cs)) f H n
 | _ => False
theorem panK_ifc {t : TypeId} {ag : Bool} {cs : List D} : panK Kx f H n (.d (.ifc t ag cs)) = Kx (.d (.ifc t ag cs)) f H n := nrfl rfl
theorem rr_pan {x : Operand} : rr P Γ eqs Kx K b (⟨dst, .panic x, none⟩ :: r) f H = panK Kx f H (b + 1048576) (evF f x) := by
 simp only [rr, runR, PO.run, gV2, stepC, evalOp, true_and]
 unfold panK
 split
 . rename_i t ag cs h; rw [h]; simp
 . rename_i h
   simp only [eq_iff_iff, iff_false, not_and]
   rintro ⟨t, ag, cs, e⟩
   exact absurd e (h t ag cs)
attribute [simp] rr_pan panK_ifc xQ_eq
end Go.Psl
namespace Go.Log
def splC (c : UInt8) : By -> List By
 | [] => [[]]
 | b :: r => if b = c then [] :: splC c r else match splC c r with
   | [] => [[b]]
   | x :: xs => (b :: x) :: xs
theorem splC_ne (c : UInt8) : ∀ s : By, splC c s ≠ []
 | [] => by simp [splC]
 | b :: r => by
   unfold splC
   split
   . simp
   . split <;> simp
theorem index_one_ne {b c : UInt8} (r : By) (h : b ≠ c) : Go.Lib.index (b :: r) [c] = if Go.Lib.index r [c] = -1 then -1 else Go.Lib.index r [c] + 1 := by
 have h1 : List.isPrefixOf [c] (b :: r) = false := by simp [List.isPrefixOf]; exact fun e => h e.symm
 conv => lhs; unfold Go.Lib.index
 rw [h1]
 simp only [Bool.false_eq_true, if_false, beq_iff_eq]
theorem splitC_eq (c : UInt8) : ∀ s : By, Go.Lib.splitK [c] 0 (Go.Lib.count s [c]) s = splC c s
 | [] => by
   have : Go.Lib.count [] [c] = 0 := by rw [Go.Lib.count_one]; rfl
   rw [this]; rfl
 | b :: r => by
   have ih := splitC_eq c r
   by_cases hb : b = c
   . subst hb
     have h0 : Go.Lib.index (b :: r) [b] = 0 := by
       unfold Go.Lib.index
       simp [List.isPrefixOf]
     rw [Go.Lib.count_cons_eq, Nat.add_comm]
     unfold Go.Lib.splitK splC
     rw [h0]
     simp only [if_true]
     rw [<- ih]
     simp
   . rw [Go.Lib.count_cons_ne _ _ _ hb]
     unfold splC
     rw [if_neg hb, <- ih]
     cases hk : Go.Lib.count r [c] with
     | zero => rfl
     | succ k =>
       have hne : ¬ Go.Lib.index r [c] = -1 := fun e => by rw [Go.Lib.count_miss e] at hk; cases hk
       have hge := Go.Lib.index_ge r [c]
       obtain ⟨i, hi⟩ : ∃ i : Nat, Go.Lib.index r [c] = i := ⟨(Go.Lib.index r [c]).toNat, by omega⟩
       have h1 : ¬ ((i : Int) = -1) := by omega
       have h2 : ¬ ((i : Int) + 1 = -1) := by omega
       unfold Go.Lib.splitK
       rw [index_one_ne r hb, hi, if_neg h1]
       simp only [beq_iff_eq, h1, h2, if_false, Nat.add_zero]
       have e1 : ((i : Int) + 1).toNat = i + 1 := by omega
       have e2 : (i : Int).toNat = i := by omega
       rw [e1, e2]
       simp
def noB (c : UInt8) (s : By) : Prop := ∀ b ∈ s, b ≠ c
theorem splC_one {c : UInt8} : ∀ {x : By}, noB c x -> splC c x = [x]
 | [], _ => rfl
 | b :: r, h => by
   unfold splC
   rw [if_neg (h b (by simp)), splC_one (x := r) fun d hd => h d (by simp [hd])]
theorem splC_app {c : UInt8} : ∀ {x : By} (y : By), noB c x -> splC c (x ++ c :: y) = x :: splC c y
 | [], y, _ => by rw [List.nil_append, splC, if_pos rfl]
 | b :: r, y, h => by
   rw [List.cons_append, splC, if_neg (h b (by simp)), splC_app (x := r) y fun d hd => h d (by simp [hd])]
abbrev splP : By -> List By := splC 32
theorem splC_sep (c : UInt8) : ∀ t : By, splC c (t ++ [c]) = splC c t ++ [[]]
 | [] => by simp [splC]
 | a :: t => by
   have ih := splC_sep c t
   rw [List.cons_append, splC, ih]
   conv => rhs; rw [splC]
   split
   . rfl
   . obtain ⟨x, xs, e⟩ := List.exists_cons_of_ne_nil (splC_ne c t)
     rw [e]; rfl
theorem splC_chr {c b : UInt8} (h : b ≠ c) : ∀ t : By, ∃ r x, splC c t = r ++ [x] /\ splC c (t ++ [b]) = r ++ [x ++ [b]]
 | [] => ⟨[], [], rfl, by simp [splC, h]⟩
 | a :: t => by
   obtain ⟨r, x, h1, h2⟩ := splC_chr h t
   rw [List.cons_append, splC, splC, h1, h2]
   by_cases hc : a = c
   . rw [if_pos hc, if_pos hc]
     exact ⟨[] :: r, x, rfl, rfl⟩
   . rw [if_neg hc, if_neg hc]
     cases r with
     | nil => exact ⟨[], a :: x, rfl, rfl⟩
     | cons y r => exact ⟨(a :: y) :: r, x, rfl, rfl⟩
theorem splC_len (c : UInt8) : ∀ s : By, 1 <= (splC c s).length /\ (splC c s).length <= s.length + 1
 | [] => by simp [splC]
 | b :: r => by
   have ih := splC_len c r
   unfold splC
   split
   . simp; omega
   . obtain ⟨x, xs, e⟩ := List.exists_cons_of_ne_nil (splC_ne c r)
     rw [e] at ih ⊢
     simp at ih ⊢; omega
theorem splC_mem {c : UInt8} : ∀ {s x : By}, x ∈ splC c s -> x.length <= s.length
 | [], x, h => by simp [splC] at h; subst h; simp
 | b :: r, x, h => by
   unfold splC at h
   split at h
   . rcases List.mem_cons.1 h with rfl | h
     . simp
     . have := splC_mem (s := r) h; simp; omega
   . obtain ⟨y, ys, e⟩ := List.exists_cons_of_ne_nil (splC_ne c r)
     rw [e] at h
     rcases List.mem_cons.1 h with rfl | h
     . have := splC_mem (s := r) (x := y) (by rw [e]; simp)
       simp; omega
     . have := splC_mem (s := r) (x := x) (by rw [e]; simp [h])
       simp; omega
theorem dec_small {u : Nat} (h : u < 10) : Go.Lib.decDigits u = [UInt8.ofNat (48 + u)] := Go.Lib.decDigits_one h
theorem dec_big {u : Nat} (h : ¬ u < 10) : Go.Lib.decDigits u = Go.Lib.decDigits (u / 10) ++ [UInt8.ofNat (48 + u % 10)] := by
 rw [Go.Lib.decDigits, dif_neg h]
theorem ofNat_toNat {n : Nat} (h : n < 256) : (UInt8.ofNat n).toNat = n := by simp [UInt8.toNat_ofNat']; omega
theorem dec_dg : ∀ (u : Nat), ∀ b ∈ Go.Lib.decDigits u, 48 <= b.toNat /\ b.toNat <= 57 := by
 intro u
 induction u using Nat.strongRecOn with
 | _ u ih =>
   intro b hb
   by_cases h : u < 10
   . rw [dec_small h] at hb
     simp only [List.mem_singleton] at hb
     subst hb
     rw [ofNat_toNat (by omega)]; omega
   . rw [dec_big h, List.mem_append] at hb
     rcases hb with hb | hb
     . exact ih (u / 10) (by omega) b hb
     . simp only [List.mem_singleton] at hb
       subst hb
       rw [ofNat_toNat (by omega)]; omega
theorem dec_ne (u : Nat) : Go.Lib.decDigits u ≠ [] := by
 by_cases h : u < 10
 . rw [dec_small h]; simp
 . rw [dec_big h]; simp
theorem numS_by {n : Int} {b : UInt8} (h : b ∈ numS n) : b = 45 \/ (48 <= b.toNat /\ b.toNat <= 57) := by
 unfold numS Go.Lib.itoa at h
 split at h
 . rcases List.mem_cons.1 h with h | h
   . exact .inl h
   . exact .inr (dec_dg _ _ h)
 . exact .inr (dec_dg _ _ h)
theorem numS_no {n : Int} {c : UInt8} (h1 : c ≠ 45) (h2 : c.toNat < 48 \/ 57 < c.toNat) : noB c (numS n) := by
 intro b hb e
 subst e
 rcases numS_by hb with h | h
 . exact h1 h
 . omega
theorem numS_ne (n : Int) : numS n ≠ [] := by
 have := numS_pos n
 intro e; rw [e] at this; simp at this
theorem parse_app : ∀ (l : By) (acc : Nat) (c : UInt8), Go.Lib.parseUint10 acc (l ++ [c]) = match Go.Lib.parseUint10 acc l with
   | .ok a => Go.Lib.parseUint10 a [c]
   | r => r
 | [], acc, c => by simp [Go.Lib.parseUint10]
 | d :: l, acc, c => by
   simp only [List.cons_append, Go.Lib.parseUint10]
   split
   . split
     . rfl
     . split
       . rfl
       . exact parse_app l _ c
   . rfl
theorem parse_dec : ∀ (u : Nat), u < 9223372036854775808 -> Go.Lib.parseUint10 0 (Go.Lib.decDigits u) = .ok u := by
 intro u
 induction u using Nat.strongRecOn with
 | _ u ih =>
   intro hu
   by_cases h : u < 10
   . rw [dec_small h]
     have := ofNat_toNat (n := 48 + u) (by omega)
     simp only [Go.Lib.parseUint10, this]
     rw [if_pos (by omega), if_neg (by omega), if_neg (by omega)]
     congr 1; omega
   . rw [dec_big h, parse_app, ih (u / 10) (by omega) (by omega)]
     have := ofNat_toNat (n := 48 + u % 10) (by omega)
     simp only [Go.Lib.parseUint10, this]
     rw [if_pos (by omega), if_neg (by omega), if_neg (by omega)]
     congr 1; omega
theorem atoi_num {v : Int} (h0 : -9223372036854775808 < v) (h1 : v < 9223372036854775808) : Go.Lib.atoiAll (numS v) = .ok v := by
 unfold numS Go.Lib.itoa
 by_cases hv : v < 0
 . rw [if_pos hv]
   have e45 : (45 : UInt8).toNat = 45 := rfl
   simp only [Go.Lib.atoiAll, e45, if_true, or_true, Go.Lib.parseMag, dec_ne, if_false]
   rw [parse_dec _ (by omega)]
   simp only [not_true_eq_false, false_and, if_false, true_and]
   rw [if_neg (by omega)]
   congr 1; omega
 . rw [if_neg hv]
   obtain ⟨c, r, e⟩ := List.exists_cons_of_ne_nil (dec_ne v.toNat)
   have hc := dec_dg v.toNat c (by rw [e]; simp)
   have hp := parse_dec v.toNat (by omega)
   rw [e] at hp ⊢
   have h43 : ¬ (c.toNat = 43) := by omega
   have h45 : ¬ (c.toNat = 45) := by omega
   simp only [Go.Lib.atoiAll, h43, h45, or_false, if_false, Go.Lib.parseMag]
   rw [if_neg (by simp), hp]
   simp only [not_false_eq_true, true_and, false_and, if_false]
   rw [if_neg (by omega)]
   congr 1; omega
def digs : By -> Int -> Option Int
 | [], n => some n
 | d :: r, n => if dgB d = true /\ n <= 1000000000000 then digs r (n * 10 + ((d.toNat : Int) - 48)) else none
def negB (s : By) : Bool := decide (s.head? = some 45)
def dgsOf (s : By) : By := if negB s then s.tail else s
def sgn (s : By) (n : Int) : Int := if negB s then -n else n
def valS (s : By) : Int × Bool := match digs (dgsOf s) 0 with
 | none => (0, false)
 | some n => (sgn s n, decide (dgsOf s ≠ []) && decide (numS (sgn s n) = s))
theorem digs_app : ∀ (l : By) (n : Int) (c : UInt8), digs (l ++ [c]) n = (digs l n).bind fun a => digs [c] a
 | [], n, c => rfl
 | d :: l, n, c => by
   simp only [List.cons_append, digs]
   split
   . rw [digs_app l]; rfl
   . rfl
theorem digs_dec : ∀ (u : Nat), u <= 10000000000009 -> digs (Go.Lib.decDigits u) 0 = some (u : Int) := by
 intro u
 induction u using Nat.strongRecOn with
 | _ u ih =>
   intro hu
   by_cases h : u < 10
   . rw [dec_small h]
     have := ofNat_toNat (n := 48 + u) (by omega)
     unfold digs
     rw [if_pos ⟨by simp [dgB]; omega, by omega⟩]
     simp only [digs, this, Option.some.injEq]
     omega
   . rw [dec_big h, digs_app, ih (u / 10) (by omega) (by omega)]
     have := ofNat_toNat (n := 48 + u % 10) (by omega)
     simp only [Option.bind_some]
     unfold digs
     rw [if_pos ⟨by simp [dgB]; omega, by omega⟩]
     simp only [digs, this, Option.some.injEq]
     omega
theorem val_num {v : Int} (h0 : -10000000000000 <= v) (h1 : v <= 10000000000000) : valS (numS v) = (v, true) := by
 by_cases hv : v < 0
 . have e : numS v = 45 :: Go.Lib.decDigits v.natAbs := by unfold numS Go.Lib.itoa; rw [if_pos hv]
   have hn : negB (numS v) = true := by rw [e]; rfl
   have hd : dgsOf (numS v) = Go.Lib.decDigits v.natAbs := by unfold dgsOf; rw [hn, e]; rfl
   have hs : sgn (numS v) (v.natAbs : Int) = v := by unfold sgn; rw [hn]; simp; omega
   unfold valS
   rw [hd, digs_dec _ (by omega)]
   simp only [hs, dec_ne, ne_eq, not_false_eq_true, decide_true, Bool.and_self]
 . have e : numS v = Go.Lib.decDigits v.toNat := by unfold numS Go.Lib.itoa; rw [if_neg hv]
   obtain ⟨c, r, e2⟩ := List.exists_cons_of_ne_nil (dec_ne v.toNat)
   have hc := dec_dg v.toNat c (by rw [e2]; simp)
   have hn : negB (numS v) = false := by
     rw [e, e2]
     unfold negB
     refine decide_eq_false fun h => ?_
     simp only [List.head?_cons, Option.some.injEq] at h
     subst h
     exact absurd hc.1 (by decide)
   have hd : dgsOf (numS v) = Go.Lib.decDigits v.toNat := by unfold dgsOf; rw [hn, e]; rfl
   have hs : sgn (numS v) (v.toNat : Int) = v := by unfold sgn; rw [hn]; simp; omega
   unfold valS
   rw [hd, digs_dec _ (by omega)]
   simp only [hs, dec_ne, ne_eq, not_false_eq_true, decide_true, Bool.and_self]
theorem ship_no {s : By} {c : UInt8} (h : shipS s = true) (h2 : c.toNat < 48) : noB c s := by
 intro b hb e
 subst e
 simp only [shipS, madeS, Bool.and_eq_true] at h
 obtain ⟨i, hi⟩ := List.getElem?_of_mem hb
 have := fitA_iff.1 h.1 i b hi
 simp only [shipF, upB, dgB, Bool.or_eq_true, Bool.and_eq_true, decide_eq_true_eq] at this
 omega
end Go.Log
namespace Go.Proofs.Tryz
open Go.Psl
open Go.Log
abbrev strsD (l : List By) : D := .sl 1 (l.map strL)
theorem fields_raw (s : By) (hs : s.length <= 1000000) : Ct prog 101 [vS s] (.ls 0 0 (splP s).length 1) [(0, fcel strL (splP s))] := by
 refine CB func101 c101 fun E hE => ?_
 simp [p101, splice, repl]
 refine pw_loop (α := Nat) (fun i => ⟨slots [(0, vS s), (3, .ls 0 0 (splP (s.take i)).length 1), (4, vi i)], lk [(0, fcel strL (splP (s.take i)))], 1⟩) (fun i => i <= s.length) (fun i => s.length - i) 0 ?_ ?_ ?_
 . omega
 . simp only [List.take_zero, splP, splC]
   refine Weak.mk hE (lk [(0, 1048576)]) _ _ _ ?_ ?_ ?_ ?_ ?_ <;> simp [fcel]
 . intro i hi
   have hsl := fcel_len hfs (splP (s.take i))
   have hwh := fcel_whole hfs (splP (s.take i))
   have hpl := splC_len 32 (s.take i)
   have htl : (s.take i).length <= 1000000 := by rw [List.length_take]; omega
   rw [Nat.mul_one] at hsl hwh
   by_cases h : i < s.length
   . obtain ⟨b, hb⟩ := gE h
     have hz := @wz i (by omega)
     have hI : (i : Int) < s.length := by omega
     have htk : s.take (i + 1) = s.take i ++ [b] := by rw [List.take_add_one, hb]; rfl
     have n1 : ((splP (s.take i)).length + 1) * 16 <= 140737488355328 := by
       show ((splC 32 (s.take i)).length + 1) * 16 <= _
       omega
     have n2 : (splP (s.take i)).length + 1 <= 9223372036854775807 := by
       show (splC 32 (s.take i)).length + 1 <= _
       omega
     by_cases h32 : b = 32
     . subst h32
       have hnx : splP (s.take (i + 1)) = splP (s.take i) ++ [[]] := by rw [htk]; exact splC_sep 32 _
       generalize splP (s.take i) = P at *
       simp [p101l0, hI, hb, hz, splice, repl, hsl, hwh, n1, n2]
       refine ⟨i + 1, by omega, by omega, ?_⟩
       rw [hnx]
       refine Weak.mk hE (lk [(0, 10485761)]) _ _ _ ?_ ?_ ?_ ?_ ?_ <;> simp [fcel_one]
     . have hne : ¬ ((b.toNat : Int) = 32) := u8_ne h32
       obtain ⟨r, x, h1, h2⟩ := splC_chr h32 (s.take i)
       have hnx : splP (s.take (i + 1)) = r ++ [x ++ [b]] := by rw [htk]; exact h2
       have hxl : x.length <= 1000000 := by
         have := splC_mem (c := 32) (s := s.take i) (x := x) (by rw [h1]; simp)
         omega
       change splP (s.take i) = r ++ [x] at h1
       rw [h1] at hsl hwh n1 n2 ⊢
       have hrl := fcel_len hfs r
       rw [Nat.mul_one] at hrl
       have w0 : IntKind.wrap .i64 (r.length : Int) = (r.length : Int) := by rw [wrap64 (by omega) (by simp at n2; omega)]
       have hlr : (r.length : Int) < (r.length : Int) + 1 := by omega
       have l1 : x.length + 1 <= 9223372036854775807 := by omega
       have i1 : i <= s.length := by omega
       have i2 : i + 1 <= s.length := by omega
       have i3 : (i : Int) + 1 <= s.length := by omega
       have i4 : (0 : Int) <= (i : Int) + 1 := by omega
       have i5 : (i : Int) <= (i : Int) + 1 := by omega
       have hex : (s.take (i + 1)).drop i = [b] := by rw [htk, List.drop_left' (by simp; omega)]
       have hdr : List.take 1 (List.drop r.length (fcel strL r ++ [vS x])) = [vS x] := by rw [<- hrl, List.drop_left]; rfl
       have hde : List.drop (r.length + 1) (fcel strL r ++ [vS x]) = [] := List.drop_of_length_le (by simp [hrl])
       simp [p101l0, hI, hb, hne, hz, w0, hlr, splice, fcel_one, hrl, l1, i3, i4, hex, inC, Nat.testBit]
       refine ⟨i + 1, by omega, by omega, ?_⟩
       rw [hnx]
       refine Weak.mk hE (lk [(0, 0)]) _ _ _ ?_ ?_ ?_ ?_ ?_ <;> simp [fcel_one, hde]
   . have e : i = s.length := by omega
     subst e
     have hI : ¬ ((s.length : Int) < s.length) := by omega
     simp [p101l0]
     refine RetOk.by (lk [(0, 0)]) ?_
     simp [results101]
theorem fn101 (s : By) (hs : s.length <= 1000000) : Ct prog 101 [vS s] (.d (strsD (splP s))) [] :=
 Cm.freeze (fields_raw s hs) (bor_fcel (f := strL) hfs (l := splP s) (by simp))
theorem neg_cases (s : By) : (negB s = true /\ ∃ r, s = 45 :: r /\ dgsOf s = r) \/ (negB s = false /\ dgsOf s = s /\ ∀ b r, s = b :: r -> ¬ b = 45) := by
 cases s with
 | nil => exact .inr ⟨rfl, rfl, nofun⟩
 | cons b r =>
   by_cases hb : b = 45
   . subst hb
     exact .inl ⟨rfl, r, rfl, rfl⟩
   . have : negB (b :: r) = false := by simp [negB, hb]
     refine .inr ⟨this, by simp [dgsOf, this], fun b' r' e => ?_⟩
     cases e; exact hb
theorem digs_at {s : By} {i : Nat} {b : UInt8} (h : s[i]? = some b) (n : Int) : digs (s.drop i) n = if dgB b = true /\ n <= 1000000000000 then digs (s.drop (i + 1)) (n * 10 + ((b.toNat : Int) - 48)) else none := by
 have : s.drop i = b :: s.drop (i + 1) := by
   obtain ⟨hi, rfl⟩ := List.getElem?_eq_some_iff.1 h
   exact List.drop_eq_getElem_cons hi
 rw [this, digs]
theorem value_1 (s r : By) (hs : s.length <= 1000000) (hn : negB s = true) (hk : 1 <= s.length) (hd : dgsOf s = s.drop 1) (hr : 45 :: r = s) : Ct prog 68 [vS s] (.tup [vi (valS s).1, vb (valS s).2]) [] := by
 refine CB func68 c68 fun E hE => ?_
 obtain ⟨Q, hQ⟩ : ∃ Q, Q = retQ tys f68 (.tup [vi (valS s).1, vb (valS s).2]) [] := ⟨_, rfl⟩
 rw [<- hQ, <- hr]
 have h0 : (0 : Int) < (r.length : Int) + 1 := by omega
 simp [p68, h0]
 rw [hr, hQ]
 refine pw_loop (α := Nat × Int) (fun x => ⟨slots [(0, vS s), (4, vi x.2), (5, vi 1), (6, vi x.1)], lk [], 0⟩) (fun x => 1 <= x.1 /\ x.1 <= s.length /\ (0 <= x.2 /\ x.2 <= 10000000000009) /\ digs (s.drop x.1) x.2 = digs (dgsOf s) 0) (fun x => s.length - x.1) (1, 0) ?_ ?_ ?_
 . exact ⟨Nat.le_refl _, hk, by omega, by rw [hd]⟩
 . exact WK hE (lk [])
 . rintro ⟨i, n⟩ ⟨hki, hi, ⟨hn0, hn1⟩, hx⟩
   simp only at hki hi hn0 hn1 hx
   by_cases h : i < s.length
   . obtain ⟨b, hb⟩ := gE h
     have hz := @wz i (by omega)
     have hI : (i : Int) < s.length := by omega
     have c1 := fn121 b
     change Ct prog _ _ (vb (dgB b)) _ at c1
     rw [digs_at hb] at hx
     by_cases hdg : dgB b = true
     case neg =>
       simp only [Bool.not_eq_true] at hdg
       rw [hdg] at c1 hx
       simp only [Bool.false_eq_true, false_and, if_false] at hx
       have hv : valS s = (0, false) := by unfold valS; rw [<- hx]
       simp [p68l0, hI, hb]
       refine CLa c1 ?_
       simp
       apply RZ
       simp [results68, hv]
     rw [hdg] at c1 hx
     by_cases hgt : 1000000000000 < n
     case pos =>
       rw [if_neg (by omega)] at hx
       have hv : valS s = (0, false) := by unfold valS; rw [<- hx]
       simp [p68l0, hI, hb]
       refine CLa c1 ?_
       simp [hgt]
       apply RZ
       simp [results68, hv]
     rw [if_pos ⟨rfl, by omega⟩] at hx
     have hd2 := hdg
     simp only [dgB, Bool.and_eq_true, decide_eq_true_eq] at hd2
     have v0 : IntKind.wrap .i64 (n * 10) = n * 10 := wrap64 (by omega) (by omega)
     have v1 : IntKind.wrap .u8 ((b.toNat : Int) - 48) = (b.toNat : Int) - 48 := wrapu8 (by omega) (by omega)
     have v2 : IntKind.wrap .i64 ((b.toNat : Int) - 48) = (b.toNat : Int) - 48 := wrap64 (by omega) (by omega)
     have v3 : IntKind.wrap .i64 (n * 10 + ((b.toNat : Int) - 48)) = n * 10 + ((b.toNat : Int) - 48) := wrap64 (by omega) (by omega)
     simp [p68l0, hI, hb]
     refine CLa c1 ?_
     simp [hgt, hb, hz, v0, v1, v2, v3]
     refine ⟨i + 1, n * 10 + ((b.toNat : Int) - 48), ?_, by omega, ?_⟩
     . first | exact ⟨by omega, by omega, by omega, hx⟩ | exact ⟨by omega, by omega, hx⟩
     . exact WK hE (lk [])
   . have e : i = s.length := by omega
     subst e
     have hI : ¬ ((s.length : Int) < s.length) := by omega
     rw [List.drop_length] at hx
     have hx2 : digs (dgsOf s) 0 = some n := hx.symm
     have nb : IntKind.wrap .i64 (-n) = -n := wrap64 (by omega) (by omega)
     have cn := fn104 (-n) (by omega) (by omega)
     have hv : valS s = (-n, decide (dgsOf s ≠ []) && decide (numS (-n) = s)) := by unfold valS; rw [hx2]; simp [sgn, hn]
     have hdl : dgsOf s ≠ [] ↔ 1 < s.length := by
       rw [<- List.length_pos_iff, hd, List.length_drop]; omega
     by_cases hl : 1 < s.length
     . have hlI : (1 : Int) < s.length := by omega
       simp [p68l0, hlI, nb]
       refine CLa cn ?_
       simp
       apply RZ
       simp [results68, hv, hdl.2 hl]
     . have hlI : ¬ (1 : Int) < s.length := by omega
       have hdn : dgsOf s = [] := Classical.byContradiction fun e => hl (hdl.1 e)
       simp [p68l0, hlI, nb]
       apply RZ
       simp [results68, hv, hdn]
theorem value_0 (s : By) (hs : s.length <= 1000000) (hn : negB s = false) (hk : 0 <= s.length) (hd : dgsOf s = s.drop 0) (hr : s = [] \/ ∃ c r, c :: r = s /\ ¬ c = 45) : Ct prog 68 [vS s] (.tup [vi (valS s).1, vb (valS s).2]) [] := by
 refine CB func68 c68 fun E hE => ?_
 rcases hr with hr | ⟨c, r, hr, hc⟩
 . obtain ⟨Q, hQ⟩ : ∃ Q, Q = retQ tys f68 (.tup [vi (valS s).1, vb (valS s).2]) [] := ⟨_, rfl⟩
   rw [<- hQ, hr]
   simp [p68]
   rw [<- hr, hQ]
   refine pw_loop (α := Nat × Int) (fun x => ⟨slots [(0, vS s), (4, vi x.2), (5, vi 0), (6, vi x.1)], lk [], 0⟩) (fun x => 0 <= x.1 /\ x.1 <= s.length /\ (0 <= x.2 /\ x.2 <= 10000000000009) /\ digs (s.drop x.1) x.2 = digs (dgsOf s) 0) (fun x => s.length - x.1) (0, 0) ?_ ?_ ?_
   . exact ⟨Nat.le_refl _, hk, by omega, by rw [hd]⟩
   . exact WK hE (lk [])
   . rintro ⟨i, n⟩ ⟨hki, hi, ⟨hn0, hn1⟩, hx⟩
     simp only at hki hi hn0 hn1 hx
     by_cases h : i < s.length
     . obtain ⟨b, hb⟩ := gE h
       have hz := @wz i (by omega)
       have hI : (i : Int) < s.length := by omega
       have c1 := fn121 b
       change Ct prog _ _ (vb (dgB b)) _ at c1
       rw [digs_at hb] at hx
       by_cases hdg : dgB b = true
       case neg =>
         simp only [Bool.not_eq_true] at hdg
         rw [hdg] at c1 hx
         simp only [Bool.false_eq_true, false_and, if_false] at hx
         have hv : valS s = (0, false) := by unfold valS; rw [<- hx]
         simp [p68l0, hI, hb]
         refine CLa c1 ?_
         simp
         apply RZ
         simp [results68, hv]
       rw [hdg] at c1 hx
       by_cases hgt : 1000000000000 < n
       case pos =>
         rw [if_neg (by omega)] at hx
         have hv : valS s = (0, false) := by unfold valS; rw [<- hx]
         simp [p68l0, hI, hb]
         refine CLa c1 ?_
         simp [hgt]
         apply RZ
         simp [results68, hv]
       rw [if_pos ⟨rfl, by omega⟩] at hx
       have hd2 := hdg
       simp only [dgB, Bool.and_eq_true, decide_eq_true_eq] at hd2
       have v0 : IntKind.wrap .i64 (n * 10) = n * 10 := wrap64 (by omega) (by omega)
       have v1 : IntKind.wrap .u8 ((b.toNat : Int) - 48) = (b.toNat : Int) - 48 := wrapu8 (by omega) (by omega)
       have v2 : IntKind.wrap .i64 ((b.toNat : Int) - 48) = (b.toNat : Int) - 48 := wrap64 (by omega) (by omega)
       have v3 : IntKind.wrap .i64 (n * 10 + ((b.toNat : Int) - 48)) = n * 10 + ((b.toNat : Int) - 48) := wrap64 (by omega) (by omega)
       simp [p68l0, hI, hb]
       refine CLa c1 ?_
       simp [hgt, hb, hz, v0, v1, v2, v3]
       refine ⟨i + 1, n * 10 + ((b.toNat : Int) - 48), ?_, by omega, ?_⟩
       . first | exact ⟨by omega, by omega, by omega, hx⟩ | exact ⟨by omega, by omega, hx⟩
       . exact WK hE (lk [])
     . have e : i = s.length := by omega
       subst e
       have hI : ¬ ((s.length : Int) < s.length) := by omega
       rw [List.drop_length] at hx
       have hx2 : digs (dgsOf s) 0 = some n := hx.symm
       have nb : IntKind.wrap .i64 (-n) = -n := wrap64 (by omega) (by omega)
       have cn := fn104 (n) (by omega) (by omega)
       have hv : valS s = (n, decide (dgsOf s ≠ []) && decide (numS (n) = s)) := by unfold valS; rw [hx2]; simp [sgn, hn]
       have hdl : dgsOf s ≠ [] ↔ 0 < s.length := by
         rw [<- List.length_pos_iff, hd, List.length_drop]; omega
       by_cases hl : 0 < s.length
       . have hlI : (0 : Int) < s.length := by omega
         simp [p68l0, hl]
         refine CLa cn ?_
         simp
         apply RZ
         simp [results68, hv, hdl.2 hl]
       . have hlI : ¬ (0 : Int) < s.length := by omega
         have hdn : dgsOf s = [] := Classical.byContradiction fun e => hl (hdl.1 e)
         simp [p68l0, hl]
         apply RZ
         simp [results68, hv, hdn]
 . obtain ⟨Q, hQ⟩ : ∃ Q, Q = retQ tys f68 (.tup [vi (valS s).1, vb (valS s).2]) [] := ⟨_, rfl⟩
   have hc2 : ¬ ((c.toNat : Int) = 45) := u8_ne hc
   have h0 : (0 : Int) < (r.length : Int) + 1 := by omega
   rw [<- hQ, <- hr]
   simp [p68, h0, hc2]
   rw [hr, hQ]
   refine pw_loop (α := Nat × Int) (fun x => ⟨slots [(0, vS s), (4, vi x.2), (5, vi 0), (6, vi x.1)], lk [], 0⟩) (fun x => 0 <= x.1 /\ x.1 <= s.length /\ (0 <= x.2 /\ x.2 <= 10000000000009) /\ digs (s.drop x.1) x.2 = digs (dgsOf s) 0) (fun x => s.length - x.1) (0, 0) ?_ ?_ ?_
   . exact ⟨Nat.le_refl _, hk, by omega, by rw [hd]⟩
   . exact WK hE (lk [])
   . rintro ⟨i, n⟩ ⟨hki, hi, ⟨hn0, hn1⟩, hx⟩
     simp only at hki hi hn0 hn1 hx
     by_cases h : i < s.length
     . obtain ⟨b, hb⟩ := gE h
       have hz := @wz i (by omega)
       have hI : (i : Int) < s.length := by omega
       have c1 := fn121 b
       change Ct prog _ _ (vb (dgB b)) _ at c1
       rw [digs_at hb] at hx
       by_cases hdg : dgB b = true
       case neg =>
         simp only [Bool.not_eq_true] at hdg
         rw [hdg] at c1 hx
         simp only [Bool.false_eq_true, false_and, if_false] at hx
         have hv : valS s = (0, false) := by unfold valS; rw [<- hx]
         simp [p68l0, hI, hb]
         refine CLa c1 ?_
         simp
         apply RZ
         simp [results68, hv]
       rw [hdg] at c1 hx
       by_cases hgt : 1000000000000 < n
       case pos =>
         rw [if_neg (by omega)] at hx
         have hv : valS s = (0, false) := by unfold valS; rw [<- hx]
         simp [p68l0, hI, hb]
         refine CLa c1 ?_
         simp [hgt]
         apply RZ
         simp [results68, hv]
       rw [if_pos ⟨rfl, by omega⟩] at hx
       have hd2 := hdg
       simp only [dgB, Bool.and_eq_true, decide_eq_true_eq] at hd2
       have v0 : IntKind.wrap .i64 (n * 10) = n * 10 := wrap64 (by omega) (by omega)
       have v1 : IntKind.wrap .u8 ((b.toNat : Int) - 48) = (b.toNat : Int) - 48 := wrapu8 (by omega) (by omega)
       have v2 : IntKind.wrap .i64 ((b.toNat : Int) - 48) = (b.toNat : Int) - 48 := wrap64 (by omega) (by omega)
       have v3 : IntKind.wrap .i64 (n * 10 + ((b.toNat : Int) - 48)) = n * 10 + ((b.toNat : Int) - 48) := wrap64 (by omega) (by omega)
       simp [p68l0, hI, hb]
       refine CLa c1 ?_
       simp [hgt, hb, hz, v0, v1, v2, v3]
       refine ⟨i + 1, n * 10 + ((b.toNat : Int) - 48), ?_, by omega, ?_⟩
       . first | exact ⟨by omega, by omega, by omega, hx⟩ | exact ⟨by omega, by omega, hx⟩
       . exact WK hE (lk [])
     . have e : i = s.length := by omega
       subst e
       have hI : ¬ ((s.length : Int) < s.length) := by omega
       rw [List.drop_length] at hx
       have hx2 : digs (dgsOf s) 0 = some n := hx.symm
       have nb : IntKind.wrap .i64 (-n) = -n := wrap64 (by omega) (by omega)
       have cn := fn104 (n) (by omega) (by omega)
       have hv : valS s = (n, decide (dgsOf s ≠ []) && decide (numS (n) = s)) := by unfold valS; rw [hx2]; simp [sgn, hn]
       have hdl : dgsOf s ≠ [] ↔ 0 < s.length := by
         rw [<- List.length_pos_iff, hd, List.length_drop]; omega
       by_cases hl : 0 < s.length
       . have hlI : (0 : Int) < s.length := by omega
         simp [p68l0, hl]
         refine CLa cn ?_
         simp
         apply RZ
         simp [results68, hv, hdl.2 hl]
       . have hlI : ¬ (0 : Int) < s.length := by omega
         have hdn : dgsOf s = [] := Classical.byContradiction fun e => hl (hdl.1 e)
         simp [p68l0, hl]
         apply RZ
         simp [results68, hv, hdn]
theorem fn68 (s : By) (hs : s.length <= 1000000) : Ct prog 68 [vS s] (.tup [vi (valS s).1, vb (valS s).2]) [] := by
 rcases neg_cases s with ⟨hn, r, hr, hd⟩ | ⟨hn, hd, hne⟩
 . exact value_1 s r hs hn (by rw [hr]; simp) (by rw [hd, hr]; rfl) hr.symm
 . refine value_0 s hs hn (Nat.zero_le _) (by rw [hd]; rfl) ?_
   cases s with
   | nil => exact .inl rfl
   | cons c r => exact .inr ⟨c, r, rfl, hne c r rfl⟩
theorem hfe : ∀ x : Etr, (entL x).length = 4 := fun _ => rfl
theorem lines_fz (s : By) (hl : s.length <= 1000000) : Ct prog 51 [vS s] (.tup [.d (strsD (finL s).1), vb (finL s).2]) [] := by
 have h := fn51 s hl
 generalize finL s = x at *
 obtain ⟨ls, e⟩ := x
 simp only at h ⊢
 refine Cm.freeze h ?_
 unfold hdT bkT
 by_cases he : ls = []
 . subst he
   exact ⟨.inr ⟨rfl, _, rfl⟩, .inl rfl, trivial⟩
 . rw [if_neg he, if_neg he]
   exact ⟨bor_fcel (f := strL) hfs (l := ls) (by simp), .inl rfl, trivial⟩
end Go.Proofs.Tryz
