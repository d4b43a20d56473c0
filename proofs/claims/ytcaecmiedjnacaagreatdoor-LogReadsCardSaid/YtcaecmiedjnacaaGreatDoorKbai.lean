/- Own lemmas, used by the last text. Conditions: those that each theorem states. -/
import Derived.Lib.AtoiAll
import Derived.Lib.AtoiErrMem
import Derived.Lib.SplitLaws
import Derived.Test.YtcaecmiedjnacaaGreatDoorKbag
import Derived.Test.YtcaecmiedjnacaaGreatDoorKbah
set_option maxRecDepth 200000
set_option maxHeartbeats 8000000
namespace Go.Proofs.Tryz
open Go.Psl
open Go.Log
def dmgS (s : By) : List Int := (dmAt (linesOf s) (linesOf s).length).1
def hdR (ds : List Int) : V := if ds = [] then .d (.lit (.slice none 0 0)) else .ls 0 0 ds.length 1
def bkR (ds : List Int) : List (Nat × List V) := if ds = [] then [] else [(0, fcel intL ds)]
theorem fn13no (s : By) (hl : 40000 < s.length) : Ct prog 13 [vS s] (.tup [.d (.lit (.slice none 0 0)), vi 4]) [] := by
 have h1 : (40000 : Int) < s.length := by omega
 refine CB func13 c13 fun E hE => ?_
 simp [p13, h1]
 apply RZ
 simp [results13]
theorem dL_eq (f : Nat -> V) (z : LSt) (r : By) (st : List Int × Int) : dL f z r st = (10485760, [.lr f 39 [16, 17] p13l0 p13l1 z]) :: ((9437184, [vS r]) :: (5242880, [hdD st.1]) :: (6291456, [vi st.2]) :: bkD st.1) := rfl
theorem fn13 (s : By) (hl : s.length <= 40000) : Ct prog 13 [vS s] (.tup [hdR (dmgS s), vi 0]) (bkR (dmgS s)) := by
 have h1 : ¬ (40000 : Int) < s.length := by omega
 have c1 := fn38 s
 have hri : ResIds (.tup [hdR (dmgS s), vi 0]) (bkR (dmgS s)) := by
   unfold hdR bkR
   split
   . simp [ResIds]
   . simp [ResIds]
 refine Ct.byR gok eok mixed func13 c13 rfl (by simp [ntmps13]) (by simp) hri fun E hE hnt' => ?_
 simp [p13, h1, splice]
 refine CLa c1 ?_
 simp
 have hnt : E.nt = 39 := by rw [hnt'.1]; exact ntmps13
 rw [<- pw_rangeF (Γ := tys) (eqs := eqs)]
 obtain ⟨f, hf⟩ : ∃ f, f = upd (upd (upd (upd (upd (upd (upd (upd (upd (argF 0 [vS s]) 2 (V.d (D.lit (Value.slice none 0 0)))) 3 (V.d (D.lit (Value.int IntKind.i64 0)))) 11 (vS s)) 12 (V.d (D.lit (Value.int IntKind.i64 s.length)))) 13 (V.d (D.lit (Value.bool false)))) 4 (V.lp 5242880 0)) 5 (V.lp 6291456 0)) 14 (vS s)) 15 (V.cl 84 [V.lp 9437184 0]) := ⟨_, rfl⟩
 have hfA : ∀ t, AV (· ∈ dKS) anyD (f t) := fun t => by
   rw [hf]
   simp only [upd_at]
   split
   . intro c hc; simp at hc; subst hc; exact (by simp [dKS] : (9437184 : Nat) ∈ dKS)
   split
   . exact trivial
   split
   . exact (by simp [dKS] : (6291456 : Nat) ∈ dKS)
   split
   . exact (by simp [dKS] : (5242880 : Nat) ∈ dKS)
   split
   . exact trivial
   split
   . exact trivial
   split
   . exact trivial
   split
   . exact trivial
   split
   . exact trivial
   simp only [argF]
   split
   . exact trivial
   . exact fun c hc => by simp at hc
 have hFF : DamF f := ⟨hfA, by rw [hf]; simp, by rw [hf]; simp⟩
 have f15 : f 15 = .cl 84 [.lp 9437184 0] := by rw [hf]; simp
 obtain ⟨_, f4, f5⟩ := id hFF
 rw [<- hf]
 have hle : ∀ (i : Nat) (l : By), (linesOf s)[i]? = some l -> l.length <= 1000000 := fun i l h => by
   have := lines_mem_len (List.mem_of_getElem? h)
   omega
 have hll := lines_le s
 have hrun := lines_run s (by omega) dKS (fun i => dXS (dmAt (linesOf s) i).1) 10485760 9437184 (fun i r => dL f .ready r (dmAt (linesOf s) i)) (by simp [dKS]) (by simp [dKS]) (by simp [dKS]) (fun i x hx => by simp only [dXS] at hx; split at hx <;> simp at hx; omega) (fun i r => dKeep f .ready r _ hfA)
   (fun i r => ⟨f, 39, [16, 17], p13l0, p13l1, .ready, by simp [dL], rfl⟩) (fun i r => by simp [dL]) (fun i r r' p hp => by
     simp only [dL, List.mem_cons] at hp ⊢
     rcases hp with rfl | rfl | rfl | rfl | hp
     . exact .inr ⟨by simp, .inl rfl⟩
     . exact .inl ⟨rfl, rfl⟩
     . exact .inr ⟨by simp, .inr (.inr (.inl rfl))⟩
     . exact .inr ⟨by simp, .inr (.inr (.inr (.inl rfl)))⟩
     . refine .inr ⟨fun e => ?_, .inr (.inr (.inr (.inr hp)))⟩
       unfold bkD at hp
       split at hp
       . cases hp
       . simp at hp; subst hp; simp at e)
   (fun i l h => by
     have hb := dmAt_bd (linesOf s) i
     have hi := (List.getElem?_eq_some_iff.1 h).1
     have := dmg_round f hFF i l (restL i s) (dmAt (linesOf s) i) (hle i l h) hb.1 hb.2.1 (by omega)
     rw [<- dmAt_succ h] at this
     exact this)
 have hK0 := dKeep f .ready s (dmAt (linesOf s) 0) hfA
 have hKn := dKeep f .ready [] (dmAt (linesOf s) (linesOf s).length) hfA
 rw [dL_eq] at hK0 hKn
 simp only [dL_eq] at hrun
 obtain ⟨st, hst⟩ : ∃ st, dmAt (linesOf s) (linesOf s).length = st := ⟨_, rfl⟩
 have hds : dmgS s = st.1 := by unfold dmgS; rw [hst]
 rw [hst] at hKn hrun
 rw [hds]
 refine PRange.keepX ((9437184, [vS s]) :: (5242880, [hdD []]) :: (6291456, [vi 0]) :: bkD []) ((9437184, [vS []]) :: (5242880, [hdD st.1]) :: (6291456, [vi st.2]) :: bkD st.1) [9437184, 5242880, 6291456] [] (dXS st.1) (.tup []) .ready ⟨hnt'.2, by rw [hnt]; decide⟩ (g := 84) (caps := [.lp 9437184 0]) (by simp [f15]) (by rw [hnt]; exact hrun) (by rw [hnt]; exact hK0) (by rw [hnt]; exact hKn) (fun x hx => by simp only [dXS] at hx; split at hx <;> simp at hx; omega) (by simp) (by simp [bkD, hdD]) (by simp) fun F g1 g2 => ?_
 have F4 := g1 (5242880, [hdD st.1]) (by simp)
 by_cases he : st.1 = []
 . simp only [he, hdD, hdR, bkR, if_true] at F4 ⊢
   simp [renC, ren1, ren0] at F4
   show blkQ 0 _ .normal _
   simp [f4, F4]
   apply RZ
   simp [results13]
 . have F7 := g1 (7, fcel intL st.1) (by simp [bkD, he])
   simp only [he, hdD, hdR, bkR, if_false] at F4 F7 ⊢
   simp [renC, ren1, ren0] at F4 F7
   show blkQ 0 _ .normal _
   simp [f4, F4]
   refine RetOk.by (lk [(0, 11534343)]) ?_
   simp [results13, F7]
theorem fn52 (t : By) (hl : t.length <= 1000000000) : Ct prog 52 [vS t] (openV (openS t)) [] := by
 by_cases h3 : 3 <= t.length
 case neg =>
   have i0 : (t.length : Int) < 3 := by omega
   rw [openS_short h3]
   refine CB func52 c52 fun E hE => ?_
   simp [p52, i0]
   apply RZ
   simp [results52, openV]
 obtain ⟨u, a, b, c, rfl, hn⟩ := three h3
 have w0 : IntKind.wrap .i64 (((u ++ [a, b, c]).length : Int) - 3) = (u.length : Int) := by rw [wrap64 (by omega) (by omega)]; omega
 have w1 : IntKind.wrap .i64 (((u ++ [a, b, c]).length : Int) - 2) = ((u.length + 1 : Nat) : Int) := by rw [wrap64 (by omega) (by omega)]; omega
 have w2 : IntKind.wrap .i64 (((u ++ [a, b, c]).length : Int) - 1) = ((u.length + 2 : Nat) : Int) := by rw [wrap64 (by omega) (by omega)]; omega
 have g0 : (u ++ [a, b, c])[u.length]? = some a := by simp
 have g1 : (u ++ [a, b, c])[u.length + 1]? = some b := by simp
 have g2 : (u ++ [a, b, c])[u.length + 2]? = some c := by simp
 have l0 : (u.length : Int) < (u ++ [a, b, c]).length := by omega
 have l1 : ((u.length + 1 : Nat) : Int) < (u ++ [a, b, c]).length := by omega
 have l2 : ((u.length + 2 : Nat) : Int) < (u ++ [a, b, c]).length := by omega
 have n0 : ¬ ((u ++ [a, b, c]).length : Int) < 3 := by omega
 have tk : (u ++ [a, b, c]).take u.length = u := by simp
 rw [openS_three]
 have d1 := fn100 b
 have d2 := fn100 c
 have hle : u.length <= (u ++ [a, b, c]).length := by omega
 have hle' : (u.length : Int) <= (u ++ [a, b, c]).length := by omega
 generalize (u ++ [a, b, c]) = t at *
 generalize hk1 : u.length + 1 = k1 at *
 generalize hk2 : u.length + 2 = k2 at *
 have hu : u.length <= 1000000000 := by omega
 generalize hk0 : u.length = k0 at *
 by_cases ha : a = 32
 case neg =>
   have ha' : ¬ ((a.toNat : Int) = 32) := fun e => ha (UInt8.toNat_inj.1 (by simpa using (by omega : a.toNat = 32)))
   refine CB func52 c52 fun E hE => ?_
   simp [p52, w0, n0, g0, ha']
   apply RZ
   simp [results52, openV, ha]
 subst ha
 by_cases hb : loB b = true
 case neg =>
   simp only [Bool.not_eq_true] at hb
   change Ct prog _ _ (vb (loB b)) _ at d1
   rw [hb] at d1
   refine CB func52 c52 fun E hE => ?_
   simp [p52, w0, n0, g0, w1, g1]
   refine CLa d1 ?_
   simp
   apply RZ
   simp [results52, openV, hb]
 change Ct prog _ _ (vb (loB b)) _ at d1
 rw [hb] at d1
 change Ct prog _ _ (vb (loB c)) _ at d2
 by_cases hcc : loB c = true
 case neg =>
   simp only [Bool.not_eq_true] at hcc
   rw [hcc] at d2
   refine CB func52 c52 fun E hE => ?_
   simp [p52, w0, n0, g0, w1, g1]
   refine CLa d1 ?_
   simp [w2, g2]
   refine CLa d2 ?_
   simp
   apply RZ
   simp [results52, openV, hcc]
 rw [hcc] at d2
 have hb2 := hb
 have hc2 := hcc
 simp only [loB, Bool.and_eq_true, decide_eq_true_eq] at hb2 hc2
 have v1 : IntKind.wrap .u8 ((b.toNat : Int) - 97) = (b.toNat : Int) - 97 := wrapu8 (by omega) (by omega)
 have v2 : IntKind.wrap .u8 ((c.toNat : Int) - 97) = (c.toNat : Int) - 97 := wrapu8 (by omega) (by omega)
 have v3 : IntKind.wrap .i64 ((b.toNat : Int) - 97) = (b.toNat : Int) - 97 := wrap64 (by omega) (by omega)
 have v4 : IntKind.wrap .i64 ((c.toNat : Int) - 97) = (c.toNat : Int) - 97 := wrap64 (by omega) (by omega)
 have v5 : IntKind.wrap .i64 (26 * ((b.toNat : Int) - 97)) = 26 * ((b.toNat : Int) - 97) := wrap64 (by omega) (by omega)
 have v6 : IntKind.wrap .i64 (26 * ((b.toNat : Int) - 97) + ((c.toNat : Int) - 97)) = 26 * ((b.toNat : Int) - 97) + ((c.toNat : Int) - 97) := wrap64 (by omega) (by omega)
 refine CB func52 c52 fun E hE => ?_
 simp [p52, w0, n0, g0, w1, g1]
 refine CLa d1 ?_
 simp [w2, g2]
 refine CLa d2 ?_
 simp [w0, w1, w2, g1, g2, hle', v1, v2, v3, v4, v5, v6]
 apply RZ
 simp [results52, openV, hb, hcc, tk]
def scanL (s : By) : Nat -> List By × Nat
 | 0 => ([], 0)
 | i + 1 => if s[i]? = some 10 then ((scanL s i).1 ++ [(s.take i).drop (scanL s i).2], i + 1) else scanL s i
theorem scanL_bd (s : By) : ∀ i, (scanL s i).2 <= i /\ (scanL s i).1.length <= i
 | 0 => by simp [scanL]
 | i + 1 => by
   have := scanL_bd s i
   unfold scanL
   split
   . simp; omega
   . omega
def hdT (k : Nat) (ls : List By) : V := if ls = [] then .d (.lit (.slice none 0 0)) else .ls k 0 ls.length 1
def bkT (k : Nat) (ls : List By) : List (Nat × List V) := if ls = [] then [] else [(k, fcel strL ls)]
def finL (s : By) : List By × Bool := if (scanL s s.length).2 < s.length then ((scanL s s.length).1 ++ [s.drop (scanL s s.length).2], false) else ((scanL s s.length).1, true)
theorem fn51 (s : By) (hl : s.length <= 1000000) : Ct prog 51 [vS s] (.tup [hdT 0 (finL s).1, vb (finL s).2]) (bkT 0 (finL s).1) := by
 have hri : ResIds (.tup [hdT 0 (finL s).1, vb (finL s).2]) (bkT 0 (finL s).1) := by
   unfold hdT bkT
   split
   . simp [ResIds]
   . simp [ResIds]
 have hne : ∀ (ls : List By) (x : By), ¬ (ls ++ [x] = []) := fun ls x => by simp
 refine Ct.by gok eok mixed func51 c51 rfl (by simp [ntmps51]) (by simp) hri fun E hE => ?_
 simp [p51]
 refine pw_loop (α := Nat) (fun i => ⟨slots [(0, vS s), (4, hdT 0 (scanL s i).1), (5, vi (scanL s i).2), (6, vi i)], lk (bkT 0 (scanL s i).1), 1⟩) (fun i => i <= s.length) (fun i => s.length - i) 0 ?_ ?_ ?_
 . omega
 . simp only [scanL, hdT, bkT, if_true]
   exact WK hE (lk [])
 . intro i hi
   have hbd := scanL_bd s i
   have hsl := fcel_len hfs (scanL s i).1
   have hwh := fcel_whole hfs (scanL s i).1
   rw [Nat.mul_one] at hsl hwh
   by_cases h : i < s.length
   . obtain ⟨b, hb⟩ := gE h
     have hz := @wz i (by omega)
     have hI : (i : Int) < s.length := by omega
     have i1 : ((scanL s i).2 : Int) <= i := by omega
     have i2 : (scanL s i).2 <= i := by omega
     have i3 : i <= s.length := by omega
     have i4 : (i : Int) <= s.length := by omega
     have n1 : ((scanL s i).1.length + 1) * 16 <= 140737488355328 := by omega
     have n2 : (scanL s i).1.length + 1 <= 9223372036854775807 := by omega
     by_cases hb10 : b = 10
     . subst hb10
       have h10 : True := trivial
       have hnx : scanL s (i + 1) = ((scanL s i).1 ++ [(s.take i).drop (scanL s i).2], i + 1) := by rw [scanL, if_pos hb]
       by_cases he : (scanL s i).1 = []
       . simp only [hdT, bkT, he, if_true]
         simp [p51l0, hI, hb, splice, repl, i2, i4, hz]
         refine ⟨i + 1, by omega, by omega, ?_⟩
         rw [hnx]
         simp only [he, List.nil_append]
         refine Weak.mk hE (lk [(0, 14680065)]) _ _ _ ?_ ?_ ?_ ?_ ?_ <;> simp [fcel]
       . simp only [hdT, bkT, he, if_false]
         simp [p51l0, hI, hb, splice, repl, i2, i4, hz, hsl, hwh, n1, n2]
         refine ⟨i + 1, by omega, by omega, ?_⟩
         rw [hnx]
         simp only [hne, if_false]
         refine Weak.mk hE (lk [(0, 14680065)]) _ _ _ ?_ ?_ ?_ ?_ ?_ <;> simp [fcel_one, List.length_append]
     . have h10 : ¬ ((b.toNat : Int) = 10) := fun e => hb10 (UInt8.toNat_inj.1 (by simpa using (by omega : b.toNat = 10)))
       have hnx : scanL s (i + 1) = scanL s i := by
         rw [scanL, if_neg]
         rw [hb]
         intro e
         exact hb10 (Option.some.inj e)
       by_cases he : (scanL s i).1 = []
       . simp only [hdT, bkT, he, if_true]
         simp [p51l0, hI, hb, h10, hz]
         refine ⟨i + 1, by omega, by omega, ?_⟩
         rw [hnx]
         simp only [he, if_true]
         exact WK hE (lk [])
       . simp only [hdT, bkT, he, if_false]
         simp [p51l0, hI, hb, h10, hz]
         refine ⟨i + 1, by omega, by omega, ?_⟩
         rw [hnx]
         simp only [he, if_false]
         exact WK hE (lk [(0, 0)])
   . have e : i = s.length := by omega
     subst e
     have hI : ¬ ((s.length : Int) < s.length) := by omega
     have n1 : ((scanL s s.length).1.length + 1) * 16 <= 140737488355328 := by omega
     have n2 : (scanL s s.length).1.length + 1 <= 9223372036854775807 := by omega
     have i1 : ((scanL s s.length).2 : Int) <= s.length := by omega
     have i2 : (scanL s s.length).2 <= s.length := by omega
     have ht : s.take s.length = s := List.take_length
     by_cases hf : (scanL s s.length).2 < s.length
     . have hfI : ((scanL s s.length).2 : Int) < s.length := by omega
       have hfin : finL s = ((scanL s s.length).1 ++ [s.drop (scanL s s.length).2], false) := by unfold finL; rw [if_pos hf]
       rw [hfin]
       by_cases he : (scanL s s.length).1 = []
       . simp only [hdT, bkT, he, if_true, List.nil_append]
         simp [p51l0, hfI, i2, splice, repl]
         refine RetOk.by (lk [(0, 13631489)]) ?_
         simp [results51, fcel]
       . simp only [hdT, bkT, he, if_false, hne]
         simp [p51l0, hfI, i2, splice, repl, hsl, hwh, n1, n2]
         refine RetOk.by (lk [(0, 13631489)]) ?_
         simp [results51, fcel_one]
     . have hfI : ¬ ((scanL s s.length).2 : Int) < s.length := by omega
       have hfin : finL s = ((scanL s s.length).1, true) := by unfold finL; rw [if_neg hf]
       rw [hfin]
       by_cases he : (scanL s s.length).1 = []
       . simp only [hdT, bkT, he, if_true]
         simp [p51l0, hfI]
         apply RZ
         simp [results51]
       . simp only [hdT, bkT, he, if_false]
         simp [p51l0, hfI]
         refine RetOk.by (lk [(0, 0)]) ?_
         simp [results51]
def dmStepO (i : Nat) (st : List Int × Int) (o : Option (By × Int)) : List Int × Int := match o with
 | none => (st.1 ++ [(i : Int)], 0)
 | some (b, c) => (if sumS b st.2 = c then st.1 else st.1 ++ [(i : Int)], c)
def dmR (ls : List By) : Nat -> List Int × Int
 | 0 => ([], 0)
 | i + 1 => match ls[i]? with
   | some l => dmStepO i (dmR ls i) (openS l)
   | none => dmR ls i
theorem dmR_at (ls : List By) : ∀ i, dmR (ls.map chopS) i = dmAt ls i
 | 0 => rfl
 | i + 1 => by
   unfold dmR dmAt
   rw [List.getElem?_map, dmR_at ls i]
   cases ls[i]? <;> rfl
theorem dmR_bd (ls : List By) : ∀ i, 0 <= (dmR ls i).2 /\ (dmR ls i).2 <= 675 /\ (dmR ls i).1.length <= i
 | 0 => by simp [dmR]
 | i + 1 => by
   have ih := dmR_bd ls i
   unfold dmR
   split
   . unfold dmStepO
     split
     . simp; omega
     . rename_i h
       have := openS_bd h
       refine ⟨this.1, this.2.1, ?_⟩
       simp only
       split
       . omega
       . simp; omega
   . omega
theorem dmR_succ {ls : List By} {i : Nat} {l : By} (h : ls[i]? = some l) : dmR ls (i + 1) = dmStepO i (dmR ls i) (openS l) := by
 rw [dmR, h]
theorem int_one (x : Int) : fcel intL [x] = [vi x] := rfl
def hdE (ds : List Int) : V := if ds = [] then .d (.lit (.slice none 0 0)) else .ls 1 0 ds.length 1
def bkE (ds : List Int) : List (Nat × List V) := if ds = [] then [] else [(1, fcel intL ds)]
theorem fn14no (s : By) (hl : 40000 < s.length) : Ct prog 14 [vS s] (.tup [.d (.lit (.slice none 0 0)), vi 4]) [] := by
 have h1 : (40000 : Int) < s.length := by omega
 refine CB func14 c14 fun E hE => ?_
 simp [p14, h1]
 apply RZ
 simp [results14]
theorem refDmg (s : By) (ls : List By) (e : Bool) (c1 : Ct prog 51 [vS s] (.tup [hdT 0 ls, vb e]) (bkT 0 ls)) (hl : s.length <= 40000) (hls : ls.length <= 1000000) (hlm : ∀ l ∈ ls, l.length <= 1000000) : Ct prog 14 [vS s] (.tup [hdR (dmR ls ls.length).1, vi 0]) (bkR (dmR ls ls.length).1) := by
 have h1 : ¬ (40000 : Int) < s.length := by omega
 have hne : ∀ (ds : List Int) (x : Int), ¬ (ds ++ [x] = []) := fun ds x => by simp
 have hri : ResIds (.tup [hdR (dmR ls ls.length).1, vi 0]) (bkR (dmR ls ls.length).1) := by
   unfold hdR bkR
   split
   . simp [ResIds]
   . simp [ResIds]
 refine Ct.by gok eok mixed func14 c14 rfl (by simp [ntmps14]) (by simp) hri fun E hE => ?_
 simp [p14, h1]
 by_cases h0 : ls = []
 . subst h0
   simp only [hdT, bkT, if_true, List.length_nil, dmR, hdR, bkR] at c1 ⊢
   refine CLa c1 ?_
   simp
   refine pw_loop (α := Nat) (fun _ => ⟨slots [(4, .d (.lit (.slice none 0 0))), (6, .d (.lit (.slice none 0 0))), (8, vi 0)], lk [], 0⟩) (fun _ => True) (fun _ => 0) 0 ?_ ?_ ?_
   . trivial
   . exact WK hE (lk [])
   . intro i hi
     simp [p14l0]
     apply RZ
     simp [results14]
 . simp only [hdT, bkT, h0, if_false] at c1
   refine CLa c1 ?_
   simp
   refine pw_loop (α := Nat) (fun i => ⟨slots [(4, .ls 0 0 ls.length 1), (6, hdE (dmR ls i).1), (7, vi (dmR ls i).2), (8, vi i)], lk ((0, fcel strL ls) :: bkE (dmR ls i).1), 2⟩) (fun i => i <= ls.length) (fun i => ls.length - i) 0 ?_ ?_ ?_
   . omega
   . simp only [dmR, hdE, bkE, if_true]
     exact WK hE (lk [(0, 6291456)])
   . intro i hi
     have hbd := dmR_bd ls i
     have hsl := fcel_len hfi1 (dmR ls i).1
     have hwh := fcel_whole hfi1 (dmR ls i).1
     have hll := fcel_len hfs ls
     rw [Nat.mul_one] at hsl hwh hll
     by_cases h : i < ls.length
     . obtain ⟨l, hx⟩ := gE h
       have hI : (i : Int) < ls.length := by omega
       have hz := @wz i (by omega)
       have hcel : List.take 1 (List.drop i (fcel strL ls)) = [vS l] := by
         have := fcel_sub hfs (x := l) (j := 0) (k := 1) hx (by omega)
         simpa using this
       have n0 : i + 1 <= ls.length := by omega
       have hlm' := hlm l (List.mem_of_getElem? hx)
       have co := fn52 l (by omega)
       have hnx := dmR_succ hx
       have n1 : ((dmR ls i).1.length + 1) * 8 <= 140737488355328 := by omega
       have n2 : (dmR ls i).1.length + 1 <= 9223372036854775807 := by omega
       generalize dmR ls i = st at *
       unfold dmStepO at hnx
       cases ho : openS l with
       | none =>
         rw [ho] at co hnx
         simp only at hnx
         by_cases he : st.1 = []
         . simp only [hdE, bkE, he, if_true]
           simp [p14l0, hI, hcel, hll, n0]
           refine CLa co ?_
           simp [splice, repl, hz]
           refine ⟨i + 1, by omega, by omega, ?_⟩
           rw [hnx]
           simp only [he, List.nil_append]
           refine Weak.mk hE (lk [(0, 0), (1, 29360130)]) _ _ _ ?_ ?_ ?_ ?_ ?_ <;> simp [int_one]
         . simp only [hdE, bkE, he, if_false]
           simp [p14l0, hI, hcel, hll, n0]
           refine CLa co ?_
           simp [splice, repl, hz, hsl, hwh, n1, n2]
           refine ⟨i + 1, by omega, by omega, ?_⟩
           rw [hnx]
           simp only [hne, if_false]
           refine Weak.mk hE (lk [(0, 0), (1, 29360130)]) _ _ _ ?_ ?_ ?_ ?_ ?_ <;> simp [fcel_one]
       | some q =>
         obtain ⟨b, c⟩ := q
         have hob := openS_bd ho
         rw [ho] at co hnx
         have cs := fn56 b st.2 (by omega) (by omega) (by omega)
         simp only at hnx
         by_cases hc : sumS b st.2 = c
         . rw [if_pos hc] at hnx
           rw [hc] at cs
           by_cases he : st.1 = []
           . simp only [hdE, bkE, he, if_true]
             simp [p14l0, hI, hcel, hll, n0]
             refine CLa co ?_
             simp
             refine CLa cs ?_
             simp [hz]
             refine ⟨i + 1, by omega, by omega, ?_⟩
             rw [hnx]
             simp only [he, if_true]
             exact WK hE (lk [(0, 0)])
           . simp only [hdE, bkE, he, if_false]
             simp [p14l0, hI, hcel, hll, n0]
             refine CLa co ?_
             simp
             refine CLa cs ?_
             simp [hz]
             refine ⟨i + 1, by omega, by omega, ?_⟩
             rw [hnx]
             simp only [he, if_false]
             exact WK hE (lk [(0, 0), (1, 1)])
         . rw [if_neg hc] at hnx
           by_cases he : st.1 = []
           . simp only [hdE, bkE, he, if_true]
             simp [p14l0, hI, hcel, hll, n0]
             refine CLa co ?_
             simp
             refine CLa cs ?_
             simp [splice, repl, hz, hc]
             refine ⟨i + 1, by omega, by omega, ?_⟩
             rw [hnx]
             simp only [he, List.nil_append]
             refine Weak.mk hE (lk [(0, 0), (1, 29360130)]) _ _ _ ?_ ?_ ?_ ?_ ?_ <;> simp [int_one]
           . simp only [hdE, bkE, he, if_false]
             simp [p14l0, hI, hcel, hll, n0]
             refine CLa co ?_
             simp
             refine CLa cs ?_
             simp [splice, repl, hz, hc, hsl, hwh, n1, n2]
             refine ⟨i + 1, by omega, by omega, ?_⟩
             rw [hnx]
             simp only [hne, if_false]
             refine Weak.mk hE (lk [(0, 0), (1, 29360130)]) _ _ _ ?_ ?_ ?_ ?_ ?_ <;> simp [fcel_one]
     . have e : i = ls.length := by omega
       subst e
       generalize dmR ls ls.length = st at *
       by_cases he : st.1 = []
       . simp only [hdE, bkE, hdR, bkR, he, if_true]
         simp [p14l0]
         apply RZ
         simp [results14]
       . simp only [hdE, bkE, hdR, bkR, he, if_false]
         simp [p14l0]
         refine RetOk.by (lk [(0, 1)]) ?_
         simp [results14]
theorem linesOf_lf : ∀ (u v : By), (10 : UInt8) ∉ u -> linesOf (u ++ 10 :: v) = (u ++ [10]) :: linesOf v
 | [], v, _ => by rw [List.nil_append, linesOf_cons, if_pos rfl]; rfl
 | b :: u, v, h => by
   have hb : ¬ b = 10 := fun e => h (by simp [e])
   rw [List.cons_append, linesOf_cons, if_neg hb, linesOf_lf u v (fun e => h (by simp [e]))]
   rfl
theorem linesOf_no : ∀ (u : By), (10 : UInt8) ∉ u -> u ≠ [] -> linesOf u = [u]
 | [], _, h => absurd rfl h
 | b :: u, h, _ => by
   have hb : ¬ b = 10 := fun e => h (by simp [e])
   rw [linesOf_cons, if_neg hb]
   cases u with
   | nil => rfl
   | cons c t => rw [linesOf_no (c :: t) (fun e => h (by simp [e])) (by simp)]
theorem chop_lf (u : By) : chopS (u ++ [10]) = u := by simp [chopS]
theorem chop_no {u : By} (h : (10 : UInt8) ∉ u) : chopS u = u := by
 unfold chopS
 rw [if_neg]
 intro e
 exact h (List.mem_of_getLast? e)
theorem scan_inv (s : By) : ∀ i, i <= s.length -> linesOf s = (scanL s i).1.map (· ++ [10]) ++ linesOf (s.drop (scanL s i).2) /\ (10 : UInt8) ∉ (s.take i).drop (scanL s i).2 /\ ∀ l ∈ (scanL s i).1, (10 : UInt8) ∉ l
 | 0, _ => by simp [scanL]
 | i + 1, hi => by
   obtain ⟨h1, h2, h3⟩ := scan_inv s i (by omega)
   have hbd := scanL_bd s i
   have hlt : i < s.length := by omega
   by_cases hb : s[i]? = some 10
   . rw [scanL, if_pos hb]
     generalize hfr : (scanL s i).2 = fr at *
     generalize (scanL s i).1 = out at *
     have hs : s[i] = 10 := by rw [List.getElem?_eq_getElem hlt] at hb; exact Option.some.inj hb
     have e : s.drop fr = (s.take i).drop fr ++ 10 :: s.drop (i + 1) := by
       have h4 : s = s.take i ++ 10 :: s.drop (i + 1) := by
         conv => lhs; rw [<- List.take_append_drop i s, List.drop_eq_getElem_cons hlt, hs]
       conv => lhs; rw [h4]
       rw [List.drop_append_of_le_length (by rw [List.length_take]; omega)]
     refine ⟨?_, by simp, fun l hl => ?_⟩
     . rw [h1, e, linesOf_lf _ _ h2]
       simp
     . rcases List.mem_append.1 hl with hl | hl
       . exact h3 l hl
       . simp only [List.mem_cons, List.not_mem_nil, or_false] at hl
         subst hl
         exact h2
   . rw [scanL, if_neg hb]
     refine ⟨h1, ?_, h3⟩
     rw [List.take_add_one, List.getElem?_eq_getElem hlt, Option.toList_some, List.drop_append_of_le_length (by rw [List.length_take]; omega)]
     intro hm
     rcases List.mem_append.1 hm with hm | hm
     . exact h2 hm
     . simp only [List.mem_cons, List.not_mem_nil, or_false] at hm
       exact hb (by rw [List.getElem?_eq_getElem hlt, hm])
theorem finL_eq (s : By) : (finL s).1 = (linesOf s).map chopS := by
 obtain ⟨h1, h2, h3⟩ := scan_inv s s.length (Nat.le_refl _)
 rw [List.take_length] at h2
 have hm : ((scanL s s.length).1.map (· ++ [10])).map chopS = (scanL s s.length).1 := by
   rw [List.map_map]
   conv => rhs; rw [<- List.map_id (scanL s s.length).1]
   exact List.map_congr_left fun x _ => chop_lf x
 unfold finL
 split
 . rename_i h
   have hne : s.drop (scanL s s.length).2 ≠ [] := fun e => by
     have := congrArg List.length e
     simp at this
     omega
   rw [h1, linesOf_no _ h2 hne, List.map_append, hm]
   simp [chop_no h2]
 . rename_i h
   have he : s.drop (scanL s s.length).2 = [] := List.drop_eq_nil_of_le (by omega)
   rw [h1, he, List.map_append, hm]
   simp [linesOf]
theorem fn14 (s : By) (hl : s.length <= 40000) : Ct prog 14 [vS s] (.tup [hdR (dmgS s), vi 0]) (bkR (dmgS s)) := by
 have c1 := fn51 s (by omega)
 have hll := lines_le s
 have e := finL_eq s
 have h := refDmg s (finL s).1 (finL s).2 c1 hl (by rw [e, List.length_map]; omega) (fun l hm => by
   rw [e] at hm
   obtain ⟨x, hx, rfl⟩ := List.mem_map.1 hm
   have := lines_mem_len hx
   have := chop_len x
   omega)
 rw [e, List.length_map, dmR_at] at h
 exact h
open Go.RowKit
def errV : V := .d (.ifc 223 false [.ref []])
theorem ofErr {f : FuncId} {vs0 : List Value} {n : Int} (hf : isFn prog f)
   (h : ∀ W, GlobN W -> Calls prog f vs0.toArray W fun e W' => ∃ N c, e = .returned (.tuple #[.int .i64 n, .iface 223 (.pointer (some ⟨N, 0, none⟩))]) /\ W.heap.size <= N /\ W'.heap[N]? = some c /\ Below W.heap.size W W') : Ct prog f (vs0.map cV) (.tup [vi n, errV]) [] := by
 refine ⟨hf, fun G W xs hGW hargs hpre => ?_⟩
 have hx := lit_args hargs
 obtain ⟨xs⟩ := xs
 simp only at hx
 subst hx
 refine Calls.mono (h W hGW.globN) fun e W' ⟨N, c, he, hN, hc, hb⟩ => ?_
 subst he
 have hlt := (Array.getElem?_eq_some_iff.1 hc).1
 refine ⟨{ G with Im := fun b => G.Im b \/ b = N }, ⟨hb.os, hb.tape, hb.output, Nat.le_refl _, hb.size, fun b hb' _ => hb.block b hb', fun b hb' => ?_, fun _ h => .inl h, ?_, ?_, ?_, ?_, ?_⟩⟩
 . rcases hb' with h | rfl
   . exact ⟨Nat.lt_of_lt_of_le (hGW.1 b h) hb.size, .inl h⟩
   . exact ⟨hlt, .inr (.inl hN)⟩
 . refine ⟨_, rfl, .lit _ rfl, ?_, trivial⟩
   exact .ifc1 _ _ _ (.ref [] ⟨N, 0, none⟩ (fun _ => undef) (.inr rfl) (fun j x h => by simp at h) (fun j x h => by simp at h))
 . intro c hc
   simp at hc
   rcases hc with rfl | rfl <;> trivial
 . intro i cs h; cases h
 . intro i j h; simp [InH, lk] at h
 . intro i h; cases h
theorem synVar {W : World} (h : GlobN W) : ∃ tp p, W.var? prog "strconv.ErrSyntax" = some #[.iface tp p] := by
 obtain ⟨Wr, h1, h2⟩ := h
 have := h1 gSyn (by decide)
 obtain ⟨tp, p, h3⟩ : ∃ tp p, tabW Wr gSyn #[.iface tp p] := by simpa [globAt, gSyn, gMax] using this
 exact ⟨tp, p, tab_var (tab_of h3 h2) atoiL.m15⟩
theorem rngVar {W : World} (h : GlobN W) : ∃ tp p, W.var? prog "strconv.ErrRange" = some #[.iface tp p] := by
 obtain ⟨Wr, h1, h2⟩ := h
 have := h1 gRng (by decide)
 obtain ⟨tp, p, h3⟩ : ∃ tp p, tabW Wr gRng #[.iface tp p] := by simpa [globAt, gRng, gSyn, gMax] using this
 exact ⟨tp, p, tab_var (tab_of h3 h2) atoiL.m16⟩
def numA (s : By) : Int := match Go.Lib.atoiAll s with
 | .ok v => v
 | _ => -4611686018427387904
def isSyn : Go.Lib.NumEnd Int → Bool
 | .ok _ => false
 | .range => false
 | _ => true
theorem atoi_three (s : By) : (∃ v, Go.Lib.atoiAll s = .ok v) ∨ isSyn (Go.Lib.atoiAll s) = true ∨ Go.Lib.atoiAll s = .range := by
 cases Go.Lib.atoiAll s <;> simp [isSyn]
theorem numA_syn {s : By} (h : isSyn (Go.Lib.atoiAll s) = true) : numA s = -4611686018427387904 := by
 unfold numA
 revert h
 cases Go.Lib.atoiAll s <;> simp [isSyn]
theorem atoi_syn (s : By) (hs : s.length <= 1000000000) (h : isSyn (Go.Lib.atoiAll s) = true) : Ct prog 90 [vS s] (.tup [vi 0, errV]) [] :=
 ofErr (vs0 := [.string (bs s)]) ⟨_, func90, by kernel_rfl, by decide⟩ fun W hW => by
   obtain ⟨tp, p, hv⟩ := synVar hW
   exact (Go.Proofs.Any.strconv_Atoi_syntax_var atoiL (bs s) (by simp only [bs_size]; omega) (by rw [bs_toList]; revert h; cases Go.Lib.atoiAll s <;> simp [isSyn]) tp p W hv).mono fun e W' ⟨N, he, hN, hc, hb⟩ => ⟨N, _, he, hN, hc, hb⟩
theorem atoi_rng (s : By) (hs : s.length <= 1000000000) (h : Go.Lib.atoiAll s = .range) : Ct prog 90 [vS s] (.tup [vi (Go.Lib.atoiSat s), errV]) [] :=
 ofErr (vs0 := [.string (bs s)]) ⟨_, func90, by kernel_rfl, by decide⟩ fun W hW => by
   obtain ⟨tp, p, hv⟩ := rngVar hW
   have := (Go.Proofs.Any.strconv_Atoi_range_var atoiL (bs s) (by simp only [bs_size]; omega) (by rw [bs_toList]; exact h) tp p W hv)
   rw [bs_toList] at this
   exact this.mono fun e W' ⟨N, he, hN, hc, hb⟩ => ⟨N, _, he, hN, hc, hb⟩
theorem number_ok (s : By) (v : Int) (hs : s.length <= 1000000000) (h : Go.Lib.atoiAll s = .ok v) : Ct prog 43 [vS s] (vi v) [] :=
 Cm.ofLit (vs0 := [.string (bs s)]) (v := .int .i64 v) ⟨_, func43, by kernel_rfl, by decide⟩ rfl fun W hW => by
   have e90 : ∀ args w, (callFunc 90 args).run prog w = .ok (.enter 90 args) w := Go.Proofs.enters_of func90 (by kernel_rfl) rfl
   go_enter func43, ntmps43
   go_wp2_with (go_at_fn 90; refine (Go.Proofs.Any.strconv_Atoi_ok atoiL (bs s) (by simp only [bs_size]; omega) v (by rw [bs_toList]; exact h) _).mono ?_; rintro e w' ⟨rfl, hw⟩)
   go_ret
   refine ⟨rfl, ?_⟩
   rcases hw with rfl | ⟨t, rfl⟩
   . exact Below.refl _ _
   . exact Go.Lib.bytesWorld_below _ _ _
theorem fn43 (s : By) (hs : s.length <= 1000000000) : Ct prog 43 [vS s] (vi (numA s)) [] := by
 cases atoi_three s with
 | inl h =>
   obtain ⟨v, h⟩ := h
   have := number_ok s v hs h
   simpa only [numA, h] using this
 | inr h =>
 cases h with
 | inl h =>
   have c1 := atoi_syn s hs h
   have h := numA_syn h
   unfold errV at c1
   refine CB func43 c43 fun E hE => ?_
   simp [p43]
   refine CLa c1 ?_
   simp
   apply RZ
   simp [results43, h]
 | inr h =>
   have c1 := atoi_rng s hs h
   unfold errV at c1
   refine CB func43 c43 fun E hE => ?_
   simp [p43]
   refine CLa c1 ?_
   simp
   apply RZ
   simp [results43, numA, h]
def splS (s : By) : List By := (Go.Lib.splitB (bs [32]) 0 (Go.Lib.countB (bs s) (bs [32])) (bs s)).map fun x => x.data.toList
theorem splitB_len (sep : ByteArray) (save : Nat) : ∀ (k : Nat) (s : ByteArray), 1 <= (Go.Lib.splitB sep save k s).length /\ (Go.Lib.splitB sep save k s).length <= k + 1
 | 0, s => by simp [Go.Lib.splitB]
 | k + 1, s => by
   unfold Go.Lib.splitB
   split
   . simp
   . have := splitB_len sep save k (s.extract ((Go.Lib.indexB s sep).toNat + sep.size) s.size)
     simp only [List.length_cons]
     omega
theorem splitB_mem (sep : ByteArray) : ∀ (k : Nat) (s x : ByteArray), x ∈ Go.Lib.splitB sep 0 k s -> x.size <= s.size
 | 0, s, x, h => by simp [Go.Lib.splitB] at h; subst h; exact Nat.le_refl _
 | k + 1, s, x, h => by
   unfold Go.Lib.splitB at h
   split at h
   . simp at h; subst h; exact Nat.le_refl _
   . rcases List.mem_cons.1 h with rfl | h
     . simp [ByteArray.size_extract]; omega
     . have := splitB_mem sep k _ x h
       simp [ByteArray.size_extract] at this
       omega
theorem splS_len (s : By) : 1 <= (splS s).length /\ (splS s).length <= s.length + 1 := by
 have h1 := splitB_len (bs [32]) 0 (Go.Lib.countB (bs s) (bs [32])) (bs s)
 have h2 := Go.Lib.countB_le (bs [32]) (by simp) (bs s).size (bs s) (Nat.le_refl _)
 unfold splS
 rw [List.length_map]
 simp only [bs_size] at h2
 omega
theorem splS_mem {s x : By} (h : x ∈ splS s) : x.length <= s.length := by
 obtain ⟨y, hy, rfl⟩ := List.mem_map.1 h
 have := splitB_mem _ _ _ _ hy
 rw [bs_size] at this
 rw [Array.length_toList]
 exact this
theorem split_at (s : By) (hs : s.length <= 1000000000) : Ct prog 42 [vS s, vS [32]] (.ls 0 0 (splS s).length 1) [(0, fcel strL (splS s))] := by
 have h := fn42 s [32] (by omega) (by simp)
 have e : fcel strL (splS s) = (Go.Lib.splitB (bs [32]) 0 (Go.Lib.countB (bs s) (bs [32])) (bs s)).map fun x => V.d (.lit (.string x)) := by
   unfold splS
   rw [<- strsV_eq]
   unfold strsV
   rw [List.map_map]
   refine List.map_congr_left fun x _ => ?_
   show V.d (.lit (.string (bs x.data.toList))) = _
   rw [bs_data]
 rw [e]
 have e2 : (splS s).length = (Go.Lib.splitB (bs [32]) 0 (Go.Lib.countB (bs s) (bs [32])) (bs s)).length := by unfold splS; rw [List.length_map]
 rw [e2]
 exact h
def frontS (s : By) : By := (Go.Lib.cut s [32, 59, 32]).1
def tailS (s : By) : By := (Go.Lib.cut s [32, 59, 32]).2.1
def entR (s : By) : Etr := ⟨numA ((splS (frontS s)).headD []), (splS (frontS s))[1]?.getD [], ((splS (frontS s)).drop 2).map numA, tailS s⟩
theorem cut_len (s sep : By) : (Go.Lib.cut s sep).1.length <= s.length /\ (Go.Lib.cut s sep).2.1.length <= s.length := by
 unfold Go.Lib.cut
 split
 . simp
   omega
 . simp
abbrev entZ : List V := [vi 0, vS [], .d (.lit (.slice none 0 0)), vS []]
theorem int_nil : fcel intL [] = [] := rfl
def argN (q : List By) (i : Nat) : List Int := (q.map numA).take i
theorem argN_zero (q : List By) : argN q 0 = [] := rfl
theorem argN_len {q : List By} {i : Nat} (h : i <= q.length) : (argN q i).length = i := by unfold argN; simp; omega
theorem argN_succ {q : List By} {i : Nat} {l : By} (h : q[i]? = some l) : argN q (i + 1) = argN q i ++ [numA l] := by
 unfold argN
 rw [List.take_add_one, List.getElem?_map, h]; rfl
theorem argN_all (q : List By) : argN q q.length = q.map numA := by unfold argN; exact List.take_of_length_le (by simp)
def hdF (ds : List Int) : V := if ds = [] then .d (.lit (.slice none 0 0)) else .ls 3 0 ds.length 1
def bkF (ds : List Int) : List (Nat × List V) := if ds = [] then [] else [(3, fcel intL ds)]
theorem entry_raw (s : By) (hs : s.length <= 1000000) : Ct prog 47 [vS s] (.agg [vi (entR s).t, vS (entR s).w, hdR (entR s).a, vS (entR s).n]) (bkR (entR s).a) := by
 have hri : ResIds (.agg [vi (entR s).t, vS (entR s).w, hdR (entR s).a, vS (entR s).n]) (bkR (entR s).a) := by
   unfold hdR bkR
   split
   . simp [ResIds]
   . simp [ResIds]
 have hne : ∀ (ds : List Int) (x : Int), ¬ (ds ++ [x] = []) := fun ds x => by simp
 unfold entR at hri ⊢
 simp only at hri ⊢
 have hcl := cut_len s [32, 59, 32]
 have c1 := fn94 s [32, 59, 32] (by omega)
 change Ct prog _ _ (.tup [vS (frontS s), vS (tailS s), vb (Go.Lib.cut s [32, 59, 32]).2.2]) _ at c1
 have hfl : (frontS s).length <= s.length := hcl.1
 have htl : (tailS s).length <= s.length := hcl.2
 have c2 := split_at (frontS s) (by omega)
 have hpl := splS_len (frontS s)
 have hpm : ∀ x ∈ splS (frontS s), x.length <= 1000000 := fun x hx => by have := splS_mem hx; omega
 generalize hP : splS (frontS s) = P at *
 generalize (Go.Lib.cut s [32, 59, 32]).2.2 = tf at *
 have hll := fcel_len hfs P
 rw [Nat.mul_one] at hll
 obtain ⟨p0, r, rfl⟩ := List.exists_cons_of_ne_nil (l := P) (fun e => by rw [e] at hpl; simp at hpl)
 have c3 := fn43 p0 (by have := hpm p0 (by simp); omega)
 have hp0 : (0 : Int) < (p0 :: r).length := by simp
 refine Ct.by gok eok mixed func47 c47 rfl (by simp [ntmps47]) (by simp) hri fun E hE => ?_
 simp [p47]
 refine CLa c1 ?_
 simp
 refine CLa c2 ?_
 simp [fcel_cons]
 refine CLa c3 ?_
 by_cases hr : r = []
 . subst hr
   simp [splice]
   refine RetOk.by (lk [(0, 0)]) ?_
   simp [results47, hdR, bkR]
 . obtain ⟨p1, q, rfl⟩ := List.exists_cons_of_ne_nil hr
   have hq1 : (1 : Int) < (q.length : Int) + 1 + 1 := by omega
   have hql : q.length <= 1000001 := by have := hpl.2; simp at this; omega
   have hqc : (∀ x ∈ fcel strL q, x.isCell = true) = True := eq_true fcel_cell
   have hq2 : (2 : Int) <= (q.length : Int) + 1 + 1 := by omega
   simp [splice, hq1, hq2, fcel_cons]
   refine pw_loop (α := Nat) (fun i => ⟨slots [(2, .lp 0 0), (7, .lp 1 0), (32, .ls 2 2 q.length 1), (33, vi q.length), (34, vi i)], lk ((0, entZ) :: (1, [vi (numA p0), vS p1, hdF (argN q i), vS (tailS s)]) :: (2, fcel strL (p0 :: p1 :: q)) :: bkF (argN q i)), 4⟩) (fun i => i <= q.length) (fun i => q.length - i) 0 ?_ ?_ ?_
   . omega
   . simp only [argN_zero, hdF, bkF, if_true]
     refine Weak.mk hE (lk [(0, 0), (1, 19922944), (2, 11534336)]) _ _ _ ?_ ?_ ?_ ?_ ?_ <;> simp [fcel_cons, hqc]
   . intro i hi
     have hn : (argN q i).length = i := argN_len hi
     have hsl := fcel_len hfi1 (argN q i)
     have hwh := fcel_whole hfi1 (argN q i)
     rw [Nat.mul_one, hn] at hsl hwh
     by_cases h : i < q.length
     . obtain ⟨l, hx⟩ := gE h
       have hI : (i : Int) < q.length := by omega
       have hz := @wz i (by omega)
       have hx2 : (p0 :: p1 :: q)[i + 2]? = some l := by simpa using hx
       have hcel : List.take 1 (List.drop (2 + i) (fcel strL (p0 :: p1 :: q))) = [vS l] := by
         have := fcel_sub hfs (x := l) (j := 0) (k := 1) hx2 (by omega)
         rw [Nat.add_comm 2 i]
         simpa using this
       have hlm := hpm l (by simp [List.mem_of_getElem? hx])
       have co := fn43 l (by omega)
       have n0 : 2 + i + 1 <= q.length + 1 + 1 := by omega
       have n1 : (i + 1) * 8 <= 140737488355328 := by omega
       have n2 : i + 1 <= 9223372036854775807 := by omega
       have hnx := argN_succ hx
       generalize hds : argN q i = ds at *
       by_cases he : ds = []
       . have hi0 : i = 0 := by rw [<- hn, he]; rfl
         simp only [hdF, bkF, he, if_true]
         simp [p47l0, hI, hcel, hll, n0, inC, Nat.testBit]
         refine CLa co ?_
         simp [splice, repl, hz]
         refine ⟨i + 1, by omega, by omega, ?_⟩
         rw [hnx]
         simp only [he, List.nil_append]
         refine Weak.mk hE (lk [(0, 0), (1, 1), (2, 2), (3, 9437188)]) _ _ _ ?_ ?_ ?_ ?_ ?_ <;> simp [int_nil, fcel_cons, hqc]
       . simp only [hdF, bkF, he, if_false]
         simp [p47l0, hI, hcel, hll, n0, inC, Nat.testBit]
         refine CLa co ?_
         simp [splice, repl, hz, hn, hsl, hwh, n1, n2]
         refine ⟨i + 1, by omega, by omega, ?_⟩
         rw [hnx]
         simp only [hne, if_false]
         refine Weak.mk hE (lk [(0, 0), (1, 1), (2, 2), (3, 9437188)]) _ _ _ ?_ ?_ ?_ ?_ ?_ <;> simp [fcel_one, fcel_cons, hqc, hn]
     . have e : i = q.length := by omega
       subst e
       have hI : ¬ ((q.length : Int) < q.length) := by omega
       rw [argN_all]
       by_cases he : q.map numA = []
       . simp only [hdF, bkF, he, if_true]
         simp [p47l0, splice]
         refine RetOk.by (lk [(0, 0)]) ?_
         simp [results47, hdR, bkR]
       . simp only [hdF, bkF, he, if_false]
         simp [p47l0, splice]
         refine RetOk.by (lk [(0, 3)]) ?_
         simp [results47, hdR, bkR, he]
end Go.Proofs.Tryz
namespace Go.Psl
variable {P : Program} {Γ : Tys} {eqs : Eqs} {K : RK} {Kx : V -> RK} {b n : Nat} {r : List PO} {f : Nat -> V} {H : Hp} {dst : Option Nat}
def panK (Kx : V -> RK) (f : Nat -> V) (H : Hp) (n : Nat) : V -> Prop
 | .d (.ifc t ag cs) => Kx (.d (.ifc t ag cs)) f H n
 | _ => False
theorem panK_ifc {t : TypeId} {ag : Bool} {cs : List D} : panK Kx f H n (.d (.ifc t ag cs)) = Kx (.d (.ifc t ag cs)) f H n := nrfl rfl
theorem rr_pan {x : Operand} : rr P Γ eqs Kx K b (⟨dst, .panic x, none⟩ :: r) f H = panK Kx f H (b + 1048576) (evF f x) := by
 simp only [rr, runR, PO.run, gV2, stepC, evalOp, true_and]
 unfold panK
 split
 . rename_i t ag cs h; rw [h]; simp
 . rename_i h
   simp only [eq_iff_iff, iff_false, not_and]
   rintro ⟨t, ag, cs, e⟩
   exact absurd e (h t ag cs)
attribute [simp] rr_pan panK_ifc xQ_eq
end Go.Psl
namespace Go.Proofs.Tryz
open Go.Psl
open Go.Log
theorem fn47 (s : By) (hs : s.length <= 1000000) : Ct prog 47 [vS s] (entV (entR s)) [] := by
 have h := entry_raw s hs
 generalize entR s = x at *
 refine Cm.freeze h ?_
 unfold hdR bkR
 by_cases he : x.a = []
 . rw [if_pos he, if_pos he]
   have e : intsD x.a = .sl 1 [] := by rw [he]; rfl
   rw [show entV x = .agg [vi x.t, vS x.w, .d (.sl 1 []), vS x.n] by rw [<- e]]
   exact ⟨⟨_, rfl, .inl rfl⟩, ⟨_, rfl, .inl rfl⟩, ⟨_, rfl, .inr ⟨rfl, _, rfl⟩⟩, ⟨_, rfl, .inl rfl⟩, trivial⟩
 . rw [if_neg he, if_neg he]
   exact ⟨⟨_, rfl, .inl rfl⟩, ⟨_, rfl, .inl rfl⟩, ⟨_, rfl, bor_fcel (f := intL) hfi1 (l := x.a) (by simp)⟩, ⟨_, rfl, .inl rfl⟩, trivial⟩
abbrev wrgD (line e : Int) : D := .ifc 87 true [di line, di e]
theorem need_ok (line e : Int) : Ct prog 39 [vb true, vi line, vi e] (.tup []) [] := by
 refine CB func39 c39 fun E hE => ?_
 simp [p39]
 apply RZ
 simp [results39]
theorem need_no (line e : Int) : Cm prog 39 [vb false, vi line, vi e] (lk []) [] (.pan (.d (wrgD line e))) (lk []) := by
 refine CM 0 func39 c39 fun E hs hE => ?_
 simp [p39, splice]
 refine ⟨fun _ => none, ?_, ?_, ?_, ?_⟩ <;> simp
end Go.Proofs.Tryz
namespace Go.Log
def splC (c : UInt8) : By -> List By
 | [] => [[]]
 | b :: r => if b = c then [] :: splC c r else match splC c r with
   | [] => [[b]]
   | x :: xs => (b :: x) :: xs
theorem splC_ne (c : UInt8) : ∀ s : By, splC c s ≠ []
 | [] => by simp [splC]
 | b :: r => by
   unfold splC
   split
   . simp
   . split <;> simp
theorem index_one_ne {b c : UInt8} (r : By) (h : b ≠ c) : Go.Lib.index (b :: r) [c] = if Go.Lib.index r [c] = -1 then -1 else Go.Lib.index r [c] + 1 := by
 have h1 : List.isPrefixOf [c] (b :: r) = false := by simp [List.isPrefixOf]; exact fun e => h e.symm
 conv => lhs; unfold Go.Lib.index
 rw [h1]
 simp only [Bool.false_eq_true, if_false, beq_iff_eq]
theorem splitC_eq (c : UInt8) : ∀ s : By, Go.Lib.splitK [c] 0 (Go.Lib.count s [c]) s = splC c s
 | [] => by
   have : Go.Lib.count [] [c] = 0 := by rw [Go.Lib.count_one]; rfl
   rw [this]; rfl
 | b :: r => by
   have ih := splitC_eq c r
   by_cases hb : b = c
   . subst hb
     have h0 : Go.Lib.index (b :: r) [b] = 0 := by
       unfold Go.Lib.index
       simp [List.isPrefixOf]
     rw [Go.Lib.count_cons_eq, Nat.add_comm]
     unfold Go.Lib.splitK splC
     rw [h0]
     simp only [if_true]
     rw [<- ih]
     simp
   . rw [Go.Lib.count_cons_ne _ _ _ hb]
     unfold splC
     rw [if_neg hb, <- ih]
     cases hk : Go.Lib.count r [c] with
     | zero => rfl
     | succ k =>
       have hne : ¬ Go.Lib.index r [c] = -1 := fun e => by rw [Go.Lib.count_miss e] at hk; cases hk
       have hge := Go.Lib.index_ge r [c]
       obtain ⟨i, hi⟩ : ∃ i : Nat, Go.Lib.index r [c] = i := ⟨(Go.Lib.index r [c]).toNat, by omega⟩
       have h1 : ¬ ((i : Int) = -1) := by omega
       have h2 : ¬ ((i : Int) + 1 = -1) := by omega
       unfold Go.Lib.splitK
       rw [index_one_ne r hb, hi, if_neg h1]
       simp only [beq_iff_eq, h1, h2, if_false, Nat.add_zero]
       have e1 : ((i : Int) + 1).toNat = i + 1 := by omega
       have e2 : (i : Int).toNat = i := by omega
       rw [e1, e2]
       simp
def noB (c : UInt8) (s : By) : Prop := ∀ b ∈ s, b ≠ c
theorem splC_one {c : UInt8} : ∀ {x : By}, noB c x -> splC c x = [x]
 | [], _ => rfl
 | b :: r, h => by
   unfold splC
   rw [if_neg (h b (by simp)), splC_one (x := r) fun d hd => h d (by simp [hd])]
theorem splC_app {c : UInt8} : ∀ {x : By} (y : By), noB c x -> splC c (x ++ c :: y) = x :: splC c y
 | [], y, _ => by rw [List.nil_append, splC, if_pos rfl]
 | b :: r, y, h => by
   rw [List.cons_append, splC, if_neg (h b (by simp)), splC_app (x := r) y fun d hd => h d (by simp [hd])]
theorem splC_join {c : UInt8} : ∀ {x : By} {xs : List By}, noB c x -> (∀ y ∈ xs, noB c y) -> splC c (Go.Lib.join (x :: xs) [c]) = x :: xs
 | x, [], h, _ => by rw [Go.Lib.join_cons]; simp [Go.Lib.joinTail]; exact splC_one h
 | x, y :: ys, h, h2 => by
   have ih := splC_join (x := y) (xs := ys) (h2 y (by simp)) fun z hz => h2 z (by simp [hz])
   rw [Go.Lib.join_cons] at ih ⊢
   have e : Go.Lib.joinTail [c] (y :: ys) = c :: (y ++ Go.Lib.joinTail [c] ys) := by simp [Go.Lib.joinTail]
   rw [e, splC_app _ h, ih]
theorem join_splC (c : UInt8) : ∀ s : By, Go.Lib.join (splC c s) [c] = s
 | [] => by simp [splC, Go.Lib.join, List.intercalate]
 | b :: r => by
   have ih := join_splC c r
   unfold splC
   split
   . rename_i h; subst h
     rw [Go.Lib.join_cons]
     obtain ⟨x, xs, e⟩ := List.exists_cons_of_ne_nil (splC_ne b r)
     rw [e, Go.Lib.join_cons] at ih
     rw [e]
     have e2 : Go.Lib.joinTail [b] (x :: xs) = b :: (x ++ Go.Lib.joinTail [b] xs) := by simp [Go.Lib.joinTail]
     rw [e2, ih]; rfl
   . obtain ⟨x, xs, e⟩ := List.exists_cons_of_ne_nil (splC_ne c r)
     rw [e] at ih ⊢
     simp only
     rw [Go.Lib.join_cons] at ih ⊢
     rw [List.cons_append, ih]
abbrev splP : By -> List By := splC 32
theorem split_eq (s : By) : Go.Lib.splitK [32] 0 (Go.Lib.count s [32]) s = splP s := splitC_eq 32 s
theorem splP_join {x : By} {xs : List By} (h : noB 32 x) (h2 : ∀ y ∈ xs, noB 32 y) : splP (Go.Lib.join (x :: xs) [32]) = x :: xs := splC_join h h2
theorem join_splP (s : By) : Go.Lib.join (splP s) [32] = s := join_splC 32 s
theorem splC_sep (c : UInt8) : ∀ t : By, splC c (t ++ [c]) = splC c t ++ [[]]
 | [] => by simp [splC]
 | a :: t => by
   have ih := splC_sep c t
   rw [List.cons_append, splC, ih]
   conv => rhs; rw [splC]
   split
   . rfl
   . obtain ⟨x, xs, e⟩ := List.exists_cons_of_ne_nil (splC_ne c t)
     rw [e]; rfl
theorem splC_chr {c b : UInt8} (h : b ≠ c) : ∀ t : By, ∃ r x, splC c t = r ++ [x] /\ splC c (t ++ [b]) = r ++ [x ++ [b]]
 | [] => ⟨[], [], rfl, by simp [splC, h]⟩
 | a :: t => by
   obtain ⟨r, x, h1, h2⟩ := splC_chr h t
   rw [List.cons_append, splC, splC, h1, h2]
   by_cases hc : a = c
   . rw [if_pos hc, if_pos hc]
     exact ⟨[] :: r, x, rfl, rfl⟩
   . rw [if_neg hc, if_neg hc]
     cases r with
     | nil => exact ⟨[], a :: x, rfl, rfl⟩
     | cons y r => exact ⟨(a :: y) :: r, x, rfl, rfl⟩
theorem splC_len (c : UInt8) : ∀ s : By, 1 <= (splC c s).length /\ (splC c s).length <= s.length + 1
 | [] => by simp [splC]
 | b :: r => by
   have ih := splC_len c r
   unfold splC
   split
   . simp; omega
   . obtain ⟨x, xs, e⟩ := List.exists_cons_of_ne_nil (splC_ne c r)
     rw [e] at ih ⊢
     simp at ih ⊢; omega
theorem splC_mem {c : UInt8} : ∀ {s x : By}, x ∈ splC c s -> x.length <= s.length
 | [], x, h => by simp [splC] at h; subst h; simp
 | b :: r, x, h => by
   unfold splC at h
   split at h
   . rcases List.mem_cons.1 h with rfl | h
     . simp
     . have := splC_mem (s := r) h; simp; omega
   . obtain ⟨y, ys, e⟩ := List.exists_cons_of_ne_nil (splC_ne c r)
     rw [e] at h
     rcases List.mem_cons.1 h with rfl | h
     . have := splC_mem (s := r) (x := y) (by rw [e]; simp)
       simp; omega
     . have := splC_mem (s := r) (x := x) (by rw [e]; simp [h])
       simp; omega
theorem dec_small {u : Nat} (h : u < 10) : Go.Lib.decDigits u = [UInt8.ofNat (48 + u)] := Go.Lib.decDigits_one h
theorem dec_big {u : Nat} (h : ¬ u < 10) : Go.Lib.decDigits u = Go.Lib.decDigits (u / 10) ++ [UInt8.ofNat (48 + u % 10)] := by
 rw [Go.Lib.decDigits, dif_neg h]
theorem ofNat_toNat {n : Nat} (h : n < 256) : (UInt8.ofNat n).toNat = n := by simp [UInt8.toNat_ofNat']; omega
theorem dec_dg : ∀ (u : Nat), ∀ b ∈ Go.Lib.decDigits u, 48 <= b.toNat /\ b.toNat <= 57 := by
 intro u
 induction u using Nat.strongRecOn with
 | _ u ih =>
   intro b hb
   by_cases h : u < 10
   . rw [dec_small h] at hb
     simp only [List.mem_singleton] at hb
     subst hb
     rw [ofNat_toNat (by omega)]; omega
   . rw [dec_big h, List.mem_append] at hb
     rcases hb with hb | hb
     . exact ih (u / 10) (by omega) b hb
     . simp only [List.mem_singleton] at hb
       subst hb
       rw [ofNat_toNat (by omega)]; omega
theorem dec_ne (u : Nat) : Go.Lib.decDigits u ≠ [] := by
 by_cases h : u < 10
 . rw [dec_small h]; simp
 . rw [dec_big h]; simp
theorem numS_by {n : Int} {b : UInt8} (h : b ∈ numS n) : b = 45 \/ (48 <= b.toNat /\ b.toNat <= 57) := by
 unfold numS Go.Lib.itoa at h
 split at h
 . rcases List.mem_cons.1 h with h | h
   . exact .inl h
   . exact .inr (dec_dg _ _ h)
 . exact .inr (dec_dg _ _ h)
theorem numS_no {n : Int} {c : UInt8} (h1 : c ≠ 45) (h2 : c.toNat < 48 \/ 57 < c.toNat) : noB c (numS n) := by
 intro b hb e
 subst e
 rcases numS_by hb with h | h
 . exact h1 h
 . omega
theorem parse_app : ∀ (l : By) (acc : Nat) (c : UInt8), Go.Lib.parseUint10 acc (l ++ [c]) = match Go.Lib.parseUint10 acc l with
   | .ok a => Go.Lib.parseUint10 a [c]
   | r => r
 | [], acc, c => by simp [Go.Lib.parseUint10]
 | d :: l, acc, c => by
   simp only [List.cons_append, Go.Lib.parseUint10]
   split
   . split
     . rfl
     . split
       . rfl
       . exact parse_app l _ c
   . rfl
theorem parse_dec : ∀ (u : Nat), u < 9223372036854775808 -> Go.Lib.parseUint10 0 (Go.Lib.decDigits u) = .ok u := by
 intro u
 induction u using Nat.strongRecOn with
 | _ u ih =>
   intro hu
   by_cases h : u < 10
   . rw [dec_small h]
     have := ofNat_toNat (n := 48 + u) (by omega)
     simp only [Go.Lib.parseUint10, this]
     rw [if_pos (by omega), if_neg (by omega), if_neg (by omega)]
     congr 1; omega
   . rw [dec_big h, parse_app, ih (u / 10) (by omega) (by omega)]
     have := ofNat_toNat (n := 48 + u % 10) (by omega)
     simp only [Go.Lib.parseUint10, this]
     rw [if_pos (by omega), if_neg (by omega), if_neg (by omega)]
     congr 1; omega
theorem atoi_num {v : Int} (h0 : -9223372036854775808 < v) (h1 : v < 9223372036854775808) : Go.Lib.atoiAll (numS v) = .ok v := by
 unfold numS Go.Lib.itoa
 by_cases hv : v < 0
 . rw [if_pos hv]
   have e45 : (45 : UInt8).toNat = 45 := rfl
   simp only [Go.Lib.atoiAll, e45, if_true, or_true, Go.Lib.parseMag, dec_ne, if_false]
   rw [parse_dec _ (by omega)]
   simp only [not_true_eq_false, false_and, if_false, true_and]
   rw [if_neg (by omega)]
   congr 1; omega
 . rw [if_neg hv]
   obtain ⟨c, r, e⟩ := List.exists_cons_of_ne_nil (dec_ne v.toNat)
   have hc := dec_dg v.toNat c (by rw [e]; simp)
   have hp := parse_dec v.toNat (by omega)
   rw [e] at hp ⊢
   have h43 : ¬ (c.toNat = 43) := by omega
   have h45 : ¬ (c.toNat = 45) := by omega
   simp only [Go.Lib.atoiAll, h43, h45, or_false, if_false, Go.Lib.parseMag]
   rw [if_neg (by simp), hp]
   simp only [not_false_eq_true, true_and, false_and, if_false]
   rw [if_neg (by omega)]
   congr 1; omega
def digs : By -> Int -> Option Int
 | [], n => some n
 | d :: r, n => if dgB d = true /\ n <= 1000000000000 then digs r (n * 10 + ((d.toNat : Int) - 48)) else none
def negB (s : By) : Bool := decide (s.head? = some 45)
def dgsOf (s : By) : By := if negB s then s.tail else s
def sgn (s : By) (n : Int) : Int := if negB s then -n else n
def valS (s : By) : Int × Bool := match digs (dgsOf s) 0 with
 | none => (0, false)
 | some n => (sgn s n, decide (dgsOf s ≠ []) && decide (numS (sgn s n) = s))
theorem digs_bd : ∀ (l : By) (n v : Int), 0 <= n -> n <= 10000000000009 -> digs l n = some v -> 0 <= v /\ v <= 10000000000009
 | [], n, v, h0, h1, h => by cases h; exact ⟨h0, h1⟩
 | d :: r, n, v, h0, h1, h => by
   unfold digs at h
   split at h
   . rename_i hc
     have hd := hc.1
     simp only [dgB, Bool.and_eq_true, decide_eq_true_eq] at hd
     exact digs_bd r _ v (by omega) (by omega) h
   . cases h
theorem digs_app : ∀ (l : By) (n : Int) (c : UInt8), digs (l ++ [c]) n = (digs l n).bind fun a => digs [c] a
 | [], n, c => rfl
 | d :: l, n, c => by
   simp only [List.cons_append, digs]
   split
   . rw [digs_app l]; rfl
   . rfl
theorem digs_dec : ∀ (u : Nat), u <= 10000000000009 -> digs (Go.Lib.decDigits u) 0 = some (u : Int) := by
 intro u
 induction u using Nat.strongRecOn with
 | _ u ih =>
   intro hu
   by_cases h : u < 10
   . rw [dec_small h]
     have := ofNat_toNat (n := 48 + u) (by omega)
     unfold digs
     rw [if_pos ⟨by simp [dgB]; omega, by omega⟩]
     simp only [digs, this, Option.some.injEq]
     omega
   . rw [dec_big h, digs_app, ih (u / 10) (by omega) (by omega)]
     have := ofNat_toNat (n := 48 + u % 10) (by omega)
     simp only [Option.bind_some]
     unfold digs
     rw [if_pos ⟨by simp [dgB]; omega, by omega⟩]
     simp only [digs, this, Option.some.injEq]
     omega
theorem val_of {s : By} {v : Int} (h : valS s = (v, true)) : numS v = s /\ -100000000000000 < v /\ v < 100000000000000 := by
 unfold valS at h
 split at h
 . cases h
 . rename_i n hn
   simp only [Prod.mk.injEq, Bool.and_eq_true, decide_eq_true_eq] at h
   obtain ⟨h1, _, h3⟩ := h
   have := digs_bd _ _ _ (by omega) (by omega) hn
   rw [<- h1]
   refine ⟨h3, ?_⟩
   unfold sgn
   split <;> omega
theorem val_num {v : Int} (h0 : -10000000000000 <= v) (h1 : v <= 10000000000000) : valS (numS v) = (v, true) := by
 by_cases hv : v < 0
 . have e : numS v = 45 :: Go.Lib.decDigits v.natAbs := by unfold numS Go.Lib.itoa; rw [if_pos hv]
   have hn : negB (numS v) = true := by rw [e]; rfl
   have hd : dgsOf (numS v) = Go.Lib.decDigits v.natAbs := by unfold dgsOf; rw [hn, e]; rfl
   have hs : sgn (numS v) (v.natAbs : Int) = v := by unfold sgn; rw [hn]; simp; omega
   unfold valS
   rw [hd, digs_dec _ (by omega)]
   simp only [hs, dec_ne, ne_eq, not_false_eq_true, decide_true, Bool.and_self]
 . have e : numS v = Go.Lib.decDigits v.toNat := by unfold numS Go.Lib.itoa; rw [if_neg hv]
   obtain ⟨c, r, e2⟩ := List.exists_cons_of_ne_nil (dec_ne v.toNat)
   have hc := dec_dg v.toNat c (by rw [e2]; simp)
   have hn : negB (numS v) = false := by
     rw [e, e2]
     unfold negB
     refine decide_eq_false fun h => ?_
     simp only [List.head?_cons, Option.some.injEq] at h
     subst h
     exact absurd hc.1 (by decide)
   have hd : dgsOf (numS v) = Go.Lib.decDigits v.toNat := by unfold dgsOf; rw [hn, e]; rfl
   have hs : sgn (numS v) (v.toNat : Int) = v := by unfold sgn; rw [hn]; simp; omega
   unfold valS
   rw [hd, digs_dec _ (by omega)]
   simp only [hs, dec_ne, ne_eq, not_false_eq_true, decide_true, Bool.and_self]
def numP (s : By) : Int := match Go.Lib.atoiAll s with
 | .ok v => v
 | _ => -4611686018427387904
theorem numP_num {v : Int} (h0 : -9223372036854775808 < v) (h1 : v < 9223372036854775808) : numP (numS v) = v := by
 unfold numP; rw [atoi_num h0 h1]
def frontP (s : By) : By := (Go.Lib.cut s [32, 59, 32]).1
def tailP (s : By) : By := (Go.Lib.cut s [32, 59, 32]).2.1
def entP (s : By) : Etr := ⟨numP ((splP (frontP s)).headD []), (splP (frontP s))[1]?.getD [], ((splP (frontP s)).drop 2).map numP, tailP s⟩
def etP (b : By) (last : Int) : Option Etr := if entS (entP b) && decide (last <= (entP b).t) && decide (bodyS (entP b) = b) then some (entP b) else none
def toldX (s : By) : Etr := ⟨(valS ((splP (frontP s)).headD [])).1, (splP (frontP s))[1]?.getD [], ((splP (frontP s)).drop 2).map fun y => (valS y).1, tailP s⟩
def toldB (s : By) : Bool := decide (2 <= (splP (frontP s)).length) && ((valS ((splP (frontP s)).headD [])).2 && ((splP (frontP s)).drop 2).all (fun y => (valS y).2)) && entS (toldX s)
def etR (b : By) (last : Int) : Option Etr := if toldB b && decide (bodyS (toldX b) = b) && decide (last <= (toldX b).t) then some (toldX b) else none
theorem val_numP {s : By} (h : (valS s).2 = true) : numP s = (valS s).1 /\ numS (valS s).1 = s := by
 have h2 : valS s = ((valS s).1, true) := by rw [<- h]
 obtain ⟨h3, h4, h5⟩ := val_of h2
 refine ⟨?_, h3⟩
 have := numP_num (v := (valS s).1) (by omega) (by omega)
 rw [h3] at this
 exact this
theorem told_ent {s : By} (h : toldB s = true) : toldX s = entP s := by
 simp only [toldB, Bool.and_eq_true, decide_eq_true_eq, List.all_eq_true] at h
 obtain ⟨⟨h1, h2, h3⟩, _⟩ := h
 unfold toldX entP
 rw [(val_numP h2).1]
 congr 1
 refine List.map_congr_left fun y hy => ?_
 rw [(val_numP (h3 y hy)).1]
theorem up_no {b c : UInt8} (h : upB b = true) (h2 : c.toNat < 65 \/ 90 < c.toNat) : b ≠ c := by
 intro e; subst e
 simp only [upB, Bool.and_eq_true, decide_eq_true_eq] at h
 omega
theorem word_no {s : By} {c : UInt8} (h : wordS s = true) (h2 : c.toNat < 65 \/ 90 < c.toNat) : noB c s := by
 intro b hb
 simp only [wordS, madeS, Bool.and_eq_true] at h
 obtain ⟨i, hi⟩ := List.getElem?_of_mem hb
 exact up_no (fitA_iff.1 h.1 i b hi) h2
theorem ship_no {s : By} {c : UInt8} (h : shipS s = true) (h2 : c.toNat < 48) : noB c s := by
 intro b hb e
 subst e
 simp only [shipS, madeS, Bool.and_eq_true] at h
 obtain ⟨i, hi⟩ := List.getElem?_of_mem hb
 have := fitA_iff.1 h.1 i b hi
 simp only [shipF, upB, dgB, Bool.or_eq_true, Bool.and_eq_true, decide_eq_true_eq] at this
 omega
theorem ent_word {x : Etr} (h : entS x = true) : wordS x.w = true := by
 simp only [entS, Bool.and_eq_true] at h
 exact h.1.1.1.2
theorem ent_time {x : Etr} (h : entS x = true) : 0 <= x.t /\ x.t <= 1000000 := by
 simp only [entS, betw, Bool.and_eq_true, decide_eq_true_eq] at h
 exact h.1.1.1.1
theorem ent_arg {x : Etr} (h : entS x = true) : ∀ n ∈ x.a, -1000000000 <= n /\ n <= 1000000000 := by
 intro n hn
 simp only [entS, Bool.and_eq_true] at h
 have := List.all_eq_true.1 h.1.2 n hn
 simpa [argB, betw] using this
theorem occ_59 {s : By} {i : Nat} (h : Go.Lib.occAt s [32, 59, 32] i = true) : s[i + 1]? = some 59 := by
 unfold Go.Lib.occAt at h
 have h2 := List.isPrefixOf_iff_prefix.1 h
 obtain ⟨t, ht⟩ := h2
 have : (s.drop i)[1]? = some 59 := by rw [<- ht]; rfl
 rwa [List.getElem?_drop] at this
theorem cut_none {s : By} (h : noB 59 s) : Go.Lib.cut s [32, 59, 32] = (s, [], false) := by
 have hi : Go.Lib.index s [32, 59, 32] = -1 := Go.Lib.index_none fun j _ => by
   cases ho : Go.Lib.occAt s [32, 59, 32] j with
   | false => rfl
   | true => exact absurd rfl (h _ (List.mem_of_getElem? (occ_59 ho)))
 unfold Go.Lib.cut
 rw [hi, if_neg (by omega)]
theorem cut_at {s t : By} (h : noB 59 s) : Go.Lib.cut (s ++ [32, 59, 32] ++ t) [32, 59, 32] = (s, t, true) := by
 have hi : Go.Lib.index (s ++ [32, 59, 32] ++ t) [32, 59, 32] = (s.length : Int) := by
   refine Go.Lib.index_first (by simp) ?_ fun j hj => ?_
   . unfold Go.Lib.occAt
     rw [List.append_assoc, List.drop_left]
     rfl
   . cases ho : Go.Lib.occAt (s ++ [32, 59, 32] ++ t) [32, 59, 32] j with
     | false => rfl
     | true =>
       have h59 := occ_59 ho
       rw [List.append_assoc] at h59
       by_cases hl : j + 1 < s.length
       . rw [List.getElem?_append_left hl] at h59
         exact absurd rfl (h _ (List.mem_of_getElem? h59))
       . have : j + 1 = s.length := by omega
         rw [this, List.getElem?_append_right (by omega)] at h59
         simp at h59
 unfold Go.Lib.cut
 rw [hi, if_pos (by omega)]
 simp
theorem joinTail_app (sep : By) (a b : List By) : Go.Lib.joinTail sep (a ++ b) = Go.Lib.joinTail sep a ++ Go.Lib.joinTail sep b := by simp [Go.Lib.joinTail]
def wordsS (x : Etr) : List By := numS x.t :: x.w :: x.a.map numS
theorem body_parts (x : Etr) : bodyS x = Go.Lib.join (wordsS x) [32] ++ (if x.n = [] then [] else [32, 59, 32] ++ x.n) := by
 have e : partsS x = wordsS x ++ (if x.n = [] then [] else [[59], x.n]) := by
   unfold partsS wordsS; simp
 unfold bodyS
 rw [e]
 unfold wordsS
 rw [List.cons_append, Go.Lib.join_cons, Go.Lib.join_cons, joinTail_app]
 split
 . simp [Go.Lib.joinTail]
 . simp [Go.Lib.joinTail]
theorem join_no {c : UInt8} (hc : c ≠ 32) : ∀ {x : By} {xs : List By}, noB c x -> (∀ y ∈ xs, noB c y) -> noB c (Go.Lib.join (x :: xs) [32])
 | x, [], h, _ => by rw [Go.Lib.join_cons]; simpa [Go.Lib.joinTail] using h
 | x, y :: ys, h, h2 => by
   have ih := join_no hc (x := y) (xs := ys) (h2 y (by simp)) fun z hz => h2 z (by simp [hz])
   rw [Go.Lib.join_cons] at ih ⊢
   have e : Go.Lib.joinTail [32] (y :: ys) = 32 :: (y ++ Go.Lib.joinTail [32] ys) := by simp [Go.Lib.joinTail]
   rw [e]
   intro b hb
   rcases List.mem_append.1 hb with hb | hb
   . exact h b hb
   . rcases List.mem_cons.1 hb with rfl | hb
     . exact fun e => hc e.symm
     . exact ih b hb
theorem cut_body {x : Etr} (h : entS x = true) : frontP (bodyS x) = Go.Lib.join (wordsS x) [32] /\ tailP (bodyS x) = x.n := by
 have hno : noB 59 (Go.Lib.join (wordsS x) [32]) := by
   refine join_no (by decide) (numS_no (by decide) (by decide)) fun y hy => ?_
   rcases List.mem_cons.1 hy with rfl | hy
   . exact word_no (ent_word h) (by decide)
   . obtain ⟨n, _, rfl⟩ := List.mem_map.1 hy
     exact numS_no (by decide) (by decide)
 unfold frontP tailP
 rw [body_parts]
 by_cases hn : x.n = []
 . rw [if_pos hn, List.append_nil, cut_none hno, hn]; exact ⟨rfl, rfl⟩
 . rw [if_neg hn, <- List.append_assoc, cut_at hno]; exact ⟨rfl, rfl⟩
theorem spl_body {x : Etr} (h : entS x = true) : splP (frontP (bodyS x)) = wordsS x := by
 rw [(cut_body h).1]
 refine splP_join (numS_no (by decide) (by decide)) fun y hy => ?_
 rcases List.mem_cons.1 hy with rfl | hy
 . exact word_no (ent_word h) (by decide)
 . obtain ⟨n, _, rfl⟩ := List.mem_map.1 hy
   exact numS_no (by decide) (by decide)
theorem told_body {x : Etr} (h : entS x = true) : toldB (bodyS x) = true /\ toldX (bodyS x) = x := by
 have e1 := spl_body h
 have e2 := (cut_body h).2
 have ht := ent_time h
 have ha := ent_arg h
 have h1 := val_num (v := x.t) (by omega) (by omega)
 have h2 : ∀ n ∈ x.a, valS (numS n) = (n, true) := fun n hn => by
   have := ha n hn
   exact val_num (by omega) (by omega)
 have hX : toldX (bodyS x) = x := by
   unfold toldX
   rw [e1, e2]
   simp only [wordsS, List.headD_cons, h1, List.drop_succ_cons, List.drop_zero, List.map_map]
   have e3 : List.map ((fun y => (valS y).1) ∘ numS) x.a = x.a := by
     conv => rhs; rw [<- List.map_id x.a]
     refine List.map_congr_left fun n hn => ?_
     simp [h2 n hn]
   rw [e3]
   rfl
 refine ⟨?_, hX⟩
 unfold toldB
 have hl : 2 <= (wordsS x).length := by simp [wordsS]
 rw [hX, e1, h, decide_eq_true hl]
 simp only [wordsS, List.headD_cons, h1, List.drop_succ_cons, List.drop_zero, Bool.and_true, Bool.true_and]
 rw [List.all_eq_true]
 intro y hy
 obtain ⟨n, hn, rfl⟩ := List.mem_map.1 hy
 rw [h2 n hn]
theorem et_eq (b : By) (last : Int) : etR b last = etP b last := by
 unfold etR etP
 cases hb : toldB b with
 | true =>
   rw [<- told_ent hb]
   have he : entS (toldX b) = true := by
     simp only [toldB, Bool.and_eq_true] at hb
     exact hb.2
   rw [he]
   simp only [Bool.true_and]
   rw [Bool.and_comm]
 | false =>
   simp only [Bool.false_and, Bool.false_eq_true, if_false]
   rw [if_neg]
   intro hc
   simp only [Bool.and_eq_true, decide_eq_true_eq] at hc
   have := (told_body hc.1.1).1
   rw [hc.2] at this
   rw [this] at hb
   cases hb
theorem etP_some {b : By} {last : Int} {x : Etr} (h : etP b last = some x) : entS x = true /\ last <= x.t /\ bodyS x = b := by
 unfold etP at h
 split at h
 . rename_i hc
   cases h
   simp only [Bool.and_eq_true, decide_eq_true_eq] at hc
   exact ⟨hc.1.1, hc.1.2, hc.2⟩
 . cases h
def hdP (b : By) : Option (By × Int) := match splP b with
 | [_, f1, f2] => if shipS f1 && betw (numP f2) 0 200 && decide (headS f1 (numP f2) = b) then some (f1, numP f2) else none
 | _ => none
def hdF (b : By) : Option (By × Int) := match splP b with
 | [f0, f1, f2] => if (valS f2).2 && decide (f0 = [76, 79, 71]) && shipS f1 && betw (valS f2).1 0 200 then some (f1, (valS f2).1) else none
 | _ => none
theorem head_join (s : By) (n : Int) : headS s n = Go.Lib.join [[76, 79, 71], s, numS n] [32] := by
 rw [Go.Lib.join_cons]
 simp [headS, Go.Lib.joinTail]
theorem spl_head {s : By} {n : Int} (h : shipS s = true) : splP (headS s n) = [[76, 79, 71], s, numS n] := by
 rw [head_join]
 refine splP_join (fun b hb => ?_) fun y hy => ?_
 . simp only [List.mem_cons, List.not_mem_nil, or_false] at hb
   rcases hb with rfl | rfl | rfl <;> decide
 . simp only [List.mem_cons, List.not_mem_nil, or_false] at hy
   rcases hy with rfl | rfl
   . exact ship_no h (by decide)
   . exact numS_no (by decide) (by decide)
theorem hd_eq (b : By) : hdF b = hdP b := by
 have hj := join_splP b
 unfold hdF hdP
 match hs : splP b with
 | [f0, f1, f2] =>
   rw [hs] at hj
   simp only
   by_cases hc : ((valS f2).2 && decide (f0 = [76, 79, 71]) && shipS f1 && betw (valS f2).1 0 200) = true
   . rw [if_pos hc]
     simp only [Bool.and_eq_true, decide_eq_true_eq] at hc
     obtain ⟨⟨⟨h1, rfl⟩, h3⟩, h4⟩ := hc
     obtain ⟨e1, e2⟩ := val_numP h1
     rw [e1, if_pos]
     rw [h3, h4, head_join, e2, hj]
     simp
   . rw [if_neg hc, if_neg]
     intro hd
     simp only [Bool.and_eq_true, decide_eq_true_eq] at hd
     obtain ⟨⟨h1, h2⟩, h3⟩ := hd
     have h4 := spl_head (n := numP f2) h1
     rw [h3, hs] at h4
     simp only [List.cons.injEq, and_true, true_and] at h4
     obtain ⟨h5, h6⟩ := h4
     simp only [betw, Bool.and_eq_true, decide_eq_true_eq] at h2
     have h7 := val_num (v := numP f2) (by omega) (by omega)
     rw [<- h6] at h7
     refine hc ?_
     rw [h7, h5, h1]
     simp [betw, h2]
 | [] => rfl
 | [_] => rfl
 | [_, _] => rfl
 | _ :: _ :: _ :: _ :: _ => rfl
theorem hdP_some {b s : By} {n : Int} (h : hdP b = some (s, n)) : shipS s = true /\ 0 <= n /\ n <= 200 /\ headS s n = b := by
 unfold hdP at h
 split at h
 . split at h
   . rename_i hc
     cases h
     simp only [Bool.and_eq_true, decide_eq_true_eq, betw] at hc
     exact ⟨hc.1.1, hc.1.2.1, hc.1.2.2, hc.2⟩
   . cases h
 . cases h
structure Rst where
 s : By
 es : List Etr
 n : Int
 c : Int
def lastE (es : List Etr) : Int := (es.getLast?).elim 0 Etr.t
def rd0 : Rst := ⟨[], [], 0, 0⟩
def rdBody (i : Nat) (st : Rst) (b : By) : Option Rst := if i = 0 then (hdP b).map fun p => ⟨p.1, st.es, p.2, sumS b st.c⟩ else (etP b (lastE st.es)).map fun x => ⟨st.s, st.es ++ [x], st.n, sumS b st.c⟩
def rdStep (i : Nat) (st : Rst) (l : By) (fed : Bool) : Except Int Rst :=
 if st.n < i then .error 93 else match (if fed then openS l else none) with
 | none => .error 91
 | some (b, c) => match rdBody i st b with
   | none => .error 91
   | some st' => if st'.c = c then .ok st' else .error 92
def rdAt (ls : List (By × Bool)) : Nat -> Except (Int × Int) Rst
 | 0 => .ok rd0
 | i + 1 => match rdAt ls i with
   | .error e => .error e
   | .ok st => match ls[i]? with
     | none => .ok st
     | some p => match rdStep i st p.1 p.2 with
       | .error e => .error (i, e)
       | .ok st' => .ok st'
def fedS (l : By) : Bool := decide (l.getLast? = some 10)
def fedsOf (s : By) : List (By × Bool) := (linesOf s).map fun l => (chopS l, fedS l)
def rdFin (ls : List (By × Bool)) : Lg × Int × Int := match rdAt ls ls.length with
 | .error (k, e) => (⟨[], []⟩, k, e)
 | .ok st => if ls = [] then (⟨[], []⟩, 0, 91) else if (ls.length : Int) <= st.n then (⟨[], []⟩, ls.length, 93) else (⟨st.s, st.es⟩, 0, 0)
def readS (s : By) : Lg × Int × Int := rdFin (fedsOf s)
structure RdOk (i : Nat) (st : Rst) : Prop where
 c0 : 0 <= st.c
 c1 : st.c < 673
 n0 : 0 <= st.n
 n1 : st.n <= 200
 len : st.es.length = i - 1
 es : ordS 0 st.es = true
 s : i ≠ 0 -> shipS st.s = true
 z : i = 0 -> st = rd0
theorem ordS_snoc : ∀ (es : List Etr) (last : Int) (x : Etr), ordS last (es ++ [x]) = (ordS last es && (entS x && decide (((es.getLast?).elim last Etr.t) <= x.t)))
 | [], last, x => by simp [ordS]; rfl
 | y :: r, last, x => by
   simp only [List.cons_append, ordS, ordS_snoc r]
   cases r with
   | nil => simp [Bool.and_assoc]; rfl
   | cons z r => simp [Bool.and_assoc, List.getLast?_cons]
theorem rdStep_ok {i : Nat} {st st' : Rst} {l : By} {fed : Bool} (h : RdOk i st) (hs : rdStep i st l fed = .ok st') : RdOk (i + 1) st' := by
 unfold rdStep at hs
 split at hs
 . cases hs
 . split at hs
   . cases hs
   . rename_i b c ho
     split at hs
     . cases hs
     . rename_i st2 hb
       split at hs
       . cases hs
         have hcl := sumS_lt b st.c h.c0 h.c1
         unfold rdBody at hb
         split at hb
         . rename_i hi
           cases hp : hdP b with
           | none => rw [hp] at hb; cases hb
           | some p =>
             obtain ⟨s, n⟩ := p
             rw [hp] at hb
             cases hb
             obtain ⟨h1, h2, h3, h4⟩ := hdP_some hp
             subst hi
             have hz := h.z rfl
             exact ⟨hcl.1, hcl.2, h2, h3, by rw [hz]; rfl, by rw [hz]; rfl, fun _ => h1, nofun⟩
         . rename_i hi
           cases hp : etP b (lastE st.es) with
           | none => rw [hp] at hb; cases hb
           | some x =>
             rw [hp] at hb
             cases hb
             obtain ⟨h1, h2, h3⟩ := etP_some hp
             refine ⟨hcl.1, hcl.2, h.n0, h.n1, ?_, ?_, fun _ => h.s hi, nofun⟩
             . have := h.len
               simp; omega
             . show ordS 0 (st.es ++ [x]) = true
               rw [ordS_snoc, h.es, h1]
               simpa [lastE] using h2
       . cases hs
theorem rdAt_ok {ls : List (By × Bool)} : ∀ {i : Nat} {st : Rst}, i <= ls.length -> rdAt ls i = .ok st -> RdOk i st
 | 0, st, _, h => by cases h; exact ⟨by decide, by decide, by decide, by decide, rfl, rfl, fun h => absurd rfl h, fun _ => rfl⟩
 | i + 1, st, hi, h => by
   unfold rdAt at h
   split at h
   . cases h
   . rename_i st0 h0
     have ih := rdAt_ok (i := i) (by omega) h0
     split at h
     . rename_i hn
       have := List.getElem?_eq_none_iff.1 hn
       omega
     . rename_i p hp
       split at h
       . cases h
       . rename_i st' hs
         cases h
         exact rdStep_ok ih hs
theorem rdAt_succ {ls : List (By × Bool)} {i : Nat} {st : Rst} {p : By × Bool} (h : rdAt ls i = .ok st) (hp : ls[i]? = some p) : rdAt ls (i + 1) = match rdStep i st p.1 p.2 with
   | .error e => .error ((i : Int), e)
   | .ok st' => .ok st' := by
 rw [rdAt, h]; simp only [hp]
theorem rd_cases (ls : List (By × Bool)) : (∃ st, rdAt ls ls.length = .ok st /\ ∀ i, i <= ls.length -> ∃ st, rdAt ls i = .ok st) \/
   ∃ (j : Nat) (p : By × Bool) (st : Rst) (e : Int), ls[j]? = some p /\ rdAt ls j = .ok st /\ rdStep j st p.1 p.2 = .error e /\ rdAt ls ls.length = .error ((j : Int), e) /\ ∀ i, i <= j -> ∃ st, rdAt ls i = .ok st := by
 have key : ∀ n, n <= ls.length -> (∀ i, i <= n -> ∃ st, rdAt ls i = .ok st) \/ ∃ (j : Nat) (p : By × Bool) (st : Rst) (e : Int), ls[j]? = some p /\ rdAt ls j = .ok st /\ rdStep j st p.1 p.2 = .error e /\ rdAt ls n = .error ((j : Int), e) /\ ∀ i, i <= j -> ∃ st, rdAt ls i = .ok st := by
   intro n
   induction n with
   | zero => intro _; exact .inl fun i hi => by have : i = 0 := by omega
                                                subst this; exact ⟨_, rfl⟩
   | succ n ih =>
     intro hn
     rcases ih (by omega) with h | ⟨j, p, st, e, h1, h2, h3, h4, h5⟩
     . obtain ⟨st, hst⟩ := h n (Nat.le_refl _)
       have hp : ls[n]? = some ls[n] := List.getElem?_eq_getElem (by omega)
       have hs := rdAt_succ hst hp
       cases hq : rdStep n st ls[n].1 ls[n].2 with
       | ok st' =>
         rw [hq] at hs
         refine .inl fun i hi => ?_
         by_cases e : i = n + 1
         . subst e; exact ⟨st', hs⟩
         . exact h i (by omega)
       | error e =>
         rw [hq] at hs
         exact .inr ⟨n, _, st, e, hp, hst, hq, hs, h⟩
     . refine .inr ⟨j, p, st, e, h1, h2, h3, ?_, h5⟩
       rw [rdAt, h4]
 rcases key ls.length (Nat.le_refl _) with h | h
 . obtain ⟨st, hst⟩ := h ls.length (Nat.le_refl _)
   exact .inl ⟨st, hst, h⟩
 . exact .inr h
end Go.Log
namespace Go.Proofs.Tryz
open Go.Psl
open Go.Log
abbrev strsD (l : List By) : D := .sl 1 (l.map strL)
theorem fields_raw (s : By) (hs : s.length <= 1000000) : Ct prog 101 [vS s] (.ls 0 0 (splP s).length 1) [(0, fcel strL (splP s))] := by
 refine CB func101 c101 fun E hE => ?_
 simp [p101, splice, repl]
 refine pw_loop (α := Nat) (fun i => ⟨slots [(0, vS s), (3, .ls 0 0 (splP (s.take i)).length 1), (4, vi i)], lk [(0, fcel strL (splP (s.take i)))], 1⟩) (fun i => i <= s.length) (fun i => s.length - i) 0 ?_ ?_ ?_
 . omega
 . simp only [List.take_zero, splP, splC]
   refine Weak.mk hE (lk [(0, 1048576)]) _ _ _ ?_ ?_ ?_ ?_ ?_ <;> simp [fcel]
 . intro i hi
   have hsl := fcel_len hfs (splP (s.take i))
   have hwh := fcel_whole hfs (splP (s.take i))
   have hpl := splC_len 32 (s.take i)
   have htl : (s.take i).length <= 1000000 := by rw [List.length_take]; omega
   rw [Nat.mul_one] at hsl hwh
   by_cases h : i < s.length
   . obtain ⟨b, hb⟩ := gE h
     have hz := @wz i (by omega)
     have hI : (i : Int) < s.length := by omega
     have htk : s.take (i + 1) = s.take i ++ [b] := by rw [List.take_add_one, hb]; rfl
     have n1 : ((splP (s.take i)).length + 1) * 16 <= 140737488355328 := by
       show ((splC 32 (s.take i)).length + 1) * 16 <= _
       omega
     have n2 : (splP (s.take i)).length + 1 <= 9223372036854775807 := by
       show (splC 32 (s.take i)).length + 1 <= _
       omega
     by_cases h32 : b = 32
     . subst h32
       have hnx : splP (s.take (i + 1)) = splP (s.take i) ++ [[]] := by rw [htk]; exact splC_sep 32 _
       generalize splP (s.take i) = P at *
       simp [p101l0, hI, hb, hz, splice, repl, hsl, hwh, n1, n2]
       refine ⟨i + 1, by omega, by omega, ?_⟩
       rw [hnx]
       refine Weak.mk hE (lk [(0, 10485761)]) _ _ _ ?_ ?_ ?_ ?_ ?_ <;> simp [fcel_one]
     . have hne : ¬ ((b.toNat : Int) = 32) := u8_ne h32
       obtain ⟨r, x, h1, h2⟩ := splC_chr h32 (s.take i)
       have hnx : splP (s.take (i + 1)) = r ++ [x ++ [b]] := by rw [htk]; exact h2
       have hxl : x.length <= 1000000 := by
         have := splC_mem (c := 32) (s := s.take i) (x := x) (by rw [h1]; simp)
         omega
       change splP (s.take i) = r ++ [x] at h1
       rw [h1] at hsl hwh n1 n2 ⊢
       have hrl := fcel_len hfs r
       rw [Nat.mul_one] at hrl
       have w0 : IntKind.wrap .i64 (r.length : Int) = (r.length : Int) := by rw [wrap64 (by omega) (by simp at n2; omega)]
       have hlr : (r.length : Int) < (r.length : Int) + 1 := by omega
       have l1 : x.length + 1 <= 9223372036854775807 := by omega
       have i1 : i <= s.length := by omega
       have i2 : i + 1 <= s.length := by omega
       have i3 : (i : Int) + 1 <= s.length := by omega
       have i4 : (0 : Int) <= (i : Int) + 1 := by omega
       have i5 : (i : Int) <= (i : Int) + 1 := by omega
       have hex : (s.take (i + 1)).drop i = [b] := by rw [htk, List.drop_left' (by simp; omega)]
       have hdr : List.take 1 (List.drop r.length (fcel strL r ++ [vS x])) = [vS x] := by rw [<- hrl, List.drop_left]; rfl
       have hde : List.drop (r.length + 1) (fcel strL r ++ [vS x]) = [] := List.drop_of_length_le (by simp [hrl])
       simp [p101l0, hI, hb, hne, hz, w0, hlr, splice, fcel_one, hrl, l1, i3, i4, hex, inC, Nat.testBit]
       refine ⟨i + 1, by omega, by omega, ?_⟩
       rw [hnx]
       refine Weak.mk hE (lk [(0, 0)]) _ _ _ ?_ ?_ ?_ ?_ ?_ <;> simp [fcel_one, hde]
   . have e : i = s.length := by omega
     subst e
     have hI : ¬ ((s.length : Int) < s.length) := by omega
     simp [p101l0]
     refine RetOk.by (lk [(0, 0)]) ?_
     simp [results101]
theorem fn101 (s : By) (hs : s.length <= 1000000) : Ct prog 101 [vS s] (.d (strsD (splP s))) [] :=
 Cm.freeze (fields_raw s hs) (bor_fcel (f := strL) hfs (l := splP s) (by simp))
theorem neg_cases (s : By) : (negB s = true /\ ∃ r, s = 45 :: r /\ dgsOf s = r) \/ (negB s = false /\ dgsOf s = s /\ ∀ b r, s = b :: r -> ¬ b = 45) := by
 cases s with
 | nil => exact .inr ⟨rfl, rfl, nofun⟩
 | cons b r =>
   by_cases hb : b = 45
   . subst hb
     exact .inl ⟨rfl, r, rfl, rfl⟩
   . have : negB (b :: r) = false := by simp [negB, hb]
     refine .inr ⟨this, by simp [dgsOf, this], fun b' r' e => ?_⟩
     cases e; exact hb
theorem digs_at {s : By} {i : Nat} {b : UInt8} (h : s[i]? = some b) (n : Int) : digs (s.drop i) n = if dgB b = true /\ n <= 1000000000000 then digs (s.drop (i + 1)) (n * 10 + ((b.toNat : Int) - 48)) else none := by
 have : s.drop i = b :: s.drop (i + 1) := by
   obtain ⟨hi, rfl⟩ := List.getElem?_eq_some_iff.1 h
   exact List.drop_eq_getElem_cons hi
 rw [this, digs]
theorem value_1 (s r : By) (hs : s.length <= 1000000) (hn : negB s = true) (hk : 1 <= s.length) (hd : dgsOf s = s.drop 1) (hr : 45 :: r = s) : Ct prog 68 [vS s] (.tup [vi (valS s).1, vb (valS s).2]) [] := by
 refine CB func68 c68 fun E hE => ?_
 obtain ⟨Q, hQ⟩ : ∃ Q, Q = retQ tys f68 (.tup [vi (valS s).1, vb (valS s).2]) [] := ⟨_, rfl⟩
 rw [<- hQ, <- hr]
 have h0 : (0 : Int) < (r.length : Int) + 1 := by omega
 simp [p68, h0]
 rw [hr, hQ]
 refine pw_loop (α := Nat × Int) (fun x => ⟨slots [(0, vS s), (4, vi x.2), (5, vi 1), (6, vi x.1)], lk [], 0⟩) (fun x => 1 <= x.1 /\ x.1 <= s.length /\ (0 <= x.2 /\ x.2 <= 10000000000009) /\ digs (s.drop x.1) x.2 = digs (dgsOf s) 0) (fun x => s.length - x.1) (1, 0) ?_ ?_ ?_
 . exact ⟨Nat.le_refl _, hk, by omega, by rw [hd]⟩
 . exact WK hE (lk [])
 . rintro ⟨i, n⟩ ⟨hki, hi, ⟨hn0, hn1⟩, hx⟩
   simp only at hki hi hn0 hn1 hx
   by_cases h : i < s.length
   . obtain ⟨b, hb⟩ := gE h
     have hz := @wz i (by omega)
     have hI : (i : Int) < s.length := by omega
     have c1 := fn121 b
     change Ct prog _ _ (vb (dgB b)) _ at c1
     rw [digs_at hb] at hx
     by_cases hdg : dgB b = true
     case neg =>
       simp only [Bool.not_eq_true] at hdg
       rw [hdg] at c1 hx
       simp only [Bool.false_eq_true, false_and, if_false] at hx
       have hv : valS s = (0, false) := by unfold valS; rw [<- hx]
       simp [p68l0, hI, hb]
       refine CLa c1 ?_
       simp
       apply RZ
       simp [results68, hv]
     rw [hdg] at c1 hx
     by_cases hgt : 1000000000000 < n
     case pos =>
       rw [if_neg (by omega)] at hx
       have hv : valS s = (0, false) := by unfold valS; rw [<- hx]
       simp [p68l0, hI, hb]
       refine CLa c1 ?_
       simp [hgt]
       apply RZ
       simp [results68, hv]
     rw [if_pos ⟨rfl, by omega⟩] at hx
     have hd2 := hdg
     simp only [dgB, Bool.and_eq_true, decide_eq_true_eq] at hd2
     have v0 : IntKind.wrap .i64 (n * 10) = n * 10 := wrap64 (by omega) (by omega)
     have v1 : IntKind.wrap .u8 ((b.toNat : Int) - 48) = (b.toNat : Int) - 48 := wrapu8 (by omega) (by omega)
     have v2 : IntKind.wrap .i64 ((b.toNat : Int) - 48) = (b.toNat : Int) - 48 := wrap64 (by omega) (by omega)
     have v3 : IntKind.wrap .i64 (n * 10 + ((b.toNat : Int) - 48)) = n * 10 + ((b.toNat : Int) - 48) := wrap64 (by omega) (by omega)
     simp [p68l0, hI, hb]
     refine CLa c1 ?_
     simp [hgt, hb, hz, v0, v1, v2, v3]
     refine ⟨i + 1, n * 10 + ((b.toNat : Int) - 48), ?_, by omega, ?_⟩
     . first | exact ⟨by omega, by omega, by omega, hx⟩ | exact ⟨by omega, by omega, hx⟩
     . exact WK hE (lk [])
   . have e : i = s.length := by omega
     subst e
     have hI : ¬ ((s.length : Int) < s.length) := by omega
     rw [List.drop_length] at hx
     have hx2 : digs (dgsOf s) 0 = some n := hx.symm
     have nb : IntKind.wrap .i64 (-n) = -n := wrap64 (by omega) (by omega)
     have cn := fn104 (-n) (by omega) (by omega)
     have hv : valS s = (-n, decide (dgsOf s ≠ []) && decide (numS (-n) = s)) := by unfold valS; rw [hx2]; simp [sgn, hn]
     have hdl : dgsOf s ≠ [] ↔ 1 < s.length := by
       rw [<- List.length_pos_iff, hd, List.length_drop]; omega
     by_cases hl : 1 < s.length
     . have hlI : (1 : Int) < s.length := by omega
       simp [p68l0, hlI, nb]
       refine CLa cn ?_
       simp
       apply RZ
       simp [results68, hv, hdl.2 hl]
     . have hlI : ¬ (1 : Int) < s.length := by omega
       have hdn : dgsOf s = [] := Classical.byContradiction fun e => hl (hdl.1 e)
       simp [p68l0, hlI, nb]
       apply RZ
       simp [results68, hv, hdn]
theorem value_0 (s : By) (hs : s.length <= 1000000) (hn : negB s = false) (hk : 0 <= s.length) (hd : dgsOf s = s.drop 0) (hr : s = [] \/ ∃ c r, c :: r = s /\ ¬ c = 45) : Ct prog 68 [vS s] (.tup [vi (valS s).1, vb (valS s).2]) [] := by
 refine CB func68 c68 fun E hE => ?_
 rcases hr with hr | ⟨c, r, hr, hc⟩
 . obtain ⟨Q, hQ⟩ : ∃ Q, Q = retQ tys f68 (.tup [vi (valS s).1, vb (valS s).2]) [] := ⟨_, rfl⟩
   rw [<- hQ, hr]
   simp [p68]
   rw [<- hr, hQ]
   refine pw_loop (α := Nat × Int) (fun x => ⟨slots [(0, vS s), (4, vi x.2), (5, vi 0), (6, vi x.1)], lk [], 0⟩) (fun x => 0 <= x.1 /\ x.1 <= s.length /\ (0 <= x.2 /\ x.2 <= 10000000000009) /\ digs (s.drop x.1) x.2 = digs (dgsOf s) 0) (fun x => s.length - x.1) (0, 0) ?_ ?_ ?_
   . exact ⟨Nat.le_refl _, hk, by omega, by rw [hd]⟩
   . exact WK hE (lk [])
   . rintro ⟨i, n⟩ ⟨hki, hi, ⟨hn0, hn1⟩, hx⟩
     simp only at hki hi hn0 hn1 hx
     by_cases h : i < s.length
     . obtain ⟨b, hb⟩ := gE h
       have hz := @wz i (by omega)
       have hI : (i : Int) < s.length := by omega
       have c1 := fn121 b
       change Ct prog _ _ (vb (dgB b)) _ at c1
       rw [digs_at hb] at hx
       by_cases hdg : dgB b = true
       case neg =>
         simp only [Bool.not_eq_true] at hdg
         rw [hdg] at c1 hx
         simp only [Bool.false_eq_true, false_and, if_false] at hx
         have hv : valS s = (0, false) := by unfold valS; rw [<- hx]
         simp [p68l0, hI, hb]
         refine CLa c1 ?_
         simp
         apply RZ
         simp [results68, hv]
       rw [hdg] at c1 hx
       by_cases hgt : 1000000000000 < n
       case pos =>
         rw [if_neg (by omega)] at hx
         have hv : valS s = (0, false) := by unfold valS; rw [<- hx]
         simp [p68l0, hI, hb]
         refine CLa c1 ?_
         simp [hgt]
         apply RZ
         simp [results68, hv]
       rw [if_pos ⟨rfl, by omega⟩] at hx
       have hd2 := hdg
       simp only [dgB, Bool.and_eq_true, decide_eq_true_eq] at hd2
       have v0 : IntKind.wrap .i64 (n * 10) = n * 10 := wrap64 (by omega) (by omega)
       have v1 : IntKind.wrap .u8 ((b.toNat : Int) - 48) = (b.toNat : Int) - 48 := wrapu8 (by omega) (by omega)
       have v2 : IntKind.wrap .i64 ((b.toNat : Int) - 48) = (b.toNat : Int) - 48 := wrap64 (by omega) (by omega)
       have v3 : IntKind.wrap .i64 (n * 10 + ((b.toNat : Int) - 48)) = n * 10 + ((b.toNat : Int) - 48) := wrap64 (by omega) (by omega)
       simp [p68l0, hI, hb]
       refine CLa c1 ?_
       simp [hgt, hb, hz, v0, v1, v2, v3]
       refine ⟨i + 1, n * 10 + ((b.toNat : Int) - 48), ?_, by omega, ?_⟩
       . first | exact ⟨by omega, by omega, by omega, hx⟩ | exact ⟨by omega, by omega, hx⟩
       . exact WK hE (lk [])
     . have e : i = s.length := by omega
       subst e
       have hI : ¬ ((s.length : Int) < s.length) := by omega
       rw [List.drop_length] at hx
       have hx2 : digs (dgsOf s) 0 = some n := hx.symm
       have nb : IntKind.wrap .i64 (-n) = -n := wrap64 (by omega) (by omega)
       have cn := fn104 (n) (by omega) (by omega)
       have hv : valS s = (n, decide (dgsOf s ≠ []) && decide (numS (n) = s)) := by unfold valS; rw [hx2]; simp [sgn, hn]
       have hdl : dgsOf s ≠ [] ↔ 0 < s.length := by
         rw [<- List.length_pos_iff, hd, List.length_drop]; omega
       by_cases hl : 0 < s.length
       . have hlI : (0 : Int) < s.length := by omega
         simp [p68l0, hl]
         refine CLa cn ?_
         simp
         apply RZ
         simp [results68, hv, hdl.2 hl]
       . have hlI : ¬ (0 : Int) < s.length := by omega
         have hdn : dgsOf s = [] := Classical.byContradiction fun e => hl (hdl.1 e)
         simp [p68l0, hl]
         apply RZ
         simp [results68, hv, hdn]
 . obtain ⟨Q, hQ⟩ : ∃ Q, Q = retQ tys f68 (.tup [vi (valS s).1, vb (valS s).2]) [] := ⟨_, rfl⟩
   have hc2 : ¬ ((c.toNat : Int) = 45) := u8_ne hc
   have h0 : (0 : Int) < (r.length : Int) + 1 := by omega
   rw [<- hQ, <- hr]
   simp [p68, h0, hc2]
   rw [hr, hQ]
   refine pw_loop (α := Nat × Int) (fun x => ⟨slots [(0, vS s), (4, vi x.2), (5, vi 0), (6, vi x.1)], lk [], 0⟩) (fun x => 0 <= x.1 /\ x.1 <= s.length /\ (0 <= x.2 /\ x.2 <= 10000000000009) /\ digs (s.drop x.1) x.2 = digs (dgsOf s) 0) (fun x => s.length - x.1) (0, 0) ?_ ?_ ?_
   . exact ⟨Nat.le_refl _, hk, by omega, by rw [hd]⟩
   . exact WK hE (lk [])
   . rintro ⟨i, n⟩ ⟨hki, hi, ⟨hn0, hn1⟩, hx⟩
     simp only at hki hi hn0 hn1 hx
     by_cases h : i < s.length
     . obtain ⟨b, hb⟩ := gE h
       have hz := @wz i (by omega)
       have hI : (i : Int) < s.length := by omega
       have c1 := fn121 b
       change Ct prog _ _ (vb (dgB b)) _ at c1
       rw [digs_at hb] at hx
       by_cases hdg : dgB b = true
       case neg =>
         simp only [Bool.not_eq_true] at hdg
         rw [hdg] at c1 hx
         simp only [Bool.false_eq_true, false_and, if_false] at hx
         have hv : valS s = (0, false) := by unfold valS; rw [<- hx]
         simp [p68l0, hI, hb]
         refine CLa c1 ?_
         simp
         apply RZ
         simp [results68, hv]
       rw [hdg] at c1 hx
       by_cases hgt : 1000000000000 < n
       case pos =>
         rw [if_neg (by omega)] at hx
         have hv : valS s = (0, false) := by unfold valS; rw [<- hx]
         simp [p68l0, hI, hb]
         refine CLa c1 ?_
         simp [hgt]
         apply RZ
         simp [results68, hv]
       rw [if_pos ⟨rfl, by omega⟩] at hx
       have hd2 := hdg
       simp only [dgB, Bool.and_eq_true, decide_eq_true_eq] at hd2
       have v0 : IntKind.wrap .i64 (n * 10) = n * 10 := wrap64 (by omega) (by omega)
       have v1 : IntKind.wrap .u8 ((b.toNat : Int) - 48) = (b.toNat : Int) - 48 := wrapu8 (by omega) (by omega)
       have v2 : IntKind.wrap .i64 ((b.toNat : Int) - 48) = (b.toNat : Int) - 48 := wrap64 (by omega) (by omega)
       have v3 : IntKind.wrap .i64 (n * 10 + ((b.toNat : Int) - 48)) = n * 10 + ((b.toNat : Int) - 48) := wrap64 (by omega) (by omega)
       simp [p68l0, hI, hb]
       refine CLa c1 ?_
       simp [hgt, hb, hz, v0, v1, v2, v3]
       refine ⟨i + 1, n * 10 + ((b.toNat : Int) - 48), ?_, by omega, ?_⟩
       . first | exact ⟨by omega, by omega, by omega, hx⟩ | exact ⟨by omega, by omega, hx⟩
       . exact WK hE (lk [])
     . have e : i = s.length := by omega
       subst e
       have hI : ¬ ((s.length : Int) < s.length) := by omega
       rw [List.drop_length] at hx
       have hx2 : digs (dgsOf s) 0 = some n := hx.symm
       have nb : IntKind.wrap .i64 (-n) = -n := wrap64 (by omega) (by omega)
       have cn := fn104 (n) (by omega) (by omega)
       have hv : valS s = (n, decide (dgsOf s ≠ []) && decide (numS (n) = s)) := by unfold valS; rw [hx2]; simp [sgn, hn]
       have hdl : dgsOf s ≠ [] ↔ 0 < s.length := by
         rw [<- List.length_pos_iff, hd, List.length_drop]; omega
       by_cases hl : 0 < s.length
       . have hlI : (0 : Int) < s.length := by omega
         simp [p68l0, hl]
         refine CLa cn ?_
         simp
         apply RZ
         simp [results68, hv, hdl.2 hl]
       . have hlI : ¬ (0 : Int) < s.length := by omega
         have hdn : dgsOf s = [] := Classical.byContradiction fun e => hl (hdl.1 e)
         simp [p68l0, hl]
         apply RZ
         simp [results68, hv, hdn]
theorem fn68 (s : By) (hs : s.length <= 1000000) : Ct prog 68 [vS s] (.tup [vi (valS s).1, vb (valS s).2]) [] := by
 rcases neg_cases s with ⟨hn, r, hr, hd⟩ | ⟨hn, hd, hne⟩
 . exact value_1 s r hs hn (by rw [hr]; simp) (by rw [hd, hr]; rfl) hr.symm
 . refine value_0 s hs hn (Nat.zero_le _) (by rw [hd]; rfl) ?_
   cases s with
   | nil => exact .inl rfl
   | cons c r => exact .inr ⟨c, r, rfl, hne c r rfl⟩
def hdT3 (b : By) : By × Int × Bool := match splP b with
 | [f0, f1, f2] => (f1, (valS f2).1, (valS f2).2 && decide (f0 = [76, 79, 71]) && shipS f1 && betw (valS f2).1 0 200)
 | _ => ([], 0, false)
theorem hdF_T3 (b : By) : Go.Log.hdF b = if (hdT3 b).2.2 then some ((hdT3 b).1, (hdT3 b).2.1) else none := by
 unfold Go.Log.hdF hdT3
 generalize splP b = P
 match P with
 | [] => rfl
 | [_] => rfl
 | [_, _] => rfl
 | [_, _, _] => rfl
 | _ :: _ :: _ :: _ :: _ => rfl
theorem three_of {α : Type} {l : List α} (h : l.length = 3) : ∃ a b c, l = [a, b, c] := by
 match l, h with
 | [a, b, c], _ => exact ⟨a, b, c, rfl⟩
theorem fn53 (s : By) (hs : s.length <= 1000000) : Ct prog 53 [vS s] (.tup [vS (hdT3 s).1, vi (hdT3 s).2.1, vb (hdT3 s).2.2]) [] := by
 have c1 := fn101 s hs
 have hpm : ∀ x ∈ splP s, x.length <= 1000000 := fun x hx => by have := splC_mem hx; omega
 by_cases h3 : (splP s).length = 3
 . unfold hdT3
   obtain ⟨f0, f1, f2, e⟩ := three_of h3
   rw [e] at c1 hpm ⊢
   have c2 := fn68 f2 (hpm f2 (by simp))
   have c3 := fn71 f1 true (hpm f1 (by simp))
   rw [wdF_true] at c3
   change Ct prog _ _ (vb (shipS f1)) _ at c3
   have c4 := fn102 (valS f2).1 0 200
   simp only
   generalize (valS f2).1 = n at *
   generalize (valS f2).2 = is at *
   generalize shipS f1 = q at *
   generalize betw n 0 200 = q2 at *
   refine CB func53 c53 fun E hE => ?_
   simp [p53]
   refine CLa c1 ?_
   simp
   refine CLa c2 ?_
   cases is with
   | false =>
     simp
     apply RZ
     simp [results53]
   | true =>
     by_cases h0 : f0 = [76, 79, 71]
     . subst h0
       cases q with
       | false =>
         simp [inC, Nat.testBit]
         refine CLa c3 ?_
         simp
         apply RZ
         simp [results53]
       | true =>
         simp [inC, Nat.testBit]
         refine CLa c3 ?_
         simp [inC, Nat.testBit]
         refine CLa c4 ?_
         simp
         apply RZ
         simp [results53]
     . simp [h0]
       apply RZ
       simp [results53]
 . have hT : hdT3 s = ([], 0, false) := by
     unfold hdT3
     split
     . rename_i e; rw [e] at h3; exact absurd rfl h3
     . rfl
   rw [hT]
   generalize splP s = P at *
   have h3I : ¬ ((P.length : Int) = 3) := by omega
   refine CB func53 c53 fun E hE => ?_
   simp [p53]
   refine CLa c1 ?_
   simp [h3I]
   apply RZ
   simp [results53]
def toldT (s : By) : Etr × Bool := if (splP (frontP s)).length < 2 then (⟨0, [], [], tailP s⟩, false) else (toldX s, (valS ((splP (frontP s)).headD [])).2 && ((splP (frontP s)).drop 2).all (fun y => (valS y).2) && entS (toldX s))
theorem toldT_B (s : By) : (toldT s).2 = toldB s := by
 unfold toldT toldB
 split
 . rename_i h
   rw [decide_eq_false (by omega)]; simp
 . rename_i h
   rw [decide_eq_true (by omega), Bool.true_and]
theorem toldT_X {s : By} (h : toldB s = true) : (toldT s).1 = toldX s := by
 unfold toldT
 split
 . rename_i h2
   simp only [toldB, Bool.and_eq_true, decide_eq_true_eq] at h
   omega
 . rfl
def sep3 : By := [32, 59, 32]
theorem occ_take {s : By} {i : Nat} (h : i + 2 < s.length) : Go.Lib.occAt s sep3 i = decide ((s.take (i + 3)).drop i = sep3) := by
 rw [Go.Lib.occAt_iff_take s sep3 i (by show i + 3 <= _; omega), List.drop_take]
 have : i + 3 - i = sep3.length := by show _ = 3; omega
 rw [this]
 cases hq : decide ((s.drop i).take sep3.length = sep3) with
 | true => simpa using hq
 | false => simpa using hq
theorem cut_hit {s : By} {i : Nat} (h : i + 2 < s.length) (ho : Go.Lib.occAt s sep3 i = true) (hn : ∀ j, j < i -> Go.Lib.occAt s sep3 j = false) : frontP s = s.take i /\ tailP s = s.drop (i + 3) := by
 have hi : Go.Lib.index s sep3 = (i : Int) := Go.Lib.index_first (by omega) ho hn
 unfold frontP tailP Go.Lib.cut
 rw [show ([32, 59, 32] : By) = sep3 from rfl, hi, if_pos (by omega)]
 exact ⟨by simp, by simp [sep3]⟩
theorem cut_miss {s : By} {i : Nat} (h : s.length <= i + 2) (hn : ∀ j, j < i -> Go.Lib.occAt s sep3 j = false) : frontP s = s /\ tailP s = [] := by
 have hi : Go.Lib.index s sep3 = -1 := Go.Lib.index_none fun j _ => by
   by_cases hj : j < i
   . exact hn j hj
   . cases ho : Go.Lib.occAt s sep3 j with
     | false => rfl
     | true =>
       rcases Go.Lib.occAt_room ho with h2 | h2
       . have : j + 3 <= s.length := h2
         omega
       . cases h2
 unfold frontP tailP Go.Lib.cut
 rw [show ([32, 59, 32] : By) = sep3 from rfl, hi, if_neg (by omega)]
 exact ⟨rfl, rfl⟩
def argR (q : List By) (i : Nat) : List Int := (q.map fun y => (valS y).1).take i
theorem argR_zero (q : List By) : argR q 0 = [] := rfl
theorem argR_len {q : List By} {i : Nat} (h : i <= q.length) : (argR q i).length = i := by unfold argR; simp; omega
theorem argR_succ {q : List By} {i : Nat} {l : By} (h : q[i]? = some l) : argR q (i + 1) = argR q i ++ [(valS l).1] := by
 unfold argR
 rw [List.take_add_one, List.getElem?_map, h]; rfl
theorem argR_all (q : List By) : argR q q.length = q.map fun y => (valS y).1 := by unfold argR; exact List.take_of_length_le (by simp)
def isR (v : Bool) (q : List By) (i : Nat) : Bool := v && (q.take i).all fun y => (valS y).2
theorem isR_zero (v : Bool) (q : List By) : isR v q 0 = v := by simp [isR]
theorem isR_succ {v : Bool} {q : List By} {i : Nat} {l : By} (h : q[i]? = some l) : isR v q (i + 1) = (isR v q i && (valS l).2) := by
 unfold isR
 rw [List.take_add_one, h]; simp [Bool.and_assoc]
theorem isR_all (v : Bool) (q : List By) : isR v q q.length = (v && q.all fun y => (valS y).2) := by unfold isR; rw [List.take_length]
theorem bor1_fcel {α : Type} {f : α -> List D} {sz : Nat} (hf : ∀ x, (f x).length = sz) {H : Hp} {id : Nat} {l : List α} (h : H id = some (fcel f l)) : Bor1 H (.ls id 0 l.length sz) (.d (slD f sz l)) := bor_fcel hf h
abbrev toldFr (s : By) : Nat × Bool -> By := fun x => if x.2 then frontP s else s
abbrev toldTl (s : By) : Nat × Bool -> By := fun x => if x.2 then tailP s else []
theorem told_raw (s : By) (hs : s.length <= 1000000) : Ct prog 54 [vS s] (.tup [.agg [vi (toldT s).1.t, vS (toldT s).1.w, hdR (toldT s).1.a, vS (toldT s).1.n], vb (toldT s).2]) (bkR (toldT s).1.a) := by
 have hri : ResIds (.tup [.agg [vi (toldT s).1.t, vS (toldT s).1.w, hdR (toldT s).1.a, vS (toldT s).1.n], vb (toldT s).2]) (bkR (toldT s).1.a) := by
   unfold hdR bkR
   split
   . simp [ResIds]
   . simp [ResIds]
 have hne : ∀ (ds : List Int) (x : Int), ¬ (ds ++ [x] = []) := fun ds x => by simp
 have hcl := cut_len s [32, 59, 32]
 have hfl : (frontP s).length <= s.length := hcl.1
 have htl : (tailP s).length <= s.length := hcl.2
 have c1 := fn101 (frontP s) (by omega)
 have hpl := splC_len 32 (frontP s)
 have hpm : ∀ x ∈ splP (frontP s), x.length <= 1000000 := fun x hx => by have := splC_mem hx; omega
 refine Ct.by gok eok mixed func54 c54 rfl (by simp [ntmps54]) (by simp) hri fun E hE => ?_
 simp [p54]
 refine pw_loopC (α := Nat × Bool) 0 (fun _ : Unit => ⟨slots [(0, vS (frontP s)), (2, .lp 0 0), (3, vb false), (4, .lp 1 0)], lk [(0, entZ), (1, [vi 0, vS [], .d (.lit (.slice none 0 0)), vS (tailP s)])], 2⟩) (fun _ => True)
   (fun x => ⟨slots [(0, vS (toldFr s x)), (2, .lp 0 0), (3, vb false), (4, .lp 1 0), (5, vi x.1)], lk [(0, entZ), (1, [vi 0, vS [], .d (.lit (.slice none 0 0)), vS (toldTl s x)])], 2⟩)
   (fun x => (x.2 = true -> (frontP s).length <= x.1 /\ x.1 <= 1000000) /\ (x.2 = false -> x.1 <= s.length /\ ∀ j, j < x.1 -> Go.Lib.occAt s sep3 j = false)) (fun x => if x.2 then 0 else s.length + 5 - x.1) (0, false) ?_ ?_ ?_ ?_
 . exact ⟨nofun, fun _ => ⟨Nat.zero_le _, fun j hj => absurd hj (Nat.not_lt_zero _)⟩⟩
 . refine Weak.mk hE (lk [(0, 0), (1, 2097152)]) _ _ _ ?_ ?_ ?_ ?_ ?_ <;> simp [toldFr, toldTl]
 . rintro ⟨i, fd⟩ ⟨h1, h2⟩
   simp only [toldFr, toldTl] at *
   cases fd with
   | true =>
     obtain ⟨h3, h4⟩ := h1 rfl
     have w2 : IntKind.wrap .i64 ((i : Int) + 2) = (i : Int) + 2 := wrap64 (by omega) (by omega)
     have hI : ¬ ((i : Int) + 2 < (frontP s).length) := by omega
     simp [p54l0, w2, hI, exC_exit]
     exact WK hE (lk [(0, 0), (1, 1)])
   | false =>
     obtain ⟨h3, h4⟩ := h2 rfl
     have w1 := @wz i (by omega)
     have w2 : IntKind.wrap .i64 ((i : Int) + 2) = (i : Int) + 2 := wrap64 (by omega) (by omega)
     have w3 : IntKind.wrap .i64 ((i : Int) + 3) = ((i + 3 : Nat) : Int) := by rw [wrap64 (by omega) (by omega)]; omega
     by_cases h : i + 2 < s.length
     . have hI : (i : Int) + 2 < s.length := by omega
       have i1 : i + 3 <= s.length := by omega
       have i2 : (i : Int) + 3 <= s.length := by omega
       have i3 : (0 : Int) <= (i : Int) + 3 := by omega
       have i4 : (i : Int) <= (i : Int) + 3 := by omega
       have i5 : i <= s.length := by omega
       have i6 : (i : Int) <= s.length := by omega
       have w4 : ((i : Int) + 3).toNat = i + 3 := by omega
       have hoc := occ_take h
       generalize hw : (s.take (i + 3)).drop i = w at *
       by_cases hq : w = [32, 59, 32]
       . have hq3 : w = sep3 := hq
         rw [hq3, decide_eq_true rfl] at hoc
         obtain ⟨e1, e2⟩ := cut_hit h hoc h4
         have e1l : (frontP s).length = i := by rw [e1]; simp; omega
         simp [p54l0, w1, w2, w3, w4, hI, i2, i3, i6, hw, hq, splice]
         refine ⟨i + 1, .inr ⟨⟨by omega, by omega⟩, by omega, ?_⟩⟩
         rw [e1, e2]
         exact WK hE (lk [(0, 0), (1, 1)])
       . have hq3 : ¬ w = sep3 := hq
         rw [decide_eq_false hq3] at hoc
         simp [p54l0, w1, w2, w3, w4, hI, i2, i3, hw, hq]
         refine ⟨i + 1, .inl ⟨⟨by omega, fun j hj => ?_⟩, by omega, ?_⟩⟩
         . by_cases e : j = i
           . rw [e]; exact hoc
           . exact h4 j (by omega)
         . exact WK hE (lk [(0, 0), (1, 1)])
     . have hI : ¬ ((i : Int) + 2 < s.length) := by omega
       obtain ⟨e1, e2⟩ := cut_miss (i := i) (by omega) h4
       simp [p54l0, w2, hI, exC_exit]
       rw [e1, e2]
       exact WK hE (lk [(0, 0), (1, 1)])
 . intro _ _
   unfold toldT toldX at hri ⊢
   have hpl2 : (splP (frontP s)).length <= 1000001 := by
     show (splC 32 (frontP s)).length <= _
     omega
   generalize hP : splP (frontP s) = P at *
   generalize hF : frontP s = F at *
   generalize hT : tailP s = T at *
   clear hP hF hT
   simp
   refine CLa c1 ?_
   by_cases h2 : P.length < 2
   . have h2I : (P.length : Int) < 2 := by omega
     rw [if_pos h2]
     simp [h2I, splice]
     apply RZ
     simp [results54, hdR, bkR]
   . rw [if_neg h2] at hri ⊢
     have h2I : ¬ (P.length : Int) < 2 := by omega
     obtain ⟨p0, r, rfl⟩ := List.exists_cons_of_ne_nil (l := P) (fun e => by rw [e] at h2; simp at h2)
     obtain ⟨p1, q, rfl⟩ := List.exists_cons_of_ne_nil (l := r) (fun e => by rw [e] at h2; simp at h2)
     have c2 := fn68 p0 (hpm p0 (by simp))
     simp only [List.headD_cons, List.drop_succ_cons, List.drop_zero, List.getElem?_cons_succ, List.getElem?_cons_zero, Option.getD_some] at hri ⊢
     have h2J : ¬ ((q.length : Int) + 1 + 1 < 2) := by omega
     have hql : q.length <= 999999 := by have := hpl2; simp only [List.length_cons] at this; omega
     simp [h2J]
     refine CLa c2 ?_
     simp [splice]
     obtain ⟨P, hPq⟩ : ∃ P, P = p0 :: p1 :: q := ⟨_, rfl⟩
     have hPl : P.length = q.length + 2 := by rw [hPq]; rfl
     refine pw_loop (α := Nat) (fun i => ⟨slots [(2, .lp 0 0), (3, vb false), (4, .lp 1 0), (6, .d (strsD P)), (8, vb (isR (valS p0).2 q i)), (9, vi ((i + 2 : Nat) : Int))], lk ((0, entZ) :: (1, [vi (valS p0).1, vS p1, hdF (argR q i), vS T]) :: bkF (argR q i)), 4⟩) (fun i => i <= q.length) (fun i => q.length - i) 0 ?_ ?_ ?_
     . omega
     . simp only [argR_zero, isR_zero, hdF, bkF, if_true]
       refine Weak.mk hE (lk [(0, 0), (1, 1)]) _ _ _ ?_ ?_ ?_ ?_ ?_ <;> simp [hPq]
     . intro i hi
       have hn : (argR q i).length = i := argR_len hi
       have hsl := fcel_len hfi1 (argR q i)
       have hwh := fcel_whole hfi1 (argR q i)
       rw [Nat.mul_one, hn] at hsl hwh
       by_cases h : i < q.length
       . obtain ⟨l, hx⟩ := gE h
         obtain ⟨k, hk⟩ : ∃ k, k = i + 2 := ⟨_, rfl⟩
         have hI : (k : Int) < P.length := by omega
         have hz := @wz k (by omega)
         have hx2 : P[k]? = some l := by rw [hPq, hk]; simpa using hx
         have hlm := hpm l (by simp [List.mem_of_getElem? hx])
         have co := fn68 l (by omega)
         have n1 : (i + 1) * 8 <= 140737488355328 := by omega
         have n2 : i + 1 <= 9223372036854775807 := by omega
         have hnx := argR_succ hx
         have hix := isR_succ (v := (valS p0).2) hx
         rw [<- hk]
         generalize argR q i = ds at *
         generalize isR (valS p0).2 q i = b0 at *
         generalize (valS l).1 = n at *
         generalize (valS l).2 = b1 at *
         by_cases he : ds = []
         . have hi0 : i = 0 := by rw [<- hn, he]; rfl
           simp only [hdF, bkF, he, if_true]
           cases b0 with
           | true =>
             simp [p54l1, hI, hx2]
             refine CLa co ?_
             simp [splice, repl, hz]
             refine ⟨i + 1, by omega, by omega, ?_⟩
             rw [hnx, hix]
             have hk2 : i + 1 + 2 = k + 1 := by omega
             simp only [he, List.nil_append]
             refine Weak.mk hE (lk [(0, 0), (1, 1), (3, 24117252)]) _ _ _ ?_ ?_ ?_ ?_ ?_ <;> simp [int_one]
             omega
           | false =>
             simp [p54l1, hI, hx2]
             refine CLa co ?_
             simp [splice, repl, hz]
             refine ⟨i + 1, by omega, by omega, ?_⟩
             rw [hnx, hix]
             have hk2 : i + 1 + 2 = k + 1 := by omega
             simp only [he, List.nil_append]
             refine Weak.mk hE (lk [(0, 0), (1, 1), (3, 24117252)]) _ _ _ ?_ ?_ ?_ ?_ ?_ <;> simp [int_one]
             omega
         . simp only [hdF, bkF, he, if_false]
           cases b0 with
           | true =>
             simp [p54l1, hI, hx2, hn]
             refine CLa co ?_
             simp [splice, repl, hz, hsl, hwh, n1, n2]
             refine ⟨i + 1, by omega, by omega, ?_⟩
             rw [hnx, hix]
             have hk2 : i + 1 + 2 = k + 1 := by omega
             simp only [hne, if_false]
             refine Weak.mk hE (lk [(0, 0), (1, 1), (3, 24117252)]) _ _ _ ?_ ?_ ?_ ?_ ?_ <;> simp [fcel_one, hn]
             omega
           | false =>
             simp [p54l1, hI, hx2, hn]
             refine CLa co ?_
             simp [splice, repl, hz, hsl, hwh, n1, n2]
             refine ⟨i + 1, by omega, by omega, ?_⟩
             rw [hnx, hix]
             have hk2 : i + 1 + 2 = k + 1 := by omega
             simp only [hne, if_false]
             refine Weak.mk hE (lk [(0, 0), (1, 1), (3, 24117252)]) _ _ _ ?_ ?_ ?_ ?_ ?_ <;> simp [fcel_one, hn]
             omega
       . have e : i = q.length := by omega
         subst e
         obtain ⟨k, hk⟩ : ∃ k, k = q.length + 2 := ⟨_, rfl⟩
         have hI : ¬ (k : Int) < P.length := by omega
         rw [<- hk]
         have hE2 := isR_all (valS p0).2 q
         rw [<- hE2] at hri ⊢
         rw [<- argR_all q] at hri ⊢
         have ce := fn103 ⟨(valS p0).1, p1, argR q q.length, T⟩ (by have := hpm p1 (by simp); simpa using this) (by simp only; rw [hn]; omega) (by simp only; omega)
         generalize argR q q.length = ds at *
         generalize isR (valS p0).2 q q.length = b0 at *
         by_cases he : ds = []
         . simp only [hdF, bkF, he, if_true]
           simp only [he] at ce
           cases b0 with
           | false =>
             simp [p54l1, hI]
             refine pw_drawW [(6, 0)] (by kernel_rfl) ?_
             simp [splice, inC, Nat.testBit]
             apply RZ
             simp [results54, hdR, bkR]
           | true =>
             simp [p54l1, hI]
             refine pw_drawW [(6, 0)] (by kernel_rfl) ?_
             simp [inC, Nat.testBit]
             refine CLb (ce) (by simp) ?_
             simp [splice, inC, Nat.testBit]
             apply RZ
             simp [results54, hdR, bkR]
         . simp only [hdF, bkF, he, if_false]
           cases b0 with
           | false =>
             simp [p54l1, hI]
             refine pw_drawW [(6, 0)] (by kernel_rfl) ?_
             simp [splice, inC, Nat.testBit]
             refine RetOk.by (lk [(0, 3)]) ?_
             simp [results54, hdR, bkR, he]
           | true =>
             simp [p54l1, hI]
             refine pw_drawW [(6, 0)] (by kernel_rfl) ?_
             simp [inC, Nat.testBit]
             refine CLb (ce) (by simp [bor1_fcel hfi1]) ?_
             simp [splice, inC, Nat.testBit]
             refine RetOk.by (lk [(0, 3)]) ?_
             simp [results54, hdR, bkR, he]
theorem fn54 (s : By) (hs : s.length <= 1000000) : Ct prog 54 [vS s] (.tup [entV (toldT s).1, vb (toldT s).2]) [] := by
 have h := told_raw s hs
 generalize toldT s = x at *
 obtain ⟨x, is⟩ := x
 simp only at h ⊢
 refine Cm.freeze h ?_
 unfold hdR bkR
 by_cases he : x.a = []
 . rw [if_pos he, if_pos he]
   have e : intsD x.a = .sl 1 [] := by rw [he]; rfl
   rw [show entV x = .agg [vi x.t, vS x.w, .d (.sl 1 []), vS x.n] by rw [<- e]]
   exact ⟨⟨⟨_, rfl, .inl rfl⟩, ⟨_, rfl, .inl rfl⟩, ⟨_, rfl, .inr ⟨rfl, _, rfl⟩⟩, ⟨_, rfl, .inl rfl⟩, trivial⟩, .inl rfl, trivial⟩
 . rw [if_neg he, if_neg he]
   exact ⟨⟨⟨_, rfl, .inl rfl⟩, ⟨_, rfl, .inl rfl⟩, ⟨_, rfl, bor_fcel (f := intL) hfi1 (l := x.a) (by simp)⟩, ⟨_, rfl, .inl rfl⟩, trivial⟩, .inl rfl, trivial⟩
end Go.Proofs.Tryz
