/- Own lemmas, used by the last text. Conditions: those that each theorem states. -/
import Derived.Test.YtcaecmiedjnacaaGreatDoorKiai
import Derived.Test.YtcaecmiedjnacaaGreatDoorKiam
import Derived.Test.YtcaecmiedjnacaaGreatDoorKian
set_option maxRecDepth 200000
set_option maxHeartbeats 8000000
namespace Go.Proofs.Tryz
open Go.Psl
open Go.Log
theorem rrd_raw (t : By) (L : List By) (e0 : Bool) (c0 : Ct prog 51 [vS t] (.tup [.d (strsD L), vb e0]) []) (hL : ∀ x ∈ L, x.length <= 100000) (ls : List Lim) (hn : ls.length <= 1000000) (hLn : L.length <= 1000000) :
   Ct prog 21 [vS t, .d (lmsD ls)] (rshV (refP t L ls)) (rshB (refP t L ls)) := by
 have c1 := fn63 ls hn
 by_cases h1 : chkLms ls = 0
 case neg =>
   have er : refP t L ls = (zSh, chkLms ls) := by unfold refP; rw [if_pos h1]; rfl
   rw [er, (rsh_zero _).1, (rsh_zero _).2]
   refine CB func21 c21 fun E hE => ?_
   simp [p21]
   refine CLa c1 ?_
   simp [h1]
   apply RZ
   simp [results21, splice]
 have h1' := h1
 rw [h1] at c1
 by_cases h2 : 40000 < t.length
 . have er : refP t L ls = (zSh, 4) := by unfold refP; rw [if_neg (by simp [h1]), if_pos h2]; rfl
   have h2' : (40000 : Int) < t.length := by omega
   rw [er, (rsh_zero _).1, (rsh_zero _).2]
   refine CB func21 c21 fun E hE => ?_
   simp [p21]
   refine CLa c1 ?_
   simp [h2']
   apply RZ
   simp [results21, splice]
 have h2' : ¬ (40000 : Int) < t.length := by omega
 by_cases h3 : L.length < 3
 . have er : refP t L ls = (zSh, 94) := by unfold refP; rw [if_neg (by simp [h1]), if_neg h2, if_pos (.inl h3)]; rfl
   have h3' : (L.length : Int) < 3 := by omega
   rw [er, (rsh_zero _).1, (rsh_zero _).2]
   refine CB func21 c21 fun E hE => ?_
   simp [p21]
   refine CLa c1 ?_
   simp [h2']
   refine CLa c0 ?_
   simp [h3']
   apply RZ
   simp [results21, splice]
 have h3' : ¬ (L.length : Int) < 3 := by omega
 by_cases h4 : 43 < L.length
 . have er : refP t L ls = (zSh, 94) := by unfold refP; rw [if_neg (by simp [h1]), if_neg h2, if_pos (.inr (.inl h4))]; rfl
   have h4' : (43 : Int) < L.length := by omega
   rw [er, (rsh_zero _).1, (rsh_zero _).2]
   refine CB func21 c21 fun E hE => ?_
   simp [p21]
   refine CLa c1 ?_
   simp [h2']
   refine CLa c0 ?_
   simp [h3', h4']
   apply RZ
   simp [results21, splice]
 have h4' : ¬ (43 : Int) < L.length := by omega
 obtain ⟨x0, hx0⟩ : ∃ x0, L[0]? = some x0 := ⟨_, List.getElem?_eq_getElem (by omega)⟩
 have hx : L.headD [] = x0 := by rw [List.headD_eq_head?_getD, List.head?_eq_getElem?, hx0]; rfl
 have hx0l := hL x0 (List.mem_of_getElem? hx0)
 by_cases h5 : x0.length < 6
 . have er : refP t L ls = (zSh, 94) := by unfold refP; rw [if_neg (by simp [h1]), if_neg h2, if_pos (.inr (.inr (by rw [hx]; exact h5)))]; rfl
   have h5' : (x0.length : Int) < 6 := by omega
   rw [er, (rsh_zero _).1, (rsh_zero _).2]
   refine CB func21 c21 fun E hE => ?_
   simp [p21]
   refine CLa c1 ?_
   simp [h2']
   refine CLa c0 ?_
   simp [h3', h4', h5', hx0]
   apply RZ
   simp [results21, splice]
 have h5' : ¬ (x0.length : Int) < 6 := by omega
 have h6' : (6 : Int) <= x0.length := by omega
 have h6 : 6 <= x0.length := by omega
 have hcond : ¬ (L.length < 3 \/ 43 < L.length \/ (L.headD []).length < 6) := by rw [hx]; omega
 have her : ((midG L).all fun x => okG (prtS x)) = false -> refP t L ls = (zSh, 94) := fun h => by
   unfold refP; rw [if_neg (by simp [h1]), if_neg h2, if_neg hcond, if_pos h]; rfl
 have heq : ((midG L).all fun x => okG (prtS x)) = true -> refP t L ls = if chkSh (rdShG L) = 0 /\ sheetS (rdShG L) ls = t then (rdShG L, 0) else (zSh, 94) := fun h => by
   unfold refP; rw [if_neg (by simp [h1]), if_neg h2, if_neg hcond, if_neg (by rw [h]; simp)]; rfl
 have hS1 : (rdShG L).s = x0.drop 6 := by show (L.headD []).drop 6 = _; rw [hx]
 have hS2 : (rdShG L).rs = rgP (midG L) (midG L).length := by unfold rgP; rw [List.take_length]; rfl
 have hMl := midG_len L
 have hsz : SizedS (rdShG L) := by
   refine ⟨by rw [hS1, List.length_drop]; omega, by rw [hS2, rgP_len (Nat.le_refl _)]; omega, fun r hr => ?_⟩
   rw [hS2] at hr
   obtain ⟨x, hxm, rfl⟩ := List.mem_map.1 hr
   have hxM := List.mem_of_mem_take hxm
   show ((prtS x)[0]?.getD []).length <= 1000000
   cases hf : (prtS x)[0]? with
   | none => simp
   | some y =>
     have h1 := (List.mem_filter.1 (List.mem_of_getElem? hf)).1
     have h2 := splC_mem (c := 32) h1
     have h3 := hL x (midG_mem hxM)
     simp only [Option.getD_some]
     omega
 have c5 := fn23 (rdShG L) hsz
 have hRl := rgP_len (Nat.le_refl (midG L).length)
 generalize rdShG L = S at hS1 hS2 hsz c5 heq
 have hSn : S.rs.length = (midG L).length := by rw [hS2, hRl]
 refine Ct.by gok eok mixed func21 c21 rfl (by simp [ntmps21]) (by simp) (rsh_ids _) fun E hE => ?_
 simp [p21]
 refine CLa c1 ?_
 simp [h2']
 refine CLa c0 ?_
 simp [h3', h4', h5', hx0, h6', splice]
 refine rrd_run t (x0.drop 6) L ls (by omega) (by omega) hL E hE _ _ ?_ ?_ ?_
 . rw [hdN_z, bkN_z]
   exact WK hE (lk [(1, 0), (2, 38797312)])
 . intro hall
   have hall' : ((midG L).all fun x => okG (prtS x)) = true := List.all_eq_true.2 hall
   have he := heq hall'
   rw [<- hS2, <- hSn]
   have hv : rshV (S, 0) = .tup [.agg [vS (x0.drop 6), hdN S.rs.length 5], vi 0] := by show V.tup [.agg [vS S.s, _], _] = _; rw [hS1]
   have hw : rshB (S, 0) = bkN S.rs.length (fcel rowL S.rs) := rfl
   have hbr : ∀ H : Hp, H 0 = some (fcel rowL S.rs) -> Bor1 H (.ls 0 0 S.rs.length 5) (.d (rowsD S.rs)) := fun H hh => bor_fcel (f := rowL) hfr (l := S.rs) hh
   have hsv : shtV S = .agg [vS (x0.drop 6), .d (rowsD S.rs)] := by rw [<- hS1]
   rw [hsv] at c5
   by_cases g1 : chkSh S = 0
   . have c6 := fn64 S (okSh_of g1) ls h1'
     rw [hsv] at c6
     rw [g1] at c5
     generalize sheetS S ls = T at c6 he
     by_cases g2 : T = t
     . rw [if_pos ⟨g1, g2⟩] at he
       rw [he, hv, hw]
       subst g2
       generalize S.rs = R at *
       generalize x0.drop 6 = sh at *
       by_cases h0 : R.length = 0
       . obtain rfl : R = [] := List.length_eq_zero_iff.1 h0
         rw [List.length_nil, hdN_z, bkN_z]
         simp
         refine CLa c5 ?_
         simp
         refine CLa c6 ?_
         simp [splice, bs_bne]
         apply RZ
         simp [results21]
       . rw [hdN_n h0, bkN_n h0]
         simp
         refine CLb (c5) (by simp [hbr]) ?_
         simp
         refine CLb (c6) (by simp [hbr]) ?_
         simp [splice, bs_bne]
         refine RetOk.by (lk [(0, 0)]) ?_
         simp [results21]
     . rw [if_neg fun h => g2 h.2] at he
       rw [he, (rsh_zero _).1, (rsh_zero _).2]
       generalize S.rs = R at *
       generalize x0.drop 6 = sh at *
       by_cases h0 : R.length = 0
       . obtain rfl : R = [] := List.length_eq_zero_iff.1 h0
         rw [List.length_nil, hdN_z, bkN_z]
         simp
         refine CLa c5 ?_
         simp
         refine CLa c6 ?_
         simp [splice, bs_bne, g2]
         apply RZ
         simp [results21]
       . rw [hdN_n h0, bkN_n h0]
         simp
         refine CLb (c5) (by simp [hbr]) ?_
         simp
         refine CLb (c6) (by simp [hbr]) ?_
         simp [splice, bs_bne, g2]
         apply RZ
         simp [results21]
   . rw [if_neg fun h => g1 h.1] at he
     rw [he, (rsh_zero _).1, (rsh_zero _).2]
     generalize chkSh S = cc at c5 g1
     generalize S.rs = R at *
     generalize x0.drop 6 = sh at *
     by_cases h0 : R.length = 0
     . obtain rfl : R = [] := List.length_eq_zero_iff.1 h0
       rw [List.length_nil, hdN_z, bkN_z]
       simp
       refine CLa c5 ?_
       simp [splice, g1]
       apply RZ
       simp [results21]
     . rw [hdN_n h0, bkN_n h0]
       simp
       refine CLb (c5) (by simp [hbr]) ?_
       simp [splice, g1]
       apply RZ
       simp [results21]
 . intro x hxm hbad f H n g4 g5 gH
   have hb : ((midG L).all fun x => okG (prtS x)) = false := List.all_eq_false.2 ⟨x, hxm, by simp [hbad]⟩
   rw [her hb, (rsh_zero _).1, (rsh_zero _).2]
   simp
   apply RZ
   simp [results21, g4, g5, gH]
theorem rrd_f (t : By) (ls : List Lim) (hn : ls.length <= 1000000) (ht : t.length <= 50000) : Ct prog 21 [vS t, .d (lmsD ls)] (.tup [shtV (readP t ls).1, vi (readP t ls).2]) [] := by
 have c0 := lines_fz t (by omega)
 have e := finL_eq t
 have hll := lines_le t
 have hL : ∀ x ∈ (finL t).1, x.length <= 100000 := fun x hx => by
   rw [e] at hx
   obtain ⟨y, hy, rfl⟩ := List.mem_map.1 hx
   have h1 := lines_mem_len hy
   have h2 : (chopS y).length <= y.length := by
     unfold chopS
     split
     . rw [List.length_dropLast]; omega
     . omega
   omega
 have hr := rrd_raw t (finL t).1 (finL t).2 c0 hL ls hn (by rw [e, List.length_map]; omega)
 have hk : refP t (finL t).1 ls = readP t ls := by
   by_cases h : (refP t (finL t).1 ls).2 = 0
   . obtain ⟨a1, a2, a3⟩ := refP_some h
     have h1 := ref_sheet a2 a1
     have h2 := read_sheet a2 a1
     rw [<- a3] at h1 h2
     rw [h2]
     exact Prod.ext rfl h
   . by_cases h' : (readP t ls).2 = 0
     . exfalso
       have hb := readP_back h'
       obtain ⟨a1, a2, a3⟩ := writeSh_ok (s := (readP t ls).1) (ls := ls) (by rw [hb])
       rw [hb] at a3
       have h1 := ref_sheet a1 a2
       rw [<- show t = _ from a3, <- e] at h1
       rw [h1] at h
       exact h rfl
     . rw [refP_none h]
       unfold readP at h' ⊢
       split
       . rfl
       . split
         . rfl
         . split
           . rfl
           . split
             . rfl
             . split
               . rename_i b1 b2 b3 b4 b5
                 rw [if_neg b1, if_neg b2, if_neg b3, if_neg b4, if_pos b5] at h'
                 exact absurd rfl h'
               . rfl
 rw [hk] at hr
 refine Cm.freeze hr ?_
 generalize readP t ls = r
 obtain ⟨⟨s, R⟩, ec⟩ := r
 show Fz (lk (bkN R.length (fcel rowL R))) (.tup [.agg [vS s, hdN R.length 5], vi ec]) (.tup [.agg [vS s, .d (rowsD R)], vi ec])
 by_cases h0 : R.length = 0
 . obtain rfl : R = [] := List.length_eq_zero_iff.1 h0
   exact ⟨⟨⟨_, rfl, .inl rfl⟩, ⟨_, rfl, .inr ⟨rfl, _, rfl⟩⟩, trivial⟩, .inl rfl, trivial⟩
 . rw [hdN_n h0, bkN_n h0]
   exact ⟨⟨⟨_, rfl, .inl rfl⟩, ⟨_, rfl, bor_fcel (f := rowL) hfr (l := R) (by simp)⟩, trivial⟩, .inl rfl, trivial⟩
theorem readP_bad {t : By} {ls : List Lim} (h : (readP t ls).2 ≠ 0) : (readP t ls).1 = zSh := by
 unfold readP at h ⊢
 split
 . rfl
 . split
   . rfl
   . split
     . rfl
     . split
       . rfl
       . split
         . rename_i a b c d e
           rw [if_neg a, if_neg b, if_neg c, if_neg d, if_pos e] at h
           exact absurd rfl h
         . rfl
theorem fn4 (s : Sht) (ls : List Lim) (t : By) : Ct prog 4 [shtV s, .d (lmsD ls), vS t] (vb true) [] := by
 have g := fn17 s ls
 by_cases hg : grSh s ls = true
 . rw [hg] at g
   refine CB func4 c4 fun E hE => ?_
   simp [p4]
   refine CLa g ?_
   simp
   apply RZ
   simp [results4]
 simp only [Bool.not_eq_true] at hg
 rw [hg] at g
 obtain ⟨hs, hn50, hl50⟩ := grSh_sized hg
 by_cases h50 : 50000 < t.length
 . have h50' : (50000 : Int) < t.length := by omega
   have h40 : (4000 : Int) < t.length := by omega
   have h44 : ¬ (t.length : Int) <= 40000 := by omega
   refine CB func4 c4 fun E hE => ?_
   simp [p4]
   refine CLa g ?_
   simp [h50', h40, h44]
   apply RZ
   simp [results4]
 have h50' : ¬ (50000 : Int) < t.length := by omega
 have hcz : ((4000 : Int) < t.length /\ (t.length : Int) <= 40000) \/ ¬ ((4000 : Int) < t.length /\ (t.length : Int) <= 40000) := by omega
 rcases hcz with hz | hz
 . refine CB func4 c4 fun E hE => ?_
   simp [p4]
   refine CLa g ?_
   simp [hz]
   apply RZ
   simp [results4]
 have w := fn18 s hs ls (by omega)
 have w2 := fn19 s hs ls (by omega)
 have d := fn20 t ls (by omega) (by omega)
 have d2 := rrd_f t ls (by omega) (by omega)
 have k := fn22 s hs
 have k2 := fn23 s hs
 have e2 := fn24 s (by omega)
 have hfc : (List.map (List.map V.d ∘ rowL) s.rs).flatten = fcel rowL s.rs := by unfold fcel; induction s.rs <;> simp_all
 have hcl : ∀ x, x ∈ fcel rowL s.rs -> x.isCell = true := fun x hx => by
   rw [<- hfc] at hx
   obtain ⟨y, hy, hxy⟩ := List.mem_flatten.1 hx
   obtain ⟨r, _, rfl⟩ := List.mem_map.1 hy
   obtain ⟨z, _, rfl⟩ := List.mem_map.1 hxy
   rfl
 have n1 : s.rs.length * 48 <= 140737488355328 := by omega
 have n2 : s.rs.length <= 9223372036854775807 := by omega
 have hbr : ∀ (H : Hp) (id : Nat), H id = some (fcel rowL s.rs) -> Bor1 H (.ls id 0 s.rs.length 5) (.d (rowsD s.rs)) := fun H id hh => bor_fcel (f := rowL) hfr (l := s.rs) hh
 have hwh : List.take (s.rs.length * 5) (fcel rowL s.rs) = fcel rowL s.rs := fcel_whole hfr s.rs
 generalize writeSh s ls = W at w w2
 have er := fn24 (readP t ls).1 (by
   by_cases hr : (readP t ls).2 = 0
   . have hb := readP_back hr
     have hq : OkSh (readP t ls).1 := (writeSh_ok (by rw [hb])).1
     exact (okSh_sized hq).n
   . rw [readP_bad hr]; exact Nat.zero_le _)
 generalize readP t ls = R at d d2 er
 by_cases hq : (4000 : Int) < t.length
 . have hq2 : ¬ (t.length : Int) <= 40000 := fun h => hz ⟨hq, h⟩
   refine CB func4 c4 fun E hE => ?_
   simp [p4]
   refine CLa g ?_
   simp [splice, repl, h50', hq, hq2, hfc, n1, n2]
   rw [if_pos hcl]
   simp [splice]
   repeat ((first | (refine CLt w ?_ ?_; focus (simp [hbr]; done)) | (refine CLt w2 ?_ ?_; focus (simp; done)) | (refine CLt d ?_ ?_; focus (simp; done)) | (refine CLt d2 ?_ ?_; focus (simp; done))); simp [splice])
   refine CLb (k) (by first | (simp; done) | simp [Bor1_ls, inC, Nat.testBit, hfc, hwh]) ?_
   simp [inC, Nat.testBit]
   refine CLb (k2) (by first | (simp; done) | simp [Bor_ls, Bor1_ls, inC, Nat.testBit, hfc, hwh]) ?_
   simp [inC, Nat.testBit, bs_beq]
   refine CLb (er) (by first | (simp; done) | simp [Bor_ls, Bor1_ls, inC, Nat.testBit, hfc, hwh]) ?_
   simp [inC, Nat.testBit]
   refine CLb (e2) (by first | (simp; done) | simp [Bor1_ls, hfc, hwh]) ?_
   simp
   apply RZ
   simp [results4]
 . refine CB func4 c4 fun E hE => ?_
   simp [p4]
   refine CLa g ?_
   simp [splice, repl, h50', hq, hfc, n1, n2]
   rw [if_pos hcl]
   simp [splice]
   repeat ((first | (refine CLt w ?_ ?_; focus (simp [hbr]; done)) | (refine CLt w2 ?_ ?_; focus (simp; done)) | (refine CLt d ?_ ?_; focus (simp; done)) | (refine CLt d2 ?_ ?_; focus (simp; done))); simp [splice])
   refine CLb (k) (by first | (simp; done) | simp [Bor1_ls, inC, Nat.testBit, hfc, hwh]) ?_
   simp [inC, Nat.testBit]
   refine CLb (k2) (by first | (simp; done) | simp [Bor_ls, Bor1_ls, inC, Nat.testBit, hfc, hwh]) ?_
   simp [inC, Nat.testBit, bs_beq]
   refine CLb (er) (by first | (simp; done) | simp [Bor_ls, Bor1_ls, inC, Nat.testBit, hfc, hwh]) ?_
   simp [inC, Nat.testBit]
   refine CLb (e2) (by first | (simp; done) | simp [Bor1_ls, hfc, hwh]) ?_
   simp
   apply RZ
   simp [results4]
end Go.Proofs.Tryz
