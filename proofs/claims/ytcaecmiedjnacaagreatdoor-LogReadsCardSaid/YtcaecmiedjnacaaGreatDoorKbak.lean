/- Own lemmas, used by the last text. Conditions: those that each theorem states. -/
import Derived.Test.YtcaecmiedjnacaaGreatDoorKbah
import Derived.Test.YtcaecmiedjnacaaGreatDoorKbaj
set_option maxRecDepth 200000
set_option maxHeartbeats 8000000
namespace Go.Proofs.Tryz
open Go.Psl
open Go.Log
theorem lines_stop (s : By) (hl : s.length <= 1000000) (j : Nat) (lj : By) (hj : (linesOf s)[j]? = some lj) (rv : D) (Lp : List (Nat × List V)) (xsp : List Nat) (KS : List Nat) (hLp : KeepX KS xsp Lp) (hxp : ∀ x ∈ xsp, x < 1048576) (XS : Nat -> List Nat) (k a : Nat) (L : Nat -> By -> List (Nat × List V)) (hk : k ∈ KS) (ha : a ∈ KS) (hN : ∀ i ∈ KS, i < 1000000000) (hX : ∀ i, ∀ x ∈ XS i, x < 1048576) (hL : ∀ i r, KeepX KS (XS i) (L i r))
   (hrec : ∀ i r, ∃ fr nt ps pa pb jmp, lk (L i r) k = some [.lr fr nt ps pa pb jmp] /\ ps.length = 2) (hbox : ∀ i r, lk (L i r) a = some [vS r]) (hset : ∀ (i : Nat) (r r' : By), ∀ p ∈ L i r', (p.1 = a /\ p.2 = [vS r']) \/ (p.1 ≠ a /\ p ∈ L i r))
   (hP : Ym prog k [vi j, vS lj] (lk (L j (restL j s))) KS (.pan (.d rv)) (lk Lp))
   (hY : ∀ (i : Nat) (l : By), i < j -> (linesOf s)[i]? = some l -> Ym prog k [vi i, vS l] (lk (L i (restL i s))) KS (.ret (vb true)) (lk (L (i + 1) (restL i s)))) :
   Cm prog 84 [.yl k, .lp a 0] (lk (L 0 s)) KS (.pan (.d rv)) (lk Lp) := by
 have hNX : ∀ i, ∀ x ∈ KS ++ XS i, x < 1000000000 := fun i x hx => by
   rcases List.mem_append.1 hx with h | h
   . exact hN x h
   . have := hX i x h; omega
 refine Cm.by gok eok mixed 1000000000 func84 c84 rfl (by simp [ntmps84]) (by simp; exact ⟨hN k hk, hN a ha⟩) (HpIds.at ((hL 0 s).ids (hNX 0))) hN ⟨trivial, hLp.res⟩ fun E hs hE => ?_
 have haN := hN a ha
 have na : ∀ x, 1000000000 <= x -> ¬ a = x := fun x _ => by omega
 have la : ∀ x, 1000000000 <= x -> a < x := fun x _ => by omega
 have rk : ∀ i b, rx KS (XS i) b k = some k := fun i b => by simp [rx, hk]
 have ra : ∀ i b, rx KS (XS i) b a = some a := fun i b => by simp [rx, ha]
 have hll := lines_le s
 simp [p84]
 refine pw_loop (α := Nat) (fun i => ⟨slots [(0, .yl k), (1, .lp a 0), (3, vi i)], lk (L i (restL i s)), 1000000000⟩) (fun i => i <= j) (fun i => j - i) 0 ?_ ?_ ?_
 . omega
 . refine Weak.sameX hs (hL 0 s) rfl (hNX 0) _ ?_ ?_
   . simp [rid, hk, ha]
   . simp [hN k hk, hN a ha]
 . intro i hi
   have hb := hbox i (restL i s)
   have hjl := (List.getElem?_eq_some_iff.1 hj).1
   by_cases h0 : restL i s = []
   . have := lines_end.1 h0
     omega
   . have hil : i < (linesOf s).length := by
       rcases Nat.lt_or_ge i (linesOf s).length with h | h
       . exact h
       . exact absurd (lines_end.2 h) h0
     have hat := lines_at h0
     have hrs := restL_succ i s
     have hrl := restL_len i s
     have hYP : (i < j /\ Ym prog k [vi i, vS (firL (restL i s)).1] (lk (L i (restL i s))) KS (.ret (vb true)) (lk (L (i + 1) (restL i s)))) \/ (i = j /\ Ym prog k [vi i, vS (firL (restL i s)).1] (lk (L i (restL i s))) KS (.pan (.d rv)) (lk Lp)) := by
       by_cases hij : i = j
       . subst hij
         rw [hat] at hj; cases hj
         exact .inr ⟨rfl, hP⟩
       . exact .inl ⟨by omega, hY i _ (by omega) hat⟩
     clear hP hY
     generalize hr : restL i s = r at *
     have hz := @wz i (by omega)
     have c1 := fn85 r 10
     have hfl := firL_len r
     have hfp := firL_pos h0
     have htk := firL_take r
     have hdr := firL_drop r
     obtain ⟨fr, nt, ps, pa, pb, jmp, hr1, hr2⟩ := hrec i r
     have i1 : ((firL r).1.length : Int) <= r.length := by omega
     have i2 : (firL r).1.length <= r.length := by omega
     by_cases hx : Go.Lib.indexByte r 10 = -1
     . have e := idx_none hx
       rw [hx] at c1
       have w0 : IntKind.wrap .i64 (-1 + 1) = 0 := by decide
       rw [e] at hYP
       have e2 : (firL r).2 = [] := List.length_eq_zero_iff.1 (by have := congrArg List.length e; omega)
       simp [p84l0, hb, h0]
       refine CLa c1 ?_
       have w00 : IntKind.wrap .i64 0 = 0 := by decide
       simp [w00, hb]
       rcases hYP with ⟨hij, hY'⟩ | ⟨hij, hY'⟩
       . refine AYield.keepX [vi i, vS r] (L i r) (L (i + 1) r) KS (XS i) (XS (i + 1)) _ hY' (hL i r) (hL (i + 1) r) (hX _) ⟨fr, nt, ps, pa, pb, jmp, hr1, hr2⟩ (fun q hq => rfl) (by simp) ?_
         have hbb : ∀ q ∈ KS ++ XS i, q < 1016777216 := fun q hq => by have := hNX i q hq; omega
         have hbk : ∀ q ∈ KS, q < 1016777216 := fun q hq => by have := hN q hq; omega
         obtain ⟨F, hF⟩ : ∃ F, F = heapM (lk (L i r)) 1016777216 (lk (L i r)) KS (lk (L (i + 1) r)) := ⟨_, rfl⟩
         have hFp : ∀ p ∈ L (i + 1) r, F (sg KS 1016777216 p.1) = some (p.2.map (renC (sg KS 1016777216))) := fun p hp => by rw [hF]; exact heapX_at (hL i r) (hL (i + 1) r) hbb hp
         rw [<- hF]
         have hFa : F a = some [vS r] := by
           have h1 : (a, [vS r]) ∈ L (i + 1) r := lk_mem' (hbox (i + 1) r)
           have := hFp _ h1
           simpa [ha, renC, ren1, ren0] using this
         simp [hFa, hz, splice]
         refine ⟨i + 1, by omega, by omega, ?_⟩
         rw [hrs]
         refine Weak.keepX (b := 1016777216) hs (hL (i + 1) _) hbk (fun p hp => ?_) (hNX (i + 1)) _ ?_ ?_
         . rcases hset (i + 1) r (firL r).2 p hp with ⟨h1, h2⟩ | ⟨h1, h2⟩
           . rw [h1, h2, sg_in ha]
             simp [renC, ren1, ren0, e2]
           . have hne : ¬ sg KS 1016777216 p.1 = a := fun e => by
               unfold sg at e
               split at e
               . exact h1 e
               . omega
             have h3 := hFp p h2
             show upd F a (some [vS []]) (sg KS 1016777216 p.1) = _
             rw [upd_at, if_neg hne]
             exact h3
         . simp [rk, ra]
         . simp [hN k hk, hN a ha]
       . refine AYield.panX [vi i, vS r] (L i r) Lp KS (XS i) xsp _ hY' (hL i r) hLp hxp ⟨fr, nt, ps, pa, pb, jmp, hr1, hr2⟩ (fun q hq => rfl) (by simp) ?_
         have hbb : ∀ q ∈ KS ++ XS i, q < 1016777216 := fun q hq => by have := hNX i q hq; omega
         have hbk : ∀ q ∈ KS, q < 1016777216 := fun q hq => by have := hN q hq; omega
         exact PanM.keepX hLp hbk fun p hp => heapX_at (hL i r) hLp hbb hp
     . have e := idx_some hx
       have w0 : IntKind.wrap .i64 (Go.Lib.indexByte r 10 + 1) = ((firL r).1.length : Int) := by rw [wrap64 (by omega) (by omega)]; omega
       have n0 : ¬ (((firL r).1.length : Int) = 0) := by omega
       have n1 : ¬ ((firL r).1 = []) := fun e => by rw [e] at hfp; simp at hfp
       simp [p84l0, hb, h0]
       refine CLa c1 ?_
       simp [w0, n1, hb, i1, htk]
       rcases hYP with ⟨hij, hY'⟩ | ⟨hij, hY'⟩
       . refine AYield.keepX [vi i, vS (firL r).1] (L i r) (L (i + 1) r) KS (XS i) (XS (i + 1)) _ hY' (hL i r) (hL (i + 1) r) (hX _) ⟨fr, nt, ps, pa, pb, jmp, hr1, hr2⟩ (fun q hq => rfl) (by simp) ?_
         have hbb : ∀ q ∈ KS ++ XS i, q < 1013631488 := fun q hq => by have := hNX i q hq; omega
         have hbk : ∀ q ∈ KS, q < 1013631488 := fun q hq => by have := hN q hq; omega
         obtain ⟨F, hF⟩ : ∃ F, F = heapM (lk (L i r)) 1013631488 (lk (L i r)) KS (lk (L (i + 1) r)) := ⟨_, rfl⟩
         have hFp : ∀ p ∈ L (i + 1) r, F (sg KS 1013631488 p.1) = some (p.2.map (renC (sg KS 1013631488))) := fun p hp => by rw [hF]; exact heapX_at (hL i r) (hL (i + 1) r) hbb hp
         rw [<- hF]
         have hFa : F a = some [vS r] := by
           have h1 : (a, [vS r]) ∈ L (i + 1) r := lk_mem' (hbox (i + 1) r)
           have := hFp _ h1
           simpa [ha, renC, ren1, ren0] using this
         simp [hFa, hz, splice, hdr, i2]
         refine ⟨i + 1, by omega, by omega, ?_⟩
         rw [hrs]
         refine Weak.keepX (b := 1013631488) hs (hL (i + 1) _) hbk (fun p hp => ?_) (hNX (i + 1)) _ ?_ ?_
         . rcases hset (i + 1) r (firL r).2 p hp with ⟨h1, h2⟩ | ⟨h1, h2⟩
           . rw [h1, h2, sg_in ha]
             simp [renC, ren1, ren0]
           . have hne : ¬ sg KS 1013631488 p.1 = a := fun e => by
               unfold sg at e
               split at e
               . exact h1 e
               . omega
             have h3 := hFp p h2
             show upd F a (some [vS (firL r).2]) (sg KS 1013631488 p.1) = _
             rw [upd_at, if_neg hne]
             exact h3
         . simp [rk, ra]
         . simp [hN k hk, hN a ha]
       . refine AYield.panX [vi i, vS (firL r).1] (L i r) Lp KS (XS i) xsp _ hY' (hL i r) hLp hxp ⟨fr, nt, ps, pa, pb, jmp, hr1, hr2⟩ (fun q hq => rfl) (by simp) ?_
         have hbb : ∀ q ∈ KS ++ XS i, q < 1013631488 := fun q hq => by have := hNX i q hq; omega
         have hbk : ∀ q ∈ KS, q < 1013631488 := fun q hq => by have := hN q hq; omega
         exact PanM.keepX hLp hbk fun p hp => heapX_at (hL i r) hLp hbb hp
def rKS : List Nat := [18874368, 17825792, 0, 1048576, 2097152, 8388608, 9437184, 10485760, 11534336]
def rXS (es : List Etr) : List Nat := if es = [] then [] else [7]
def hdZ (es : List Etr) : V := if es = [] then .d (.lit (.slice none 0 0)) else .ls 7 0 es.length 4
def bkZ (es : List Etr) : List (Nat × List V) := if es = [] then [] else [(7, fcel entL es)]
def rL (f : Nat -> V) (z : LSt) (r s : By) (es : List Etr) (n c last m : Int) : List (Nat × List V) := (18874368, [.lr f 122 [23, 24] p11l0 p11l1 z]) :: (17825792, [vS r]) :: (0, [vS s, hdZ es]) :: (1048576, [vi 0]) :: (2097152, [vi 0]) :: (8388608, [vi n]) :: (9437184, [vi c]) :: (10485760, [vi last]) :: (11534336, [vi m]) :: bkZ es
theorem rKeep (f : Nat -> V) (z : LSt) (r s : By) (es : List Etr) (n c last m : Int) (hf : ∀ t, AV (· ∈ rKS) anyD (f t)) : KeepX rKS (rXS es) (rL f z r s es n c last m) := by
 by_cases h : es = []
 . refine ⟨by simp [rL, bkZ, rXS, rKS, h], by simp [rXS, rKS, h], ?_⟩
   intro q hq
   simp only [rL, bkZ, h, if_true, List.mem_cons, List.not_mem_nil, or_false] at hq
   rcases hq with rfl | rfl | rfl | rfl | rfl | rfl | rfl | rfl | rfl
   . exact ⟨by simp, Or.inr (.inl ⟨_, _, _, _, _, _, rfl⟩), fun c hc => by simp at hc; subst hc; exact hf⟩
   all_goals refine ⟨by simp, Or.inl rfl, fun c hc => ?_⟩
   all_goals simp only [List.mem_cons, List.not_mem_nil, or_false] at hc
   all_goals first | (rcases hc with rfl | rfl <;> first | exact rfl | (simp only [hdZ, if_true]; exact rfl)) | (subst hc; exact rfl)
 . refine ⟨by simp [rL, bkZ, rXS, rKS, h], by simp [rXS, rKS, h], ?_⟩
   intro q hq
   simp only [rL, bkZ, h, if_false, List.mem_cons, List.not_mem_nil, or_false] at hq
   rcases hq with rfl | rfl | rfl | rfl | rfl | rfl | rfl | rfl | rfl | rfl
   . exact ⟨by simp, Or.inr (.inl ⟨_, _, _, _, _, _, rfl⟩), fun c hc => by simp at hc; subst hc; exact hf⟩
   . exact ⟨by simp, Or.inl rfl, fun c hc => by simp at hc; subst hc; exact rfl⟩
   . refine ⟨by simp, Or.inl (by simp [hdZ, h]), fun c hc => ?_⟩
     simp only [List.mem_cons, List.not_mem_nil, or_false] at hc
     rcases hc with rfl | rfl
     . exact rfl
     . simp [CX, hdZ, h, W1, W0, rid, rXS, rKS]
   . exact ⟨by simp, Or.inl rfl, fun c hc => by simp at hc; subst hc; exact rfl⟩
   . exact ⟨by simp, Or.inl rfl, fun c hc => by simp at hc; subst hc; exact rfl⟩
   . exact ⟨by simp, Or.inl rfl, fun c hc => by simp at hc; subst hc; exact rfl⟩
   . exact ⟨by simp, Or.inl rfl, fun c hc => by simp at hc; subst hc; exact rfl⟩
   . exact ⟨by simp, Or.inl rfl, fun c hc => by simp at hc; subst hc; exact rfl⟩
   . exact ⟨by simp, Or.inl rfl, fun c hc => by simp at hc; subst hc; exact rfl⟩
   . obtain ⟨a, t, e⟩ := List.exists_cons_of_ne_nil h
     refine ⟨by rw [e, fcel_cons]; simp, Or.inl (List.all_eq_true.2 fun c hc => by obtain ⟨y, _, rfl⟩ := List.mem_map.1 (show c ∈ List.map V.d (List.map entL es).flatten from hc); rfl), fun c hc => ?_⟩
     obtain ⟨y, _, rfl⟩ := List.mem_map.1 (show c ∈ List.map V.d (List.map entL es).flatten from hc)
     exact rfl
structure RdF (f : Nat -> V) : Prop where
 av : ∀ t, AV (· ∈ rKS) anyD (f t)
 f2 : f 2 = .lp 0 0
 f5 : f 5 = .lp 8388608 0
 f6 : f 6 = .lp 9437184 0
 f7 : f 7 = .lp 10485760 0
 f8 : f 8 = .lp 11534336 0
def panY (f : Nat -> V) (l r : By) (i : Nat) (L0 : List (Nat × List V)) (e : Int) : Prop := ∃ s es n c last, Ym prog 18874368 [vi i, vS l] (lk L0) rKS (.pan (.d (wrgD i e))) (lk (rL f .busy r s es n c last i))
theorem rd_93 (f : Nat -> V) (hF : RdF f) (i : Nat) (l r : By) (st : Rst) (hl : l.length <= 1000000) (_ : i <= 1000000) (h : st.n < i) : panY f l r i (rL f .ready r st.s st.es st.n st.c (lastE st.es) i) 93 := by
 obtain ⟨hf, f2, f5, f6, f7, f8⟩ := hF
 have hlt : ∀ es, ∀ j ∈ rKS ++ rXS es, j < 19922944 := by
   intro es j hj
   simp only [rKS, rXS, List.mem_append, List.mem_cons, List.not_mem_nil, or_false] at hj
   split at hj <;> simp at hj <;> omega
 have hW : ∀ z (ρ : Nat -> Option Nat), (∀ j ∈ rKS, ρ j = some j) -> WC ρ (.lr f 122 [23, 24] p11l0 p11l1 z) (.lr f 122 [23, 24] p11l0 p11l1 z) := fun z ρ hρ => ⟨rfl, fun t => AV.mono (fun j hj => hρ j hj) (fun _ h => h) (hf t)⟩
 have hC : ∀ z, cellsOk [.lr f 122 [23, 24] p11l0 p11l1 z] := fun z => Or.inr (.inl ⟨_, _, _, _, _, _, rfl⟩)
 have co := fn40 l (by omega)
 have ch := fn41 l 10 (by omega)
 change Ct prog _ _ (vb (fedS l)) _ at ch
 have hn : ¬ ((i : Int) <= st.n) := by omega
 have cn := need_no i 93
 refine ⟨st.s, st.es, st.n, st.c, lastE st.es, Ym.ofPX (k := 18874368) (fr := f) (nt := 122) (ps := [23, 24]) (pa := p11l0) (pb := p11l1) (args := [vi i, vS l]) gok eok mixed (fn := f11) func11 rfl 19922944 (rKeep f .ready r _ _ _ _ _ _ hf) (rKeep f .busy r _ _ _ _ _ _ hf) (hlt _) (by simp [rKS]) (by simp [rL]) (by simp) (by simp) (by simp) ⟨fun E hE hs => ?_⟩⟩
 by_cases he : st.es = []
 . simp only [hdZ, bkZ, he, if_true, rL]
   generalize V.lr f 122 [23, 24] p11l0 p11l1 = rc at hW hC ⊢
   simp [p11l0, frPuts]
   simp [p11l1, f5, hn]
   refine CRs cn (by simp) ?_
   simp [panQ_pan]
   have hW2 := hW .busy (lk [(18874368, 18874368), (17825792, 17825792), (0, 0), (1048576, 1048576), (2097152, 2097152), (8388608, 8388608), (9437184, 9437184), (10485760, 10485760), (11534336, 11534336), (7, 7)]) (by intro j hj; simp only [rKS, List.mem_cons, List.not_mem_nil, or_false] at hj; rcases hj with rfl | rfl | rfl | rfl | rfl | rfl | rfl | rfl | rfl <;> rfl)
   refine ⟨lk [(18874368, 18874368), (17825792, 17825792), (0, 0), (1048576, 1048576), (2097152, 2097152), (8388608, 8388608), (9437184, 9437184), (10485760, 10485760), (11534336, 11534336), (7, 7)], ?_⟩
   simp [hW2, hC, rKS]
 . simp only [hdZ, bkZ, he, if_false, rL]
   generalize V.lr f 122 [23, 24] p11l0 p11l1 = rc at hW hC ⊢
   simp [p11l0, frPuts]
   simp [p11l1, f5, hn]
   refine CRs cn (by simp) ?_
   simp [panQ_pan]
   have hW2 := hW .busy (lk [(18874368, 18874368), (17825792, 17825792), (0, 0), (1048576, 1048576), (2097152, 2097152), (8388608, 8388608), (9437184, 9437184), (10485760, 10485760), (11534336, 11534336), (7, 7)]) (by intro j hj; simp only [rKS, List.mem_cons, List.not_mem_nil, or_false] at hj; rcases hj with rfl | rfl | rfl | rfl | rfl | rfl | rfl | rfl | rfl <;> rfl)
   refine ⟨lk [(18874368, 18874368), (17825792, 17825792), (0, 0), (1048576, 1048576), (2097152, 2097152), (8388608, 8388608), (9437184, 9437184), (10485760, 10485760), (11534336, 11534336), (7, 7)], ?_⟩
   simp [hW2, hC, rKS]
theorem rd_91 (f : Nat -> V) (hF : RdF f) (i : Nat) (l r : By) (st : Rst) (hl : l.length <= 1000000) (_ : i <= 1000000) (h : ¬ st.n < i) (ho : openS (chopS l) = none) : panY f l r i (rL f .ready r st.s st.es st.n st.c (lastE st.es) i) 91 := by
 obtain ⟨hf, f2, f5, f6, f7, f8⟩ := hF
 have hlt : ∀ es, ∀ j ∈ rKS ++ rXS es, j < 19922944 := by
   intro es j hj
   simp only [rKS, rXS, List.mem_append, List.mem_cons, List.not_mem_nil, or_false] at hj
   split at hj <;> simp at hj <;> omega
 have hW : ∀ z (ρ : Nat -> Option Nat), (∀ j ∈ rKS, ρ j = some j) -> WC ρ (.lr f 122 [23, 24] p11l0 p11l1 z) (.lr f 122 [23, 24] p11l0 p11l1 z) := fun z ρ hρ => ⟨rfl, fun t => AV.mono (fun j hj => hρ j hj) (fun _ h => h) (hf t)⟩
 have hC : ∀ z, cellsOk [.lr f 122 [23, 24] p11l0 p11l1 z] := fun z => Or.inr (.inl ⟨_, _, _, _, _, _, rfl⟩)
 have co := fn40 l (by omega)
 have ch := fn41 l 10 (by omega)
 change Ct prog _ _ (vb (fedS l)) _ at ch
 have hn : (i : Int) <= st.n := by omega
 have c0 := need_ok i 93
 have cn := need_no i 91
 rw [ho] at co
 refine ⟨st.s, st.es, st.n, st.c, lastE st.es, Ym.ofPX (k := 18874368) (fr := f) (nt := 122) (ps := [23, 24]) (pa := p11l0) (pb := p11l1) (args := [vi i, vS l]) gok eok mixed (fn := f11) func11 rfl 19922944 (rKeep f .ready r _ _ _ _ _ _ hf) (rKeep f .busy r _ _ _ _ _ _ hf) (hlt _) (by simp [rKS]) (by simp [rL]) (by simp) (by simp) (by simp) ⟨fun E hE hs => ?_⟩⟩
 by_cases he : st.es = []
 . simp only [hdZ, bkZ, he, if_true, rL]
   generalize V.lr f 122 [23, 24] p11l0 p11l1 = rc at hW hC ⊢
   simp [p11l0, frPuts]
   simp [p11l1, f5, hn]
   refine CLa c0 ?_
   simp
   refine CLa co ?_
   simp
   refine CRs cn (by simp) ?_
   simp [panQ_pan]
   have hW2 := hW .busy (lk [(18874368, 18874368), (17825792, 17825792), (0, 0), (1048576, 1048576), (2097152, 2097152), (8388608, 8388608), (9437184, 9437184), (10485760, 10485760), (11534336, 11534336), (7, 7)]) (by intro j hj; simp only [rKS, List.mem_cons, List.not_mem_nil, or_false] at hj; rcases hj with rfl | rfl | rfl | rfl | rfl | rfl | rfl | rfl | rfl <;> rfl)
   refine ⟨lk [(18874368, 18874368), (17825792, 17825792), (0, 0), (1048576, 1048576), (2097152, 2097152), (8388608, 8388608), (9437184, 9437184), (10485760, 10485760), (11534336, 11534336), (7, 7)], ?_⟩
   simp [hW2, hC, rKS]
 . simp only [hdZ, bkZ, he, if_false, rL]
   generalize V.lr f 122 [23, 24] p11l0 p11l1 = rc at hW hC ⊢
   simp [p11l0, frPuts]
   simp [p11l1, f5, hn]
   refine CLa c0 ?_
   simp
   refine CLa co ?_
   simp
   refine CRs cn (by simp) ?_
   simp [panQ_pan]
   have hW2 := hW .busy (lk [(18874368, 18874368), (17825792, 17825792), (0, 0), (1048576, 1048576), (2097152, 2097152), (8388608, 8388608), (9437184, 9437184), (10485760, 10485760), (11534336, 11534336), (7, 7)]) (by intro j hj; simp only [rKS, List.mem_cons, List.not_mem_nil, or_false] at hj; rcases hj with rfl | rfl | rfl | rfl | rfl | rfl | rfl | rfl | rfl <;> rfl)
   refine ⟨lk [(18874368, 18874368), (17825792, 17825792), (0, 0), (1048576, 1048576), (2097152, 2097152), (8388608, 8388608), (9437184, 9437184), (10485760, 10485760), (11534336, 11534336), (7, 7)], ?_⟩
   simp [hW2, hC, rKS]
theorem rd_91b (f : Nat -> V) (hF : RdF f) (i : Nat) (l r : By) (st : Rst) (hl : l.length <= 1000000) (_ : i <= 1000000) (h : ¬ st.n < i) (q : By × Int) (ho : openS (chopS l) = some q) (hfd : fedS l = false) : panY f l r i (rL f .ready r st.s st.es st.n st.c (lastE st.es) i) 91 := by
 obtain ⟨hf, f2, f5, f6, f7, f8⟩ := hF
 have hlt : ∀ es, ∀ j ∈ rKS ++ rXS es, j < 19922944 := by
   intro es j hj
   simp only [rKS, rXS, List.mem_append, List.mem_cons, List.not_mem_nil, or_false] at hj
   split at hj <;> simp at hj <;> omega
 have hW : ∀ z (ρ : Nat -> Option Nat), (∀ j ∈ rKS, ρ j = some j) -> WC ρ (.lr f 122 [23, 24] p11l0 p11l1 z) (.lr f 122 [23, 24] p11l0 p11l1 z) := fun z ρ hρ => ⟨rfl, fun t => AV.mono (fun j hj => hρ j hj) (fun _ h => h) (hf t)⟩
 have hC : ∀ z, cellsOk [.lr f 122 [23, 24] p11l0 p11l1 z] := fun z => Or.inr (.inl ⟨_, _, _, _, _, _, rfl⟩)
 have co := fn40 l (by omega)
 have ch := fn41 l 10 (by omega)
 change Ct prog _ _ (vb (fedS l)) _ at ch
 have hn : (i : Int) <= st.n := by omega
 have c0 := need_ok i 93
 have cn := need_no i 91
 rw [ho] at co
 rw [hfd] at ch
 refine ⟨st.s, st.es, st.n, st.c, lastE st.es, Ym.ofPX (k := 18874368) (fr := f) (nt := 122) (ps := [23, 24]) (pa := p11l0) (pb := p11l1) (args := [vi i, vS l]) gok eok mixed (fn := f11) func11 rfl 19922944 (rKeep f .ready r _ _ _ _ _ _ hf) (rKeep f .busy r _ _ _ _ _ _ hf) (hlt _) (by simp [rKS]) (by simp [rL]) (by simp) (by simp) (by simp) ⟨fun E hE hs => ?_⟩⟩
 by_cases he : st.es = []
 . simp only [hdZ, bkZ, he, if_true, rL]
   generalize V.lr f 122 [23, 24] p11l0 p11l1 = rc at hW hC ⊢
   simp [p11l0, frPuts]
   simp [p11l1, f5, hn]
   refine CLa c0 ?_
   simp
   refine CLa co ?_
   simp
   refine CLa ch ?_
   simp
   refine CRs cn (by simp) ?_
   simp [panQ_pan]
   have hW2 := hW .busy (lk [(18874368, 18874368), (17825792, 17825792), (0, 0), (1048576, 1048576), (2097152, 2097152), (8388608, 8388608), (9437184, 9437184), (10485760, 10485760), (11534336, 11534336), (7, 7)]) (by intro j hj; simp only [rKS, List.mem_cons, List.not_mem_nil, or_false] at hj; rcases hj with rfl | rfl | rfl | rfl | rfl | rfl | rfl | rfl | rfl <;> rfl)
   refine ⟨lk [(18874368, 18874368), (17825792, 17825792), (0, 0), (1048576, 1048576), (2097152, 2097152), (8388608, 8388608), (9437184, 9437184), (10485760, 10485760), (11534336, 11534336), (7, 7)], ?_⟩
   simp [hW2, hC, rKS]
 . simp only [hdZ, bkZ, he, if_false, rL]
   generalize V.lr f 122 [23, 24] p11l0 p11l1 = rc at hW hC ⊢
   simp [p11l0, frPuts]
   simp [p11l1, f5, hn]
   refine CLa c0 ?_
   simp
   refine CLa co ?_
   simp
   refine CLa ch ?_
   simp
   refine CRs cn (by simp) ?_
   simp [panQ_pan]
   have hW2 := hW .busy (lk [(18874368, 18874368), (17825792, 17825792), (0, 0), (1048576, 1048576), (2097152, 2097152), (8388608, 8388608), (9437184, 9437184), (10485760, 10485760), (11534336, 11534336), (7, 7)]) (by intro j hj; simp only [rKS, List.mem_cons, List.not_mem_nil, or_false] at hj; rcases hj with rfl | rfl | rfl | rfl | rfl | rfl | rfl | rfl | rfl <;> rfl)
   refine ⟨lk [(18874368, 18874368), (17825792, 17825792), (0, 0), (1048576, 1048576), (2097152, 2097152), (8388608, 8388608), (9437184, 9437184), (10485760, 10485760), (11534336, 11534336), (7, 7)], ?_⟩
   simp [hW2, hC, rKS]
theorem rd0_len (f : Nat -> V) (hF : RdF f) (i : Nat) (l r b : By) (c : Int) (hl : l.length <= 1000000) (h0i : i = 0) (ho : openS (chopS l) = some (b, c)) (hfd : fedS l = true) (h3 : ¬ (splP b).length = 3) : panY f l r i (rL f .ready r rd0.s rd0.es rd0.n rd0.c (lastE rd0.es) i) 91 := by
 obtain ⟨hf, f2, f5, f6, f7, f8⟩ := hF
 have hlt : ∀ es, ∀ j ∈ rKS ++ rXS es, j < 19922944 := by
   intro es j hj
   simp only [rKS, rXS, List.mem_append, List.mem_cons, List.not_mem_nil, or_false] at hj
   split at hj <;> simp at hj <;> omega
 have hW : ∀ z (ρ : Nat -> Option Nat), (∀ j ∈ rKS, ρ j = some j) -> WC ρ (.lr f 122 [23, 24] p11l0 p11l1 z) (.lr f 122 [23, 24] p11l0 p11l1 z) := fun z ρ hρ => ⟨rfl, fun t => AV.mono (fun j hj => hρ j hj) (fun _ h => h) (hf t)⟩
 have hC : ∀ z, cellsOk [.lr f 122 [23, 24] p11l0 p11l1 z] := fun z => Or.inr (.inl ⟨_, _, _, _, _, _, rfl⟩)
 have co := fn40 l (by omega)
 have ch := fn41 l 10 (by omega)
 change Ct prog _ _ (vb (fedS l)) _ at ch
 have hn : (i : Int) <= rd0.n := by subst h0i; decide
 have h0t : (i = 0) = True := eq_true h0i
 have c0 := need_ok i 93
 have c1 := need_ok i 91
 have cn := need_no i 91
 rw [ho] at co
 rw [hfd] at ch
 have hbl := openS_bd ho
 have hcl := chop_len l
 have csp := split_fz b (by omega)
 have h3I : ¬ (((splP b).length : Int) = 3) := by omega
 generalize splP b = P at *
 refine ⟨rd0.s, rd0.es, rd0.n, rd0.c, lastE rd0.es, ?_⟩
 refine Ym.ofPX (k := 18874368) (fr := f) (nt := 122) (ps := [23, 24]) (pa := p11l0) (pb := p11l1) (args := [vi i, vS l]) gok eok mixed (fn := f11) func11 rfl 19922944 (rKeep f .ready r _ _ _ _ _ _ hf) (rKeep f .busy r _ _ _ _ _ _ hf) (hlt _) (by simp [rKS]) (by simp [rL]) (by simp) (by simp) (by simp) ⟨fun E hE hs => ?_⟩
 have he : rd0.es = [] := rfl
 simp only [hdZ, bkZ, he, if_true, rL]
 generalize V.lr f 122 [23, 24] p11l0 p11l1 = rc at hW hC ⊢
 simp [p11l0, frPuts]
 simp [p11l1, f5, hn]
 refine CLa c0 ?_
 simp
 refine CLa co ?_
 simp
 refine CLa ch ?_
 simp
 refine CLa c1 ?_
 simp [h0t]
 refine CLa csp ?_
 simp [h3I]
 refine CRs cn (by simp) ?_
 simp [panQ_pan]
 have hW2 := hW .busy (lk [(18874368, 18874368), (17825792, 17825792), (0, 0), (1048576, 1048576), (2097152, 2097152), (8388608, 8388608), (9437184, 9437184), (10485760, 10485760), (11534336, 11534336), (7, 7)]) (by intro j hj; simp only [rKS, List.mem_cons, List.not_mem_nil, or_false] at hj; rcases hj with rfl | rfl | rfl | rfl | rfl | rfl | rfl | rfl | rfl <;> rfl)
 refine ⟨lk [(18874368, 18874368), (17825792, 17825792), (0, 0), (1048576, 1048576), (2097152, 2097152), (8388608, 8388608), (9437184, 9437184), (10485760, 10485760), (11534336, 11534336), (7, 7)], ?_⟩
 simp [hW2, hC, rKS]
theorem rd0_ship (f : Nat -> V) (hF : RdF f) (i : Nat) (l r b g0 g1 g2 : By) (c : Int) (hl : l.length <= 1000000) (h0i : i = 0) (ho : openS (chopS l) = some (b, c)) (hfd : fedS l = true) (h3 : splP b = [g0, g1, g2]) (h4 : shipS g1 = false) : panY f l r i (rL f .ready r rd0.s rd0.es rd0.n rd0.c (lastE rd0.es) i) 91 := by
 obtain ⟨hf, f2, f5, f6, f7, f8⟩ := hF
 have hlt : ∀ es, ∀ j ∈ rKS ++ rXS es, j < 19922944 := by
   intro es j hj
   simp only [rKS, rXS, List.mem_append, List.mem_cons, List.not_mem_nil, or_false] at hj
   split at hj <;> simp at hj <;> omega
 have hW : ∀ z (ρ : Nat -> Option Nat), (∀ j ∈ rKS, ρ j = some j) -> WC ρ (.lr f 122 [23, 24] p11l0 p11l1 z) (.lr f 122 [23, 24] p11l0 p11l1 z) := fun z ρ hρ => ⟨rfl, fun t => AV.mono (fun j hj => hρ j hj) (fun _ h => h) (hf t)⟩
 have hC : ∀ z, cellsOk [.lr f 122 [23, 24] p11l0 p11l1 z] := fun z => Or.inr (.inl ⟨_, _, _, _, _, _, rfl⟩)
 have co := fn40 l (by omega)
 have ch := fn41 l 10 (by omega)
 change Ct prog _ _ (vb (fedS l)) _ at ch
 have hn : (i : Int) <= rd0.n := by subst h0i; decide
 have h0t : (i = 0) = True := eq_true h0i
 have c0 := need_ok i 93
 have c1 := need_ok i 91
 have cn := need_no i 91
 rw [ho] at co
 rw [hfd] at ch
 have hbl := openS_bd ho
 have hcl := chop_len l
 have csp := split_fz b (by omega)
 rw [h3] at csp
 have hpm : ∀ x ∈ splP b, x.length <= 1000000 := fun x hx => by have := splC_mem hx; omega
 rw [h3] at hpm
 have cnm := fn43 g2 (by have := hpm g2 (by simp); omega)
 change Ct prog _ _ (vi (numP g2)) _ at cnm
 have csh := fn44 g1 (hpm g1 (by simp))
 generalize numP g2 = n' at *
 rw [h4] at csh
 refine ⟨g1, rd0.es, n', rd0.c, lastE rd0.es, ?_⟩
 refine Ym.ofPX (k := 18874368) (fr := f) (nt := 122) (ps := [23, 24]) (pa := p11l0) (pb := p11l1) (args := [vi i, vS l]) gok eok mixed (fn := f11) func11 rfl 19922944 (rKeep f .ready r _ _ _ _ _ _ hf) (rKeep f .busy r _ _ _ _ _ _ hf) (hlt _) (by simp [rKS]) (by simp [rL]) (by simp) (by simp) (by simp) ⟨fun E hE hs => ?_⟩
 have he : rd0.es = [] := rfl
 simp only [hdZ, bkZ, he, if_true, rL]
 generalize V.lr f 122 [23, 24] p11l0 p11l1 = rc at hW hC ⊢
 simp [p11l0, frPuts]
 simp [p11l1, f5, hn]
 refine CLa c0 ?_
 simp
 refine CLa co ?_
 simp
 refine CLa ch ?_
 simp
 refine CLa c1 ?_
 simp [h0t]
 refine CLa csp ?_
 simp
 refine CLa c1 ?_
 simp [inC, Nat.testBit]
 refine CLa cnm ?_
 simp [f2, f5, splice]
 refine CLa csh ?_
 simp
 refine CRs cn (by simp) ?_
 simp [panQ_pan]
 have hW2 := hW .busy (lk [(18874368, 18874368), (17825792, 17825792), (0, 0), (1048576, 1048576), (2097152, 2097152), (8388608, 8388608), (9437184, 9437184), (10485760, 10485760), (11534336, 11534336), (7, 7)]) (by intro j hj; simp only [rKS, List.mem_cons, List.not_mem_nil, or_false] at hj; rcases hj with rfl | rfl | rfl | rfl | rfl | rfl | rfl | rfl | rfl <;> rfl)
 refine ⟨lk [(18874368, 18874368), (17825792, 17825792), (0, 0), (1048576, 1048576), (2097152, 2097152), (8388608, 8388608), (9437184, 9437184), (10485760, 10485760), (11534336, 11534336), (7, 7)], ?_⟩
 simp [hW2, hC, rKS]
theorem rd0_betw (f : Nat -> V) (hF : RdF f) (i : Nat) (l r b g0 g1 g2 : By) (c : Int) (hl : l.length <= 1000000) (h0i : i = 0) (ho : openS (chopS l) = some (b, c)) (hfd : fedS l = true) (h3 : splP b = [g0, g1, g2]) (h4 : shipS g1 = true) (h5 : betw (numP g2) 0 200 = false) : panY f l r i (rL f .ready r rd0.s rd0.es rd0.n rd0.c (lastE rd0.es) i) 91 := by
 obtain ⟨hf, f2, f5, f6, f7, f8⟩ := hF
 have hlt : ∀ es, ∀ j ∈ rKS ++ rXS es, j < 19922944 := by
   intro es j hj
   simp only [rKS, rXS, List.mem_append, List.mem_cons, List.not_mem_nil, or_false] at hj
   split at hj <;> simp at hj <;> omega
 have hW : ∀ z (ρ : Nat -> Option Nat), (∀ j ∈ rKS, ρ j = some j) -> WC ρ (.lr f 122 [23, 24] p11l0 p11l1 z) (.lr f 122 [23, 24] p11l0 p11l1 z) := fun z ρ hρ => ⟨rfl, fun t => AV.mono (fun j hj => hρ j hj) (fun _ h => h) (hf t)⟩
 have hC : ∀ z, cellsOk [.lr f 122 [23, 24] p11l0 p11l1 z] := fun z => Or.inr (.inl ⟨_, _, _, _, _, _, rfl⟩)
 have co := fn40 l (by omega)
 have ch := fn41 l 10 (by omega)
 change Ct prog _ _ (vb (fedS l)) _ at ch
 have hn : (i : Int) <= rd0.n := by subst h0i; decide
 have h0t : (i = 0) = True := eq_true h0i
 have c0 := need_ok i 93
 have c1 := need_ok i 91
 have cn := need_no i 91
 rw [ho] at co
 rw [hfd] at ch
 have hbl := openS_bd ho
 have hcl := chop_len l
 have csp := split_fz b (by omega)
 rw [h3] at csp
 have hpm : ∀ x ∈ splP b, x.length <= 1000000 := fun x hx => by have := splC_mem hx; omega
 rw [h3] at hpm
 have cnm := fn43 g2 (by have := hpm g2 (by simp); omega)
 change Ct prog _ _ (vi (numP g2)) _ at cnm
 have csh := fn44 g1 (hpm g1 (by simp))
 generalize numP g2 = n' at *
 rw [h4] at csh
 have cwi := fn45 n' 0 200
 rw [h5] at cwi
 refine ⟨g1, rd0.es, n', rd0.c, lastE rd0.es, ?_⟩
 refine Ym.ofPX (k := 18874368) (fr := f) (nt := 122) (ps := [23, 24]) (pa := p11l0) (pb := p11l1) (args := [vi i, vS l]) gok eok mixed (fn := f11) func11 rfl 19922944 (rKeep f .ready r _ _ _ _ _ _ hf) (rKeep f .busy r _ _ _ _ _ _ hf) (hlt _) (by simp [rKS]) (by simp [rL]) (by simp) (by simp) (by simp) ⟨fun E hE hs => ?_⟩
 have he : rd0.es = [] := rfl
 simp only [hdZ, bkZ, he, if_true, rL]
 generalize V.lr f 122 [23, 24] p11l0 p11l1 = rc at hW hC ⊢
 simp [p11l0, frPuts]
 simp [p11l1, f5, hn]
 refine CLa c0 ?_
 simp
 refine CLa co ?_
 simp
 refine CLa ch ?_
 simp
 refine CLa c1 ?_
 simp [h0t]
 refine CLa csp ?_
 simp
 refine CLa c1 ?_
 simp [inC, Nat.testBit]
 refine CLa cnm ?_
 simp [f2, f5, splice]
 refine CLa csh ?_
 simp [f5]
 refine CLa cwi ?_
 simp
 refine CRs cn (by simp) ?_
 simp [panQ_pan]
 have hW2 := hW .busy (lk [(18874368, 18874368), (17825792, 17825792), (0, 0), (1048576, 1048576), (2097152, 2097152), (8388608, 8388608), (9437184, 9437184), (10485760, 10485760), (11534336, 11534336), (7, 7)]) (by intro j hj; simp only [rKS, List.mem_cons, List.not_mem_nil, or_false] at hj; rcases hj with rfl | rfl | rfl | rfl | rfl | rfl | rfl | rfl | rfl <;> rfl)
 refine ⟨lk [(18874368, 18874368), (17825792, 17825792), (0, 0), (1048576, 1048576), (2097152, 2097152), (8388608, 8388608), (9437184, 9437184), (10485760, 10485760), (11534336, 11534336), (7, 7)], ?_⟩
 simp [hW2, hC, rKS]
theorem rd0_head (f : Nat -> V) (hF : RdF f) (i : Nat) (l r b g0 g1 g2 : By) (c : Int) (hl : l.length <= 1000000) (h0i : i = 0) (ho : openS (chopS l) = some (b, c)) (hfd : fedS l = true) (h3 : splP b = [g0, g1, g2]) (h4 : shipS g1 = true) (h5 : betw (numP g2) 0 200 = true) (h6 : ¬ headS g1 (numP g2) = b) : panY f l r i (rL f .ready r rd0.s rd0.es rd0.n rd0.c (lastE rd0.es) i) 91 := by
 obtain ⟨hf, f2, f5, f6, f7, f8⟩ := hF
 have hlt : ∀ es, ∀ j ∈ rKS ++ rXS es, j < 19922944 := by
   intro es j hj
   simp only [rKS, rXS, List.mem_append, List.mem_cons, List.not_mem_nil, or_false] at hj
   split at hj <;> simp at hj <;> omega
 have hW : ∀ z (ρ : Nat -> Option Nat), (∀ j ∈ rKS, ρ j = some j) -> WC ρ (.lr f 122 [23, 24] p11l0 p11l1 z) (.lr f 122 [23, 24] p11l0 p11l1 z) := fun z ρ hρ => ⟨rfl, fun t => AV.mono (fun j hj => hρ j hj) (fun _ h => h) (hf t)⟩
 have hC : ∀ z, cellsOk [.lr f 122 [23, 24] p11l0 p11l1 z] := fun z => Or.inr (.inl ⟨_, _, _, _, _, _, rfl⟩)
 have co := fn40 l (by omega)
 have ch := fn41 l 10 (by omega)
 change Ct prog _ _ (vb (fedS l)) _ at ch
 have hn : (i : Int) <= rd0.n := by subst h0i; decide
 have h0t : (i = 0) = True := eq_true h0i
 have c0 := need_ok i 93
 have c1 := need_ok i 91
 have cn := need_no i 91
 rw [ho] at co
 rw [hfd] at ch
 have hbl := openS_bd ho
 have hcl := chop_len l
 have csp := split_fz b (by omega)
 rw [h3] at csp
 have hpm : ∀ x ∈ splP b, x.length <= 1000000 := fun x hx => by have := splC_mem hx; omega
 rw [h3] at hpm
 have cnm := fn43 g2 (by have := hpm g2 (by simp); omega)
 change Ct prog _ _ (vi (numP g2)) _ at cnm
 have csh := fn44 g1 (hpm g1 (by simp))
 generalize numP g2 = n' at *
 rw [h4] at csh
 have cwi := fn45 n' 0 200
 rw [h5] at cwi
 simp only [betw, Bool.and_eq_true, decide_eq_true_eq] at h5
 have chd := fn46 g1 n' (by have := ship_len h4; omega) (by omega) (by omega)
 refine ⟨g1, rd0.es, n', rd0.c, lastE rd0.es, ?_⟩
 refine Ym.ofPX (k := 18874368) (fr := f) (nt := 122) (ps := [23, 24]) (pa := p11l0) (pb := p11l1) (args := [vi i, vS l]) gok eok mixed (fn := f11) func11 rfl 19922944 (rKeep f .ready r _ _ _ _ _ _ hf) (rKeep f .busy r _ _ _ _ _ _ hf) (hlt _) (by simp [rKS]) (by simp [rL]) (by simp) (by simp) (by simp) ⟨fun E hE hs => ?_⟩
 have he : rd0.es = [] := rfl
 simp only [hdZ, bkZ, he, if_true, rL]
 generalize V.lr f 122 [23, 24] p11l0 p11l1 = rc at hW hC ⊢
 simp [p11l0, frPuts]
 simp [p11l1, f5, hn]
 refine CLa c0 ?_
 simp
 refine CLa co ?_
 simp
 refine CLa ch ?_
 simp
 refine CLa c1 ?_
 simp [h0t]
 refine CLa csp ?_
 simp
 refine CLa c1 ?_
 simp [inC, Nat.testBit]
 refine CLa cnm ?_
 simp [f2, f5, splice]
 refine CLa csh ?_
 simp [f5]
 refine CLa cwi ?_
 simp [f2, f5]
 refine CLa chd ?_
 simp [h6]
 refine CRs cn (by simp) ?_
 simp [panQ_pan]
 have hW2 := hW .busy (lk [(18874368, 18874368), (17825792, 17825792), (0, 0), (1048576, 1048576), (2097152, 2097152), (8388608, 8388608), (9437184, 9437184), (10485760, 10485760), (11534336, 11534336), (7, 7)]) (by intro j hj; simp only [rKS, List.mem_cons, List.not_mem_nil, or_false] at hj; rcases hj with rfl | rfl | rfl | rfl | rfl | rfl | rfl | rfl | rfl <;> rfl)
 refine ⟨lk [(18874368, 18874368), (17825792, 17825792), (0, 0), (1048576, 1048576), (2097152, 2097152), (8388608, 8388608), (9437184, 9437184), (10485760, 10485760), (11534336, 11534336), (7, 7)], ?_⟩
 simp [hW2, hC, rKS]
theorem rd0_chk (f : Nat -> V) (hF : RdF f) (i : Nat) (l r b g0 g1 g2 : By) (c : Int) (hl : l.length <= 1000000) (h0i : i = 0) (ho : openS (chopS l) = some (b, c)) (hfd : fedS l = true) (h3 : splP b = [g0, g1, g2]) (h4 : shipS g1 = true) (h5 : betw (numP g2) 0 200 = true) (h6 : headS g1 (numP g2) = b) (h7 : ¬ sumS b rd0.c = c) : panY f l r i (rL f .ready r rd0.s rd0.es rd0.n rd0.c (lastE rd0.es) i) 92 := by
 obtain ⟨hf, f2, f5, f6, f7, f8⟩ := hF
 have hlt : ∀ es, ∀ j ∈ rKS ++ rXS es, j < 19922944 := by
   intro es j hj
   simp only [rKS, rXS, List.mem_append, List.mem_cons, List.not_mem_nil, or_false] at hj
   split at hj <;> simp at hj <;> omega
 have hW : ∀ z (ρ : Nat -> Option Nat), (∀ j ∈ rKS, ρ j = some j) -> WC ρ (.lr f 122 [23, 24] p11l0 p11l1 z) (.lr f 122 [23, 24] p11l0 p11l1 z) := fun z ρ hρ => ⟨rfl, fun t => AV.mono (fun j hj => hρ j hj) (fun _ h => h) (hf t)⟩
 have hC : ∀ z, cellsOk [.lr f 122 [23, 24] p11l0 p11l1 z] := fun z => Or.inr (.inl ⟨_, _, _, _, _, _, rfl⟩)
 have co := fn40 l (by omega)
 have ch := fn41 l 10 (by omega)
 change Ct prog _ _ (vb (fedS l)) _ at ch
 have hn : (i : Int) <= rd0.n := by subst h0i; decide
 have h0t : (i = 0) = True := eq_true h0i
 have c0 := need_ok i 93
 have c1 := need_ok i 91
 have cn := need_no i 91
 rw [ho] at co
 rw [hfd] at ch
 have hbl := openS_bd ho
 have hcl := chop_len l
 have csp := split_fz b (by omega)
 rw [h3] at csp
 have hpm : ∀ x ∈ splP b, x.length <= 1000000 := fun x hx => by have := splC_mem hx; omega
 rw [h3] at hpm
 have cnm := fn43 g2 (by have := hpm g2 (by simp); omega)
 change Ct prog _ _ (vi (numP g2)) _ at cnm
 have csh := fn44 g1 (hpm g1 (by simp))
 generalize numP g2 = n' at *
 rw [h4] at csh
 have cwi := fn45 n' 0 200
 rw [h5] at cwi
 simp only [betw, Bool.and_eq_true, decide_eq_true_eq] at h5
 have chd := fn46 g1 n' (by have := ship_len h4; omega) (by omega) (by omega)
 have cs := fn50 b rd0.c (by decide) (by decide) (by omega)
 have cn2 := need_no i 92
 refine ⟨g1, rd0.es, n', sumS b rd0.c, lastE rd0.es, ?_⟩
 refine Ym.ofPX (k := 18874368) (fr := f) (nt := 122) (ps := [23, 24]) (pa := p11l0) (pb := p11l1) (args := [vi i, vS l]) gok eok mixed (fn := f11) func11 rfl 19922944 (rKeep f .ready r _ _ _ _ _ _ hf) (rKeep f .busy r _ _ _ _ _ _ hf) (hlt _) (by simp [rKS]) (by simp [rL]) (by simp) (by simp) (by simp) ⟨fun E hE hs => ?_⟩
 have he : rd0.es = [] := rfl
 simp only [hdZ, bkZ, he, if_true, rL]
 generalize V.lr f 122 [23, 24] p11l0 p11l1 = rc at hW hC ⊢
 simp [p11l0, frPuts]
 simp [p11l1, f5, hn]
 refine CLa c0 ?_
 simp
 refine CLa co ?_
 simp
 refine CLa ch ?_
 simp
 refine CLa c1 ?_
 simp [h0t]
 refine CLa csp ?_
 simp
 refine CLa c1 ?_
 simp [inC, Nat.testBit]
 refine CLa cnm ?_
 simp [f2, f5, splice]
 refine CLa csh ?_
 simp [f5]
 refine CLa cwi ?_
 simp [f2, f5]
 refine CLa chd ?_
 simp [h6]
 refine CLa c1 ?_
 simp [f6]
 refine CLa cs ?_
 simp [f6, splice, h7]
 refine CRs cn2 (by simp) ?_
 simp [panQ_pan]
 have hW2 := hW .busy (lk [(18874368, 18874368), (17825792, 17825792), (0, 0), (1048576, 1048576), (2097152, 2097152), (8388608, 8388608), (9437184, 9437184), (10485760, 10485760), (11534336, 11534336), (7, 7)]) (by intro j hj; simp only [rKS, List.mem_cons, List.not_mem_nil, or_false] at hj; rcases hj with rfl | rfl | rfl | rfl | rfl | rfl | rfl | rfl | rfl <;> rfl)
 refine ⟨lk [(18874368, 18874368), (17825792, 17825792), (0, 0), (1048576, 1048576), (2097152, 2097152), (8388608, 8388608), (9437184, 9437184), (10485760, 10485760), (11534336, 11534336), (7, 7)], ?_⟩
 simp [hW2, hC, rKS]
theorem rd0_yes (f : Nat -> V) (hF : RdF f) (i : Nat) (l r b g0 g1 g2 : By) (c : Int) (hl : l.length <= 1000000) (h0i : i = 0) (ho : openS (chopS l) = some (b, c)) (hfd : fedS l = true) (h3 : splP b = [g0, g1, g2]) (h4 : shipS g1 = true) (h5 : betw (numP g2) 0 200 = true) (h6 : headS g1 (numP g2) = b) (h7 : sumS b rd0.c = c) : Ym prog 18874368 [vi i, vS l] (lk (rL f .ready r rd0.s rd0.es rd0.n rd0.c (lastE rd0.es) i)) rKS (.ret (vb true)) (lk (rL f .ready r g1 rd0.es (numP g2) (sumS b rd0.c) (lastE rd0.es) (i + 1 : Nat))) := by
 obtain ⟨hf, f2, f5, f6, f7, f8⟩ := hF
 have hlt : ∀ es, ∀ j ∈ rKS ++ rXS es, j < 19922944 := by
   intro es j hj
   simp only [rKS, rXS, List.mem_append, List.mem_cons, List.not_mem_nil, or_false] at hj
   split at hj <;> simp at hj <;> omega
 have hW : ∀ z (ρ : Nat -> Option Nat), (∀ j ∈ rKS, ρ j = some j) -> WC ρ (.lr f 122 [23, 24] p11l0 p11l1 z) (.lr f 122 [23, 24] p11l0 p11l1 z) := fun z ρ hρ => ⟨rfl, fun t => AV.mono (fun j hj => hρ j hj) (fun _ h => h) (hf t)⟩
 have hC : ∀ z, cellsOk [.lr f 122 [23, 24] p11l0 p11l1 z] := fun z => Or.inr (.inl ⟨_, _, _, _, _, _, rfl⟩)
 have co := fn40 l (by omega)
 have ch := fn41 l 10 (by omega)
 change Ct prog _ _ (vb (fedS l)) _ at ch
 have hn : (i : Int) <= rd0.n := by subst h0i; decide
 have h0t : (i = 0) = True := eq_true h0i
 have c0 := need_ok i 93
 have c1 := need_ok i 91
 have cn := need_no i 91
 rw [ho] at co
 rw [hfd] at ch
 have hbl := openS_bd ho
 have hcl := chop_len l
 have csp := split_fz b (by omega)
 rw [h3] at csp
 have hpm : ∀ x ∈ splP b, x.length <= 1000000 := fun x hx => by have := splC_mem hx; omega
 rw [h3] at hpm
 have cnm := fn43 g2 (by have := hpm g2 (by simp); omega)
 change Ct prog _ _ (vi (numP g2)) _ at cnm
 have csh := fn44 g1 (hpm g1 (by simp))
 generalize numP g2 = n' at *
 rw [h4] at csh
 have cwi := fn45 n' 0 200
 rw [h5] at cwi
 simp only [betw, Bool.and_eq_true, decide_eq_true_eq] at h5
 have chd := fn46 g1 n' (by have := ship_len h4; omega) (by omega) (by omega)
 have cs := fn50 b rd0.c (by decide) (by decide) (by omega)
 have c2 := need_ok i 92
 have hz := @wz i (by omega)
 refine Ym.ofX (k := 18874368) (fr := f) (nt := 122) (ps := [23, 24]) (pa := p11l0) (pb := p11l1) (args := [vi i, vS l]) (s := .ready) gok eok mixed 19922944 (rKeep f .ready r _ _ _ _ _ _ hf) (rKeep f .ready r _ _ _ _ _ _ hf) (hlt _) (by simp [rKS]) (by simp [rL]) (by simp) (by simp) (by simp) ⟨fun E hE hs => ?_⟩
 have he : rd0.es = [] := rfl
 simp only [hdZ, bkZ, he, if_true, rL]
 generalize V.lr f 122 [23, 24] p11l0 p11l1 = rc at hW hC ⊢
 simp [p11l0, frPuts]
 simp [p11l1, f5, hn]
 refine CLa c0 ?_
 simp
 refine CLa co ?_
 simp
 refine CLa ch ?_
 simp
 refine CLa c1 ?_
 simp [h0t]
 refine CLa csp ?_
 simp
 refine CLa c1 ?_
 simp [inC, Nat.testBit]
 refine CLa cnm ?_
 simp [f2, f5, splice]
 refine CLa csh ?_
 simp [f5]
 refine CLa cwi ?_
 simp [f2, f5]
 refine CLa chd ?_
 simp [h6]
 refine CLa c1 ?_
 simp [f6]
 refine CLa cs ?_
 simp [f6, splice, h7]
 refine CLa c2 ?_
 simp [f8, splice, hz]
 have hW2 := hW .ready (lk [(18874368, 18874368), (17825792, 17825792), (0, 0), (1048576, 1048576), (2097152, 2097152), (8388608, 8388608), (9437184, 9437184), (10485760, 10485760), (11534336, 11534336), (7, 7)]) (by intro j hj; simp only [rKS, List.mem_cons, List.not_mem_nil, or_false] at hj; rcases hj with rfl | rfl | rfl | rfl | rfl | rfl | rfl | rfl | rfl <;> rfl)
 refine ⟨trivial, by simp, lk [(18874368, 18874368), (17825792, 17825792), (0, 0), (1048576, 1048576), (2097152, 2097152), (8388608, 8388608), (9437184, 9437184), (10485760, 10485760), (11534336, 11534336), (7, 7)], ?_⟩
 simp [hW2, hC, rKS]
theorem entP_bd {b : By} (h : b.length <= 900000) : (entP b).w.length <= 1000000 /\ (entP b).a.length <= 1000000 /\ (entP b).n.length <= 1000000 := by
 have h1 := cut_len b [32, 59, 32]
 have hf : (frontP b).length <= b.length := h1.1
 have ht : (tailP b).length <= b.length := h1.2
 have h2 := splC_len 32 (frontP b)
 refine ⟨?_, ?_, ?_⟩
 . show ((splP (frontP b))[1]?.getD []).length <= _
   cases hx : (splP (frontP b))[1]? with
   | none => simp
   | some x =>
     have := splC_mem (List.mem_of_getElem? hx)
     simp only [Option.getD_some]
     omega
 . show (((splP (frontP b)).drop 2).map numP).length <= _
   have h3 : (splP (frontP b)).length <= (frontP b).length + 1 := h2.2
   simp only [List.length_map, List.length_drop]
   omega
 . show (tailP b).length <= _
   omega
theorem rds_valid (f : Nat -> V) (hF : RdF f) (i : Nat) (l r b : By) (c : Int) (st : Rst) (hl : l.length <= 800000) (_ : i <= 1000000) (h : ¬ st.n < i) (h0i : ¬ i = 0) (ho : openS (chopS l) = some (b, c)) (hfd : fedS l = true) (h4 : entS (entP b) = false) : panY f l r i (rL f .ready r st.s st.es st.n st.c (lastE st.es) i) 91 := by
 obtain ⟨hf, f2, f5, f6, f7, f8⟩ := hF
 have hlt : ∀ es, ∀ j ∈ rKS ++ rXS es, j < 19922944 := by
   intro es j hj
   simp only [rKS, rXS, List.mem_append, List.mem_cons, List.not_mem_nil, or_false] at hj
   split at hj <;> simp at hj <;> omega
 have hW : ∀ z (ρ : Nat -> Option Nat), (∀ j ∈ rKS, ρ j = some j) -> WC ρ (.lr f 122 [23, 24] p11l0 p11l1 z) (.lr f 122 [23, 24] p11l0 p11l1 z) := fun z ρ hρ => ⟨rfl, fun t => AV.mono (fun j hj => hρ j hj) (fun _ h => h) (hf t)⟩
 have hC : ∀ z, cellsOk [.lr f 122 [23, 24] p11l0 p11l1 z] := fun z => Or.inr (.inl ⟨_, _, _, _, _, _, rfl⟩)
 have co := fn40 l (by omega)
 have ch := fn41 l 10 (by omega)
 change Ct prog _ _ (vb (fedS l)) _ at ch
 have hn : (i : Int) <= st.n := by omega
 have h0f : (i = 0) = False := eq_false h0i
 have c0 := need_ok i 93
 have c1 := need_ok i 91
 have cn := need_no i 91
 rw [ho] at co
 rw [hfd] at ch
 have hbl := openS_bd ho
 have hcl := chop_len l
 have cen := fn47 b (by omega)
 rw [entR_eq] at cen
 have hbd := entP_bd (b := b) (by omega)
 have cva := fn48 (entP b) hbd.1 hbd.2.1 hbd.2.2
 generalize entP b = x at *
 rw [h4] at cva
 refine ⟨st.s, st.es, st.n, st.c, lastE st.es, ?_⟩
 refine Ym.ofPX (k := 18874368) (fr := f) (nt := 122) (ps := [23, 24]) (pa := p11l0) (pb := p11l1) (args := [vi i, vS l]) gok eok mixed (fn := f11) func11 rfl 19922944 (rKeep f .ready r _ _ _ _ _ _ hf) (rKeep f .busy r _ _ _ _ _ _ hf) (hlt _) (by simp [rKS]) (by simp [rL]) (by simp) (by simp) (by simp) ⟨fun E hE hs => ?_⟩
 by_cases he : st.es = []
 . simp only [hdZ, bkZ, he, if_true, rL] at *
   generalize V.lr f 122 [23, 24] p11l0 p11l1 = rc at hW hC ⊢
   simp [p11l0, frPuts]
   simp [p11l1, f5, hn]
   refine CLa c0 ?_
   simp
   refine CLa co ?_
   simp
   refine CLa ch ?_
   simp
   refine CLa c1 ?_
   simp [h0f]
   refine CLa cen ?_
   simp [splice]
   refine CLa cva ?_
   simp
   refine CRs cn (by simp) ?_
   simp [panQ_pan]
   have hW2 := hW .busy (lk [(18874368, 18874368), (17825792, 17825792), (0, 0), (1048576, 1048576), (2097152, 2097152), (8388608, 8388608), (9437184, 9437184), (10485760, 10485760), (11534336, 11534336), (7, 7)]) (by intro j hj; simp only [rKS, List.mem_cons, List.not_mem_nil, or_false] at hj; rcases hj with rfl | rfl | rfl | rfl | rfl | rfl | rfl | rfl | rfl <;> rfl)
   refine ⟨lk [(18874368, 18874368), (17825792, 17825792), (0, 0), (1048576, 1048576), (2097152, 2097152), (8388608, 8388608), (9437184, 9437184), (10485760, 10485760), (11534336, 11534336), (7, 7)], ?_⟩
   simp [hW2, hC, rKS]
 . simp only [hdZ, bkZ, he, if_false, rL] at *
   generalize V.lr f 122 [23, 24] p11l0 p11l1 = rc at hW hC ⊢
   simp [p11l0, frPuts]
   simp [p11l1, f5, hn]
   refine CLa c0 ?_
   simp
   refine CLa co ?_
   simp
   refine CLa ch ?_
   simp
   refine CLa c1 ?_
   simp [h0f]
   refine CLa cen ?_
   simp [splice]
   refine CLa cva ?_
   simp
   refine CRs cn (by simp) ?_
   simp [panQ_pan]
   have hW2 := hW .busy (lk [(18874368, 18874368), (17825792, 17825792), (0, 0), (1048576, 1048576), (2097152, 2097152), (8388608, 8388608), (9437184, 9437184), (10485760, 10485760), (11534336, 11534336), (7, 7)]) (by intro j hj; simp only [rKS, List.mem_cons, List.not_mem_nil, or_false] at hj; rcases hj with rfl | rfl | rfl | rfl | rfl | rfl | rfl | rfl | rfl <;> rfl)
   refine ⟨lk [(18874368, 18874368), (17825792, 17825792), (0, 0), (1048576, 1048576), (2097152, 2097152), (8388608, 8388608), (9437184, 9437184), (10485760, 10485760), (11534336, 11534336), (7, 7)], ?_⟩
   simp [hW2, hC, rKS]
theorem rds_time (f : Nat -> V) (hF : RdF f) (i : Nat) (l r b : By) (c : Int) (st : Rst) (hl : l.length <= 800000) (_ : i <= 1000000) (h : ¬ st.n < i) (h0i : ¬ i = 0) (ho : openS (chopS l) = some (b, c)) (hfd : fedS l = true) (h4 : entS (entP b) = true) (h5 : ¬ lastE st.es <= (entP b).t) : panY f l r i (rL f .ready r st.s st.es st.n st.c (lastE st.es) i) 91 := by
 obtain ⟨hf, f2, f5, f6, f7, f8⟩ := hF
 have hlt : ∀ es, ∀ j ∈ rKS ++ rXS es, j < 19922944 := by
   intro es j hj
   simp only [rKS, rXS, List.mem_append, List.mem_cons, List.not_mem_nil, or_false] at hj
   split at hj <;> simp at hj <;> omega
 have hW : ∀ z (ρ : Nat -> Option Nat), (∀ j ∈ rKS, ρ j = some j) -> WC ρ (.lr f 122 [23, 24] p11l0 p11l1 z) (.lr f 122 [23, 24] p11l0 p11l1 z) := fun z ρ hρ => ⟨rfl, fun t => AV.mono (fun j hj => hρ j hj) (fun _ h => h) (hf t)⟩
 have hC : ∀ z, cellsOk [.lr f 122 [23, 24] p11l0 p11l1 z] := fun z => Or.inr (.inl ⟨_, _, _, _, _, _, rfl⟩)
 have co := fn40 l (by omega)
 have ch := fn41 l 10 (by omega)
 change Ct prog _ _ (vb (fedS l)) _ at ch
 have hn : (i : Int) <= st.n := by omega
 have h0f : (i = 0) = False := eq_false h0i
 have c0 := need_ok i 93
 have c1 := need_ok i 91
 have cn := need_no i 91
 rw [ho] at co
 rw [hfd] at ch
 have hbl := openS_bd ho
 have hcl := chop_len l
 have cen := fn47 b (by omega)
 rw [entR_eq] at cen
 have hbd := entP_bd (b := b) (by omega)
 have cva := fn48 (entP b) hbd.1 hbd.2.1 hbd.2.2
 generalize entP b = x at *
 rw [h4] at cva
 have ht := h5
 refine ⟨st.s, st.es, st.n, st.c, lastE st.es, ?_⟩
 refine Ym.ofPX (k := 18874368) (fr := f) (nt := 122) (ps := [23, 24]) (pa := p11l0) (pb := p11l1) (args := [vi i, vS l]) gok eok mixed (fn := f11) func11 rfl 19922944 (rKeep f .ready r _ _ _ _ _ _ hf) (rKeep f .busy r _ _ _ _ _ _ hf) (hlt _) (by simp [rKS]) (by simp [rL]) (by simp) (by simp) (by simp) ⟨fun E hE hs => ?_⟩
 by_cases he : st.es = []
 . simp only [hdZ, bkZ, he, if_true, rL] at *
   generalize V.lr f 122 [23, 24] p11l0 p11l1 = rc at hW hC ⊢
   simp [p11l0, frPuts]
   simp [p11l1, f5, hn]
   refine CLa c0 ?_
   simp
   refine CLa co ?_
   simp
   refine CLa ch ?_
   simp
   refine CLa c1 ?_
   simp [h0f]
   refine CLa cen ?_
   simp [splice]
   refine CLa cva ?_
   simp [f7, ht]
   refine CRs cn (by simp) ?_
   simp [panQ_pan]
   have hW2 := hW .busy (lk [(18874368, 18874368), (17825792, 17825792), (0, 0), (1048576, 1048576), (2097152, 2097152), (8388608, 8388608), (9437184, 9437184), (10485760, 10485760), (11534336, 11534336), (7, 7)]) (by intro j hj; simp only [rKS, List.mem_cons, List.not_mem_nil, or_false] at hj; rcases hj with rfl | rfl | rfl | rfl | rfl | rfl | rfl | rfl | rfl <;> rfl)
   refine ⟨lk [(18874368, 18874368), (17825792, 17825792), (0, 0), (1048576, 1048576), (2097152, 2097152), (8388608, 8388608), (9437184, 9437184), (10485760, 10485760), (11534336, 11534336), (7, 7)], ?_⟩
   simp [hW2, hC, rKS]
 . simp only [hdZ, bkZ, he, if_false, rL] at *
   generalize V.lr f 122 [23, 24] p11l0 p11l1 = rc at hW hC ⊢
   simp [p11l0, frPuts]
   simp [p11l1, f5, hn]
   refine CLa c0 ?_
   simp
   refine CLa co ?_
   simp
   refine CLa ch ?_
   simp
   refine CLa c1 ?_
   simp [h0f]
   refine CLa cen ?_
   simp [splice]
   refine CLa cva ?_
   simp [f7, ht]
   refine CRs cn (by simp) ?_
   simp [panQ_pan]
   have hW2 := hW .busy (lk [(18874368, 18874368), (17825792, 17825792), (0, 0), (1048576, 1048576), (2097152, 2097152), (8388608, 8388608), (9437184, 9437184), (10485760, 10485760), (11534336, 11534336), (7, 7)]) (by intro j hj; simp only [rKS, List.mem_cons, List.not_mem_nil, or_false] at hj; rcases hj with rfl | rfl | rfl | rfl | rfl | rfl | rfl | rfl | rfl <;> rfl)
   refine ⟨lk [(18874368, 18874368), (17825792, 17825792), (0, 0), (1048576, 1048576), (2097152, 2097152), (8388608, 8388608), (9437184, 9437184), (10485760, 10485760), (11534336, 11534336), (7, 7)], ?_⟩
   simp [hW2, hC, rKS]
theorem rds_body (f : Nat -> V) (hF : RdF f) (i : Nat) (l r b : By) (c : Int) (st : Rst) (hl : l.length <= 800000) (_ : i <= 1000000) (h : ¬ st.n < i) (h0i : ¬ i = 0) (ho : openS (chopS l) = some (b, c)) (hfd : fedS l = true) (h4 : entS (entP b) = true) (h5 : lastE st.es <= (entP b).t) (h6 : ¬ bodyS (entP b) = b) : panY f l r i (rL f .ready r st.s st.es st.n st.c (lastE st.es) i) 91 := by
 obtain ⟨hf, f2, f5, f6, f7, f8⟩ := hF
 have hlt : ∀ es, ∀ j ∈ rKS ++ rXS es, j < 19922944 := by
   intro es j hj
   simp only [rKS, rXS, List.mem_append, List.mem_cons, List.not_mem_nil, or_false] at hj
   split at hj <;> simp at hj <;> omega
 have hW : ∀ z (ρ : Nat -> Option Nat), (∀ j ∈ rKS, ρ j = some j) -> WC ρ (.lr f 122 [23, 24] p11l0 p11l1 z) (.lr f 122 [23, 24] p11l0 p11l1 z) := fun z ρ hρ => ⟨rfl, fun t => AV.mono (fun j hj => hρ j hj) (fun _ h => h) (hf t)⟩
 have hC : ∀ z, cellsOk [.lr f 122 [23, 24] p11l0 p11l1 z] := fun z => Or.inr (.inl ⟨_, _, _, _, _, _, rfl⟩)
 have co := fn40 l (by omega)
 have ch := fn41 l 10 (by omega)
 change Ct prog _ _ (vb (fedS l)) _ at ch
 have hn : (i : Int) <= st.n := by omega
 have h0f : (i = 0) = False := eq_false h0i
 have c0 := need_ok i 93
 have c1 := need_ok i 91
 have cn := need_no i 91
 rw [ho] at co
 rw [hfd] at ch
 have hbl := openS_bd ho
 have hcl := chop_len l
 have cen := fn47 b (by omega)
 rw [entR_eq] at cen
 have hbd := entP_bd (b := b) (by omega)
 have cva := fn48 (entP b) hbd.1 hbd.2.1 hbd.2.2
 generalize entP b = x at *
 rw [h4] at cva
 have ht := h5
 have hq := h6
 have cbo := fn49 x h4
 refine ⟨st.s, st.es, st.n, st.c, lastE st.es, ?_⟩
 refine Ym.ofPX (k := 18874368) (fr := f) (nt := 122) (ps := [23, 24]) (pa := p11l0) (pb := p11l1) (args := [vi i, vS l]) gok eok mixed (fn := f11) func11 rfl 19922944 (rKeep f .ready r _ _ _ _ _ _ hf) (rKeep f .busy r _ _ _ _ _ _ hf) (hlt _) (by simp [rKS]) (by simp [rL]) (by simp) (by simp) (by simp) ⟨fun E hE hs => ?_⟩
 by_cases he : st.es = []
 . simp only [hdZ, bkZ, he, if_true, rL] at *
   generalize V.lr f 122 [23, 24] p11l0 p11l1 = rc at hW hC ⊢
   simp [p11l0, frPuts]
   simp [p11l1, f5, hn]
   refine CLa c0 ?_
   simp
   refine CLa co ?_
   simp
   refine CLa ch ?_
   simp
   refine CLa c1 ?_
   simp [h0f]
   refine CLa cen ?_
   simp [splice]
   refine CLa cva ?_
   simp [f7, ht]
   refine CLa cbo ?_
   simp [hq]
   refine CRs cn (by simp) ?_
   simp [panQ_pan]
   have hW2 := hW .busy (lk [(18874368, 18874368), (17825792, 17825792), (0, 0), (1048576, 1048576), (2097152, 2097152), (8388608, 8388608), (9437184, 9437184), (10485760, 10485760), (11534336, 11534336), (7, 7)]) (by intro j hj; simp only [rKS, List.mem_cons, List.not_mem_nil, or_false] at hj; rcases hj with rfl | rfl | rfl | rfl | rfl | rfl | rfl | rfl | rfl <;> rfl)
   refine ⟨lk [(18874368, 18874368), (17825792, 17825792), (0, 0), (1048576, 1048576), (2097152, 2097152), (8388608, 8388608), (9437184, 9437184), (10485760, 10485760), (11534336, 11534336), (7, 7)], ?_⟩
   simp [hW2, hC, rKS]
 . simp only [hdZ, bkZ, he, if_false, rL] at *
   generalize V.lr f 122 [23, 24] p11l0 p11l1 = rc at hW hC ⊢
   simp [p11l0, frPuts]
   simp [p11l1, f5, hn]
   refine CLa c0 ?_
   simp
   refine CLa co ?_
   simp
   refine CLa ch ?_
   simp
   refine CLa c1 ?_
   simp [h0f]
   refine CLa cen ?_
   simp [splice]
   refine CLa cva ?_
   simp [f7, ht]
   refine CLa cbo ?_
   simp [hq]
   refine CRs cn (by simp) ?_
   simp [panQ_pan]
   have hW2 := hW .busy (lk [(18874368, 18874368), (17825792, 17825792), (0, 0), (1048576, 1048576), (2097152, 2097152), (8388608, 8388608), (9437184, 9437184), (10485760, 10485760), (11534336, 11534336), (7, 7)]) (by intro j hj; simp only [rKS, List.mem_cons, List.not_mem_nil, or_false] at hj; rcases hj with rfl | rfl | rfl | rfl | rfl | rfl | rfl | rfl | rfl <;> rfl)
   refine ⟨lk [(18874368, 18874368), (17825792, 17825792), (0, 0), (1048576, 1048576), (2097152, 2097152), (8388608, 8388608), (9437184, 9437184), (10485760, 10485760), (11534336, 11534336), (7, 7)], ?_⟩
   simp [hW2, hC, rKS]
theorem lastE_snoc (es : List Etr) (x : Etr) : lastE (es ++ [x]) = x.t := by simp [lastE]
theorem rds_chk (f : Nat -> V) (hF : RdF f) (i : Nat) (l r b : By) (c : Int) (st : Rst) (hl : l.length <= 800000) (hi : i <= 1000000) (h : ¬ st.n < i) (h0i : ¬ i = 0) (ho : openS (chopS l) = some (b, c)) (hfd : fedS l = true) (hc0 : 0 <= st.c) (hc1 : st.c <= 1000000) (hel : st.es.length <= 1000000) (h4 : entS (entP b) = true) (h5 : lastE st.es <= (entP b).t) (h6 : bodyS (entP b) = b) (h7 : ¬ sumS b st.c = c) : panY f l r i (rL f .ready r st.s st.es st.n st.c (lastE st.es) i) 92 := by
 obtain ⟨hf, f2, f5, f6, f7, f8⟩ := hF
 have hlt : ∀ es, ∀ j ∈ rKS ++ rXS es, j < 19922944 := by
   intro es j hj
   simp only [rKS, rXS, List.mem_append, List.mem_cons, List.not_mem_nil, or_false] at hj
   split at hj <;> simp at hj <;> omega
 have hW : ∀ z (ρ : Nat -> Option Nat), (∀ j ∈ rKS, ρ j = some j) -> WC ρ (.lr f 122 [23, 24] p11l0 p11l1 z) (.lr f 122 [23, 24] p11l0 p11l1 z) := fun z ρ hρ => ⟨rfl, fun t => AV.mono (fun j hj => hρ j hj) (fun _ h => h) (hf t)⟩
 have hC : ∀ z, cellsOk [.lr f 122 [23, 24] p11l0 p11l1 z] := fun z => Or.inr (.inl ⟨_, _, _, _, _, _, rfl⟩)
 have co := fn40 l (by omega)
 have ch := fn41 l 10 (by omega)
 change Ct prog _ _ (vb (fedS l)) _ at ch
 have hn : (i : Int) <= st.n := by omega
 have h0f : (i = 0) = False := eq_false h0i
 have c0 := need_ok i 93
 have c1 := need_ok i 91
 have cn := need_no i 91
 rw [ho] at co
 rw [hfd] at ch
 have hbl := openS_bd ho
 have hcl := chop_len l
 have cen := fn47 b (by omega)
 rw [entR_eq] at cen
 have hbd := entP_bd (b := b) (by omega)
 have cva := fn48 (entP b) hbd.1 hbd.2.1 hbd.2.2
 generalize entP b = x at *
 rw [h4] at cva
 have ht := h5
 have hq := h6
 have cbo := fn49 x h4
 have cs := fn50 b st.c hc0 hc1 (by omega)
 have hne : ∀ (l : List Etr) (x : Etr), ¬ (l ++ [x] = []) := fun l x => by simp
 have hsl := fcel_len hfe st.es
 have hwh := fcel_whole hfe st.es
 have n1 : (st.es.length + 1) * 64 <= 140737488355328 := by omega
 have n2 : st.es.length + 1 <= 9223372036854775807 := by omega
 have hz := @wz i (by omega)
 have cn2 := need_no i 92
 refine ⟨st.s, st.es ++ [x], st.n, sumS b st.c, lastE (st.es ++ [x]), ?_⟩
 refine Ym.ofPX (k := 18874368) (fr := f) (nt := 122) (ps := [23, 24]) (pa := p11l0) (pb := p11l1) (args := [vi i, vS l]) gok eok mixed (fn := f11) func11 rfl 19922944 (rKeep f .ready r _ _ _ _ _ _ hf) (rKeep f .busy r _ _ _ _ _ _ hf) (hlt _) (by simp [rKS]) (by simp [rL]) (by simp) (by simp) (by simp) ⟨fun E hE hs => ?_⟩
 by_cases he : st.es = []
 . simp only [hdZ, bkZ, he, if_true, rL, hne, List.nil_append] at *
   have hl1 : lastE [x] = x.t := rfl
   generalize V.lr f 122 [23, 24] p11l0 p11l1 = rc at hW hC ⊢
   simp [p11l0, frPuts]
   simp [p11l1, f5, hn]
   refine CLa c0 ?_
   simp
   refine CLa co ?_
   simp
   refine CLa ch ?_
   simp
   refine CLa c1 ?_
   simp [h0f]
   refine CLa cen ?_
   simp [splice]
   refine CLa cva ?_
   simp [f7, ht]
   refine CLa cbo ?_
   simp [hq]
   refine CLa c1 ?_
   simp
   refine pw_drawW [(8, 0)] (by kernel_rfl) ?_
   simp [f2, f6, f7, splice, repl, inC, Nat.testBit]
   refine CLa cs ?_
   simp [f6, splice, h7]
   refine CRs cn2 (by simp) ?_
   simp [panQ_pan]
   have hW2 := hW .busy (lk [(18874368, 18874368), (17825792, 17825792), (0, 0), (1048576, 1048576), (2097152, 2097152), (8388608, 8388608), (9437184, 9437184), (10485760, 10485760), (11534336, 11534336), (7, 71303168)]) (by intro j hj; simp only [rKS, List.mem_cons, List.not_mem_nil, or_false] at hj; rcases hj with rfl | rfl | rfl | rfl | rfl | rfl | rfl | rfl | rfl <;> rfl)
   refine ⟨lk [(18874368, 18874368), (17825792, 17825792), (0, 0), (1048576, 1048576), (2097152, 2097152), (8388608, 8388608), (9437184, 9437184), (10485760, 10485760), (11534336, 11534336), (7, 71303168)], ?_⟩
   simp [hW2, hC, rKS, hl1, fcel]
 . simp only [hdZ, bkZ, he, if_false, rL, hne] at *
   have hl1 := lastE_snoc st.es x
   generalize V.lr f 122 [23, 24] p11l0 p11l1 = rc at hW hC ⊢
   simp [p11l0, frPuts]
   simp [p11l1, f5, hn]
   refine CLa c0 ?_
   simp
   refine CLa co ?_
   simp
   refine CLa ch ?_
   simp
   refine CLa c1 ?_
   simp [h0f]
   refine CLa cen ?_
   simp [splice]
   refine CLa cva ?_
   simp [f7, ht]
   refine CLa cbo ?_
   simp [hq]
   refine CLa c1 ?_
   simp
   refine pw_drawW [(4, 7), (8, 0)] (by kernel_rfl) ?_
   simp [f2, f6, f7, splice, repl, inC, Nat.testBit, hsl, hwh, n1, n2]
   refine CLa cs ?_
   simp [f6, splice, h7]
   refine CRs cn2 (by simp) ?_
   simp [panQ_pan]
   have hW2 := hW .busy (lk [(18874368, 18874368), (17825792, 17825792), (0, 0), (1048576, 1048576), (2097152, 2097152), (8388608, 8388608), (9437184, 9437184), (10485760, 10485760), (11534336, 11534336), (7, 71303168)]) (by intro j hj; simp only [rKS, List.mem_cons, List.not_mem_nil, or_false] at hj; rcases hj with rfl | rfl | rfl | rfl | rfl | rfl | rfl | rfl | rfl <;> rfl)
   refine ⟨lk [(18874368, 18874368), (17825792, 17825792), (0, 0), (1048576, 1048576), (2097152, 2097152), (8388608, 8388608), (9437184, 9437184), (10485760, 10485760), (11534336, 11534336), (7, 71303168)], ?_⟩
   simp [hW2, hC, rKS, hl1, fcel_one]
theorem rds_yes (f : Nat -> V) (hF : RdF f) (i : Nat) (l r b : By) (c : Int) (st : Rst) (hl : l.length <= 800000) (hi : i <= 1000000) (h : ¬ st.n < i) (h0i : ¬ i = 0) (ho : openS (chopS l) = some (b, c)) (hfd : fedS l = true) (hc0 : 0 <= st.c) (hc1 : st.c <= 1000000) (hel : st.es.length <= 1000000) (h4 : entS (entP b) = true) (h5 : lastE st.es <= (entP b).t) (h6 : bodyS (entP b) = b) (h7 : sumS b st.c = c) : Ym prog 18874368 [vi i, vS l] (lk (rL f .ready r st.s st.es st.n st.c (lastE st.es) i)) rKS (.ret (vb true)) (lk (rL f .ready r st.s (st.es ++ [entP b]) st.n (sumS b st.c) (lastE (st.es ++ [entP b])) (i + 1 : Nat))) := by
 obtain ⟨hf, f2, f5, f6, f7, f8⟩ := hF
 have hlt : ∀ es, ∀ j ∈ rKS ++ rXS es, j < 19922944 := by
   intro es j hj
   simp only [rKS, rXS, List.mem_append, List.mem_cons, List.not_mem_nil, or_false] at hj
   split at hj <;> simp at hj <;> omega
 have hW : ∀ z (ρ : Nat -> Option Nat), (∀ j ∈ rKS, ρ j = some j) -> WC ρ (.lr f 122 [23, 24] p11l0 p11l1 z) (.lr f 122 [23, 24] p11l0 p11l1 z) := fun z ρ hρ => ⟨rfl, fun t => AV.mono (fun j hj => hρ j hj) (fun _ h => h) (hf t)⟩
 have hC : ∀ z, cellsOk [.lr f 122 [23, 24] p11l0 p11l1 z] := fun z => Or.inr (.inl ⟨_, _, _, _, _, _, rfl⟩)
 have co := fn40 l (by omega)
 have ch := fn41 l 10 (by omega)
 change Ct prog _ _ (vb (fedS l)) _ at ch
 have hn : (i : Int) <= st.n := by omega
 have h0f : (i = 0) = False := eq_false h0i
 have c0 := need_ok i 93
 have c1 := need_ok i 91
 have cn := need_no i 91
 rw [ho] at co
 rw [hfd] at ch
 have hbl := openS_bd ho
 have hcl := chop_len l
 have cen := fn47 b (by omega)
 rw [entR_eq] at cen
 have hbd := entP_bd (b := b) (by omega)
 have cva := fn48 (entP b) hbd.1 hbd.2.1 hbd.2.2
 generalize entP b = x at *
 rw [h4] at cva
 have ht := h5
 have hq := h6
 have cbo := fn49 x h4
 have cs := fn50 b st.c hc0 hc1 (by omega)
 have hne : ∀ (l : List Etr) (x : Etr), ¬ (l ++ [x] = []) := fun l x => by simp
 have hsl := fcel_len hfe st.es
 have hwh := fcel_whole hfe st.es
 have n1 : (st.es.length + 1) * 64 <= 140737488355328 := by omega
 have n2 : st.es.length + 1 <= 9223372036854775807 := by omega
 have hz := @wz i (by omega)
 have c2 := need_ok i 92
 refine Ym.ofX (k := 18874368) (fr := f) (nt := 122) (ps := [23, 24]) (pa := p11l0) (pb := p11l1) (args := [vi i, vS l]) (s := .ready) gok eok mixed 19922944 (rKeep f .ready r _ _ _ _ _ _ hf) (rKeep f .ready r _ _ _ _ _ _ hf) (hlt _) (by simp [rKS]) (by simp [rL]) (by simp) (by simp) (by simp) ⟨fun E hE hs => ?_⟩
 by_cases he : st.es = []
 . simp only [hdZ, bkZ, he, if_true, rL, hne, List.nil_append] at *
   have hl1 : lastE [x] = x.t := rfl
   generalize V.lr f 122 [23, 24] p11l0 p11l1 = rc at hW hC ⊢
   simp [p11l0, frPuts]
   simp [p11l1, f5, hn]
   refine CLa c0 ?_
   simp
   refine CLa co ?_
   simp
   refine CLa ch ?_
   simp
   refine CLa c1 ?_
   simp [h0f]
   refine CLa cen ?_
   simp [splice]
   refine CLa cva ?_
   simp [f7, ht]
   refine CLa cbo ?_
   simp [hq]
   refine CLa c1 ?_
   simp
   refine pw_drawW [(8, 0)] (by kernel_rfl) ?_
   simp [f2, f6, f7, splice, repl, inC, Nat.testBit]
   refine CLa cs ?_
   simp [f6, splice, h7]
   refine CLa c2 ?_
   simp [f8, splice, hz]
   have hW2 := hW .ready (lk [(18874368, 18874368), (17825792, 17825792), (0, 0), (1048576, 1048576), (2097152, 2097152), (8388608, 8388608), (9437184, 9437184), (10485760, 10485760), (11534336, 11534336), (7, 71303168)]) (by intro j hj; simp only [rKS, List.mem_cons, List.not_mem_nil, or_false] at hj; rcases hj with rfl | rfl | rfl | rfl | rfl | rfl | rfl | rfl | rfl <;> rfl)
   refine ⟨trivial, by simp, lk [(18874368, 18874368), (17825792, 17825792), (0, 0), (1048576, 1048576), (2097152, 2097152), (8388608, 8388608), (9437184, 9437184), (10485760, 10485760), (11534336, 11534336), (7, 71303168)], ?_⟩
   simp [hW2, hC, rKS, hl1, fcel]
 . simp only [hdZ, bkZ, he, if_false, rL, hne] at *
   have hl1 := lastE_snoc st.es x
   generalize V.lr f 122 [23, 24] p11l0 p11l1 = rc at hW hC ⊢
   simp [p11l0, frPuts]
   simp [p11l1, f5, hn]
   refine CLa c0 ?_
   simp
   refine CLa co ?_
   simp
   refine CLa ch ?_
   simp
   refine CLa c1 ?_
   simp [h0f]
   refine CLa cen ?_
   simp [splice]
   refine CLa cva ?_
   simp [f7, ht]
   refine CLa cbo ?_
   simp [hq]
   refine CLa c1 ?_
   simp
   refine pw_drawW [(4, 7), (8, 0)] (by kernel_rfl) ?_
   simp [f2, f6, f7, splice, repl, inC, Nat.testBit, hsl, hwh, n1, n2]
   refine CLa cs ?_
   simp [f6, splice, h7]
   refine CLa c2 ?_
   simp [f8, splice, hz]
   have hW2 := hW .ready (lk [(18874368, 18874368), (17825792, 17825792), (0, 0), (1048576, 1048576), (2097152, 2097152), (8388608, 8388608), (9437184, 9437184), (10485760, 10485760), (11534336, 11534336), (7, 71303168)]) (by intro j hj; simp only [rKS, List.mem_cons, List.not_mem_nil, or_false] at hj; rcases hj with rfl | rfl | rfl | rfl | rfl | rfl | rfl | rfl | rfl <;> rfl)
   refine ⟨trivial, by simp, lk [(18874368, 18874368), (17825792, 17825792), (0, 0), (1048576, 1048576), (2097152, 2097152), (8388608, 8388608), (9437184, 9437184), (10485760, 10485760), (11534336, 11534336), (7, 71303168)], ?_⟩
   simp [hW2, hC, rKS, hl1, fcel_one]
def rLS (f : Nat -> V) (z : LSt) (r : By) (st : Rst) (i : Nat) : List (Nat × List V) := rL f z r st.s st.es st.n st.c (lastE st.es) i
theorem spl3 {b : By} (h : (splP b).length = 3) : ∃ g0 g1 g2, splP b = [g0, g1, g2] := three_of h
theorem hdP_of {b g0 g1 g2 : By} (h : splP b = [g0, g1, g2]) : hdP b = if shipS g1 && betw (numP g2) 0 200 && decide (headS g1 (numP g2) = b) then some (g1, numP g2) else none := by
 unfold hdP; rw [h]
theorem hdP_len {b : By} (h : ¬ (splP b).length = 3) : hdP b = none := by
 unfold hdP
 split
 . rename_i e; rw [e] at h; exact absurd rfl h
 . rfl
theorem rd_err (f : Nat -> V) (hF : RdF f) (i : Nat) (l r : By) (st : Rst) (hl : l.length <= 800000) (hi : i <= 1000000) (hel : st.es.length <= 1000000) (hok : RdOk i st) (e : Int) (hs : rdStep i st (chopS l) (fedS l) = .error e) : panY f l r i (rLS f .ready r st i) e := by
 unfold rdStep at hs
 by_cases hn : st.n < i
 . rw [if_pos hn] at hs
   cases hs
   exact rd_93 f hF i l r st (by omega) hi hn
 rw [if_neg hn] at hs
 cases ho : openS (chopS l) with
 | none =>
   rw [ho] at hs
   simp only [ite_self] at hs
   cases hs
   exact rd_91 f hF i l r st (by omega) hi hn ho
 | some q =>
   cases hfd : fedS l with
   | false =>
     rw [hfd] at hs
     simp only [Bool.false_eq_true, if_false] at hs
     cases hs
     exact rd_91b f hF i l r st (by omega) hi hn q ho hfd
   | true =>
     obtain ⟨b, c⟩ := q
     rw [hfd, if_pos rfl, ho] at hs
     simp only at hs
     have hc0 := hok.c0
     have hc1 := hok.c1
     by_cases h0 : i = 0
     . have hz := hok.z h0
       subst hz
       unfold rdBody at hs
       rw [if_pos h0] at hs
       by_cases h3 : (splP b).length = 3
       . obtain ⟨g0, g1, g2, h3⟩ := spl3 h3
         rw [hdP_of h3] at hs
         cases h4 : shipS g1 with
         | false =>
           rw [h4] at hs
           cases hs
           exact rd0_ship f hF i l r b g0 g1 g2 c (by omega) h0 ho hfd h3 h4
         | true =>
           cases h5 : betw (numP g2) 0 200 with
           | false =>
             rw [h4, h5] at hs
             cases hs
             exact rd0_betw f hF i l r b g0 g1 g2 c (by omega) h0 ho hfd h3 h4 h5
           | true =>
             by_cases h6 : headS g1 (numP g2) = b
             . rw [h4, h5, decide_eq_true h6] at hs
               simp only [Bool.and_self, if_true, Option.map_some] at hs
               by_cases h7 : sumS b rd0.c = c
               . rw [if_pos h7] at hs; cases hs
               . rw [if_neg h7] at hs
                 cases hs
                 exact rd0_chk f hF i l r b g0 g1 g2 c (by omega) h0 ho hfd h3 h4 h5 h6 h7
             . rw [h4, h5, decide_eq_false h6] at hs
               cases hs
               exact rd0_head f hF i l r b g0 g1 g2 c (by omega) h0 ho hfd h3 h4 h5 h6
       . rw [hdP_len h3] at hs
         cases hs
         exact rd0_len f hF i l r b c (by omega) h0 ho hfd h3
     . unfold rdBody at hs
       rw [if_neg h0] at hs
       unfold etP at hs
       cases h4 : entS (entP b) with
       | false =>
         rw [h4] at hs
         cases hs
         exact rds_valid f hF i l r b c st hl hi hn h0 ho hfd h4
       | true =>
         by_cases h5 : lastE st.es <= (entP b).t
         . by_cases h6 : bodyS (entP b) = b
           . rw [h4, decide_eq_true h5, decide_eq_true h6] at hs
             simp only [Bool.and_self, if_true, Option.map_some] at hs
             by_cases h7 : sumS b st.c = c
             . rw [if_pos h7] at hs; cases hs
             . rw [if_neg h7] at hs
               cases hs
               exact rds_chk f hF i l r b c st hl hi hn h0 ho hfd hc0 (by omega) hel h4 h5 h6 h7
           . rw [h4, decide_eq_true h5, decide_eq_false h6] at hs
             cases hs
             exact rds_body f hF i l r b c st hl hi hn h0 ho hfd h4 h5 h6
         . rw [h4, decide_eq_false h5] at hs
           cases hs
           exact rds_time f hF i l r b c st hl hi hn h0 ho hfd h4 h5
theorem rd_yes (f : Nat -> V) (hF : RdF f) (i : Nat) (l r : By) (st st' : Rst) (hl : l.length <= 800000) (hi : i <= 1000000) (hel : st.es.length <= 1000000) (hok : RdOk i st) (hs : rdStep i st (chopS l) (fedS l) = .ok st') : Ym prog 18874368 [vi i, vS l] (lk (rLS f .ready r st i)) rKS (.ret (vb true)) (lk (rLS f .ready r st' (i + 1))) := by
 unfold rdStep at hs
 by_cases hn : st.n < i
 . rw [if_pos hn] at hs; cases hs
 rw [if_neg hn] at hs
 cases ho : openS (chopS l) with
 | none =>
   rw [ho] at hs
   simp only [ite_self] at hs
   cases hs
 | some q =>
   cases hfd : fedS l with
   | false =>
     rw [hfd] at hs
     simp only [Bool.false_eq_true, if_false] at hs
     cases hs
   | true =>
     obtain ⟨b, c⟩ := q
     rw [hfd, if_pos rfl, ho] at hs
     simp only at hs
     have hc0 := hok.c0
     have hc1 := hok.c1
     cases hb : rdBody i st b with
     | none => rw [hb] at hs; cases hs
     | some st2 =>
       rw [hb] at hs
       simp only at hs
       by_cases h7 : st2.c = c
       case neg => rw [if_neg h7] at hs; cases hs
       rw [if_pos h7] at hs
       cases hs
       unfold rdBody at hb
       by_cases h0 : i = 0
       . rw [if_pos h0] at hb
         have hz := hok.z h0
         subst hz
         by_cases h3 : (splP b).length = 3
         . obtain ⟨g0, g1, g2, h3⟩ := spl3 h3
           rw [hdP_of h3] at hb
           by_cases hc : (shipS g1 && betw (numP g2) 0 200 && decide (headS g1 (numP g2) = b)) = true
           . rw [if_pos hc] at hb
             simp only [Option.map_some, Option.some.injEq] at hb
             subst hb
             simp only [Bool.and_eq_true, decide_eq_true_eq] at hc
             exact rd0_yes f hF i l r b g0 g1 g2 c (by omega) h0 ho hfd h3 hc.1.1 hc.1.2 hc.2 h7
           . rw [if_neg hc] at hb; cases hb
         . rw [hdP_len h3] at hb; cases hb
       . rw [if_neg h0] at hb
         unfold etP at hb
         by_cases hc : (entS (entP b) && decide (lastE st.es <= (entP b).t) && decide (bodyS (entP b) = b)) = true
         . rw [if_pos hc] at hb
           simp only [Option.map_some, Option.some.injEq] at hb
           subst hb
           simp only [Bool.and_eq_true, decide_eq_true_eq] at hc
           exact rds_yes f hF i l r b c st hl hi hn h0 ho hfd hc0 (by omega) hel hc.1.1 hc.1.2 hc.2 h7
         . rw [if_neg hc] at hb; cases hb
theorem fn11no (s : By) (hl : 40000 < s.length) : Ct prog 11 [vS s] (rdV (⟨[], []⟩, 0, 4)) [] := by
 have h1 : (40000 : Int) < s.length := by omega
 refine Ct.byDf gok func11 c11 rfl (by simp [ntmps11]) (by simp) (hri_0 _ _) fun E hE hN => ?_
 unfold p11
 simp only []
 refine DWf.seq gok eok mixed ?_
 simp [dwfQ_normal]
 refine DWf.seq gok eok mixed ?_
 simp [h1, splice, dwfQ_ret]
 apply RZ
 simp [results11, hdX]
def rT (r s : By) (es : List Etr) (n c last m : Int) : List (Nat × List V) := (17825792, [vS r]) :: (0, [vS s, hdZ es]) :: (1048576, [vi 0]) :: (2097152, [vi 0]) :: (8388608, [vi n]) :: (9437184, [vi c]) :: (10485760, [vi last]) :: (11534336, [vi m]) :: bkZ es
theorem rL_eq (f : Nat -> V) (z : LSt) (r s : By) (es : List Etr) (n c last m : Int) : rL f z r s es n c last m = (18874368, [.lr f 122 [23, 24] p11l0 p11l1 z]) :: rT r s es n c last m := rfl
theorem rLS_eq (f : Nat -> V) (z : LSt) (r : By) (st : Rst) (i : Nat) : rLS f z r st i = (18874368, [.lr f 122 [23, 24] p11l0 p11l1 z]) :: rT r st.s st.es st.n st.c (lastE st.es) i := rfl
def rKT : List Nat := [17825792, 0, 1048576, 2097152, 8388608, 9437184, 10485760, 11534336]
theorem rKS_eq : rKS = 18874368 :: rKT := rfl
def hdQ (es : List Etr) : V := if es = [] then .d (.lit (.slice none 0 0)) else .ls 19922951 0 es.length 4
theorem hdQ_cell (es : List Etr) : V.isCell (hdQ es) = true := by unfold hdQ; split <;> rfl
theorem hdQ_ac (es : List Etr) : AC (· < 1000000000) anyD (hdQ es) := by
 unfold hdQ
 split
 . exact trivial
 . exact (by omega : 19922951 < 1000000000)
theorem hdZ_ren (es : List Etr) : renC (sg rKS 19922944) (hdZ es) = hdQ es := by
 unfold hdZ hdQ
 split
 . rfl
 . simp [renC, ren1, ren0, sg, rKS]
theorem read_ok (s : By) (hl : s.length <= 40000) : Ct prog 11 [vS s] (rdV (readS s)) (bkX (readS s).1.es) := by
 have h1 : ¬ (40000 : Int) < s.length := by omega
 have c1 := fn38 s
 refine Ct.byDf gok func11 c11 rfl (by simp [ntmps11]) (by simp) (hri_rd _) fun E hE hN => ?_
 unfold p11
 simp only []
 refine DWf.seq gok eok mixed ?_
 simp [dwfQ_normal]
 refine DWf.seq gok eok mixed ?_
 simp [h1, dwfQ_normal]
 refine DWf.defer gok eok mixed 8388608 [(0, 0), (1048576, 0), (2097152, 0)] [.lp 0 0, .lp 1048576 0, .lp 2097152 0] rfl rfl rfl (by simp) (by simp) hE fun E' hnt' hst' hrq => ?_
 have hnt : E'.nt = 122 := by rw [hnt', hN]; exact ntmps11
 refine PWf.seq (PWf.of gok eok mixed ?_)
 simp [splice]
 refine PWf.seq ?_
 refine PWf.seq (PWf.of gok eok mixed ?_)
 simp
 refine CLa c1 ?_
 simp
 refine PWf.block ?_
 obtain ⟨f, hf⟩ : ∃ f, f = upd (upd (upd (upd (upd (upd (upd (upd (upd (upd (upd (upd (upd (argF 0 [vS s]) 2 (V.lp 0 0)) 3 (V.lp 1048576 0)) 4 (V.lp 2097152 0)) 16 (vS s)) 17 (V.d (D.lit (Value.int IntKind.i64 s.length)))) 18 (V.d (D.lit (Value.bool false)))) 20 (V.cl 37 [V.lp 0 0, V.lp 1048576 0, V.lp 2097152 0])) 5 (V.lp 8388608 0)) 6 (V.lp 9437184 0)) 7 (V.lp 10485760 0)) 8 (V.lp 11534336 0)) 21 (vS s)) 22 (V.cl 84 [V.lp 17825792 0]) := ⟨_, rfl⟩
 rw [<- hf]
 have hfA : ∀ t, AV (· ∈ rKS) anyD (f t) := fun t => by
   rw [hf]
   rw [upd_at]
   split
   . intro c hc; simp at hc; subst hc; exact (by simp [rKS] : (17825792 : Nat) ∈ rKS)
   rw [upd_at]
   split
   . exact trivial
   rw [upd_at]
   split
   . exact (by simp [rKS] : (11534336 : Nat) ∈ rKS)
   rw [upd_at]
   split
   . exact (by simp [rKS] : (10485760 : Nat) ∈ rKS)
   rw [upd_at]
   split
   . exact (by simp [rKS] : (9437184 : Nat) ∈ rKS)
   rw [upd_at]
   split
   . exact (by simp [rKS] : (8388608 : Nat) ∈ rKS)
   rw [upd_at]
   split
   . intro c hc
     simp at hc
     rcases hc with rfl | rfl | rfl
     . exact (by simp [rKS] : (0 : Nat) ∈ rKS)
     . exact (by simp [rKS] : (1048576 : Nat) ∈ rKS)
     . exact (by simp [rKS] : (2097152 : Nat) ∈ rKS)
   rw [upd_at]
   split
   . exact trivial
   rw [upd_at]
   split
   . exact trivial
   rw [upd_at]
   split
   . exact trivial
   rw [upd_at]
   split
   . exact (by simp [rKS] : (2097152 : Nat) ∈ rKS)
   rw [upd_at]
   split
   . exact (by simp [rKS] : (1048576 : Nat) ∈ rKS)
   rw [upd_at]
   split
   . exact (by simp [rKS] : (0 : Nat) ∈ rKS)
   simp only [argF]
   split
   . exact trivial
   . exact fun c hc => by simp at hc
 have hFF : RdF f := ⟨hfA, by rw [hf]; simp, by rw [hf]; simp, by rw [hf]; simp, by rw [hf]; simp, by rw [hf]; simp⟩
 have f22 : f 22 = .cl 84 [.lp 17825792 0] := by rw [hf]; simp
 have f3 : f 3 = .lp 1048576 0 := by rw [hf]; simp
 have f4 : f 4 = .lp 2097152 0 := by rw [hf]; simp
 obtain ⟨_, f2, f5, f6, f7, f8⟩ := id hFF
 clear hf
 have hle : ∀ (i : Nat) (l : By), (linesOf s)[i]? = some l -> l.length <= 800000 := fun i l h => by
   have := lines_mem_len (List.mem_of_getElem? h)
   omega
 have hll := lines_le s
 have hfl : (fedsOf s).length = (linesOf s).length := by simp [fedsOf]
 have hfx : ∀ (i : Nat) (l : By), (linesOf s)[i]? = some l -> (fedsOf s)[i]? = some (chopS l, fedS l) := fun i l h => by
   unfold fedsOf; rw [List.getElem?_map, h]; rfl
 have hround : ∀ (i : Nat) (l : By) (st : Rst), (linesOf s)[i]? = some l -> rdAt (fedsOf s) i = .ok st -> RdOk i st /\ i <= 1000000 /\ st.es.length <= 1000000 := fun i l st h hst => by
   have hi := (List.getElem?_eq_some_iff.1 h).1
   have hok := rdAt_ok (by omega) hst
   exact ⟨hok, by omega, by have := hok.len; omega⟩
 rcases rd_cases (fedsOf s) with ⟨st, hst, hall⟩ | ⟨j, p, st, e, hjp, hst, hstep, hfin, hall⟩
 . have hg := rdG_ok hst
   rw [hfl] at hst hg
   have hrun := lines_run s (by omega) rKS (fun i => rXS (rdG (fedsOf s) i).es) 18874368 17825792 (fun i r => rLS f .ready r (rdG (fedsOf s) i) i) (by simp [rKS]) (by simp [rKS]) (by simp [rKS]) (fun i x hx => by simp only [rXS] at hx; split at hx <;> simp at hx; omega) (fun i r => rKeep f .ready r _ _ _ _ _ _ hfA)
     (fun i r => ⟨f, 122, [23, 24], p11l0, p11l1, .ready, by simp [rLS, rL], rfl⟩) (fun i r => by simp [rLS, rL]) (fun i r r' p hp => by
       simp only [rLS, rL, List.mem_cons] at hp ⊢
       rcases hp with rfl | rfl | rfl | rfl | rfl | rfl | rfl | rfl | rfl | hp
       . exact .inr ⟨by simp, .inl rfl⟩
       . exact .inl ⟨rfl, rfl⟩
       . exact .inr ⟨by simp, .inr (.inr (.inl rfl))⟩
       . exact .inr ⟨by simp, .inr (.inr (.inr (.inl rfl)))⟩
       . exact .inr ⟨by simp, .inr (.inr (.inr (.inr (.inl rfl))))⟩
       . exact .inr ⟨by simp, .inr (.inr (.inr (.inr (.inr (.inl rfl)))))⟩
       . exact .inr ⟨by simp, .inr (.inr (.inr (.inr (.inr (.inr (.inl rfl))))))⟩
       . exact .inr ⟨by simp, .inr (.inr (.inr (.inr (.inr (.inr (.inr (.inl rfl)))))))⟩
       . exact .inr ⟨by simp, .inr (.inr (.inr (.inr (.inr (.inr (.inr (.inr (.inl rfl))))))))⟩
       . refine .inr ⟨fun e => ?_, .inr (.inr (.inr (.inr (.inr (.inr (.inr (.inr (.inr hp))))))))⟩
         unfold bkZ at hp
         split at hp
         . cases hp
         . simp at hp; subst hp; simp at e)
     (fun i l h => by
       have hi := (List.getElem?_eq_some_iff.1 h).1
       obtain ⟨sti, hsti⟩ := hall i (by omega)
       obtain ⟨stn, hstn⟩ := hall (i + 1) (by omega)
       obtain ⟨hoki, hi1, hi2⟩ := hround i l sti h hsti
       have hs := rdAt_succ hsti (hfx i l h)
       rw [hstn] at hs
       cases hq : rdStep i sti (chopS l) (fedS l) with
       | error e' => simp only [hq] at hs; cases hs
       | ok st2 =>
         simp only [hq] at hs
         cases hs
         rw [rdG_ok hsti, rdG_ok hstn]
         exact rd_yes f hFF i l (restL i s) sti stn (hle i l h) hi1 hi2 hoki hq)
   have hg0 : rdG (fedsOf s) 0 = rd0 := rfl
   have hok := rdAt_ok (by omega) hst
   generalize hN2 : (linesOf s).length = N at *
   have hK0 := rKeep f .ready s rd0.s rd0.es rd0.n rd0.c (lastE rd0.es) (0 : Nat) hfA
   have hKn := rKeep f .ready [] st.s st.es st.n st.c (lastE st.es) N hfA
   rw [rL_eq, rKS_eq] at hK0 hKn
   simp only [rLS_eq, hg0, hg] at hrun
   rw [rKS_eq] at hrun
   refine PRangeF.keepX (rT s rd0.s rd0.es rd0.n rd0.c (lastE rd0.es) (0 : Nat)) (rT [] st.s st.es st.n st.c (lastE st.es) N) rKT [] (rXS st.es) (.tup []) .ready ⟨hrq, fun _ => rfl⟩ (g := 84) (caps := [.lp 17825792 0]) (by simp [f22]) (by rw [hnt]; exact hrun) (by rw [hnt]; exact hK0) (by rw [hnt]; exact hKn) (fun x hx => by simp only [rXS] at hx; split at hx <;> simp at hx; omega) (by simp [rKT]) (by simp [rKT, rT, bkZ, hdZ, rd0, lastE]) (by simp) fun F g1 g2 => ?_
   have F0 := g1 (0, [vS st.s, hdZ st.es]) (by simp [rT])
   have F1 := g1 (1048576, [vi 0]) (by simp [rT])
   have F2 := g1 (2097152, [vi 0]) (by simp [rT])
   have F5 := g1 (8388608, [vi st.n]) (by simp [rT])
   have F8 := g1 (11534336, [vi N]) (by simp [rT])
   rw [<- rKS_eq] at F0 F1 F2 F5 F8 g1
   have z0 : sg rKS 19922944 0 = 0 := by simp [sg, rKS]
   have z1 : sg rKS 19922944 1048576 = 1048576 := by simp [sg, rKS]
   have z2 : sg rKS 19922944 2097152 = 2097152 := by simp [sg, rKS]
   have z5 : sg rKS 19922944 8388608 = 8388608 := by simp [sg, rKS]
   have z8 : sg rKS 19922944 11534336 = 11534336 := by simp [sg, rKS]
   simp only [Nat.reduceAdd] at F0 F1 F2 F5 F8 g1
   simp only [z0, z1, z2, z5, z8, List.map_cons, List.map_nil, hdZ_ren] at F0 F1 F2 F5 F8
   simp only [renC, ren1, ren0] at F0 F1 F2 F5 F8
   show PWf prog E' 11 _ _ _
   refine PWf.of gok eok mixed ?_
   have hRd : readS s = if fedsOf s = [] then (⟨[], []⟩, 0, 91) else if (N : Int) <= st.n then (⟨[], []⟩, (N : Int), 93) else (⟨st.s, st.es⟩, 0, 0) := by
     unfold readS rdFin
     rw [hfl, hst]
   by_cases hN0 : N = 0
   . have he : fedsOf s = [] := List.length_eq_zero_iff.1 (by omega)
     rw [if_pos he] at hRd
     rw [hRd]
     have hn0 : ¬ (0 < N) := by omega
     have cn := need_no 0 91
     have hcl := rec_some (vS st.s) (hdQ st.es) rfl (hdQ_cell st.es) trivial (hdQ_ac st.es) 0 91
     simp [f8, F8, hn0]
     refine CRs cn (by simp) ?_
     simp [retD_pan]
     refine DCall.mk _ _ _ hcl (by simp [F0, F1, F2]) (by simp [F0, F1, F2]) (by simp) (by simp) (by simp) ?_
     simp
     apply RZ
     simp [results11, f2, f3, f4, hdX, bkX]
   . have he : ¬ fedsOf s = [] := fun e => by rw [e] at hfl; simp at hfl; omega
     rw [if_neg he] at hRd
     have hn0 : 0 < N := by omega
     have c0 := need_ok 0 91
     by_cases hnl : (N : Int) <= st.n
     . rw [if_pos hnl] at hRd
       rw [hRd]
       have hnl2 : ¬ st.n < (N : Int) := by omega
       have cn := need_no N 93
       have hcl := rec_some (vS st.s) (hdQ st.es) rfl (hdQ_cell st.es) trivial (hdQ_ac st.es) N 93
       simp [f8, F8, hn0]
       refine CLa c0 ?_
       simp [f8, F8, f5, F5, hnl2]
       refine CRs cn (by simp) ?_
       simp [retD_pan]
       refine DCall.mk _ _ _ hcl (by simp [F0, F1, F2]) (by simp [F0, F1, F2]) (by simp) (by simp) (by simp) ?_
       simp
       apply RZ
       simp [results11, f2, f3, f4, hdX, bkX]
     . rw [if_neg hnl] at hRd
       rw [hRd]
       have hnl2 : st.n < (N : Int) := by omega
       have cy := need_ok N 93
       simp [f8, F8, hn0]
       refine CLa c0 ?_
       simp [f8, F8, f5, F5, hnl2]
       refine CLa cy ?_
       simp [f2, F0, splice]
       by_cases hes : st.es = []
       . simp only [hdQ, hes, if_true] at *
         simp [f3, f4, F1, F2, splice, retD_ret]
         refine DCall.mk _ _ _ rec_none (by simp) (by simp) (by simp) (by simp) (by simp) ?_
         simp
         apply RZ
         simp [results11, f2, f3, f4, hdX, bkX]
       . have F7 := g1 (7, fcel entL st.es) (by simp [rT, bkZ, hes])
         have z7 : sg rKS 19922944 7 = 19922951 := by simp [sg, rKS]
         have r7 : (fcel entL st.es).map (renC (sg rKS 19922944)) = fcel entL st.es := by simp [fcel, List.map_flatten, Function.comp_def]
         rw [z7, r7] at F7
         simp only [hdQ, hes, if_false] at F0
         have hdq : hdQ st.es = .ls 19922951 0 st.es.length 4 := by unfold hdQ; rw [if_neg hes]
         rw [hdq]
         simp [f3, f4, F1, F2, splice, retD_ret]
         refine DCall.mk _ _ _ rec_none (by simp) (by simp) (by simp) (by simp) (by simp) ?_
         simp
         refine RetOk.by (lk [(0, 19922951)]) ?_
         simp [results11, f2, f3, f4, hdX, bkX, hes, F7]
 ·
   have hR : readS s = (⟨[], []⟩, (j : Int), e) := rdFin_err hst hjp hstep
   have hjl : j < (linesOf s).length := by rw [<- hfl]; exact (List.getElem?_eq_some_iff.1 hjp).1
   obtain ⟨lj, hlj⟩ := gE hjl
   have hpe := hfx j lj hlj
   rw [hjp] at hpe
   cases hpe
   obtain ⟨hok, hj1, hj2⟩ := hround j lj st hlj hst
   obtain ⟨s', es', n', c', last', hP⟩ := rd_err f hFF j lj (restL j s) st (hle j lj hlj) hj1 hj2 hok e hstep
   have hgj := rdG_ok hst
   have hstop := lines_stop s (by omega) j lj hlj (wrgD j e) (rL f .busy (restL j s) s' es' n' c' last' j) (rXS es') rKS (rKeep f .busy _ _ _ _ _ _ _ hfA) (fun x hx => by simp only [rXS] at hx; split at hx <;> simp at hx; omega) (fun i => rXS (rdG (fedsOf s) i).es) 18874368 17825792 (fun i r => rLS f .ready r (rdG (fedsOf s) i) i) (by simp [rKS]) (by simp [rKS]) (by simp [rKS]) (fun i x hx => by simp only [rXS] at hx; split at hx <;> simp at hx; omega) (fun i r => rKeep f .ready r _ _ _ _ _ _ hfA)
     (fun i r => ⟨f, 122, [23, 24], p11l0, p11l1, .ready, by simp [rLS, rL], rfl⟩) (fun i r => by simp [rLS, rL]) (fun i r r' p hp => by
       simp only [rLS, rL, List.mem_cons] at hp ⊢
       rcases hp with rfl | rfl | rfl | rfl | rfl | rfl | rfl | rfl | rfl | hp
       . exact .inr ⟨by simp, .inl rfl⟩
       . exact .inl ⟨rfl, rfl⟩
       . exact .inr ⟨by simp, .inr (.inr (.inl rfl))⟩
       . exact .inr ⟨by simp, .inr (.inr (.inr (.inl rfl)))⟩
       . exact .inr ⟨by simp, .inr (.inr (.inr (.inr (.inl rfl))))⟩
       . exact .inr ⟨by simp, .inr (.inr (.inr (.inr (.inr (.inl rfl)))))⟩
       . exact .inr ⟨by simp, .inr (.inr (.inr (.inr (.inr (.inr (.inl rfl))))))⟩
       . exact .inr ⟨by simp, .inr (.inr (.inr (.inr (.inr (.inr (.inr (.inl rfl)))))))⟩
       . exact .inr ⟨by simp, .inr (.inr (.inr (.inr (.inr (.inr (.inr (.inr (.inl rfl))))))))⟩
       . refine .inr ⟨fun e => ?_, .inr (.inr (.inr (.inr (.inr (.inr (.inr (.inr (.inr hp))))))))⟩
         unfold bkZ at hp
         split at hp
         . cases hp
         . simp at hp; subst hp; simp at e)
     (by rw [hgj]; exact hP)
     (fun i l hij h => by
       obtain ⟨sti, hsti⟩ := hall i (by omega)
       obtain ⟨stn, hstn⟩ := hall (i + 1) (by omega)
       obtain ⟨hoki, hi1, hi2⟩ := hround i l sti h hsti
       have hs := rdAt_succ hsti (hfx i l h)
       rw [hstn] at hs
       cases hq : rdStep i sti (chopS l) (fedS l) with
       | error e' => simp only [hq] at hs; cases hs
       | ok st2 =>
         simp only [hq] at hs
         cases hs
         rw [rdG_ok hsti, rdG_ok hstn]
         exact rd_yes f hFF i l (restL i s) sti stn (hle i l h) hi1 hi2 hoki hq)
   have hg0 : rdG (fedsOf s) 0 = rd0 := rfl
   have hK0 := rKeep f .ready s rd0.s rd0.es rd0.n rd0.c (lastE rd0.es) (0 : Nat) hfA
   have hKn := rKeep f .busy (restL j s) s' es' n' c' last' j hfA
   rw [rL_eq, rKS_eq] at hK0 hKn
   simp only [rLS_eq, hg0] at hstop
   rw [rL_eq, rKS_eq] at hstop
   rw [hR]
   refine PRangeF.panX (rT s rd0.s rd0.es rd0.n rd0.c (lastE rd0.es) (0 : Nat)) (rT (restL j s) s' es' n' c' last' j) rKT [] (rXS es') (wrgD j e) .busy ⟨hrq, fun _ => rfl⟩ (g := 84) (caps := [.lp 17825792 0]) (by simp [f22]) (by rw [hnt]; exact hstop) (by rw [hnt]; exact hK0) (by rw [hnt]; exact hKn) (fun x hx => by simp only [rXS] at hx; split at hx <;> simp at hx; omega) (by simp [rKT]) (by simp [rKT, rT, bkZ, hdZ, rd0, lastE]) (by simp) fun F g1 g2 => ?_
   have F0 := g1 (0, [vS s', hdZ es']) (by simp [rT])
   have F1 := g1 (1048576, [vi 0]) (by simp [rT])
   have F2 := g1 (2097152, [vi 0]) (by simp [rT])
   rw [<- rKS_eq] at F0 F1 F2
   have z0 : sg rKS 19922944 0 = 0 := by simp [sg, rKS]
   have z1 : sg rKS 19922944 1048576 = 1048576 := by simp [sg, rKS]
   have z2 : sg rKS 19922944 2097152 = 2097152 := by simp [sg, rKS]
   simp only [Nat.reduceAdd] at F0 F1 F2
   simp only [z0, z1, z2, List.map_cons, List.map_nil, hdZ_ren] at F0 F1 F2
   simp only [renC, ren1, ren0] at F0 F1 F2
   have hcl := rec_some (vS s') (hdQ es') rfl (hdQ_cell es') trivial (hdQ_ac es') j e
   show retD prog tys f11 (rdV (⟨[], []⟩, (j : Int), e)) (bkX []) 37 [(0, 0), (1048576, 0), (2097152, 0)] (.pan (.d (wrgD j e))) _
   rw [retD_pan]
   refine DCall.mk _ _ _ hcl (by simp [F0, F1, F2]) (by simp [F0, F1, F2]) (by simp) (by simp) (by simp) ?_
   simp
   apply RZ
   simp [results11, f2, f3, f4, hdX, bkX]
theorem fn11 (s : By) (hl : s.length <= 40000) : Ct prog 11 [vS s] (rdW (readS s)) [] := rd_fz (read_ok s hl)
theorem dm_fz {f : FuncId} {args : List V} {ds : List Int} {e : Int} (h : Ct prog f args (.tup [hdR ds, vi e]) (bkR ds)) : Ct prog f args (.tup [.d (intsD ds), vi e]) [] := by
 refine Cm.freeze h ?_
 unfold hdR bkR
 by_cases he : ds = []
 . subst he
   exact ⟨.inr ⟨rfl, _, rfl⟩, .inl rfl, trivial⟩
 . rw [if_neg he, if_neg he]
   exact ⟨bor_fcel (f := intL) hfi1 (l := ds) (by simp), .inl rfl, trivial⟩
theorem readS_sized (s : By) (hl : s.length <= 40000) : SizedL (readS s).1 := by
 have hll := lines_le s
 have hfl : (fedsOf s).length = (linesOf s).length := by simp [fedsOf]
 have h0 : SizedL ⟨[], []⟩ := ⟨by simp, by simp, nofun⟩
 unfold readS rdFin
 cases hq : rdAt (fedsOf s) (fedsOf s).length with
 | error p => exact h0
 | ok st =>
   have hok := rdAt_ok (Nat.le_refl _) hq
   simp only
   split
   . exact h0
   . rename_i hne
     split
     . exact h0
     . have hpos : (fedsOf s).length ≠ 0 := fun e => hne (List.length_eq_zero_iff.1 e)
       refine ⟨by have := ship_len (hok.s hpos); simp only; omega, by have := hok.len; simp only; omega, fun x hx => ?_⟩
       have hx2 := ordS_ents hok.es x hx
       have h1 := entS_parts hx2
       have hn := h1.1
       have hw : x.w.length <= 40 := hn _ (by simp [partsS])
       refine ⟨by omega, by have := (numE hx2).2.2.1; omega, ?_⟩
       by_cases hxn : x.n = []
       . rw [hxn]; simp
       . have := hn x.n (by simp [partsS, hxn]); omega
theorem fn3 (s : By) : Ct prog 3 [vS s] (vb true) [] := by
 by_cases h1 : 4000 < s.length
 . have h1I : (4000 : Int) < s.length := by omega
   by_cases h2 : s.length <= 40000
   . have h2I : (s.length : Int) <= 40000 := by omega
     refine CB func3 c3 fun E hE => ?_
     simp [p3, h1I, h2I]
     apply RZ
     simp [results3]
   . have h2I : ¬ (s.length : Int) <= 40000 := by omega
     by_cases h3 : 50000 < s.length
     . have h3I : (50000 : Int) < s.length := by omega
       refine CB func3 c3 fun E hE => ?_
       simp [p3, h1I, h2I, h3I]
       apply RZ
       simp [results3]
     . have h3I : ¬ (50000 : Int) < s.length := by omega
       have d1 : Ct prog 11 [vS s] (rdW (⟨[], []⟩, 0, 4)) [] := rd_fz (by simpa [bkX] using fn11no s (by omega))
       have d2 : Ct prog 12 [vS s] (rdW (⟨[], []⟩, 0, 4)) [] := rd_fz (by simpa [bkX] using fn12no s (by omega))
       have d3 : Ct prog 13 [vS s] (.tup [.d (intsD []), vi 4]) [] := dm_fz (by simpa [hdR, bkR] using fn13no s (by omega))
       have d4 : Ct prog 14 [vS s] (.tup [.d (intsD []), vi 4]) [] := dm_fz (by simpa [hdR, bkR] using fn14no s (by omega))
       have d5 := fn15 ⟨[], []⟩ ⟨by simp, by simp, nofun⟩
       have d6 := fn16 [] (by simp)
       refine CB func3 c3 fun E hE => ?_
       simp [p3, h1I, h2I, h3I]
       refine CLa d1 ?_
       simp [splice]
       refine CLa d2 ?_
       simp [splice]
       refine CLa d3 ?_
       simp
       refine CLa d4 ?_
       simp
       refine CLa d5 ?_
       simp
       refine CLa d6 ?_
       simp
       apply RZ
       simp [results3]
 . have h1I : ¬ (4000 : Int) < s.length := by omega
   have h3I : ¬ (50000 : Int) < s.length := by omega
   have d1 := fn11 s (by omega)
   have d2 := fn12 s (by omega)
   have d3 := dm_fz (fn13 s (by omega))
   have d4 := dm_fz (fn14 s (by omega))
   have d5 := fn15 (readS s).1 (readS_sized s (by omega))
   have hdl : (dmgS s).length <= 1000000 := by
     have := (dmAt_bd (linesOf s) (linesOf s).length).2.2
     have := lines_le s
     unfold dmgS
     omega
   have d6 := fn16 (dmgS s) hdl
   generalize readS s = x at *
   generalize dmgS s = ds at *
   obtain ⟨⟨xs, es⟩, k, e⟩ := x
   simp only at d1 d2 d5
   refine CB func3 c3 fun E hE => ?_
   simp [p3, h1I, h3I]
   refine CLa d1 ?_
   simp [splice]
   refine CLa d2 ?_
   simp [splice]
   refine CLa d3 ?_
   simp
   refine CLa d4 ?_
   simp
   refine CLa d5 ?_
   simp
   refine CLa d6 ?_
   simp
   apply RZ
   simp [results3]
end Go.Proofs.Tryz
