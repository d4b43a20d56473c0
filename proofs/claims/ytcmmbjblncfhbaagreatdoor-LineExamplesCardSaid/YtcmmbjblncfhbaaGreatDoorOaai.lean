/- Own lemmas, used by the last text. Conditions: those that each theorem states. -/
import Derived.Below
import Derived.Shelf.Strings.BuilderF
import Derived.Test.YtcmmbjblncfhbaaGreatDoorOaaf
import Derived.Test.YtcmmbjblncfhbaaGreatDoorOaag
import Derived.Test.YtcmmbjblncfhbaaGreatDoorOaah
set_option maxRecDepth 200000
set_option maxHeartbeats 8000000
namespace Go.Psl
variable {P : Program} {E : Ent} {C : Cfg}
theorem regE_sound {ev : Ev} (hR : RunOk P C ev) (hY : YldOk P ev) {me : Nat} {rs : RS} {Kx : V -> RK} {K : RK} {e : AExit} {s' : ES} : ∀ (ops : List PO) (f : Tr) (h : EH) (b : Nat), regE C ev me rs ops f h b = some (e, s') -> (e = .normal -> K s'.f.fn (s'.h.hp rs) s'.n) -> (∀ v, e = .pan v -> Kx v s'.f.fn (s'.h.hp rs) s'.n) ->
   (e = .normal \/ ∃ v, e = .pan v) /\ runR P C.Γ C.eqs Kx b ops f.fn (h.hp rs) K
 | [], f, h, b, he, hk, _ => by
   have he : some (AExit.normal, (⟨f, h, b⟩ : ES)) = some (e, s') := he
   simp only [Option.some.injEq, Prod.mk.injEq] at he
   obtain ⟨rfl, rfl⟩ := he
   exact ⟨.inl rfl, hk rfl⟩
 | o :: r, f, h, b, he, hk, hx => by
   have he : rStep C ev me rs o (regE C ev me rs r) f h b = some (e, s') := he
   have go : ∀ f' h', regE C ev me rs r f' h' (Nat.add b 1048576) = some (e, s') -> (e = .normal \/ ∃ v, e = .pan v) /\ runR P C.Γ C.eqs Kx (b + 1048576) r f'.fn (h'.hp rs) K := fun f' h' h1 => regE_sound hR hY r f' h' (b + 1048576) h1 hk hx
   unfold rStep at he
   simp only [runR, PO.run]
   split at he
   . rename_i hg
     rw [hg]
     simp only [stepC]
     unfold rOp at he
     split at he
     . rename_i v e' hop
       obtain ⟨e0, h1, h2⟩ := opE_eval hop
       obtain ⟨g1, g2⟩ := go _ _ he
       refine ⟨g1, ?_⟩
       rw [h1]
       simpa only [Tr.fn_putO, hp_app h2] using g2
     . rename_i hop
       unfold rOth at he
       split at he
       . rename_i c hoc
         rw [hoc] at hop ⊢
         rw [opE_call hop]
         simp only
         unfold rCall at he
         split at he
         . rename_i fo hce
           simp only [hce]
           unfold rCal at he
           split at he
           . rename_i q hq
             unfold rRes at he
             split at he
             . rename_i v hv
               obtain ⟨g1, g2⟩ := go _ _ he
               refine ⟨g1, calE_sound hR hY hq (.inl ⟨rfl, rfl, rfl⟩) ?_⟩
               rw [hv]
               simpa only [afterC, Tr.fn_putO] using g2
             . rename_i v hv
               simp only [Option.some.injEq, Prod.mk.injEq] at he
               obtain ⟨rfl, rfl⟩ := he
               refine ⟨.inr ⟨_, rfl⟩, calE_sound hR hY hq (.inl ⟨rfl, rfl, rfl⟩) ?_⟩
               rw [hv]
               exact hx _ rfl
           . cases he
         . cases he
       . rename_i x hoc
         rw [hoc]
         simp only [evalOp]
         unfold rPan at he
         split at he
         . rename_i t ag cs hv
           simp only [Option.some.injEq, Prod.mk.injEq] at he
           obtain ⟨rfl, rfl⟩ := he
           refine ⟨.inr ⟨_, rfl⟩, trivial, ⟨t, ag, cs, hv⟩, ?_⟩
           rw [hv]
           exact hx _ rfl
         . cases he
       . cases he
   . rename_i hg
     rw [hg]
     obtain ⟨g1, g2⟩ := go _ _ he
     refine ⟨g1, ?_⟩
     simpa only [Tr.fn_putO] using g2
   . cases he
theorem vis_hp {rs : RS} {ws : List (Nat × Nat)} {cl : List Nat} {k n0 : Nat} {h : EH} : (visE ws cl false k n0 h).hp rs = Hcl ws cl k n0 (h.hp rs) := by
 funext i
 simp only [visE, Bool.false_eq_true, if_false, hp_at, Hcl]
 rw [lk_filter (fun i => (Nat.blt i n0 || inC cl k ((i - n0) / 1048576)) && seen ws cl k i)]
 have e : ((Nat.blt i n0 || inC cl k ((i - n0) / 1048576)) && seen ws cl k i) = true ↔ (i < n0 \/ inC cl k ((i - n0) / 1048576) = true) /\ seen ws cl k i = true := by
   simp only [Bool.and_eq_true, Bool.or_eq_true]
   exact and_congr (or_congr ⟨fun h => Nat.le_of_ble_eq_true h, fun h => Nat.ble_eq_true_of_le h⟩ Iff.rfl) Iff.rfl
 by_cases hc : (i < n0 \/ inC cl k ((i - n0) / 1048576) = true) /\ seen ws cl k i = true
 . rw [if_pos (e.2 hc), if_pos hc]
 . rw [if_neg (fun h => hc (e.1 h)), if_neg hc]; rfl
theorem inW_at {ws w : List (Nat × Nat)} (h : inW ws w = true) {p : Nat × Nat} (hp : p ∈ w) : p ∈ ws := by
 have := List.all_eq_true.1 h p hp
 obtain ⟨q, hq, he⟩ := List.any_eq_true.1 this
 simp only [Bool.and_eq_true, beq_iff_eq] at he
 have : q = p := Prod.ext he.1 he.2
 rwa [<- this]
theorem dW_at {all : Bool} {ws w : List (Nat × Nat)} {x : RD2} {y : List (Nat × Nat) × ES} (h : dW all ws w x = some y) : (all = true \/ inW ws w = true) /\ x = some y := by
 unfold dW at h
 split at h
 . rename_i hc; exact ⟨by simpa using hc, h⟩
 . cases h
theorem drawE_sound {ev : Ev} (hR : RunOk P C ev) (hY : YldOk P ev) {me : Nat} {rs : RS} {ws : List (Nat × Nat)} {cl : List Nat} {n0 : Nat} {Z : V -> Prop} {K : RK} : ∀ (ops : List PO) (k : Nat) (f : Tr) (h : EH) (b : Nat) (w : List (Nat × Nat)) (s' : ES), drawE C ev me rs ws cl false n0 ops k f h b = some (w, s') -> K s'.f.fn (s'.h.hp rs) s'.n -> runD P C.Γ C.eqs ws cl n0 Z k b ops f.fn (h.hp rs) K
 | [], k, f, h, b, w, s', he, hk => by
   have he : some (([] : List (Nat × Nat)), (⟨f, h, b⟩ : ES)) = some (w, s') := he
   simp only [Option.some.injEq, Prod.mk.injEq] at he
   obtain ⟨rfl, rfl⟩ := he
   exact hk
 | o :: r, k, f, h, b, w, s', he, hk => by
   have he : dStep C ev me rs ws cl false n0 o (drawE C ev me rs ws cl false n0 r) k f h b = some (w, s') := he
   have go : ∀ (f' : Tr) (h' : EH) (v : V) (w1 : List (Nat × Nat)), dPut o (drawE C ev me rs ws cl false n0 r) k f' h' b v w1 = some (w, s') -> runD P C.Γ C.eqs ws cl n0 Z (k + 1) (b + 1048576) r (frPut f'.fn o.dst v) (h'.hp rs) K := fun f' h' v w1 h1 => by
     simp only [dPut, Option.map_eq_some_iff] at h1
     obtain ⟨⟨w2, s2⟩, he2, he3⟩ := h1
     cases he3
     have := drawE_sound (Z := Z) hR hY r (k + 1) _ _ (b + 1048576) _ _ he2 hk
     rwa [Tr.fn_putO] at this
   unfold dStep at he
   simp only [runD, PO.runD]
   split at he
   . rename_i hg
     rw [hg]
     simp only [stepC]
     unfold dVis dOp at he
     split at he
     . rename_i v e' hop
       obtain ⟨e0, h1, h2⟩ := opE_eval hop
       rw [vis_hp] at h1
       rw [h1]
       unfold dEff at he
       split at he
       . rename_i w1 hw1
         obtain ⟨hin, he⟩ := dW_at he
         have hin : inW ws w1 = true := by simpa using hin
         have g := go _ _ _ _ he
         rw [hp_app h2] at g
         cases h2 with
         | none => exact g
         | new id cs c hc =>
           simp only [wrE] at hw1
           split at hw1
           . rename_i hi; subst hi; exact ⟨rfl, g⟩
           . cases hw1
         | put id cs c hc =>
           simp only [wrE, Option.some.injEq] at hw1
           subst hw1
           exact ⟨inW_at hin (by simp), g⟩
         | mov old id cs c hc =>
           simp only [wrE] at hw1
           split at hw1
           . rename_i hi
             cases hw1
             subst hi
             exact ⟨⟨inW_at hin (by simp), rfl⟩, g⟩
           . cases hw1
       . cases he
     . rename_i hop
       rw [vis_hp] at hop
       unfold dOth at he
       split at he
       . rename_i c hoc
         rw [hoc] at hop ⊢
         rw [opE_call hop]
         simp only
         unfold dCall at he
         split at he
         . rename_i fo hce
           simp only [hce]
           unfold dCal at he
           split at he
           . rename_i q hq
             unfold dRes at he
             split at he
             . rename_i v hv
               obtain ⟨hin, he⟩ := dW_at he
               have hin : inW ws ((chgE q b).map fun i => (k, i)) = true := by simpa using hin
               have g := go _ _ _ _ he
               rw [<- vis_hp]
               refine calE_sound hR hY hq (.inr ⟨ws, k, rfl, rfl, fun i hi => inW_at hin (List.mem_map.2 ⟨i, hi, rfl⟩), v, hv⟩) ?_
               rw [hv]
               exact g
             . cases he
           . cases he
         . cases he
       . cases he
   . rename_i hg
     rw [hg]
     exact go _ _ _ _ he
   . cases he
structure EOk (E : Ent) (X : Cx) : Prop where
 nt : E.nt = X.nt
 stab : ∀ i, E.stab i -> i ∈ X.ks
 m : match X.m with | .plain => E.rq | .round k => E.rd = some (E.β0 k) /\ E.stab k | .nomark => True | .panf => False
abbrev EvOk (P : Program) (ev : Ev) : Prop := ∀ X p s e s', ev X p s = some (e, s') -> ∀ E : Ent, EOk E X -> ∀ c, comp E.nt c = some p -> ∀ Q : AExit -> St -> Prop, Q e (s'.abs X.rs) -> AW P E c Q (s.abs X.rs)
theorem EOk.npf {E : Ent} {X : Cx} (h : EOk E X) : isPf X.m = false := by
 have := h.m
 cases hX : X.m with
 | panf => rw [hX] at this; exact this.elim
 | _ => rfl
abbrev EvOkF (P : Program) (ev : Ev) : Prop := ∀ X p s e s', X.m = .panf -> ev X p s = some (e, s') -> ∀ E : Ent, E.nt = X.nt -> (∀ i, E.stab i -> i ∈ X.ks) -> E.rq -> ∀ Q : AExit -> St -> Prop, Q e (s'.abs X.rs) -> PWf P E panF p Q (s.abs X.rs)
theorem ev_loop (n : Nat) {X : Cx} {p : PC} {e : AExit} {s' : ES} (ih : ∀ m, m < n -> EvOk P (ev C m)) {E : Ent} (hX : EOk E X) {a : Code} (ha : comp E.nt a = some p) {Q : AExit -> St -> Prop} (hq : Q e (s'.abs X.rs)) {s : ES} (h : ev C n X (.loop p) s = some (e, s')) : AW P E (.loop a) Q (s.abs X.rs) := by
 refine AW.loop (α := Nat × ES) (fun x => x.2.abs X.rs) (fun x => x.1 <= n /\ ev C x.1 X (.loop p) x.2 = some (e, s')) (fun x => x.1) (n, s) ⟨Nat.le_refl _, h⟩ Weak.self ?_
 rintro ⟨k, s0⟩ ⟨hk, h0⟩
 cases k with
 | zero => cases h0
 | succ k =>
   have hpf : isPf X.m = false := hX.npf
   have h0 : eSeq (ev C k) X (.loop p) (ev C k X p s0) = some (e, s') := by
     have h1 : evM C (ev C k) X (.loop p) s0 = some (e, s') := h0
     unfold evM at h1
     rw [hpf] at h1
     exact h1
   unfold eSeq at h0
   split at h0
   . rename_i e1 s1 h1
     split at h0
     . exact ih k (by omega) X p s0 .normal s1 h1 E hX a ha _ ⟨(k, s1), ⟨by omega, h0⟩, Nat.lt_succ_self k, Weak.self⟩
     . rename_i hne
       rw [h1] at h0
       simp only [Option.some.injEq, Prod.mk.injEq] at h0
       obtain ⟨rfl, rfl⟩ := h0
       refine ih k (by omega) X p s0 e1 s1 h1 E hX a ha _ ?_
       cases e1 with
       | normal => exact absurd rfl hne
       | _ => exact hq
   . rename_i h1
     rw [h1] at h0; cases h0
structure CfgOk (P : Program) (C : Cfg) : Prop where
 gok : GOk P C.Γ
 eok : EqOk P C.eqs
 mix : P.follows .mixedOrders = true
 pf : panN < 1000000 -> ∃ fn, P.funcs[panF]? = some fn
 tab : ∀ g fi, C.tab g = some fi -> fi.kind < 2 -> ∃ fn c, P.funcs[g]? = some fn /\ fn.body = some c /\ comp fn.ntmps c = some fi.pc /\ (fn.name == "runtime.NumGoroutine") = false /\ fi.nt = fn.ntmps /\ fi.res = fn.results.toList
 clo : ∀ g fi, C.tab g = some fi -> fi.kind = 2 -> ∃ fn id o1 o2 rest, P.funcs[g]? = some fn /\ fn.body = some (.seq (.region id #[o1, o2] false) rest) /\ (fn.name == "runtime.NumGoroutine") = false /\ o1.guard = none /\ o2.guard = none /\ o1.dst = some fi.t3 /\ o2.dst = some fi.t2 /\
   (∀ ρ W, (execOp ρ o1).run P W = .ok .recover W) /\ (∀ ρ W, (execOp ρ o2).run P W = .ok (.value (ρ (.tmp fi.t3))) W) /\ fi.t3 < fn.ntmps /\ fi.t2 < fn.ntmps /\ comp fn.ntmps rest = some fi.pc /\ fi.nt = fn.ntmps /\ fn.results.toList = []
 mem : ∀ rs g az r, C.mem g az = some r -> Cm P g az (fun _ => none) [] r.1 (lk (r.2.toL rs))
 orc : ∀ rs g az L ks r, C.orc rs g az L ks = some r -> C.tab g = none -> (∀ p ∈ L, lk L p.1 = some p.2) -> (∀ i ∈ ks, ∃ c, lk L i = some c /\ ECe rs i c = false) -> Cm P g az (lk (L.toL rs)) ks r.1 (lk (r.2.toL rs))
theorem callOk_ids {rs : RS} {b : Nat} {az : List V} {L : EH} (h : callOk rs b az L = true) : IdsFn b (lk (L.toL rs)) /\ ∀ v ∈ az, A2 (· < b) anyD v := by
 obtain ⟨h1, h2⟩ := callOk_at h
 refine ⟨fun i cs hi => ?_, fun v hv => A2.mono (fun _ h => h.2) (fun _ h => h) (h1 v hv).2⟩
 rw [<- hp_eq, hp_at] at hi
 cases hl : lk L i with
 | none => rw [hl] at hi; cases hi
 | some c =>
   rw [hl] at hi
   cases hi
   obtain ⟨h3, h4⟩ := h2 _ (lk_mem' hl)
   exact ⟨h3.2, fun x hx => AC.mono (fun _ h => h.2) (fun _ h => h) (h4 x hx)⟩
theorem leaveE_ok {me : Nat} {rs : RS} {fi : FI} {ks : List Nat} {s : ES} {res : Res} {H1 : EH} (h : leaveE C me rs fi ks s = some (res, H1)) (hE : ∀ i, E.stab i -> i ∈ ks) {fn : Func} (hf : fi.res = fn.results.toList) :
   ResIds res.v (H1.toL rs) /\ ∃ (s1 : ES) (r : V), res = .ret r /\ Weak P E (s.abs rs) (s1.abs rs) /\ RetM C.Γ fn ks r (H1.toL rs) (s1.abs rs) := by
 unfold leaveE at h
 split at h
 . rename_i r0 h0
   cases h
   unfold leave0 at h0
   split at h0
   . rename_i hh
     split at h0
     . rename_i v hv
       cases hok : okV (fun _ => false) v with
       | false => rw [hok] at h0; cases h0
       | true =>
         rw [hok] at h0
         cases h0
         simp only [resE, Option.bind_eq_some_iff] at hv
         obtain ⟨vs, h4, h5⟩ := hv
         split at h5
         case isFalse => cases h5
         rename_i h6
         cases h5
         refine ⟨⟨(AV_of hok).mono (fun _ h => by cases h) (fun _ h => h), fun p hp => by cases hp⟩, s, pack vs, rfl, Weak.self, vs, fun i => some i, by rw [<- hf]; exact h4, h6, ?_, trivial, trivial, StabL_of fun i _ h => by cases h⟩
         have := WV_of (σ := fun i => i) (ρ := fun i => some i) (p := fun _ => false) (fun _ h => by cases h) hok
         rwa [ren_id] at this
     . cases h0
   . cases h0
 simp only [Option.bind_eq_some_iff] at h
 obtain ⟨s1, h1, r, h2, h3⟩ := h
 obtain ⟨g1, ⟨σ, g2⟩, ρ, g3, g4⟩ := endN_ok h3
 simp only [resE, Option.bind_eq_some_iff] at h2
 obtain ⟨vs, h4, h5⟩ := h2
 split at h5
 case isFalse => cases h5
 rename_i h6
 cases h5
 refine ⟨g1, s1, ren σ (pack vs), g2, ?_, vs, ρ, by rw [<- hf]; exact h4, h6, by rw [g2] at g3; exact g3, g4⟩
 split at h1
 . cases h1; exact Weak.self
 . exact fzAll_weak hE _ _ _ h1
theorem leave_cl {me : Nat} {rs : RS} {fi : FI} {ks : List Nat} {s : ES} {res : Res} {H1 : EH} (h : leaveE C me rs fi ks s = some (res, H1)) (hE : ∀ i, E.stab i -> i ∈ ks) {fn : Func} (hf : fi.res = fn.results.toList) {e : AExit} (he : e = .ret \/ e = .normal) :
   clQ P E (retM C.Γ fn ks res (H1.toL rs)) e (s.abs rs) := by
 obtain ⟨_, s1, r, rfl, h1, h2⟩ := leaveE_ok h hE hf
 refine .inr ⟨_, h1, ?_, ?_⟩
 . rcases he with rfl | rfl <;> exact h2
 . rcases he with rfl | rfl <;> exact nofun
theorem yld_of {ev : Ev} (hpf : panN < 1000000 -> ∃ fn, P.funcs[panF]? = some fn) (hV : EvOk P ev) : YldOk P ev := by
 intro rs h b k az q hq
 unfold yieldE at hq
 split at hq
 case h_2 => cases hq
 rename_i r hr hk
 have hm := (hand_mem rs true h (k :: az.flatMap nmV)).1
 simp only at hq
 generalize hand rs true h (k :: az.flatMap nmV) = L at *
 split at hq
 case isFalse => cases hq
 rename_i hc
 simp only [Bool.and_eq_true] at hc
 obtain ⟨⟨⟨⟨h1, h2⟩, h3⟩, h4⟩, h5⟩ := hc
 split at hq
 case h_2 => cases hq
 rename_i s1 hs1
 split at hq
 case h_2 => cases hq
 rename_i hk1
 obtain ⟨i1, i2⟩ := callOk_ids h1
 have hkL : lk L k = some (.st .ready) := by
   obtain ⟨c, hc⟩ := Option.isSome_iff_exists.1 h4
   have := (hm _ (lk_mem' hc)).2
   rw [hk] at this
   cases this
   exact hc
 have hkc : ∀ (s : ES) (j : LSt), lk s.h k = some (.st j) -> (s.h.hp rs) k = some [.lr r.F.fn r.nt r.ps r.pa r.pb j] := fun s j hs => by
   rw [hp_at, hs]; simp [EC.toC, hr]
 split at hq
 case h_3 => cases hq
 case h_1 v s2 hs2 =>
   split at hq
   case isFalse => cases hq
   rename_i hnt
   simp only [Bool.and_eq_true, beq_iff_eq] at hnt
   obtain ⟨hnt, hlt⟩ := hnt
   have hlt : r.nt < 1000000 := by simpa [Nat.blt_eq] using hlt
   obtain ⟨fn, hfn⟩ := hpf (by rw [<- hnt]; exact hlt)
   simp only [Option.bind_eq_some_iff] at hq
   obtain ⟨x, hx1, hx2⟩ := hq
   split at hx2
   case isFalse => cases hx2
   cases hx2
   obtain ⟨g1, ⟨σ, g2⟩, ρ, g3⟩ := endN_ok (r' := x.1) (H1 := x.2) hx1
   have hres : x.1 = .pan (ren σ v) := g2
   show Ym P k az (lk (L.toL rs)) (ksOf rs L) x.1 (lk (x.2.toL rs))
   rw [hres] at g1 g3 ⊢
   refine Ym.ofPA hfn hnt b (fr := r.F.fn) (nt := r.nt) (ps := r.ps) (pa := r.pa) (pb := r.pb) ?_ (by simpa using h5) (by simpa using h2) ?_ i2 i1 ?_ g1 ?_
   . rw [<- hp_eq]
     exact hkc ⟨r.F, L, b⟩ .ready hkL
   . intro p hp
     have := List.all_eq_true.1 h3 p hp
     exact Nat.le_of_ble_eq_true this
   . intro i hi
     obtain ⟨c, hc, _⟩ := ks_mem hi
     exact ((callOk_at h1).2 _ hc).1.2
   . intro E e1 e2 e3 c hc
     have hX : EOk E ⟨.round k, r.nt, ksOf rs L, rs, r.me⟩ := ⟨e1, fun i hi => (e2 i).1 hi, e3, (e2 k).2 (by simpa using h5)⟩
     have := hV _ _ _ _ _ hs1 E hX c hc (seqQ (fun st => st.H k = some [.lr r.F.fn r.nt r.ps r.pa r.pb .ready] /\ ∀ c', comp E.nt c' = some r.pb -> AW P E c' (panQ (ksOf rs L) (ren σ v) (x.2.toL rs)) ⟨st.fr, upd st.H k (some [.lr r.F.fn r.nt r.ps r.pa r.pb .busy]), st.nx⟩) (fun _ _ => False)) ?_
     . rw [ES.abs, Tr.fn_puts, hp_eq] at this
       exact this
     . refine ⟨hkc s1 .ready hk1, fun c' hc' => ?_⟩
       have h2 := hV _ _ _ _ _ hs2 E hX c' hc' (panQ (ksOf rs L) (ren σ v) (x.2.toL rs)) ⟨ρ, g3⟩
       have e0 : EH.hp rs (hset s1.h k (.st .busy)) = upd (s1.h.hp rs) k (some [.lr r.F.fn r.nt r.ps r.pa r.pb .busy]) := by
         rw [hp_hset]; simp [EC.toC, hr]
       rw [ES.abs, e0] at h2
       exact h2
 rename_i e s2 hnp hs2
 try simp only at hq
 split at hq
 case h_2 => cases hq
 rename_i sl hsl hk2
 simp only [Option.bind_eq_some_iff] at hq
 obtain ⟨x, hx1, hx2⟩ := hq
 split at hx2
 case isFalse => cases hx2
 cases hx2
 obtain ⟨g1, ⟨σ, g2⟩, ρ, g3, g4, g5, g6⟩ := endN_ok (r' := x.1) (H1 := x.2) hx1
 obtain ⟨i1, i2⟩ := callOk_ids h1
 have hkL : lk L k = some (.st .ready) := by
   obtain ⟨c, hc⟩ := Option.isSome_iff_exists.1 h4
   have := (hm _ (lk_mem' hc)).2
   rw [hk] at this
   cases this
   exact hc
 have hres : x.1 = .ret (.d (.lit (.bool (goesOn sl)))) := g2
 show Ym P k az (lk (L.toL rs)) (ksOf rs L) x.1 (lk (x.2.toL rs))
 rw [hres]
 have hkc : ∀ (s : ES) (j : LSt), lk s.h k = some (.st j) -> (s.h.hp rs) k = some [.lr r.F.fn r.nt r.ps r.pa r.pb j] := fun s j hs => by
   rw [hp_at, hs]; simp [EC.toC, hr]
 refine Ym.ofA b (fr := r.F.fn) (nt := r.nt) (ps := r.ps) (pa := r.pa) (pb := r.pb) (s := sl) ?_ (by simpa using h5) (by simpa using h2) ?_ i2 i1 ?_ g1.2 ?_
 . rw [<- hp_eq]
   exact hkc ⟨r.F, L, b⟩ .ready hkL
 . intro p hp
   have := List.all_eq_true.1 h3 p hp
   exact Nat.le_of_ble_eq_true this
 . intro i hi
   obtain ⟨c, hc, _⟩ := ks_mem hi
   exact ((callOk_at h1).2 _ hc).1.2
 . intro E e1 e2 e3 c hc
   have hX : EOk E ⟨.round k, r.nt, ksOf rs L, rs, r.me⟩ := ⟨e1, fun i hi => (e2 i).1 hi, e3, (e2 k).2 (by simpa using h5)⟩
   have := hV _ _ _ _ _ hs1 E hX c hc (seqQ (fun st => st.H k = some [.lr r.F.fn r.nt r.ps r.pa r.pb .ready] /\ ∀ c', comp E.nt c' = some r.pb -> AW P E c' (rndQ k (.lr r.F.fn r.nt r.ps r.pa r.pb) sl (ksOf rs L) (x.2.toL rs)) ⟨st.fr, upd st.H k (some [.lr r.F.fn r.nt r.ps r.pa r.pb .busy]), st.nx⟩) (fun _ _ => False)) ?_
   . rw [ES.abs, Tr.fn_puts, hp_eq] at this
     exact this
   . refine ⟨hkc s1 .ready hk1, fun c' hc' => ?_⟩
     have h2 := hV _ _ _ _ _ hs2 E hX c' hc' (rndQ k (.lr r.F.fn r.nt r.ps r.pa r.pb) sl (ksOf rs L) (x.2.toL rs)) ?_
     . have e0 : EH.hp rs (hset s1.h k (.st .busy)) = upd (s1.h.hp rs) k (some [.lr r.F.fn r.nt r.ps r.pa r.pb .busy]) := by
         rw [hp_hset]; simp [EC.toC, hr]
       rw [ES.abs, e0] at h2
       exact h2
     . have e0 : EH.hp rs (hset s2.h k (.st sl)) = upd (s2.h.hp rs) k (some [.lr r.F.fn r.nt r.ps r.pa r.pb sl]) := by
         rw [hp_hset]; simp [EC.toC, hr]
       rw [e0] at g4 g6
       have hM : RndM k (.lr r.F.fn r.nt r.ps r.pa r.pb) sl (ksOf rs L) (x.2.toL rs) (s2.abs rs) := ⟨hkc s2 .busy hk2, ρ, g4, g5, g6⟩
       cases e with
       | normal => cases hsl; exact ⟨trivial, hM⟩
       | ret => cases hsl; exact ⟨trivial, hM⟩
       | exit i => cases hsl; exact ⟨rfl, hM⟩
       | goto l => cases hsl
       | pan v => cases hsl
theorem run_plain {ev : Ev} (hC : CfgOk P C) (hV : EvOk P ev) {me : Nat} {rs : RS} {g : FuncId} {az : List V} {L : EH} {ks : List Nat} {N : Nat} {fi : FI} (ht : C.tab g = some fi) (h0 : fi.kind = 0) (hn : Nat.ble az.length fi.nt = true) {res : Res} {H1 : EH} (hok : callOk rs N az L = true) (hks : ∀ i ∈ ks, ∃ c, lk L i = some c /\ ECe rs i c = false)
   (h : (match ev ⟨.plain, fi.nt, ks, rs, g⟩ fi.pc ⟨Tr.args 0 az, L, N⟩ with
     | some (.ret, s) | some (.normal, s) => leaveE C me rs fi ks s
     | some (.pan v, s) => endN rs ks (.pan v) s.h
     | _ => none) = some (res, H1)) : Cm P g az (lk (L.toL rs)) ks res (lk (H1.toL rs)) := by
 obtain ⟨fn, c, q1, q2, q3, q4, q5, q6⟩ := hC.tab g fi ht (by omega)
 obtain ⟨i1, i2⟩ := callOk_ids hok
 have hks' : ∀ i ∈ ks, i < N := fun i hi => by
   obtain ⟨c, hc, _⟩ := hks i hi
   exact ((callOk_at hok).2 _ (lk_mem' hc)).1.2
 have key : ResIds res.v (H1.toL rs) /\ ∀ E : Ent, E.nt = fn.ntmps -> (∀ i, E.stab i ↔ i ∈ ks) -> E.rq -> AW P E c (retM C.Γ fn ks res (H1.toL rs)) ⟨argF 0 az, lk (L.toL rs), N⟩ := by
   have start : ∀ E : Ent, ∀ e s, ev ⟨.plain, fi.nt, ks, rs, g⟩ fi.pc ⟨Tr.args 0 az, L, N⟩ = some (e, s) -> E.nt = fn.ntmps -> (∀ i, E.stab i ↔ i ∈ ks) -> E.rq -> ∀ Q : AExit -> St -> Prop, Q e (s.abs rs) -> AW P E c Q ⟨argF 0 az, lk (L.toL rs), N⟩ := fun E e s hs e1 e2 e3 Q hq => by
     have := hV _ _ _ _ _ hs E ⟨by rw [e1, q5], fun i hi => (e2 i).1 hi, e3⟩ c (by rw [e1]; exact q3) Q hq
     rw [ES.abs, Tr.fn_args, hp_eq] at this
     exact this
   split at h
   . rename_i s hs
     obtain ⟨g1, _⟩ := leaveE_ok (P := P) (E := { W0 := default, Im0 := fun _ => False, mu := fun _ => False, β0 := id, bs0 := id, lo0 := fun _ => false, stab := fun _ => False, nt := 0, rd := none }) h (fun _ h => h.elim) q6
     exact ⟨g1, fun E e1 e2 e3 => AW.clQ (start E _ _ hs e1 e2 e3 _ (leave_cl h (fun i hi => (e2 i).1 hi) q6 (.inl rfl)))⟩
   . rename_i s hs
     obtain ⟨g1, _⟩ := leaveE_ok (P := P) (E := { W0 := default, Im0 := fun _ => False, mu := fun _ => False, β0 := id, bs0 := id, lo0 := fun _ => false, stab := fun _ => False, nt := 0, rd := none }) h (fun _ h => h.elim) q6
     exact ⟨g1, fun E e1 e2 e3 => AW.clQ (start E _ _ hs e1 e2 e3 _ (leave_cl h (fun i hi => (e2 i).1 hi) q6 (.inr rfl)))⟩
   . rename_i v s hs
     obtain ⟨g1, ⟨σ, g2⟩, ρ, g3⟩ := endN_ok h
     refine ⟨g1, fun E e1 e2 e3 => start E _ _ hs e1 e2 e3 _ ?_⟩
     rw [g2] at g3 ⊢
     exact ⟨ρ, g3⟩
   . cases h
 exact Cm.intro hC.gok N q1 q2 q4 (by rw [<- q5]; exact Nat.le_of_ble_eq_true hn) i2 i1 hks' key.1 key.2
end Go.Psl
namespace Go.Psl
variable {P : Program} {E : Ent} {C : Cfg}
theorem isDef_at {p : PC} {t : Nat} {g : FuncId} {caps : List Operand} (h : isDef p = some (t, g, caps)) : ∃ cl : Call, p = .reg [⟨some t, .makeFunc (.func g) #[] caps.toArray, none⟩, ⟨none, .defer cl, none⟩] /\ cl.callee = .value (.tmp t) /\ cl.args = #[] := by
 unfold isDef at h
 split at h
 . rename_i t0 g0 first cs cl
   split at h
   . rename_i hc
     simp only [Bool.and_eq_true, Array.isEmpty_iff] at hc
     split at h
     . rename_i t' ht
       split at h
       . rename_i he
         cases h
         subst he
         exact ⟨cl, by rw [hc.1], ht, hc.2⟩
       . cases h
     . cases h
   . cases h
 . cases h
theorem boxes_at : ∀ {vs : List V} {ids : List (Nat × Nat)}, boxes vs = some ids -> vs = ids.map fun p => .lp p.1 p.2
 | [], ids, h => by cases h; rfl
 | v :: r, ids, h => by
   cases v <;> simp only [boxes] at h <;> try (cases h; done)
   rename_i i o
   simp only [Option.map_eq_some_iff] at h
   obtain ⟨x, hx, rfl⟩ := h
   rw [boxes_at hx]; rfl
theorem closE_ok {ev : Ev} (hC : CfgOk P C) (hV : EvOk P ev) {rs : RS} {g : FuncId} {ids : List (Nat × Nat)} {m : Option V} {s s2 : ES} (h : closE C ev rs g (ids.map fun p => .lp p.1 p.2) m s = some s2) {K : St -> Prop} (hK : K (s2.abs rs)) : DCall P g ids m K (s.abs rs) := by
 unfold closE at h
 split at h
 case h_2 => cases h
 rename_i fi ht
 split at h
 case isFalse => cases h
 rename_i hk
 simp only at h
 obtain ⟨hm, hsub⟩ := hand_mem rs true s.h ((ids.map fun p => V.lp p.1 p.2).flatMap nmV)
 generalize hand rs true s.h ((ids.map fun p => V.lp p.1 p.2).flatMap nmV) = L at *
 split at h
 case isFalse => cases h
 rename_i hc
 simp only [Bool.and_eq_true] at hc
 obtain ⟨⟨⟨h1, h2⟩, h3⟩, h4⟩ := hc
 obtain ⟨fn, id, o1, o2, rest, q1, q2, q3, q4, q5, q6, q7, q8, q9, q10, q11, q12, q13, q14⟩ := hC.clo g fi ht hk
 obtain ⟨i1, i2⟩ := callOk_ids h1
 have hks' : ∀ i ∈ ksOf rs L, i < s.n := fun i hi => by
   obtain ⟨c, hc, _⟩ := ks_mem hi
   exact ((callOk_at h1).2 _ hc).1.2
 have core : ∀ e s', (e = .ret \/ e = .normal) -> ev ⟨.nomark, fi.nt, ksOf rs L, rs, g⟩ fi.pc ⟨((Tr.args 0 (ids.map fun p => V.lp p.1 p.2)).put fi.t3 (recV m)).put fi.t2 (recV m), L, s.n⟩ = some (e, s') ->
     ((endN rs (ksOf rs L) (.ret (.tup [])) s'.h).bind fun r => if goodH rs (ksOf rs L) r.2 then some ⟨s.f, afterH s.h s.n L (ksOf rs L) r.2, s.n⟩ else none) = some s2 -> DCall P g ids m K (s.abs rs) := fun e s' he hs hr => by
   simp only [Option.bind_eq_some_iff] at hr
   obtain ⟨⟨r1, H1⟩, g1, g2⟩ := hr
   split at g2
   case isFalse => cases g2
   rename_i hg
   cases g2
   obtain ⟨g1, ⟨σ, g2⟩, ρ, g3, g4⟩ := endN_ok g1
   have hq : CrOk rs s.h s.n (ids.map fun p => .lp p.1 p.2) ⟨.ret (.tup []), H1, L, ksOf rs L⟩ := ⟨hsub, fun p hp => (hm p hp).1, h1, ks_hk fun p hp => (hm p hp).1, hg⟩
   refine ⟨fun p hp => ?_, _, _, _, _, ?_, hq.callB, ?_⟩
   . have := List.all_eq_true.1 h4 (.lp p.1 p.2) (List.mem_map.2 ⟨p, hp, rfl⟩)
     show ((s.h.hp rs) p.1).isSome = true
     rw [hp_at]
     cases hl : lk s.h p.1 with
     | none => simp [hl] at this
     | some c => rfl
   . have e2 : r1 = .ret (.tup []) := g2
     rw [e2] at g1 g3
     refine CmD.byA hC.gok s.n q1 q2 q3 q4 q5 q6 q7 q8 q9 q10 q11 (by rw [<- q13]; exact Nat.le_of_ble_eq_true h3) i2 ?_ i1 hks' g1 fun E e1 e2 => ?_
     . exact AV.mono (fun _ h => by simp at h) (fun _ h => h) (AV_of h2)
     . have := hV _ _ _ _ _ hs E ⟨by rw [e1, q13], fun i hi => (e2 i).1 hi, trivial⟩ rest (by rw [e1]; exact q12) (retM C.Γ fn (ksOf rs L) (.ret (.tup [])) (H1.toL rs)) ?_
       . rw [ES.abs, Tr.fn_put, Tr.fn_put, Tr.fn_args, hp_eq] at this
         exact this
       . have hM : RetM C.Γ fn (ksOf rs L) (.tup []) (H1.toL rs) (s'.abs rs) := ⟨[], ρ, by rw [q14]; rfl, rfl, g3, g4⟩
         rcases he with rfl | rfl <;> exact hM
   . have := hq.hp (h := s.h)
     rw [ES.abs] at hK
     show K ⟨s.f.fn, heapM (s.h.hp rs) s.n _ _ _, s.n⟩
     rw [<- this]
     exact hK
 split at h
 . rename_i s' hs; exact core _ s' (.inl rfl) hs h
 . rename_i s' hs; exact core _ s' (.inr rfl) hs h
 . cases h
theorem resE_ret {C : Cfg} {rs : RS} {fi : FI} {fn : Func} (hf : fi.res = fn.results.toList) {s : ES} {res : Res} {H1 : EH} (h : ((resE C rs fi s).bind fun r => endN rs [] r s.h) = some (res, H1)) : ResIds res.v (H1.toL rs) /\ ∃ r, res = .ret r /\ RetM C.Γ fn [] r (H1.toL rs) (s.abs rs) := by
 simp only [Option.bind_eq_some_iff] at h
 obtain ⟨r, h2, h3⟩ := h
 obtain ⟨g1, ⟨σ, g2⟩, ρ, g3, g4⟩ := endN_ok h3
 simp only [resE, Option.bind_eq_some_iff] at h2
 obtain ⟨vs, h4, h5⟩ := h2
 split at h5
 case isFalse => cases h5
 rename_i h6
 cases h5
 exact ⟨g1, ren σ (pack vs), g2, vs, ρ, by rw [<- hf]; exact h4, h6, by rw [g2] at g3; exact g3, g4⟩
theorem evD_ok {ev : Ev} (hC : CfgOk P C) (hV : EvOk P ev) {me g0 : Nat} (hbm : bodyM g0 = .plain) {rs : RS} {fi : FI} {fn : Func} (hf : fi.res = fn.results.toList) {res : Res} {H1 : EH} : ∀ (p : PC) (s : ES), evD C ev me g0 rs fi p s = some (res, H1) -> ∀ E : Ent, E.nt = fi.nt -> (∀ i, ¬ E.stab i) -> ResIds res.v (H1.toL rs) /\ ∃ r, res = .ret r /\ DW P E fn r (H1.toL rs) p (s.abs rs)
 | .seq a b, s, h, E, hn, hs => by
   unfold evD at h
   split at h
   . rename_i t g caps hd
     obtain ⟨cl, rfl, hcal, hcl⟩ := isDef_at hd
     simp only at h
     split at h
     case h_2 => cases h
     rename_i ids hb
     have hbx := boxes_at hb
     rw [hbx, hbm] at h
     have core : ∀ e s', ev ⟨.plain, fi.nt, ids.map (·.1), rs, g0⟩ b ⟨s.f.put t (.cl g (ids.map fun p => .lp p.1 p.2)), s.h, s.n + 2097152⟩ = some (e, s') -> ∀ r, res = .ret r -> (∀ E' : Ent, (∀ i, E'.stab i ↔ i ∈ ids.map Prod.fst) -> clQ P E' (retD P C.Γ fn r (H1.toL rs) g ids) e (s'.abs rs)) -> DW P E fn r (H1.toL rs) (.seq (.reg [⟨some t, .makeFunc (.func g) #[] caps.toArray, none⟩, ⟨none, .defer cl, none⟩]) b) (s.abs rs) := fun e s' he r hr hq => by
       refine DW.deferA hC.gok hC.eok ids hcal hcl (show capL s.f.fn _ = _ by simpa using hbx) hs fun E' e1 e2 e3 c hc => AW.clQ ?_
       have := hV _ _ _ _ _ he E' ⟨by rw [e1, hn], fun i hi => (e2 i).1 hi, e3⟩ c hc _ (hq E' e2)
       rw [ES.abs, Tr.fn_put] at this
       exact this
     split at h
     . rename_i s' he
       simp only [Option.bind_eq_some_iff] at h
       obtain ⟨s1, h1, s2, h2, h3⟩ := h
       obtain ⟨g1, r, g2, g3⟩ := resE_ret hf (by simpa only [Option.bind_eq_some_iff] using h3)
       exact ⟨g1, r, g2, core _ s' he r g2 fun E' e2 => .inr ⟨_, fzAll_weak (fun i hi => (e2 i).1 hi) _ _ _ h1, closE_ok hC hV h2 g3, nofun⟩⟩
     . rename_i s' he
       simp only [Option.bind_eq_some_iff] at h
       obtain ⟨s1, h1, s2, h2, h3⟩ := h
       obtain ⟨g1, r, g2, g3⟩ := resE_ret hf (by simpa only [Option.bind_eq_some_iff] using h3)
       exact ⟨g1, r, g2, core _ s' he r g2 fun E' e2 => .inr ⟨_, fzAll_weak (fun i hi => (e2 i).1 hi) _ _ _ h1, closE_ok hC hV h2 g3, nofun⟩⟩
     . rename_i x s' he
       simp only [Option.bind_eq_some_iff] at h
       obtain ⟨s2, h2, h3⟩ := h
       obtain ⟨g1, r, g2, g3⟩ := resE_ret hf (by simpa only [Option.bind_eq_some_iff] using h3)
       exact ⟨g1, r, g2, core _ s' he r g2 fun E' e2 => .inl ⟨x, rfl, closE_ok hC hV h2 g3⟩⟩
     . cases h
   . split at h
     . rename_i s' he
       obtain ⟨g1, r, g2, g3⟩ := evD_ok hC hV hbm hf b s' h E hn hs
       refine ⟨g1, r, g2, DW.seqA hC.gok fun c hc => ?_⟩
       exact hV _ _ _ _ _ he E ⟨hn, fun i hi => (hs i hi).elim, trivial⟩ c hc _ g3
     . rename_i s' he
       obtain ⟨g1, s1, r, g2, g3, g4⟩ := leaveE_ok (P := P) (E := E) h (fun i hi => (hs i hi).elim) hf
       refine ⟨g1, r, g2, DW.seqA hC.gok fun c hc => AW.clQ ?_⟩
       exact hV _ _ _ _ _ he E ⟨hn, fun i hi => (hs i hi).elim, trivial⟩ c hc _ (.inr ⟨_, g3, g4, nofun⟩)
     . cases h
 | .reg _, _, h, _, _, _ => by simp [evD] at h
 | .draw _ _ _, _, h, _, _, _ => by simp [evD] at h
 | .drawW _ _ _, _, h, _, _, _ => by simp [evD] at h
 | .cond _ _ _, _, h, _, _, _ => by simp [evD] at h
 | .block _ _, _, h, _, _, _ => by simp [evD] at h
 | .loop _, _, h, _, _, _ => by simp [evD] at h
 | .exit _, _, h, _, _, _ => by simp [evD] at h
 | .ret, _, h, _, _, _ => by simp [evD] at h
 | .skip, _, h, _, _, _ => by simp [evD] at h
 | .rangeF _ _ _ _, _, h, _, _, _ => by simp [evD] at h
theorem evDf_ok {ev : Ev} (hC : CfgOk P C) (hV : EvOk P ev) (hF : EvOkF P ev) {me g0 : Nat} (hbm : bodyM g0 = .panf) {rs : RS} {fi : FI} {fn : Func} (hf : fi.res = fn.results.toList) {res : Res} {H1 : EH} : ∀ (p : PC) (s : ES), evD C ev me g0 rs fi p s = some (res, H1) -> ∀ E : Ent, E.nt = fi.nt -> (∀ i, ¬ E.stab i) -> ResIds res.v (H1.toL rs) /\ ∃ r, res = .ret r /\ DWf P E panF fn r (H1.toL rs) p (s.abs rs)
 | .seq a b, s, h, E, hn, hs => by
   unfold evD at h
   split at h
   . rename_i t g caps hd
     obtain ⟨cl, rfl, hcal, hcl⟩ := isDef_at hd
     simp only at h
     split at h
     case h_2 => cases h
     rename_i ids hb
     have hbx := boxes_at hb
     rw [hbx, hbm] at h
     have core : ∀ e s', ev ⟨.panf, fi.nt, ids.map (·.1), rs, g0⟩ b ⟨s.f.put t (.cl g (ids.map fun p => .lp p.1 p.2)), s.h, s.n + 2097152⟩ = some (e, s') -> ∀ r, res = .ret r -> (∀ E' : Ent, (∀ i, E'.stab i ↔ i ∈ ids.map Prod.fst) -> clQ P E' (retD P C.Γ fn r (H1.toL rs) g ids) e (s'.abs rs)) -> DWf P E panF fn r (H1.toL rs) (.seq (.reg [⟨some t, .makeFunc (.func g) #[] caps.toArray, none⟩, ⟨none, .defer cl, none⟩]) b) (s.abs rs) := fun e s' he r hr hq => by
       refine DWf.defer hC.gok hC.eok hC.mix (s.n + 2097152) ids _ hcal hcl rfl rfl (show capL s.f.fn _ = _ by simpa using hbx) hs fun E' e1 e2 e3 => PWf.clQ ?_
       have := hF _ _ _ _ _ rfl he E' (by rw [e1, hn]) (fun i hi => (e2 i).1 hi) e3 _ (hq E' e2)
       rw [ES.abs, Tr.fn_put] at this
       exact this
     split at h
     . rename_i s' he
       simp only [Option.bind_eq_some_iff] at h
       obtain ⟨s1, h1, s2, h2, h3⟩ := h
       obtain ⟨g1, r, g2, g3⟩ := resE_ret hf (by simpa only [Option.bind_eq_some_iff] using h3)
       exact ⟨g1, r, g2, core _ s' he r g2 fun E' e2 => .inr ⟨_, fzAll_weak (fun i hi => (e2 i).1 hi) _ _ _ h1, closE_ok hC hV h2 g3, nofun⟩⟩
     . rename_i s' he
       simp only [Option.bind_eq_some_iff] at h
       obtain ⟨s1, h1, s2, h2, h3⟩ := h
       obtain ⟨g1, r, g2, g3⟩ := resE_ret hf (by simpa only [Option.bind_eq_some_iff] using h3)
       exact ⟨g1, r, g2, core _ s' he r g2 fun E' e2 => .inr ⟨_, fzAll_weak (fun i hi => (e2 i).1 hi) _ _ _ h1, closE_ok hC hV h2 g3, nofun⟩⟩
     . rename_i x s' he
       simp only [Option.bind_eq_some_iff] at h
       obtain ⟨s2, h2, h3⟩ := h
       obtain ⟨g1, r, g2, g3⟩ := resE_ret hf (by simpa only [Option.bind_eq_some_iff] using h3)
       exact ⟨g1, r, g2, core _ s' he r g2 fun E' e2 => .inl ⟨x, rfl, closE_ok hC hV h2 g3⟩⟩
     . cases h
   . split at h
     . rename_i s' he
       obtain ⟨g1, r, g2, g3⟩ := evDf_ok hC hV hF hbm hf b s' h E hn hs
       refine ⟨g1, r, g2, DWf.seqA hC.gok fun c hc => ?_⟩
       exact hV _ _ _ _ _ he E ⟨hn, fun i hi => (hs i hi).elim, trivial⟩ c hc _ g3
     . rename_i s' he
       obtain ⟨g1, s1, r, g2, g3, g4⟩ := leaveE_ok (P := P) (E := E) h (fun i hi => (hs i hi).elim) hf
       refine ⟨g1, r, g2, DWf.seqA hC.gok fun c hc => AW.clQ ?_⟩
       exact hV _ _ _ _ _ he E ⟨hn, fun i hi => (hs i hi).elim, trivial⟩ c hc _ (.inr ⟨_, g3, g4, nofun⟩)
     . cases h
 | .reg _, _, h, _, _, _ => by simp [evD] at h
 | .draw _ _ _, _, h, _, _, _ => by simp [evD] at h
 | .drawW _ _ _, _, h, _, _, _ => by simp [evD] at h
 | .cond _ _ _, _, h, _, _, _ => by simp [evD] at h
 | .block _ _, _, h, _, _, _ => by simp [evD] at h
 | .loop _, _, h, _, _, _ => by simp [evD] at h
 | .exit _, _, h, _, _, _ => by simp [evD] at h
 | .ret, _, h, _, _, _ => by simp [evD] at h
 | .skip, _, h, _, _, _ => by simp [evD] at h
 | .rangeF _ _ _ _, _, h, _, _, _ => by simp [evD] at h
theorem Cm.giveD {g : FuncId} {rs : RS} {L : EH} {az : List V} {r : V} {H1 : List (Nat × List V)} (ha : ∀ v ∈ az, A2 (fun _ => True) anyD v) (h : Ct P g (frzA L az) r H1) : Cm P g az (lk (L.toL rs)) [] (.ret r) (lk H1) := by
 refine ⟨h.1, fun G W xs hGW hargs hpre => ?_⟩
 unfold frzA at h
 generalize hfz : fzOf L (L.map (·.1)) = fz at h
 have hF : ∀ id cs, fzH fz id = some cs -> lk (L.toL rs) id = some cs := fun id cs e => by
   simp only [fzH, Option.map_eq_some_iff] at e
   obtain ⟨ds, h1, rfl⟩ := e
   rw [<- hfz] at h1
   rw [<- hp_eq, hp_at, (fzOf_at h1).2]; rfl
 have hB : ∀ id cs, fzH fz id = some cs -> HB G W id cs := fun id cs e => hpre.hb id cs (hF id cs e)
 have hI : ∀ b, fzIm G (fzH fz) b -> G.Im b \/ lentB G (lk (L.toL rs)) b := by
   rintro b (hb | ⟨i, hi, hp, rfl⟩)
   . exact .inl hb
   . obtain ⟨x, hx⟩ := Option.isSome_iff_exists.1 hi
     exact .inr ⟨i, by show (lk _ _).isSome = true; rw [hF i x hx]; rfl, hp, rfl⟩
 refine Calls.mono (h.2 { G with Im := fzIm G (fzH fz) } W xs ⟨fun b hb => ?_, hGW.2.mono fun b hb => ⟨.inl hb, rfl⟩⟩ (All2.map_left.2 (hargs.mono fun v hv x hx => cv2_rel hB (ha v hv) hx)) ⟨nofun, (fun i j h1 _ => by cases h1), nofun⟩) fun e W' hq => ?_
 . rcases hb with hb | ⟨i, hi, hp, rfl⟩
   . exact hGW.1 b hb
   . obtain ⟨x, hx⟩ := Option.isSome_iff_exists.1 hi
     exact (hB i x hx).lt hp
 . obtain ⟨G', hq⟩ := hq
   have hno : ∀ b, ¬ lentB { G with Im := fzIm G (fzH fz) } (fun _ => none) b := by rintro b ⟨i, hi, _⟩; cases hi
   exact ⟨G', { os := hq.os, tape := hq.tape, output := hq.output, drawn := hq.drawn, size := hq.size, block := fun b hb _ => hq.block b hb (hno b), im := fun b hb => ⟨(hq.im b hb).1, (hq.im b hb).2.elim (fun h => (hI b h).elim .inl fun h => .inr (.inr h)) fun h => h.elim (fun h => .inr (.inl h)) fun h => (hno b h).elim⟩, im0 := fun b hb => hq.im0 b (.inl hb), rv := hq.rv, wf := hq.wf, hb := fun i cs hi => ⟨(hq.hb i cs hi).1, fun hp => ((hq.hb i cs hi).2.1 hp).elim .inl fun h => (hno _ h).elim, (hq.hb i cs hi).2.2⟩, inj := hq.inj, st := nofun }⟩
theorem run_of {ev : Ev} (hC : CfgOk P C) (hV : EvOk P ev) (hF : EvOkF P ev) : RunOk P C ev := by
 intro me rs g az L ks N res H1 h hok hL hks
 unfold runE at h
 split at h
 . rename_i r hr
   cases h
   unfold memE at hr
   split at hr
   . split at hr
     . exact hC.mem rs g az _ hr
     . cases hr
   . cases hr
 split at h
 . rename_i ht
   exact hC.orc rs g az L ks _ h ht hL hks
 . rename_i fi ht
   unfold runT at h
   split at h
   case isFalse => cases h
   rename_i hn
   split at h
   . rename_i h0
     exact run_plain hC hV ht h0 hn hok hks h
   . split at h
     . rename_i h1
       unfold rnM at h
       split at h
       . rename_i r hr
         split at h
         case h_2 => cases h
         cases h
         cases ks with
         | nil => exact Cm.giveD (rs := rs) (L := L) (fun v hv => A2.mono (fun _ _ => trivial) (fun _ h => h) ((callOk_ids hok).2 v hv)) (hC.mem rs g _ _ hr)
         | cons k r => cases hr
       unfold rnD at h
       split at h
       case isFalse => cases h
       rename_i hc
       simp only [Bool.and_eq_true, List.isEmpty_iff] at hc
       obtain ⟨rfl, hcl⟩ := hc
       obtain ⟨fn, c, q1, q2, q3, q4, q5, q6⟩ := hC.tab g fi ht (by omega)
       cases hg : Nat.beq g panF with
       | false =>
         have hbm : bodyM g = .plain := by unfold bodyM; rw [hg]; rfl
         have key := fun E => evD_ok hC hV hbm q6 fi.pc _ h E
         obtain ⟨g1, r, g2, _⟩ := key { W0 := default, Im0 := fun _ => False, mu := fun _ => False, β0 := id, bs0 := id, lo0 := fun _ => false, stab := fun _ => False, nt := fi.nt, rd := none } rfl (fun _ h => h)
         subst g2
         refine Cm.giveD (rs := rs) (L := L) (fun v hv => A2.mono (fun _ _ => trivial) (fun _ h => h) ((callOk_ids hok).2 v hv)) ?_
         refine Ct.byDN lo hC.gok q1 (by rw [q2]; exact q3) q4 (by rw [<- q5]; simpa [frzA] using Nat.le_of_ble_eq_true hn) (fun v hv => A2.mono (fun _ h => by simp at h) (fun _ h => h) (A2_of (List.all_eq_true.1 hcl v hv))) g1 fun E e1 e2 => ?_
         obtain ⟨_, r', e3, h3⟩ := key E (by rw [e2, q5]) e1
         cases e3
         rw [ES.abs, Tr.fn_args, hp_eq] at h3
         exact h3
       | true =>
         have hbm : bodyM g = .panf := by unfold bodyM; rw [hg]; rfl
         have hg := Nat.eq_of_beq_eq_true hg
         subst hg
         have key := fun E => evDf_ok hC hV hF hbm q6 fi.pc _ h E
         obtain ⟨g1, r, g2, _⟩ := key { W0 := default, Im0 := fun _ => False, mu := fun _ => False, β0 := id, bs0 := id, lo0 := fun _ => false, stab := fun _ => False, nt := fi.nt, rd := none } rfl (fun _ h => h)
         subst g2
         refine Cm.giveD (rs := rs) (L := L) (fun v hv => A2.mono (fun _ _ => trivial) (fun _ h => h) ((callOk_ids hok).2 v hv)) ?_
         refine Ct.byDfN lo hC.gok q1 (by rw [q2]; exact q3) q4 (by rw [<- q5]; simpa [frzA] using Nat.le_of_ble_eq_true hn) (fun v hv => A2.mono (fun _ h => by simp at h) (fun _ h => h) (A2_of (List.all_eq_true.1 hcl v hv))) g1 fun E e1 e2 => ?_
         obtain ⟨_, r', e3, h3⟩ := key E (by rw [e2, q5]) e1
         cases e3
         rw [ES.abs, Tr.fn_args, hp_eq] at h3
         exact h3
     . cases h
def RgB (P : Program) (E : Ent) (fo : Operand) (ps : List Nat) (pa pb : PC) (Q : AExit -> St -> Prop) (st : St) : Prop :=
 ∃ g caps args Hin ks res H1, calleeOf (evF st.fr fo) = some (g, caps) /\ CallA P (upd st.H st.nx (some [.lr st.fr E.nt ps pa pb .ready])) g (.yl st.nx :: caps) args Hin ks res H1 /\ st.nx ∈ ks /\
   match res with
   | .ret _ => ∃ jmp, H1 st.nx = some [.lr st.fr E.nt ps pa pb jmp] /\ jumpQ Q ⟨st.fr, upd (heapM (upd st.H st.nx (some [.lr st.fr E.nt ps pa pb .ready])) (st.nx + 1048576) Hin ks H1) st.nx none, st.nx + 2097152⟩ jmp
   | .pan r => Q (.pan (ren (sg ks (st.nx + 1048576)) r)) ⟨st.fr, upd (heapM (upd st.H st.nx (some [.lr st.fr E.nt ps pa pb .ready])) (st.nx + 1048576) Hin ks H1) st.nx none, st.nx + 2097152⟩
theorem range_core {ev : Ev} (_ : CfgOk P C) (hR : RunOk P C ev) {X : Cx} (hnt : E.nt = X.nt) {fo : Operand} {ps : List Nat} {pa pb : PC} {s s' : ES} {e : AExit} {g : FuncId} {caps : List V} (hcal : calleeOf (evF s.f.fn fo) = some (g, caps))
   {q : CR} (hq : callE C ev X.me ((s.n, ⟨s.f, X.nt, ps, pa, pb, X.me⟩) :: X.rs) true ((s.n, .st .ready) :: s.h) (s.n + 1048576) g (.yl s.n :: caps) = some q)
   (hres : eRan2 s s.n q = some (e, s')) {Q : AExit -> St -> Prop} (hQ : Q e (s'.abs X.rs)) : RgB P E fo ps pa pb Q (s.abs X.rs) := by
 unfold eRan2 at hres
 split at hres
 case isFalse => cases hres
 rename_i hks
 have hks : s.n ∈ q.ks := by simpa using hks
 generalize hrs : ((s.n, (⟨s.f, X.nt, ps, pa, pb, X.me⟩ : Rc)) :: X.rs) = rs' at *
 obtain ⟨h1, h2⟩ := callE_ok hR hq
 have e0 : EH.hp rs' ((s.n, .st .ready) :: s.h) = upd (s.h.hp X.rs) s.n (some [.lr s.f.fn E.nt ps pa pb .ready]) := by
   subst hrs
   funext i
   simp only [hp_at, lk, upd_at]
   by_cases hi : i = s.n
   . subst hi; simp [EC.toC, lk, hnt]
   . simp only [if_neg hi]
     cases lk s.h i with
     | none => rfl
     | some c => cases c <;> simp [EC.toC, lk, hi]
 have e1 : EH.hp rs' (q.h ((s.n, .st .ready) :: s.h) (s.n + 1048576)) = heapM (upd (s.h.hp X.rs) s.n (some [.lr s.f.fn E.nt ps pa pb .ready])) (s.n + 1048576) (lk (q.L.toL rs')) q.ks (lk (q.H1.toL rs')) := by rw [h1.hp, e0]
 have e2 : EH.hp X.rs (hdel (q.h ((s.n, .st .ready) :: s.h) (s.n + 1048576)) s.n) = upd (heapM (upd (s.h.hp X.rs) s.n (some [.lr s.f.fn E.nt ps pa pb .ready])) (s.n + 1048576) (lk (q.L.toL rs')) q.ks (lk (q.H1.toL rs'))) s.n none := by
   rw [<- e1]
   subst hrs
   funext i
   rw [hp_hdel]
   simp only [upd_at, hp_at]
   by_cases hi : i = s.n
   . simp [hi]
   . simp only [if_neg hi]
     cases lk (q.h ((s.n, .st .ready) :: s.h) (s.n + 1048576)) i with
     | none => rfl
     | some c => cases c <;> simp [EC.toC, lk, hi]
 refine ⟨g, caps, _, _, q.ks, q.res, _, hcal, ⟨h2, by have := h1.callB; rw [e0] at this; exact this⟩, hks, ?_⟩
 cases hqr : q.res with
 | pan v =>
   rw [hqr] at hres
   simp only [Option.some.injEq, Prod.mk.injEq] at hres
   obtain ⟨rfl, rfl⟩ := hres
   rw [ES.abs, e2] at hQ
   exact hQ
 | ret v =>
   rw [hqr] at hres
   simp only at hres
   split at hres
   . rename_i j hj
     refine ⟨j, ?_, ?_⟩
     . show (lk (q.H1.toL rs')) s.n = _
       rw [<- hp_eq, hp_at, hj, <- hrs]
       simp [EC.toC, lk, hnt]
       rfl
     . have : ∀ e0, some (e0, (⟨s.f, hdel (q.h ((s.n, .st .ready) :: s.h) (s.n + 1048576)) s.n, s.n + 2097152⟩ : ES)) = some (e, s') -> Q e0 ⟨s.f.fn, upd (heapM (upd (s.h.hp X.rs) s.n (some [.lr s.f.fn E.nt ps pa pb .ready])) (s.n + 1048576) (lk (q.L.toL rs')) q.ks (lk (q.H1.toL rs'))) s.n none, s.n + 2097152⟩ := fun e3 he => by
         simp only [Option.some.injEq, Prod.mk.injEq] at he
         obtain ⟨rfl, rfl⟩ := he
         rw [ES.abs, e2] at hQ
         exact hQ
       unfold eEnd at hres
       split at hres
       . exact this _ hres
       . exact this _ hres
       . exact this _ hres
       . cases hres
   . cases hres
theorem rqN_of {X : Cx} (hX : EOk E X) {s : ES} (hokm : okR X s.h = true) : E.rqN (s.abs X.rs).H := by
 have hm2 := hX.m
 unfold okR at hokm
 cases hXm : X.m with
 | plain => rw [hXm] at hm2; exact .inl hm2
 | nomark => rw [hXm] at hokm; cases hokm
 | panf => rw [hXm] at hm2; exact hm2.elim
 | round k =>
   rw [hXm] at hokm hm2
   simp only at hokm
   split at hokm
   . rename_i st r hs hr
     exact .inr ⟨k, r.F.fn, r.nt, r.ps, r.pa, r.pb, st, hm2.1, hm2.2, by show (s.h.hp X.rs) k = _; rw [hp_at, hs]; simp [EC.toC, hr]⟩
   . cases hokm
theorem evs_step (hC : CfgOk P C) (n : Nat) (ih : ∀ m, m < n -> EvOk P (ev C m)) (ihF : ∀ m, m < n -> EvOkF P (ev C m)) : EvOk P (ev C n) := by
   intro X p s e s' h E hX c hc Q hq
   cases n with
   | zero => cases h
   | succ n =>
     have hV := ih n (Nat.lt_succ_self n)
     have hR := run_of hC hV (ihF n (Nat.lt_succ_self n))
     have hY := yld_of hC.pf hV
     have hev : ∀ p, evM C (ev C n) X p s = evS C (ev C n) X p s := fun p => by unfold evM; rw [hX.npf]; rfl
     have hO := h
     have h : evS C (ev C n) X p s = some (e, s') := by rw [<- hev]; exact h
     cases c with
     | seq x y =>
       simp only [comp, Option.bind_eq_some_iff, Option.map_eq_some_iff] at hc
       obtain ⟨a, ha, b, hb, rfl⟩ := hc
       have h : eSeq (ev C n) X b (ev C n X a s) = some (e, s') := h
       refine AW.seq ?_
       unfold eSeq at h
       split at h
       . rename_i e1 s1 h1
         split at h
         . exact hV X a s .normal s1 h1 E hX x ha _ (hV X b s1 e s' h E hX y hb Q hq)
         . rename_i hne
           rw [h1] at h
           simp only [Option.some.injEq, Prod.mk.injEq] at h
           obtain ⟨rfl, rfl⟩ := h
           refine hV X a s e1 s1 h1 E hX x ha _ ?_
           cases e1 with
           | normal => exact absurd rfl hne
           | _ => exact hq
       . rename_i h1
         rw [h1] at h; cases h
     | cond o x y =>
       simp only [comp, Option.bind_eq_some_iff, Option.map_eq_some_iff] at hc
       obtain ⟨a, ha, b, hb, rfl⟩ := hc
       have h : eCnd (ev C n) X a b s (evF s.f.fn o) = some (e, s') := h
       unfold eCnd at h
       split at h
       . rename_i ho
         exact AW.cond (b := true) ho (fun _ => hV X a s e s' h E hX x ha Q hq) nofun
       . rename_i ho
         exact AW.cond (b := false) ho nofun (fun _ => hV X b s e s' h E hX y hb Q hq)
       . cases h
     | block id x =>
       simp only [comp, Option.map_eq_some_iff] at hc
       obtain ⟨a, ha, rfl⟩ := hc
       have h : eBlk id (ev C n X a s) = some (e, s') := h
       refine AW.block ?_
       unfold eBlk at h
       split at h
       . rename_i e1 s1 h1
         split at h
         . rename_i j
           simp only [Option.some.injEq, Prod.mk.injEq] at h
           obtain ⟨h2, rfl⟩ := h
           refine hV X a s _ _ h1 E hX x ha _ ?_
           simp only [blkQ]
           split
           . rename_i hj; rw [if_pos hj] at h2; rw [h2]; exact hq
           . rename_i hj; rw [if_neg hj] at h2; rw [h2]; exact hq
         . rename_i hne
           rw [h1] at h
           simp only [Option.some.injEq, Prod.mk.injEq] at h
           obtain ⟨rfl, rfl⟩ := h
           refine hV X a s e1 s1 h1 E hX x ha _ ?_
           cases e1 with
           | exit j => exact absurd rfl (hne j)
           | _ => exact hq
       . rename_i h1
         rw [h1] at h; cases h
     | loop x =>
       simp only [comp, Option.map_eq_some_iff] at hc
       obtain ⟨a, ha, rfl⟩ := hc
       exact ev_loop (n + 1) ih hX ha hq hO
     | exit id =>
       simp only [comp, Option.some.injEq] at hc
       subst hc
       have h := Option.some.inj (show some (_, s) = some (e, s') from h)
       simp only [Prod.mk.injEq] at h
       obtain ⟨rfl, rfl⟩ := h
       exact AW.exit hq
     | ret =>
       simp only [comp, Option.some.injEq] at hc
       subst hc
       have h := Option.some.inj (show some (_, s) = some (e, s') from h)
       simp only [Prod.mk.injEq] at h
       obtain ⟨rfl, rfl⟩ := h
       exact AW.ret hq
     | skip =>
       simp only [comp, Option.some.injEq] at hc
       subst hc
       have h := Option.some.inj (show some (_, s) = some (e, s') from h)
       simp only [Prod.mk.injEq] at h
       obtain ⟨rfl, rfl⟩ := h
       exact AW.skip hq
     | rangeFunc fo ps x y =>
       have hc0 := hc
       simp only [comp, Option.bind_eq_some_iff, Option.map_eq_some_iff] at hc
       obtain ⟨a, ha, b, hb, rfl⟩ := hc
       have h : eRan C (ev C n) X fo ps.toList a b s = some (e, s') := h
       simp only [eRan, Option.bind_eq_some_iff] at h
       obtain ⟨s0, h0, h⟩ := h
       refine AW.weak (clean_weak hX.stab h0) (AW.range ha hb ?_)
       unfold eRan0 at h
       split at h
       case isFalse => cases h
       rename_i hcnd
       rw [hX.npf] at hcnd
       simp only [Bool.and_eq_true, Bool.false_or, Bool.not_eq_true', beq_eq_false_iff_ne] at hcnd
       split at h
       case h_2 => cases h
       rename_i g caps hcal
       unfold eRan1 at h
       split at h
       case h_2 => cases h
       rename_i q hq1
       exact ⟨⟨rqN_of (s := s0) hX hcnd.1, by rw [hX.nt]; exact hcnd.2⟩, range_core hC hR hX.nt hcal hq1 h hq⟩
     | region id ops draw =>
       have hc0 := hc
       cases draw with
       | false =>
         simp only [comp, Bool.false_eq_true, if_false, Option.ite_none_right_eq_some, Option.some.injEq] at hc
         obtain ⟨hd, rfl⟩ := hc
         exact PW.sound hC.gok hC.eok hC.mix _ _ hc0 _ _ (regE_sound hR hY (Kx := fun v f H n => Q (.pan v) ⟨f, H, n⟩) (K := fun f H n => Q .normal ⟨f, H, n⟩) _ _ _ _ h (fun he => by rw [he] at hq; exact hq) (fun v he => by rw [he] at hq; exact hq)).2
       | true =>
         simp only [comp, if_true, Option.ite_none_right_eq_some, Option.some.injEq] at hc
         obtain ⟨hd, rfl⟩ := hc
         by_cases hw : (((ops.toList.take (mOf (clOf ops.toList) ops.toList.length)).map (poOf ops.toList)).any isStore) = true
         . rw [mkDraw, if_pos hw] at hc0 h
           refine PW.sound hC.gok hC.eok hC.mix _ _ hc0 _ _ ?_
           have h : eDW C (ev C n) X _ _ _ s (drawE C (ev C n) X.me X.rs [] _ true s.n _ 0 s.f s.h s.n) = some (e, s') := h
           unfold eDW at h
           split at h
           case h_2 => cases h
           rename_i ws _ hx
           split at h
           case isFalse => cases h
           rename_i hws
           unfold eBs at h
           split at h
           case h_2 => cases h
           rename_i w y hy
           exact ⟨ws, hws, drawE_sound hR hY _ _ _ _ _ _ _ hy (regE_sound hR hY (Kx := fun v f H n => Q (.pan v) ⟨f, H, n⟩) (K := fun f H n => Q .normal ⟨f, H, n⟩) _ _ _ _ h (fun he => by rw [he] at hq; exact hq) (fun v he => by rw [he] at hq; exact hq)).2⟩
         . rw [mkDraw, if_neg hw] at hc0 h
           refine PW.sound hC.gok hC.eok hC.mix _ _ hc0 _ _ ?_
           have h : eBs C (ev C n) X _ (drawE C (ev C n) X.me X.rs [] _ false s.n _ 0 s.f s.h s.n) = some (e, s') := h
           unfold eBs at h
           split at h
           case h_2 => cases h
           rename_i w y hy
           exact drawE_sound hR hY _ _ _ _ _ _ _ hy (regE_sound hR hY (Kx := fun v f H n => Q (.pan v) ⟨f, H, n⟩) (K := fun f H n => Q .normal ⟨f, H, n⟩) _ _ _ _ h (fun he => by rw [he] at hq; exact hq) (fun v he => by rw [he] at hq; exact hq)).2
     | _ => simp [comp] at hc
theorem evF_step (hC : CfgOk P C) (n : Nat) (ih : ∀ m, m < n -> EvOk P (ev C m)) (ihF : ∀ m, m < n -> EvOkF P (ev C m)) : EvOkF P (ev C n) := by
 intro X p s e s' hm h E h1 h2 h3 Q hq
 cases n with
 | zero => cases h
 | succ n =>
   have hV := ih n (Nat.lt_succ_self n)
   have hF := ihF n (Nat.lt_succ_self n)
   have hR := run_of hC hV hF
   have h : evF' C (ev C n) X p s = some (e, s') := by
     have h0 : evM C (ev C n) X p s = some (e, s') := h
     unfold evM at h0
     rw [hm] at h0
     exact h0
   have oth : ev C n { X with m := .plain } p s = some (e, s') -> PWf P E panF p Q (s.abs X.rs) := fun h0 =>
     PWf.ofA fun c hc => hV _ _ _ _ _ h0 E ⟨h1, h2, h3⟩ c hc Q hq
   cases p with
   | seq a b =>
     have h : eSeq (ev C n) X b (ev C n X a s) = some (e, s') := h
     refine PWf.seq ?_
     unfold eSeq at h
     split at h
     . rename_i e1 s1 hs1
       split at h
       . exact hF X a s .normal s1 hm hs1 E h1 h2 h3 _ (hF X b s1 e s' hm h E h1 h2 h3 Q hq)
       . rename_i hne
         rw [hs1] at h
         simp only [Option.some.injEq, Prod.mk.injEq] at h
         obtain ⟨rfl, rfl⟩ := h
         refine hF X a s e1 s1 hm hs1 E h1 h2 h3 _ ?_
         cases e1 with
         | normal => exact absurd rfl hne
         | _ => exact hq
     . rename_i hs1
       rw [hs1] at h; cases h
   | block id a =>
     have h : eBlk id (ev C n X a s) = some (e, s') := h
     refine PWf.block ?_
     unfold eBlk at h
     split at h
     . rename_i e1 s1 hs1
       split at h
       . rename_i j
         simp only [Option.some.injEq, Prod.mk.injEq] at h
         obtain ⟨hj2, rfl⟩ := h
         refine hF X a s _ _ hm hs1 E h1 h2 h3 _ ?_
         simp only [blkQ]
         split
         . rename_i hj; rw [if_pos hj] at hj2; rw [hj2]; exact hq
         . rename_i hj; rw [if_neg hj] at hj2; rw [hj2]; exact hq
       . rename_i hne
         rw [hs1] at h
         simp only [Option.some.injEq, Prod.mk.injEq] at h
         obtain ⟨rfl, rfl⟩ := h
         refine hF X a s e1 s1 hm hs1 E h1 h2 h3 _ ?_
         cases e1 with
         | exit j => exact absurd rfl (hne j)
         | _ => exact hq
     . rename_i hs1
       rw [hs1] at h; cases h
   | rangeF fo ps pa pb =>
     have h : eRan C (ev C n) X fo ps pa pb s = some (e, s') := h
     simp only [eRan, Option.bind_eq_some_iff] at h
     obtain ⟨s0, h0, h⟩ := h
     refine PWf.weak (clean_weak h2 h0) (PWf.range ?_)
     unfold eRan0 at h
     split at h
     case isFalse => cases h
     split at h
     case h_2 => cases h
     rename_i g caps hcal
     unfold eRan1 at h
     split at h
     case h_2 => cases h
     rename_i q hq1
     exact ⟨⟨h3, fun _ => rfl⟩, range_core hC hR h1 hcal hq1 h hq⟩
   | _ => exact oth h
theorem ev_both (hC : CfgOk P C) : ∀ n, EvOk P (ev C n) /\ EvOkF P (ev C n) := by
 intro n
 induction n using Nat.strongRecOn with
 | _ n ih => exact ⟨evs_step hC n (fun m hm => (ih m hm).1) fun m hm => (ih m hm).2, evF_step hC n (fun m hm => (ih m hm).1) fun m hm => (ih m hm).2⟩
theorem ev_sound (hC : CfgOk P C) (n : Nat) : EvOk P (ev C n) := (ev_both hC n).1
end Go.Psl
namespace Go.Psl
def isRec : Op -> Bool
 | .call c => (match c.callee with | .builtin .recover => true | _ => false) && c.args.isEmpty
 | _ => false
def recOf : Code -> Option (Nat × Nat × Code)
 | .seq (.region _ ops false) rest => match ops.toList with
   | [o1, o2] => (match o1.dst, o2.dst, o2.op with
     | some a, some b, .assign (.tmp a') => if isRec o1.op && o1.guard.isNone && o2.guard.isNone && (a == a') then some (a, b, rest) else none
     | _, _, _ => none)
   | _ => none
 | _ => none
theorem exec_rec {P : Program} {o : Oper} (h : isRec o.op = true) (ρ : Operand -> Value) (W : World) : (execOp ρ o).run P W = .ok .recover W := by
 unfold isRec at h
 split at h
 . rename_i c hc
   obtain ⟨cc, az, ts⟩ := c
   simp only [Bool.and_eq_true, Array.isEmpty_iff] at h
   obtain ⟨h1, rfl⟩ := h
   split at h1
   . rename_i hb
     simp only [execOp, hc, resolve]
     rfl
   . cases h1
 . cases h
theorem recOf_at {c rest : Code} {a b : Nat} (h : recOf c = some (a, b, rest)) : ∃ id o1 o2, c = .seq (.region id #[o1, o2] false) rest /\ o1.dst = some a /\ o2.dst = some b /\ o1.guard = none /\ o2.guard = none /\ isRec o1.op = true /\ o2.op = .assign (.tmp a) := by
 unfold recOf at h
 split at h
 . rename_i id ops rest'
   split at h
   . rename_i o1 o2 ho
     split at h
     . rename_i x y z e1 e2 e3
       split at h
       . rename_i hc
         simp only [Bool.and_eq_true, Option.isNone_iff_eq_none, beq_iff_eq] at hc
         cases h
         obtain ⟨⟨⟨h1, h2⟩, h3⟩, h4⟩ := hc
         subst h4
         refine ⟨id, o1, o2, ?_, e1, e2, h2, h3, h1, e3⟩
         have : ops = #[o1, o2] := by cases ops; simp_all
         rw [this]
       . cases h
     . cases h
   . cases h
 . cases h
def bs (l : List UInt8) : ByteArray := ⟨l.toArray⟩
theorem bs_mk (l : List UInt8) : ByteArray.mk l.toArray = bs l := nrfl rfl
theorem bs_empty : ByteArray.empty = bs [] := nrfl rfl
theorem bs_size (l : List UInt8) : (bs l).size = l.length := by simp [bs, ByteArray.size]
theorem bs_append (a b : List UInt8) : bs a ++ bs b = bs (a ++ b) := by
 apply ByteArray.ext
 simp [bs]
theorem bs_get (l : List UInt8) (i : Nat) : (bs l)[i]? = l[i]? := by
 by_cases h : i < l.length
 . have : i < (bs l).size := by rw [bs_size]; exact h
   rw [getElem?_pos (bs l) i this, List.getElem?_eq_getElem h]
   rfl
 . have : ¬ i < (bs l).size := by rw [bs_size]; exact h
   rw [getElem?_neg (bs l) i this, List.getElem?_eq_none (by omega)]
theorem bs_getE (l : List UInt8) (i : Nat) (h : i < (bs l).size) : (bs l)[i] = l[i]'(by rw [<- bs_size]; exact h) := by
 have h2 : i < l.length := by rw [<- bs_size]; exact h
 have := bs_get l i
 rw [getElem?_pos (bs l) i h, List.getElem?_eq_getElem h2] at this
 exact Option.some.inj this
theorem bs_extract (l : List UInt8) (i j : Nat) : (bs l).extract i j = bs ((l.take j).drop i) := by
 apply ByteArray.ext
 simp [bs, List.drop_take]
theorem bs_inj {a b : List UInt8} : bs a = bs b ↔ a = b := by
 constructor
 . intro h
   have := congrArg (fun s : ByteArray => s.data.toList) h
   simpa [bs] using this
 . intro h; rw [h]
theorem bs_beq (a b : List UInt8) : (bs a == bs b) = decide (a = b) := by
 by_cases h : a = b
 . subst h
   simp only [decide_true]
   exact bytes_refl _
 . rw [decide_eq_false h]
   cases hq : (bs a == bs b)
   . rfl
   . exact absurd (bs_inj.1 (bytes_beq hq)) h
theorem bs_bne (a b : List UInt8) : (bs a != bs b) = !decide (a = b) := by
 rw [bne, bs_beq]
theorem bldZ_eq : bldZ [.pointer none, .slice none 0 0] = true := nrfl rfl
theorem WC_yl {ρ : Nat -> Option Nat} {v : V} {i : Nat} : WC ρ v (.yl i) = W0 ρ v (.yl i) := nrfl rfl
theorem renC_yl {ρ : Nat -> Nat} {i : Nat} : renC ρ (.yl i) = .yl (ρ i) := nrfl rfl
attribute [simp] WC_yl renC_yl bldZ_eq bldT_eq bs_mk bs_empty bs_size bs_append bs_get bs_getE bs_extract bs_beq bs_bne
end Go.Psl
namespace Go.Psl
open Go.RowKit
variable {P : Program}
theorem lit_args {G : Gh} {W : World} : ∀ {vs0 : List Value} {xs : List Value}, All2 (R2 G W) (vs0.map cV) xs -> xs = vs0
 | [], [], _ => rfl
 | a :: as0, x :: xs, h => by
   have h1 : x = a := rv_lit (R2.rv h.1)
   rw [h1, lit_args h.2]
 | [], _ :: _, h => h.elim
 | _ :: _, [], h => h.elim
def GlobN (W : World) : Prop := ∃ Wr : World, globW Wr /\ ∀ k, k < Wr.heap.size -> W.heap[k]? = Wr.heap[k]?
theorem GW.globN {Im : Nat -> Prop} {W : World} (h : GW Im W) : GlobN W := by
 obtain ⟨_, Wr, h1, h2⟩ := h
 exact ⟨Wr, h1, fun k hk => (h2 k hk).2⟩
theorem Cm.ofBelow {f : FuncId} {vs0 : List Value} {r : V} {v : Value} (hf : isFn P f) (hr : ∀ G W, RV G W r v) (hw : AV (fun _ => False) anyD r)
   (h : ∀ W, GlobN W -> Calls P f vs0.toArray W fun e W' => e = .returned v /\ Below W.heap.size W W') : Ct P f (vs0.map cV) r [] := by
 refine ⟨hf, fun G W xs hGW hargs hpre => ?_⟩
 have hx := lit_args hargs
 obtain ⟨xs⟩ := xs
 simp only at hx
 subst hx
 refine Calls.mono (h W hGW.globN) fun e W' ⟨he, hb⟩ => ?_
 subst he
 refine ⟨{ G with Im := G.Im }, ⟨hb.os, hb.tape, hb.output, Nat.le_refl _, hb.size, fun b hb' _ => hb.block b hb', fun b hb' => ⟨Nat.lt_of_lt_of_le (hGW.1 b hb') hb.size, .inl hb'⟩, fun _ h => h, hr _ _, AV.mono (fun _ h => h.elim) (fun _ h => h) hw, ?_, ?_, ?_⟩⟩
 . intro i cs h; cases h
 . intro i j h; simp [InH, lk] at h
 . intro i h; cases h
theorem Cm.ofLit {f : FuncId} {vs0 : List Value} {v : Value} (hf : isFn P f) (hv : flatV v = true)
   (h : ∀ W, GlobN W -> Calls P f vs0.toArray W fun e W' => e = .returned v /\ Below W.heap.size W W') : Ct P f (vs0.map cV) (cV v) [] :=
 Cm.ofBelow hf (fun _ _ => RD.lit v hv) trivial h
theorem tup_lits {G : Gh} {W : World} : ∀ {vs : List Value}, (∀ v ∈ vs, flatV v = true) -> All2 (R2 G W) (vs.map cV) vs
 | [], _ => trivial
 | v :: vs, h => ⟨RD.lit v (h v (by simp)), tup_lits fun w hw => h w (by simp [hw])⟩
theorem Cm.ofTup {f : FuncId} {vs0 vs : List Value} (hf : isFn P f) (hv : ∀ v ∈ vs, flatV v = true)
   (h : ∀ W, GlobN W -> Calls P f vs0.toArray W fun e W' => e = .returned (.tuple vs.toArray) /\ Below W.heap.size W W') : Ct P f (vs0.map cV) (.tup (vs.map cV)) [] :=
 Cm.ofBelow hf (fun _ _ => ⟨vs.toArray, rfl, tup_lits hv⟩) (fun c hc => by obtain ⟨v, _, rfl⟩ := List.mem_map.1 hc; trivial) h
end Go.Psl
namespace Go.Psl
open Go.Proofs Go.Shelf Go.RowKit Go.Lib
variable {P : Program} {ρ : Ren}
theorem run_put (w : World) (t u ty e : TypeId) (i : TypeInfo) (ht : P.underlying t = some (.slice e)) (hu : P.underlying u = some .string) (hi : P.info? e = some i) (hz : i.zero = some (.int .u8 0))
   (hsize : i.size = 1) (hby : i.bytes = 1) (v : Value) (n : Nat) (xs : List Value) (hown : w.ownsRowF 0 e 1 v n xs) (s : ByteArray) (h0 : 0 < s.size) (hbytes : n + s.size <= 140737488355328) :
   ∃ v' w', (Builtin.append_ #[t, u] ty #[v, .string s]).run P w = .ok v' w' /\ w'.ownsRowF 0 e 1 v' (n + s.size) (xs ++ strCells s) /\ w.grownBy w' v.ownBlock /\ (∃ g cap, v' = .slice (some ⟨g, 0, none⟩) (n + s.size) cap /\ (some g = v.ownBlock \/ w.heap.size <= g)) /\ w.drawn <= w'.drawn := by
 have h63 : n + s.size <= maxLen := by unfold maxLen; omega
 have hxl : xs.length = n := by simpa using hown.1
 obtain ⟨v', w', hr, h2, h3, _⟩ := run_append_own_stringF (P := P) w 0 t u ty e i ht hu hi hz hsize hby v n xs hown s h63 hbytes (Nat.zero_le _)
 refine ⟨v', w', hr, h2, h3, ?_⟩
 rcases hown.2 with ⟨rfl, rfl⟩ | ⟨g, cap, cur, fz, rfl, _, hg, hfz, hnc, hcm, hcs, htake⟩
 . have hx : xs = [] := List.eq_nil_of_length_eq_zero hxl
   subst hx
   obtain ⟨v2, w2, hr2, h5, _⟩ := run_append_own_stringF (P := P) w w.heap.size t u ty e i ht hu hi hz hsize hby (.slice none 0 0) 0 [] (World.ownsRowF_nil w _ e 1) s h63 hbytes (Nat.le_refl _)
   have hr3 := run_append_nil_string (P := P) w t u ty e i (.int .u8 0) ht hu hi hz s (by omega) (by omega) (by rw [hby]; omega)
   have hr4 := hr2.symm.trans hr
   cases hr4
   refine ⟨?_, ?_⟩
   . rcases h5.2 with ⟨_, h⟩ | ⟨g, cap, cur, fz, hv, hb, _⟩
     . omega
     . exact ⟨g, cap, hv, .inr hb⟩
   . have hr5 := hr3.symm.trans hr
     simp only [Result.ok.injEq] at hr5
     rw [<- hr5.2]
     exact Nat.le_succ _
 . by_cases hroom : n + s.size <= cap
   . have hcs' : cur.size = cap := by simpa using hcs
     have hr2 := run_append_room_stringF (P := P) w t u ty e i ht hu hi hsize g n cap cur fz hg (by simpa using hfz) s hroom (by omega)
     rw [hr2] at hr
     cases hr
     exact ⟨⟨g, cap, rfl, .inl rfl⟩, Nat.le_refl _⟩
   . have holds : ∀ j u, xs[j]? = some u -> w.cell? ((⟨g, 0, none⟩ : Addr).add j) = some u := hown.cells (g := g) rfl
     have hr2 := run_append_grow_string (P := P) w t u ty e i (.int .u8 0) ht hu hi hz ⟨g, 0, none⟩ n cap xs (by rw [hsize]; simpa using hxl) holds s (by omega) (by omega) (by rw [hby]; exact growslice_fits (by omega) (by omega))
     rw [hr2] at hr
     cases hr
     exact ⟨⟨_, _, rfl, .inr (Nat.le_refl _)⟩, Nat.le_succ _⟩
theorem wpList_put {ops : Array Oper} {rest : List Oper} {o : Oper} {a : Act} {Q : Exit -> Act -> World -> Prop} (w : World) (hgd : o.guard = none) (sl x : Operand) (t u : TypeId)
   (ho : o.op = .call { callee := .builtin .append, args := #[sl, x], argTypes := #[t, u] })
   (e : TypeId) (i : TypeInfo) (ht : P.underlying t = some (.slice e)) (hu : P.underlying u = some .string) (hi : P.info? e = some i) (hz : i.zero = some (.int .u8 0))
   (hsize : i.size = 1) (hby : i.bytes = 1) (v : Value) (n : Nat) (xs : List Value) (hs : a.eval sl = v) (hown : w.ownsRowF 0 e 1 v n xs) (s : ByteArray) (hx : a.eval x = .string s) (h0 : 0 < s.size) (hbytes : n + s.size <= 140737488355328)
   (h : ∀ v' w', w'.ownsRowF 0 e 1 v' (n + s.size) (xs ++ strCells s) -> w.grownBy w' v.ownBlock -> (∃ g cap, v' = .slice (some ⟨g, 0, none⟩) (n + s.size) cap /\ (some g = v.ownBlock \/ w.heap.size <= g)) -> w.drawn <= w'.drawn -> wpList P ops Q rest (a.put o.dst v') w') : wpList P ops Q (o :: rest) a w := by
 refine wpList_plain hgd fun K hK => ?_
 obtain ⟨v', w', hr, h2, h3, h4, h5⟩ := run_put (P := P) w t u o.type e i ht hu hi hz hsize hby v n xs hown s h0 hbytes
 unfold Oper.wp execOp
 simp only [ho, resolve, invoke, builtin, Sem.run_bind, Sem.run_pure, Result.andThen_ok, List.map_toArray, List.map_cons, List.map_nil, hs, hx, hr]
 exact hK _ _ (h v' w' h2 h3 h4 h5)
structure Wrote (T e : TypeId) (b : Nat) (v : Value) (n : Nat) (bs : List Value) (s : ByteArray) (w w' : World) : Prop where
 os : w'.os = w.os
 tape : w'.tape = w.tape
 output : w'.output = w.output
 drawn : w.drawn <= w'.drawn
 size : w.heap.size <= w'.heap.size
 at' : ∃ g cap, w'.heap[b]? = some (.cells #[.pointer (some ⟨b, 0, none⟩), .slice (some ⟨g, 0, none⟩) (n + s.size) cap] T (0, 0)) /\ w'.ownsRowF 0 e 1 (.slice (some ⟨g, 0, none⟩) (n + s.size) cap) (n + s.size) (bs ++ strCells s) /\ g ≠ b /\ (some g = v.ownBlock \/ w.heap.size <= g)
 block : ∀ k, k < w.heap.size -> k ≠ b -> some k ≠ v.ownBlock -> w'.heap[k]? = w.heap[k]?
theorem wstr_calls (L : Lays.n166 P ρ) (X : Builder.Extra P ρ) (b : Nat) (p v : Value) (n : Nat) (bs : List Value) (s : ByteArray) (w : World) (hb : w.heap[b]? = some (.cells #[p, v] (ρ.t 72) (0, 0))) (hp : p = .pointer none \/ p = .pointer (some ⟨b, 0, none⟩))
   (hown : w.ownsRowF 0 (ρ.t 5) 1 v n bs) (hne : v.ownBlock ≠ some b) (h0 : 0 < s.size) (hlen : n + s.size <= 140737488355328) :
   Calls P (ρ.f 166) #[.pointer (some ⟨b, 0, none⟩), .string s] w fun e w' => e = .returned (.tuple #[.int .i64 s.size, .nilIface]) /\ Wrote (ρ.t 72) (ρ.t 5) b v n bs s w w' := by
 obtain ⟨i0, hi, hz0, hz1, hz2⟩ := info_parts X.infoByte
 have mixed := L.mixed
 have t72 := L.t72; have a72 := L.a72; have z72 := L.z72; have v72 := L.v72; have u72 := run_underlying L.t72
 have t70 := L.t70; have a70 := L.a70; have z70 := L.z70; have v70 := L.v70; have u70 := run_underlying L.t70
 have t37 := L.t37; have a37 := L.a37; have z37 := L.z37; have v37 := L.v37; have u37 := run_underlying L.t37
 have t3 := L.t3; have a3 := L.a3; have z3 := L.z3; have v3 := L.v3; have u3 := run_underlying L.t3
 have t9 := L.t9; have a9 := L.a9; have z9 := L.z9; have v9 := L.v9; have u9 := run_underlying L.t9
 have t4 := L.t4; have a4 := L.a4; have z4 := L.z4; have v4 := L.v4; have u4 := run_underlying L.t4
 have t164 := L.t164; have a164 := L.a164; have z164 := L.z164; have v164 := L.v164; have u164 := run_underlying L.t164
 have t5 := X.t5; have a5 := X.a5; have z5 := X.z5; have v5 := X.v5; have u5 := run_underlying X.t5
 have hlt : b < w.heap.size := (Array.getElem?_eq_some_iff.1 hb).1
 have e240 : ∀ args w, (callFunc (ρ.f 240) args).run P w = .ok (.enter (ρ.f 240) args) w := enters_of L.f240 (by kernel_rfl) rfl
 have cc : Calls P (ρ.f 240) #[.pointer (some ⟨b, 0, none⟩)] w fun e w' => e = .returned (.tuple #[]) /\ w'.heap[b]? = some (.cells #[.pointer (some ⟨b, 0, none⟩), v] (ρ.t 72) (0, 0)) /\ (∀ k, k ≠ b -> w'.heap[k]? = w.heap[k]?) /\ w'.heap.size = w.heap.size /\ w'.os = w.os /\ w'.tape = w.tape /\ w'.output = w.output /\ w.drawn <= w'.drawn := by
   rcases hp with rfl | rfl
   . refine (Any.Builder_copyCheck_fresh { L with } X.toX72 b w (by rw [cell_of_heap hb]; rfl) (by simp [World.shape?, hb]) (frozen_of_heap hb 0)).mono ?_
     rintro e w' ⟨rfl, rfl⟩
     have hs : w.setCell ⟨b, 0, none⟩ (.pointer (some ⟨b, 0, none⟩)) = w.setRow b (#[.pointer none, v].setIfInBounds 0 (.pointer (some ⟨b, 0, none⟩))) := setCell_eq_setRow w b 0 _ _ _ _ hb
     rw [hs]
     exact ⟨rfl, setRow_heap w b _ _ _ _ hb, fun k hk => setRow_other w b k _ hk, by simp, rfl, rfl, rfl, Nat.le_refl _⟩
   . refine (Any.Builder_copyCheck_used { L with } X.toX72 b w (by rw [cell_of_heap hb]; rfl)).mono ?_
     rintro e w' ⟨rfl, rfl⟩
     exact ⟨rfl, hb, fun _ _ => rfl, rfl, rfl, rfl, rfl, Nat.le_refl _⟩
 go_enter L.f166, Body.n166_ntmps ρ
 go_wp2_with (go_at_fn (ρ.f 240); refine cc.mono ?_)
 rintro e w1 ⟨rfl, hb1, hk1, hsz1, ho1, ht1, hu1, hd1⟩
 have hown1 : w1.ownsRowF 0 (ρ.t 5) 1 v n bs := by
   refine ⟨hown.1, hown.2.imp id ?_⟩
   rintro ⟨g, cap, cur, fz, rfl, q1, q2, q3⟩
   exact ⟨g, cap, cur, fz, rfl, q1, (hk1 g (fun e => hne (by rw [<- e]; rfl))).trans q2, q3⟩
 have c0 : w1.cell? ⟨b, 0, none⟩ = some (.pointer (some ⟨b, 0, none⟩)) := by rw [cell_of_heap hb1]; rfl
 have c1 : w1.cell? ⟨b, 1, none⟩ = some v := by rw [cell_of_heap hb1]; rfl
 go_wp2_with (at_builtin; refine wpList_put _ rfl _ _ (ρ.t 37) (ρ.t 9) rfl (ρ.t 5) i0 L.t37 L.t9 hi hz0 hz1 hz2 _ _ _ rfl hown1 s rfl h0 hlen ?_)
 rintro v' w2 hown' hgrow g cap rfl hg hd2
 have hb2 : w2.heap[b]? = some (.cells #[.pointer (some ⟨b, 0, none⟩), v] (ρ.t 72) (0, 0)) := by
   rw [hgrow.block b (by omega) (fun e => hne e.symm)]
   exact hb1
 have hgb : g ≠ b := by
   rintro rfl
   rcases hg with hg | hg
   . exact hne hg.symm
   . omega
 have d0 : w2.cell? ⟨b, 0, none⟩ = some (.pointer (some ⟨b, 0, none⟩)) := by rw [cell_of_heap hb2]; rfl
 have d1 : w2.cell? ⟨b, 1, none⟩ = some v := by rw [cell_of_heap hb2]; rfl
 have f1 : w2.frozen? ⟨b, 1, none⟩ = false := frozen_of_heap hb2 1
 go_wp2
 go_ret2
 have hs : w2.setCell ⟨b, 1, none⟩ (.slice (some ⟨g, 0, none⟩) (n + s.size) cap) = w2.setRow b (#[.pointer (some ⟨b, 0, none⟩), v].setIfInBounds 1 (.slice (some ⟨g, 0, none⟩) (n + s.size) cap)) := setCell_eq_setRow w2 b 1 _ _ _ _ hb2
 refine ⟨rfl, ?_⟩
 rw [hs]
 refine ⟨hgrow.os.trans ho1, hgrow.tape.trans ht1, hgrow.output.trans hu1, Nat.le_trans hd1 hd2, ?_, ⟨g, cap, setRow_heap w2 b _ _ _ _ hb2, ?_, hgb, ?_⟩, fun k hk hkb hkv => ?_⟩
 . have := hgrow.size
   simp
   omega
 . refine ⟨hown'.1, hown'.2.imp id ?_⟩
   rintro ⟨g', cap', cur, fz, q0, q1, q2, q3⟩
   cases q0
   exact ⟨g, cap, cur, fz, rfl, q1, (setRow_other w2 b g _ hgb).trans q2, q3⟩
 . exact hg.imp id fun h => by omega
 . rw [setRow_other w2 b k _ hkb, hgrow.block k (by omega) hkv, hk1 k hkb]
theorem bld_row {G : Gh} {W : World} {x : V} {n : Int} (h : HB G W 0 [x, .d (.lit (.int .i64 n))]) (hx : V.isCell x = true) {u : Value} (hr : R2 G W (.yl 0) u) : G.ph 0 = false /\ G.lo 0 = true /\ G.bs 0 = 2 /\ ¬ G.Im (G.β 0) /\ u = .pointer (some ⟨G.β 0, 0, none⟩) /\
   ∃ p v a cap, ∃ k : Nat, W.heap[G.β 0]? = some (.cells #[p, v] bldT (0, 0)) /\ (p = .pointer none \/ p = .pointer (some ⟨G.β 0, 0, none⟩)) /\ v = .slice a k cap /\ (k : Int) = n /\ R1 G W x v := by
 rcases h with ⟨_, h2⟩ | ⟨_, h0, _, c, T, h3, h4, h5, _⟩ | ⟨h1, h0, h2, ⟨hz, fr, nt, ps, pa, pb, jmp, rec, h3, _⟩ | ⟨hz, es, ms, ck, h3, _⟩ | ⟨hz, bx, bp, bv, h3, h4, h5, h6, h7⟩⟩
 . cases h2
 . have hl2 : 2 <= c.size := h5
   rcases hr with ⟨hz, _⟩ | ⟨hz, _⟩ | ⟨_, hl, _⟩ | ⟨_, hl, _⟩
   . omega
   . omega
   . rw [h0] at hl; cases hl
   . rw [h0] at hl; cases hl
 . cases h3
 . simp only [mapC, List.cons.injEq, and_true] at h3
   rw [h3.1] at hx
   cases hx
 . simp only [List.cons.injEq, V.d.injEq, D.lit.injEq, and_true] at h3
   obtain ⟨rfl, hm⟩ := h3
   rcases h5 with ⟨k2, hT, hfz, p, a, cap, n', hc, hp, hv, hm'⟩ | ⟨_, _, _, _, hm', _⟩
   . rw [<- hm] at hm'
     cases hm'
     rw [hc, hT, hfz] at h4
     refine ⟨h1, h0, k2, h2, ?_, p, bv, a, cap, n', h4, hp, hv, rfl, h6⟩
     rcases hr with ⟨hz', _⟩ | ⟨hz', _⟩ | ⟨_, _, hu⟩ | ⟨hz', _⟩
     . omega
     . omega
     . exact hu
     . omega
   . rw [<- hm] at hm'
     cases hm'
theorem bld_bytes {G : Gh} {W : World} {t : ByteArray} (h : HB G W 1 [.d (.lit (.string t)), .d (.lit (.bool false))]) {u : Value} (hr : R1 G W (.yl 1) u) : G.ph 1 = false /\ G.lo 1 = true /\ 3 <= G.bs 1 /\ ¬ G.Im (G.β 1) /\
   ∃ n cur, ∃ fz : Nat × Nat, u = .slice (some ⟨G.β 1, 0, none⟩) n (G.bs 1 - 3) /\ W.heap[G.β 1]? = some (.cells cur bytT fz) /\ cur.size = G.bs 1 - 3 /\ fz.2 <= t.size /\ t.size <= cur.size /\ cur.size <= maxL /\ cur.toList.take t.size = strCells t := by
 rcases h with ⟨_, h2⟩ | ⟨_, h0, _, c, T, h3, h4, h5, _⟩ | ⟨h1, h0, h2, ⟨hz, fr, nt, ps, pa, pb, jmp, rec, h3, _⟩ | ⟨hz, es, ms, ck, h3, _⟩ | ⟨hz, bx, bp, bv, h3, h4, h5, h6, h7⟩⟩
 . cases h2
 . have hl2 : 2 <= c.size := h5
   rcases hr with ⟨hz, _⟩ | ⟨hz, _⟩ | ⟨_, hl, _⟩ | ⟨_, hl, _⟩
   . omega
   . omega
   . rw [h0] at hl; cases hl
   . rw [h0] at hl; cases hl
 . cases h3
 . simp [mapC] at h3
 . simp only [List.cons.injEq, V.d.injEq, D.lit.injEq, and_true] at h3
   obtain ⟨rfl, hm⟩ := h3
   have hv : bv = .string t := by cases h6; rfl
   subst hv
   rcases h5 with ⟨_, _, _, _, _, _, _, _, _, _, hm'⟩ | ⟨k3, hT, s, hs, _, q1, q2, q3, q4, q5⟩
   . rw [<- hm] at hm'
     cases hm'
   . cases hs
     rw [hT] at h4
     rcases hr with ⟨hz', _⟩ | ⟨hz', _⟩ | ⟨hz', _⟩ | ⟨_, _, n, hu⟩
     . omega
     . omega
     . omega
     . exact ⟨h1, h0, k3, h2, n, bp.c, bp.fz, hu, h4, q1, q2, q3, q4, q5⟩
def bldL (t : ByteArray) : List (Nat × List V) := [(0, [.yl 1, .d (.lit (.int .i64 t.size))]), (1, [.d (.lit (.string t)), .d (.lit (.bool false))])]
theorem owns_bytes {e : TypeId} {v : Value} {t : ByteArray} {W : World} {g cap : Nat} (h : W.ownsRowF 0 e 1 v t.size (strCells t)) (hv : v = .slice (some ⟨g, 0, none⟩) t.size cap) (_ : 0 < t.size) :
   ∃ cur, ∃ fz : Nat × Nat, W.heap[g]? = some (.cells cur e fz) /\ cur.size = cap /\ fz.2 <= t.size /\ t.size <= cur.size /\ cur.size <= maxL /\ cur.toList.take t.size = strCells t := by
 rcases h.2 with ⟨hn, _⟩ | ⟨g', cap', cur, fz, hv', _, hb, hfz, hnc, hcm, hcs, ht⟩
 . rw [hv] at hn; cases hn
 . rw [hv] at hv'
   cases hv'
   simp only [Nat.mul_one] at hfz hcs ht
   refine ⟨cur, fz, hb, hcs, hfz, by omega, ?_, ht⟩
   have : maxLen <= maxL := by decide
   omega
theorem wstr_post {G : Gh} {W W' : World} {L : List (Nat × List V)} {v : Value} {t s : ByteArray} (hGW : GW G.Im W) (h0 : 0 < s.size) (hL0 : InH (lk L) 0) (hph : G.ph 0 = false) (hlo : G.lo 0 = true) (hbs : G.bs 0 = 2) (hnim : ¬ G.Im (G.β 0))
   (hv : ∀ k, v.ownBlock = some k -> lentB G (lk L) k /\ ¬ G.Im k) (hw : Wrote bldT bytT (G.β 0) v t.size (strCells t) s W W') :
   ∃ G', Post G W (lk L) [0] (.ret (.tup [.d (.lit (.int .i64 s.size)), .d (.lit .nilIface)])) (lk (bldL (t ++ s))) (.returned (.tuple #[.int .i64 s.size, .nilIface])) W' G' := by
 obtain ⟨g, cap, hb, hown, hgb, hg⟩ := hw.at'
 have hsz : (t ++ s).size = t.size + s.size := ByteArray.size_append
 have hcat : strCells t ++ strCells s = strCells (t ++ s) := by simp [strCells, ByteArray.data_append]
 rw [hcat, <- hsz] at hown
 rw [<- hsz] at hb
 obtain ⟨cur, fz, q1, q2, q3, q4, q5, q6⟩ := owns_bytes hown rfl (by omega)
 have hl0 : lentB G (lk L) (G.β 0) := ⟨0, hL0, hph, rfl⟩
 have hgn : ¬ G.Im g := by
   rcases hg with h | h
   . exact (hv g h.symm).2
   . exact fun hx => absurd (hGW.1 g hx) (by omega)
 have hgl : W.heap.size <= g \/ lentB G (lk L) g := hg.elim (fun h => .inr (hv g h.symm).1) .inl
 refine ⟨{ β := fun i => if i = 0 then G.β 0 else g, bs := fun i => if i = 0 then 2 else cap + 3, ph := fun _ => false, lo := fun _ => true, Im := G.Im }, ⟨hw.os, hw.tape, hw.output, Nat.le_refl _, hw.size, fun b hb' hn => hw.block b hb' (fun e => hn (by rw [e]; exact hl0)) (fun e => hn (hv b e.symm).1), fun b hb' => ⟨Nat.lt_of_lt_of_le (hGW.1 b hb') hw.size, .inl hb'⟩, fun _ h => h, ⟨_, rfl, RD.lit _ rfl, RD.lit _ rfl, trivial⟩, fun c hc => ?_, ?_, ?_, ?_⟩⟩
 . simp only [List.mem_cons, List.not_mem_nil, or_false] at hc
   rcases hc with rfl | rfl <;> trivial
 . intro i cs hi
   simp only [bldL, lk] at hi
   split at hi
   . rename_i e
     subst e
     cases hi
     refine ⟨.inr (.inr ⟨rfl, rfl, hnim, .inr (.inr ⟨Nat.le_refl _, .yl 1, ⟨.int .i64 (t ++ s).size, _, _, _⟩, _, rfl, hb, .inl ⟨rfl, rfl, rfl, _, _, _, (t ++ s).size, rfl, .inr rfl, rfl, rfl⟩, .inr (.inr (.inr ⟨by simp, rfl, _, by simp; rfl⟩)), rfl⟩)⟩), fun _ => .inr hl0, fun c hc => ?_⟩
     simp only [List.mem_cons, List.not_mem_nil, or_false] at hc
     rcases hc with rfl | rfl
     . show InH _ 1
       rfl
     . trivial
   . split at hi
     . rename_i e
       subst e
       cases hi
       refine ⟨.inr (.inr ⟨rfl, rfl, hgn, .inr (.inr ⟨by simp, .d (.lit (.string (t ++ s))), ⟨.bool false, cur, bytT, fz⟩, .string (t ++ s), rfl, q1, .inr ⟨by simp, rfl, _, rfl, rfl, by simpa using q2, q3, q4, q5, q6⟩, RD.lit _ rfl, rfl⟩)⟩), fun _ => by simpa using hgl, fun c hc => ?_⟩
       simp only [List.mem_cons, List.not_mem_nil, or_false] at hc
       rcases hc with rfl | rfl <;> trivial
     . cases hi
 . intro i j hi hj _ _ he
   have hij : ∀ i, InH (lk (bldL (t ++ s))) i -> i = 0 \/ i = 1 := fun i hi => by
     simp only [InH, bldL, lk] at hi
     split at hi
     . exact .inl ‹_›
     . split at hi
       . exact .inr ‹_›
       . cases hi
   rcases hij i hi with rfl | rfl <;> rcases hij j hj with rfl | rfl
   . rfl
   . simp at he; exact absurd he.symm hgb
   . simp at he; exact absurd he hgb
   . rfl
 . intro i hi _
   simp only [List.mem_cons, List.not_mem_nil, or_false] at hi
   subst hi
   exact ⟨rfl, hbs.symm, rfl, hlo.symm⟩
theorem two_args {G : Gh} {W : World} {a b : V} {xs : Array Value} (h : All2 (R2 G W) [a, b] xs.toList) : ∃ u v, xs = #[u, v] /\ R2 G W a u /\ R2 G W b v := by
 obtain ⟨xs⟩ := xs
 match xs, h with
 | [u, v], h => exact ⟨u, v, rfl, h.1, h.2.1⟩
 | [], h => exact h.elim
 | [_], h => exact h.2.elim
 | _ :: _ :: _ :: _, h => exact h.2.2.elim
theorem wstr_first (L : Lays.n166 P ρ) (X : Builder.Extra P ρ) (hT : ρ.t 72 = bldT) (hB : ρ.t 5 = bytT) (hf : isFn P (ρ.f 166)) (s : ByteArray) (h0 : 0 < s.size) (hlen : s.size <= 140737488355328) :
   Cm P (ρ.f 166) [.yl 0, .d (.lit (.string s))] (lk [(0, [.d (.lit (.slice none 0 0)), .d (.lit (.int .i64 0))])]) [0] (.ret (.tup [.d (.lit (.int .i64 s.size)), .d (.lit .nilIface)])) (lk (bldL s)) := by
 refine ⟨hf, fun G W xs hGW hargs hpre => ?_⟩
 obtain ⟨u, v0, rfl, hu, hs⟩ := two_args hargs
 have := rv_lit hs.rv
 subst this
 obtain ⟨q1, q2, q3, q4, rfl, p, v, a, cap, k, hb, hp, hv, hk, hr⟩ := bld_row (hpre.hb 0 _ rfl) rfl hu
 have hvn : v = .slice none 0 0 := rv_lit hr.r2.rv
 subst hvn
 have key := wstr_calls (P := P) L X (G.β 0) p (.slice none 0 0) 0 [] s W (by rw [hT]; exact hb) hp (World.ownsRowF_nil W 0 _ 1) (by simp [Value.ownBlock]) h0 (by omega)
 refine Calls.mono key fun e W' ⟨he, hw⟩ => ?_
 subst he
 rw [hT, hB] at hw
 have := wstr_post (G := G) (L := [(0, [.d (.lit (.slice none 0 0)), .d (.lit (.int .i64 0))])]) (t := ByteArray.empty) hGW h0 (by simp [InH, lk]) q1 q2 q3 q4 (fun k hk => by simp [Value.ownBlock] at hk) hw
 have e0 : ByteArray.empty ++ s = s := ByteArray.ext (by rw [ByteArray.data_append]; exact Array.empty_append)
 rw [e0] at this
 exact this
theorem wstr_next (L : Lays.n166 P ρ) (X : Builder.Extra P ρ) (hT : ρ.t 72 = bldT) (hB : ρ.t 5 = bytT) (hf : isFn P (ρ.f 166)) (t s : ByteArray) (h0 : 0 < s.size) (hlen : t.size + s.size <= 140737488355328) :
   Cm P (ρ.f 166) [.yl 0, .d (.lit (.string s))] (lk (bldL t)) [0] (.ret (.tup [.d (.lit (.int .i64 s.size)), .d (.lit .nilIface)])) (lk (bldL (t ++ s))) := by
 refine ⟨hf, fun G W xs hGW hargs hpre => ?_⟩
 obtain ⟨u, v0, rfl, hu, hs⟩ := two_args hargs
 have := rv_lit hs.rv
 subst this
 obtain ⟨q1, q2, q3, q4, rfl, p, v, a, cap, k, hb, hp, hv, hk, hr⟩ := bld_row (hpre.hb 0 _ rfl) rfl hu
 obtain ⟨r1, r2, r3, r4, n, cur, fz, hv2, hg, c1, c2, c3, c4, c5⟩ := bld_bytes (hpre.hb 1 _ rfl) hr
 have hkt : k = t.size := by omega
 rw [hv] at hv2
 obtain ⟨rfl, rfl, rfl⟩ : a = some ⟨G.β 1, 0, none⟩ /\ k = n /\ cap = G.bs 1 - 3 := by
   cases hv2
   exact ⟨rfl, rfl, rfl⟩
 subst hkt
 subst hv
 have hne : G.β 1 ≠ G.β 0 := fun e => by
   have := hpre.inj 1 0 (by simp [InH, bldL, lk]) (by simp [InH, bldL]) r1 q1 e
   omega
 have hmx : maxL <= maxLen := by decide
 have key := wstr_calls (P := P) L X (G.β 0) p (.slice (some ⟨G.β 1, 0, none⟩) t.size (G.bs 1 - 3)) t.size (strCells t) s W (by rw [hT]; exact hb) hp ⟨by rw [strCells_length]; omega, .inr ⟨G.β 1, G.bs 1 - 3, cur, fz, rfl, Nat.zero_le _, by rw [hB]; exact hg, by omega, by omega, by omega, by omega, by rw [Nat.mul_one]; exact c5⟩⟩ (by simp [Value.ownBlock]; exact hne) h0 hlen
 refine Calls.mono key fun e W' ⟨he, hw⟩ => ?_
 subst he
 rw [hT, hB] at hw
 refine wstr_post (G := G) hGW h0 (by simp [InH, bldL]) q1 q2 q3 q4 (fun k hk => ?_) hw
 simp [Value.ownBlock] at hk
 subst hk
 exact ⟨⟨1, by simp [InH, bldL, lk], r1, rfl⟩, r4⟩
theorem freeze_other (w : World) (g n k : Nat) (h : k ≠ g) : (w.freeze ⟨g, 0, none⟩ n).heap[k]? = w.heap[k]? := by
 unfold World.freeze
 split
 . rfl
 . simp only [Array.getElem?_modify, if_neg (Ne.symm h)]
theorem freeze_rest (w : World) (g n : Nat) : (w.freeze ⟨g, 0, none⟩ n).heap.size = w.heap.size /\ (w.freeze ⟨g, 0, none⟩ n).os = w.os /\ (w.freeze ⟨g, 0, none⟩ n).tape = w.tape /\ (w.freeze ⟨g, 0, none⟩ n).output = w.output /\ (w.freeze ⟨g, 0, none⟩ n).drawn = w.drawn := by
 unfold World.freeze
 split <;> simp
theorem bstr_calls (L : Lays.n169 P ρ) (X : Builder.Extra P ρ) (b g cap : Nat) (p : Value) (l : List UInt8) (cur : Array Value) (fz : Nat × Nat) (w : World) (hbk : w.heap[b]? = some (.cells #[p, .slice (some ⟨g, 0, none⟩) l.length cap] (ρ.t 72) (0, 0)))
   (hg : w.heap[g]? = some (.cells cur (ρ.t 5) fz)) (hcs : cur.size = cap) (hnc : l.length <= cap) (hcm : cap <= maxLen) (htake : cur.toList.take l.length = byteCells l) (h0 : l ≠ []) :
   Calls P (ρ.f 169) #[.pointer (some ⟨b, 0, none⟩)] w fun e w' => e = .returned (.string ⟨l.toArray⟩) /\ (∀ k, k ≠ g -> w'.heap[k]? = w.heap[k]?) /\ w'.heap.size = w.heap.size /\ w'.os = w.os /\ w'.tape = w.tape /\ w'.output = w.output /\ w.drawn <= w'.drawn := by
 have hl0 : l.length ≠ 0 := by simpa using h0
 have c1 : w.drew.cell? ⟨b, 1, none⟩ = some (.slice (some ⟨g, 0, none⟩) l.length cap) := by
   have : w.drew.heap[b]? = some (.cells #[p, .slice (some ⟨g, 0, none⟩) l.length cap] (ρ.t 72) (0, 0)) := hbk
   rw [cell_of_heap this]; rfl
 have hSD : (Builtin.unsafeSliceData_ #[(ρ.t 37)] (ρ.t 127) #[.slice (some ⟨g, 0, none⟩) l.length cap]).run P w.drew = .ok (.pointer (some ⟨g, 0, none⟩)) w.drew :=
   run_unsafeSliceData_row _ _ _ _ _ _ (by omega)
 have hUS : (Builtin.unsafeString_ #[(ρ.t 127), (ρ.t 3)] (ρ.t 9) #[.pointer (some ⟨g, 0, none⟩), .int .i64 l.length]).run P w.drew = .ok (.string ⟨l.toArray⟩) (w.drew.freeze ⟨g, 0, none⟩ l.length) := by
   have hg' : w.drew.heap[g]? = some (.cells cur (ρ.t 5) fz) := hg
   refine run_unsafeString_row w.drew (ρ.t 127) (ρ.t 3) (ρ.t 9) (ρ.t 5) L.t127 X.cellsByte g cur.size (by simp [World.shape?, hg']) l h0 (by omega) (by unfold maxLen at hcm; omega) ?_
   intro j x hx
   have h1 : (byteCells l)[j]? = some (.int .u8 x.toNat) := by simp [byteCells, hx]
   rw [<- htake, List.getElem?_take] at h1
   split at h1
   . rw [add_plain]
     simp only [World.cell?, hg', Nat.zero_add]
     simpa using h1
   . cases h1
 have hk : ∀ k, k ≠ g -> (w.drew.freeze ⟨g, 0, none⟩ l.length).heap[k]? = w.heap[k]? := fun k hk => freeze_other w.drew g _ k hk
 have hr := freeze_rest w.drew g l.length
 have mixed := L.mixed
 have t72 := L.t72; have a72 := L.a72; have z72 := L.z72; have v72 := L.v72; have u72 := run_underlying L.t72
 have t70 := L.t70; have a70 := L.a70; have z70 := L.z70; have v70 := L.v70; have u70 := run_underlying L.t70
 have t37 := L.t37; have a37 := L.a37; have z37 := L.z37; have v37 := L.v37; have u37 := run_underlying L.t37
 have t127 := L.t127; have a127 := L.a127; have z127 := L.z127; have v127 := L.v127; have u127 := run_underlying L.t127
 have t3 := L.t3; have a3 := L.a3; have z3 := L.z3; have v3 := L.v3; have u3 := run_underlying L.t3
 have t9 := L.t9; have a9 := L.a9; have z9 := L.z9; have v9 := L.v9; have u9 := run_underlying L.t9
 have t5 := X.t5; have a5 := X.a5; have z5 := X.z5; have v5 := X.v5; have u5 := run_underlying X.t5
 go_enter L.f169, Body.n169_ntmps ρ
 go_wp2
 go_region_o
 all_goals (go_wp2; go_ret; exact ⟨rfl, hk, hr.1, hr.2.1, hr.2.2.1, hr.2.2.2.1, by rw [hr.2.2.2.2]; exact Nat.le_succ _⟩)
theorem bstr_cm (L : Lays.n169 P ρ) (X : Builder.Extra P ρ) (hT : ρ.t 72 = bldT) (hB : ρ.t 5 = bytT) (hf : isFn P (ρ.f 169)) (t : ByteArray) (h0 : 0 < t.size) :
   Cm P (ρ.f 169) [.yl 0] (lk (bldL t)) [] (.ret (.d (.lit (.string t)))) (lk []) := by
 refine ⟨hf, fun G W xs hGW hargs hpre => ?_⟩
 obtain ⟨u, rfl, hu⟩ : ∃ u, xs = #[u] /\ R2 G W (.yl 0) u := by
   obtain ⟨xs⟩ := xs
   match xs, hargs with
   | [u], h => exact ⟨u, rfl, h.1⟩
   | [], h => exact h.elim
   | _ :: _ :: _, h => exact h.2.elim
 obtain ⟨q1, q2, q3, q4, rfl, p, v, a, cap, k, hb, hp, hv, hk, hr⟩ := bld_row (hpre.hb 0 _ rfl) rfl hu
 obtain ⟨r1, r2, r3, r4, n, cur, fz, hv2, hg, c1, c2, c3, c4, c5⟩ := bld_bytes (hpre.hb 1 _ rfl) hr
 have hkt : k = t.size := by omega
 rw [hv] at hv2
 obtain ⟨rfl, rfl, rfl⟩ : a = some ⟨G.β 1, 0, none⟩ /\ k = n /\ cap = G.bs 1 - 3 := by
   cases hv2
   exact ⟨rfl, rfl, rfl⟩
 subst hkt
 subst hv
 have hmx : maxL <= maxLen := by decide
 have hts : t.size = t.data.toList.length := by rw [Array.length_toList]; rfl
 have key := bstr_calls (P := P) L X (G.β 0) (G.β 1) (G.bs 1 - 3) p t.data.toList cur fz W (by rw [hT, <- hts]; exact hb) (by rw [hB]; exact hg) c1 (by omega) (by omega) (by rw [<- hts]; exact c5) (by
   intro e; rw [e] at hts; rw [List.length_nil] at hts; omega)
 refine Calls.mono key fun e W' ⟨he, hk, hsz, ho, hta, hou, hdw⟩ => ?_
 subst he
 refine ⟨G, ⟨ho, hta, hou, Nat.le_refl _, by omega, fun b hb' hn => hk b fun e => hn ⟨1, by simp [InH, bldL, lk], r1, e.symm⟩, fun b hb' => ⟨by have := hGW.1 b hb'; omega, .inl hb'⟩, fun _ h => h, ?_, trivial, fun i cs h => (by cases h), fun i j h => (by simp [InH, lk] at h), fun i h => (by cases h)⟩⟩
 have : (⟨t.data.toList.toArray⟩ : ByteArray) = t := by cases t; simp
 rw [this]
 exact RD.lit _ rfl
end Go.Psl
namespace Go.Psl
variable {P : Program} {G : Gh} {W : World}
theorem Cm.ren2 (σ ς : Nat -> Nat) (K : Nat) (hinj : ∀ i j, i < K -> j < K -> σ i = σ j -> i = j) (hinj1 : ∀ i j, i < K -> j < K -> ς i = ς j -> i = j) (ks1 : List Nat) {f : FuncId} {args : List V} {L : List (Nat × List V)} {ks : List Nat} {res : Res} {L1 : List (Nat × List V)} (h : Cm P f args (lk L) ks res (lk L1)) (hL : idsLt K L) (hL1 : idsLt K L1) (hks : ∀ i ∈ ks, i < K) (hkk : ∀ i ∈ ks, σ i ∈ ks1) (hk1 : ∀ j ∈ ks1, InH (lk (renL ς L1)) j -> ∃ i ∈ ks, σ i = j /\ ς i = j) :
   Cm P f (args.map (ren2 σ)) (lk (renL σ L)) ks1 (renR ς res) (lk (renL ς L1)) := by
 refine ⟨h.1, fun G W xs hGW hargs hpre => ?_⟩
 have hIn : ∀ i, i < K -> (InH (lk (renL σ L)) (σ i) ↔ InH (lk L) i) := fun i hi => by unfold InH; rw [lk_ren hinj hL hi]; simp
 have hIn1 : ∀ i, i < K -> (InH (lk (renL ς L1)) (ς i) ↔ InH (lk L1) i) := fun i hi => by unfold InH; rw [lk_ren hinj1 hL1 hi]; simp
 have hlent : ∀ b, lentB (G.cmp σ) (lk L) b -> lentB G (lk (renL σ L)) b := fun b ⟨i, hi, hp, he⟩ => ⟨σ i, (hIn i (lk_lt hL hi)).2 hi, hp, he⟩
 have hlent' : ∀ b, lentB G (lk (renL σ L)) b -> lentB (G.cmp σ) (lk L) b := fun b ⟨j, hj, hp, he⟩ => by
   obtain ⟨cs', hcs⟩ := Option.isSome_iff_exists.1 hj
   obtain ⟨i, cs, hi, rfl, h1, _⟩ := lk_ren_inv hinj hL hcs
   exact ⟨i, by unfold InH; rw [h1]; rfl, hp, he⟩
 have hpre' : PreH (G.cmp σ) W (lk L) ks := by
   refine ⟨fun i cs hi => HB_ren (hpre.hb (σ i) _ ?_), fun i j hi hj hpi hpj he => ?_, fun i hi => ?_⟩
   . rw [lk_ren hinj hL (lk_lt hL (by unfold InH; rw [hi]; rfl)), hi]; rfl
   . have li := lk_lt hL hi; have lj := lk_lt hL hj
     exact hinj i j li lj (hpre.inj _ _ ((hIn i li).2 hi) ((hIn j lj).2 hj) hpi hpj he)
   . obtain ⟨h1, h2⟩ := hpre.st (σ i) (hkk i hi)
     exact ⟨(hIn i (hks i hi)).1 h1, h2⟩
 refine (h.2 (G.cmp σ) W xs hGW (all_ren (fun v x => R2_ren) hargs) hpre').mono fun e W' ⟨G1, hp⟩ => ?_
 obtain ⟨τ, hτ⟩ : ∃ τ : Nat -> Nat, ∀ i, i < K -> τ (ς i) = i := by
   refine ⟨fun j => if hj : ∃ i, i < K /\ ς i = j then hj.choose else 0, fun i hi => ?_⟩
   have hj : ∃ i', i' < K /\ ς i' = ς i := ⟨i, hi, rfl⟩
   simp only [dif_pos hj]
   exact hinj1 _ _ hj.choose_spec.1 hi hj.choose_spec.2
 have hint : Into (InH (lk L1)) anyD ς G1 W' (G1.cmp τ) W' := ⟨fun i hi => by
   have := hτ i (lk_lt hL1 hi)
   simp only [Gh.cmp, this, and_self], fun _ _ _ h => h⟩
 refine ⟨G1.cmp τ, ⟨hp.os, hp.tape, hp.output, hp.drawn, hp.size, fun b hb hl => hp.block b hb (fun h => hl (hlent b h)), fun b hb => ?_, fun b hb => hp.im0 b hb, resRel.into hint hp.wf hp.rv, ?_, ?_, ?_, ?_⟩⟩
 . obtain ⟨h1, h2⟩ := hp.im b hb
   exact ⟨h1, h2.imp id (Or.imp id (hlent b))⟩
 . cases res with
   | ret r => exact AV.ren (fun i hi => (hIn1 i (lk_lt hL1 hi)).2 hi) hp.wf
   | pan r => exact AV.ren (fun i hi => (hIn1 i (lk_lt hL1 hi)).2 hi) hp.wf
 . intro j cs' hj
   obtain ⟨i, cs, hi, rfl, h1, rfl⟩ := lk_ren_inv hinj1 hL1 hj
   have hin : InH (lk L1) i := by unfold InH; rw [h1]; rfl
   obtain ⟨q1, q2, q3⟩ := hp.hb i cs h1
   refine ⟨hint.hb hin q3 q1 (fun hph => q1.nim hph), fun hph => ?_, fun c hc => ?_⟩
   . simp only [Gh.cmp, hτ i hi] at hph ⊢
     exact (q2 hph).imp id (hlent _)
   . obtain ⟨c0, hc0, rfl⟩ := List.mem_map.1 hc
     exact AC.ren (fun i hi => (hIn1 i (lk_lt hL1 hi)).2 hi) (q3 c0 hc0)
 . intro j j' hj hj' hpj hpj' he
   obtain ⟨x, hx⟩ := Option.isSome_iff_exists.1 hj
   obtain ⟨y, hy⟩ := Option.isSome_iff_exists.1 hj'
   obtain ⟨i, cs, hi, rfl, h1, _⟩ := lk_ren_inv hinj1 hL1 hx
   obtain ⟨i', cs', hi', rfl, h1', _⟩ := lk_ren_inv hinj1 hL1 hy
   simp only [Gh.cmp, hτ i hi, hτ i' hi'] at hpj hpj' he
   rw [hp.inj i i' (by unfold InH; rw [h1]; rfl) (by unfold InH; rw [h1']; rfl) hpj hpj' he]
 . intro j hj hin
   obtain ⟨i, hi, h1, rfl⟩ := hk1 j hj hin
   have := hp.st i hi ((hIn1 i (hks i hi)).1 hin)
   simp only [Gh.cmp, hτ i (hks i hi)] at this ⊢
   rw [h1] at this
   exact this
end Go.Psl
