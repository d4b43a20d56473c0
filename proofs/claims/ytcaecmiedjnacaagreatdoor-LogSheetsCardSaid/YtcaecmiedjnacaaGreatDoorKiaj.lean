/- Own lemmas, used by the last text. Conditions: those that each theorem states. -/
import Derived.RecoverIn
import Derived.Test.YtcaecmiedjnacaaGreatDoorKiae
import Derived.Test.YtcaecmiedjnacaaGreatDoorKiag
import Derived.Test.YtcaecmiedjnacaaGreatDoorKiah
import Derived.Test.YtcaecmiedjnacaaGreatDoorKiai
set_option maxRecDepth 200000
set_option maxHeartbeats 8000000
namespace Go.Psl
variable {P : Program} {Γ : Tys} {eqs : Eqs} {E : Ent}
def modeOf (G : Gh) (W : World) : Option V -> FrameMode -> Prop
 | none, u => u = .returning
 | some v, u => ∃ x, u = .panicking [{ v := x, recovered := false }] /\ RV G W v x
def CmD (P : Program) (f : FuncId) (args : List V) (Hin : Hp) (ks : List Nat) (m : Option V) (H1 : Hp) : Prop :=
 isFn P f /\ ∀ (G : Gh) (W : World) (xs : Array Value) (u : FrameMode), GW G.Im W -> All2 (R2 G W) args xs.toList -> PreH G W Hin ks -> modeOf G W m u ->
   CallsDIn Fence.wide 0 P f xs u W fun e u' W' => settle u' = .returning /\ (∃ v, e = .returned v) /\ ∃ G', Post G W Hin ks (.ret (.tup [])) H1 e W' G'
def recV : Option V -> V
 | none => .d (.lit .nilIface)
 | some v => v
theorem begin_rel {fn : Func} {args : List V} {N : Nat} {G : Gh} {W : World} {xs : Array Value} (hcl : ∀ v ∈ args, A2 (· < N) anyD v) (hargs : All2 (R2 G W) args xs.toList) :
   (∀ t, RV G W (argF 0 args t) ((xs ++ Array.replicate (fn.ntmps - xs.size) undef).getD t undef)) /\ ∀ t, AV (· < N) anyD (argF 0 args t) := by
 have hl : args.length = xs.size := by have := hargs.length; simpa using this
 refine ⟨fun t => ?_, fun t => ?_⟩
 . rw [argF_at, if_pos (Nat.zero_le t), Nat.sub_zero, Array.getD_eq_getD_getElem?]
   by_cases ht : t < xs.size
   . rw [Array.getElem?_append_left ht, Array.getElem?_eq_getElem ht]
     have h1 : args[t]? = some args[t] := List.getElem?_eq_getElem (by omega)
     obtain ⟨x, hx, hrx⟩ := hargs.get h1
     rw [h1]
     have : x = xs[t] := by
       rw [Array.getElem?_toList, Array.getElem?_eq_getElem ht] at hx; cases hx; rfl
     subst this
     exact hrx.rv
   . rw [List.getElem?_eq_none (by omega), Array.getElem?_append_right (by omega)]
     have : ((Array.replicate (fn.ntmps - xs.size) undef)[t - xs.size]?).getD undef = undef := by
       rw [Array.getElem?_replicate]; split <;> rfl
     rw [this]
     exact tup_nil
 . rw [argF_at, if_pos (Nat.zero_le t), Nat.sub_zero]
   cases h1 : args[t]? with
   | none => intro c hc; cases hc
   | some v =>
     obtain ⟨x, _, hx⟩ := hargs.get h1
     exact hx.av (hcl v (List.mem_of_getElem? h1))
theorem CmD.by (hΓ : GOk P Γ) (hE : EqOk P eqs) (hm : P.follows .mixedOrders = true) {f : FuncId} {fn : Func} {id : Nat} {o1 o2 : Oper} {rest : Code} {p : PC} {t3 t2 : Nat} {args : List V} {Hin : Hp} {ks : List Nat} {m : Option V} {H1 : List (Nat × List V)} (N : Nat)
   (hf : P.funcs[f]? = some fn) (hb : fn.body = some (.seq (.region id #[o1, o2] false) rest)) (hname : (fn.name == "runtime.NumGoroutine") = false)
   (g1 : o1.guard = none) (g2 : o2.guard = none) (d1 : o1.dst = some t3) (d2 : o2.dst = some t2) (r1 : ∀ ρ W, (execOp ρ o1).run P W = .ok .recover W) (r2 : ∀ ρ W, (execOp ρ o2).run P W = .ok (.value (ρ (.tmp t3))) W) (n3 : t3 < fn.ntmps) (n2 : t2 < fn.ntmps)
   (hc : comp fn.ntmps rest = some p) (hn : args.length <= fn.ntmps) (hcl : ∀ v ∈ args, A2 (· < N) anyD v) (hrv : AV (· < N) anyD (recV m)) (hids : IdsFn N Hin) (hks : ∀ i ∈ ks, i < N) (hri : ResIds (.tup []) H1)
   (h : ∀ E : Ent, (∀ i, E.stab i ↔ i ∈ ks) -> PW P Γ eqs E p (retM Γ fn ks (.ret (.tup [])) H1) ⟨frPut (frPut (argF 0 args) (some t3) (recV m)) (some t2) (recV m), Hin, N⟩) : CmD P f args Hin ks m (lk H1) := by
 refine ⟨⟨fn, hf, by rw [hb]; rfl, hname⟩, fun G W xs u hGW hargs hpre hu => ?_⟩
 obtain ⟨hfr, hwf⟩ := begin_rel (fn := fn) hcl hargs
 have hl : args.length = xs.size := by have := hargs.length; simpa using this
 have hsz : (xs ++ Array.replicate (fn.ntmps - xs.size) undef).size = fn.ntmps := by simp; omega
 have hI := Inv.startN (nt := fn.ntmps) (rd := none) (nm := true) hGW hpre hids hks (tmps := xs ++ Array.replicate (fn.ntmps - xs.size) undef) hfr hwf (by rw [hsz]; exact Nat.le_refl _)
 refine callsDIn_of_wpSIn hf hb trivial fun c₀ cs hc0 => ?_
 refine wpSIn_seq (wpSIn_region ?_)
 have tail : ∀ (x : Value) (c1 : Frame) (u' : FrameMode), RV G W (recV m) x -> c1 = { c₀ with mode := u' } -> settle u' = .returning ->
     Exit.thenS (rest.wpSIn Fence.wide 0 P (bodyPostS P fn c₀ cs fun e u' W' => settle u' = .returning /\ (∃ v, e = .returned v) /\ ∃ G', Post G W Hin ks (.ret (.tup [])) (lk H1) e W' G')) (bodyPostS P fn c₀ cs fun e u' W' => settle u' = .returning /\ (∃ v, e = .returned v) /\ ∃ G', Post G W Hin ks (.ret (.tup [])) (lk H1) e W' G') .normal
       ((({ tmps := xs ++ Array.replicate (fn.ntmps - xs.size) undef, defers := [] } : Act).put (some t3) x).put (some t2) x) (c1 :: cs) W := by
   intro x c1 u' hx hc1 hu'
   refine wpSIn_of_wpIn rfl ?_
   have hI1 := (hI.slot hx hrv (some t3) (fun d hd => by cases hd; exact n3)).slot (v := recV m) (x := x) hx hrv (some t2) (fun d hd => by cases hd; exact n2)
   refine wpIn_mono (PW.sound hΓ hE hm rest p hc _ _ (h _ (fun _ => Iff.rfl)) G _ W hI1) fun e a' W' ⟨y, st', G', hI', hy, _, hq⟩ => ?_
   have hbase : W = W /\ G.Im = G.Im /\ (∀ b, lentB G Hin b ↔ lentB G Hin b) /\ ∀ i, i ∈ ks -> i ∈ ks /\ G.β i = G.β i /\ G.bs i = G.bs i /\ G.lo i = G.lo i := ⟨rfl, rfl, fun _ => Iff.rfl, fun _ h => ⟨h, rfl, rfl, rfl⟩⟩
   obtain ⟨ds, hd, hmk⟩ := hI'.df
   have hd0 : ds = [] := hmk.nm rfl
   subst hd0
   have fin : RetM Γ fn ks (.tup []) H1 st' -> bodyPostS P fn c₀ cs (fun e u' W' => settle u' = .returning /\ (∃ v, e = .returned v) /\ ∃ G', Post G W Hin ks (.ret (.tup [])) (lk H1) e W' G') .ret a' (c1 :: cs) W' := fun hq => by
     obtain ⟨ρ, v, hv, hr, h4, h5, h6⟩ := run_resM hΓ hI' hq
     exact ⟨hd, u', by rw [hc1], v, hv, hu', ⟨v, rfl⟩, _, post_of (res := .ret (.tup [])) hbase hri hI' h4 h5 h6 (e := .returned v) hr⟩
   cases e <;> cases y <;> first | exact fin hq | exact hq.elim | exact False.elim hy
 rw [show List.range (#[o1, o2] : Array Oper).size = [0, 1] from rfl]
 simp only [wpOpsSIn]
 have w1 : Region.wanted o1 (yielded #[o1, o2] (xs ++ Array.replicate (fn.ntmps - xs.size) undef)) = true := by simp [Region.wanted, g1]
 have w2 : ∀ T, Region.wanted o2 (yielded #[o1, o2] T) = true := fun T => by simp [Region.wanted, g2]
 have e1 : (#[o1, o2] : Array Oper)[0]? = some o1 := rfl
 have e2 : (#[o1, o2] : Array Oper)[1]? = some o2 := rfl
 have ev : ∀ x : Value, ((({ tmps := xs ++ Array.replicate (fn.ntmps - xs.size) undef, defers := [] } : Act).put (some t3) x).eval (.tmp t3)) = x := fun x => by
   simp [Act.put, Act.eval, Array.getD_eq_getD_getElem?, hsz, n3]
 rw [e1]
 refine ⟨fun _ _ => trivial, ?_⟩
 simp only [w1, if_true, r1]
 cases m with
 | none =>
   have hmode : c₀.mode = .returning := hc0.trans hu
   have hrec : recoverD (c₀ :: cs) = none := by simp [recoverD, hmode]
   simp only [hrec, e2]
   refine ⟨fun _ _ => trivial, ?_⟩
   simp only [w2, if_true, r2, d1, d2, ev]
   exact tail .nilIface c₀ .returning (.lit _ rfl) (by rw [<- hmode]) rfl
 | some v =>
   obtain ⟨x, hx, hrx⟩ := hu
   have hmode : c₀.mode = .panicking [{ v := x, recovered := false }] := hc0.trans hx
   have hrec : recoverD (c₀ :: cs) = some (x, { c₀ with mode := .panicking [{ v := x, recovered := true }] } :: cs) := by simp [recoverD, hmode]
   simp only [hrec, e2]
   refine ⟨fun _ _ => trivial, ?_⟩
   simp only [w2, if_true, r2, d1, d2, ev]
   exact tail x _ _ hrx rfl rfl
end Go.Psl
namespace Go.Psl
variable {P : Program} {Γ : Tys} {eqs : Eqs} {E : Ent}
structure BaseOk (E : Ent) (G0 : Gh) (W0 : World) : Prop where
 w : E.W0 = W0
 im : E.Im0 = G0.Im
 mu : ∀ b, E.mu b ↔ lentB G0 noH b
 rd : E.rd = none
 dx : E.dx = []
 nm : E.nm = true
abbrev EndR (G0 : Gh) (W0 : World) (r : V) (H1 : List (Nat × List V)) : Ending -> World -> Prop := fun e W' => ∃ G', Post G0 W0 noH [] (.ret r) (lk H1) e W' G'
def DW (P : Program) (E : Ent) (fn : Func) (r : V) (H1 : List (Nat × List V)) (p : PC) (st : St) : Prop :=
 ResIds r H1 -> ∀ (c : Code), comp E.nt c = some p -> ∀ (G0 : Gh) (W0 : World), BaseOk E G0 W0 -> ∀ G a W, Inv E (· < st.nx) G st a W ->
   c.wpIn Fence.wide 0 P (bodyPostM Fence.wide 0 P fn (EndR G0 W0 r H1)) a W
theorem comp_seq {nt : Nat} {c : Code} {pa pb : PC} (h : comp nt c = some (.seq pa pb)) : ∃ x y, c = .seq x y /\ comp nt x = some pa /\ comp nt y = some pb := by
 cases c with
 | seq x y =>
   simp only [comp, Option.bind_eq_some_iff, Option.map_eq_some_iff] at h
   obtain ⟨a, ha, b, hb, he⟩ := h
   cases he
   exact ⟨x, y, rfl, ha, hb⟩
 | region id ops draw =>
   simp only [comp, mkDraw] at h
   split at h
   . split at h
     . simp only [Option.some.injEq] at h
       split at h <;> cases h
     . cases h
   . split at h <;> cases h
 | cond c a b =>
   simp only [comp, Option.bind_eq_some_iff, Option.map_eq_some_iff] at h
   obtain ⟨a, ha, b, hb, he⟩ := h
   cases he
 | rangeFunc f ps a b =>
   simp only [comp, Option.bind_eq_some_iff, Option.map_eq_some_iff] at h
   obtain ⟨a, ha, b, hb, he⟩ := h
   cases he
 | block id a =>
   simp only [comp, Option.map_eq_some_iff] at h
   obtain ⟨a, ha, he⟩ := h
   cases he
 | loop a =>
   simp only [comp, Option.map_eq_some_iff] at h
   obtain ⟨a, ha, he⟩ := h
   cases he
 | _ => simp [comp] at h
def dwQ (P : Program) (Γ : Tys) (E : Ent) (fn : Func) (r : V) (H1 : List (Nat × List V)) (pb : PC) : AExit -> St -> Prop
 | .normal, st => DW P E fn r H1 pb st
 | .ret, st => RetM Γ fn [] r H1 st
 | _, _ => False
theorem DW.seq (hΓ : GOk P Γ) (hE : EqOk P eqs) (hm : P.follows .mixedOrders = true) {fn : Func} {r : V} {H1 : List (Nat × List V)} {pa pb : PC} {st : St} (h : PW P Γ eqs E pa (dwQ P Γ E fn r H1 pb) st) : DW P E fn r H1 (.seq pa pb) st := by
 intro hri c hc G0 W0 hB G a W hI
 obtain ⟨x, y, rfl, hx, hy⟩ := comp_seq hc
 have hF : E.F = Fence.wide := by unfold Ent.F; rw [hB.rd]; rfl
 have h1 := PW.sound hΓ hE hm x pa hx _ _ h G a W hI
 rw [hF] at h1
 refine wpIn_seq (wpIn_mono h1 fun e a' W' ⟨z, st', G', hI', hz, ho, hq⟩ => ?_)
 have hbase : E.W0 = W0 /\ E.Im0 = G0.Im /\ (∀ b, E.mu b ↔ lentB G0 noH b) /\ ∀ i, i ∈ ([] : List Nat) -> E.stab i /\ E.β0 i = G0.β i /\ E.bs0 i = G0.bs i /\ E.lo0 i = G0.lo i := ⟨hB.w, hB.im, hB.mu, fun _ h => by cases h⟩
 cases z with
 | normal =>
   cases e <;> first | exact hq hri y hy G0 W0 hB G' a' W' hI' | exact False.elim hz
 | ret =>
   cases e with
   | ret =>
     show LeavesInM Fence.wide 0 P fn a'.tmps (EndR G0 W0 r H1) a'.defers .returning W'
     obtain ⟨ds, hd, hmk⟩ := hI'.df
     rw [hmk.nm hB.nm, hB.dx] at hd
     rw [hd]
     obtain ⟨ρ, v, hv, hr, h4, h5, h6⟩ := run_resM hΓ hI' hq
     exact ⟨v, hv, _, post_of (res := .ret r) hbase hri hI' h4 h5 h6 (e := .returned v) hr⟩
   | _ => exact False.elim hz
 | _ => exact hq.elim
def DCall (P : Program) (g : FuncId) (ids : List (Nat × Nat)) (m : Option V) (K : St -> Prop) (st : St) : Prop :=
 (∀ p ∈ ids, (st.H p.1).isSome = true) /\ ∃ args Hin ks H1c, CmD P g args Hin ks m H1c /\ CallB st.H (ids.map fun p => .lp p.1 p.2) args Hin ks (.ret (.tup [])) H1c /\ K ⟨st.fr, heapM st.H st.nx Hin ks H1c, st.nx⟩
end Go.Psl
namespace Go
variable {P : Program}
end Go
namespace Go.Psl
variable {P : Program} {Γ : Tys} {eqs : Eqs} {E : Ent} {f0 : FuncId}
def wpAt (f0 : FuncId) (rd : Option Nat) (P : Program) (c : Code) (Q : Exit -> Act -> World -> Prop) (a : Act) (w : World) : Prop :=
 ∀ (b : Frame) (k : List Item) (cs : List Frame), b.roundOf = rd -> b.fn = f0 -> ∃ e a' w', Q e a' w' /\ ArrivesIn (Machine.fenced P Fence.wide) P (lone (b.atR a (.code c :: k)) cs w) b k cs e a' w'
theorem room_any {rd : Option Nat} (n : Nat) : ({ Fence.wide with round := rd } : Fence).room n := fun d h => by cases h
theorem wpAt.of {rd : Option Nat} {c : Code} {Q : Exit -> Act -> World -> Prop} {a : Act} {w : World} (h : c.wpIn { Fence.wide with round := rd } 0 P Q a w) : wpAt f0 rd P c Q a w :=
 fun b k cs hro _ => h b k cs hro trivial (room_any _)
theorem wpAt.mono {rd : Option Nat} {c : Code} {Q Q' : Exit -> Act -> World -> Prop} {a : Act} {w : World} (h : wpAt f0 rd P c Q a w) (hq : ∀ e a w, Q e a w -> Q' e a w) : wpAt f0 rd P c Q' a w :=
 fun b k cs hro hb => let ⟨e, a', w', q, r⟩ := h b k cs hro hb; ⟨e, a', w', hq _ _ _ q, r⟩
theorem wpAt.seq {rd : Option Nat} {x y : Code} {Q : Exit -> Act -> World -> Prop} {a : Act} {w : World} (h : wpAt f0 rd P x (Exit.then (fun a w => wpAt f0 rd P y Q a w) Q) a w) : wpAt f0 rd P (Code.seq x y) Q a w := by
 intro b k cs hro hb
 have h0 : (lone (b.atR a (.code (.seq x y) :: k)) cs w).fenced P Fence.wide := fenced_wide _ _
 obtain ⟨e, a₁, w₁, hq, harr⟩ := h b (.code y :: k) cs hro hb
 cases e with
 | normal =>
   obtain ⟨e₂, a₂, w₂, hq₂, harr₂⟩ := hq b k cs hro hb
   exact ⟨e₂, a₂, w₂, hq₂, .of_steps (.head h0 stepR_seq harr) harr₂⟩
 | exit id => exact ⟨_, a₁, w₁, hq, .of_steps (.one h0 stepR_seq) (.pass (x := .code y) rfl (fun _ _ => .inl (by simp)) harr)⟩
 | goto l => exact ⟨_, a₁, w₁, hq, .of_steps (.one h0 stepR_seq) (.pass (x := .code y) rfl (fun _ _ => .inl (by simp)) harr)⟩
 | ret => exact ⟨_, a₁, w₁, hq, .of_steps (.one h0 stepR_seq) (.pass (x := .code y) rfl (fun _ _ => .inl (by simp)) harr)⟩
 | panic ch => exact ⟨_, a₁, w₁, hq, .of_steps (.one h0 stepR_seq) (.pass (x := .code y) rfl (fun _ _ => .inl (by simp)) harr)⟩
 | outgrown => exact ⟨_, a₁, w₁, hq, .of_steps (.one h0 stepR_seq) (.pass (x := .code y) rfl (fun _ _ => .inl (by simp)) harr)⟩
theorem wpAt.block {rd : Option Nat} {id : Nat} {c : Code} {Q : Exit -> Act -> World -> Prop} {a : Act} {w : World} (h : wpAt f0 rd P c (Exit.inBlock id Q) a w) : wpAt f0 rd P (Code.block id c) Q a w := by
 intro b k cs hro hb
 have h0 : (lone (b.atR a (.code (.block id c) :: k)) cs w).fenced P Fence.wide := fenced_wide _ _
 obtain ⟨e, a₁, w₁, hq, harr⟩ := h b (.inBlock id :: k) cs hro hb
 cases e with
 | normal => exact ⟨.normal, a₁, w₁, hq, .head h0 stepR_block (StepsIn.trans harr (.one (fenced_wide _ _) stepR_inBlock))⟩
 | exit id' =>
   by_cases hid : id' = id
   . simp only [Exit.inBlock, hid, if_true] at hq
     exact ⟨.normal, a₁, w₁, hq, .head h0 stepR_block (harr.1 k (by simp [exitTo, hid]))⟩
   . simp only [Exit.inBlock, hid, if_false] at hq
     have this : (id == id') = false := by simp; exact fun h => hid h.symm
     have hx : exitTo id' (.inBlock id :: k) = exitTo id' k := by simp [exitTo, this]
     exact ⟨.exit id', a₁, w₁, hq, fun k' hk => .head h0 stepR_block (harr.1 k' (by rw [hx]; exact hk)),
       fun hr' hk => let ⟨k₁, h1, h2⟩ := harr.2 hr' (by rw [hx]; exact hk); ⟨k₁, h1, .head h0 stepR_block h2⟩⟩
 | goto l =>
   have hx : gotoIn l (.inBlock id :: k) = gotoIn l k := by simp [gotoIn]
   exact ⟨_, a₁, w₁, hq, fun k' hk => .head h0 stepR_block (harr.1 k' (by rw [hx]; exact hk)),
     fun hr' hk => let ⟨k₁, h1, h2⟩ := harr.2 hr' (by rw [hx]; exact hk); ⟨k₁, h1, .head h0 stepR_block h2⟩⟩
 | ret => exact ⟨_, a₁, w₁, hq, .of_steps (.one h0 stepR_block) harr⟩
 | panic ch => exact ⟨_, a₁, w₁, hq, .of_steps (.one h0 stepR_block) harr⟩
 | outgrown => exact ⟨_, a₁, w₁, hq, .of_steps (.one h0 stepR_block) harr⟩
theorem wpAt.rangeFunc {g : Operand} {ps : Array Tmp} {assign body : Code} {Q : Exit -> Act -> World -> Prop} {a : Act} {w : World}
   (h : ∃ (l : Nat) (mark : List Deferred) (w₁ : World) (d : Deferred) (w₁' : World) (f : FuncId) (args : Array Value) (w₂ : World),
     (Instr.enterLoop f0 a.tmps ps assign body none).run P w = .ok (l, mark) w₁ /\
     (resolve a.eval (rangeCall g l) 0).run P w₁ = .ok d w₁' /\
     (invoke d.target d.args).run P w₁' = .ok (.enter f args) w₂ /\
     CallsIn Fence.wide 0 P f args w₂ (rangePost Fence.wide 0 P l Q { a with defers := mark ++ a.defers })) :
   wpAt f0 none P (Code.rangeFunc g ps assign body) Q a w := by
 intro b k cs hro hb
 obtain ⟨l, mark, w₁, d, w₁', f, args, w₂, he, hres, hinv, hF, hcall⟩ := h
 rw [<- hro, <- hb] at he
 have h0 : (lone (b.atR a (.code (.rangeFunc g ps assign body) :: k)) cs w).fenced P Fence.wide := fenced_wide _ _
 have henter := stepR_rangeFunc (P := P) (b := b) (a := a) (k := k) (cs := cs) (w := w) he hres hinv
 obtain ⟨e, w₃, fr, hR, hsteps, hfn, hleave⟩ := hcall (b.atR { a with defers := mark ++ a.defers } (.inRangeFunc l :: k) :: cs) (room_wide _)
 cases e with
 | outgrown =>
   obtain ⟨a₀, w₀, hq⟩ := hR
   exact ⟨.outgrown, a₀, w₀, hq, .inr (Outgrown.of_steps (.one henter) hsteps)⟩
 | returned v =>
   have hl : (lone fr (b.atR { a with defers := mark ++ a.defers } (.inRangeFunc l :: k) :: cs) w₃).fenced P Fence.wide := fenced_wide _ _
   obtain ⟨jump, w₄, hend, hj⟩ := hR
   have sback : StepsIn (Machine.fenced P Fence.wide) P (lone (b.atR a (.code (.rangeFunc g ps assign body) :: k)) cs w) (lone (b.atR { a with defers := mark ++ a.defers } ((jump.map Item.code).toList ++ k)) cs w₄) := by
     refine .head h0 henter (StepsIn.trans hsteps (.head hl ?_ (.one (fenced_wide _ _) (stepR_endRangeFunc hend))))
     rw [<- finish_atR_inRangeFunc l v]; exact step_leave_returned hleave
   cases jump with
   | none => exact ⟨.normal, _, w₄, hj, sback⟩
   | some c =>
     obtain ⟨e', a'', w₅, hq, harr⟩ := hj b k cs hro trivial (room_wide _)
     exact ⟨e', a'', w₅, hq, .of_steps sback harr⟩
 | panicked chain =>
   have hl : (lone fr (b.atR { a with defers := mark ++ a.defers } (.inRangeFunc l :: k) :: cs) w₃).fenced P Fence.wide := fenced_wide _ _
   refine ⟨.panic chain, _, w₃, hR, .inRangeFunc l :: k, .head h0 henter (StepsIn.trans hsteps (.one hl ?_))⟩
   rw [<- Frame.raise_atR]; exact step_leave_panicked hleave
def PWf (P : Program) (E : Ent) (f0 : FuncId) (p : PC) (Q : AExit -> St -> Prop) (st : St) : Prop :=
 ∀ c, comp E.nt c = some p -> ∀ G a W, Inv E (· < st.nx) G st a W -> wpAt f0 E.rd P c (fun e a' W' => ∃ x st' G', Inv E (· < st'.nx) G' st' a' W' /\ exRel G' W' x e /\ exOk (· < st'.nx) x /\ Q x st') a W
theorem PWf.of (hΓ : GOk P Γ) (hE : EqOk P eqs) (hm : P.follows .mixedOrders = true) {p : PC} {Q : AExit -> St -> Prop} {st : St} (h : PW P Γ eqs E p Q st) : PWf P E f0 p Q st :=
 fun c hc G a W hI => wpAt.of (PW.sound hΓ hE hm c p hc Q st h G a W hI)
theorem PWf.seq {x y : PC} {Q : AExit -> St -> Prop} {st : St} (h : PWf P E f0 x (seqQ (fun st => PWf P E f0 y Q st) Q) st) : PWf P E f0 (.seq x y) Q st := by
 intro c hc G a W hI
 obtain ⟨cx, cy, rfl, hx, hy⟩ := comp_seq hc
 refine wpAt.seq (wpAt.mono (h cx hx G a W hI) fun e a' W' ⟨x, st', G', hI', hx, ho, hq⟩ => ?_)
 cases e with
 | normal =>
   cases x with
   | normal => exact hq cy hy G' a' W' hI'
   | _ => exact hx.elim
 | _ =>
   cases x <;> first | exact False.elim hx | exact ⟨_, st', G', hI', hx, ho, hq⟩
theorem comp_block {nt : Nat} {c : Code} {id : Nat} {pa : PC} (h : comp nt c = some (.block id pa)) : ∃ x, c = .block id x /\ comp nt x = some pa := by
 cases c with
 | block id a =>
   simp only [comp, Option.map_eq_some_iff] at h
   obtain ⟨a', ha, he⟩ := h
   cases he
   exact ⟨a, rfl, ha⟩
 | rangeFunc f qs a b =>
   simp only [comp, Option.bind_eq_some_iff, Option.map_eq_some_iff] at h
   obtain ⟨a', ha, b', hb, he⟩ := h
   cases he
 | seq x y =>
   simp only [comp, Option.bind_eq_some_iff, Option.map_eq_some_iff] at h
   obtain ⟨a, ha, b, hb, he⟩ := h
   cases he
 | region id ops draw =>
   simp only [comp, mkDraw] at h
   split at h
   . split at h
     . simp only [Option.some.injEq] at h
       split at h <;> cases h
     . cases h
   . split at h <;> cases h
 | cond c a b =>
   simp only [comp, Option.bind_eq_some_iff, Option.map_eq_some_iff] at h
   obtain ⟨a, ha, b, hb, he⟩ := h
   cases he
 | loop a =>
   simp only [comp, Option.map_eq_some_iff] at h
   obtain ⟨a, ha, he⟩ := h
   cases he
 | _ => simp [comp] at h
theorem PWf.block {id : Nat} {x : PC} {Q : AExit -> St -> Prop} {st : St} (h : PWf P E f0 x (blkQ id Q) st) : PWf P E f0 (.block id x) Q st := by
 intro c hc G a W hI
 obtain ⟨cx, rfl, hx⟩ := comp_block hc
 refine wpAt.block (wpAt.mono (h cx hx G a W hI) fun e a' W' ⟨x, st', G', hI', hx, ho, hq⟩ => ?_)
 cases e with
 | exit j =>
   cases x with
   | exit j' =>
     have hx : j' = j := hx
     subst hx
     simp only [blkQ] at hq
     simp only [Exit.inBlock]
     split
     . rename_i hj; rw [if_pos hj] at hq; exact ⟨.normal, st', G', hI', trivial, trivial, hq⟩
     . rename_i hj; rw [if_neg hj] at hq; exact ⟨.exit j', st', G', hI', rfl, trivial, hq⟩
   | _ => exact hx.elim
 | _ => cases x <;> first | exact False.elim hx | exact ⟨_, st', G', hI', hx, ho, hq⟩
theorem comp_range {nt : Nat} {c : Code} {fo : Operand} {ps : List Nat} {pa pb : PC} (h : comp nt c = some (.rangeF fo ps pa pb)) : ∃ (qs : Array Tmp) (x y : Code), c = .rangeFunc fo qs x y /\ qs.toList = ps /\ comp nt x = some pa /\ comp nt y = some pb := by
 cases c with
 | rangeFunc f qs a b =>
   simp only [comp, Option.bind_eq_some_iff, Option.map_eq_some_iff] at h
   obtain ⟨a', ha, b', hb, he⟩ := h
   cases he
   exact ⟨qs, a, b, rfl, rfl, ha, hb⟩
 | seq x y =>
   simp only [comp, Option.bind_eq_some_iff, Option.map_eq_some_iff] at h
   obtain ⟨a, ha, b, hb, he⟩ := h
   cases he
 | region id ops draw =>
   simp only [comp, mkDraw] at h
   split at h
   . split at h
     . simp only [Option.some.injEq] at h
       split at h <;> cases h
     . cases h
   . split at h <;> cases h
 | cond c a b =>
   simp only [comp, Option.bind_eq_some_iff, Option.map_eq_some_iff] at h
   obtain ⟨a, ha, b, hb, he⟩ := h
   cases he
 | block id a =>
   simp only [comp, Option.map_eq_some_iff] at h
   obtain ⟨a, ha, he⟩ := h
   cases he
 | loop a =>
   simp only [comp, Option.map_eq_some_iff] at h
   obtain ⟨a, ha, he⟩ := h
   cases he
 | _ => simp [comp] at h
def PRangeF (P : Program) (E : Ent) (f0 : FuncId) (fo : Operand) (ps : List Nat) (pa pb : PC) (Q : AExit -> St -> Prop) (st : St) : Prop :=
 (E.rq /\ (E.nt = panN -> f0 = panF)) /\ ∃ g caps args Hin ks res H1, calleeOf (evF st.fr fo) = some (g, caps) /\ CallA P (upd st.H st.nx (some [.lr st.fr E.nt ps pa pb .ready])) g (.yl st.nx :: caps) args Hin ks res H1 /\ st.nx ∈ ks /\
   match res with
   | .ret _ => ∃ jmp, H1 st.nx = some [.lr st.fr E.nt ps pa pb jmp] /\ jumpQ Q ⟨st.fr, upd (heapM (upd st.H st.nx (some [.lr st.fr E.nt ps pa pb .ready])) (st.nx + 1048576) Hin ks H1) st.nx none, st.nx + 2097152⟩ jmp
   | .pan r => Q (.pan (ren (sg ks (st.nx + 1048576)) r)) ⟨st.fr, upd (heapM (upd st.H st.nx (some [.lr st.fr E.nt ps pa pb .ready])) (st.nx + 1048576) Hin ks H1) st.nx none, st.nx + 2097152⟩
theorem PWf.range {fo : Operand} {ps : List Nat} {pa pb : PC} {Q : AExit -> St -> Prop} {st : St} (h : PRangeF P E f0 fo ps pa pb Q st) : PWf P E f0 (.rangeF fo ps pa pb) Q st := by
 intro c hc
 obtain ⟨qs, assign, body, rfl, rfl, ha, hb⟩ := comp_range hc
 obtain ⟨⟨⟨hrd, hnm⟩, hnp⟩, g, caps, args, Hin, ks, res, H1, hg, ⟨hfn, hcb⟩, hks, hend⟩ := h
 intro G a W hI
 rw [hrd]
 refine wpAt.rangeFunc ?_
 obtain ⟨G1, hI1, hβ, hbs⟩ := hI.enter hnm hnp (U' := (· < st.nx + 1048576)) (k := st.nx) (ps := qs) (by omega) (fun i hi => by omega) (by omega) ha hb
 generalize hW1 : ((W.alloc (.deferred (some []))).alloc (.loop { state := .ready, pending := none, fn := f0, tmps := a.tmps, params := qs, assign, body, defers := W.heap.size })) = W1 at hI1
 have key : ∃ cv : Array Value, a.eval fo = .func (.func g) #[] cv /\ All2 (RV G1 W1) caps cv.toList := by
   have hx := (hI1.op fo).1
   unfold calleeOf at hg
   have hev : (({ a with defers := { target := .collected W.heap.size, args := #[] } :: a.defers } : Act).eval fo) = a.eval fo := by cases fo <;> rfl
   rw [hev] at hx
   split at hg
   . rename_i g' caps' hv
     cases hg
     simp only at hx
     rw [hv] at hx
     have hx' : RD G1.Im W1 (.fn g caps') (a.eval fo) := hx
     generalize a.eval fo = u at hx'
     cases hx' with
     | fn _ _ cv hl hrr =>
       refine ⟨cv, rfl, All2.map_left.2 (All2.of_get (by simpa using hl.symm) fun i x y hx hy => ?_)⟩
       exact hrr i x y hx (by rwa [Array.getElem?_toList] at hy)
   . rename_i g' caps' hv
     cases hg
     simp only at hx
     rw [hv] at hx
     obtain ⟨cv, hxa, hcr⟩ := hx
     exact ⟨cv, hxa, hcr.mono fun _ _ _ h => R2.rv (R1.r2 (R0.r1 h))⟩
   . cases hg
 obtain ⟨cv, hfe, hcr⟩ := key
 obtain ⟨f', hfn', hbody, hname⟩ := hfn.1
 have h1 : f'.name ≠ "runtime.NumGoroutine" := by simpa using hname
 have h2 : f'.body.isNone = false := by cases h : f'.body <;> simp_all
 have hrel : All2 (RV G1 W1) (.yl st.nx :: caps) ((#[.func (.yield (W.heap.size + 1)) #[] #[]] ++ cv : Array Value)).toList := by
   have : RV G1 W1 (.yl st.nx) (.func (.yield (W.heap.size + 1)) #[] #[]) := by
     exact .inl ⟨hbs, by rw [hβ]⟩
   simpa using (show All2 (RV G1 W1) (.yl st.nx :: caps) (Value.func (.yield (W.heap.size + 1)) #[] #[] :: cv.toList) from ⟨this, hcr⟩)
 obtain ⟨Im, hIm, hall, hpre, hph, hcs⟩ := callB_pre hI1 hrel hcb
 obtain ⟨hin, hlt, hkk, _⟩ := hcb
 refine ⟨W.heap.size + 1, [{ target := .collected W.heap.size, args := #[] }], W1, { target := .fn (.func g) cv, args := #[.func (.yield (W.heap.size + 1)) #[] #[]] }, W1, g, #[.func (.yield (W.heap.size + 1)) #[] #[]] ++ cv, W1, ?_, ?_, ?_, ?_⟩
 . rw [<- hW1]
   exact run_enterLoop_outer _ _ _ _ _
 . have e1 : (#[] ++ Array.map a.eval #[Operand.const (Value.func (Fn.yield (W.heap.size + 1)) #[] #[])] : Array Value) = #[.func (.yield (W.heap.size + 1)) #[] #[]] := by
     simp only [Array.empty_append, List.map_toArray, List.map_cons, List.map_nil]
     rfl
   simp only [resolve, hfe, Deferred.ofValue, Sem.run_pure, e1]
 . simp only [invoke, callFunc, Sem.run_bind, run_program, Result.andThen_ok, hfn']
   simp [h1, h2]
 . show CallsIn Fence.wide 0 P g _ W1 _
   rw [callsIn_wide]
   refine (hfn.2 { G1 with Im := Im } W1 _ hIm hall hpre).mono fun e W' ⟨G', hpost⟩ => ?_
   obtain ⟨G2, hI2, hrv, hav, hchg2⟩ := hI1.call (U' := (· < st.nx + 2097152)) (base := st.nx + 1048576) (fun j hj => by omega) (fun i hi => by omega) (fun j hj => by omega) hin hlt (fun i hi => (hpre.st i hi).1) hph hpost hcs
   have hkeep : st.nx ∈ ks -> ∀ jmp, H1 st.nx = some [.lr st.fr E.nt qs.toList pa pb jmp] -> heapM (upd st.H st.nx (some [.lr st.fr E.nt qs.toList pa pb .ready])) (st.nx + 1048576) Hin ks H1 st.nx = some [.lr (fun t => ren (sg ks (st.nx + 1048576)) (st.fr t)) E.nt qs.toList pa pb jmp] := fun hk jmp hj => by
     simp only [heapM, if_pos hk, hj]; rfl
   have hβ2 : G2.β st.nx = W.heap.size + 1 := (hchg2.ag st.nx (by omega)).1.trans hβ
   cases res with
   | ret r =>
     obtain ⟨jmp, hj, hq⟩ := hend
     cases e with
     | returned v =>
       have hnb : jmp ≠ .busy := by intro e; subst e; exact hq.elim
       obtain ⟨j, W4, he, hjm, hI4, _⟩ := hI2.leave (P := P) (hkeep hks jmp hj) hnb
       rw [hβ2] at he
       refine ⟨j, W4, he, ?_⟩
       have hI5 := (hI4.nx (st.nx + 2097152))
       cases jmp with
       | mapr es => exact hq.elim
       | ready =>
         cases hjm
         exact ⟨.normal, _, G2, hI5, trivial, trivial, hq⟩
       | busy => exact hq.elim
       | done c =>
         simp only at hjm
         subst hjm
         cases c <;> first | exact hq.elim | exact wpIn_ret ⟨.ret, _, G2, hI5, trivial, trivial, hq⟩ | exact wpIn_exit ⟨.exit _, _, G2, hI5, rfl, trivial, hq⟩
     | _ => exact hrv.elim
   | pan r =>
     cases e with
     | panicked ch => exact ⟨.pan (ren (sg ks (st.nx + 1048576)) r), ⟨st.fr, _, st.nx + 2097152⟩, G2, ((hI2.drop st.nx).nx (st.nx + 2097152)), hrv, hav, hend⟩
     | _ => exact hrv.elim
end Go.Psl
namespace Go.Psl
variable {P : Program} {Γ : Tys} {eqs : Eqs} {E : Ent} {f0 : FuncId}
def DWf (P : Program) (E : Ent) (f0 : FuncId) (fn : Func) (r : V) (H1 : List (Nat × List V)) (p : PC) (st : St) : Prop :=
 ResIds r H1 -> ∀ (c : Code), comp E.nt c = some p -> ∀ (G0 : Gh) (W0 : World), BaseOk E G0 W0 -> ∀ G a W, Inv E (· < st.nx) G st a W ->
   wpAt f0 none P c (bodyPostM Fence.wide 0 P fn (EndR G0 W0 r H1)) a W
def dwfQ (P : Program) (Γ : Tys) (E : Ent) (f0 : FuncId) (fn : Func) (r : V) (H1 : List (Nat × List V)) (pb : PC) : AExit -> St -> Prop
 | .normal, st => DWf P E f0 fn r H1 pb st
 | .ret, st => RetM Γ fn [] r H1 st
 | _, _ => False
theorem DWf.seq (hΓ : GOk P Γ) (hE : EqOk P eqs) (hm : P.follows .mixedOrders = true) {fn : Func} {r : V} {H1 : List (Nat × List V)} {pa pb : PC} {st : St} (h : PW P Γ eqs E pa (dwfQ P Γ E f0 fn r H1 pb) st) : DWf P E f0 fn r H1 (.seq pa pb) st := by
 intro hri c hc G0 W0 hB G a W hI
 obtain ⟨x, y, rfl, hx, hy⟩ := comp_seq hc
 have h1 := PWf.of (f0 := f0) hΓ hE hm h x hx G a W hI
 rw [hB.rd] at h1
 refine wpAt.seq (wpAt.mono h1 fun e a' W' ⟨z, st', G', hI', hz, ho, hq⟩ => ?_)
 have hbase : E.W0 = W0 /\ E.Im0 = G0.Im /\ (∀ b, E.mu b ↔ lentB G0 noH b) /\ ∀ i, i ∈ ([] : List Nat) -> E.stab i /\ E.β0 i = G0.β i /\ E.bs0 i = G0.bs i /\ E.lo0 i = G0.lo i := ⟨hB.w, hB.im, hB.mu, fun _ h => by cases h⟩
 cases z with
 | normal =>
   cases e <;> first | exact hq hri y hy G0 W0 hB G' a' W' hI' | exact False.elim hz
 | ret =>
   cases e with
   | ret =>
     show LeavesInM Fence.wide 0 P fn a'.tmps (EndR G0 W0 r H1) a'.defers .returning W'
     obtain ⟨ds, hd, hmk⟩ := hI'.df
     rw [hmk.nm hB.nm, hB.dx] at hd
     rw [hd]
     obtain ⟨ρ, v, hv, hr, h4, h5, h6⟩ := run_resM hΓ hI' hq
     exact ⟨v, hv, _, post_of (res := .ret r) hbase hri hI' h4 h5 h6 (e := .returned v) hr⟩
   | _ => exact False.elim hz
 | _ => exact hq.elim
end Go.Psl
namespace Go.Psl
variable {P : Program} {Γ : Tys} {eqs : Eqs} {E : Ent} {f0 : FuncId}
section keep
variable {ks xs xs1 : List Nat} {L L1 : List (Nat × List V)}
theorem PanM.keep {st : St} {r : D} (h : KeepOk ks L) (hH : ∀ i ∈ ks, st.H i = Go.Psl.lk L i) : PanM ks (.d r) (.d r) L st :=
 ⟨rid ks, rfl, h.hp hH, h.inj, h.stab hH⟩
end keep
end Go.Psl
namespace Go.Psl
variable {P : Program} {Γ : Tys} {E : Ent} {fn : Func} {r : V} {H1 : List (Nat × List V)} {pb : PC} {st : St}
theorem DCall.mk {H : Hp} {b : Nat} {f : Nat -> V} {g : FuncId} {ids : List (Nat × Nat)} {m : Option V} {K : St -> Prop} (L : List (Nat × List V)) (ks : List Nat) (L1 : List (Nat × List V)) (hf : CmD P g (ids.map fun p => .lp p.1 p.2) (lk L) ks m (lk L1)) (hlive : ∀ p ∈ ids, (H p.1).isSome = true) (hin : HinOk H L) (hi : ∀ p ∈ L1, p.1 ∈ ks \/ p.1 < 1048576) (hks : ksOk b L L1 ks) (hL : ∀ p ∈ L, p.1 < b)
   (hk : K ⟨f, addM (delL H L) ks b L1, b⟩) : DCall P g ids m K ⟨f, H, b⟩ := by
 have hL' : ∀ i, InH (lk L) i -> i < b := fun i h => by
   obtain ⟨x, hx⟩ := Option.isSome_iff_exists.1 h
   exact hL _ (lk_mem' hx)
 refine ⟨hlive, _, lk L, ks, lk L1, hf, ⟨hin.at, fun i h hn => hiOk_at hi h hn, fun i h => (hks.at i h).2.2, .inl ?_⟩, ?_⟩
 . exact All2.of_get rfl fun i x y hx hy => by
     rw [hx] at hy; cases hy
     rw [List.getElem?_map] at hx
     obtain ⟨p, _, rfl⟩ := Option.map_eq_some_iff.1 hx
     exact ⟨rfl, rfl⟩
 . show K ⟨f, heapM H b (lk L) ks (lk L1), b⟩
   rw [heapM_list H ks b L L1 hks hL']
   exact hk
end Go.Psl
