/- Own lemmas, used by the last text. Conditions: those that each theorem states. -/
import Derived.RecoverIn
import Derived.Test.YtcaecmiedjnacaaGreatDoorKhae
import Derived.Test.YtcaecmiedjnacaaGreatDoorKhag
import Derived.Test.YtcaecmiedjnacaaGreatDoorKhah
import Derived.Test.YtcaecmiedjnacaaGreatDoorKhai
set_option maxRecDepth 200000
set_option maxHeartbeats 8000000
namespace Go.Psl
variable {P : Program} {Γ : Tys} {eqs : Eqs} {E : Ent}
def modeOf (G : Gh) (W : World) : Option V -> FrameMode -> Prop
 | none, u => u = .returning
 | some v, u => ∃ x, u = .panicking [{ v := x, recovered := false }] /\ RV G W v x
def CmD (P : Program) (f : FuncId) (args : List V) (Hin : Hp) (ks : List Nat) (m : Option V) (H1 : Hp) : Prop :=
 isFn P f /\ ∀ (G : Gh) (W : World) (xs : Array Value) (u : FrameMode), GW G.Im W -> All2 (R2 G W) args xs.toList -> PreH G W Hin ks -> modeOf G W m u ->
   CallsDIn Fence.wide 0 P f xs u W fun e u' W' => settle u' = .returning /\ (∃ v, e = .returned v) /\ ∃ G', Post G W Hin ks (.ret (.tup [])) H1 e W' G'
def recV : Option V -> V
 | none => .d (.lit .nilIface)
 | some v => v
theorem begin_rel {fn : Func} {args : List V} {N : Nat} {G : Gh} {W : World} {xs : Array Value} (hcl : ∀ v ∈ args, A2 (· < N) anyD v) (hargs : All2 (R2 G W) args xs.toList) :
   (∀ t, RV G W (argF 0 args t) ((xs ++ Array.replicate (fn.ntmps - xs.size) undef).getD t undef)) /\ ∀ t, AV (· < N) anyD (argF 0 args t) := by
 have hl : args.length = xs.size := by have := hargs.length; simpa using this
 refine ⟨fun t => ?_, fun t => ?_⟩
 . rw [argF_at, if_pos (Nat.zero_le t), Nat.sub_zero, Array.getD_eq_getD_getElem?]
   by_cases ht : t < xs.size
   . rw [Array.getElem?_append_left ht, Array.getElem?_eq_getElem ht]
     have h1 : args[t]? = some args[t] := List.getElem?_eq_getElem (by omega)
     obtain ⟨x, hx, hrx⟩ := hargs.get h1
     rw [h1]
     have : x = xs[t] := by
       rw [Array.getElem?_toList, Array.getElem?_eq_getElem ht] at hx; cases hx; rfl
     subst this
     exact hrx.rv
   . rw [List.getElem?_eq_none (by omega), Array.getElem?_append_right (by omega)]
     have : ((Array.replicate (fn.ntmps - xs.size) undef)[t - xs.size]?).getD undef = undef := by
       rw [Array.getElem?_replicate]; split <;> rfl
     rw [this]
     exact tup_nil
 . rw [argF_at, if_pos (Nat.zero_le t), Nat.sub_zero]
   cases h1 : args[t]? with
   | none => intro c hc; cases hc
   | some v =>
     obtain ⟨x, _, hx⟩ := hargs.get h1
     exact hx.av (hcl v (List.mem_of_getElem? h1))
theorem CmD.by (hΓ : GOk P Γ) (hE : EqOk P eqs) (hm : P.follows .mixedOrders = true) {f : FuncId} {fn : Func} {id : Nat} {o1 o2 : Oper} {rest : Code} {p : PC} {t3 t2 : Nat} {args : List V} {Hin : Hp} {ks : List Nat} {m : Option V} {H1 : List (Nat × List V)} (N : Nat)
   (hf : P.funcs[f]? = some fn) (hb : fn.body = some (.seq (.region id #[o1, o2] false) rest)) (hname : (fn.name == "runtime.NumGoroutine") = false)
   (g1 : o1.guard = none) (g2 : o2.guard = none) (d1 : o1.dst = some t3) (d2 : o2.dst = some t2) (r1 : ∀ ρ W, (execOp ρ o1).run P W = .ok .recover W) (r2 : ∀ ρ W, (execOp ρ o2).run P W = .ok (.value (ρ (.tmp t3))) W) (n3 : t3 < fn.ntmps) (n2 : t2 < fn.ntmps)
   (hc : comp fn.ntmps rest = some p) (hn : args.length <= fn.ntmps) (hcl : ∀ v ∈ args, A2 (· < N) anyD v) (hrv : AV (· < N) anyD (recV m)) (hids : IdsFn N Hin) (hks : ∀ i ∈ ks, i < N) (hri : ResIds (.tup []) H1)
   (h : ∀ E : Ent, (∀ i, E.stab i ↔ i ∈ ks) -> PW P Γ eqs E p (retM Γ fn ks (.ret (.tup [])) H1) ⟨frPut (frPut (argF 0 args) (some t3) (recV m)) (some t2) (recV m), Hin, N⟩) : CmD P f args Hin ks m (lk H1) := by
 refine ⟨⟨fn, hf, by rw [hb]; rfl, hname⟩, fun G W xs u hGW hargs hpre hu => ?_⟩
 obtain ⟨hfr, hwf⟩ := begin_rel (fn := fn) hcl hargs
 have hl : args.length = xs.size := by have := hargs.length; simpa using this
 have hsz : (xs ++ Array.replicate (fn.ntmps - xs.size) undef).size = fn.ntmps := by simp; omega
 have hI := Inv.startN (nt := fn.ntmps) (rd := none) (nm := true) hGW hpre hids hks (tmps := xs ++ Array.replicate (fn.ntmps - xs.size) undef) hfr hwf (by rw [hsz]; exact Nat.le_refl _)
 refine callsDIn_of_wpSIn hf hb trivial fun c₀ cs hc0 => ?_
 refine wpSIn_seq (wpSIn_region ?_)
 have tail : ∀ (x : Value) (c1 : Frame) (u' : FrameMode), RV G W (recV m) x -> c1 = { c₀ with mode := u' } -> settle u' = .returning ->
     Exit.thenS (rest.wpSIn Fence.wide 0 P (bodyPostS P fn c₀ cs fun e u' W' => settle u' = .returning /\ (∃ v, e = .returned v) /\ ∃ G', Post G W Hin ks (.ret (.tup [])) (lk H1) e W' G')) (bodyPostS P fn c₀ cs fun e u' W' => settle u' = .returning /\ (∃ v, e = .returned v) /\ ∃ G', Post G W Hin ks (.ret (.tup [])) (lk H1) e W' G') .normal
       ((({ tmps := xs ++ Array.replicate (fn.ntmps - xs.size) undef, defers := [] } : Act).put (some t3) x).put (some t2) x) (c1 :: cs) W := by
   intro x c1 u' hx hc1 hu'
   refine wpSIn_of_wpIn rfl ?_
   have hI1 := (hI.slot hx hrv (some t3) (fun d hd => by cases hd; exact n3)).slot (v := recV m) (x := x) hx hrv (some t2) (fun d hd => by cases hd; exact n2)
   refine wpIn_mono (PW.sound hΓ hE hm rest p hc _ _ (h _ (fun _ => Iff.rfl)) G _ W hI1) fun e a' W' ⟨y, st', G', hI', hy, _, hq⟩ => ?_
   have hbase : W = W /\ G.Im = G.Im /\ (∀ b, lentB G Hin b ↔ lentB G Hin b) /\ ∀ i, i ∈ ks -> i ∈ ks /\ G.β i = G.β i /\ G.bs i = G.bs i /\ G.lo i = G.lo i := ⟨rfl, rfl, fun _ => Iff.rfl, fun _ h => ⟨h, rfl, rfl, rfl⟩⟩
   obtain ⟨ds, hd, hmk⟩ := hI'.df
   have hd0 : ds = [] := hmk.nm rfl
   subst hd0
   have fin : RetM Γ fn ks (.tup []) H1 st' -> bodyPostS P fn c₀ cs (fun e u' W' => settle u' = .returning /\ (∃ v, e = .returned v) /\ ∃ G', Post G W Hin ks (.ret (.tup [])) (lk H1) e W' G') .ret a' (c1 :: cs) W' := fun hq => by
     obtain ⟨ρ, v, hv, hr, h4, h5, h6⟩ := run_resM hΓ hI' hq
     exact ⟨hd, u', by rw [hc1], v, hv, hu', ⟨v, rfl⟩, _, post_of (res := .ret (.tup [])) hbase hri hI' h4 h5 h6 (e := .returned v) hr⟩
   cases e <;> cases y <;> first | exact fin hq | exact hq.elim | exact False.elim hy
 rw [show List.range (#[o1, o2] : Array Oper).size = [0, 1] from rfl]
 simp only [wpOpsSIn]
 have w1 : Region.wanted o1 (yielded #[o1, o2] (xs ++ Array.replicate (fn.ntmps - xs.size) undef)) = true := by simp [Region.wanted, g1]
 have w2 : ∀ T, Region.wanted o2 (yielded #[o1, o2] T) = true := fun T => by simp [Region.wanted, g2]
 have e1 : (#[o1, o2] : Array Oper)[0]? = some o1 := rfl
 have e2 : (#[o1, o2] : Array Oper)[1]? = some o2 := rfl
 have ev : ∀ x : Value, ((({ tmps := xs ++ Array.replicate (fn.ntmps - xs.size) undef, defers := [] } : Act).put (some t3) x).eval (.tmp t3)) = x := fun x => by
   simp [Act.put, Act.eval, Array.getD_eq_getD_getElem?, hsz, n3]
 rw [e1]
 refine ⟨fun _ _ => trivial, ?_⟩
 simp only [w1, if_true, r1]
 cases m with
 | none =>
   have hmode : c₀.mode = .returning := hc0.trans hu
   have hrec : recoverD (c₀ :: cs) = none := by simp [recoverD, hmode]
   simp only [hrec, e2]
   refine ⟨fun _ _ => trivial, ?_⟩
   simp only [w2, if_true, r2, d1, d2, ev]
   exact tail .nilIface c₀ .returning (.lit _ rfl) (by rw [<- hmode]) rfl
 | some v =>
   obtain ⟨x, hx, hrx⟩ := hu
   have hmode : c₀.mode = .panicking [{ v := x, recovered := false }] := hc0.trans hx
   have hrec : recoverD (c₀ :: cs) = some (x, { c₀ with mode := .panicking [{ v := x, recovered := true }] } :: cs) := by simp [recoverD, hmode]
   simp only [hrec, e2]
   refine ⟨fun _ _ => trivial, ?_⟩
   simp only [w2, if_true, r2, d1, d2, ev]
   exact tail x _ _ hrx rfl rfl
end Go.Psl
namespace Go.Psl
variable {P : Program} {Γ : Tys} {eqs : Eqs} {E : Ent}
theorem two_of {α : Type} {l : List α} (h : l.length = 2) : ∃ a b, l = [a, b] := by
 match l, h with
 | [a, b], _ => exact ⟨a, b, rfl⟩
structure BaseOk (E : Ent) (G0 : Gh) (W0 : World) : Prop where
 w : E.W0 = W0
 im : E.Im0 = G0.Im
 mu : ∀ b, E.mu b ↔ lentB G0 noH b
 rd : E.rd = none
 dx : E.dx = []
 nm : E.nm = true
abbrev EndR (G0 : Gh) (W0 : World) (r : V) (H1 : List (Nat × List V)) : Ending -> World -> Prop := fun e W' => ∃ G', Post G0 W0 noH [] (.ret r) (lk H1) e W' G'
def DW (P : Program) (E : Ent) (fn : Func) (r : V) (H1 : List (Nat × List V)) (p : PC) (st : St) : Prop :=
 ResIds r H1 -> ∀ (c : Code), comp E.nt c = some p -> ∀ (G0 : Gh) (W0 : World), BaseOk E G0 W0 -> ∀ G a W, Inv E (· < st.nx) G st a W ->
   c.wpIn Fence.wide 0 P (bodyPostM Fence.wide 0 P fn (EndR G0 W0 r H1)) a W
theorem comp_seq {nt : Nat} {c : Code} {pa pb : PC} (h : comp nt c = some (.seq pa pb)) : ∃ x y, c = .seq x y /\ comp nt x = some pa /\ comp nt y = some pb := by
 cases c with
 | seq x y =>
   simp only [comp, Option.bind_eq_some_iff, Option.map_eq_some_iff] at h
   obtain ⟨a, ha, b, hb, he⟩ := h
   cases he
   exact ⟨x, y, rfl, ha, hb⟩
 | region id ops draw =>
   simp only [comp, mkDraw] at h
   split at h
   . split at h
     . simp only [Option.some.injEq] at h
       split at h <;> cases h
     . cases h
   . split at h <;> cases h
 | cond c a b =>
   simp only [comp, Option.bind_eq_some_iff, Option.map_eq_some_iff] at h
   obtain ⟨a, ha, b, hb, he⟩ := h
   cases he
 | rangeFunc f ps a b =>
   simp only [comp, Option.bind_eq_some_iff, Option.map_eq_some_iff] at h
   obtain ⟨a, ha, b, hb, he⟩ := h
   cases he
 | block id a =>
   simp only [comp, Option.map_eq_some_iff] at h
   obtain ⟨a, ha, he⟩ := h
   cases he
 | loop a =>
   simp only [comp, Option.map_eq_some_iff] at h
   obtain ⟨a, ha, he⟩ := h
   cases he
 | _ => simp [comp] at h
theorem comp_reg {nt : Nat} {c : Code} {ops : List PO} (h : comp nt c = some (.reg ops)) : ∃ id all, c = .region id (List.toArray all) false /\ ops = all.map (poOf all) /\ dstsOk nt all = true := by
 cases c with
 | seq x y =>
   simp only [comp, Option.bind_eq_some_iff, Option.map_eq_some_iff] at h
   obtain ⟨a, ha, b, hb, he⟩ := h
   cases he
 | region id ops draw =>
   simp only [comp, mkDraw] at h
   split at h
   . split at h
     . simp only [Option.some.injEq] at h
       split at h <;> cases h
     . cases h
   . rename_i hd
     split at h
     . rename_i hds
       simp only [Option.some.injEq, PC.reg.injEq] at h
       refine ⟨id, ops.toList, ?_, h.symm, hds⟩
       cases draw
       . simp
       . exact absurd rfl hd
     . cases h
 | cond c a b =>
   simp only [comp, Option.bind_eq_some_iff, Option.map_eq_some_iff] at h
   obtain ⟨a, ha, b, hb, he⟩ := h
   cases he
 | rangeFunc f ps a b =>
   simp only [comp, Option.bind_eq_some_iff, Option.map_eq_some_iff] at h
   obtain ⟨a, ha, b, hb, he⟩ := h
   cases he
 | block id a =>
   simp only [comp, Option.map_eq_some_iff] at h
   obtain ⟨a, ha, he⟩ := h
   cases he
 | loop a =>
   simp only [comp, Option.map_eq_some_iff] at h
   obtain ⟨a, ha, he⟩ := h
   cases he
 | _ => simp [comp] at h
def dwQ (P : Program) (Γ : Tys) (E : Ent) (fn : Func) (r : V) (H1 : List (Nat × List V)) (pb : PC) : AExit -> St -> Prop
 | .normal, st => DW P E fn r H1 pb st
 | .ret, st => RetM Γ fn [] r H1 st
 | _, _ => False
theorem DW.seq (hΓ : GOk P Γ) (hE : EqOk P eqs) (hm : P.follows .mixedOrders = true) {fn : Func} {r : V} {H1 : List (Nat × List V)} {pa pb : PC} {st : St} (h : PW P Γ eqs E pa (dwQ P Γ E fn r H1 pb) st) : DW P E fn r H1 (.seq pa pb) st := by
 intro hri c hc G0 W0 hB G a W hI
 obtain ⟨x, y, rfl, hx, hy⟩ := comp_seq hc
 have hF : E.F = Fence.wide := by unfold Ent.F; rw [hB.rd]; rfl
 have h1 := PW.sound hΓ hE hm x pa hx _ _ h G a W hI
 rw [hF] at h1
 refine wpIn_seq (wpIn_mono h1 fun e a' W' ⟨z, st', G', hI', hz, ho, hq⟩ => ?_)
 have hbase : E.W0 = W0 /\ E.Im0 = G0.Im /\ (∀ b, E.mu b ↔ lentB G0 noH b) /\ ∀ i, i ∈ ([] : List Nat) -> E.stab i /\ E.β0 i = G0.β i /\ E.bs0 i = G0.bs i /\ E.lo0 i = G0.lo i := ⟨hB.w, hB.im, hB.mu, fun _ h => by cases h⟩
 cases z with
 | normal =>
   cases e <;> first | exact hq hri y hy G0 W0 hB G' a' W' hI' | exact False.elim hz
 | ret =>
   cases e with
   | ret =>
     show LeavesInM Fence.wide 0 P fn a'.tmps (EndR G0 W0 r H1) a'.defers .returning W'
     obtain ⟨ds, hd, hmk⟩ := hI'.df
     rw [hmk.nm hB.nm, hB.dx] at hd
     rw [hd]
     obtain ⟨ρ, v, hv, hr, h4, h5, h6⟩ := run_resM hΓ hI' hq
     exact ⟨v, hv, _, post_of (res := .ret r) hbase hri hI' h4 h5 h6 (e := .returned v) hr⟩
   | _ => exact False.elim hz
 | _ => exact hq.elim
def DCall (P : Program) (g : FuncId) (ids : List (Nat × Nat)) (m : Option V) (K : St -> Prop) (st : St) : Prop :=
 (∀ p ∈ ids, (st.H p.1).isSome = true) /\ ∃ args Hin ks H1c, CmD P g args Hin ks m H1c /\ CallB st.H (ids.map fun p => .lp p.1 p.2) args Hin ks (.ret (.tup [])) H1c /\ K ⟨st.fr, heapM st.H st.nx Hin ks H1c, st.nx⟩
def retD (P : Program) (Γ : Tys) (fn : Func) (r : V) (H1 : List (Nat × List V)) (g : FuncId) (ids : List (Nat × Nat)) : AExit -> St -> Prop
 | .normal, st | .ret, st => DCall P g ids none (RetM Γ fn [] r H1) st
 | .pan v, st => ∃ D, v = .d D /\ DCall P g ids (some v) (RetM Γ fn [] r H1) st
 | _, _ => False
theorem leave_defer (hΓ : GOk P Γ) {fn : Func} {r : V} {H1 : List (Nat × List V)} {g : FuncId} {ids : List (Nat × Nat)} {cv : Array Value} (hri : ResIds r H1) {G0 : Gh} {W0 : World} {E : Ent} (hbase : E.W0 = W0 /\ E.Im0 = G0.Im /\ (∀ b, E.mu b ↔ lentB G0 noH b) /\ ∀ i, i ∈ ([] : List Nat) -> E.stab i /\ E.β0 i = G0.β i /\ E.bs0 i = G0.bs i /\ E.lo0 i = G0.lo i)
   (hcv : All2 (fun (p : Nat × Nat) x => E.stab p.1 /\ E.lo0 p.1 = false /\ x = .pointer (some ⟨E.β0 p.1, p.2, none⟩)) ids cv.toList) {st : St} {G : Gh} {a : Act} {W : World} (hI : Inv E (· < st.nx) G st a W) {m : Option V} (hm : ∀ v, m = some v -> ∃ D, v = .d D) {u : FrameMode} (hu0 : u ≠ .run) (hu : modeOf G W m u) (h : DCall P g ids m (RetM Γ fn [] r H1) st) :
   LeavesInM Fence.wide 0 P fn a.tmps (EndR G0 W0 r H1) [{ target := .fn (.func g) cv, args := #[] }] u W := by
 obtain ⟨hlive, args, Hin, ks, H1c, ⟨⟨f', hfn', hbody, hname⟩, hcm⟩, hcb, hK⟩ := h
 have h1 : f'.name ≠ "runtime.NumGoroutine" := by simpa using hname
 have h2 : f'.body.isNone = false := by cases h : f'.body <;> simp_all
 have hrel : All2 (RV G W) (ids.map fun p => V.lp p.1 p.2) cv.toList := All2.map_left.2 (All2.of_get hcv.length fun i p x hp hx => by
   obtain ⟨y, hy, q1, q2, q3⟩ := hcv.get hp
   rw [hx] at hy; cases hy
   have hs := hI.stab p.1 q1 (hlive p (List.mem_of_getElem? hp))
   refine ⟨⟨hs.2.2.1, hs.2.2.2.trans q2⟩, ?_⟩
   rw [q3, hs.1])
 obtain ⟨Im, hIm, hall, hpre, hph, hcs⟩ := callB_pre hI hrel hcb
 obtain ⟨hin, hlt, hkk, _⟩ := hcb
 have hle : ∀ b, G.Im b -> Im b := fun b hb => by
   rcases hcs with h | ⟨h, _⟩
   . exact (h b).2 hb
   . exact (h b).2 (.inl hb)
 have hmode : modeOf { G with Im := Im } W m u := by
   cases m with
   | none => exact hu
   | some v =>
     obtain ⟨x, hx, hr⟩ := hu
     obtain ⟨D, rfl⟩ := hm v rfl
     exact ⟨x, hx, RD.mono (show RD G.Im W D x from hr) fun b hb => ⟨hle b hb, rfl⟩⟩
 refine ⟨hu0, .inr ⟨by simp [Fence.wide], .func g, cv, g, cv, rfl, ?_, fun _ _ => trivial, ?_⟩⟩
 . simp only [invoke, callFunc, Sem.run_bind, run_program, Result.andThen_ok, hfn']
   simp [h1, h2]
 . refine (hcm { G with Im := Im } W cv u hIm hall hpre hmode).mono fun e u' W' ⟨hs, ⟨v, hv⟩, G', hpost⟩ => ?_
   subst hv
   show LeavesInM Fence.wide 0 P fn a.tmps (EndR G0 W0 r H1) [] (settle u') W'
   rw [hs]
   obtain ⟨G'', hI', hrv, hav, _⟩ := hI.call (base := st.nx) (U' := (· < st.nx + 1048576)) (fun j _ => by omega) (fun i hi => by omega) (fun j hj => by omega) hin hlt (fun i hi => (hpre.st i hi).1) hph hpost hcs
   obtain ⟨ρ, v', hv', hr, h4, h5, h6⟩ := run_resM hΓ hI' hK
   exact ⟨v', hv', _, post_of (res := .ret r) hbase hri hI' h4 h5 h6 (e := .returned v') hr⟩
theorem DW.defer (hΓ : GOk P Γ) (hE : EqOk P eqs) (hm : P.follows .mixedOrders = true) {fn : Func} {r : V} {H1 : List (Nat × List V)} {pb : PC} {t : Nat} {g : FuncId} {caps : Array Operand} {cl : Call} {st : St} (ids : List (Nat × Nat)) (hcal : cl.callee = .value (.tmp t)) (hcl : cl.args = #[])
   (hcaps : capL st.fr caps.toList = ids.map fun p => .lp p.1 p.2) (_ : ∀ i, ¬ E.stab i)
   (h : ∀ E' : Ent, E'.nt = E.nt -> (∀ i, E'.stab i ↔ i ∈ ids.map Prod.fst) -> E'.rq -> PW P Γ eqs E' pb (retD P Γ fn r H1 g ids) ⟨frPut st.fr (some t) (.cl g (ids.map fun p => .lp p.1 p.2)), st.H, st.nx + 2097152⟩) :
   DW P E fn r H1 (.seq (.reg [⟨some t, .makeFunc (.func g) #[] caps, none⟩, ⟨none, .defer cl, none⟩]) pb) st := by
 intro hri c hc G0 W0 hB G a W hI
 obtain ⟨x, y, rfl, hx, hy⟩ := comp_seq hc
 obtain ⟨id, all, rfl, hops, hds⟩ := comp_reg hx
 obtain ⟨o1, o2, rfl⟩ := two_of (l := all) (by have := congrArg List.length hops; simpa using this.symm)
 simp only [List.map_cons, List.map_nil, List.cons.injEq, poOf, PO.mk.injEq, and_true] at hops
 obtain ⟨⟨p1, p2, p3⟩, q1, q2, q3⟩ := hops
 have g1 : o1.guard = none := by cases h : o1.guard with | none => rfl | some z => rw [h] at p3; cases p3
 have g2 : o2.guard = none := by cases h : o2.guard with | none => rfl | some z => rw [h] at q3; cases q3
 have hF : E.F = Fence.wide := by unfold Ent.F; rw [hB.rd]; rfl
 refine wpIn_seq (wpIn_region_lit ?_)
 have w1 : Region.wanted o1 (yielded [o1, o2].toArray a.tmps) = true := by simp [Region.wanted, g1]
 have w2 : ∀ T, Region.wanted o2 (yielded [o1, o2].toArray T) = true := fun T => by simp [Region.wanted, g2]
 simp only [wpListIn, w1, if_true]
 have hlt : t < E.nt := by
   have := List.all_eq_true.1 hds o1 (by simp)
   rw [<- p1] at this
   simpa using this
 have hev : evalOp Γ eqs st.H st.nx st.fr o1.op = some (.cl g (ids.map fun p => .lp p.1 p.2), .none) := by
   rw [<- p2]
   simp only [evalOp, mkAny, hcaps, mkFuncF]
   simp [V.cap]
 have hs := step_sound (U' := (· < st.nx + 2097152)) hΓ hE hI (o := o1) (b := st.nx) (fun j _ => by omega) (fun i hi => by omega) (fun j hj => by omega) (fun d hd => by rw [<- p1] at hd; cases hd; exact hlt) (.plain _ _ hev)
   (K := fun a' W' => wpListIn Fence.wide 0 P [o1, o2].toArray (Exit.then (y.wpIn Fence.wide 0 P (bodyPostM Fence.wide 0 P fn (EndR G0 W0 r H1))) (bodyPostM Fence.wide 0 P fn (EndR G0 W0 r H1))) [o2] a' W')
   (Q := Exit.then (y.wpIn Fence.wide 0 P (bodyPostM Fence.wide 0 P fn (EndR G0 W0 r H1))) (bodyPostM Fence.wide 0 P fn (EndR G0 W0 r H1))) fun G' a' W' hI' => by
     simp only [wpListIn, w2, if_true]
     refine ⟨fun _ _ => trivial, ?_⟩
     have hfr := hI'.fr t
     have hwf := hI'.wf t
     have e0 : frPut st.fr o1.dst (.cl g (ids.map fun p => .lp p.1 p.2)) t = .cl g (ids.map fun p => .lp p.1 p.2) := by rw [<- p1]; simp [frPut, upd]
     simp only [e0] at hfr hwf
     obtain ⟨cv, hx, hcr⟩ := hfr
     have hwf' : ∀ c ∈ (ids.map fun p => V.lp p.1 p.2), A0 (· < st.nx + 2097152) anyD c := hwf
     have hev2 : a'.eval (.tmp t) = .func (.func g) #[] cv := by
       simpa [Act.eval] using hx
     have hrun : (o2.semAt Fence.wide.round a'.eval).run P W' = .ok (.defer { target := .fn (.func g) cv, args := #[] }) W' := by
       have : Fence.wide.round = none := rfl
       rw [this, Oper.semAt_none]
       simp [execOp, <- q2, resolve, hcal, hcl, hev2, Deferred.ofValue]
     rw [hrun]
     simp only [Oper.uponIn, <- q1]
     have hI0 := hI'
     rw [<- p1] at hI0
     have hlp : ∀ i, i ∈ ids.map Prod.fst -> (G'.ph i = false /\ G'.lo i = false) /\ i < st.nx + 2097152 := fun i hi => by
       obtain ⟨p, hp, rfl⟩ := List.mem_map.1 hi
       obtain ⟨k, hk⟩ := List.getElem?_of_mem hp
       obtain ⟨z, hz, hr⟩ := (All2.map_left.1 hcr).get hk
       exact ⟨hr.1, hwf' _ (List.mem_map.2 ⟨p, hp, rfl⟩)⟩
     let E' : Ent := { E with dx := [{ target := .fn (.func g) cv, args := #[] }], nm := false, stab := fun i => i ∈ ids.map Prod.fst, β0 := G'.β, bs0 := G'.bs, lo0 := G'.lo }
     have hdf : a'.defers = [] := by
       obtain ⟨ds, hd, hmk⟩ := hI'.df
       rw [hmk.nm hB.nm, hB.dx] at hd
       exact hd
     have hI2 : Inv E' (· < st.nx + 2097152) G' ⟨frPut st.fr (some t) (.cl g (ids.map fun p => .lp p.1 p.2)), st.H, st.nx + 2097152⟩ { a' with defers := [{ target := .fn (.func g) cv, args := #[] }] } W' :=
       ⟨hI0.fr, hI0.wf, hI0.hp, hI0.wh, hI0.dom, hI0.inj, hI0.own, hI0.im, hI0.im0, ⟨hI0.keep.os, hI0.keep.tape, hI0.keep.output, hI0.keep.drawn, hI0.keep.size, hI0.keep.block⟩, fun i hi _ => ⟨rfl, rfl, (hlp i hi).1.1, rfl⟩, fun i hi => (hlp i hi).2, hI0.nt, ⟨[], rfl, List.nodup_nil, fun _ h => (nomatch h), fun _ => rfl⟩, hI0.gl⟩
     have hF' : E'.F = Fence.wide := by show ({ Fence.wide with round := E.rd } : Fence) = _; rw [hB.rd]; rfl
     have hsnd := PW.sound (E := E') hΓ hE hm y pb hy _ _ (h E' rfl (fun _ => Iff.rfl) ⟨hB.rd, rfl⟩) G' _ W' hI2
     rw [hF'] at hsnd
     rw [hdf]
     show y.wpIn Fence.wide 0 P (bodyPostM Fence.wide 0 P fn (EndR G0 W0 r H1)) { a' with defers := [{ target := .fn (.func g) cv, args := #[] }] } W'
     have hbase : E'.W0 = W0 /\ E'.Im0 = G0.Im /\ (∀ b, E'.mu b ↔ lentB G0 noH b) /\ ∀ i, i ∈ ([] : List Nat) -> E'.stab i /\ E'.β0 i = G0.β i /\ E'.bs0 i = G0.bs i /\ E'.lo0 i = G0.lo i := ⟨hB.w, hB.im, hB.mu, fun _ h => by cases h⟩
     have hcv : All2 (fun (p : Nat × Nat) x => E'.stab p.1 /\ E'.lo0 p.1 = false /\ x = .pointer (some ⟨E'.β0 p.1, p.2, none⟩)) ids cv.toList :=
       All2.of_get (by have := hcr.length; simpa using this) fun i p x hp hx => by
         obtain ⟨z, hz, hr⟩ := (All2.map_left.1 hcr).get hp
         rw [hx] at hz; cases hz
         exact ⟨List.mem_map.2 ⟨p, List.mem_of_getElem? hp, rfl⟩, hr.1.2, hr.2⟩
     refine wpIn_mono hsnd fun e a3 W3 ⟨z, st3, G3, hI3, hz, ho, hq⟩ => ?_
     obtain ⟨ds, hd, _⟩ := hI3.df
     have fin : DCall P g ids none (RetM Γ fn [] r H1) st3 -> LeavesInM Fence.wide 0 P fn a3.tmps (EndR G0 W0 r H1) a3.defers .returning W3 := fun hq => by
       rw [hd]
       refine leave_marks (u := .returning) nofun ds a3 W3 rfl hd hI3 (W0 := W3) (fun _ _ => rfl) fun a4 W4 ht hI4 _ => ?_
       rw [<- ht]
       exact leave_defer hΓ hri hbase hcv hI4 (m := none) nofun nofun rfl hq
     cases z with
     | normal => cases e <;> first | exact fin hq | exact False.elim hz
     | ret => cases e <;> first | exact fin hq | exact False.elim hz
     | exit _ => exact hq.elim
     | goto _ => exact hq.elim
     | pan v =>
       cases e with
       | panic ch =>
         obtain ⟨D, rfl, hq⟩ := hq
         obtain ⟨x, hx, hrx⟩ := hz
         show LeavesInM Fence.wide 0 P fn a3.tmps (EndR G0 W0 r H1) a3.defers (.panicking ch) W3
         rw [hd]
         refine leave_marks (u := .panicking ch) nofun ds a3 W3 rfl hd hI3 (W0 := W3) (fun _ _ => rfl) fun a4 W4 ht hI4 hW4 => ?_
         rw [<- ht]
         refine leave_defer hΓ hri hbase hcv hI4 (m := some (.d D)) (fun v hv => ⟨D, by cases hv; rfl⟩) nofun ⟨x, by rw [hx], ?_⟩ hq
         exact RD.mono (show RD G3.Im W3 D x from hrx) fun b hb => ⟨hb, hW4 b hb⟩
       | _ => exact False.elim hz
 rw [hF] at hs
 exact hs
end Go.Psl
namespace Go
variable {P : Program}
def roundPostP (P : Program) (l : Nat) (R : Ending -> World -> Prop) : Exit -> Act -> World -> Prop
 | .panic ch, a, w => a.defers = [] /\ R (.panicked ch) w
 | e, a, w => roundPost P l R e a w
theorem roundIn_of_wpInP {F : Fence} {n : Nat} {l : Nat} {f : FuncId} {fn : Func} {tmps : Array Value} {assign body : Code} {w : World} {R : Ending -> World -> Prop} (hF : F.fn f) (hf : P.funcs[f]? = some fn)
   (h : assign.wpIn (F.inRound l) n P (Exit.then (fun a₁ w₁ => ∃ w₂, (Instr.beginRound l).run P w₁ = .ok () w₂ /\ body.wpIn (F.inRound l) n P (roundPostP P l R) a₁ w₂) (fun _ _ _ => False))
     { tmps := tmps, defers := [] } w) :
   RoundIn F n P l f tmps assign body w R := by
 refine ⟨hF, fun c cs hr => ?_⟩
 let b : Frame := { (default : Frame) with fn := f, kind := .normal, roundOf := some l }
 have hb0 : Frame.round l f tmps assign body .normal = b.atR { tmps := tmps, defers := [] } [.code assign, .beginRound, .code body] := by
   simp [Frame.round, Frame.atR, b]
 have hr' : (F.inRound l).room ((c :: cs).length + 1 + n) := hr
 have hF' : (F.inRound l).fn b.fn := hF
 obtain ⟨e, a₁, w₁, hq, harr⟩ := h b [.beginRound, .code body] (c :: cs) rfl hF' hr'
 rw [<- hb0] at harr
 cases e with
 | normal =>
   obtain ⟨w₂, hbr, hbody⟩ := hq
   have s1 : StepsIn (Machine.fenced P (F.inRound l)) P (lone (b.atR a₁ [.beginRound, .code body]) (c :: cs) w₁) (lone (b.atR a₁ [.code body]) (c :: cs) w₂) :=
     .one (fenced_calm (fr := b.atR a₁ [.beginRound, .code body]) hF' hr' rfl) (stepR_beginRound rfl hbr)
   obtain ⟨e₂, a₂, w₃, hq₂, harr₂⟩ := hbody b [] (c :: cs) rfl hF' hr'
   cases e₂ with
   | normal =>
     obtain ⟨v, w₄, hend, hR⟩ := hq₂
     exact ⟨.returned v, w₄, hR, (StepsIn.trans harr s1).trans (StepsIn.trans harr₂ (.one (fenced_calm (fr := b.atR a₂ []) hF' hr' rfl) (stepR_round_end rfl rfl hend)))⟩
   | ret =>
     obtain ⟨v, w₄, hend, hR⟩ := hq₂
     obtain ⟨k₁, hs⟩ := harr₂.2 rfl
     exact ⟨.returned v, w₄, hR, (StepsIn.trans harr s1).trans (StepsIn.trans hs (.one (fenced_calm (fr := b.atR a₂ (.code .ret :: k₁)) hF' hr' rfl) (stepR_round_ret rfl rfl hend)))⟩
   | exit id =>
     obtain ⟨v, w₄, hend, hR⟩ := hq₂
     obtain ⟨k₁, hk, hs⟩ := harr₂.2 rfl rfl
     exact ⟨.returned v, w₄, hR, (StepsIn.trans harr s1).trans (StepsIn.trans hs (.one (fenced_calm (fr := b.atR a₂ (.code (.exit id) :: k₁)) hF' hr' rfl) (stepR_round_exit rfl rfl hk hend)))⟩
   | goto t =>
     obtain ⟨v, w₄, hend, hR⟩ := hq₂
     obtain ⟨k₁, hk, hs⟩ := harr₂.2 rfl rfl
     exact ⟨.returned v, w₄, hR, (StepsIn.trans harr s1).trans (StepsIn.trans hs (.one (fenced_calm (fr := b.atR a₂ (.code (.goto t) :: k₁)) hF' hr' rfl) (stepR_round_goto rfl rfl hk hend)))⟩
   | panic chain =>
     obtain ⟨hd, hR⟩ := hq₂
     obtain ⟨todo, hs⟩ := harr₂
     have hl : Frame.leaving P { b.atR a₂ todo with mode := .panicking chain } w₃ (.panicked chain) := ⟨rfl, hd, fn, hf⟩
     exact ⟨.panicked chain, w₃, hR, (StepsIn.trans harr s1).trans (StepsIn.trans hs (.one (fenced_leaving hF' hr' hl) (step_leave_panicked hl)))⟩
   | outgrown => exact hq₂.elim
 | exit id => exact hq.elim
 | goto t => exact hq.elim
 | ret => exact hq.elim
 | panic chain => exact hq.elim
 | outgrown => exact hq.elim
end Go
namespace Go.Psl
variable {P : Program} {Γ : Tys} {eqs : Eqs} {E : Ent} {f0 : FuncId}
def wpAt (f0 : FuncId) (rd : Option Nat) (P : Program) (c : Code) (Q : Exit -> Act -> World -> Prop) (a : Act) (w : World) : Prop :=
 ∀ (b : Frame) (k : List Item) (cs : List Frame), b.roundOf = rd -> b.fn = f0 -> ∃ e a' w', Q e a' w' /\ ArrivesIn (Machine.fenced P Fence.wide) P (lone (b.atR a (.code c :: k)) cs w) b k cs e a' w'
theorem room_any {rd : Option Nat} (n : Nat) : ({ Fence.wide with round := rd } : Fence).room n := fun d h => by cases h
theorem wpAt.of {rd : Option Nat} {c : Code} {Q : Exit -> Act -> World -> Prop} {a : Act} {w : World} (h : c.wpIn { Fence.wide with round := rd } 0 P Q a w) : wpAt f0 rd P c Q a w :=
 fun b k cs hro _ => h b k cs hro trivial (room_any _)
theorem wpAt.mono {rd : Option Nat} {c : Code} {Q Q' : Exit -> Act -> World -> Prop} {a : Act} {w : World} (h : wpAt f0 rd P c Q a w) (hq : ∀ e a w, Q e a w -> Q' e a w) : wpAt f0 rd P c Q' a w :=
 fun b k cs hro hb => let ⟨e, a', w', q, r⟩ := h b k cs hro hb; ⟨e, a', w', hq _ _ _ q, r⟩
theorem wpAt.seq {rd : Option Nat} {x y : Code} {Q : Exit -> Act -> World -> Prop} {a : Act} {w : World} (h : wpAt f0 rd P x (Exit.then (fun a w => wpAt f0 rd P y Q a w) Q) a w) : wpAt f0 rd P (Code.seq x y) Q a w := by
 intro b k cs hro hb
 have h0 : (lone (b.atR a (.code (.seq x y) :: k)) cs w).fenced P Fence.wide := fenced_wide _ _
 obtain ⟨e, a₁, w₁, hq, harr⟩ := h b (.code y :: k) cs hro hb
 cases e with
 | normal =>
   obtain ⟨e₂, a₂, w₂, hq₂, harr₂⟩ := hq b k cs hro hb
   exact ⟨e₂, a₂, w₂, hq₂, .of_steps (.head h0 stepR_seq harr) harr₂⟩
 | exit id => exact ⟨_, a₁, w₁, hq, .of_steps (.one h0 stepR_seq) (.pass (x := .code y) rfl (fun _ _ => .inl (by simp)) harr)⟩
 | goto l => exact ⟨_, a₁, w₁, hq, .of_steps (.one h0 stepR_seq) (.pass (x := .code y) rfl (fun _ _ => .inl (by simp)) harr)⟩
 | ret => exact ⟨_, a₁, w₁, hq, .of_steps (.one h0 stepR_seq) (.pass (x := .code y) rfl (fun _ _ => .inl (by simp)) harr)⟩
 | panic ch => exact ⟨_, a₁, w₁, hq, .of_steps (.one h0 stepR_seq) (.pass (x := .code y) rfl (fun _ _ => .inl (by simp)) harr)⟩
 | outgrown => exact ⟨_, a₁, w₁, hq, .of_steps (.one h0 stepR_seq) (.pass (x := .code y) rfl (fun _ _ => .inl (by simp)) harr)⟩
theorem wpAt.block {rd : Option Nat} {id : Nat} {c : Code} {Q : Exit -> Act -> World -> Prop} {a : Act} {w : World} (h : wpAt f0 rd P c (Exit.inBlock id Q) a w) : wpAt f0 rd P (Code.block id c) Q a w := by
 intro b k cs hro hb
 have h0 : (lone (b.atR a (.code (.block id c) :: k)) cs w).fenced P Fence.wide := fenced_wide _ _
 obtain ⟨e, a₁, w₁, hq, harr⟩ := h b (.inBlock id :: k) cs hro hb
 cases e with
 | normal => exact ⟨.normal, a₁, w₁, hq, .head h0 stepR_block (StepsIn.trans harr (.one (fenced_wide _ _) stepR_inBlock))⟩
 | exit id' =>
   by_cases hid : id' = id
   . simp only [Exit.inBlock, hid, if_true] at hq
     exact ⟨.normal, a₁, w₁, hq, .head h0 stepR_block (harr.1 k (by simp [exitTo, hid]))⟩
   . simp only [Exit.inBlock, hid, if_false] at hq
     have this : (id == id') = false := by simp; exact fun h => hid h.symm
     have hx : exitTo id' (.inBlock id :: k) = exitTo id' k := by simp [exitTo, this]
     exact ⟨.exit id', a₁, w₁, hq, fun k' hk => .head h0 stepR_block (harr.1 k' (by rw [hx]; exact hk)),
       fun hr' hk => let ⟨k₁, h1, h2⟩ := harr.2 hr' (by rw [hx]; exact hk); ⟨k₁, h1, .head h0 stepR_block h2⟩⟩
 | goto l =>
   have hx : gotoIn l (.inBlock id :: k) = gotoIn l k := by simp [gotoIn]
   exact ⟨_, a₁, w₁, hq, fun k' hk => .head h0 stepR_block (harr.1 k' (by rw [hx]; exact hk)),
     fun hr' hk => let ⟨k₁, h1, h2⟩ := harr.2 hr' (by rw [hx]; exact hk); ⟨k₁, h1, .head h0 stepR_block h2⟩⟩
 | ret => exact ⟨_, a₁, w₁, hq, .of_steps (.one h0 stepR_block) harr⟩
 | panic ch => exact ⟨_, a₁, w₁, hq, .of_steps (.one h0 stepR_block) harr⟩
 | outgrown => exact ⟨_, a₁, w₁, hq, .of_steps (.one h0 stepR_block) harr⟩
theorem wpAt.rangeFunc {g : Operand} {ps : Array Tmp} {assign body : Code} {Q : Exit -> Act -> World -> Prop} {a : Act} {w : World}
   (h : ∃ (l : Nat) (mark : List Deferred) (w₁ : World) (d : Deferred) (w₁' : World) (f : FuncId) (args : Array Value) (w₂ : World),
     (Instr.enterLoop f0 a.tmps ps assign body none).run P w = .ok (l, mark) w₁ /\
     (resolve a.eval (rangeCall g l) 0).run P w₁ = .ok d w₁' /\
     (invoke d.target d.args).run P w₁' = .ok (.enter f args) w₂ /\
     CallsIn Fence.wide 0 P f args w₂ (rangePost Fence.wide 0 P l Q { a with defers := mark ++ a.defers })) :
   wpAt f0 none P (Code.rangeFunc g ps assign body) Q a w := by
 intro b k cs hro hb
 obtain ⟨l, mark, w₁, d, w₁', f, args, w₂, he, hres, hinv, hF, hcall⟩ := h
 rw [<- hro, <- hb] at he
 have h0 : (lone (b.atR a (.code (.rangeFunc g ps assign body) :: k)) cs w).fenced P Fence.wide := fenced_wide _ _
 have henter := stepR_rangeFunc (P := P) (b := b) (a := a) (k := k) (cs := cs) (w := w) he hres hinv
 obtain ⟨e, w₃, fr, hR, hsteps, hfn, hleave⟩ := hcall (b.atR { a with defers := mark ++ a.defers } (.inRangeFunc l :: k) :: cs) (room_wide _)
 cases e with
 | outgrown =>
   obtain ⟨a₀, w₀, hq⟩ := hR
   exact ⟨.outgrown, a₀, w₀, hq, .inr (Outgrown.of_steps (.one henter) hsteps)⟩
 | returned v =>
   have hl : (lone fr (b.atR { a with defers := mark ++ a.defers } (.inRangeFunc l :: k) :: cs) w₃).fenced P Fence.wide := fenced_wide _ _
   obtain ⟨jump, w₄, hend, hj⟩ := hR
   have sback : StepsIn (Machine.fenced P Fence.wide) P (lone (b.atR a (.code (.rangeFunc g ps assign body) :: k)) cs w) (lone (b.atR { a with defers := mark ++ a.defers } ((jump.map Item.code).toList ++ k)) cs w₄) := by
     refine .head h0 henter (StepsIn.trans hsteps (.head hl ?_ (.one (fenced_wide _ _) (stepR_endRangeFunc hend))))
     rw [<- finish_atR_inRangeFunc l v]; exact step_leave_returned hleave
   cases jump with
   | none => exact ⟨.normal, _, w₄, hj, sback⟩
   | some c =>
     obtain ⟨e', a'', w₅, hq, harr⟩ := hj b k cs hro trivial (room_wide _)
     exact ⟨e', a'', w₅, hq, .of_steps sback harr⟩
 | panicked chain =>
   have hl : (lone fr (b.atR { a with defers := mark ++ a.defers } (.inRangeFunc l :: k) :: cs) w₃).fenced P Fence.wide := fenced_wide _ _
   refine ⟨.panic chain, _, w₃, hR, .inRangeFunc l :: k, .head h0 henter (StepsIn.trans hsteps (.one hl ?_))⟩
   rw [<- Frame.raise_atR]; exact step_leave_panicked hleave
theorem callsIn_of_at {f : FuncId} {fn : Func} {c : Code} {args : Array Value} {w : World} {R : Ending -> World -> Prop}
   (hf : P.funcs[f]? = some fn) (hb : fn.body = some c)
   (h : wpAt f none P c (bodyPostM Fence.wide 0 P fn R) { tmps := args ++ Array.replicate (fn.ntmps - args.size) undef, defers := [] } w) : CallsIn Fence.wide 0 P f args w R := by
 refine ⟨trivial, fun cs hr => ?_⟩
 let b : Frame := { (default : Frame) with fn := f, kind := .normal, roundOf := none }
 have henter : Frame.enter P f args .normal =
     b.atR { tmps := args ++ Array.replicate (fn.ntmps - args.size) undef, defers := [] } [.code c] := by
   simp [Frame.enter, Frame.atR, hf, hb, b]
 obtain ⟨e, a', w', hq, harr⟩ := h b [] cs rfl rfl
 rw [<- henter] at harr
 cases e with
 | normal =>
   obtain ⟨e', w'', fr', hR, hs, hfn, hl⟩ := leaves_stepsInM (F := Fence.wide) (n := 0) a'.defers .returning w' { b.atR a' [] with mode := .returning } cs rfl rfl rfl hf rfl trivial hr hq
   exact ⟨e', w'', fr', hR, ComesIn.of_steps (StepsIn.trans harr (.one (fenced_wide _ _) (stepR_end rfl))) hs, hfn, hl⟩
 | ret =>
   obtain ⟨todo, hs₀⟩ := harr.1 rfl
   obtain ⟨e', w'', fr', hR, hs, hfn, hl⟩ := leaves_stepsInM (F := Fence.wide) (n := 0) a'.defers .returning w' { b.atR a' todo with mode := .returning } cs rfl rfl rfl hf rfl trivial hr hq
   exact ⟨e', w'', fr', hR, ComesIn.of_steps hs₀ hs, hfn, hl⟩
 | panic chain =>
   obtain ⟨todo, hs₀⟩ := harr
   obtain ⟨e', w'', fr', hR, hs, hfn, hl⟩ := leaves_stepsInM (F := Fence.wide) (n := 0) a'.defers (.panicking chain) w' { b.atR a' todo with mode := .panicking chain } cs rfl rfl rfl hf rfl trivial hr hq
   exact ⟨e', w'', fr', hR, ComesIn.of_steps hs₀ hs, hfn, hl⟩
 | exit id => exact hq.elim
 | goto l => exact hq.elim
 | outgrown => exact ⟨.outgrown, w', b, hq, harr.resolve_left (by simp [b]), rfl, trivial⟩
def PWf (P : Program) (E : Ent) (f0 : FuncId) (p : PC) (Q : AExit -> St -> Prop) (st : St) : Prop :=
 ∀ c, comp E.nt c = some p -> ∀ G a W, Inv E (· < st.nx) G st a W -> wpAt f0 E.rd P c (fun e a' W' => ∃ x st' G', Inv E (· < st'.nx) G' st' a' W' /\ exRel G' W' x e /\ exOk (· < st'.nx) x /\ Q x st') a W
theorem PWf.of (hΓ : GOk P Γ) (hE : EqOk P eqs) (hm : P.follows .mixedOrders = true) {p : PC} {Q : AExit -> St -> Prop} {st : St} (h : PW P Γ eqs E p Q st) : PWf P E f0 p Q st :=
 fun c hc G a W hI => wpAt.of (PW.sound hΓ hE hm c p hc Q st h G a W hI)
theorem PWf.seq {x y : PC} {Q : AExit -> St -> Prop} {st : St} (h : PWf P E f0 x (seqQ (fun st => PWf P E f0 y Q st) Q) st) : PWf P E f0 (.seq x y) Q st := by
 intro c hc G a W hI
 obtain ⟨cx, cy, rfl, hx, hy⟩ := comp_seq hc
 refine wpAt.seq (wpAt.mono (h cx hx G a W hI) fun e a' W' ⟨x, st', G', hI', hx, ho, hq⟩ => ?_)
 cases e with
 | normal =>
   cases x with
   | normal => exact hq cy hy G' a' W' hI'
   | _ => exact hx.elim
 | _ =>
   cases x <;> first | exact False.elim hx | exact ⟨_, st', G', hI', hx, ho, hq⟩
theorem comp_block {nt : Nat} {c : Code} {id : Nat} {pa : PC} (h : comp nt c = some (.block id pa)) : ∃ x, c = .block id x /\ comp nt x = some pa := by
 cases c with
 | block id a =>
   simp only [comp, Option.map_eq_some_iff] at h
   obtain ⟨a', ha, he⟩ := h
   cases he
   exact ⟨a, rfl, ha⟩
 | rangeFunc f qs a b =>
   simp only [comp, Option.bind_eq_some_iff, Option.map_eq_some_iff] at h
   obtain ⟨a', ha, b', hb, he⟩ := h
   cases he
 | seq x y =>
   simp only [comp, Option.bind_eq_some_iff, Option.map_eq_some_iff] at h
   obtain ⟨a, ha, b, hb, he⟩ := h
   cases he
 | region id ops draw =>
   simp only [comp, mkDraw] at h
   split at h
   . split at h
     . simp only [Option.some.injEq] at h
       split at h <;> cases h
     . cases h
   . split at h <;> cases h
 | cond c a b =>
   simp only [comp, Option.bind_eq_some_iff, Option.map_eq_some_iff] at h
   obtain ⟨a, ha, b, hb, he⟩ := h
   cases he
 | loop a =>
   simp only [comp, Option.map_eq_some_iff] at h
   obtain ⟨a, ha, he⟩ := h
   cases he
 | _ => simp [comp] at h
theorem PWf.block {id : Nat} {x : PC} {Q : AExit -> St -> Prop} {st : St} (h : PWf P E f0 x (blkQ id Q) st) : PWf P E f0 (.block id x) Q st := by
 intro c hc G a W hI
 obtain ⟨cx, rfl, hx⟩ := comp_block hc
 refine wpAt.block (wpAt.mono (h cx hx G a W hI) fun e a' W' ⟨x, st', G', hI', hx, ho, hq⟩ => ?_)
 cases e with
 | exit j =>
   cases x with
   | exit j' =>
     have hx : j' = j := hx
     subst hx
     simp only [blkQ] at hq
     simp only [Exit.inBlock]
     split
     . rename_i hj; rw [if_pos hj] at hq; exact ⟨.normal, st', G', hI', trivial, trivial, hq⟩
     . rename_i hj; rw [if_neg hj] at hq; exact ⟨.exit j', st', G', hI', rfl, trivial, hq⟩
   | _ => exact hx.elim
 | _ => cases x <;> first | exact False.elim hx | exact ⟨_, st', G', hI', hx, ho, hq⟩
theorem comp_range {nt : Nat} {c : Code} {fo : Operand} {ps : List Nat} {pa pb : PC} (h : comp nt c = some (.rangeF fo ps pa pb)) : ∃ (qs : Array Tmp) (x y : Code), c = .rangeFunc fo qs x y /\ qs.toList = ps /\ comp nt x = some pa /\ comp nt y = some pb := by
 cases c with
 | rangeFunc f qs a b =>
   simp only [comp, Option.bind_eq_some_iff, Option.map_eq_some_iff] at h
   obtain ⟨a', ha, b', hb, he⟩ := h
   cases he
   exact ⟨qs, a, b, rfl, rfl, ha, hb⟩
 | seq x y =>
   simp only [comp, Option.bind_eq_some_iff, Option.map_eq_some_iff] at h
   obtain ⟨a, ha, b, hb, he⟩ := h
   cases he
 | region id ops draw =>
   simp only [comp, mkDraw] at h
   split at h
   . split at h
     . simp only [Option.some.injEq] at h
       split at h <;> cases h
     . cases h
   . split at h <;> cases h
 | cond c a b =>
   simp only [comp, Option.bind_eq_some_iff, Option.map_eq_some_iff] at h
   obtain ⟨a, ha, b, hb, he⟩ := h
   cases he
 | block id a =>
   simp only [comp, Option.map_eq_some_iff] at h
   obtain ⟨a, ha, he⟩ := h
   cases he
 | loop a =>
   simp only [comp, Option.map_eq_some_iff] at h
   obtain ⟨a, ha, he⟩ := h
   cases he
 | _ => simp [comp] at h
def PRangeF (P : Program) (E : Ent) (f0 : FuncId) (fo : Operand) (ps : List Nat) (pa pb : PC) (Q : AExit -> St -> Prop) (st : St) : Prop :=
 (E.rq /\ (E.nt = panN -> f0 = panF)) /\ ∃ g caps args Hin ks res H1, calleeOf (evF st.fr fo) = some (g, caps) /\ CallA P (upd st.H st.nx (some [.lr st.fr E.nt ps pa pb .ready])) g (.yl st.nx :: caps) args Hin ks res H1 /\ st.nx ∈ ks /\
   match res with
   | .ret _ => ∃ jmp, H1 st.nx = some [.lr st.fr E.nt ps pa pb jmp] /\ jumpQ Q ⟨st.fr, upd (heapM (upd st.H st.nx (some [.lr st.fr E.nt ps pa pb .ready])) (st.nx + 1048576) Hin ks H1) st.nx none, st.nx + 2097152⟩ jmp
   | .pan r => Q (.pan (ren (sg ks (st.nx + 1048576)) r)) ⟨st.fr, upd (heapM (upd st.H st.nx (some [.lr st.fr E.nt ps pa pb .ready])) (st.nx + 1048576) Hin ks H1) st.nx none, st.nx + 2097152⟩
theorem PWf.range {fo : Operand} {ps : List Nat} {pa pb : PC} {Q : AExit -> St -> Prop} {st : St} (h : PRangeF P E f0 fo ps pa pb Q st) : PWf P E f0 (.rangeF fo ps pa pb) Q st := by
 intro c hc
 obtain ⟨qs, assign, body, rfl, rfl, ha, hb⟩ := comp_range hc
 obtain ⟨⟨⟨hrd, hnm⟩, hnp⟩, g, caps, args, Hin, ks, res, H1, hg, ⟨hfn, hcb⟩, hks, hend⟩ := h
 intro G a W hI
 rw [hrd]
 refine wpAt.rangeFunc ?_
 obtain ⟨G1, hI1, hβ, hbs⟩ := hI.enter hnm hnp (U' := (· < st.nx + 1048576)) (k := st.nx) (ps := qs) (by omega) (fun i hi => by omega) (by omega) ha hb
 generalize hW1 : ((W.alloc (.deferred (some []))).alloc (.loop { state := .ready, pending := none, fn := f0, tmps := a.tmps, params := qs, assign, body, defers := W.heap.size })) = W1 at hI1
 have key : ∃ cv : Array Value, a.eval fo = .func (.func g) #[] cv /\ All2 (RV G1 W1) caps cv.toList := by
   have hx := (hI1.op fo).1
   unfold calleeOf at hg
   have hev : (({ a with defers := { target := .collected W.heap.size, args := #[] } :: a.defers } : Act).eval fo) = a.eval fo := by cases fo <;> rfl
   rw [hev] at hx
   split at hg
   . rename_i g' caps' hv
     cases hg
     simp only at hx
     rw [hv] at hx
     have hx' : RD G1.Im W1 (.fn g caps') (a.eval fo) := hx
     generalize a.eval fo = u at hx'
     cases hx' with
     | fn _ _ cv hl hrr =>
       refine ⟨cv, rfl, All2.map_left.2 (All2.of_get (by simpa using hl.symm) fun i x y hx hy => ?_)⟩
       exact hrr i x y hx (by rwa [Array.getElem?_toList] at hy)
   . rename_i g' caps' hv
     cases hg
     simp only at hx
     rw [hv] at hx
     obtain ⟨cv, hxa, hcr⟩ := hx
     exact ⟨cv, hxa, hcr.mono fun _ _ _ h => R2.rv (R1.r2 (R0.r1 h))⟩
   . cases hg
 obtain ⟨cv, hfe, hcr⟩ := key
 obtain ⟨f', hfn', hbody, hname⟩ := hfn.1
 have h1 : f'.name ≠ "runtime.NumGoroutine" := by simpa using hname
 have h2 : f'.body.isNone = false := by cases h : f'.body <;> simp_all
 have hrel : All2 (RV G1 W1) (.yl st.nx :: caps) ((#[.func (.yield (W.heap.size + 1)) #[] #[]] ++ cv : Array Value)).toList := by
   have : RV G1 W1 (.yl st.nx) (.func (.yield (W.heap.size + 1)) #[] #[]) := by
     exact .inl ⟨hbs, by rw [hβ]⟩
   simpa using (show All2 (RV G1 W1) (.yl st.nx :: caps) (Value.func (.yield (W.heap.size + 1)) #[] #[] :: cv.toList) from ⟨this, hcr⟩)
 obtain ⟨Im, hIm, hall, hpre, hph, hcs⟩ := callB_pre hI1 hrel hcb
 obtain ⟨hin, hlt, hkk, _⟩ := hcb
 refine ⟨W.heap.size + 1, [{ target := .collected W.heap.size, args := #[] }], W1, { target := .fn (.func g) cv, args := #[.func (.yield (W.heap.size + 1)) #[] #[]] }, W1, g, #[.func (.yield (W.heap.size + 1)) #[] #[]] ++ cv, W1, ?_, ?_, ?_, ?_⟩
 . rw [<- hW1]
   exact run_enterLoop_outer _ _ _ _ _
 . have e1 : (#[] ++ Array.map a.eval #[Operand.const (Value.func (Fn.yield (W.heap.size + 1)) #[] #[])] : Array Value) = #[.func (.yield (W.heap.size + 1)) #[] #[]] := by
     simp only [Array.empty_append, List.map_toArray, List.map_cons, List.map_nil]
     rfl
   simp only [resolve, hfe, Deferred.ofValue, Sem.run_pure, e1]
 . simp only [invoke, callFunc, Sem.run_bind, run_program, Result.andThen_ok, hfn']
   simp [h1, h2]
 . show CallsIn Fence.wide 0 P g _ W1 _
   rw [callsIn_wide]
   refine (hfn.2 { G1 with Im := Im } W1 _ hIm hall hpre).mono fun e W' ⟨G', hpost⟩ => ?_
   obtain ⟨G2, hI2, hrv, hav, hchg2⟩ := hI1.call (U' := (· < st.nx + 2097152)) (base := st.nx + 1048576) (fun j hj => by omega) (fun i hi => by omega) (fun j hj => by omega) hin hlt (fun i hi => (hpre.st i hi).1) hph hpost hcs
   have hkeep : st.nx ∈ ks -> ∀ jmp, H1 st.nx = some [.lr st.fr E.nt qs.toList pa pb jmp] -> heapM (upd st.H st.nx (some [.lr st.fr E.nt qs.toList pa pb .ready])) (st.nx + 1048576) Hin ks H1 st.nx = some [.lr (fun t => ren (sg ks (st.nx + 1048576)) (st.fr t)) E.nt qs.toList pa pb jmp] := fun hk jmp hj => by
     simp only [heapM, if_pos hk, hj]; rfl
   have hβ2 : G2.β st.nx = W.heap.size + 1 := (hchg2.ag st.nx (by omega)).1.trans hβ
   cases res with
   | ret r =>
     obtain ⟨jmp, hj, hq⟩ := hend
     cases e with
     | returned v =>
       have hnb : jmp ≠ .busy := by intro e; subst e; exact hq.elim
       obtain ⟨j, W4, he, hjm, hI4, _⟩ := hI2.leave (P := P) (hkeep hks jmp hj) hnb
       rw [hβ2] at he
       refine ⟨j, W4, he, ?_⟩
       have hI5 := (hI4.nx (st.nx + 2097152))
       cases jmp with
       | mapr es => exact hq.elim
       | ready =>
         cases hjm
         exact ⟨.normal, _, G2, hI5, trivial, trivial, hq⟩
       | busy => exact hq.elim
       | done c =>
         simp only at hjm
         subst hjm
         cases c <;> first | exact hq.elim | exact wpIn_ret ⟨.ret, _, G2, hI5, trivial, trivial, hq⟩ | exact wpIn_exit ⟨.exit _, _, G2, hI5, rfl, trivial, hq⟩
     | _ => exact hrv.elim
   | pan r =>
     cases e with
     | panicked ch => exact ⟨.pan (ren (sg ks (st.nx + 1048576)) r), ⟨st.fr, _, st.nx + 2097152⟩, G2, ((hI2.drop st.nx).nx (st.nx + 2097152)), hrv, hav, hend⟩
     | _ => exact hrv.elim
end Go.Psl
namespace Go.Psl
variable {P : Program} {Γ : Tys} {eqs : Eqs} {E : Ent} {f0 : FuncId}
def DWf (P : Program) (E : Ent) (f0 : FuncId) (fn : Func) (r : V) (H1 : List (Nat × List V)) (p : PC) (st : St) : Prop :=
 ResIds r H1 -> ∀ (c : Code), comp E.nt c = some p -> ∀ (G0 : Gh) (W0 : World), BaseOk E G0 W0 -> ∀ G a W, Inv E (· < st.nx) G st a W ->
   wpAt f0 none P c (bodyPostM Fence.wide 0 P fn (EndR G0 W0 r H1)) a W
def dwfQ (P : Program) (Γ : Tys) (E : Ent) (f0 : FuncId) (fn : Func) (r : V) (H1 : List (Nat × List V)) (pb : PC) : AExit -> St -> Prop
 | .normal, st => DWf P E f0 fn r H1 pb st
 | .ret, st => RetM Γ fn [] r H1 st
 | _, _ => False
theorem dwfQ_normal {fn : Func} {r : V} {H1 : List (Nat × List V)} {pb : PC} {st : St} : dwfQ P Γ E f0 fn r H1 pb .normal st = DWf P E f0 fn r H1 pb st := nrfl rfl
theorem dwfQ_ret {fn : Func} {r : V} {H1 : List (Nat × List V)} {pb : PC} {st : St} : dwfQ P Γ E f0 fn r H1 pb .ret st = RetM Γ fn [] r H1 st := nrfl rfl
theorem DWf.seq (hΓ : GOk P Γ) (hE : EqOk P eqs) (hm : P.follows .mixedOrders = true) {fn : Func} {r : V} {H1 : List (Nat × List V)} {pa pb : PC} {st : St} (h : PW P Γ eqs E pa (dwfQ P Γ E f0 fn r H1 pb) st) : DWf P E f0 fn r H1 (.seq pa pb) st := by
 intro hri c hc G0 W0 hB G a W hI
 obtain ⟨x, y, rfl, hx, hy⟩ := comp_seq hc
 have h1 := PWf.of (f0 := f0) hΓ hE hm h x hx G a W hI
 rw [hB.rd] at h1
 refine wpAt.seq (wpAt.mono h1 fun e a' W' ⟨z, st', G', hI', hz, ho, hq⟩ => ?_)
 have hbase : E.W0 = W0 /\ E.Im0 = G0.Im /\ (∀ b, E.mu b ↔ lentB G0 noH b) /\ ∀ i, i ∈ ([] : List Nat) -> E.stab i /\ E.β0 i = G0.β i /\ E.bs0 i = G0.bs i /\ E.lo0 i = G0.lo i := ⟨hB.w, hB.im, hB.mu, fun _ h => by cases h⟩
 cases z with
 | normal =>
   cases e <;> first | exact hq hri y hy G0 W0 hB G' a' W' hI' | exact False.elim hz
 | ret =>
   cases e with
   | ret =>
     show LeavesInM Fence.wide 0 P fn a'.tmps (EndR G0 W0 r H1) a'.defers .returning W'
     obtain ⟨ds, hd, hmk⟩ := hI'.df
     rw [hmk.nm hB.nm, hB.dx] at hd
     rw [hd]
     obtain ⟨ρ, v, hv, hr, h4, h5, h6⟩ := run_resM hΓ hI' hq
     exact ⟨v, hv, _, post_of (res := .ret r) hbase hri hI' h4 h5 h6 (e := .returned v) hr⟩
   | _ => exact False.elim hz
 | _ => exact hq.elim
theorem DWf.defer (hΓ : GOk P Γ) (hE : EqOk P eqs) (_ : P.follows .mixedOrders = true) {fn : Func} {r : V} {H1 : List (Nat × List V)} {pb : PC} {t : Nat} {g : FuncId} {caps : Array Operand} {cl : Call} {f : Nat -> V} {H : Hp} {n : Nat} (n' : Nat) (ids : List (Nat × Nat)) (vs : List V) (hcal : cl.callee = .value (.tmp t)) (hcl : cl.args = #[]) (hvs : (ids.map fun p => .lp p.1 p.2) = vs) (hn : n + 2097152 = n')
   (hcaps0 : capL f caps.toList = vs) (_ : ∀ i, ¬ E.stab i)
   (h : ∀ E' : Ent, E'.nt = E.nt -> (∀ i, E'.stab i ↔ i ∈ ids.map Prod.fst) -> E'.rq -> PWf P E' f0 pb (retD P Γ fn r H1 g ids) ⟨frPut f (some t) (.cl g vs), H, n'⟩) :
   DWf P E f0 fn r H1 (.seq (.reg [⟨some t, .makeFunc (.func g) #[] caps, none⟩, ⟨none, .defer cl, none⟩]) pb) ⟨f, H, n⟩ := by
 subst hn hvs
 have hcaps : capL (⟨f, H, n⟩ : St).fr caps.toList = ids.map fun p => .lp p.1 p.2 := hcaps0
 generalize hst0 : (⟨f, H, n⟩ : St) = st at hcaps
 have e1 : f = st.fr := by rw [<- hst0]
 have e2 : H = st.H := by rw [<- hst0]
 have e3 : n = st.nx := by rw [<- hst0]
 rw [e1, e2, e3] at h
 clear e1 e2 e3 hst0 hcaps0
 intro hri c hc G0 W0 hB G a W hI
 obtain ⟨x, y, rfl, hx, hy⟩ := comp_seq hc
 obtain ⟨id, all, rfl, hops, hds⟩ := comp_reg hx
 obtain ⟨o1, o2, rfl⟩ := two_of (l := all) (by have := congrArg List.length hops; simpa using this.symm)
 simp only [List.map_cons, List.map_nil, List.cons.injEq, poOf, PO.mk.injEq, and_true] at hops
 obtain ⟨⟨p1, p2, p3⟩, q1, q2, q3⟩ := hops
 have g1 : o1.guard = none := by cases h : o1.guard with | none => rfl | some z => rw [h] at p3; cases p3
 have g2 : o2.guard = none := by cases h : o2.guard with | none => rfl | some z => rw [h] at q3; cases q3
 have hF : E.F = Fence.wide := by unfold Ent.F; rw [hB.rd]; rfl
 refine wpAt.seq (wpAt.of (rd := none) (wpIn_region_lit ?_))
 have w1 : Region.wanted o1 (yielded [o1, o2].toArray a.tmps) = true := by simp [Region.wanted, g1]
 have w2 : ∀ T, Region.wanted o2 (yielded [o1, o2].toArray T) = true := fun T => by simp [Region.wanted, g2]
 simp only [wpListIn, w1, if_true]
 have hlt : t < E.nt := by
   have := List.all_eq_true.1 hds o1 (by simp)
   rw [<- p1] at this
   simpa using this
 have hev : evalOp Γ eqs st.H st.nx st.fr o1.op = some (.cl g (ids.map fun p => .lp p.1 p.2), .none) := by
   rw [<- p2]
   simp only [evalOp, mkAny, hcaps, mkFuncF]
   simp [V.cap]
 have hs := step_sound (U' := (· < st.nx + 2097152)) hΓ hE hI (o := o1) (b := st.nx) (fun j _ => by omega) (fun i hi => by omega) (fun j hj => by omega) (fun d hd => by rw [<- p1] at hd; cases hd; exact hlt) (.plain _ _ hev)
   (K := fun a' W' => wpListIn Fence.wide 0 P [o1, o2].toArray (Exit.then (fun a w => wpAt f0 none P y (bodyPostM Fence.wide 0 P fn (EndR G0 W0 r H1)) a w) (bodyPostM Fence.wide 0 P fn (EndR G0 W0 r H1))) [o2] a' W')
   (Q := Exit.then (fun a w => wpAt f0 none P y (bodyPostM Fence.wide 0 P fn (EndR G0 W0 r H1)) a w) (bodyPostM Fence.wide 0 P fn (EndR G0 W0 r H1))) fun G' a' W' hI' => by
     simp only [wpListIn, w2, if_true]
     refine ⟨fun _ _ => trivial, ?_⟩
     have hfr := hI'.fr t
     have hwf := hI'.wf t
     have e0 : frPut st.fr o1.dst (.cl g (ids.map fun p => .lp p.1 p.2)) t = .cl g (ids.map fun p => .lp p.1 p.2) := by rw [<- p1]; simp [frPut, upd]
     simp only [e0] at hfr hwf
     obtain ⟨cv, hx, hcr⟩ := hfr
     have hwf' : ∀ c ∈ (ids.map fun p => V.lp p.1 p.2), A0 (· < st.nx + 2097152) anyD c := hwf
     have hev2 : a'.eval (.tmp t) = .func (.func g) #[] cv := by
       simpa [Act.eval] using hx
     have hrun : (o2.semAt Fence.wide.round a'.eval).run P W' = .ok (.defer { target := .fn (.func g) cv, args := #[] }) W' := by
       have : Fence.wide.round = none := rfl
       rw [this, Oper.semAt_none]
       simp [execOp, <- q2, resolve, hcal, hcl, hev2, Deferred.ofValue]
     rw [hrun]
     simp only [Oper.uponIn, <- q1]
     have hI0 := hI'
     rw [<- p1] at hI0
     have hlp : ∀ i, i ∈ ids.map Prod.fst -> (G'.ph i = false /\ G'.lo i = false) /\ i < st.nx + 2097152 := fun i hi => by
       obtain ⟨p, hp, rfl⟩ := List.mem_map.1 hi
       obtain ⟨k, hk⟩ := List.getElem?_of_mem hp
       obtain ⟨z, hz, hr⟩ := (All2.map_left.1 hcr).get hk
       exact ⟨hr.1, hwf' _ (List.mem_map.2 ⟨p, hp, rfl⟩)⟩
     let E' : Ent := { E with dx := [{ target := .fn (.func g) cv, args := #[] }], nm := false, stab := fun i => i ∈ ids.map Prod.fst, β0 := G'.β, bs0 := G'.bs, lo0 := G'.lo }
     have hdf : a'.defers = [] := by
       obtain ⟨ds, hd, hmk⟩ := hI'.df
       rw [hmk.nm hB.nm, hB.dx] at hd
       exact hd
     have hI2 : Inv E' (· < st.nx + 2097152) G' ⟨frPut st.fr (some t) (.cl g (ids.map fun p => .lp p.1 p.2)), st.H, st.nx + 2097152⟩ { a' with defers := [{ target := .fn (.func g) cv, args := #[] }] } W' :=
       ⟨hI0.fr, hI0.wf, hI0.hp, hI0.wh, hI0.dom, hI0.inj, hI0.own, hI0.im, hI0.im0, ⟨hI0.keep.os, hI0.keep.tape, hI0.keep.output, hI0.keep.drawn, hI0.keep.size, hI0.keep.block⟩, fun i hi _ => ⟨rfl, rfl, (hlp i hi).1.1, rfl⟩, fun i hi => (hlp i hi).2, hI0.nt, ⟨[], rfl, List.nodup_nil, fun _ h => (nomatch h), fun _ => rfl⟩, hI0.gl⟩
     have hrd' : E'.rd = none := hB.rd
     have hsnd := h E' rfl (fun _ => Iff.rfl) ⟨hB.rd, rfl⟩ y hy G' _ W' hI2
     rw [hrd'] at hsnd
     rw [hdf]
     show wpAt f0 none P y (bodyPostM Fence.wide 0 P fn (EndR G0 W0 r H1)) { a' with defers := [{ target := .fn (.func g) cv, args := #[] }] } W'
     have hbase : E'.W0 = W0 /\ E'.Im0 = G0.Im /\ (∀ b, E'.mu b ↔ lentB G0 noH b) /\ ∀ i, i ∈ ([] : List Nat) -> E'.stab i /\ E'.β0 i = G0.β i /\ E'.bs0 i = G0.bs i /\ E'.lo0 i = G0.lo i := ⟨hB.w, hB.im, hB.mu, fun _ h => by cases h⟩
     have hcv : All2 (fun (p : Nat × Nat) x => E'.stab p.1 /\ E'.lo0 p.1 = false /\ x = .pointer (some ⟨E'.β0 p.1, p.2, none⟩)) ids cv.toList :=
       All2.of_get (by have := hcr.length; simpa using this) fun i p x hp hx => by
         obtain ⟨z, hz, hr⟩ := (All2.map_left.1 hcr).get hp
         rw [hx] at hz; cases hz
         exact ⟨List.mem_map.2 ⟨p, List.mem_of_getElem? hp, rfl⟩, hr.1.2, hr.2⟩
     refine wpAt.mono hsnd fun e a3 W3 ⟨z, st3, G3, hI3, hz, ho, hq⟩ => ?_
     obtain ⟨ds, hd, _⟩ := hI3.df
     have fin : DCall P g ids none (RetM Γ fn [] r H1) st3 -> LeavesInM Fence.wide 0 P fn a3.tmps (EndR G0 W0 r H1) a3.defers .returning W3 := fun hq => by
       rw [hd]
       refine leave_marks (u := .returning) nofun ds a3 W3 rfl hd hI3 (W0 := W3) (fun _ _ => rfl) fun a4 W4 ht hI4 _ => ?_
       rw [<- ht]
       exact leave_defer hΓ hri hbase hcv hI4 (m := none) nofun nofun rfl hq
     cases z with
     | normal => cases e <;> first | exact fin hq | exact False.elim hz
     | ret => cases e <;> first | exact fin hq | exact False.elim hz
     | exit _ => exact hq.elim
     | goto _ => exact hq.elim
     | pan v =>
       cases e with
       | panic ch =>
         obtain ⟨D, rfl, hq⟩ := hq
         obtain ⟨x, hx, hrx⟩ := hz
         show LeavesInM Fence.wide 0 P fn a3.tmps (EndR G0 W0 r H1) a3.defers (.panicking ch) W3
         rw [hd]
         refine leave_marks (u := .panicking ch) nofun ds a3 W3 rfl hd hI3 (W0 := W3) (fun _ _ => rfl) fun a4 W4 ht hI4 hW4 => ?_
         rw [<- ht]
         refine leave_defer hΓ hri hbase hcv hI4 (m := some (.d D)) (fun v hv => ⟨D, by cases hv; rfl⟩) nofun ⟨x, by rw [hx], ?_⟩ hq
         exact RD.mono (show RD G3.Im W3 D x from hrx) fun b hb => ⟨hb, hW4 b hb⟩
       | _ => exact False.elim hz
 rw [hF] at hs
 exact hs
theorem Ct.byDf (_ : GOk P Γ) {f : FuncId} {fn : Func} {p : PC} {args : List V} {r : V} {H1 : List (Nat × List V)} (hf : P.funcs[f]? = some fn) (hc : fn.body.bind (comp fn.ntmps) = some p) (hname : (fn.name == "runtime.NumGoroutine") = false)
   (hn : args.length <= fn.ntmps) (hcl : ∀ v ∈ args, Closed v) (hri : ResIds r H1) (h : ∀ E : Ent, (∀ i, ¬ E.stab i) -> E.nt = fn.ntmps -> DWf P E f fn r H1 p ⟨argF 0 args, fun _ => none, 0⟩) : Ct P f args r H1 := by
 cases hb : fn.body with
 | none => rw [hb] at hc; cases hc
 | some c =>
   rw [hb] at hc
   refine ⟨⟨fn, hf, by rw [hb]; rfl, hname⟩, fun G W xs hGW hargs hpre => ?_⟩
   have hcl' : ∀ v ∈ args, A2 (· < 0) anyD v := fun v hv => A2.mono (fun _ h => h.elim) (fun _ h => h) (hcl v hv)
   obtain ⟨hfr, hwf⟩ := begin_rel (fn := fn) hcl' hargs
   have hl : args.length = xs.size := by have := hargs.length; simpa using this
   have hI := Inv.startN (N := 0) (nt := fn.ntmps) (rd := none) (nm := true) hGW hpre nofun nofun (tmps := xs ++ Array.replicate (fn.ntmps - xs.size) undef) hfr hwf (by simp; omega)
   rw [<- callsIn_wide (n := 0)]
   refine callsIn_of_at hf hb ?_
   exact h { W0 := W, Im0 := G.Im, mu := lentB G noH, β0 := G.β, bs0 := G.bs, lo0 := G.lo, stab := (· ∈ ([] : List Nat)), nt := fn.ntmps, rd := none, nm := true } (fun i hi => by cases hi) rfl hri c hc G W ⟨rfl, rfl, fun _ => Iff.rfl, rfl, rfl, rfl⟩ G _ W hI
end Go.Psl
namespace Go.Psl
variable {P : Program} {Γ : Tys} {eqs : Eqs} {E : Ent} {f0 : FuncId}
def panQ (ks : List Nat) (r : V) (H1 : List (Nat × List V)) : AExit -> St -> Prop
 | .pan v, st => PanM ks v r H1 st
 | _, _ => False
theorem panQ_pan {ks : List Nat} {r v : V} {H1 : List (Nat × List V)} {st : St} : panQ ks r H1 (.pan v) st = PanM ks v r H1 st := nrfl rfl
structure RndP (P : Program) (Γ : Tys) (eqs : Eqs) (k : Nat) (fr : Nat -> V) (nt : Nat) (ps : List Nat) (pa pb : PC) (args : List V) (Hin : Hp) (ks : List Nat) (r : V) (H1 : List (Nat × List V)) (N : Nat) : Prop where
 run : ∀ E : Ent, E.nt = nt -> (∀ i, E.stab i ↔ i ∈ ks) -> PW P Γ eqs E pa (seqQ (fun st => st.H k = some [.lr fr nt ps pa pb .ready] /\ PW P Γ eqs E pb (panQ ks r H1) ⟨st.fr, upd st.H k (some [.lr fr nt ps pa pb .busy]), st.nx⟩) (fun _ _ => False)) ⟨frPuts fr ps args, Hin, N⟩
theorem Ym.ofP (hΓ : GOk P Γ) (hE : EqOk P eqs) (hm : P.follows .mixedOrders = true) {fn : Func} (hpf : P.funcs[panF]? = some fn) {k : Nat} {fr : Nat -> V} {nt : Nat} (hnp : nt = panN) {ps : List Nat} {pa pb : PC} {args : List V} {Hin : Hp} {ks : List Nat} {r : V} {H1 : List (Nat × List V)} (N : Nat)
   (hk : Hin k = some [.lr fr nt ps pa pb .ready]) (hkk : k ∈ ks) (hlen : ps.length = args.length) (hps : ∀ p ∈ ps, p < nt) (hcl : ∀ v ∈ args, A2 (· < N) anyD v) (hids : IdsFn N Hin) (hks : ∀ i ∈ ks, i < N) (hri : ResIds r H1)
   (h : RndP P Γ eqs k fr nt ps pa pb args Hin ks r H1 N) : Ym P k args Hin ks (.pan r) (lk H1) := by
 intro G W xs rc hGW hargs hpre hrec hsz
 obtain ⟨q1, q2, q3, q4, q5, q6, q7⟩ : LRel G W fr nt ps pa pb .ready rc := by
   rcases hpre.hb k _ hk with ⟨_, h⟩ | ⟨_, _, _, c, T, _, _, _, h, h2⟩ | ⟨h0, h1, h2, ⟨_, fr', nt', ps', pa', pb', jmp', rec, h3, h4, h5⟩ | ⟨_, es, ms, ck, h3, _⟩ | ⟨_, bx, bp, bv, h3, _⟩⟩
   . cases h
   . simp [V.isCell] at h2
   . cases h3; rw [hrec] at h4; cases h4; exact h5
   . simp [mapC] at h3
   . simp at h3
 have hargsV : All2 (RV G W) args xs.toList := hargs.mono fun _ _ _ h => h.rv
 have hfold : (rc.params.zip xs).foldl (fun tmps (t, a) => tmps.setIfInBounds t a) rc.tmps = (ps.zip xs.toList).foldl (fun (tmps : Array Value) (p : Nat × Value) => tmps.setIfInBounds p.1 p.2) rc.tmps := by
   rw [<- Array.foldl_toList, Array.toList_zip, q1]
 obtain ⟨r1, r2⟩ := frPuts_rel (ps := ps) (f := fr) (tmps := rc.tmps) hargsV hlen (fun p hp => Nat.lt_of_lt_of_le (hps p hp) q4) q5
 have hwf : ∀ t, AV (· < N) anyD (frPuts fr ps args t) := frPuts_ok (fun v hv => by
   obtain ⟨i, hi⟩ := List.mem_iff_getElem?.1 hv
   obtain ⟨x, _, hx⟩ := hargs.get hi
   exact hx.av (hcl v hv)) (fun t => (hids k _ hk).2 (.lr fr nt ps pa pb .ready) (by simp) t)
 rw [hfold]
 have hI := Inv.startN (nt := nt) (rd := some (G.β k)) (nm := true) hGW hpre hids hks (f := frPuts fr ps args) (tmps := (ps.zip xs.toList).foldl (fun (tmps : Array Value) (p : Nat × Value) => tmps.setIfInBounds p.1 p.2) rc.tmps) r1 hwf (by rw [r2]; exact q4)
 refine roundIn_of_wpInP (F := Fence.wide) (n := 0) (fn := fn) trivial (by rw [q7 hnp]; exact hpf) ?_
 have hpw := h.run { W0 := W, Im0 := G.Im, mu := lentB G Hin, β0 := G.β, bs0 := G.bs, lo0 := G.lo, stab := (· ∈ ks), nt := nt, rd := some (G.β k), nm := true } rfl (fun _ => Iff.rfl)
 refine wpIn_mono (PW.sound (E := { W0 := W, Im0 := G.Im, mu := lentB G Hin, β0 := G.β, bs0 := G.bs, lo0 := G.lo, stab := (· ∈ ks), nt := nt, rd := some (G.β k), nm := true }) hΓ hE hm rc.assign pa q2 _ _ hpw G _ W hI) fun e a' W' ⟨x, st', G', hI', hx, ho, hq⟩ => ?_
 cases e with
 | normal =>
   cases x with
   | normal =>
     obtain ⟨hk', hb⟩ := hq
     obtain ⟨hph, _, _, rc1, hrec1, hl1⟩ := hI'.loopAt hk'
     have hβ : G'.β k = G.β k := (hI'.stab k hkk (by rw [hk']; rfl)).1
     have hrec1' : W'.heap[G.β k]? = some (.loop rc1) := by rw [<- hβ]; exact hrec1
     have hI2 := hI'.setLoop hk' (rc' := { rc1 with state := .busy }) (s' := .busy) hrec1 ⟨rfl, rfl, rfl, rfl, rfl⟩ rfl
     rw [hβ] at hI2
     refine ⟨_, run_beginRound hrec1' hl1.2.2.2.2.2.1.1, ?_⟩
     refine wpIn_mono (PW.sound (E := { W0 := W, Im0 := G.Im, mu := lentB G Hin, β0 := G.β, bs0 := G.bs, lo0 := G.lo, stab := (· ∈ ks), nt := nt, rd := some (G.β k), nm := true }) hΓ hE hm rc.body pb q3 _ _ hb G' a' _ hI2) fun e a2 W2 ⟨x, st2, G2, hI3, hx, ho, hq⟩ => ?_
     cases e with
     | panic ch =>
       cases x with
       | pan v =>
         obtain ⟨ρ, h3, h4, h5, h6⟩ := hq
         obtain ⟨y, hy, hry⟩ := hx
         obtain ⟨ds, hd, hmk⟩ := hI3.df
         have hd0 : a2.defers = [] := by rw [hmk.nm rfl] at hd; exact hd
         exact ⟨hd0, _, post_of (res := .pan r) ⟨rfl, rfl, fun _ => Iff.rfl, fun _ h => ⟨h, rfl, rfl, rfl⟩⟩ hri hI3 h4 h5 h6 (e := .panicked ch) ⟨y, hy, h3.rel hry⟩⟩
       | _ => exact hx.elim
     | _ => cases x <;> first | exact hq.elim | exact False.elim hx
   | _ => exact hx.elim
 | _ => cases x <;> first | exact False.elim hx | exact hq.elim
section keep
variable {ks xs xs1 : List Nat} {L L1 : List (Nat × List V)}
theorem Ym.ofPX (hΓ : GOk P Γ) (hE : EqOk P eqs) (hm : P.follows .mixedOrders = true) {fn : Func} (hpf : P.funcs[panF]? = some fn) {k : Nat} {fr : Nat -> V} {nt : Nat} (hnp : nt = panN) {ps : List Nat} {pa pb : PC} {args : List V} {r : D} (N : Nat)
   (hL : KeepX ks xs L) (hL1 : KeepX ks xs1 L1) (hlt : ∀ i ∈ ks ++ xs, i < N) (hkk : k ∈ ks) (hk : Go.Psl.lk L k = some [.lr fr nt ps pa pb .ready]) (hlen : ps.length = args.length) (hps : ∀ p ∈ ps, p < nt) (hcl : ∀ v ∈ args, A2 (· < N) anyD v)
   (h : RndP P Γ eqs k fr nt ps pa pb args (Go.Psl.lk L) ks (.d r) L1 N) : Ym P k args (Go.Psl.lk L) ks (.pan (.d r)) (Go.Psl.lk L1) :=
 Ym.ofP hΓ hE hm hpf hnp N hk hkk hlen hps hcl (HpIds.at (hL.ids hlt)) (fun i hi => hlt i (List.mem_append_left _ hi)) ⟨trivial, hL1.res⟩ h
theorem AYield.panX {H : Hp} {b k : Nat} {av : List V} {Kc Kx : V -> Hp -> Prop} (args : List V) (L L1 : List (Nat × List V)) (ks xs xs1 : List Nat) (r : D) (hf : Ym P k args (Go.Psl.lk L) ks (.pan (.d r)) (Go.Psl.lk L1)) (hL : KeepX ks xs L) (hL1 : KeepX ks xs1 L1) (hx : ∀ i ∈ xs1, i < 1048576)
   (hrec : ∃ fr nt ps pa pb jmp, Go.Psl.lk L k = some [.lr fr nt ps pa pb jmp] /\ ps.length = args.length) (hH : ∀ i ∈ ks ++ xs, H i = Go.Psl.lk L i) (hb : All2 (Bor noH) av args) (hk : Kx (.d r) (heapM H b (Go.Psl.lk L) ks (Go.Psl.lk L1))) : AYield P none H H b k av Kc Kx :=
 ⟨rfl, args, Go.Psl.lk L, ks, .pan (.d r), Go.Psl.lk L1, _, ⟨hf, hrec, callB_keepX hL hL1 hx hH hb⟩, rfl, hk⟩
theorem PanM.keep {st : St} {r : D} (h : KeepOk ks L) (hH : ∀ i ∈ ks, st.H i = Go.Psl.lk L i) : PanM ks (.d r) (.d r) L st :=
 ⟨rid ks, rfl, h.hp hH, h.inj, h.stab hH⟩
theorem PanM.keepX {st : St} {b : Nat} {r : D} (h : KeepX ks xs1 L1) (hb : ∀ i ∈ ks, i < b) (hH : ∀ p ∈ L1, st.H (sg ks b p.1) = some (p.2.map (renC (sg ks b)))) : PanM ks (.d r) (.d r) L1 st :=
 ⟨rx ks xs1 b, rfl, rx_names h hH, rx_inj h hb, stabL_of (rx_stab h hH)⟩
theorem PRangeF.panX {fo : Operand} {ps : List Nat} {pa pb : PC} {Q : AExit -> St -> Prop} {f : Nat -> V} {H : Hp} {n : Nat} {g : FuncId} {caps : List V} (L L1 : List (Nat × List V)) (ks xs xs1 : List Nat) (r : D) (jmp : LSt) (h0 : E.rq /\ (E.nt = panN -> f0 = panF)) (hg : calleeOf (evF f fo) = some (g, caps))
   (hf : Cm P g (.yl n :: caps) (Go.Psl.lk ((n, [.lr f E.nt ps pa pb .ready]) :: L)) (n :: ks) (.pan (.d r)) (Go.Psl.lk ((n, [.lr f E.nt ps pa pb jmp]) :: L1)))
   (hL : KeepX (n :: ks) xs ((n, [.lr f E.nt ps pa pb .ready]) :: L)) (hL1 : KeepX (n :: ks) xs1 ((n, [.lr f E.nt ps pa pb jmp]) :: L1)) (hx : ∀ i ∈ xs1, i < 1048576) (hlt : ∀ i ∈ ks ++ xs, i < n) (hH : ∀ i ∈ ks ++ xs, H i = Go.Psl.lk L i) (hb : All2 (Bor noH) caps caps)
   (hq : ∀ F : Hp, (∀ p ∈ L1, F (sg (n :: ks) (n + 1048576) p.1) = some (p.2.map (renC (sg (n :: ks) (n + 1048576))))) -> (∀ i, i ∉ ks ++ xs -> i < n -> F i = H i) -> Q (.pan (.d r)) ⟨f, F, n + 2097152⟩) : PWf P E f0 (.rangeF fo ps pa pb) Q ⟨f, H, n⟩ := by
 have hH' : ∀ i ∈ n :: ks ++ xs, upd H n (some [.lr f E.nt ps pa pb .ready]) i = Go.Psl.lk ((n, [.lr f E.nt ps pa pb .ready]) :: L) i := fun i hi => by
   simp only [upd_at, Go.Psl.lk]
   by_cases e : i = n
   . simp [e]
   . simp only [e, if_false]
     rw [List.cons_append] at hi
     rcases List.mem_cons.1 hi with h | h
     . exact absurd h e
     . exact hH i h
 have hbk : ∀ i ∈ n :: ks ++ xs, i < n + 1048576 := fun i hi => by
   rw [List.cons_append] at hi
   rcases List.mem_cons.1 hi with h | h
   . omega
   . have := hlt i h; omega
 refine PWf.range ⟨h0, g, caps, .yl n :: caps, _, n :: ks, .pan (.d r), _, hg, ⟨hf, callB_keepX hL hL1 hx hH' ⟨rfl, hb⟩⟩, by simp, ?_⟩
 refine hq _ (fun p hp => ?_) fun i hi hin => ?_
 . have hm : p.1 ∈ ks ++ xs1 := by
     have := hL1.names
     simp only [List.map_cons, List.cons_append, List.cons.injEq, true_and] at this
     rw [<- this]; exact List.mem_map.2 ⟨p, hp, rfl⟩
   have hne : sg (n :: ks) (n + 1048576) p.1 ≠ n := fun e => by
     have hnd := hL1.nd
     rw [List.cons_append] at hnd
     have hnm := (List.nodup_cons.1 hnd).1
     unfold sg at e
     split at e
     . rw [e] at hm; exact hnm hm
     . omega
   simp only [upd_at, hne, if_false]
   exact heapX_at hL hL1 hbk (List.mem_cons_of_mem _ hp)
 . have hne : i ≠ n := by omega
   simp only [upd_at, hne, if_false]
   rw [heapX_out hL hL1 (by rw [List.cons_append]; intro h; rcases List.mem_cons.1 h with h | h; exact hne h; exact hi h) (by omega)]
   simp [upd_at, hne]
theorem PRangeF.keepX {fo : Operand} {ps : List Nat} {pa pb : PC} {Q : AExit -> St -> Prop} {f : Nat -> V} {H : Hp} {n : Nat} {g : FuncId} {caps : List V} (L L1 : List (Nat × List V)) (ks xs xs1 : List Nat) (r : V) (jmp : LSt) (h0 : E.rq /\ (E.nt = panN -> f0 = panF)) (hg : calleeOf (evF f fo) = some (g, caps))
   (hf : Cm P g (.yl n :: caps) (Go.Psl.lk ((n, [.lr f E.nt ps pa pb .ready]) :: L)) (n :: ks) (.ret r) (Go.Psl.lk ((n, [.lr f E.nt ps pa pb jmp]) :: L1)))
   (hL : KeepX (n :: ks) xs ((n, [.lr f E.nt ps pa pb .ready]) :: L)) (hL1 : KeepX (n :: ks) xs1 ((n, [.lr f E.nt ps pa pb jmp]) :: L1)) (hx : ∀ i ∈ xs1, i < 1048576) (hlt : ∀ i ∈ ks ++ xs, i < n) (hH : ∀ i ∈ ks ++ xs, H i = Go.Psl.lk L i) (hb : All2 (Bor noH) caps caps)
   (hq : ∀ F : Hp, (∀ p ∈ L1, F (sg (n :: ks) (n + 1048576) p.1) = some (p.2.map (renC (sg (n :: ks) (n + 1048576))))) -> (∀ i, i ∉ ks ++ xs -> i < n -> F i = H i) -> jumpQ Q ⟨f, F, n + 2097152⟩ jmp) : PWf P E f0 (.rangeF fo ps pa pb) Q ⟨f, H, n⟩ := by
 have hH' : ∀ i ∈ n :: ks ++ xs, upd H n (some [.lr f E.nt ps pa pb .ready]) i = Go.Psl.lk ((n, [.lr f E.nt ps pa pb .ready]) :: L) i := fun i hi => by
   simp only [upd_at, Go.Psl.lk]
   by_cases e : i = n
   . simp [e]
   . simp only [e, if_false]
     rw [List.cons_append] at hi
     rcases List.mem_cons.1 hi with h | h
     . exact absurd h e
     . exact hH i h
 have hbk : ∀ i ∈ n :: ks ++ xs, i < n + 1048576 := fun i hi => by
   rw [List.cons_append] at hi
   rcases List.mem_cons.1 hi with h | h
   . omega
   . have := hlt i h; omega
 refine PWf.range ⟨h0, g, caps, .yl n :: caps, _, n :: ks, .ret r, _, hg, ⟨hf, callB_keepX hL hL1 hx hH' ⟨rfl, hb⟩⟩, by simp, jmp, by simp [Go.Psl.lk], ?_⟩
 refine hq _ (fun p hp => ?_) fun i hi hin => ?_
 . have hm : p.1 ∈ ks ++ xs1 := by
     have := hL1.names
     simp only [List.map_cons, List.cons_append, List.cons.injEq, true_and] at this
     rw [<- this]; exact List.mem_map.2 ⟨p, hp, rfl⟩
   have hne : sg (n :: ks) (n + 1048576) p.1 ≠ n := fun e => by
     have hnd := hL1.nd
     rw [List.cons_append] at hnd
     have hnm := (List.nodup_cons.1 hnd).1
     unfold sg at e
     split at e
     . rw [e] at hm; exact hnm hm
     . omega
   simp only [upd_at, hne, if_false]
   exact heapX_at hL hL1 hbk (List.mem_cons_of_mem _ hp)
 . have hne : i ≠ n := by omega
   simp only [upd_at, hne, if_false]
   rw [heapX_out hL hL1 (by rw [List.cons_append]; intro h; rcases List.mem_cons.1 h with h | h; exact hne h; exact hi h) (by omega)]
   simp [upd_at, hne]
end keep
end Go.Psl
namespace Go.Psl
noncomputable def bodyR : Option Code -> Code | some (.seq _ r) => r | _ => .skip
noncomputable def bodyI : Option Code -> Nat | some (.seq (.region i _ _) _) => i | _ => 0
noncomputable def bodyO (k : Nat) : Option Code -> Oper | some (.seq (.region _ o _) _) => (o[k]?).getD ⟨none, .move (.tmp 0), 0, "", #[], none⟩ | _ => ⟨none, .move (.tmp 0), 0, "", #[], none⟩
theorem dd_assert {P : Program} {Γ : Tys} {eqs : Eqs} {ws : List (Nat × Nat)} {cl : List Nat} {n0 k b : Nat} {Z : V -> Prop} {K : (Nat -> V) -> Hp -> Nat -> Prop} {r : List PO} {f : Nat -> V} {H : Hp} {dst : Option Nat} {s t : TypeId} {x : Operand} : dd P Γ eqs ws cl n0 Z K k b (⟨dst, .typeAssert x s t false, none⟩ :: r) f H = goD ws k dst b (dd P Γ eqs ws cl n0 Z K (k + 1) (b + 1048576) r) f H (assF Γ t (evF f x)) := dd_op rfl
variable {P : Program} {Γ : Tys} {E : Ent} {fn : Func} {r : V} {H1 : List (Nat × List V)} {pb : PC} {st : St}
theorem retD_normal {g : FuncId} {ids : List (Nat × Nat)} : retD P Γ fn r H1 g ids .normal st = DCall P g ids none (RetM Γ fn [] r H1) st := nrfl rfl
theorem retD_ret {g : FuncId} {ids : List (Nat × Nat)} : retD P Γ fn r H1 g ids .ret st = DCall P g ids none (RetM Γ fn [] r H1) st := nrfl rfl
theorem retD_pan {g : FuncId} {ids : List (Nat × Nat)} {D : D} : retD P Γ fn r H1 g ids (.pan (.d D)) st = DCall P g ids (some (.d D)) (RetM Γ fn [] r H1) st := nrfl (by simp [retD])
theorem DCall.mk {H : Hp} {b : Nat} {f : Nat -> V} {g : FuncId} {ids : List (Nat × Nat)} {m : Option V} {K : St -> Prop} (L : List (Nat × List V)) (ks : List Nat) (L1 : List (Nat × List V)) (hf : CmD P g (ids.map fun p => .lp p.1 p.2) (lk L) ks m (lk L1)) (hlive : ∀ p ∈ ids, (H p.1).isSome = true) (hin : HinOk H L) (hi : ∀ p ∈ L1, p.1 ∈ ks \/ p.1 < 1048576) (hks : ksOk b L L1 ks) (hL : ∀ p ∈ L, p.1 < b)
   (hk : K ⟨f, addM (delL H L) ks b L1, b⟩) : DCall P g ids m K ⟨f, H, b⟩ := by
 have hL' : ∀ i, InH (lk L) i -> i < b := fun i h => by
   obtain ⟨x, hx⟩ := Option.isSome_iff_exists.1 h
   exact hL _ (lk_mem' hx)
 refine ⟨hlive, _, lk L, ks, lk L1, hf, ⟨hin.at, fun i h hn => hiOk_at hi h hn, fun i h => (hks.at i h).2.2, .inl ?_⟩, ?_⟩
 . exact All2.of_get rfl fun i x y hx hy => by
     rw [hx] at hy; cases hy
     rw [List.getElem?_map] at hx
     obtain ⟨p, _, rfl⟩ := Option.map_eq_some_iff.1 hx
     exact ⟨rfl, rfl⟩
 . show K ⟨f, heapM H b (lk L) ks (lk L1), b⟩
   rw [heapM_list H ks b L L1 hks hL']
   exact hk
end Go.Psl
namespace Go.Proofs.Tryz
open Go.Psl
open Go.Log
abbrev rdW (r : Lg × Int × Int) : V := .tup [logV r.1, vi r.2.1, vi r.2.2]
theorem rd_fz {f : FuncId} {args : List V} {r : Lg × Int × Int} (h : Ct prog f args (rdV r) (bkX r.1.es)) : Ct prog f args (rdW r) [] := by
 obtain ⟨⟨s, es⟩, k, e⟩ := r
 refine Cm.freeze h ?_
 show Fz (lk (bkX es)) (.tup [.agg [vS s, hdX es], vi k, vi e]) (.tup [.agg [vS s, .d (entsD es)], vi k, vi e])
 unfold hdX bkX
 by_cases he : es = []
 . subst he
   exact ⟨⟨⟨_, rfl, .inl rfl⟩, ⟨_, rfl, .inr ⟨rfl, _, rfl⟩⟩, trivial⟩, .inl rfl, .inl rfl, trivial⟩
 . rw [if_neg he, if_neg he]
   exact ⟨⟨⟨_, rfl, .inl rfl⟩, ⟨_, rfl, bor_fcel (f := entL) hfe (l := es) (by simp)⟩, trivial⟩, .inl rfl, .inl rfl, trivial⟩
theorem splS_eq (s : By) : splS s = splP s := by
 unfold splS
 rw [Go.Lib.splitB_data]
 exact split_eq s
theorem entR_eq (s : By) : entR s = entP s := by
 unfold entR entP
 rw [splS_eq]
 rfl
theorem split_fz (s : By) (hs : s.length <= 1000000000) : Ct prog 42 [vS s, vS [32]] (.d (strsD (splP s))) [] := by
 have := split_at s hs
 rw [splS_eq] at this
 exact Cm.freeze this (bor_fcel (f := strL) hfs (l := splP s) (by simp))
noncomputable def o37a : Oper := (⟨_, by conv => lhs; reduce⟩ : Rd (bodyO 0 f37.body)).1
noncomputable def o37b : Oper := (⟨_, by conv => lhs; reduce⟩ : Rd (bodyO 1 f37.body)).1
noncomputable def p37r : PC := (⟨_, by conv => lhs; reduce⟩ : Rd (match comp f37.ntmps (bodyR f37.body) with | some p => p | none => .skip)).1
theorem b37 : f37.body = some (.seq (.region (bodyI f37.body) #[o37a, o37b] false) (bodyR f37.body)) := by kernel_rfl
theorem c37r : comp f37.ntmps (bodyR f37.body) = some p37r := by kernel_rfl
theorem o37x : ∀ ρ W, (execOp ρ o37a).run prog W = .ok .recover W := fun _ _ => by kernel_rfl
theorem o37y : ∀ ρ W, (execOp ρ o37b).run prog W = .ok (.value (ρ (.tmp 5))) W := fun _ _ => by kernel_rfl
theorem rec_none : CmD prog 37 [.lp 0 0, .lp 1048576 0, .lp 2097152 0] (lk []) [] none (lk []) := by
 refine CmD.by gok eok mixed 1000000000 func37 b37 rfl rfl rfl rfl rfl o37x o37y (by simp [ntmps37]) (by simp [ntmps37]) c37r (by simp [ntmps37]) (by simp) (by simp [recV]) (HpIds.at (by simp)) (by simp) (by simp [ResIds]) fun E hs => ?_
 simp [p37r, recV]
 apply RZ
 simp [results37]
theorem rec_some (v0 v1 : V) (_ : V.isCell v0 = true) (_ : V.isCell v1 = true) (q0 : AC (· < 1000000000) anyD v0) (q1 : AC (· < 1000000000) anyD v1) (ln e : Int) : CmD prog 37 [.lp 0 0, .lp 1048576 0, .lp 2097152 0] (lk [(0, [v0, v1]), (1048576, [vi 0]), (2097152, [vi 0])]) [0, 1048576, 2097152] (some (.d (wrgD ln e))) (lk [(0, [vS [], .d (.lit (.slice none 0 0))]), (1048576, [vi ln]), (2097152, [vi e])]) := by
 refine CmD.by gok eok mixed 1000000000 func37 b37 rfl rfl rfl rfl rfl o37x o37y (by simp [ntmps37]) (by simp [ntmps37]) c37r (by simp [ntmps37]) (by simp) (by simp [recV]) (HpIds.at (by simp [q0, q1])) (by simp) (by simp [ResIds]) fun E hs => ?_
 simp [p37r, splice, recV]
 refine pw_drawW [(5, 0), (6, 1048576)] (by kernel_rfl) ?_
 simp [splice, inC, Nat.testBit]
 refine RetOk.by (lk [(0, 0), (1048576, 1048576), (2097152, 2097152)]) ?_
 simp [results37]
theorem lines_stop (s : By) (hl : s.length <= 1000000) (j : Nat) (lj : By) (hj : (linesOf s)[j]? = some lj) (rv : D) (Lp : List (Nat × List V)) (xsp : List Nat) (KS : List Nat) (hLp : KeepX KS xsp Lp) (hxp : ∀ x ∈ xsp, x < 1048576) (XS : Nat -> List Nat) (k a : Nat) (L : Nat -> By -> List (Nat × List V)) (hk : k ∈ KS) (ha : a ∈ KS) (hN : ∀ i ∈ KS, i < 1000000000) (hX : ∀ i, ∀ x ∈ XS i, x < 1048576) (hL : ∀ i r, KeepX KS (XS i) (L i r))
   (hrec : ∀ i r, ∃ fr nt ps pa pb jmp, lk (L i r) k = some [.lr fr nt ps pa pb jmp] /\ ps.length = 2) (hbox : ∀ i r, lk (L i r) a = some [vS r]) (hset : ∀ (i : Nat) (r r' : By), ∀ p ∈ L i r', (p.1 = a /\ p.2 = [vS r']) \/ (p.1 ≠ a /\ p ∈ L i r))
   (hP : Ym prog k [vi j, vS lj] (lk (L j (restL j s))) KS (.pan (.d rv)) (lk Lp))
   (hY : ∀ (i : Nat) (l : By), i < j -> (linesOf s)[i]? = some l -> Ym prog k [vi i, vS l] (lk (L i (restL i s))) KS (.ret (vb true)) (lk (L (i + 1) (restL i s)))) :
   Cm prog 84 [.yl k, .lp a 0] (lk (L 0 s)) KS (.pan (.d rv)) (lk Lp) := by
 have hNX : ∀ i, ∀ x ∈ KS ++ XS i, x < 1000000000 := fun i x hx => by
   rcases List.mem_append.1 hx with h | h
   . exact hN x h
   . have := hX i x h; omega
 refine Cm.by gok eok mixed 1000000000 func84 c84 rfl (by simp [ntmps84]) (by simp; exact ⟨hN k hk, hN a ha⟩) (HpIds.at ((hL 0 s).ids (hNX 0))) hN ⟨trivial, hLp.res⟩ fun E hs hE => ?_
 have haN := hN a ha
 have na : ∀ x, 1000000000 <= x -> ¬ a = x := fun x _ => by omega
 have la : ∀ x, 1000000000 <= x -> a < x := fun x _ => by omega
 have rk : ∀ i b, rx KS (XS i) b k = some k := fun i b => by simp [rx, hk]
 have ra : ∀ i b, rx KS (XS i) b a = some a := fun i b => by simp [rx, ha]
 have hll := lines_le s
 simp [p84]
 refine pw_loop (α := Nat) (fun i => ⟨slots [(0, .yl k), (1, .lp a 0), (3, vi i)], lk (L i (restL i s)), 1000000000⟩) (fun i => i <= j) (fun i => j - i) 0 ?_ ?_ ?_
 . omega
 . refine Weak.sameX hs (hL 0 s) rfl (hNX 0) _ ?_ ?_
   . simp [rid, hk, ha]
   . simp [hN k hk, hN a ha]
 . intro i hi
   have hb := hbox i (restL i s)
   have hjl := (List.getElem?_eq_some_iff.1 hj).1
   by_cases h0 : restL i s = []
   . have := lines_end.1 h0
     omega
   . have hil : i < (linesOf s).length := by
       rcases Nat.lt_or_ge i (linesOf s).length with h | h
       . exact h
       . exact absurd (lines_end.2 h) h0
     have hat := lines_at h0
     have hrs := restL_succ i s
     have hrl := restL_len i s
     have hYP : (i < j /\ Ym prog k [vi i, vS (firL (restL i s)).1] (lk (L i (restL i s))) KS (.ret (vb true)) (lk (L (i + 1) (restL i s)))) \/ (i = j /\ Ym prog k [vi i, vS (firL (restL i s)).1] (lk (L i (restL i s))) KS (.pan (.d rv)) (lk Lp)) := by
       by_cases hij : i = j
       . subst hij
         rw [hat] at hj; cases hj
         exact .inr ⟨rfl, hP⟩
       . exact .inl ⟨by omega, hY i _ (by omega) hat⟩
     clear hP hY
     generalize hr : restL i s = r at *
     have hz := @wz i (by omega)
     have c1 := fn85 r 10
     have hfl := firL_len r
     have hfp := firL_pos h0
     have htk := firL_take r
     have hdr := firL_drop r
     obtain ⟨fr, nt, ps, pa, pb, jmp, hr1, hr2⟩ := hrec i r
     have i1 : ((firL r).1.length : Int) <= r.length := by omega
     have i2 : (firL r).1.length <= r.length := by omega
     by_cases hx : Go.Lib.indexByte r 10 = -1
     . have e := idx_none hx
       rw [hx] at c1
       have w0 : IntKind.wrap .i64 (-1 + 1) = 0 := by decide
       rw [e] at hYP
       have e2 : (firL r).2 = [] := List.length_eq_zero_iff.1 (by have := congrArg List.length e; omega)
       simp [p84l0, hb, h0]
       refine CLa c1 ?_
       have w00 : IntKind.wrap .i64 0 = 0 := by decide
       simp [w00, hb]
       rcases hYP with ⟨hij, hY'⟩ | ⟨hij, hY'⟩
       . refine AYield.keepX [vi i, vS r] (L i r) (L (i + 1) r) KS (XS i) (XS (i + 1)) _ hY' (hL i r) (hL (i + 1) r) (hX _) ⟨fr, nt, ps, pa, pb, jmp, hr1, hr2⟩ (fun q hq => rfl) (by simp) ?_
         have hbb : ∀ q ∈ KS ++ XS i, q < 1016777216 := fun q hq => by have := hNX i q hq; omega
         have hbk : ∀ q ∈ KS, q < 1016777216 := fun q hq => by have := hN q hq; omega
         obtain ⟨F, hF⟩ : ∃ F, F = heapM (lk (L i r)) 1016777216 (lk (L i r)) KS (lk (L (i + 1) r)) := ⟨_, rfl⟩
         have hFp : ∀ p ∈ L (i + 1) r, F (sg KS 1016777216 p.1) = some (p.2.map (renC (sg KS 1016777216))) := fun p hp => by rw [hF]; exact heapX_at (hL i r) (hL (i + 1) r) hbb hp
         rw [<- hF]
         have hFa : F a = some [vS r] := by
           have h1 : (a, [vS r]) ∈ L (i + 1) r := lk_mem' (hbox (i + 1) r)
           have := hFp _ h1
           simpa [ha, renC, ren1, ren0] using this
         simp [hFa, hz, splice]
         refine ⟨i + 1, by omega, by omega, ?_⟩
         rw [hrs]
         refine Weak.keepX (b := 1016777216) hs (hL (i + 1) _) hbk (fun p hp => ?_) (hNX (i + 1)) _ ?_ ?_
         . rcases hset (i + 1) r (firL r).2 p hp with ⟨h1, h2⟩ | ⟨h1, h2⟩
           . rw [h1, h2, sg_in ha]
             simp [renC, ren1, ren0, e2]
           . have hne : ¬ sg KS 1016777216 p.1 = a := fun e => by
               unfold sg at e
               split at e
               . exact h1 e
               . omega
             have h3 := hFp p h2
             show upd F a (some [vS []]) (sg KS 1016777216 p.1) = _
             rw [upd_at, if_neg hne]
             exact h3
         . simp [rk, ra]
         . simp [hN k hk, hN a ha]
       . refine AYield.panX [vi i, vS r] (L i r) Lp KS (XS i) xsp _ hY' (hL i r) hLp hxp ⟨fr, nt, ps, pa, pb, jmp, hr1, hr2⟩ (fun q hq => rfl) (by simp) ?_
         have hbb : ∀ q ∈ KS ++ XS i, q < 1016777216 := fun q hq => by have := hNX i q hq; omega
         have hbk : ∀ q ∈ KS, q < 1016777216 := fun q hq => by have := hN q hq; omega
         exact PanM.keepX hLp hbk fun p hp => heapX_at (hL i r) hLp hbb hp
     . have e := idx_some hx
       have w0 : IntKind.wrap .i64 (Go.Lib.indexByte r 10 + 1) = ((firL r).1.length : Int) := by rw [wrap64 (by omega) (by omega)]; omega
       have n0 : ¬ (((firL r).1.length : Int) = 0) := by omega
       have n1 : ¬ ((firL r).1 = []) := fun e => by rw [e] at hfp; simp at hfp
       simp [p84l0, hb, h0]
       refine CLa c1 ?_
       simp [w0, n1, hb, i1, htk]
       rcases hYP with ⟨hij, hY'⟩ | ⟨hij, hY'⟩
       . refine AYield.keepX [vi i, vS (firL r).1] (L i r) (L (i + 1) r) KS (XS i) (XS (i + 1)) _ hY' (hL i r) (hL (i + 1) r) (hX _) ⟨fr, nt, ps, pa, pb, jmp, hr1, hr2⟩ (fun q hq => rfl) (by simp) ?_
         have hbb : ∀ q ∈ KS ++ XS i, q < 1013631488 := fun q hq => by have := hNX i q hq; omega
         have hbk : ∀ q ∈ KS, q < 1013631488 := fun q hq => by have := hN q hq; omega
         obtain ⟨F, hF⟩ : ∃ F, F = heapM (lk (L i r)) 1013631488 (lk (L i r)) KS (lk (L (i + 1) r)) := ⟨_, rfl⟩
         have hFp : ∀ p ∈ L (i + 1) r, F (sg KS 1013631488 p.1) = some (p.2.map (renC (sg KS 1013631488))) := fun p hp => by rw [hF]; exact heapX_at (hL i r) (hL (i + 1) r) hbb hp
         rw [<- hF]
         have hFa : F a = some [vS r] := by
           have h1 : (a, [vS r]) ∈ L (i + 1) r := lk_mem' (hbox (i + 1) r)
           have := hFp _ h1
           simpa [ha, renC, ren1, ren0] using this
         simp [hFa, hz, splice, hdr, i2]
         refine ⟨i + 1, by omega, by omega, ?_⟩
         rw [hrs]
         refine Weak.keepX (b := 1013631488) hs (hL (i + 1) _) hbk (fun p hp => ?_) (hNX (i + 1)) _ ?_ ?_
         . rcases hset (i + 1) r (firL r).2 p hp with ⟨h1, h2⟩ | ⟨h1, h2⟩
           . rw [h1, h2, sg_in ha]
             simp [renC, ren1, ren0]
           . have hne : ¬ sg KS 1013631488 p.1 = a := fun e => by
               unfold sg at e
               split at e
               . exact h1 e
               . omega
             have h3 := hFp p h2
             show upd F a (some [vS (firL r).2]) (sg KS 1013631488 p.1) = _
             rw [upd_at, if_neg hne]
             exact h3
         . simp [rk, ra]
         . simp [hN k hk, hN a ha]
       . refine AYield.panX [vi i, vS (firL r).1] (L i r) Lp KS (XS i) xsp _ hY' (hL i r) hLp hxp ⟨fr, nt, ps, pa, pb, jmp, hr1, hr2⟩ (fun q hq => rfl) (by simp) ?_
         have hbb : ∀ q ∈ KS ++ XS i, q < 1013631488 := fun q hq => by have := hNX i q hq; omega
         have hbk : ∀ q ∈ KS, q < 1013631488 := fun q hq => by have := hN q hq; omega
         exact PanM.keepX hLp hbk fun p hp => heapX_at (hL i r) hLp hbb hp
def rKS : List Nat := [18874368, 17825792, 0, 1048576, 2097152, 8388608, 9437184, 10485760, 11534336]
def rXS (es : List Etr) : List Nat := if es = [] then [] else [7]
def hdZ (es : List Etr) : V := if es = [] then .d (.lit (.slice none 0 0)) else .ls 7 0 es.length 4
def bkZ (es : List Etr) : List (Nat × List V) := if es = [] then [] else [(7, fcel entL es)]
def rL (f : Nat -> V) (z : LSt) (r s : By) (es : List Etr) (n c last m : Int) : List (Nat × List V) := (18874368, [.lr f 122 [23, 24] p11l0 p11l1 z]) :: (17825792, [vS r]) :: (0, [vS s, hdZ es]) :: (1048576, [vi 0]) :: (2097152, [vi 0]) :: (8388608, [vi n]) :: (9437184, [vi c]) :: (10485760, [vi last]) :: (11534336, [vi m]) :: bkZ es
theorem rKeep (f : Nat -> V) (z : LSt) (r s : By) (es : List Etr) (n c last m : Int) (hf : ∀ t, AV (· ∈ rKS) anyD (f t)) : KeepX rKS (rXS es) (rL f z r s es n c last m) := by
 by_cases h : es = []
 . refine ⟨by simp [rL, bkZ, rXS, rKS, h], by simp [rXS, rKS, h], ?_⟩
   intro q hq
   simp only [rL, bkZ, h, if_true, List.mem_cons, List.not_mem_nil, or_false] at hq
   rcases hq with rfl | rfl | rfl | rfl | rfl | rfl | rfl | rfl | rfl
   . exact ⟨by simp, Or.inr (.inl ⟨_, _, _, _, _, _, rfl⟩), fun c hc => by simp at hc; subst hc; exact hf⟩
   all_goals refine ⟨by simp, Or.inl rfl, fun c hc => ?_⟩
   all_goals simp only [List.mem_cons, List.not_mem_nil, or_false] at hc
   all_goals first | (rcases hc with rfl | rfl <;> first | exact rfl | (simp only [hdZ, if_true]; exact rfl)) | (subst hc; exact rfl)
 . refine ⟨by simp [rL, bkZ, rXS, rKS, h], by simp [rXS, rKS, h], ?_⟩
   intro q hq
   simp only [rL, bkZ, h, if_false, List.mem_cons, List.not_mem_nil, or_false] at hq
   rcases hq with rfl | rfl | rfl | rfl | rfl | rfl | rfl | rfl | rfl | rfl
   . exact ⟨by simp, Or.inr (.inl ⟨_, _, _, _, _, _, rfl⟩), fun c hc => by simp at hc; subst hc; exact hf⟩
   . exact ⟨by simp, Or.inl rfl, fun c hc => by simp at hc; subst hc; exact rfl⟩
   . refine ⟨by simp, Or.inl (by simp [hdZ, h]), fun c hc => ?_⟩
     simp only [List.mem_cons, List.not_mem_nil, or_false] at hc
     rcases hc with rfl | rfl
     . exact rfl
     . simp [CX, hdZ, h, W1, W0, rid, rXS, rKS]
   . exact ⟨by simp, Or.inl rfl, fun c hc => by simp at hc; subst hc; exact rfl⟩
   . exact ⟨by simp, Or.inl rfl, fun c hc => by simp at hc; subst hc; exact rfl⟩
   . exact ⟨by simp, Or.inl rfl, fun c hc => by simp at hc; subst hc; exact rfl⟩
   . exact ⟨by simp, Or.inl rfl, fun c hc => by simp at hc; subst hc; exact rfl⟩
   . exact ⟨by simp, Or.inl rfl, fun c hc => by simp at hc; subst hc; exact rfl⟩
   . exact ⟨by simp, Or.inl rfl, fun c hc => by simp at hc; subst hc; exact rfl⟩
   . obtain ⟨a, t, e⟩ := List.exists_cons_of_ne_nil h
     refine ⟨by rw [e, fcel_cons]; simp, Or.inl (List.all_eq_true.2 fun c hc => by obtain ⟨y, _, rfl⟩ := List.mem_map.1 (show c ∈ List.map V.d (List.map entL es).flatten from hc); rfl), fun c hc => ?_⟩
     obtain ⟨y, _, rfl⟩ := List.mem_map.1 (show c ∈ List.map V.d (List.map entL es).flatten from hc)
     exact rfl
structure RdF (f : Nat -> V) : Prop where
 av : ∀ t, AV (· ∈ rKS) anyD (f t)
 f2 : f 2 = .lp 0 0
 f5 : f 5 = .lp 8388608 0
 f6 : f 6 = .lp 9437184 0
 f7 : f 7 = .lp 10485760 0
 f8 : f 8 = .lp 11534336 0
def panY (f : Nat -> V) (l r : By) (i : Nat) (L0 : List (Nat × List V)) (e : Int) : Prop := ∃ s es n c last, Ym prog 18874368 [vi i, vS l] (lk L0) rKS (.pan (.d (wrgD i e))) (lk (rL f .busy r s es n c last i))
theorem rd_93 (f : Nat -> V) (hF : RdF f) (i : Nat) (l r : By) (st : Rst) (hl : l.length <= 1000000) (_ : i <= 1000000) (h : st.n < i) : panY f l r i (rL f .ready r st.s st.es st.n st.c (lastE st.es) i) 93 := by
 obtain ⟨hf, f2, f5, f6, f7, f8⟩ := hF
 have hlt : ∀ es, ∀ j ∈ rKS ++ rXS es, j < 19922944 := by
   intro es j hj
   simp only [rKS, rXS, List.mem_append, List.mem_cons, List.not_mem_nil, or_false] at hj
   split at hj <;> simp at hj <;> omega
 have hW : ∀ z (ρ : Nat -> Option Nat), (∀ j ∈ rKS, ρ j = some j) -> WC ρ (.lr f 122 [23, 24] p11l0 p11l1 z) (.lr f 122 [23, 24] p11l0 p11l1 z) := fun z ρ hρ => ⟨rfl, fun t => AV.mono (fun j hj => hρ j hj) (fun _ h => h) (hf t)⟩
 have hC : ∀ z, cellsOk [.lr f 122 [23, 24] p11l0 p11l1 z] := fun z => Or.inr (.inl ⟨_, _, _, _, _, _, rfl⟩)
 have co := fn40 l (by omega)
 have ch := fn41 l 10 (by omega)
 change Ct prog _ _ (vb (fedS l)) _ at ch
 have hn : ¬ ((i : Int) <= st.n) := by omega
 have cn := need_no i 93
 refine ⟨st.s, st.es, st.n, st.c, lastE st.es, Ym.ofPX (k := 18874368) (fr := f) (nt := 122) (ps := [23, 24]) (pa := p11l0) (pb := p11l1) (args := [vi i, vS l]) gok eok mixed (fn := f11) func11 rfl 19922944 (rKeep f .ready r _ _ _ _ _ _ hf) (rKeep f .busy r _ _ _ _ _ _ hf) (hlt _) (by simp [rKS]) (by simp [rL]) (by simp) (by simp) (by simp) ⟨fun E hE hs => ?_⟩⟩
 by_cases he : st.es = []
 . simp only [hdZ, bkZ, he, if_true, rL]
   generalize V.lr f 122 [23, 24] p11l0 p11l1 = rc at hW hC ⊢
   simp [p11l0, frPuts]
   simp [p11l1, f5, hn]
   refine CRs cn (by simp) ?_
   simp [panQ_pan]
   have hW2 := hW .busy (lk [(18874368, 18874368), (17825792, 17825792), (0, 0), (1048576, 1048576), (2097152, 2097152), (8388608, 8388608), (9437184, 9437184), (10485760, 10485760), (11534336, 11534336), (7, 7)]) (by intro j hj; simp only [rKS, List.mem_cons, List.not_mem_nil, or_false] at hj; rcases hj with rfl | rfl | rfl | rfl | rfl | rfl | rfl | rfl | rfl <;> rfl)
   refine ⟨lk [(18874368, 18874368), (17825792, 17825792), (0, 0), (1048576, 1048576), (2097152, 2097152), (8388608, 8388608), (9437184, 9437184), (10485760, 10485760), (11534336, 11534336), (7, 7)], ?_⟩
   simp [hW2, hC, rKS]
 . simp only [hdZ, bkZ, he, if_false, rL]
   generalize V.lr f 122 [23, 24] p11l0 p11l1 = rc at hW hC ⊢
   simp [p11l0, frPuts]
   simp [p11l1, f5, hn]
   refine CRs cn (by simp) ?_
   simp [panQ_pan]
   have hW2 := hW .busy (lk [(18874368, 18874368), (17825792, 17825792), (0, 0), (1048576, 1048576), (2097152, 2097152), (8388608, 8388608), (9437184, 9437184), (10485760, 10485760), (11534336, 11534336), (7, 7)]) (by intro j hj; simp only [rKS, List.mem_cons, List.not_mem_nil, or_false] at hj; rcases hj with rfl | rfl | rfl | rfl | rfl | rfl | rfl | rfl | rfl <;> rfl)
   refine ⟨lk [(18874368, 18874368), (17825792, 17825792), (0, 0), (1048576, 1048576), (2097152, 2097152), (8388608, 8388608), (9437184, 9437184), (10485760, 10485760), (11534336, 11534336), (7, 7)], ?_⟩
   simp [hW2, hC, rKS]
theorem rd_91 (f : Nat -> V) (hF : RdF f) (i : Nat) (l r : By) (st : Rst) (hl : l.length <= 1000000) (_ : i <= 1000000) (h : ¬ st.n < i) (ho : openS (chopS l) = none) : panY f l r i (rL f .ready r st.s st.es st.n st.c (lastE st.es) i) 91 := by
 obtain ⟨hf, f2, f5, f6, f7, f8⟩ := hF
 have hlt : ∀ es, ∀ j ∈ rKS ++ rXS es, j < 19922944 := by
   intro es j hj
   simp only [rKS, rXS, List.mem_append, List.mem_cons, List.not_mem_nil, or_false] at hj
   split at hj <;> simp at hj <;> omega
 have hW : ∀ z (ρ : Nat -> Option Nat), (∀ j ∈ rKS, ρ j = some j) -> WC ρ (.lr f 122 [23, 24] p11l0 p11l1 z) (.lr f 122 [23, 24] p11l0 p11l1 z) := fun z ρ hρ => ⟨rfl, fun t => AV.mono (fun j hj => hρ j hj) (fun _ h => h) (hf t)⟩
 have hC : ∀ z, cellsOk [.lr f 122 [23, 24] p11l0 p11l1 z] := fun z => Or.inr (.inl ⟨_, _, _, _, _, _, rfl⟩)
 have co := fn40 l (by omega)
 have ch := fn41 l 10 (by omega)
 change Ct prog _ _ (vb (fedS l)) _ at ch
 have hn : (i : Int) <= st.n := by omega
 have c0 := need_ok i 93
 have cn := need_no i 91
 rw [ho] at co
 refine ⟨st.s, st.es, st.n, st.c, lastE st.es, Ym.ofPX (k := 18874368) (fr := f) (nt := 122) (ps := [23, 24]) (pa := p11l0) (pb := p11l1) (args := [vi i, vS l]) gok eok mixed (fn := f11) func11 rfl 19922944 (rKeep f .ready r _ _ _ _ _ _ hf) (rKeep f .busy r _ _ _ _ _ _ hf) (hlt _) (by simp [rKS]) (by simp [rL]) (by simp) (by simp) (by simp) ⟨fun E hE hs => ?_⟩⟩
 by_cases he : st.es = []
 . simp only [hdZ, bkZ, he, if_true, rL]
   generalize V.lr f 122 [23, 24] p11l0 p11l1 = rc at hW hC ⊢
   simp [p11l0, frPuts]
   simp [p11l1, f5, hn]
   refine CLa c0 ?_
   simp
   refine CLa co ?_
   simp
   refine CRs cn (by simp) ?_
   simp [panQ_pan]
   have hW2 := hW .busy (lk [(18874368, 18874368), (17825792, 17825792), (0, 0), (1048576, 1048576), (2097152, 2097152), (8388608, 8388608), (9437184, 9437184), (10485760, 10485760), (11534336, 11534336), (7, 7)]) (by intro j hj; simp only [rKS, List.mem_cons, List.not_mem_nil, or_false] at hj; rcases hj with rfl | rfl | rfl | rfl | rfl | rfl | rfl | rfl | rfl <;> rfl)
   refine ⟨lk [(18874368, 18874368), (17825792, 17825792), (0, 0), (1048576, 1048576), (2097152, 2097152), (8388608, 8388608), (9437184, 9437184), (10485760, 10485760), (11534336, 11534336), (7, 7)], ?_⟩
   simp [hW2, hC, rKS]
 . simp only [hdZ, bkZ, he, if_false, rL]
   generalize V.lr f 122 [23, 24] p11l0 p11l1 = rc at hW hC ⊢
   simp [p11l0, frPuts]
   simp [p11l1, f5, hn]
   refine CLa c0 ?_
   simp
   refine CLa co ?_
   simp
   refine CRs cn (by simp) ?_
   simp [panQ_pan]
   have hW2 := hW .busy (lk [(18874368, 18874368), (17825792, 17825792), (0, 0), (1048576, 1048576), (2097152, 2097152), (8388608, 8388608), (9437184, 9437184), (10485760, 10485760), (11534336, 11534336), (7, 7)]) (by intro j hj; simp only [rKS, List.mem_cons, List.not_mem_nil, or_false] at hj; rcases hj with rfl | rfl | rfl | rfl | rfl | rfl | rfl | rfl | rfl <;> rfl)
   refine ⟨lk [(18874368, 18874368), (17825792, 17825792), (0, 0), (1048576, 1048576), (2097152, 2097152), (8388608, 8388608), (9437184, 9437184), (10485760, 10485760), (11534336, 11534336), (7, 7)], ?_⟩
   simp [hW2, hC, rKS]
theorem rd_91b (f : Nat -> V) (hF : RdF f) (i : Nat) (l r : By) (st : Rst) (hl : l.length <= 1000000) (_ : i <= 1000000) (h : ¬ st.n < i) (q : By × Int) (ho : openS (chopS l) = some q) (hfd : fedS l = false) : panY f l r i (rL f .ready r st.s st.es st.n st.c (lastE st.es) i) 91 := by
 obtain ⟨hf, f2, f5, f6, f7, f8⟩ := hF
 have hlt : ∀ es, ∀ j ∈ rKS ++ rXS es, j < 19922944 := by
   intro es j hj
   simp only [rKS, rXS, List.mem_append, List.mem_cons, List.not_mem_nil, or_false] at hj
   split at hj <;> simp at hj <;> omega
 have hW : ∀ z (ρ : Nat -> Option Nat), (∀ j ∈ rKS, ρ j = some j) -> WC ρ (.lr f 122 [23, 24] p11l0 p11l1 z) (.lr f 122 [23, 24] p11l0 p11l1 z) := fun z ρ hρ => ⟨rfl, fun t => AV.mono (fun j hj => hρ j hj) (fun _ h => h) (hf t)⟩
 have hC : ∀ z, cellsOk [.lr f 122 [23, 24] p11l0 p11l1 z] := fun z => Or.inr (.inl ⟨_, _, _, _, _, _, rfl⟩)
 have co := fn40 l (by omega)
 have ch := fn41 l 10 (by omega)
 change Ct prog _ _ (vb (fedS l)) _ at ch
 have hn : (i : Int) <= st.n := by omega
 have c0 := need_ok i 93
 have cn := need_no i 91
 rw [ho] at co
 rw [hfd] at ch
 refine ⟨st.s, st.es, st.n, st.c, lastE st.es, Ym.ofPX (k := 18874368) (fr := f) (nt := 122) (ps := [23, 24]) (pa := p11l0) (pb := p11l1) (args := [vi i, vS l]) gok eok mixed (fn := f11) func11 rfl 19922944 (rKeep f .ready r _ _ _ _ _ _ hf) (rKeep f .busy r _ _ _ _ _ _ hf) (hlt _) (by simp [rKS]) (by simp [rL]) (by simp) (by simp) (by simp) ⟨fun E hE hs => ?_⟩⟩
 by_cases he : st.es = []
 . simp only [hdZ, bkZ, he, if_true, rL]
   generalize V.lr f 122 [23, 24] p11l0 p11l1 = rc at hW hC ⊢
   simp [p11l0, frPuts]
   simp [p11l1, f5, hn]
   refine CLa c0 ?_
   simp
   refine CLa co ?_
   simp
   refine CLa ch ?_
   simp
   refine CRs cn (by simp) ?_
   simp [panQ_pan]
   have hW2 := hW .busy (lk [(18874368, 18874368), (17825792, 17825792), (0, 0), (1048576, 1048576), (2097152, 2097152), (8388608, 8388608), (9437184, 9437184), (10485760, 10485760), (11534336, 11534336), (7, 7)]) (by intro j hj; simp only [rKS, List.mem_cons, List.not_mem_nil, or_false] at hj; rcases hj with rfl | rfl | rfl | rfl | rfl | rfl | rfl | rfl | rfl <;> rfl)
   refine ⟨lk [(18874368, 18874368), (17825792, 17825792), (0, 0), (1048576, 1048576), (2097152, 2097152), (8388608, 8388608), (9437184, 9437184), (10485760, 10485760), (11534336, 11534336), (7, 7)], ?_⟩
   simp [hW2, hC, rKS]
 . simp only [hdZ, bkZ, he, if_false, rL]
   generalize V.lr f 122 [23, 24] p11l0 p11l1 = rc at hW hC ⊢
   simp [p11l0, frPuts]
   simp [p11l1, f5, hn]
   refine CLa c0 ?_
   simp
   refine CLa co ?_
   simp
   refine CLa ch ?_
   simp
   refine CRs cn (by simp) ?_
   simp [panQ_pan]
   have hW2 := hW .busy (lk [(18874368, 18874368), (17825792, 17825792), (0, 0), (1048576, 1048576), (2097152, 2097152), (8388608, 8388608), (9437184, 9437184), (10485760, 10485760), (11534336, 11534336), (7, 7)]) (by intro j hj; simp only [rKS, List.mem_cons, List.not_mem_nil, or_false] at hj; rcases hj with rfl | rfl | rfl | rfl | rfl | rfl | rfl | rfl | rfl <;> rfl)
   refine ⟨lk [(18874368, 18874368), (17825792, 17825792), (0, 0), (1048576, 1048576), (2097152, 2097152), (8388608, 8388608), (9437184, 9437184), (10485760, 10485760), (11534336, 11534336), (7, 7)], ?_⟩
   simp [hW2, hC, rKS]
end Go.Proofs.Tryz
