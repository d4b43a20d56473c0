/- Own lemmas, used by the last text. Conditions: those that each theorem states. -/
import Derived.Deep.Slices
import Derived.RecoverIn
import Derived.Test.YtcmmbjblncfhbaaGreatDoorOaaf
set_option maxRecDepth 200000
set_option maxHeartbeats 8000000
namespace Go.Psl
variable {P : Program} {Γ : Tys} {eqs : Eqs} {E : Ent}
def modeOf (G : Gh) (W : World) : Option V -> FrameMode -> Prop
 | none, u => u = .returning
 | some v, u => ∃ x, u = .panicking [{ v := x, recovered := false }] /\ RV G W v x
def CmD (P : Program) (f : FuncId) (args : List V) (Hin : Hp) (ks : List Nat) (m : Option V) (H1 : Hp) : Prop :=
 isFn P f /\ ∀ (G : Gh) (W : World) (xs : Array Value) (u : FrameMode), GW G.Im W -> All2 (R2 G W) args xs.toList -> PreH G W Hin ks -> modeOf G W m u ->
   CallsDIn Fence.wide 0 P f xs u W fun e u' W' => settle u' = .returning /\ (∃ v, e = .returned v) /\ ∃ G', Post G W Hin ks (.ret (.tup [])) H1 e W' G'
def recV : Option V -> V
 | none => .d (.lit .nilIface)
 | some v => v
theorem begin_rel {fn : Func} {args : List V} {N : Nat} {G : Gh} {W : World} {xs : Array Value} (hcl : ∀ v ∈ args, A2 (· < N) anyD v) (hargs : All2 (R2 G W) args xs.toList) :
   (∀ t, RV G W (argF 0 args t) ((xs ++ Array.replicate (fn.ntmps - xs.size) undef).getD t undef)) /\ ∀ t, AV (· < N) anyD (argF 0 args t) := by
 have hl : args.length = xs.size := by have := hargs.length; simpa using this
 refine ⟨fun t => ?_, fun t => ?_⟩
 . rw [argF_at, if_pos (Nat.zero_le t), Nat.sub_zero, Array.getD_eq_getD_getElem?]
   by_cases ht : t < xs.size
   . rw [Array.getElem?_append_left ht, Array.getElem?_eq_getElem ht]
     have h1 : args[t]? = some args[t] := List.getElem?_eq_getElem (by omega)
     obtain ⟨x, hx, hrx⟩ := hargs.get h1
     rw [h1]
     have : x = xs[t] := by
       rw [Array.getElem?_toList, Array.getElem?_eq_getElem ht] at hx; cases hx; rfl
     subst this
     exact hrx.rv
   . rw [List.getElem?_eq_none (by omega), Array.getElem?_append_right (by omega)]
     have : ((Array.replicate (fn.ntmps - xs.size) undef)[t - xs.size]?).getD undef = undef := by
       rw [Array.getElem?_replicate]; split <;> rfl
     rw [this]
     exact tup_nil
 . rw [argF_at, if_pos (Nat.zero_le t), Nat.sub_zero]
   cases h1 : args[t]? with
   | none => intro c hc; cases hc
   | some v =>
     obtain ⟨x, _, hx⟩ := hargs.get h1
     exact hx.av (hcl v (List.mem_of_getElem? h1))
theorem CmD.byA (hΓ : GOk P Γ) {f : FuncId} {fn : Func} {id : Nat} {o1 o2 : Oper} {rest : Code} {t3 t2 : Nat} {args : List V} {Hin : Hp} {ks : List Nat} {m : Option V} {H1 : List (Nat × List V)} (N : Nat)
   (hf : P.funcs[f]? = some fn) (hb : fn.body = some (.seq (.region id #[o1, o2] false) rest)) (hname : (fn.name == "runtime.NumGoroutine") = false)
   (g1 : o1.guard = none) (g2 : o2.guard = none) (d1 : o1.dst = some t3) (d2 : o2.dst = some t2) (r1 : ∀ ρ W, (execOp ρ o1).run P W = .ok .recover W) (r2 : ∀ ρ W, (execOp ρ o2).run P W = .ok (.value (ρ (.tmp t3))) W) (n3 : t3 < fn.ntmps) (n2 : t2 < fn.ntmps)
   (hn : args.length <= fn.ntmps) (hcl : ∀ v ∈ args, A2 (· < N) anyD v) (hrv : AV (· < N) anyD (recV m)) (hids : IdsFn N Hin) (hks : ∀ i ∈ ks, i < N) (hri : ResIds (.tup []) H1)
   (h : ∀ E : Ent, E.nt = fn.ntmps -> (∀ i, E.stab i ↔ i ∈ ks) -> AW P E rest (retM Γ fn ks (.ret (.tup [])) H1) ⟨frPut (frPut (argF 0 args) (some t3) (recV m)) (some t2) (recV m), Hin, N⟩) : CmD P f args Hin ks m (lk H1) := by
 refine ⟨⟨fn, hf, by rw [hb]; rfl, hname⟩, fun G W xs u hGW hargs hpre hu => ?_⟩
 obtain ⟨hfr, hwf⟩ := begin_rel (fn := fn) hcl hargs
 have hl : args.length = xs.size := by have := hargs.length; simpa using this
 have hsz : (xs ++ Array.replicate (fn.ntmps - xs.size) undef).size = fn.ntmps := by simp; omega
 have hI := Inv.startN (nt := fn.ntmps) (rd := none) (nm := true) hGW hpre hids hks (tmps := xs ++ Array.replicate (fn.ntmps - xs.size) undef) hfr hwf (by rw [hsz]; exact Nat.le_refl _)
 refine callsDIn_of_wpSIn hf hb trivial fun c₀ cs hc0 => ?_
 refine wpSIn_seq (wpSIn_region ?_)
 have tail : ∀ (x : Value) (c1 : Frame) (u' : FrameMode), RV G W (recV m) x -> c1 = { c₀ with mode := u' } -> settle u' = .returning ->
     Exit.thenS (rest.wpSIn Fence.wide 0 P (bodyPostS P fn c₀ cs fun e u' W' => settle u' = .returning /\ (∃ v, e = .returned v) /\ ∃ G', Post G W Hin ks (.ret (.tup [])) (lk H1) e W' G')) (bodyPostS P fn c₀ cs fun e u' W' => settle u' = .returning /\ (∃ v, e = .returned v) /\ ∃ G', Post G W Hin ks (.ret (.tup [])) (lk H1) e W' G') .normal
       ((({ tmps := xs ++ Array.replicate (fn.ntmps - xs.size) undef, defers := [] } : Act).put (some t3) x).put (some t2) x) (c1 :: cs) W := by
   intro x c1 u' hx hc1 hu'
   refine wpSIn_of_wpIn rfl ?_
   have hI1 := (hI.slot hx hrv (some t3) (fun d hd => by cases hd; exact n3)).slot (v := recV m) (x := x) hx hrv (some t2) (fun d hd => by cases hd; exact n2)
   refine wpIn_mono (h _ rfl (fun _ => Iff.rfl) G _ W hI1) fun e a' W' ⟨y, st', G', hI', hy, _, hq⟩ => ?_
   have hbase : W = W /\ G.Im = G.Im /\ (∀ b, lentB G Hin b ↔ lentB G Hin b) /\ ∀ i, i ∈ ks -> i ∈ ks /\ G.β i = G.β i /\ G.bs i = G.bs i /\ G.lo i = G.lo i := ⟨rfl, rfl, fun _ => Iff.rfl, fun _ h => ⟨h, rfl, rfl, rfl⟩⟩
   obtain ⟨ds, hd, hmk⟩ := hI'.df
   have hd0 : ds = [] := hmk.nm rfl
   subst hd0
   have fin : RetM Γ fn ks (.tup []) H1 st' -> bodyPostS P fn c₀ cs (fun e u' W' => settle u' = .returning /\ (∃ v, e = .returned v) /\ ∃ G', Post G W Hin ks (.ret (.tup [])) (lk H1) e W' G') .ret a' (c1 :: cs) W' := fun hq => by
     obtain ⟨ρ, v, hv, hr, h4, h5, h6⟩ := run_resM hΓ hI' hq
     exact ⟨hd, u', by rw [hc1], v, hv, hu', ⟨v, rfl⟩, _, post_of (res := .ret (.tup [])) hbase hri hI' h4 h5 h6 (e := .returned v) hr⟩
   cases e <;> cases y <;> first | exact fin hq | exact hq.elim | exact False.elim hy
 rw [show List.range (#[o1, o2] : Array Oper).size = [0, 1] from rfl]
 simp only [wpOpsSIn]
 have w1 : Region.wanted o1 (yielded #[o1, o2] (xs ++ Array.replicate (fn.ntmps - xs.size) undef)) = true := by simp [Region.wanted, g1]
 have w2 : ∀ T, Region.wanted o2 (yielded #[o1, o2] T) = true := fun T => by simp [Region.wanted, g2]
 have e1 : (#[o1, o2] : Array Oper)[0]? = some o1 := rfl
 have e2 : (#[o1, o2] : Array Oper)[1]? = some o2 := rfl
 have ev : ∀ x : Value, ((({ tmps := xs ++ Array.replicate (fn.ntmps - xs.size) undef, defers := [] } : Act).put (some t3) x).eval (.tmp t3)) = x := fun x => by
   simp [Act.put, Act.eval, Array.getD_eq_getD_getElem?, hsz, n3]
 rw [e1]
 refine ⟨fun _ _ => trivial, ?_⟩
 simp only [w1, if_true, r1]
 cases m with
 | none =>
   have hmode : c₀.mode = .returning := hc0.trans hu
   have hrec : recoverD (c₀ :: cs) = none := by simp [recoverD, hmode]
   simp only [hrec, e2]
   refine ⟨fun _ _ => trivial, ?_⟩
   simp only [w2, if_true, r2, d1, d2, ev]
   exact tail .nilIface c₀ .returning (.lit _ rfl) (by rw [<- hmode]) rfl
 | some v =>
   obtain ⟨x, hx, hrx⟩ := hu
   have hmode : c₀.mode = .panicking [{ v := x, recovered := false }] := hc0.trans hx
   have hrec : recoverD (c₀ :: cs) = some (x, { c₀ with mode := .panicking [{ v := x, recovered := true }] } :: cs) := by simp [recoverD, hmode]
   simp only [hrec, e2]
   refine ⟨fun _ _ => trivial, ?_⟩
   simp only [w2, if_true, r2, d1, d2, ev]
   exact tail x _ _ hrx rfl rfl
end Go.Psl
namespace Go.Psl
variable {P : Program} {Γ : Tys} {eqs : Eqs} {E : Ent}
theorem two_of {α : Type} {l : List α} (h : l.length = 2) : ∃ a b, l = [a, b] := by
 match l, h with
 | [a, b], _ => exact ⟨a, b, rfl⟩
structure BaseOk (E : Ent) (G0 : Gh) (W0 : World) : Prop where
 w : E.W0 = W0
 im : E.Im0 = G0.Im
 mu : ∀ b, E.mu b ↔ lentB G0 noH b
 rd : E.rd = none
 dx : E.dx = []
 nm : E.nm = true
abbrev EndR (G0 : Gh) (W0 : World) (r : V) (H1 : List (Nat × List V)) : Ending -> World -> Prop := fun e W' => ∃ G', Post G0 W0 noH [] (.ret r) (lk H1) e W' G'
def DW (P : Program) (E : Ent) (fn : Func) (r : V) (H1 : List (Nat × List V)) (p : PC) (st : St) : Prop :=
 ResIds r H1 -> ∀ (c : Code), comp E.nt c = some p -> ∀ (G0 : Gh) (W0 : World), BaseOk E G0 W0 -> ∀ G a W, Inv E (· < st.nx) G st a W ->
   c.wpIn Fence.wide 0 P (bodyPostM Fence.wide 0 P fn (EndR G0 W0 r H1)) a W
theorem comp_seq {nt : Nat} {c : Code} {pa pb : PC} (h : comp nt c = some (.seq pa pb)) : ∃ x y, c = .seq x y /\ comp nt x = some pa /\ comp nt y = some pb := by
 cases c with
 | seq x y =>
   simp only [comp, Option.bind_eq_some_iff, Option.map_eq_some_iff] at h
   obtain ⟨a, ha, b, hb, he⟩ := h
   cases he
   exact ⟨x, y, rfl, ha, hb⟩
 | region id ops draw =>
   simp only [comp, mkDraw] at h
   split at h
   . split at h
     . simp only [Option.some.injEq] at h
       split at h <;> cases h
     . cases h
   . split at h <;> cases h
 | cond c a b =>
   simp only [comp, Option.bind_eq_some_iff, Option.map_eq_some_iff] at h
   obtain ⟨a, ha, b, hb, he⟩ := h
   cases he
 | rangeFunc f ps a b =>
   simp only [comp, Option.bind_eq_some_iff, Option.map_eq_some_iff] at h
   obtain ⟨a, ha, b, hb, he⟩ := h
   cases he
 | block id a =>
   simp only [comp, Option.map_eq_some_iff] at h
   obtain ⟨a, ha, he⟩ := h
   cases he
 | loop a =>
   simp only [comp, Option.map_eq_some_iff] at h
   obtain ⟨a, ha, he⟩ := h
   cases he
 | _ => simp [comp] at h
theorem comp_reg {nt : Nat} {c : Code} {ops : List PO} (h : comp nt c = some (.reg ops)) : ∃ id all, c = .region id (List.toArray all) false /\ ops = all.map (poOf all) /\ dstsOk nt all = true := by
 cases c with
 | seq x y =>
   simp only [comp, Option.bind_eq_some_iff, Option.map_eq_some_iff] at h
   obtain ⟨a, ha, b, hb, he⟩ := h
   cases he
 | region id ops draw =>
   simp only [comp, mkDraw] at h
   split at h
   . split at h
     . simp only [Option.some.injEq] at h
       split at h <;> cases h
     . cases h
   . rename_i hd
     split at h
     . rename_i hds
       simp only [Option.some.injEq, PC.reg.injEq] at h
       refine ⟨id, ops.toList, ?_, h.symm, hds⟩
       cases draw
       . simp
       . exact absurd rfl hd
     . cases h
 | cond c a b =>
   simp only [comp, Option.bind_eq_some_iff, Option.map_eq_some_iff] at h
   obtain ⟨a, ha, b, hb, he⟩ := h
   cases he
 | rangeFunc f ps a b =>
   simp only [comp, Option.bind_eq_some_iff, Option.map_eq_some_iff] at h
   obtain ⟨a, ha, b, hb, he⟩ := h
   cases he
 | block id a =>
   simp only [comp, Option.map_eq_some_iff] at h
   obtain ⟨a, ha, he⟩ := h
   cases he
 | loop a =>
   simp only [comp, Option.map_eq_some_iff] at h
   obtain ⟨a, ha, he⟩ := h
   cases he
 | _ => simp [comp] at h
def dwQ (P : Program) (Γ : Tys) (E : Ent) (fn : Func) (r : V) (H1 : List (Nat × List V)) (pb : PC) : AExit -> St -> Prop
 | .normal, st => DW P E fn r H1 pb st
 | .ret, st => RetM Γ fn [] r H1 st
 | _, _ => False
theorem DW.seqA (hΓ : GOk P Γ) {fn : Func} {r : V} {H1 : List (Nat × List V)} {pa pb : PC} {st : St} (h : ∀ c, comp E.nt c = some pa -> AW P E c (dwQ P Γ E fn r H1 pb) st) : DW P E fn r H1 (.seq pa pb) st := by
 intro hri c hc G0 W0 hB G a W hI
 obtain ⟨x, y, rfl, hx, hy⟩ := comp_seq hc
 have hF : E.F = Fence.wide := by unfold Ent.F; rw [hB.rd]; rfl
 have h1 := h x hx G a W hI
 rw [hF] at h1
 refine wpIn_seq (wpIn_mono h1 fun e a' W' ⟨z, st', G', hI', hz, ho, hq⟩ => ?_)
 have hbase : E.W0 = W0 /\ E.Im0 = G0.Im /\ (∀ b, E.mu b ↔ lentB G0 noH b) /\ ∀ i, i ∈ ([] : List Nat) -> E.stab i /\ E.β0 i = G0.β i /\ E.bs0 i = G0.bs i /\ E.lo0 i = G0.lo i := ⟨hB.w, hB.im, hB.mu, fun _ h => by cases h⟩
 cases z with
 | normal =>
   cases e <;> first | exact hq hri y hy G0 W0 hB G' a' W' hI' | exact False.elim hz
 | ret =>
   cases e with
   | ret =>
     show LeavesInM Fence.wide 0 P fn a'.tmps (EndR G0 W0 r H1) a'.defers .returning W'
     obtain ⟨ds, hd, hmk⟩ := hI'.df
     rw [hmk.nm hB.nm, hB.dx] at hd
     rw [hd]
     obtain ⟨ρ, v, hv, hr, h4, h5, h6⟩ := run_resM hΓ hI' hq
     exact ⟨v, hv, _, post_of (res := .ret r) hbase hri hI' h4 h5 h6 (e := .returned v) hr⟩
   | _ => exact False.elim hz
 | _ => exact hq.elim
theorem DW.seq (hΓ : GOk P Γ) (hE : EqOk P eqs) (hm : P.follows .mixedOrders = true) {fn : Func} {r : V} {H1 : List (Nat × List V)} {pa pb : PC} {st : St} (h : PW P Γ eqs E pa (dwQ P Γ E fn r H1 pb) st) : DW P E fn r H1 (.seq pa pb) st := DW.seqA hΓ fun c hc => PW.sound hΓ hE hm c pa hc _ _ h
def DCall (P : Program) (g : FuncId) (ids : List (Nat × Nat)) (m : Option V) (K : St -> Prop) (st : St) : Prop :=
 (∀ p ∈ ids, (st.H p.1).isSome = true) /\ ∃ args Hin ks H1c, CmD P g args Hin ks m H1c /\ CallB st.H (ids.map fun p => .lp p.1 p.2) args Hin ks (.ret (.tup [])) H1c /\ K ⟨st.fr, heapM st.H st.nx Hin ks H1c, st.nx⟩
def retD (P : Program) (Γ : Tys) (fn : Func) (r : V) (H1 : List (Nat × List V)) (g : FuncId) (ids : List (Nat × Nat)) : AExit -> St -> Prop
 | .normal, st | .ret, st => DCall P g ids none (RetM Γ fn [] r H1) st
 | .pan v, st => ∃ D, v = .d D /\ DCall P g ids (some v) (RetM Γ fn [] r H1) st
 | _, _ => False
theorem leave_defer (hΓ : GOk P Γ) {fn : Func} {r : V} {H1 : List (Nat × List V)} {g : FuncId} {ids : List (Nat × Nat)} {cv : Array Value} (hri : ResIds r H1) {G0 : Gh} {W0 : World} {E : Ent} (hbase : E.W0 = W0 /\ E.Im0 = G0.Im /\ (∀ b, E.mu b ↔ lentB G0 noH b) /\ ∀ i, i ∈ ([] : List Nat) -> E.stab i /\ E.β0 i = G0.β i /\ E.bs0 i = G0.bs i /\ E.lo0 i = G0.lo i)
   (hcv : All2 (fun (p : Nat × Nat) x => E.stab p.1 /\ E.lo0 p.1 = false /\ x = .pointer (some ⟨E.β0 p.1, p.2, none⟩)) ids cv.toList) {st : St} {G : Gh} {a : Act} {W : World} (hI : Inv E (· < st.nx) G st a W) {m : Option V} (hm : ∀ v, m = some v -> ∃ D, v = .d D) {u : FrameMode} (hu0 : u ≠ .run) (hu : modeOf G W m u) (h : DCall P g ids m (RetM Γ fn [] r H1) st) :
   LeavesInM Fence.wide 0 P fn a.tmps (EndR G0 W0 r H1) [{ target := .fn (.func g) cv, args := #[] }] u W := by
 obtain ⟨hlive, args, Hin, ks, H1c, ⟨⟨f', hfn', hbody, hname⟩, hcm⟩, hcb, hK⟩ := h
 have h1 : f'.name ≠ "runtime.NumGoroutine" := by simpa using hname
 have h2 : f'.body.isNone = false := by cases h : f'.body <;> simp_all
 have hrel : All2 (RV G W) (ids.map fun p => V.lp p.1 p.2) cv.toList := All2.map_left.2 (All2.of_get hcv.length fun i p x hp hx => by
   obtain ⟨y, hy, q1, q2, q3⟩ := hcv.get hp
   rw [hx] at hy; cases hy
   have hs := hI.stab p.1 q1 (hlive p (List.mem_of_getElem? hp))
   refine ⟨⟨hs.2.2.1, hs.2.2.2.trans q2⟩, ?_⟩
   rw [q3, hs.1])
 obtain ⟨Im, hIm, hall, hpre, hph, hcs⟩ := callB_pre hI hrel hcb
 obtain ⟨hin, hlt, hkk, _⟩ := hcb
 have hle : ∀ b, G.Im b -> Im b := fun b hb => by
   rcases hcs with h | ⟨h, _⟩
   . exact (h b).2 hb
   . exact (h b).2 (.inl hb)
 have hmode : modeOf { G with Im := Im } W m u := by
   cases m with
   | none => exact hu
   | some v =>
     obtain ⟨x, hx, hr⟩ := hu
     obtain ⟨D, rfl⟩ := hm v rfl
     exact ⟨x, hx, RD.mono (show RD G.Im W D x from hr) fun b hb => ⟨hle b hb, rfl⟩⟩
 refine ⟨hu0, .inr ⟨by simp [Fence.wide], .func g, cv, g, cv, rfl, ?_, fun _ _ => trivial, ?_⟩⟩
 . simp only [invoke, callFunc, Sem.run_bind, run_program, Result.andThen_ok, hfn']
   simp [h1, h2]
 . refine (hcm { G with Im := Im } W cv u hIm hall hpre hmode).mono fun e u' W' ⟨hs, ⟨v, hv⟩, G', hpost⟩ => ?_
   subst hv
   show LeavesInM Fence.wide 0 P fn a.tmps (EndR G0 W0 r H1) [] (settle u') W'
   rw [hs]
   obtain ⟨G'', hI', hrv, hav, _⟩ := hI.call (base := st.nx) (U' := (· < st.nx + 1048576)) (fun j _ => by omega) (fun i hi => by omega) (fun j hj => by omega) hin hlt (fun i hi => (hpre.st i hi).1) hph hpost hcs
   obtain ⟨ρ, v', hv', hr, h4, h5, h6⟩ := run_resM hΓ hI' hK
   exact ⟨v', hv', _, post_of (res := .ret r) hbase hri hI' h4 h5 h6 (e := .returned v') hr⟩
theorem DW.deferA (hΓ : GOk P Γ) (hE : EqOk P eqs) {fn : Func} {r : V} {H1 : List (Nat × List V)} {pb : PC} {t : Nat} {g : FuncId} {caps : Array Operand} {cl : Call} {st : St} (ids : List (Nat × Nat)) (hcal : cl.callee = .value (.tmp t)) (hcl : cl.args = #[])
   (hcaps : capL st.fr caps.toList = ids.map fun p => .lp p.1 p.2) (_ : ∀ i, ¬ E.stab i)
   (h : ∀ E' : Ent, E'.nt = E.nt -> (∀ i, E'.stab i ↔ i ∈ ids.map Prod.fst) -> E'.rq -> ∀ c, comp E'.nt c = some pb -> AW P E' c (retD P Γ fn r H1 g ids) ⟨frPut st.fr (some t) (.cl g (ids.map fun p => .lp p.1 p.2)), st.H, st.nx + 2097152⟩) :
   DW P E fn r H1 (.seq (.reg [⟨some t, .makeFunc (.func g) #[] caps, none⟩, ⟨none, .defer cl, none⟩]) pb) st := by
 intro hri c hc G0 W0 hB G a W hI
 obtain ⟨x, y, rfl, hx, hy⟩ := comp_seq hc
 obtain ⟨id, all, rfl, hops, hds⟩ := comp_reg hx
 obtain ⟨o1, o2, rfl⟩ := two_of (l := all) (by have := congrArg List.length hops; simpa using this.symm)
 simp only [List.map_cons, List.map_nil, List.cons.injEq, poOf, PO.mk.injEq, and_true] at hops
 obtain ⟨⟨p1, p2, p3⟩, q1, q2, q3⟩ := hops
 have g1 : o1.guard = none := by cases h : o1.guard with | none => rfl | some z => rw [h] at p3; cases p3
 have g2 : o2.guard = none := by cases h : o2.guard with | none => rfl | some z => rw [h] at q3; cases q3
 have hF : E.F = Fence.wide := by unfold Ent.F; rw [hB.rd]; rfl
 refine wpIn_seq (wpIn_region_lit ?_)
 have w1 : Region.wanted o1 (yielded [o1, o2].toArray a.tmps) = true := by simp [Region.wanted, g1]
 have w2 : ∀ T, Region.wanted o2 (yielded [o1, o2].toArray T) = true := fun T => by simp [Region.wanted, g2]
 simp only [wpListIn, w1, if_true]
 have hlt : t < E.nt := by
   have := List.all_eq_true.1 hds o1 (by simp)
   rw [<- p1] at this
   simpa using this
 have hev : evalOp Γ eqs st.H st.nx st.fr o1.op = some (.cl g (ids.map fun p => .lp p.1 p.2), .none) := by
   rw [<- p2]
   simp only [evalOp, mkAny, hcaps, mkFuncF]
   simp [V.cap]
 have hs := step_sound (U' := (· < st.nx + 2097152)) hΓ hE hI (o := o1) (b := st.nx) (fun j _ => by omega) (fun i hi => by omega) (fun j hj => by omega) (fun d hd => by rw [<- p1] at hd; cases hd; exact hlt) (.plain _ _ hev)
   (K := fun a' W' => wpListIn Fence.wide 0 P [o1, o2].toArray (Exit.then (y.wpIn Fence.wide 0 P (bodyPostM Fence.wide 0 P fn (EndR G0 W0 r H1))) (bodyPostM Fence.wide 0 P fn (EndR G0 W0 r H1))) [o2] a' W')
   (Q := Exit.then (y.wpIn Fence.wide 0 P (bodyPostM Fence.wide 0 P fn (EndR G0 W0 r H1))) (bodyPostM Fence.wide 0 P fn (EndR G0 W0 r H1))) fun G' a' W' hI' => by
     simp only [wpListIn, w2, if_true]
     refine ⟨fun _ _ => trivial, ?_⟩
     have hfr := hI'.fr t
     have hwf := hI'.wf t
     have e0 : frPut st.fr o1.dst (.cl g (ids.map fun p => .lp p.1 p.2)) t = .cl g (ids.map fun p => .lp p.1 p.2) := by rw [<- p1]; simp [frPut, upd]
     simp only [e0] at hfr hwf
     obtain ⟨cv, hx, hcr⟩ := hfr
     have hwf' : ∀ c ∈ (ids.map fun p => V.lp p.1 p.2), A0 (· < st.nx + 2097152) anyD c := hwf
     have hev2 : a'.eval (.tmp t) = .func (.func g) #[] cv := by
       simpa [Act.eval] using hx
     have hrun : (o2.semAt Fence.wide.round a'.eval).run P W' = .ok (.defer { target := .fn (.func g) cv, args := #[] }) W' := by
       have : Fence.wide.round = none := rfl
       rw [this, Oper.semAt_none]
       simp [execOp, <- q2, resolve, hcal, hcl, hev2, Deferred.ofValue]
     rw [hrun]
     simp only [Oper.uponIn, <- q1]
     have hI0 := hI'
     rw [<- p1] at hI0
     have hlp : ∀ i, i ∈ ids.map Prod.fst -> (G'.ph i = false /\ G'.lo i = false) /\ i < st.nx + 2097152 := fun i hi => by
       obtain ⟨p, hp, rfl⟩ := List.mem_map.1 hi
       obtain ⟨k, hk⟩ := List.getElem?_of_mem hp
       obtain ⟨z, hz, hr⟩ := (All2.map_left.1 hcr).get hk
       exact ⟨hr.1, hwf' _ (List.mem_map.2 ⟨p, hp, rfl⟩)⟩
     let E' : Ent := { E with dx := [{ target := .fn (.func g) cv, args := #[] }], nm := false, stab := fun i => i ∈ ids.map Prod.fst, β0 := G'.β, bs0 := G'.bs, lo0 := G'.lo }
     have hdf : a'.defers = [] := by
       obtain ⟨ds, hd, hmk⟩ := hI'.df
       rw [hmk.nm hB.nm, hB.dx] at hd
       exact hd
     have hI2 : Inv E' (· < st.nx + 2097152) G' ⟨frPut st.fr (some t) (.cl g (ids.map fun p => .lp p.1 p.2)), st.H, st.nx + 2097152⟩ { a' with defers := [{ target := .fn (.func g) cv, args := #[] }] } W' :=
       ⟨hI0.fr, hI0.wf, hI0.hp, hI0.wh, hI0.dom, hI0.inj, hI0.own, hI0.im, hI0.im0, ⟨hI0.keep.os, hI0.keep.tape, hI0.keep.output, hI0.keep.drawn, hI0.keep.size, hI0.keep.block⟩, fun i hi _ => ⟨rfl, rfl, (hlp i hi).1.1, rfl⟩, fun i hi => (hlp i hi).2, hI0.nt, ⟨[], rfl, List.nodup_nil, fun _ h => (nomatch h), fun _ => rfl⟩, hI0.gl⟩
     have hF' : E'.F = Fence.wide := by show ({ Fence.wide with round := E.rd } : Fence) = _; rw [hB.rd]; rfl
     have hsnd := h E' rfl (fun _ => Iff.rfl) ⟨hB.rd, rfl⟩ y hy G' _ W' hI2
     rw [hF'] at hsnd
     rw [hdf]
     show y.wpIn Fence.wide 0 P (bodyPostM Fence.wide 0 P fn (EndR G0 W0 r H1)) { a' with defers := [{ target := .fn (.func g) cv, args := #[] }] } W'
     have hbase : E'.W0 = W0 /\ E'.Im0 = G0.Im /\ (∀ b, E'.mu b ↔ lentB G0 noH b) /\ ∀ i, i ∈ ([] : List Nat) -> E'.stab i /\ E'.β0 i = G0.β i /\ E'.bs0 i = G0.bs i /\ E'.lo0 i = G0.lo i := ⟨hB.w, hB.im, hB.mu, fun _ h => by cases h⟩
     have hcv : All2 (fun (p : Nat × Nat) x => E'.stab p.1 /\ E'.lo0 p.1 = false /\ x = .pointer (some ⟨E'.β0 p.1, p.2, none⟩)) ids cv.toList :=
       All2.of_get (by have := hcr.length; simpa using this) fun i p x hp hx => by
         obtain ⟨z, hz, hr⟩ := (All2.map_left.1 hcr).get hp
         rw [hx] at hz; cases hz
         exact ⟨List.mem_map.2 ⟨p, List.mem_of_getElem? hp, rfl⟩, hr.1.2, hr.2⟩
     refine wpIn_mono hsnd fun e a3 W3 ⟨z, st3, G3, hI3, hz, ho, hq⟩ => ?_
     obtain ⟨ds, hd, _⟩ := hI3.df
     have fin : DCall P g ids none (RetM Γ fn [] r H1) st3 -> LeavesInM Fence.wide 0 P fn a3.tmps (EndR G0 W0 r H1) a3.defers .returning W3 := fun hq => by
       rw [hd]
       refine leave_marks (u := .returning) nofun ds a3 W3 rfl hd hI3 (W0 := W3) (fun _ _ => rfl) fun a4 W4 ht hI4 _ => ?_
       rw [<- ht]
       exact leave_defer hΓ hri hbase hcv hI4 (m := none) nofun nofun rfl hq
     cases z with
     | normal => cases e <;> first | exact fin hq | exact False.elim hz
     | ret => cases e <;> first | exact fin hq | exact False.elim hz
     | exit _ => exact hq.elim
     | goto _ => exact hq.elim
     | pan v =>
       cases e with
       | panic ch =>
         obtain ⟨D, rfl, hq⟩ := hq
         obtain ⟨x, hx, hrx⟩ := hz
         show LeavesInM Fence.wide 0 P fn a3.tmps (EndR G0 W0 r H1) a3.defers (.panicking ch) W3
         rw [hd]
         refine leave_marks (u := .panicking ch) nofun ds a3 W3 rfl hd hI3 (W0 := W3) (fun _ _ => rfl) fun a4 W4 ht hI4 hW4 => ?_
         rw [<- ht]
         refine leave_defer hΓ hri hbase hcv hI4 (m := some (.d D)) (fun v hv => ⟨D, by cases hv; rfl⟩) nofun ⟨x, by rw [hx], ?_⟩ hq
         exact RD.mono (show RD G3.Im W3 D x from hrx) fun b hb => ⟨hb, hW4 b hb⟩
       | _ => exact False.elim hz
 rw [hF] at hs
 exact hs
theorem DW.defer (hΓ : GOk P Γ) (hE : EqOk P eqs) (hm : P.follows .mixedOrders = true) {fn : Func} {r : V} {H1 : List (Nat × List V)} {pb : PC} {t : Nat} {g : FuncId} {caps : Array Operand} {cl : Call} {st : St} (ids : List (Nat × Nat)) (hcal : cl.callee = .value (.tmp t)) (hcl : cl.args = #[])
   (hcaps : capL st.fr caps.toList = ids.map fun p => .lp p.1 p.2) (hst : ∀ i, ¬ E.stab i)
   (h : ∀ E' : Ent, E'.nt = E.nt -> (∀ i, E'.stab i ↔ i ∈ ids.map Prod.fst) -> E'.rq -> PW P Γ eqs E' pb (retD P Γ fn r H1 g ids) ⟨frPut st.fr (some t) (.cl g (ids.map fun p => .lp p.1 p.2)), st.H, st.nx + 2097152⟩) :
   DW P E fn r H1 (.seq (.reg [⟨some t, .makeFunc (.func g) #[] caps, none⟩, ⟨none, .defer cl, none⟩]) pb) st := DW.deferA hΓ hE ids hcal hcl hcaps hst fun E' h1 h2 h3 c hc => PW.sound hΓ hE hm c pb hc _ _ (h E' h1 h2 h3)
theorem Ct.byDN (N : Nat) (_ : GOk P Γ) {f : FuncId} {fn : Func} {p : PC} {args : List V} {r : V} {H1 : List (Nat × List V)} (hf : P.funcs[f]? = some fn) (hc : fn.body.bind (comp fn.ntmps) = some p) (hname : (fn.name == "runtime.NumGoroutine") = false)
   (hn : args.length <= fn.ntmps) (hcl : ∀ v ∈ args, Closed v) (hri : ResIds r H1) (h : ∀ E : Ent, (∀ i, ¬ E.stab i) -> E.nt = fn.ntmps -> DW P E fn r H1 p ⟨argF 0 args, fun _ => none, N⟩) : Ct P f args r H1 := by
 cases hb : fn.body with
 | none => rw [hb] at hc; cases hc
 | some c =>
   rw [hb] at hc
   refine ⟨⟨fn, hf, by rw [hb]; rfl, hname⟩, fun G W xs hGW hargs hpre => ?_⟩
   have hcl' : ∀ v ∈ args, A2 (· < N) anyD v := fun v hv => A2.mono (fun _ h => h.elim) (fun _ h => h) (hcl v hv)
   obtain ⟨hfr, hwf⟩ := begin_rel (fn := fn) hcl' hargs
   have hl : args.length = xs.size := by have := hargs.length; simpa using this
   have hI := Inv.startN (N := N) (nt := fn.ntmps) (rd := none) (nm := true) hGW hpre nofun nofun (tmps := xs ++ Array.replicate (fn.ntmps - xs.size) undef) hfr hwf (by simp; omega)
   rw [<- callsIn_wide (n := 0)]
   refine callsIn_of_wp_marks hf hb trivial ?_
   exact h { W0 := W, Im0 := G.Im, mu := lentB G noH, β0 := G.β, bs0 := G.bs, lo0 := G.lo, stab := (· ∈ ([] : List Nat)), nt := fn.ntmps, rd := none, nm := true } (fun i hi => by cases hi) rfl hri c hc G W ⟨rfl, rfl, fun _ => Iff.rfl, rfl, rfl, rfl⟩ G _ W hI
end Go.Psl
namespace Go.Psl
open Go.ChangeShapes Go.WideShapes
section
variable {P : Program} {W : World}
abbrev InW (W : World) (b : Nat) : Prop := b < W.heap.size
end
end Go.Psl
namespace Go.Psl
variable {P : Program} {G : Gh} {W : World} {H : Hp}
def fzIm (G : Gh) (H : Hp) (b : Nat) : Prop := G.Im b \/ ∃ i, InH H i /\ G.ph i = false /\ G.β i = b
theorem fz0 (hp : ∀ id cs, H id = some cs -> HB G W id cs) {v c : V} {x : Value} (hb : Bor0 H v c) (hx : RV G W v x) : R0 { G with Im := fzIm G H } W c x := by
 have him : ∀ b, G.Im b -> fzIm G H b /\ W.heap[b]? = W.heap[b]? := fun b hb => ⟨.inl hb, rfl⟩
 have hless : ∀ i cs, H i = some cs -> H i = some cs /\ True := fun i cs h => by
   exact ⟨h, trivial⟩
 unfold Bor0 at hb
 split at hb
 . rename_i y z
   rcases hb with rfl | ⟨rfl, sz, rfl⟩
   . exact RD.mono (x := y) hx him
   . have := rv_lit hx
     subst this
     exact RD.sl sz [] none 0 (fun _ _ => undef) (by simp) (by simp [maxL]) (by simp) (by simp) (by simp)
 . rename_i id off len sz sz' es
   obtain ⟨rfl, hl, hes, cs, hh0, hcs⟩ := hb
   obtain ⟨hh, hnin⟩ := hless _ _ hh0
   obtain ⟨hml, ⟨hph, h0, rfl⟩ | ⟨hph, o', cap, rfl, hcap, hoff⟩⟩ := hx
   . have : es = [] := List.eq_nil_of_length_eq_zero (by omega)
     subst this
     exact RD.sl sz' [] none 0 (fun _ _ => undef) (by simp) (by simp [maxL]) (by simp) (by simp) (by simp)
   . obtain ⟨_, c, T, ⟨fz, hg, _⟩, hbs, hcl, hcr, _⟩ := (hp id cs hh).read hph
     have hfl := flatten_len es hes
     have hlen : ((cs.drop off).take (len * sz')).length = len * sz' := by rw [hcs, List.length_map, hfl, hl]
     have hfit : off + len * sz' <= cs.length \/ len * sz' = 0 := by simp at hlen; omega
     subst hl
     refine RD.sl sz' es (some ⟨G.β id, o', none⟩) cap (fun i j => c.toList.getD (off + i * sz' + j) undef) hes hml hcap (fun i e he => ⟨_, rfl, .inr ⟨id, by show (H id).isSome = true; rw [hh]; rfl, hph.1, rfl⟩, fun j y hy => ?_⟩) (fun i e he j y hy => ?_)
     all_goals
       have hil : i < es.length := (List.getElem?_eq_some_iff.1 he).1
       have hel := hes e (List.mem_of_getElem? he)
       have hjl : j < sz' := by have := (List.getElem?_eq_some_iff.1 hy).1; omega
       have hij : i * sz' + j < es.length * sz' := by
         have : (i + 1) * sz' <= es.length * sz' := Nat.mul_le_mul_right _ hil
         rw [Nat.add_mul] at this; omega
       have hfit' : off + es.length * sz' <= cs.length := by omega
       have hcell : cs[off + (i * sz' + j)]? = some (.d y) := by
         have h1 : ((cs.drop off).take (es.length * sz'))[i * sz' + j]? = some (V.d y) := by
           rw [hcs, List.getElem?_map, flatten_get (by omega) es hes]
           have e1 : (i * sz' + j) / sz' = i := by rw [Nat.add_comm, Nat.add_mul_div_right _ _ (by omega), Nat.div_eq_of_lt hjl]; omega
           have e2 : (i * sz' + j) % sz' = j := by rw [Nat.add_comm, Nat.add_mul_mod_self_right, Nat.mod_eq_of_lt hjl]
           rw [e1, e2, he]; simp [hy]
         rw [List.getElem?_take, if_pos hij, List.getElem?_drop] at h1
         exact h1
       obtain ⟨u, hu, hru⟩ := hcr.get hcell
       rw [List.getElem?_take] at hu
       split at hu
       rotate_left
       . cases hu
     . obtain ⟨rfl, _⟩ := hoff (by omega)
       rw [add_plain]
       simp only [World.cell?, hg]
       rw [Array.getElem?_toList] at hu
       have h2 : c.toList.getD (o' + i * sz' + j) undef = u := by
         rw [List.getD_eq_getElem?_getD, Array.getElem?_toList, show o' + i * sz' + j = o' + (i * sz' + j) by omega, hu]; rfl
       rw [h2]
       simpa using hu
     . have h2 : c.toList.getD (off + i * sz' + j) undef = u := by
         rw [List.getD_eq_getElem?_getD, show off + i * sz' + j = off + (i * sz' + j) by omega, hu]; rfl
       show RD _ _ y (c.toList.getD (off + i * sz' + j) undef)
       rw [h2]
       exact RD.mono (x := y) hru him
 . rename_i id off ds
   obtain ⟨cs, hh0, hcs⟩ := hb
   obtain ⟨hh, hnin⟩ := hless _ _ hh0
   obtain ⟨hph, rfl⟩ : (G.ph id = false /\ G.lo id = false) /\ x = .pointer (some ⟨G.β id, off, none⟩) := hx
   obtain ⟨_, c, T, ⟨fz, hg, _⟩, hbs, hcl, hcr, _⟩ := (hp id cs hh).read hph
   have get : ∀ (j : Nat) y, ds[j]? = some y -> ∃ u, c.toList[off + j]? = some u /\ RD (fzIm G H) W y u := fun j y hy => by
     have hj := (List.getElem?_eq_some_iff.1 hy).1
     have h1 : ((cs.drop off).take ds.length)[j]? = some (V.d y) := by rw [hcs, List.getElem?_map, hy]; rfl
     rw [List.getElem?_take, if_pos hj, List.getElem?_drop] at h1
     obtain ⟨u, hu, hru⟩ := hcr.get h1
     rw [List.getElem?_take] at hu
     split at hu
     . exact ⟨u, hu, RD.mono (x := y) hru him⟩
     . cases hu
   refine RD.ref ds _ (fun j => c.toList.getD (off + j) undef) (.inr ⟨id, by show (H id).isSome = true; rw [hh]; rfl, hph.1, rfl⟩) (fun j y hy => ?_) (fun j y hy => ?_)
   . obtain ⟨u, hu, _⟩ := get j y hy
     rw [add_plain, List.getD_eq_getElem?_getD, hu]
     simp only [World.cell?, hg]
     simpa using hu
   . obtain ⟨u, hu, hr⟩ := get j y hy
     rw [List.getD_eq_getElem?_getD, hu]
     exact hr
 . rename_i f caps g ds
   obtain ⟨rfl, rfl⟩ := hb
   obtain ⟨cv, rfl, hcr⟩ := hx
   have hl := hcr.length
   refine RD.fn f ds cv (by simpa using hl.symm) fun j y v hy hv => ?_
   have h1 : (ds.map V.d)[j]? = some (V.d y) := by rw [List.getElem?_map, hy]; rfl
   obtain ⟨u, hu, hru⟩ := hcr.get h1
   rw [Array.getElem?_toList, hv] at hu
   cases hu
   exact RD.mono (x := y) hru him
 . obtain ⟨rfl, rfl⟩ := hb; exact hx
 . obtain ⟨rfl, rfl, rfl, rfl⟩ := hb; exact hx
 . have hb : _ = _ := hb; subst hb; exact hx
 . exact hb.elim
def FzC (H : Hp) (v c : V) : Prop := ∃ y, c = .d y /\ Bor0 H v (.d y)
def FzR (H : Hp) (v c : V) : Prop := Bor0 H v c \/ ∃ id off cs ds, v = .lp id off /\ c = .d (.ref ds) /\ H id = some cs /\ All2 (fun c y => Bor0 H c (.d y)) ((cs.drop off).take ds.length) ds
theorem fz0r (hp : ∀ id cs, H id = some cs -> HB G W id cs) {v c : V} {x : Value} (hb : FzR H v c) (hx : RV G W v x) : R0 { G with Im := fzIm G H } W c x := by
 rcases hb with hb | ⟨id, off, cs, ds, rfl, rfl, hh, hcs⟩
 . exact fz0 hp hb hx
 obtain ⟨hph, rfl⟩ : (G.ph id = false /\ G.lo id = false) /\ x = .pointer (some ⟨G.β id, off, none⟩) := hx
 obtain ⟨_, c, T, ⟨fz, hg, _⟩, hbs, hcl, hcr, _⟩ := (hp id cs hh).read hph
 have get : ∀ (j : Nat) y, ds[j]? = some y -> ∃ u, c.toList[off + j]? = some u /\ RD (fzIm G H) W y u := fun j y hy => by
   obtain ⟨v, hv, hvy⟩ := hcs.get2 hy
   have hj := (List.getElem?_eq_some_iff.1 hy).1
   rw [List.getElem?_take, if_pos hj, List.getElem?_drop] at hv
   obtain ⟨u, hu, hru⟩ := hcr.get hv
   rw [List.getElem?_take] at hu
   split at hu
   . exact ⟨u, hu, fz0 hp hvy (R2.rv (R1.r2 hru))⟩
   . cases hu
 refine RD.ref ds _ (fun j => c.toList.getD (off + j) undef) (.inr ⟨id, by show (H id).isSome = true; rw [hh]; rfl, hph.1, rfl⟩) (fun j y hy => ?_) (fun j y hy => ?_)
 . obtain ⟨u, hu, _⟩ := get j y hy
   rw [add_plain, List.getD_eq_getElem?_getD, hu]
   simp only [World.cell?, hg]
   simpa using hu
 . obtain ⟨u, hu, hr⟩ := get j y hy
   rw [List.getD_eq_getElem?_getD, hu]
   exact hr
def Fz1 (H : Hp) : V -> V -> Prop
 | .agg cs, .agg ds => All2 (FzC H) cs ds
 | .cl f caps, .d (.fn g ds) => f = g /\ All2 (FzR H) caps (ds.map .d)
 | v, .d y => Bor0 H v (.d y)
 | _, _ => False
def Fz (H : Hp) : V -> V -> Prop
 | .tup vs, .tup ws => All2 (Fz1 H) vs ws
 | v, w => Fz1 H v w
theorem fz1 (hp : ∀ id cs, H id = some cs -> HB G W id cs) {v c : V} {x : Value} (hb : Fz1 H v c) (hx : R2 G W v x) : R2 { G with Im := fzIm G H } W c x := by
 unfold Fz1 at hb
 split at hb
 . rename_i cs ds
   obtain ⟨cv, rfl, hr⟩ := hx
   refine ⟨cv, rfl, All2.of_get (by rw [<- hb.length, hr.length]) fun i d z hd hz => ?_⟩
   obtain ⟨c, hc, y, rfl, hy⟩ := hb.get2 hd
   obtain ⟨u, hu, hru⟩ := hr.get hc
   rw [hz] at hu; cases hu
   exact R0.r1 (fz0 hp hy (R2.rv (R1.r2 hru)))
 . rename_i f caps g ds
   obtain ⟨rfl, hc⟩ := hb
   obtain ⟨cv, rfl, hr⟩ := hx
   have hl : cv.size = ds.length := by have h1 := hc.length; have h2 := hr.length; simp at h1 h2; omega
   refine RD.fn f ds cv hl fun j y z hy hz => ?_
   obtain ⟨c, hcj, hcy⟩ := hc.get2 (show (ds.map V.d)[j]? = some (.d y) by rw [List.getElem?_map, hy]; rfl)
   obtain ⟨u, hu, hru⟩ := hr.get hcj
   rw [Array.getElem?_toList, hz] at hu; cases hu
   exact fz0r hp hcy (R2.rv (R1.r2 (R0.r1 hru)))
 . refine R1.r2 (R0.r1 (fz0 hp hb (R2.rv hx)))
 . exact hb.elim
theorem fz1_wf {v c : V} (hb : Fz1 H v c) : A2 (fun _ => False) anyD c := by
 unfold Fz1 at hb
 split at hb
 . rename_i cs ds
   intro d hd
   obtain ⟨i, hi⟩ := List.getElem?_of_mem hd
   obtain ⟨c, _, y, rfl, _⟩ := hb.get2 hi
   trivial
 . trivial
 . trivial
 . exact hb.elim
theorem fz_rel (hp : ∀ id cs, H id = some cs -> HB G W id cs) {v c : V} {x : Value} (hb : Fz H v c) (hx : RV G W v x) : RV { G with Im := fzIm G H } W c x := by
 unfold Fz at hb
 split at hb
 . rename_i vs ws
   obtain ⟨cv, rfl, hr⟩ := hx
   refine ⟨cv, rfl, All2.of_get (by rw [<- hb.length, hr.length]) fun i y z hy hz => ?_⟩
   obtain ⟨w, hw, hbw⟩ := hb.get2 hy
   obtain ⟨u, hu, hru⟩ := hr.get hw
   rw [hz] at hu; cases hu
   exact fz1 hp hbw hru
 . refine R2.rv (fz1 hp hb ?_)
   cases v <;> first | exact hx | (exfalso; revert hb; cases c <;> simp [Fz1, Bor0]; done)
theorem fz_wf {v c : V} (hb : Fz H v c) : AV (fun _ => False) anyD c := by
 unfold Fz at hb
 split at hb
 . rename_i vs ws
   intro w hw
   obtain ⟨i, hi⟩ := List.getElem?_of_mem hw
   obtain ⟨u, _, hu⟩ := hb.get2 hi
   exact fz1_wf hu
 . have := fz1_wf hb
   cases c <;> first | exact this | (revert hb; simp [Fz1]; done)
theorem Cm.freeze {f : FuncId} {args : List V} {Hin : Hp} {r r' : V} {H1 : Hp} (h : Cm P f args Hin [] (.ret r) H1) (hf : Fz H1 r r') : Cm P f args Hin [] (.ret r') (fun _ => none) := by
 refine ⟨h.1, fun G W xs him hargs hpre => Calls.mono (h.2 G W xs him hargs hpre) fun e W' ⟨G', p⟩ => ?_⟩
 have hB : ∀ id cs, H1 id = some cs -> HB G' W' id cs := fun id cs hid => (p.hb id cs hid).1
 have hblk : ∀ i, InH H1 i -> G'.ph i = false -> G'.β i < W'.heap.size := fun i hi hph => by
   cases hc : H1 i with
   | none => simp [InH, hc] at hi
   | some cs =>
     rcases hB i cs hc with ⟨h1, _⟩ | ⟨_, _, _, c, T, h3, _⟩ | ⟨_, _, _, ⟨_, fr, nt, ps, pa, pb, jmp, rec, _, h4, _⟩ | ⟨_, es, ms, ck, _, h4, _⟩ | ⟨_, bx, bp, bv, _, h4, _⟩⟩
     . rw [h1] at hph; cases hph
     . exact (Array.getElem?_eq_some_iff.1 h3.choose_spec.1).1
     . exact (Array.getElem?_eq_some_iff.1 h4).1
     . exact (Array.getElem?_eq_some_iff.1 h4).1
     . exact (Array.getElem?_eq_some_iff.1 h4).1
 refine ⟨{ G' with Im := fzIm G' H1 }, p.os, p.tape, p.output, p.drawn, p.size, p.block, fun b hb => ?_, fun b hb => .inl (p.im0 b hb), ?_, ?_, fun i cs h => (by cases h), fun i j h => (by simp [InH] at h), fun i h => (by cases h)⟩
 . rcases hb with hb | ⟨i, hi, hph, rfl⟩
   . exact p.im b hb
   . refine ⟨hblk i hi hph, .inr ?_⟩
     cases hc : H1 i with
     | none => simp [InH, hc] at hi
     | some cs => exact (p.hb i cs hc).2.1 hph
 . have hrv := p.rv
   cases e with
   | returned v => exact fz_rel hB hf hrv
   | _ => exact hrv.elim
 . show AV (InH fun _ => none) anyD r'
   exact AV.mono (fun _ h => h.elim) (fun _ h => h) (fz_wf hf)
end Go.Psl
namespace Go.Psl
variable {Γ : Tys} {eqs : Eqs} {H : Hp} {t : TypeId} {b : Nat}
theorem appF_nil {p : Option Addr} {n c : Nat} {x : V} : appF Γ H b t (.d (.lit (.slice p n c))) x = (Γ t).bind fun y => match y.sh with
 | .slice e => (Γ e).bind fun ye => if ye.size = 0 \/ sameId (.d (.lit (.slice p n c))) x = true then none else (cellsOf H ye.size x).bind fun nx => if nx.2.all V.isCell then (if nx.1 * ye.bytes <= maxA /\ nx.1 <= maxL then some (.ls b 0 nx.1 ye.size, .new b nx.2) else none) else none
 | _ => none := nrfl rfl
theorem sameId_nil {D' : D} {x : V} : sameId (.d D') x = false := nrfl rfl
theorem appF_ls {id len sz : Nat} {x : V} : appF Γ H b t (.ls id 0 len sz) x = (Γ t).bind fun y => match y.sh with
 | .slice e => (Γ e).bind fun ye => if ye.size = 0 \/ sameId (.ls id 0 len sz) x = true then none else (cellsOf H ye.size x).bind fun nx => if nx.2.all V.isCell then
     (if sz = ye.size then (H id).bind fun cs => if len * sz <= cs.length /\ (len + nx.1) * ye.bytes <= maxA /\ len + nx.1 <= maxL then some (.ls b 0 (len + nx.1) sz, .mov id b (cs.take (len * sz) ++ nx.2)) else none else none) else none
 | _ => none := nrfl rfl
theorem sameId_ls {i o l z i' o' l' z' : Nat} : sameId (.ls i o l z) (.ls i' o' l' z') = (i == i') := nrfl rfl
theorem sameId_d {i o l z : Nat} {x : D} : sameId (.ls i o l z) (.d x) = false := nrfl rfl
theorem cellsOf_nil {sz : Nat} {p : Option Addr} {n c : Nat} : cellsOf H sz (.d (.lit (.slice p n c))) = some (0, []) := nrfl rfl
theorem cellsOf_sl {sz sz' : Nat} {es : List (List D)} : cellsOf H sz (.d (.sl sz' es)) = if sz = sz' then some (es.length, es.flatten.map .d) else none := nrfl rfl
theorem cellsOf_ls {sz sz' id off len : Nat} : cellsOf H sz (.ls id off len sz') = if sz = sz' then (H id).bind fun cs => if off + len * sz <= cs.length then some (len, (cs.drop off).take (len * sz)) else none else none := nrfl rfl
theorem pack_nil : pack [] = .tup [] := nrfl rfl
theorem WV_tupnil {ρ : Nat -> Option Nat} : WV ρ (.tup []) (.tup []) := by simp
attribute [simp] pack_nil WV_tupnil appF_nil appF_ls sameId_ls sameId_d sameId_nil cellsOf_nil cellsOf_sl cellsOf_ls
theorem wc_data {ρ : Nat -> Option Nat} (x : D) : WC ρ (.d x) (.d x) := by simp
theorem all2_data {ρ : Nat -> Option Nat} {xs ys : List V} : ∀ ds : List D, All2 (WC ρ) (ds.map .d ++ xs) (ds.map .d ++ ys) = All2 (WC ρ) xs ys
 | [] => rfl
 | d :: ds => by
   show (WC ρ (.d d) (.d d) /\ All2 (WC ρ) (ds.map .d ++ xs) (ds.map .d ++ ys)) = _
   rw [all2_data ds]
   exact propext ⟨fun h => h.2, fun h => ⟨wc_data d, h⟩⟩
theorem all2_data0 {ρ : Nat -> Option Nat} (ds : List D) : All2 (WC ρ) (ds.map .d) (ds.map .d) = True := by
 have := all2_data (ρ := ρ) (xs := []) (ys := []) ds
 rw [List.append_nil] at this
 rw [this]
 exact propext ⟨fun _ => trivial, fun _ => trivial⟩
theorem cellsOk_data {xs : List V} {ds : List D} (h : xs.all V.isCell = true) : cellsOk (ds.map .d ++ xs) := Or.inl (by
 rw [List.all_append, h, Bool.and_true, List.all_map, List.all_eq_true]
 intro x _
 rfl)
theorem cellsOk_data0 {ds : List D} : cellsOk (ds.map .d) := Or.inl (by
 rw [List.all_map, List.all_eq_true]
 intro x _
 rfl)
theorem map_renC_d {ρ : Nat -> Nat} {ds : List D} : ds.map (renC ρ ∘ V.d) = ds.map V.d := by
 apply List.map_congr_left
 intro x _
 rfl
attribute [simp] map_renC_d all2_data all2_data0 cellsOk_data cellsOk_data0
end Go.Psl
namespace Go.Psl
variable {P : Program} {G : Gh} {W : World}
def Gh.cmp (G : Gh) (σ : Nat -> Nat) : Gh := ⟨fun i => G.β (σ i), fun i => G.bs (σ i), fun i => G.ph (σ i), fun i => G.lo (σ i), G.Im⟩
theorem R0_ren {σ : Nat -> Nat} {v : V} {x : Value} (h : R0 G W (ren0 σ v) x) : R0 (G.cmp σ) W v x := by cases v <;> exact h
theorem all_ren {S S' : V -> Value -> Prop} {r : V -> V} (h : ∀ v x, S (r v) x -> S' v x) {cs : List V} {xs : List Value} (ha : All2 S (cs.map r) xs) : All2 S' cs xs :=
 (All2.map_left.1 ha).mono fun c _ x hx => h c x hx
theorem R1_ren {σ : Nat -> Nat} {v : V} {x : Value} (h : R1 G W (ren1 σ v) x) : R1 (G.cmp σ) W v x := by
 cases v with
 | cl f caps => obtain ⟨cv, hx, hc⟩ := h; exact ⟨cv, hx, all_ren (fun v x => R0_ren) hc⟩
 | _ => exact h
theorem R2_ren {σ : Nat -> Nat} {v : V} {x : Value} (h : R2 G W (ren2 σ v) x) : R2 (G.cmp σ) W v x := by
 cases v with
 | agg cs => obtain ⟨cv, hx, hc⟩ := h; exact ⟨cv, hx, all_ren (fun v x => R1_ren) hc⟩
 | cl f caps => exact R1_ren (v := .cl f caps) h
 | _ => exact h
theorem RV_ren {σ : Nat -> Nat} {v : V} {x : Value} (h : RV G W (ren σ v) x) : RV (G.cmp σ) W v x := by
 cases v with
 | tup cs => obtain ⟨cv, hx, hc⟩ := h; exact ⟨cv, hx, all_ren (fun v x => R2_ren) hc⟩
 | agg cs => exact R2_ren (v := .agg cs) h
 | cl f caps => exact R2_ren (v := .cl f caps) h
 | _ => exact h
theorem isCell_unren {σ : Nat -> Nat} {v : V} (h : V.isCell (renC σ v) = true) : V.isCell v = true := by
 cases v <;> first | rfl | (simp [renC, ren1, ren0, V.isCell] at h; done)
theorem ren_data {σ : Nat -> Nat} {es : List (Value × Bool × List D)} {t : Nat} {v : V} (h : ren σ v = mapFr es t) : v = mapFr es t := by
 unfold mapFr at *
 split at h
 . cases v with
   | agg cs =>
     simp only [ren, ren2, V.agg.injEq] at h
     congr 1
     refine List.ext_getElem? fun i => ?_
     have := congrArg (fun l => l[i]?) h
     simp only [List.getElem?_map] at this ⊢
     cases hc : cs[i]? with
     | none => rw [hc] at this; exact this
     | some c =>
       rw [hc] at this
       rename_i e _
       cases he : e.2.2[i]? with
       | none => rw [he] at this; cases this
       | some x =>
         rw [he] at this
         simp only [Option.map_some, Option.some.injEq] at this ⊢
         cases c <;> simp [ren1, ren0] at this ⊢
         exact this
   | _ => simp [ren, ren2, ren1, ren0] at h
 . cases v <;> simp [ren, ren2, ren1, ren0] at h ⊢
theorem HB_ren {σ : Nat -> Nat} {i : Nat} {cs : List V} (h : HB G W (σ i) (cs.map (renC σ))) : HB (G.cmp σ) W i cs := by
 rcases h with ⟨h1, h2⟩ | ⟨h1, h0, h2, c, T, h3, h4, h5, h6, h7⟩ | ⟨h1, h0, h2, ⟨hz, fr, nt, ps, pa, pb, jmp, rec, h3, h4, h5⟩ | ⟨hz, es, ms, ck, h3, h4, h5⟩ | ⟨hz, bx, bp, bv, h3, h4, h5, h6, h7⟩⟩
 . exact .inl ⟨h1, List.map_eq_nil_iff.1 h2⟩
 . have hcell : ∀ v ∈ cs, V.isCell v = true := fun v hv => isCell_unren (List.all_eq_true.1 h7 _ (List.mem_map.2 ⟨v, hv, rfl⟩))
   have hmap : cs.map (renC σ) = cs.map (ren1 σ) := List.map_congr_left fun c hc => renC_cell (hcell c hc)
   rw [hmap] at h5 h6
   refine .inr (.inl ⟨h1, h0, h2, c, T, h3, h4, by simpa using h5, ?_, List.all_eq_true.2 hcell⟩)
   rw [List.length_map] at h6
   exact all_ren (fun v x => R1_ren) h6
 . obtain ⟨c, rfl, hc⟩ : ∃ c, cs = [c] /\ renC σ c = .lr fr nt ps pa pb jmp := by
     match cs, h3 with
     | [c], h3 => simp at h3; exact ⟨c, rfl, h3⟩
     | [], h3 => simp at h3
     | _ :: _ :: _, h3 => simp at h3
   cases c with
   | lr fr0 nt0 ps0 pa0 pb0 jmp0 =>
     simp only [renC, V.lr.injEq] at hc
     obtain ⟨rfl, rfl, rfl, rfl, rfl, rfl⟩ := hc
     obtain ⟨q1, q2, q3, q4, q5, q6⟩ := h5
     exact .inr (.inr ⟨h1, h0, h2, .inl ⟨hz, fr0, _, _, _, _, _, rec, rfl, h4, q1, q2, q3, q4, fun t => RV_ren (q5 t), q6⟩⟩)
   | _ => simp [renC, ren1, ren0] at hc
 . refine .inr (.inr ⟨h1, h0, h2, .inr (.inl ⟨hz, es, ms, ck, ?_, h4, h5⟩)⟩)
   match cs, h3 with
   | [c, d], h3 =>
     simp only [List.map_cons, List.map_nil, mapC, List.cons.injEq, and_true] at h3
     obtain ⟨e1, e2⟩ := h3
     have d1 : d = .d (.lit (.bool true)) := by
       cases d <;> simp [renC, ren1, ren0] at e2 ⊢
       exact e2
     have c1 : c = mapB es := by
       cases c with
       | lr fr nt ps pa pb jmp =>
         simp only [renC, mapB, V.lr.injEq] at e1
         obtain ⟨e0, rfl, rfl, rfl, rfl, rfl⟩ := e1
         unfold mapB
         congr 1
         funext t
         have := congrFun e0 t
         exact ren_data this
       | _ => simp [renC, ren1, ren0, mapB] at e1
     rw [c1, d1]; rfl
   | [], h3 => simp [mapC] at h3
   | [_], h3 => simp [mapC] at h3
   | _ :: _ :: _ :: _, h3 => simp [mapC] at h3
 . match cs, h3 with
   | [c, d], h3 =>
     simp only [List.map_cons, List.map_nil, List.cons.injEq, and_true] at h3
     obtain ⟨e1, e2⟩ := h3
     have d1 : d = .d (.lit bp.m) := by
       cases d <;> simp [renC, ren1, ren0] at e2 ⊢
       exact e2
     subst e1
     have hc := isCell_unren h7
     rw [renC_cell hc] at h6
     rw [d1]
     exact .inr (.inr ⟨h1, h0, h2, .inr (.inr ⟨hz, c, bp, bv, rfl, h4, h5, R1_ren h6, hc⟩)⟩)
   | [], h3 => simp at h3
   | [_], h3 => simp at h3
   | _ :: _ :: _ :: _, h3 => simp at h3
def renL (σ : Nat -> Nat) (L : List (Nat × List V)) : List (Nat × List V) := L.map fun p => (σ p.1, p.2.map (renC σ))
theorem lk_ren {σ : Nat -> Nat} {K : Nat} (hinj : ∀ i j, i < K -> j < K -> σ i = σ j -> i = j) : ∀ {L : List (Nat × List V)} {i : Nat}, idsLt K L -> i < K -> lk (renL σ L) (σ i) = (lk L i).map (·.map (renC σ))
 | [], _, _, _ => rfl
 | p :: r, i, hL, hi => by
   simp only [renL, List.map_cons, lk]
   by_cases h : i = p.1
   . subst h; simp
   . rw [if_neg h, if_neg (fun e => h (hinj _ _ hi hL.1 e))]
     exact lk_ren hinj hL.2 hi
theorem lk_ren_inv {σ : Nat -> Nat} {K : Nat} (hinj : ∀ i j, i < K -> j < K -> σ i = σ j -> i = j) {L : List (Nat × List V)} {j : Nat} {cs' : List V} (hL : idsLt K L) (h : lk (renL σ L) j = some cs') : ∃ i cs, i < K /\ j = σ i /\ lk L i = some cs /\ cs' = cs.map (renC σ) := by
 have hm := lk_mem' h
 simp only [renL, List.mem_map] at hm
 obtain ⟨p, hp, e⟩ := hm
 have hlt : p.1 < K := by
   have : ∀ {L : List (Nat × List V)}, idsLt K L -> p ∈ L -> p.1 < K := by
     intro L
     induction L with
     | nil => intro _ h; cases h
     | cons q r ih =>
       intro h h2
       rcases List.mem_cons.1 h2 with rfl | h2
       . exact h.1
       . exact ih h.2 h2
   exact this hL hp
 have hj : j = σ p.1 := by cases e; rfl
 rw [hj, lk_ren hinj hL hlt, Option.map_eq_some_iff] at h
 obtain ⟨cs, h1, h2⟩ := h
 exact ⟨p.1, cs, hlt, hj, h1, h2.symm⟩
theorem Cm.rename (σ : Nat -> Nat) (K : Nat) (hinj : ∀ i j, i < K -> j < K -> σ i = σ j -> i = j) {f : FuncId} {args : List V} {L : List (Nat × List V)} {ks : List Nat} {res : Res} {L1 : List (Nat × List V)} (h : Cm P f args (lk L) ks res (lk L1)) (hL : idsLt K L) (hL1 : idsLt K L1) (hks : ∀ i ∈ ks, i < K) :
   Cm P f (args.map (ren2 σ)) (lk (renL σ L)) (ks.map σ) (renR σ res) (lk (renL σ L1)) := by
 refine ⟨h.1, fun G W xs hGW hargs hpre => ?_⟩
 have hIn : ∀ i, i < K -> (InH (lk (renL σ L)) (σ i) ↔ InH (lk L) i) := fun i hi => by unfold InH; rw [lk_ren hinj hL hi]; simp
 have hIn1 : ∀ i, i < K -> (InH (lk (renL σ L1)) (σ i) ↔ InH (lk L1) i) := fun i hi => by unfold InH; rw [lk_ren hinj hL1 hi]; simp
 have hlent : ∀ b, lentB (G.cmp σ) (lk L) b -> lentB G (lk (renL σ L)) b := fun b ⟨i, hi, hp, he⟩ => ⟨σ i, (hIn i (lk_lt hL hi)).2 hi, hp, he⟩
 have hlent' : ∀ b, lentB G (lk (renL σ L)) b -> lentB (G.cmp σ) (lk L) b := fun b ⟨j, hj, hp, he⟩ => by
   obtain ⟨cs', hcs⟩ := Option.isSome_iff_exists.1 hj
   obtain ⟨i, cs, hi, rfl, h1, _⟩ := lk_ren_inv hinj hL hcs
   exact ⟨i, by unfold InH; rw [h1]; rfl, hp, he⟩
 have hpre' : PreH (G.cmp σ) W (lk L) ks := by
   refine ⟨fun i cs hi => HB_ren (hpre.hb (σ i) _ ?_), fun i j hi hj hpi hpj he => ?_, fun i hi => ?_⟩
   . rw [lk_ren hinj hL (lk_lt hL (by unfold InH; rw [hi]; rfl)), hi]; rfl
   . have li := lk_lt hL hi; have lj := lk_lt hL hj
     exact hinj i j li lj (hpre.inj _ _ ((hIn i li).2 hi) ((hIn j lj).2 hj) hpi hpj he)
   . obtain ⟨h1, h2⟩ := hpre.st (σ i) (List.mem_map.2 ⟨i, hi, rfl⟩)
     exact ⟨(hIn i (hks i hi)).1 h1, h2⟩
 refine (h.2 (G.cmp σ) W xs hGW (all_ren (fun v x => R2_ren) hargs) hpre').mono fun e W' ⟨G1, hp⟩ => ?_
 obtain ⟨τ, hτ⟩ : ∃ τ : Nat -> Nat, ∀ i, i < K -> τ (σ i) = i := by
   refine ⟨fun j => if hj : ∃ i, i < K /\ σ i = j then hj.choose else 0, fun i hi => ?_⟩
   have hj : ∃ i', i' < K /\ σ i' = σ i := ⟨i, hi, rfl⟩
   simp only [dif_pos hj]
   exact hinj _ _ hj.choose_spec.1 hi hj.choose_spec.2
 have hint : Into (InH (lk L1)) anyD σ G1 W' (G1.cmp τ) W' := ⟨fun i hi => by
   have := hτ i (lk_lt hL1 hi)
   simp only [Gh.cmp, this, and_self], fun _ _ _ h => h⟩
 refine ⟨G1.cmp τ, ⟨hp.os, hp.tape, hp.output, hp.drawn, hp.size, fun b hb hl => hp.block b hb (fun h => hl (hlent b h)), fun b hb => ?_, fun b hb => hp.im0 b hb, resRel.into hint hp.wf hp.rv, ?_, ?_, ?_, ?_⟩⟩
 . obtain ⟨h1, h2⟩ := hp.im b hb
   exact ⟨h1, h2.imp id (Or.imp id (hlent b))⟩
 . cases res with
   | ret r => exact AV.ren (fun i hi => (hIn1 i (lk_lt hL1 hi)).2 hi) hp.wf
   | pan r => exact AV.ren (fun i hi => (hIn1 i (lk_lt hL1 hi)).2 hi) hp.wf
 . intro j cs' hj
   obtain ⟨i, cs, hi, rfl, h1, rfl⟩ := lk_ren_inv hinj hL1 hj
   have hin : InH (lk L1) i := by unfold InH; rw [h1]; rfl
   obtain ⟨q1, q2, q3⟩ := hp.hb i cs h1
   refine ⟨hint.hb hin q3 q1 (fun hph => q1.nim hph), fun hph => ?_, fun c hc => ?_⟩
   . simp only [Gh.cmp, hτ i hi] at hph ⊢
     exact (q2 hph).imp id (hlent _)
   . obtain ⟨c0, hc0, rfl⟩ := List.mem_map.1 hc
     exact AC.ren (fun i hi => (hIn1 i (lk_lt hL1 hi)).2 hi) (q3 c0 hc0)
 . intro j j' hj hj' hpj hpj' he
   obtain ⟨x, hx⟩ := Option.isSome_iff_exists.1 hj
   obtain ⟨y, hy⟩ := Option.isSome_iff_exists.1 hj'
   obtain ⟨i, cs, hi, rfl, h1, _⟩ := lk_ren_inv hinj hL1 hx
   obtain ⟨i', cs', hi', rfl, h1', _⟩ := lk_ren_inv hinj hL1 hy
   simp only [Gh.cmp, hτ i hi, hτ i' hi'] at hpj hpj' he
   rw [hp.inj i i' (by unfold InH; rw [h1]; rfl) (by unfold InH; rw [h1']; rfl) hpj hpj' he]
 . intro j hj hin
   obtain ⟨i, hi, rfl⟩ := List.mem_map.1 hj
   have := hp.st i hi ((hIn1 i (hks i hi)).1 hin)
   simp only [Gh.cmp, hτ i (hks i hi)] at this ⊢
   exact this
theorem hiOk_at {ks : List Nat} {L1 : List (Nat × List V)} (hi : ∀ p ∈ L1, p.1 ∈ ks \/ p.1 < 1048576) {i : Nat} (h : InH (lk L1) i) (hn : i ∉ ks) : i < 1048576 := by
 obtain ⟨x, hx⟩ := Option.isSome_iff_exists.1 h
 rcases hi _ (lk_mem' hx) with h | h
 . exact absurd h hn
 . exact h
def wrL (ws : List (Nat × Nat)) (k b : Nat) (ks : List Nat) (L1 : List (Nat × List V)) : List (Nat × List V) -> Prop
 | [] => True
 | p :: r => ((k, p.1) ∈ ws \/ (p.1 ∈ ks /\ (lk L1 p.1).map (·.map (renC (sg ks b))) = some p.2)) /\ wrL ws k b ks L1 r
theorem wrL.at {ws : List (Nat × Nat)} {k b : Nat} {ks : List Nat} {L1 : List (Nat × List V)} : ∀ {L : List (Nat × List V)}, wrL ws k b ks L1 L -> ∀ i cs, lk L i = some cs -> (k, i) ∈ ws \/ (i ∈ ks /\ (lk L1 i).map (·.map (renC (sg ks b))) = some cs)
 | [], _, i, cs, h => by simp [lk] at h
 | p :: r, hw, i, cs, h => by
   simp only [lk] at h
   split at h
   . rename_i e; cases h; rw [e]; exact hw.1
   . exact hw.2.at i cs h
section
variable {P : Program} {Hr H : Hp} {b : Nat} {g : FuncId} {az : List V} {Kc Kx : V -> Hp -> Prop} {args : List V} {L : List (Nat × List V)} {ks : List Nat} {res : Res} {L1 : List (Nat × List V)}
end
end Go.Psl
namespace Go.Psl
variable {P : Program} {Γ : Tys} {eqs : Eqs} {E : Ent}
def rid (ks : List Nat) (i : Nat) : Option Nat := if i ∈ ks then some i else none
structure KeepOk (ks : List Nat) (L : List (Nat × List V)) : Prop where
 names : L.map (·.1) = ks
 nd : ks.Nodup
 cells : ∀ p ∈ L, p.2 ≠ [] /\ cellsOk p.2 /\ ∀ c ∈ p.2, WC (rid ks) c c
theorem rid_in {ks : List Nat} {i : Nat} (h : i ∈ ks) : rid ks i = some i := by simp [rid, h]
theorem lk_nd : ∀ {L : List (Nat × List V)}, (L.map (·.1)).Nodup -> ∀ p ∈ L, lk L p.1 = some p.2
 | [], _, p, hp => by simp at hp
 | q :: r, hn, p, hp => by
   simp only [List.map_cons, List.nodup_cons] at hn
   simp only [lk]
   rcases List.mem_cons.1 hp with rfl | hp
   . simp
   . have : p.1 ≠ q.1 := fun e => hn.1 (e ▸ List.mem_map.2 ⟨p, hp, rfl⟩)
     rw [if_neg this]
     exact lk_nd hn.2 p hp
section
variable {ks : List Nat} {L L1 : List (Nat × List V)}
theorem KeepOk.lk (h : KeepOk ks L) {p : Nat × List V} (hp : p ∈ L) : Go.Psl.lk L p.1 = some p.2 := lk_nd (by rw [h.names]; exact h.nd) p hp
theorem KeepOk.mem (h : KeepOk ks L) {p : Nat × List V} (hp : p ∈ L) : p.1 ∈ ks := by rw [<- h.names]; exact List.mem_map.2 ⟨p, hp, rfl⟩
theorem KeepOk.isIn (h : KeepOk ks L) {i : Nat} : (Go.Psl.lk L i).isSome = true ↔ i ∈ ks := by
 constructor
 . intro hi
   obtain ⟨x, hx⟩ := Option.isSome_iff_exists.1 hi
   exact h.mem (p := (i, x)) (lk_mem' hx)
 . intro hi
   rw [<- h.names] at hi
   obtain ⟨p, hp, rfl⟩ := List.mem_map.1 hi
   rw [h.lk hp]; rfl
theorem rid_some {i j : Nat} (h : rid ks i = some j) : i ∈ ks /\ j = i := by
 unfold rid at h; split at h
 . cases h; exact ⟨by assumption, rfl⟩
 . cases h
theorem W0_rid {c : V} (h : W0 (rid ks) c c) : A0 (· ∈ ks) anyD c /\ ∀ b, ren0 (sg ks b) c = c := by
 cases c with
 | junk => exact ⟨trivial, fun _ => rfl⟩
 | d x => exact ⟨trivial, fun _ => rfl⟩
 | lp i o =>
   obtain ⟨j, hj, _⟩ := h
   have hi := (rid_some hj).1
   exact ⟨hi, fun b => by simp [ren0, sg, hi]⟩
 | ls i o l z =>
   unfold W0 at h
   simp only at h
   split at h
   . rename_i j hj
     have hi := (rid_some hj).1
     exact ⟨hi, fun b => by simp [ren0, sg, hi]⟩
   . cases h.2
 | yl i =>
   obtain ⟨j, hj, _⟩ := h
   have hi := (rid_some hj).1
   exact ⟨hi, fun b => by simp [ren0, sg, hi]⟩
 | lr => exact False.elim h
 | cl f cs => exact ⟨trivial, fun _ => rfl⟩
 | agg cs => exact ⟨trivial, fun _ => rfl⟩
 | tup cs => exact ⟨trivial, fun _ => rfl⟩
theorem map_same {α : Type} {f : α -> α} : ∀ {l : List α}, (∀ x ∈ l, f x = x) -> l.map f = l
 | [], _ => rfl
 | a :: l, h => by rw [List.map_cons, h a (by simp), map_same fun x hx => h x (List.mem_cons_of_mem _ hx)]
theorem all2_same {α : Type} {R : α -> α -> Prop} : ∀ {l : List α}, All2 R l l -> ∀ x ∈ l, R x x
 | [], _, _, hx => by simp at hx
 | a :: l, h, x, hx => by
   rcases List.mem_cons.1 hx with rfl | hx
   . exact h.1
   . exact all2_same h.2 x hx
theorem all2_refl {α : Type} {R : α -> α -> Prop} : ∀ {l : List α}, (∀ x ∈ l, R x x) -> All2 R l l
 | [], _ => trivial
 | a :: l, h => ⟨h a (by simp), all2_refl fun x hx => h x (List.mem_cons_of_mem _ hx)⟩
theorem A0_ren {c : V} (h : A0 (· ∈ ks) anyD c) (b : Nat) : ren0 (sg ks b) c = c := by
 cases c <;> first | rfl | (have h2 : _ ∈ ks := h; simp [ren0, sg, h2]) | exact False.elim h
theorem A1_ren {c : V} (h : A1 (· ∈ ks) anyD c) (b : Nat) : ren1 (sg ks b) c = c := by
 cases c with
 | cl f cs => simp only [ren1]; rw [map_same fun x hx => A0_ren (h x hx) b]
 | junk => exact A0_ren (ks := ks) (c := .junk) h b
 | d x => exact A0_ren (ks := ks) (c := .d x) h b
 | lp i o => exact A0_ren (ks := ks) (c := .lp i o) h b
 | ls i o l z => exact A0_ren (ks := ks) (c := .ls i o l z) h b
 | yl i => exact A0_ren (ks := ks) (c := .yl i) h b
 | lr f n p pa pb j => exact A0_ren (ks := ks) (c := .lr f n p pa pb j) h b
 | agg cs => exact A0_ren (ks := ks) (c := .agg cs) h b
 | tup cs => exact A0_ren (ks := ks) (c := .tup cs) h b
theorem A2_ren {c : V} (h : A2 (· ∈ ks) anyD c) (b : Nat) : ren2 (sg ks b) c = c := by
 cases c with
 | agg cs => simp only [ren2]; rw [map_same fun x hx => A1_ren (h x hx) b]
 | junk => exact A1_ren (ks := ks) (c := .junk) h b
 | d x => exact A1_ren (ks := ks) (c := .d x) h b
 | lp i o => exact A1_ren (ks := ks) (c := .lp i o) h b
 | ls i o l z => exact A1_ren (ks := ks) (c := .ls i o l z) h b
 | yl i => exact A1_ren (ks := ks) (c := .yl i) h b
 | lr f n p pa pb j => exact A1_ren (ks := ks) (c := .lr f n p pa pb j) h b
 | cl f cs => exact A1_ren (ks := ks) (c := .cl f cs) h b
 | tup cs => exact A1_ren (ks := ks) (c := .tup cs) h b
theorem AV_ren {c : V} (h : AV (· ∈ ks) anyD c) (b : Nat) : ren (sg ks b) c = c := by
 cases c with
 | tup cs => simp only [ren]; rw [map_same fun x hx => A2_ren (h x hx) b]
 | junk => exact A2_ren (ks := ks) (c := .junk) h b
 | d x => exact A2_ren (ks := ks) (c := .d x) h b
 | lp i o => exact A2_ren (ks := ks) (c := .lp i o) h b
 | ls i o l z => exact A2_ren (ks := ks) (c := .ls i o l z) h b
 | yl i => exact A2_ren (ks := ks) (c := .yl i) h b
 | lr f n p pa pb j => exact A2_ren (ks := ks) (c := .lr f n p pa pb j) h b
 | cl f cs => exact A2_ren (ks := ks) (c := .cl f cs) h b
 | agg cs => exact A2_ren (ks := ks) (c := .agg cs) h b
theorem WC_rid {c : V} (h : WC (rid ks) c c) : AC (· ∈ ks) anyD c /\ ∀ b, renC (sg ks b) c = c := by
 cases c with
 | lr fr nt ps pa pb jmp =>
   have h2 : ∀ t, AV (· ∈ ks) anyD (fr t) := fun t => AV.mono (fun i hi => (rid_some hi).1) (fun _ h => h) (h.2 t)
   refine ⟨h2, fun b => ?_⟩
   simp only [renC]
   congr 1
   funext t; exact AV_ren (h2 t) b
 | cl f cs =>
   obtain ⟨cs', e, h2⟩ := h
   cases e
   have h3 := all2_same h2
   exact ⟨fun c hc => (W0_rid (h3 c hc)).1, fun b => by simp only [renC, ren1]; rw [map_same fun x hx => (W0_rid (h3 x hx)).2 b]⟩
 | junk => exact ⟨trivial, fun _ => rfl⟩
 | d x => exact ⟨trivial, fun _ => rfl⟩
 | lp i o => exact W0_rid (c := .lp i o) h
 | ls i o l z => exact W0_rid (c := .ls i o l z) h
 | yl i => exact W0_rid (c := .yl i) h
 | agg cs => exact False.elim h
 | tup cs => exact False.elim h
theorem KeepOk.ac (h : KeepOk ks L) {p : Nat × List V} (hp : p ∈ L) : ∀ c ∈ p.2, AC (· ∈ ks) anyD c := fun c hc => (WC_rid ((h.cells p hp).2.2 c hc)).1
theorem KeepOk.hp (h : KeepOk ks L) {H : Hp} (hH : ∀ i ∈ ks, H i = Go.Psl.lk L i) : HpOk (rid ks) H L := by
 have key : ∀ M : List (Nat × List V), (∀ p ∈ M, p ∈ L) -> HpOk (rid ks) H M := by
   intro M
   induction M with
   | nil => intro _; trivial
   | cons p r ih =>
     intro hM
     have hp := hM p (by simp)
     have hm := h.mem hp
     obtain ⟨c1, c2, c3⟩ := h.cells p hp
     refine ⟨?_, ih fun q hq => hM q (List.mem_cons_of_mem _ hq)⟩
     rw [rid_in hm]
     exact ⟨⟨p.2, by rw [hH _ hm, h.lk hp], all2_refl c3⟩, c2⟩
 exact key L fun _ h => h
theorem KeepOk.inj (h : KeepOk ks L) : RhoInj (rid ks) L := by
 have key : ∀ M : List (Nat × List V), (∀ p ∈ M, p ∈ L) -> RhoInj (rid ks) M := by
   intro M
   induction M with
   | nil => intro _; trivial
   | cons p r ih =>
     intro hM
     refine ⟨fun q hq => ?_, ih fun q hq => hM q (List.mem_cons_of_mem _ hq)⟩
     have h1 := h.mem (hM p (by simp))
     have h2 := h.mem (hM q (List.mem_cons_of_mem _ hq))
     rw [rid_in h1, rid_in h2]
     by_cases e : q.1 = p.1
     . exact Or.inr (Or.inr e)
     . exact Or.inr (Or.inl fun e' => e (Option.some.inj e'))
 exact key L fun _ h => h
theorem KeepOk.stab (_ : KeepOk ks L) {H : Hp} (hH : ∀ i ∈ ks, H i = Go.Psl.lk L i) : StabL (rid ks) H (Go.Psl.lk L) ks := by
 have key : ∀ M : List Nat, (∀ i ∈ M, i ∈ ks) -> StabL (rid ks) H (Go.Psl.lk L) M := by
   intro M
   induction M with
   | nil => intro _; trivial
   | cons i r ih =>
     intro hM
     have hi := hM i (by simp)
     exact ⟨fun hs => ⟨rid_in hi, by rw [hH i hi]; exact hs⟩, ih fun j hj => hM j (List.mem_cons_of_mem _ hj)⟩
 exact key ks fun _ h => h
theorem KeepOk.stabW (_ : KeepOk ks L) {H : Hp} (hH : ∀ i ∈ ks, H i = Go.Psl.lk L i) {n : Nat} (hn : ∀ i ∈ ks, i < n) : StabW (rid ks) H (Go.Psl.lk L) n ks := by
 have key : ∀ M : List Nat, (∀ i ∈ M, i ∈ ks) -> StabW (rid ks) H (Go.Psl.lk L) n M := by
   intro M
   induction M with
   | nil => intro _; trivial
   | cons i r ih =>
     intro hM
     have hi := hM i (by simp)
     exact ⟨hn i hi, fun hs => ⟨rid_in hi, by rw [hH i hi]; exact hs⟩, ih fun j hj => hM j (List.mem_cons_of_mem _ hj)⟩
 exact key ks fun _ h => h
theorem KeepOk.ids (h : KeepOk ks L) {n : Nat} (hn : ∀ i ∈ ks, i < n) : HpIds n L := by
 have key : ∀ M : List (Nat × List V), (∀ p ∈ M, p ∈ L) -> HpIds n M := by
   intro M
   induction M with
   | nil => intro _; trivial
   | cons p r ih =>
     intro hM
     have hp := hM p (by simp)
     exact ⟨hn _ (h.mem hp), fun c hc => AC.mono hn (fun _ h => h) (h.ac hp c hc), ih fun q hq => hM q (List.mem_cons_of_mem _ hq)⟩
 exact key L fun _ h => h
theorem KeepOk.res (h : KeepOk ks L) : ∀ p ∈ L, ∀ c ∈ p.2, AC (InB L) anyD c := fun _ hp c hc => AC.mono (fun _ hi => h.isIn.2 hi) (fun _ h => h) (h.ac hp c hc)
theorem Weak.keep {st : St} (hs : ∀ i, E.stab i ↔ i ∈ ks) (h : KeepOk ks L) (hH : ∀ i ∈ ks, st.H i = Go.Psl.lk L i) {n : Nat} (hn : ∀ i ∈ ks, i < n) (l : List (Nat × V)) (h1 : SlotsOk (rid ks) st.fr l) (h4 : SlotsIds n l) : Weak P E st ⟨slots l, Go.Psl.lk L, n⟩ :=
 Weak.mkM hs (rid ks) l L n h1 (h.hp hH) h.inj h4 (h.ids hn) (h.stabW hH hn)
theorem heapM_keep {H : Hp} {b : Nat} (hL : KeepOk ks L) (hL1 : KeepOk ks L1) : heapM H b (Go.Psl.lk L) ks (Go.Psl.lk L1) = fun i => if i ∈ ks then Go.Psl.lk L1 i else H i := by
 funext i
 unfold heapM
 by_cases hi : i ∈ ks
 . simp only [hi, if_true]
   have h1 := hL1.isIn.2 hi
   obtain ⟨x, hx⟩ := Option.isSome_iff_exists.1 h1
   rw [hx]
   have hm := hL1.cells (i, x) (lk_mem' hx)
   simp only [Option.map_some]
   rw [map_same fun c hc => (WC_rid (hm.2.2 c hc)).2 b]
 . simp only [hi, if_false]
   have h2 : (Go.Psl.lk L i).isSome = false := by
     cases hc : (Go.Psl.lk L i).isSome with
     | false => rfl
     | true => exact absurd (hL.isIn.1 hc) hi
   rw [h2]
   simp only [Bool.false_eq_true, if_false]
   split
   . split
     . rfl
     . rename_i hn
       have h3 : Go.Psl.lk L1 (i - b) = none := by
         cases hc : Go.Psl.lk L1 (i - b) with
         | none => rfl
         | some x => exact absurd (hL1.isIn.1 (by rw [hc]; rfl)) hn
       rw [h3]
   . rfl
theorem callB_keep {H : Hp} {av args : List V} {res : Res} (hL : KeepOk ks L) (hL1 : KeepOk ks L1) (hH : ∀ i ∈ ks, H i = Go.Psl.lk L i) (hb : All2 (Bor noH) av args) : CallB H av args (Go.Psl.lk L) ks res (Go.Psl.lk L1) :=
 ⟨fun i cs h => by rw [hH i (hL.isIn.1 (by rw [h]; rfl)), h], fun i h hn => absurd (hL1.isIn.1 h) hn, fun i hi => by
   obtain ⟨x, hx⟩ := Option.isSome_iff_exists.1 (hL.isIn.2 hi)
   exact ⟨x, hx, (hL.cells (i, x) (lk_mem' hx)).1⟩, Or.inl hb⟩
theorem AYield.keep {H : Hp} {b k : Nat} {av : List V} {Kc Kx : V -> Hp -> Prop} (args : List V) (L L1 : List (Nat × List V)) (ks : List Nat) (r : D) (hf : Ym P k args (Go.Psl.lk L) ks (.ret (.d r)) (Go.Psl.lk L1)) (hL : KeepOk ks L) (hL1 : KeepOk ks L1)
   (hrec : ∃ fr nt ps pa pb jmp, Go.Psl.lk L k = some [.lr fr nt ps pa pb jmp] /\ ps.length = args.length) (hH : ∀ i ∈ ks, H i = Go.Psl.lk L i) (hb : All2 (Bor noH) av args) (hk : Kc (.d r) (fun i => if i ∈ ks then Go.Psl.lk L1 i else H i)) : AYield P none H H b k av Kc Kx :=
 ⟨rfl, args, Go.Psl.lk L, ks, .ret (.d r), Go.Psl.lk L1, _, ⟨hf, hrec, callB_keep hL hL1 hH hb⟩, (heapM_keep hL hL1).symm, hk⟩
theorem ACall.keep {H : Hp} {b : Nat} {g : FuncId} {av : List V} {Kc Kx : V -> Hp -> Prop} (args : List V) (L L1 : List (Nat × List V)) (ks : List Nat) (r : V) (hf : Cm P g args (Go.Psl.lk L) ks (.ret r) (Go.Psl.lk L1)) (hL : KeepOk ks L) (hL1 : KeepOk ks L1) (hr : AV (· ∈ ks) anyD r)
   (hH : ∀ i ∈ ks, H i = Go.Psl.lk L i) (hb : All2 (Bor noH) av args) (hk : Kc r (fun i => if i ∈ ks then Go.Psl.lk L1 i else H i)) : ACall P none H H b g av Kc Kx :=
 ⟨args, Go.Psl.lk L, ks, .ret r, Go.Psl.lk L1, _, ⟨hf, callB_keep hL hL1 hH hb⟩, trivial, (heapM_keep hL hL1).symm, by show Kc (ren (sg ks b) r) _; rw [AV_ren hr]; exact hk⟩
theorem RetM.keep {fn : Func} {st : St} (hn : fn.results = #[]) (h : KeepOk ks L) (hH : ∀ i ∈ ks, st.H i = Go.Psl.lk L i) : RetM Γ fn ks (.tup []) L st :=
 ⟨[], rid ks, by rw [hn]; rfl, rfl, by simp, h.hp hH, h.inj, h.stab hH⟩
theorem PRange.keepN {fo : Operand} {ps : List Nat} {pa pb : PC} {Q : AExit -> St -> Prop} {f : Nat -> V} {H : Hp} {n : Nat} {g : FuncId} {caps : List V} (L L1 : List (Nat × List V)) (ks : List Nat) (r : V) (jmp : LSt) (h0 : E.rqN H /\ E.nt ≠ panN) (hg : calleeOf (evF f fo) = some (g, caps))
   (hf : Cm P g (.yl n :: caps) (Go.Psl.lk ((n, [.lr f E.nt ps pa pb .ready]) :: L)) (n :: ks) (.ret r) (Go.Psl.lk ((n, [.lr f E.nt ps pa pb jmp]) :: L1)))
   (hL : KeepOk (n :: ks) ((n, [.lr f E.nt ps pa pb .ready]) :: L)) (hL1 : KeepOk (n :: ks) ((n, [.lr f E.nt ps pa pb jmp]) :: L1)) (hH : ∀ i ∈ ks, H i = Go.Psl.lk L i) (hb : All2 (Bor noH) caps caps)
   (hq : jumpQ Q ⟨f, fun i => if i = n then none else if i ∈ ks then Go.Psl.lk L1 i else H i, n + 2097152⟩ jmp) : PW P Γ eqs E (.rangeF fo ps pa pb) Q ⟨f, H, n⟩ := by
 have hH' : ∀ i ∈ n :: ks, upd H n (some [.lr f E.nt ps pa pb .ready]) i = Go.Psl.lk ((n, [.lr f E.nt ps pa pb .ready]) :: L) i := fun i hi => by
   simp only [upd_at, Go.Psl.lk]
   by_cases e : i = n
   . simp [e]
   . simp only [e, if_false]
     rcases List.mem_cons.1 hi with h | h
     . exact absurd h e
     . exact hH i h
 refine ⟨h0, g, caps, .yl n :: caps, _, n :: ks, .ret r, _, hg, ⟨hf, callB_keep hL hL1 hH' ⟨rfl, hb⟩⟩, by simp, jmp, by simp [Go.Psl.lk], ?_⟩
 have e : upd (heapM (upd H n (some [.lr f E.nt ps pa pb .ready])) (n + 1048576) (Go.Psl.lk ((n, [.lr f E.nt ps pa pb .ready]) :: L)) (n :: ks) (Go.Psl.lk ((n, [.lr f E.nt ps pa pb jmp]) :: L1))) n none = fun i => if i = n then none else if i ∈ ks then Go.Psl.lk L1 i else H i := by
   rw [heapM_keep hL hL1]
   funext i
   simp only [upd_at]
   by_cases h : i = n
   . simp [h]
   . simp [h, Go.Psl.lk]
 show jumpQ Q ⟨f, upd (heapM _ _ _ _ _) n none, n + 2097152⟩ jmp
 rw [e]; exact hq
theorem PRange.keep {fo : Operand} {ps : List Nat} {pa pb : PC} {Q : AExit -> St -> Prop} {f : Nat -> V} {H : Hp} {n : Nat} {g : FuncId} {caps : List V} (L L1 : List (Nat × List V)) (ks : List Nat) (r : V) (jmp : LSt) (h0 : E.rq /\ E.nt ≠ panN) (hg : calleeOf (evF f fo) = some (g, caps))
   (hf : Cm P g (.yl n :: caps) (Go.Psl.lk ((n, [.lr f E.nt ps pa pb .ready]) :: L)) (n :: ks) (.ret r) (Go.Psl.lk ((n, [.lr f E.nt ps pa pb jmp]) :: L1)))
   (hL : KeepOk (n :: ks) ((n, [.lr f E.nt ps pa pb .ready]) :: L)) (hL1 : KeepOk (n :: ks) ((n, [.lr f E.nt ps pa pb jmp]) :: L1)) (hH : ∀ i ∈ ks, H i = Go.Psl.lk L i) (hb : All2 (Bor noH) caps caps)
   (hq : jumpQ Q ⟨f, fun i => if i = n then none else if i ∈ ks then Go.Psl.lk L1 i else H i, n + 2097152⟩ jmp) : PW P Γ eqs E (.rangeF fo ps pa pb) Q ⟨f, H, n⟩ :=
 PRange.keepN L L1 ks r jmp ⟨.inl h0.1, h0.2⟩ hg hf hL hL1 hH hb hq
theorem RndM.keep {k : Nat} {rc : LSt -> V} {s : LSt} {st : St} (h : KeepOk ks L) (hb : st.H k = some [rc .busy]) (hH : ∀ i ∈ ks, upd st.H k (some [rc s]) i = Go.Psl.lk L i) : RndM k rc s ks L st :=
 ⟨hb, rid ks, h.hp hH, h.inj, h.stab hH⟩
end
end Go.Psl
namespace Go.Psl
variable {P : Program} {Γ : Tys} {eqs : Eqs} {E : Ent}
def CX (ks xs : List Nat) (c : V) : Prop := match c with
 | .lr fr _ _ _ _ _ => ∀ t, AV (· ∈ ks) anyD (fr t)
 | c => W1 (rid (ks ++ xs)) c c
structure KeepX (ks xs : List Nat) (L : List (Nat × List V)) : Prop where
 names : L.map (·.1) = ks ++ xs
 nd : (ks ++ xs).Nodup
 cells : ∀ p ∈ L, p.2 ≠ [] /\ cellsOk p.2 /\ ∀ c ∈ p.2, CX ks xs c
section
variable {ks xs xs1 : List Nat} {L L1 : List (Nat × List V)}
theorem KeepX.lk (h : KeepX ks xs L) {p : Nat × List V} (hp : p ∈ L) : Go.Psl.lk L p.1 = some p.2 := lk_nd (by rw [h.names]; exact h.nd) p hp
theorem KeepX.mem (h : KeepX ks xs L) {p : Nat × List V} (hp : p ∈ L) : p.1 ∈ ks ++ xs := by rw [<- h.names]; exact List.mem_map.2 ⟨p, hp, rfl⟩
theorem KeepX.isIn (h : KeepX ks xs L) {i : Nat} : (Go.Psl.lk L i).isSome = true ↔ i ∈ ks ++ xs := by
 constructor
 . intro hi
   obtain ⟨x, hx⟩ := Option.isSome_iff_exists.1 hi
   exact h.mem (p := (i, x)) (lk_mem' hx)
 . intro hi
   rw [<- h.names] at hi
   obtain ⟨p, hp, rfl⟩ := List.mem_map.1 hi
   rw [h.lk hp]; rfl
theorem W1_rid {c : V} (h : W1 (rid ks) c c) : A1 (· ∈ ks) anyD c := by
 cases c with
 | cl f cs =>
   obtain ⟨cs', e, h2⟩ := h
   cases e
   exact fun c hc => (W0_rid (all2_same h2 c hc)).1
 | junk => exact trivial
 | d x => exact trivial
 | lp i o => exact (W0_rid (c := .lp i o) h).1
 | ls i o l z => exact (W0_rid (c := .ls i o l z) h).1
 | yl i => exact (W0_rid (c := .yl i) h).1
 | lr => exact False.elim h
 | agg cs => exact False.elim h
 | tup cs => exact False.elim h
theorem CX_ac {c : V} (h : CX ks xs c) : AC (· ∈ ks ++ xs) anyD c := by
 cases c with
 | lr fr nt ps pa pb jmp => exact fun t => AV.mono (fun i hi => List.mem_append_left _ hi) (fun _ h => h) (h t)
 | cl f cs => exact W1_rid (c := .cl f cs) h
 | junk => exact trivial
 | d x => exact trivial
 | lp i o => exact W1_rid (c := .lp i o) h
 | ls i o l z => exact W1_rid (c := .ls i o l z) h
 | yl i => exact W1_rid (c := .yl i) h
 | agg cs => exact False.elim h
 | tup cs => exact False.elim h
theorem KeepX.ids (h : KeepX ks xs L) {n : Nat} (hn : ∀ i ∈ ks ++ xs, i < n) : HpIds n L := by
 have key : ∀ M : List (Nat × List V), (∀ p ∈ M, p ∈ L) -> HpIds n M := by
   intro M
   induction M with
   | nil => intro _; trivial
   | cons p r ih =>
     intro hM
     have hp := hM p (by simp)
     exact ⟨hn _ (h.mem hp), fun c hc => AC.mono hn (fun _ h => h) (CX_ac ((h.cells p hp).2.2 c hc)), ih fun q hq => hM q (List.mem_cons_of_mem _ hq)⟩
 exact key L fun _ h => h
theorem KeepX.res (h : KeepX ks xs L) : ∀ p ∈ L, ∀ c ∈ p.2, AC (InB L) anyD c := fun p hp c hc => AC.mono (fun _ hi => h.isIn.2 hi) (fun _ h => h) (CX_ac ((h.cells p hp).2.2 c hc))
theorem CX_rid {c : V} (h : CX ks xs c) : WC (rid (ks ++ xs)) c c := by
 cases c with
 | lr fr nt ps pa pb jmp => exact ⟨rfl, fun t => AV.mono (fun i hi => rid_in (List.mem_append_left _ hi)) (fun _ h => h) (h t)⟩
 | cl f cs => exact h
 | junk => exact h
 | d x => exact h
 | lp i o => exact h
 | ls i o l z => exact h
 | yl i => exact h
 | agg cs => exact h
 | tup cs => exact h
theorem KeepX.same (h : KeepX ks xs L) : KeepOk (ks ++ xs) L := ⟨h.names, h.nd, fun p hp => ⟨(h.cells p hp).1, (h.cells p hp).2.1, fun c hc => CX_rid ((h.cells p hp).2.2 c hc)⟩⟩
end
end Go.Psl
namespace Go.Psl
variable {P : Program} {Γ : Tys} {eqs : Eqs} {K : RK} {Kx : V -> RK} {b n : Nat} {r : List PO} {f : Nat -> V} {H : Hp} {dst : Option Nat}
def panK (Kx : V -> RK) (f : Nat -> V) (H : Hp) (n : Nat) : V -> Prop
 | .d (.ifc t ag cs) => Kx (.d (.ifc t ag cs)) f H n
 | _ => False
theorem panK_ifc {t : TypeId} {ag : Bool} {cs : List D} : panK Kx f H n (.d (.ifc t ag cs)) = Kx (.d (.ifc t ag cs)) f H n := nrfl rfl
theorem rr_pan {x : Operand} : rr P Γ eqs Kx K b (⟨dst, .panic x, none⟩ :: r) f H = panK Kx f H (b + 1048576) (evF f x) := by
 simp only [rr, runR, PO.run, gV2, stepC, evalOp, true_and]
 unfold panK
 split
 . rename_i t ag cs h; rw [h]; simp
 . rename_i h
   simp only [eq_iff_iff, iff_false, not_and]
   rintro ⟨t, ag, cs, e⟩
   exact absurd e (h t ag cs)
attribute [simp] rr_pan panK_ifc xQ_eq
end Go.Psl
namespace Go
variable {P : Program}
def roundPostP (P : Program) (l : Nat) (R : Ending -> World -> Prop) : Exit -> Act -> World -> Prop
 | .panic ch, a, w => a.defers = [] /\ R (.panicked ch) w
 | e, a, w => roundPost P l R e a w
theorem roundIn_of_wpInP {F : Fence} {n : Nat} {l : Nat} {f : FuncId} {fn : Func} {tmps : Array Value} {assign body : Code} {w : World} {R : Ending -> World -> Prop} (hF : F.fn f) (hf : P.funcs[f]? = some fn)
   (h : assign.wpIn (F.inRound l) n P (Exit.then (fun a₁ w₁ => ∃ w₂, (Instr.beginRound l).run P w₁ = .ok () w₂ /\ body.wpIn (F.inRound l) n P (roundPostP P l R) a₁ w₂) (fun _ _ _ => False))
     { tmps := tmps, defers := [] } w) :
   RoundIn F n P l f tmps assign body w R := by
 refine ⟨hF, fun c cs hr => ?_⟩
 let b : Frame := { (default : Frame) with fn := f, kind := .normal, roundOf := some l }
 have hb0 : Frame.round l f tmps assign body .normal = b.atR { tmps := tmps, defers := [] } [.code assign, .beginRound, .code body] := by
   simp [Frame.round, Frame.atR, b]
 have hr' : (F.inRound l).room ((c :: cs).length + 1 + n) := hr
 have hF' : (F.inRound l).fn b.fn := hF
 obtain ⟨e, a₁, w₁, hq, harr⟩ := h b [.beginRound, .code body] (c :: cs) rfl hF' hr'
 rw [<- hb0] at harr
 cases e with
 | normal =>
   obtain ⟨w₂, hbr, hbody⟩ := hq
   have s1 : StepsIn (Machine.fenced P (F.inRound l)) P (lone (b.atR a₁ [.beginRound, .code body]) (c :: cs) w₁) (lone (b.atR a₁ [.code body]) (c :: cs) w₂) :=
     .one (fenced_calm (fr := b.atR a₁ [.beginRound, .code body]) hF' hr' rfl) (stepR_beginRound rfl hbr)
   obtain ⟨e₂, a₂, w₃, hq₂, harr₂⟩ := hbody b [] (c :: cs) rfl hF' hr'
   cases e₂ with
   | normal =>
     obtain ⟨v, w₄, hend, hR⟩ := hq₂
     exact ⟨.returned v, w₄, hR, (StepsIn.trans harr s1).trans (StepsIn.trans harr₂ (.one (fenced_calm (fr := b.atR a₂ []) hF' hr' rfl) (stepR_round_end rfl rfl hend)))⟩
   | ret =>
     obtain ⟨v, w₄, hend, hR⟩ := hq₂
     obtain ⟨k₁, hs⟩ := harr₂.2 rfl
     exact ⟨.returned v, w₄, hR, (StepsIn.trans harr s1).trans (StepsIn.trans hs (.one (fenced_calm (fr := b.atR a₂ (.code .ret :: k₁)) hF' hr' rfl) (stepR_round_ret rfl rfl hend)))⟩
   | exit id =>
     obtain ⟨v, w₄, hend, hR⟩ := hq₂
     obtain ⟨k₁, hk, hs⟩ := harr₂.2 rfl rfl
     exact ⟨.returned v, w₄, hR, (StepsIn.trans harr s1).trans (StepsIn.trans hs (.one (fenced_calm (fr := b.atR a₂ (.code (.exit id) :: k₁)) hF' hr' rfl) (stepR_round_exit rfl rfl hk hend)))⟩
   | goto t =>
     obtain ⟨v, w₄, hend, hR⟩ := hq₂
     obtain ⟨k₁, hk, hs⟩ := harr₂.2 rfl rfl
     exact ⟨.returned v, w₄, hR, (StepsIn.trans harr s1).trans (StepsIn.trans hs (.one (fenced_calm (fr := b.atR a₂ (.code (.goto t) :: k₁)) hF' hr' rfl) (stepR_round_goto rfl rfl hk hend)))⟩
   | panic chain =>
     obtain ⟨hd, hR⟩ := hq₂
     obtain ⟨todo, hs⟩ := harr₂
     have hl : Frame.leaving P { b.atR a₂ todo with mode := .panicking chain } w₃ (.panicked chain) := ⟨rfl, hd, fn, hf⟩
     exact ⟨.panicked chain, w₃, hR, (StepsIn.trans harr s1).trans (StepsIn.trans hs (.one (fenced_leaving hF' hr' hl) (step_leave_panicked hl)))⟩
   | outgrown => exact hq₂.elim
 | exit id => exact hq.elim
 | goto t => exact hq.elim
 | ret => exact hq.elim
 | panic chain => exact hq.elim
 | outgrown => exact hq.elim
end Go
namespace Go.Psl
variable {P : Program} {Γ : Tys} {eqs : Eqs} {E : Ent} {f0 : FuncId}
def wpAt (f0 : FuncId) (rd : Option Nat) (P : Program) (c : Code) (Q : Exit -> Act -> World -> Prop) (a : Act) (w : World) : Prop :=
 ∀ (b : Frame) (k : List Item) (cs : List Frame), b.roundOf = rd -> b.fn = f0 -> ∃ e a' w', Q e a' w' /\ ArrivesIn (Machine.fenced P Fence.wide) P (lone (b.atR a (.code c :: k)) cs w) b k cs e a' w'
theorem room_any {rd : Option Nat} (n : Nat) : ({ Fence.wide with round := rd } : Fence).room n := fun d h => by cases h
theorem wpAt.of {rd : Option Nat} {c : Code} {Q : Exit -> Act -> World -> Prop} {a : Act} {w : World} (h : c.wpIn { Fence.wide with round := rd } 0 P Q a w) : wpAt f0 rd P c Q a w :=
 fun b k cs hro _ => h b k cs hro trivial (room_any _)
theorem wpAt.mono {rd : Option Nat} {c : Code} {Q Q' : Exit -> Act -> World -> Prop} {a : Act} {w : World} (h : wpAt f0 rd P c Q a w) (hq : ∀ e a w, Q e a w -> Q' e a w) : wpAt f0 rd P c Q' a w :=
 fun b k cs hro hb => let ⟨e, a', w', q, r⟩ := h b k cs hro hb; ⟨e, a', w', hq _ _ _ q, r⟩
theorem wpAt.seq {rd : Option Nat} {x y : Code} {Q : Exit -> Act -> World -> Prop} {a : Act} {w : World} (h : wpAt f0 rd P x (Exit.then (fun a w => wpAt f0 rd P y Q a w) Q) a w) : wpAt f0 rd P (Code.seq x y) Q a w := by
 intro b k cs hro hb
 have h0 : (lone (b.atR a (.code (.seq x y) :: k)) cs w).fenced P Fence.wide := fenced_wide _ _
 obtain ⟨e, a₁, w₁, hq, harr⟩ := h b (.code y :: k) cs hro hb
 cases e with
 | normal =>
   obtain ⟨e₂, a₂, w₂, hq₂, harr₂⟩ := hq b k cs hro hb
   exact ⟨e₂, a₂, w₂, hq₂, .of_steps (.head h0 stepR_seq harr) harr₂⟩
 | exit id => exact ⟨_, a₁, w₁, hq, .of_steps (.one h0 stepR_seq) (.pass (x := .code y) rfl (fun _ _ => .inl (by simp)) harr)⟩
 | goto l => exact ⟨_, a₁, w₁, hq, .of_steps (.one h0 stepR_seq) (.pass (x := .code y) rfl (fun _ _ => .inl (by simp)) harr)⟩
 | ret => exact ⟨_, a₁, w₁, hq, .of_steps (.one h0 stepR_seq) (.pass (x := .code y) rfl (fun _ _ => .inl (by simp)) harr)⟩
 | panic ch => exact ⟨_, a₁, w₁, hq, .of_steps (.one h0 stepR_seq) (.pass (x := .code y) rfl (fun _ _ => .inl (by simp)) harr)⟩
 | outgrown => exact ⟨_, a₁, w₁, hq, .of_steps (.one h0 stepR_seq) (.pass (x := .code y) rfl (fun _ _ => .inl (by simp)) harr)⟩
theorem wpAt.block {rd : Option Nat} {id : Nat} {c : Code} {Q : Exit -> Act -> World -> Prop} {a : Act} {w : World} (h : wpAt f0 rd P c (Exit.inBlock id Q) a w) : wpAt f0 rd P (Code.block id c) Q a w := by
 intro b k cs hro hb
 have h0 : (lone (b.atR a (.code (.block id c) :: k)) cs w).fenced P Fence.wide := fenced_wide _ _
 obtain ⟨e, a₁, w₁, hq, harr⟩ := h b (.inBlock id :: k) cs hro hb
 cases e with
 | normal => exact ⟨.normal, a₁, w₁, hq, .head h0 stepR_block (StepsIn.trans harr (.one (fenced_wide _ _) stepR_inBlock))⟩
 | exit id' =>
   by_cases hid : id' = id
   . simp only [Exit.inBlock, hid, if_true] at hq
     exact ⟨.normal, a₁, w₁, hq, .head h0 stepR_block (harr.1 k (by simp [exitTo, hid]))⟩
   . simp only [Exit.inBlock, hid, if_false] at hq
     have this : (id == id') = false := by simp; exact fun h => hid h.symm
     have hx : exitTo id' (.inBlock id :: k) = exitTo id' k := by simp [exitTo, this]
     exact ⟨.exit id', a₁, w₁, hq, fun k' hk => .head h0 stepR_block (harr.1 k' (by rw [hx]; exact hk)),
       fun hr' hk => let ⟨k₁, h1, h2⟩ := harr.2 hr' (by rw [hx]; exact hk); ⟨k₁, h1, .head h0 stepR_block h2⟩⟩
 | goto l =>
   have hx : gotoIn l (.inBlock id :: k) = gotoIn l k := by simp [gotoIn]
   exact ⟨_, a₁, w₁, hq, fun k' hk => .head h0 stepR_block (harr.1 k' (by rw [hx]; exact hk)),
     fun hr' hk => let ⟨k₁, h1, h2⟩ := harr.2 hr' (by rw [hx]; exact hk); ⟨k₁, h1, .head h0 stepR_block h2⟩⟩
 | ret => exact ⟨_, a₁, w₁, hq, .of_steps (.one h0 stepR_block) harr⟩
 | panic ch => exact ⟨_, a₁, w₁, hq, .of_steps (.one h0 stepR_block) harr⟩
 | outgrown => exact ⟨_, a₁, w₁, hq, .of_steps (.one h0 stepR_block) harr⟩
theorem wpAt.rangeFunc {g : Operand} {ps : Array Tmp} {assign body : Code} {Q : Exit -> Act -> World -> Prop} {a : Act} {w : World}
   (h : ∃ (l : Nat) (mark : List Deferred) (w₁ : World) (d : Deferred) (w₁' : World) (f : FuncId) (args : Array Value) (w₂ : World),
     (Instr.enterLoop f0 a.tmps ps assign body none).run P w = .ok (l, mark) w₁ /\
     (resolve a.eval (rangeCall g l) 0).run P w₁ = .ok d w₁' /\
     (invoke d.target d.args).run P w₁' = .ok (.enter f args) w₂ /\
     CallsIn Fence.wide 0 P f args w₂ (rangePost Fence.wide 0 P l Q { a with defers := mark ++ a.defers })) :
   wpAt f0 none P (Code.rangeFunc g ps assign body) Q a w := by
 intro b k cs hro hb
 obtain ⟨l, mark, w₁, d, w₁', f, args, w₂, he, hres, hinv, hF, hcall⟩ := h
 rw [<- hro, <- hb] at he
 have h0 : (lone (b.atR a (.code (.rangeFunc g ps assign body) :: k)) cs w).fenced P Fence.wide := fenced_wide _ _
 have henter := stepR_rangeFunc (P := P) (b := b) (a := a) (k := k) (cs := cs) (w := w) he hres hinv
 obtain ⟨e, w₃, fr, hR, hsteps, hfn, hleave⟩ := hcall (b.atR { a with defers := mark ++ a.defers } (.inRangeFunc l :: k) :: cs) (room_wide _)
 cases e with
 | outgrown =>
   obtain ⟨a₀, w₀, hq⟩ := hR
   exact ⟨.outgrown, a₀, w₀, hq, .inr (Outgrown.of_steps (.one henter) hsteps)⟩
 | returned v =>
   have hl : (lone fr (b.atR { a with defers := mark ++ a.defers } (.inRangeFunc l :: k) :: cs) w₃).fenced P Fence.wide := fenced_wide _ _
   obtain ⟨jump, w₄, hend, hj⟩ := hR
   have sback : StepsIn (Machine.fenced P Fence.wide) P (lone (b.atR a (.code (.rangeFunc g ps assign body) :: k)) cs w) (lone (b.atR { a with defers := mark ++ a.defers } ((jump.map Item.code).toList ++ k)) cs w₄) := by
     refine .head h0 henter (StepsIn.trans hsteps (.head hl ?_ (.one (fenced_wide _ _) (stepR_endRangeFunc hend))))
     rw [<- finish_atR_inRangeFunc l v]; exact step_leave_returned hleave
   cases jump with
   | none => exact ⟨.normal, _, w₄, hj, sback⟩
   | some c =>
     obtain ⟨e', a'', w₅, hq, harr⟩ := hj b k cs hro trivial (room_wide _)
     exact ⟨e', a'', w₅, hq, .of_steps sback harr⟩
 | panicked chain =>
   have hl : (lone fr (b.atR { a with defers := mark ++ a.defers } (.inRangeFunc l :: k) :: cs) w₃).fenced P Fence.wide := fenced_wide _ _
   refine ⟨.panic chain, _, w₃, hR, .inRangeFunc l :: k, .head h0 henter (StepsIn.trans hsteps (.one hl ?_))⟩
   rw [<- Frame.raise_atR]; exact step_leave_panicked hleave
theorem callsIn_of_at {f : FuncId} {fn : Func} {c : Code} {args : Array Value} {w : World} {R : Ending -> World -> Prop}
   (hf : P.funcs[f]? = some fn) (hb : fn.body = some c)
   (h : wpAt f none P c (bodyPostM Fence.wide 0 P fn R) { tmps := args ++ Array.replicate (fn.ntmps - args.size) undef, defers := [] } w) : CallsIn Fence.wide 0 P f args w R := by
 refine ⟨trivial, fun cs hr => ?_⟩
 let b : Frame := { (default : Frame) with fn := f, kind := .normal, roundOf := none }
 have henter : Frame.enter P f args .normal =
     b.atR { tmps := args ++ Array.replicate (fn.ntmps - args.size) undef, defers := [] } [.code c] := by
   simp [Frame.enter, Frame.atR, hf, hb, b]
 obtain ⟨e, a', w', hq, harr⟩ := h b [] cs rfl rfl
 rw [<- henter] at harr
 cases e with
 | normal =>
   obtain ⟨e', w'', fr', hR, hs, hfn, hl⟩ := leaves_stepsInM (F := Fence.wide) (n := 0) a'.defers .returning w' { b.atR a' [] with mode := .returning } cs rfl rfl rfl hf rfl trivial hr hq
   exact ⟨e', w'', fr', hR, ComesIn.of_steps (StepsIn.trans harr (.one (fenced_wide _ _) (stepR_end rfl))) hs, hfn, hl⟩
 | ret =>
   obtain ⟨todo, hs₀⟩ := harr.1 rfl
   obtain ⟨e', w'', fr', hR, hs, hfn, hl⟩ := leaves_stepsInM (F := Fence.wide) (n := 0) a'.defers .returning w' { b.atR a' todo with mode := .returning } cs rfl rfl rfl hf rfl trivial hr hq
   exact ⟨e', w'', fr', hR, ComesIn.of_steps hs₀ hs, hfn, hl⟩
 | panic chain =>
   obtain ⟨todo, hs₀⟩ := harr
   obtain ⟨e', w'', fr', hR, hs, hfn, hl⟩ := leaves_stepsInM (F := Fence.wide) (n := 0) a'.defers (.panicking chain) w' { b.atR a' todo with mode := .panicking chain } cs rfl rfl rfl hf rfl trivial hr hq
   exact ⟨e', w'', fr', hR, ComesIn.of_steps hs₀ hs, hfn, hl⟩
 | exit id => exact hq.elim
 | goto l => exact hq.elim
 | outgrown => exact ⟨.outgrown, w', b, hq, harr.resolve_left (by simp [b]), rfl, trivial⟩
def PWf (P : Program) (E : Ent) (f0 : FuncId) (p : PC) (Q : AExit -> St -> Prop) (st : St) : Prop :=
 ∀ c, comp E.nt c = some p -> ∀ G a W, Inv E (· < st.nx) G st a W -> wpAt f0 E.rd P c (fun e a' W' => ∃ x st' G', Inv E (· < st'.nx) G' st' a' W' /\ exRel G' W' x e /\ exOk (· < st'.nx) x /\ Q x st') a W
theorem PWf.of (hΓ : GOk P Γ) (hE : EqOk P eqs) (hm : P.follows .mixedOrders = true) {p : PC} {Q : AExit -> St -> Prop} {st : St} (h : PW P Γ eqs E p Q st) : PWf P E f0 p Q st :=
 fun c hc G a W hI => wpAt.of (PW.sound hΓ hE hm c p hc Q st h G a W hI)
theorem PWf.seq {x y : PC} {Q : AExit -> St -> Prop} {st : St} (h : PWf P E f0 x (seqQ (fun st => PWf P E f0 y Q st) Q) st) : PWf P E f0 (.seq x y) Q st := by
 intro c hc G a W hI
 obtain ⟨cx, cy, rfl, hx, hy⟩ := comp_seq hc
 refine wpAt.seq (wpAt.mono (h cx hx G a W hI) fun e a' W' ⟨x, st', G', hI', hx, ho, hq⟩ => ?_)
 cases e with
 | normal =>
   cases x with
   | normal => exact hq cy hy G' a' W' hI'
   | _ => exact hx.elim
 | _ =>
   cases x <;> first | exact False.elim hx | exact ⟨_, st', G', hI', hx, ho, hq⟩
theorem comp_block {nt : Nat} {c : Code} {id : Nat} {pa : PC} (h : comp nt c = some (.block id pa)) : ∃ x, c = .block id x /\ comp nt x = some pa := by
 cases c with
 | block id a =>
   simp only [comp, Option.map_eq_some_iff] at h
   obtain ⟨a', ha, he⟩ := h
   cases he
   exact ⟨a, rfl, ha⟩
 | rangeFunc f qs a b =>
   simp only [comp, Option.bind_eq_some_iff, Option.map_eq_some_iff] at h
   obtain ⟨a', ha, b', hb, he⟩ := h
   cases he
 | seq x y =>
   simp only [comp, Option.bind_eq_some_iff, Option.map_eq_some_iff] at h
   obtain ⟨a, ha, b, hb, he⟩ := h
   cases he
 | region id ops draw =>
   simp only [comp, mkDraw] at h
   split at h
   . split at h
     . simp only [Option.some.injEq] at h
       split at h <;> cases h
     . cases h
   . split at h <;> cases h
 | cond c a b =>
   simp only [comp, Option.bind_eq_some_iff, Option.map_eq_some_iff] at h
   obtain ⟨a, ha, b, hb, he⟩ := h
   cases he
 | loop a =>
   simp only [comp, Option.map_eq_some_iff] at h
   obtain ⟨a, ha, he⟩ := h
   cases he
 | _ => simp [comp] at h
theorem PWf.block {id : Nat} {x : PC} {Q : AExit -> St -> Prop} {st : St} (h : PWf P E f0 x (blkQ id Q) st) : PWf P E f0 (.block id x) Q st := by
 intro c hc G a W hI
 obtain ⟨cx, rfl, hx⟩ := comp_block hc
 refine wpAt.block (wpAt.mono (h cx hx G a W hI) fun e a' W' ⟨x, st', G', hI', hx, ho, hq⟩ => ?_)
 cases e with
 | exit j =>
   cases x with
   | exit j' =>
     have hx : j' = j := hx
     subst hx
     simp only [blkQ] at hq
     simp only [Exit.inBlock]
     split
     . rename_i hj; rw [if_pos hj] at hq; exact ⟨.normal, st', G', hI', trivial, trivial, hq⟩
     . rename_i hj; rw [if_neg hj] at hq; exact ⟨.exit j', st', G', hI', rfl, trivial, hq⟩
   | _ => exact hx.elim
 | _ => cases x <;> first | exact False.elim hx | exact ⟨_, st', G', hI', hx, ho, hq⟩
theorem comp_range {nt : Nat} {c : Code} {fo : Operand} {ps : List Nat} {pa pb : PC} (h : comp nt c = some (.rangeF fo ps pa pb)) : ∃ (qs : Array Tmp) (x y : Code), c = .rangeFunc fo qs x y /\ qs.toList = ps /\ comp nt x = some pa /\ comp nt y = some pb := by
 cases c with
 | rangeFunc f qs a b =>
   simp only [comp, Option.bind_eq_some_iff, Option.map_eq_some_iff] at h
   obtain ⟨a', ha, b', hb, he⟩ := h
   cases he
   exact ⟨qs, a, b, rfl, rfl, ha, hb⟩
 | seq x y =>
   simp only [comp, Option.bind_eq_some_iff, Option.map_eq_some_iff] at h
   obtain ⟨a, ha, b, hb, he⟩ := h
   cases he
 | region id ops draw =>
   simp only [comp, mkDraw] at h
   split at h
   . split at h
     . simp only [Option.some.injEq] at h
       split at h <;> cases h
     . cases h
   . split at h <;> cases h
 | cond c a b =>
   simp only [comp, Option.bind_eq_some_iff, Option.map_eq_some_iff] at h
   obtain ⟨a, ha, b, hb, he⟩ := h
   cases he
 | block id a =>
   simp only [comp, Option.map_eq_some_iff] at h
   obtain ⟨a, ha, he⟩ := h
   cases he
 | loop a =>
   simp only [comp, Option.map_eq_some_iff] at h
   obtain ⟨a, ha, he⟩ := h
   cases he
 | _ => simp [comp] at h
def PRangeF (P : Program) (E : Ent) (f0 : FuncId) (fo : Operand) (ps : List Nat) (pa pb : PC) (Q : AExit -> St -> Prop) (st : St) : Prop :=
 (E.rq /\ (E.nt = panN -> f0 = panF)) /\ ∃ g caps args Hin ks res H1, calleeOf (evF st.fr fo) = some (g, caps) /\ CallA P (upd st.H st.nx (some [.lr st.fr E.nt ps pa pb .ready])) g (.yl st.nx :: caps) args Hin ks res H1 /\ st.nx ∈ ks /\
   match res with
   | .ret _ => ∃ jmp, H1 st.nx = some [.lr st.fr E.nt ps pa pb jmp] /\ jumpQ Q ⟨st.fr, upd (heapM (upd st.H st.nx (some [.lr st.fr E.nt ps pa pb .ready])) (st.nx + 1048576) Hin ks H1) st.nx none, st.nx + 2097152⟩ jmp
   | .pan r => Q (.pan (ren (sg ks (st.nx + 1048576)) r)) ⟨st.fr, upd (heapM (upd st.H st.nx (some [.lr st.fr E.nt ps pa pb .ready])) (st.nx + 1048576) Hin ks H1) st.nx none, st.nx + 2097152⟩
theorem PWf.range {fo : Operand} {ps : List Nat} {pa pb : PC} {Q : AExit -> St -> Prop} {st : St} (h : PRangeF P E f0 fo ps pa pb Q st) : PWf P E f0 (.rangeF fo ps pa pb) Q st := by
 intro c hc
 obtain ⟨qs, assign, body, rfl, rfl, ha, hb⟩ := comp_range hc
 obtain ⟨⟨⟨hrd, hnm⟩, hnp⟩, g, caps, args, Hin, ks, res, H1, hg, ⟨hfn, hcb⟩, hks, hend⟩ := h
 intro G a W hI
 rw [hrd]
 refine wpAt.rangeFunc ?_
 obtain ⟨G1, hI1, hβ, hbs⟩ := hI.enter hnm hnp (U' := (· < st.nx + 1048576)) (k := st.nx) (ps := qs) (by omega) (fun i hi => by omega) (by omega) ha hb
 generalize hW1 : ((W.alloc (.deferred (some []))).alloc (.loop { state := .ready, pending := none, fn := f0, tmps := a.tmps, params := qs, assign, body, defers := W.heap.size })) = W1 at hI1
 have key : ∃ cv : Array Value, a.eval fo = .func (.func g) #[] cv /\ All2 (RV G1 W1) caps cv.toList := by
   have hx := (hI1.op fo).1
   unfold calleeOf at hg
   have hev : (({ a with defers := { target := .collected W.heap.size, args := #[] } :: a.defers } : Act).eval fo) = a.eval fo := by cases fo <;> rfl
   rw [hev] at hx
   split at hg
   . rename_i g' caps' hv
     cases hg
     simp only at hx
     rw [hv] at hx
     have hx' : RD G1.Im W1 (.fn g caps') (a.eval fo) := hx
     generalize a.eval fo = u at hx'
     cases hx' with
     | fn _ _ cv hl hrr =>
       refine ⟨cv, rfl, All2.map_left.2 (All2.of_get (by simpa using hl.symm) fun i x y hx hy => ?_)⟩
       exact hrr i x y hx (by rwa [Array.getElem?_toList] at hy)
   . rename_i g' caps' hv
     cases hg
     simp only at hx
     rw [hv] at hx
     obtain ⟨cv, hxa, hcr⟩ := hx
     exact ⟨cv, hxa, hcr.mono fun _ _ _ h => R2.rv (R1.r2 (R0.r1 h))⟩
   . cases hg
 obtain ⟨cv, hfe, hcr⟩ := key
 obtain ⟨f', hfn', hbody, hname⟩ := hfn.1
 have h1 : f'.name ≠ "runtime.NumGoroutine" := by simpa using hname
 have h2 : f'.body.isNone = false := by cases h : f'.body <;> simp_all
 have hrel : All2 (RV G1 W1) (.yl st.nx :: caps) ((#[.func (.yield (W.heap.size + 1)) #[] #[]] ++ cv : Array Value)).toList := by
   have : RV G1 W1 (.yl st.nx) (.func (.yield (W.heap.size + 1)) #[] #[]) := by
     exact .inl ⟨hbs, by rw [hβ]⟩
   simpa using (show All2 (RV G1 W1) (.yl st.nx :: caps) (Value.func (.yield (W.heap.size + 1)) #[] #[] :: cv.toList) from ⟨this, hcr⟩)
 obtain ⟨Im, hIm, hall, hpre, hph, hcs⟩ := callB_pre hI1 hrel hcb
 obtain ⟨hin, hlt, hkk, _⟩ := hcb
 refine ⟨W.heap.size + 1, [{ target := .collected W.heap.size, args := #[] }], W1, { target := .fn (.func g) cv, args := #[.func (.yield (W.heap.size + 1)) #[] #[]] }, W1, g, #[.func (.yield (W.heap.size + 1)) #[] #[]] ++ cv, W1, ?_, ?_, ?_, ?_⟩
 . rw [<- hW1]
   exact run_enterLoop_outer _ _ _ _ _
 . have e1 : (#[] ++ Array.map a.eval #[Operand.const (Value.func (Fn.yield (W.heap.size + 1)) #[] #[])] : Array Value) = #[.func (.yield (W.heap.size + 1)) #[] #[]] := by
     simp only [Array.empty_append, List.map_toArray, List.map_cons, List.map_nil]
     rfl
   simp only [resolve, hfe, Deferred.ofValue, Sem.run_pure, e1]
 . simp only [invoke, callFunc, Sem.run_bind, run_program, Result.andThen_ok, hfn']
   simp [h1, h2]
 . show CallsIn Fence.wide 0 P g _ W1 _
   rw [callsIn_wide]
   refine (hfn.2 { G1 with Im := Im } W1 _ hIm hall hpre).mono fun e W' ⟨G', hpost⟩ => ?_
   obtain ⟨G2, hI2, hrv, hav, hchg2⟩ := hI1.call (U' := (· < st.nx + 2097152)) (base := st.nx + 1048576) (fun j hj => by omega) (fun i hi => by omega) (fun j hj => by omega) hin hlt (fun i hi => (hpre.st i hi).1) hph hpost hcs
   have hkeep : st.nx ∈ ks -> ∀ jmp, H1 st.nx = some [.lr st.fr E.nt qs.toList pa pb jmp] -> heapM (upd st.H st.nx (some [.lr st.fr E.nt qs.toList pa pb .ready])) (st.nx + 1048576) Hin ks H1 st.nx = some [.lr (fun t => ren (sg ks (st.nx + 1048576)) (st.fr t)) E.nt qs.toList pa pb jmp] := fun hk jmp hj => by
     simp only [heapM, if_pos hk, hj]; rfl
   have hβ2 : G2.β st.nx = W.heap.size + 1 := (hchg2.ag st.nx (by omega)).1.trans hβ
   cases res with
   | ret r =>
     obtain ⟨jmp, hj, hq⟩ := hend
     cases e with
     | returned v =>
       have hnb : jmp ≠ .busy := by intro e; subst e; exact hq.elim
       obtain ⟨j, W4, he, hjm, hI4, _⟩ := hI2.leave (P := P) (hkeep hks jmp hj) hnb
       rw [hβ2] at he
       refine ⟨j, W4, he, ?_⟩
       have hI5 := (hI4.nx (st.nx + 2097152))
       cases jmp with
       | mapr es => exact hq.elim
       | ready =>
         cases hjm
         exact ⟨.normal, _, G2, hI5, trivial, trivial, hq⟩
       | busy => exact hq.elim
       | done c =>
         simp only at hjm
         subst hjm
         cases c <;> first | exact hq.elim | exact wpIn_ret ⟨.ret, _, G2, hI5, trivial, trivial, hq⟩ | exact wpIn_exit ⟨.exit _, _, G2, hI5, rfl, trivial, hq⟩
     | _ => exact hrv.elim
   | pan r =>
     cases e with
     | panicked ch => exact ⟨.pan (ren (sg ks (st.nx + 1048576)) r), ⟨st.fr, _, st.nx + 2097152⟩, G2, ((hI2.drop st.nx).nx (st.nx + 2097152)), hrv, hav, hend⟩
     | _ => exact hrv.elim
end Go.Psl
namespace Go.Psl
variable {P : Program} {Γ : Tys} {eqs : Eqs} {E : Ent} {f0 : FuncId}
def DWf (P : Program) (E : Ent) (f0 : FuncId) (fn : Func) (r : V) (H1 : List (Nat × List V)) (p : PC) (st : St) : Prop :=
 ResIds r H1 -> ∀ (c : Code), comp E.nt c = some p -> ∀ (G0 : Gh) (W0 : World), BaseOk E G0 W0 -> ∀ G a W, Inv E (· < st.nx) G st a W ->
   wpAt f0 none P c (bodyPostM Fence.wide 0 P fn (EndR G0 W0 r H1)) a W
def dwfQ (P : Program) (Γ : Tys) (E : Ent) (f0 : FuncId) (fn : Func) (r : V) (H1 : List (Nat × List V)) (pb : PC) : AExit -> St -> Prop
 | .normal, st => DWf P E f0 fn r H1 pb st
 | .ret, st => RetM Γ fn [] r H1 st
 | _, _ => False
theorem DWf.seq (hΓ : GOk P Γ) (hE : EqOk P eqs) (hm : P.follows .mixedOrders = true) {fn : Func} {r : V} {H1 : List (Nat × List V)} {pa pb : PC} {st : St} (h : PW P Γ eqs E pa (dwfQ P Γ E f0 fn r H1 pb) st) : DWf P E f0 fn r H1 (.seq pa pb) st := by
 intro hri c hc G0 W0 hB G a W hI
 obtain ⟨x, y, rfl, hx, hy⟩ := comp_seq hc
 have h1 := PWf.of (f0 := f0) hΓ hE hm h x hx G a W hI
 rw [hB.rd] at h1
 refine wpAt.seq (wpAt.mono h1 fun e a' W' ⟨z, st', G', hI', hz, ho, hq⟩ => ?_)
 have hbase : E.W0 = W0 /\ E.Im0 = G0.Im /\ (∀ b, E.mu b ↔ lentB G0 noH b) /\ ∀ i, i ∈ ([] : List Nat) -> E.stab i /\ E.β0 i = G0.β i /\ E.bs0 i = G0.bs i /\ E.lo0 i = G0.lo i := ⟨hB.w, hB.im, hB.mu, fun _ h => by cases h⟩
 cases z with
 | normal =>
   cases e <;> first | exact hq hri y hy G0 W0 hB G' a' W' hI' | exact False.elim hz
 | ret =>
   cases e with
   | ret =>
     show LeavesInM Fence.wide 0 P fn a'.tmps (EndR G0 W0 r H1) a'.defers .returning W'
     obtain ⟨ds, hd, hmk⟩ := hI'.df
     rw [hmk.nm hB.nm, hB.dx] at hd
     rw [hd]
     obtain ⟨ρ, v, hv, hr, h4, h5, h6⟩ := run_resM hΓ hI' hq
     exact ⟨v, hv, _, post_of (res := .ret r) hbase hri hI' h4 h5 h6 (e := .returned v) hr⟩
   | _ => exact False.elim hz
 | _ => exact hq.elim
theorem DWf.defer (hΓ : GOk P Γ) (hE : EqOk P eqs) (_ : P.follows .mixedOrders = true) {fn : Func} {r : V} {H1 : List (Nat × List V)} {pb : PC} {t : Nat} {g : FuncId} {caps : Array Operand} {cl : Call} {f : Nat -> V} {H : Hp} {n : Nat} (n' : Nat) (ids : List (Nat × Nat)) (vs : List V) (hcal : cl.callee = .value (.tmp t)) (hcl : cl.args = #[]) (hvs : (ids.map fun p => .lp p.1 p.2) = vs) (hn : n + 2097152 = n')
   (hcaps0 : capL f caps.toList = vs) (_ : ∀ i, ¬ E.stab i)
   (h : ∀ E' : Ent, E'.nt = E.nt -> (∀ i, E'.stab i ↔ i ∈ ids.map Prod.fst) -> E'.rq -> PWf P E' f0 pb (retD P Γ fn r H1 g ids) ⟨frPut f (some t) (.cl g vs), H, n'⟩) :
   DWf P E f0 fn r H1 (.seq (.reg [⟨some t, .makeFunc (.func g) #[] caps, none⟩, ⟨none, .defer cl, none⟩]) pb) ⟨f, H, n⟩ := by
 subst hn hvs
 have hcaps : capL (⟨f, H, n⟩ : St).fr caps.toList = ids.map fun p => .lp p.1 p.2 := hcaps0
 generalize hst0 : (⟨f, H, n⟩ : St) = st at hcaps
 have e1 : f = st.fr := by rw [<- hst0]
 have e2 : H = st.H := by rw [<- hst0]
 have e3 : n = st.nx := by rw [<- hst0]
 rw [e1, e2, e3] at h
 clear e1 e2 e3 hst0 hcaps0
 intro hri c hc G0 W0 hB G a W hI
 obtain ⟨x, y, rfl, hx, hy⟩ := comp_seq hc
 obtain ⟨id, all, rfl, hops, hds⟩ := comp_reg hx
 obtain ⟨o1, o2, rfl⟩ := two_of (l := all) (by have := congrArg List.length hops; simpa using this.symm)
 simp only [List.map_cons, List.map_nil, List.cons.injEq, poOf, PO.mk.injEq, and_true] at hops
 obtain ⟨⟨p1, p2, p3⟩, q1, q2, q3⟩ := hops
 have g1 : o1.guard = none := by cases h : o1.guard with | none => rfl | some z => rw [h] at p3; cases p3
 have g2 : o2.guard = none := by cases h : o2.guard with | none => rfl | some z => rw [h] at q3; cases q3
 have hF : E.F = Fence.wide := by unfold Ent.F; rw [hB.rd]; rfl
 refine wpAt.seq (wpAt.of (rd := none) (wpIn_region_lit ?_))
 have w1 : Region.wanted o1 (yielded [o1, o2].toArray a.tmps) = true := by simp [Region.wanted, g1]
 have w2 : ∀ T, Region.wanted o2 (yielded [o1, o2].toArray T) = true := fun T => by simp [Region.wanted, g2]
 simp only [wpListIn, w1, if_true]
 have hlt : t < E.nt := by
   have := List.all_eq_true.1 hds o1 (by simp)
   rw [<- p1] at this
   simpa using this
 have hev : evalOp Γ eqs st.H st.nx st.fr o1.op = some (.cl g (ids.map fun p => .lp p.1 p.2), .none) := by
   rw [<- p2]
   simp only [evalOp, mkAny, hcaps, mkFuncF]
   simp [V.cap]
 have hs := step_sound (U' := (· < st.nx + 2097152)) hΓ hE hI (o := o1) (b := st.nx) (fun j _ => by omega) (fun i hi => by omega) (fun j hj => by omega) (fun d hd => by rw [<- p1] at hd; cases hd; exact hlt) (.plain _ _ hev)
   (K := fun a' W' => wpListIn Fence.wide 0 P [o1, o2].toArray (Exit.then (fun a w => wpAt f0 none P y (bodyPostM Fence.wide 0 P fn (EndR G0 W0 r H1)) a w) (bodyPostM Fence.wide 0 P fn (EndR G0 W0 r H1))) [o2] a' W')
   (Q := Exit.then (fun a w => wpAt f0 none P y (bodyPostM Fence.wide 0 P fn (EndR G0 W0 r H1)) a w) (bodyPostM Fence.wide 0 P fn (EndR G0 W0 r H1))) fun G' a' W' hI' => by
     simp only [wpListIn, w2, if_true]
     refine ⟨fun _ _ => trivial, ?_⟩
     have hfr := hI'.fr t
     have hwf := hI'.wf t
     have e0 : frPut st.fr o1.dst (.cl g (ids.map fun p => .lp p.1 p.2)) t = .cl g (ids.map fun p => .lp p.1 p.2) := by rw [<- p1]; simp [frPut, upd]
     simp only [e0] at hfr hwf
     obtain ⟨cv, hx, hcr⟩ := hfr
     have hwf' : ∀ c ∈ (ids.map fun p => V.lp p.1 p.2), A0 (· < st.nx + 2097152) anyD c := hwf
     have hev2 : a'.eval (.tmp t) = .func (.func g) #[] cv := by
       simpa [Act.eval] using hx
     have hrun : (o2.semAt Fence.wide.round a'.eval).run P W' = .ok (.defer { target := .fn (.func g) cv, args := #[] }) W' := by
       have : Fence.wide.round = none := rfl
       rw [this, Oper.semAt_none]
       simp [execOp, <- q2, resolve, hcal, hcl, hev2, Deferred.ofValue]
     rw [hrun]
     simp only [Oper.uponIn, <- q1]
     have hI0 := hI'
     rw [<- p1] at hI0
     have hlp : ∀ i, i ∈ ids.map Prod.fst -> (G'.ph i = false /\ G'.lo i = false) /\ i < st.nx + 2097152 := fun i hi => by
       obtain ⟨p, hp, rfl⟩ := List.mem_map.1 hi
       obtain ⟨k, hk⟩ := List.getElem?_of_mem hp
       obtain ⟨z, hz, hr⟩ := (All2.map_left.1 hcr).get hk
       exact ⟨hr.1, hwf' _ (List.mem_map.2 ⟨p, hp, rfl⟩)⟩
     let E' : Ent := { E with dx := [{ target := .fn (.func g) cv, args := #[] }], nm := false, stab := fun i => i ∈ ids.map Prod.fst, β0 := G'.β, bs0 := G'.bs, lo0 := G'.lo }
     have hdf : a'.defers = [] := by
       obtain ⟨ds, hd, hmk⟩ := hI'.df
       rw [hmk.nm hB.nm, hB.dx] at hd
       exact hd
     have hI2 : Inv E' (· < st.nx + 2097152) G' ⟨frPut st.fr (some t) (.cl g (ids.map fun p => .lp p.1 p.2)), st.H, st.nx + 2097152⟩ { a' with defers := [{ target := .fn (.func g) cv, args := #[] }] } W' :=
       ⟨hI0.fr, hI0.wf, hI0.hp, hI0.wh, hI0.dom, hI0.inj, hI0.own, hI0.im, hI0.im0, ⟨hI0.keep.os, hI0.keep.tape, hI0.keep.output, hI0.keep.drawn, hI0.keep.size, hI0.keep.block⟩, fun i hi _ => ⟨rfl, rfl, (hlp i hi).1.1, rfl⟩, fun i hi => (hlp i hi).2, hI0.nt, ⟨[], rfl, List.nodup_nil, fun _ h => (nomatch h), fun _ => rfl⟩, hI0.gl⟩
     have hrd' : E'.rd = none := hB.rd
     have hsnd := h E' rfl (fun _ => Iff.rfl) ⟨hB.rd, rfl⟩ y hy G' _ W' hI2
     rw [hrd'] at hsnd
     rw [hdf]
     show wpAt f0 none P y (bodyPostM Fence.wide 0 P fn (EndR G0 W0 r H1)) { a' with defers := [{ target := .fn (.func g) cv, args := #[] }] } W'
     have hbase : E'.W0 = W0 /\ E'.Im0 = G0.Im /\ (∀ b, E'.mu b ↔ lentB G0 noH b) /\ ∀ i, i ∈ ([] : List Nat) -> E'.stab i /\ E'.β0 i = G0.β i /\ E'.bs0 i = G0.bs i /\ E'.lo0 i = G0.lo i := ⟨hB.w, hB.im, hB.mu, fun _ h => by cases h⟩
     have hcv : All2 (fun (p : Nat × Nat) x => E'.stab p.1 /\ E'.lo0 p.1 = false /\ x = .pointer (some ⟨E'.β0 p.1, p.2, none⟩)) ids cv.toList :=
       All2.of_get (by have := hcr.length; simpa using this) fun i p x hp hx => by
         obtain ⟨z, hz, hr⟩ := (All2.map_left.1 hcr).get hp
         rw [hx] at hz; cases hz
         exact ⟨List.mem_map.2 ⟨p, List.mem_of_getElem? hp, rfl⟩, hr.1.2, hr.2⟩
     refine wpAt.mono hsnd fun e a3 W3 ⟨z, st3, G3, hI3, hz, ho, hq⟩ => ?_
     obtain ⟨ds, hd, _⟩ := hI3.df
     have fin : DCall P g ids none (RetM Γ fn [] r H1) st3 -> LeavesInM Fence.wide 0 P fn a3.tmps (EndR G0 W0 r H1) a3.defers .returning W3 := fun hq => by
       rw [hd]
       refine leave_marks (u := .returning) nofun ds a3 W3 rfl hd hI3 (W0 := W3) (fun _ _ => rfl) fun a4 W4 ht hI4 _ => ?_
       rw [<- ht]
       exact leave_defer hΓ hri hbase hcv hI4 (m := none) nofun nofun rfl hq
     cases z with
     | normal => cases e <;> first | exact fin hq | exact False.elim hz
     | ret => cases e <;> first | exact fin hq | exact False.elim hz
     | exit _ => exact hq.elim
     | goto _ => exact hq.elim
     | pan v =>
       cases e with
       | panic ch =>
         obtain ⟨D, rfl, hq⟩ := hq
         obtain ⟨x, hx, hrx⟩ := hz
         show LeavesInM Fence.wide 0 P fn a3.tmps (EndR G0 W0 r H1) a3.defers (.panicking ch) W3
         rw [hd]
         refine leave_marks (u := .panicking ch) nofun ds a3 W3 rfl hd hI3 (W0 := W3) (fun _ _ => rfl) fun a4 W4 ht hI4 hW4 => ?_
         rw [<- ht]
         refine leave_defer hΓ hri hbase hcv hI4 (m := some (.d D)) (fun v hv => ⟨D, by cases hv; rfl⟩) nofun ⟨x, by rw [hx], ?_⟩ hq
         exact RD.mono (show RD G3.Im W3 D x from hrx) fun b hb => ⟨hb, hW4 b hb⟩
       | _ => exact False.elim hz
 rw [hF] at hs
 exact hs
end Go.Psl
namespace Go.Psl
variable {P : Program} {Γ : Tys} {eqs : Eqs} {E : Ent} {f0 : FuncId}
def panQ (ks : List Nat) (r : V) (H1 : List (Nat × List V)) : AExit -> St -> Prop
 | .pan v, st => PanM ks v r H1 st
 | _, _ => False
section keep
variable {ks xs xs1 : List Nat} {L L1 : List (Nat × List V)}
theorem PanM.keep {st : St} {r : D} (h : KeepOk ks L) (hH : ∀ i ∈ ks, st.H i = Go.Psl.lk L i) : PanM ks (.d r) (.d r) L st :=
 ⟨rid ks, rfl, h.hp hH, h.inj, h.stab hH⟩
end keep
end Go.Psl
namespace Go.Psl
noncomputable def bodyR : Option Code -> Code | some (.seq _ r) => r | _ => .skip
variable {P : Program} {Γ : Tys} {E : Ent} {fn : Func} {r : V} {H1 : List (Nat × List V)} {pb : PC} {st : St}
theorem DCall.mk {H : Hp} {b : Nat} {f : Nat -> V} {g : FuncId} {ids : List (Nat × Nat)} {m : Option V} {K : St -> Prop} (L : List (Nat × List V)) (ks : List Nat) (L1 : List (Nat × List V)) (hf : CmD P g (ids.map fun p => .lp p.1 p.2) (lk L) ks m (lk L1)) (hlive : ∀ p ∈ ids, (H p.1).isSome = true) (hin : HinOk H L) (hi : ∀ p ∈ L1, p.1 ∈ ks \/ p.1 < 1048576) (hks : ksOk b L L1 ks) (hL : ∀ p ∈ L, p.1 < b)
   (hk : K ⟨f, addM (delL H L) ks b L1, b⟩) : DCall P g ids m K ⟨f, H, b⟩ := by
 have hL' : ∀ i, InH (lk L) i -> i < b := fun i h => by
   obtain ⟨x, hx⟩ := Option.isSome_iff_exists.1 h
   exact hL _ (lk_mem' hx)
 refine ⟨hlive, _, lk L, ks, lk L1, hf, ⟨hin.at, fun i h hn => hiOk_at hi h hn, fun i h => (hks.at i h).2.2, .inl ?_⟩, ?_⟩
 . exact All2.of_get rfl fun i x y hx hy => by
     rw [hx] at hy; cases hy
     rw [List.getElem?_map] at hx
     obtain ⟨p, _, rfl⟩ := Option.map_eq_some_iff.1 hx
     exact ⟨rfl, rfl⟩
 . show K ⟨f, heapM H b (lk L) ks (lk L1), b⟩
   rw [heapM_list H ks b L L1 hks hL']
   exact hk
end Go.Psl
