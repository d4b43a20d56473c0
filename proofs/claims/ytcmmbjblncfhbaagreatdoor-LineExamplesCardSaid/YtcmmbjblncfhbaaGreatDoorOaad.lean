/- Own lemmas, used by the last text. Conditions: those that each theorem states. -/
import Derived.Orders
import Derived.Test.YtcmmbjblncfhbaaGreatDoorOaac
set_option maxRecDepth 200000
set_option maxHeartbeats 8000000
namespace Go.Psl
variable {P : Program} {Γ : Tys} {eqs : Eqs} {E : Ent} {U U' : Nat -> Prop} {G : Gh} {st : St} {a : Act} {W : World}
def calleeOf : V -> Option (FuncId × List V)
 | .d (.fn g caps) => some (g, caps.map .d)
 | .cl g caps => some (g, caps)
 | _ => none
def calleeB : V -> Option (FuncId × List V × List V)
 | .d (.lit (.func (.func g) b c)) => match c.toList, b.toList with
   | [], [.agg vs] => some (g, [.agg (vs.toList.map cV)], [])
   | _, _ => none
 | v => (calleeOf v).map fun p => (p.1, [], p.2)
def noH : Hp := fun _ => none
def lessH (H Hin : Hp) : Hp := fun i => if (Hin i).isSome then none else H i
def CallB (H : Hp) (az args : List V) (Hin : Hp) (ks : List Nat) (res : Res) (H1 : Hp) : Prop :=
 (∀ i cs, Hin i = some cs -> H i = some cs) /\ (∀ i, InH H1 i -> i ∉ ks -> i < 1048576) /\ (∀ i ∈ ks, ∃ cs, Hin i = some cs /\ cs ≠ []) /\
   (All2 (Bor noH) az args \/ (All2 (Bor (lessH H Hin)) az args /\ flatRes res H1))
def CallA (P : Program) (H : Hp) (g : FuncId) (az args : List V) (Hin : Hp) (ks : List Nat) (res : Res) (H1 : Hp) : Prop :=
 Cm P g args Hin ks res H1 /\ CallB H az args Hin ks res H1
def Ym (P : Program) (k : Nat) (args : List V) (Hin : Hp) (ks : List Nat) (res : Res) (H1 : Hp) : Prop :=
 ∀ (G : Gh) (W : World) (xs : Array Value) (rec : Loop), GW G.Im W -> All2 (R2 G W) args xs.toList -> PreH G W Hin ks -> W.heap[G.β k]? = some (.loop rec) -> xs.size = rec.params.size ->
   RoundIn Fence.wide 0 P (G.β k) rec.fn ((rec.params.zip xs).foldl (fun tmps (t, a) => tmps.setIfInBounds t a) rec.tmps) rec.assign rec.body W fun e W' => ∃ G', Post G W Hin ks res H1 e W' G'
def YieldA (P : Program) (H : Hp) (k : Nat) (az args : List V) (Hin : Hp) (ks : List Nat) (res : Res) (H1 : Hp) : Prop :=
 Ym P k args Hin ks res H1 /\ (∃ fr nt ps pa pb jmp, Hin k = some [.lr fr nt ps pa pb jmp] /\ ps.length = args.length) /\ CallB H az args Hin ks res H1
theorem callee_run (hI : Inv E U G st a W) {o : Oper} {c : Call} {fo : Operand} (ho : o.op = .call c) (hc : c.callee = .value fo) {g : FuncId} {pre caps : List V} (hg : calleeB (evF st.fr fo) = some (g, pre, caps)) (hf : isFn P g) :
   ∃ xs : Array Value, (execOp a.eval o).run P W = .ok (.enter g xs) W /\ All2 (RV G W) (pre ++ (capL st.fr c.args.toList ++ caps)) xs.toList := by
 obtain ⟨fn, hfn, hbody, hname⟩ := hf
 obtain ⟨hr, _⟩ := capL_rel hI c.args.toList
 obtain ⟨hx, _⟩ := hI.op fo
 have key : ∃ bv cv : Array Value, a.eval fo = .func (.func g) bv cv /\ All2 (RV G W) pre bv.toList /\ All2 (RV G W) caps cv.toList := by
   unfold calleeB at hg
   split at hg
   . rename_i g' bb cc hv
     split at hg
     . rename_i vs hcc hbb
       cases hg
       rw [hv] at hx
       have hfl := lit_flat hx
       have hxe := rv_lit hx
       refine ⟨bb, cc, hxe, ?_, by rw [hcc]; trivial⟩
       rw [hbb]
       refine ⟨⟨vs, rfl, zero_rel ?_⟩, trivial⟩
       rw [flatV, hcc, hbb] at hfl
       refine List.all_eq_true.2 fun v hv => flat0_flat (List.all_eq_true.1 ?_ v hv)
       simpa using hfl
     . cases hg
   have hg : ∃ q, calleeOf (evF st.fr fo) = some q /\ g = q.1 /\ pre = [] /\ caps = q.2 := by
     cases hq : calleeOf (evF st.fr fo) with
     | none => rw [hq] at hg; cases hg
     | some q => rw [hq] at hg; cases hg; exact ⟨q, rfl, rfl, rfl, rfl⟩
   obtain ⟨⟨g', caps'⟩, hg, rfl, rfl, rfl⟩ := hg
   unfold calleeOf at hg
   split at hg
   . rename_i g' caps' hv
     cases hg
     rw [hv] at hx
     have hx' : RD G.Im W (.fn g caps') (a.eval fo) := hx
     generalize a.eval fo = u at hx'
     cases hx' with
     | fn _ _ cv hl hrr =>
       refine ⟨#[], cv, rfl, trivial, All2.map_left.2 (All2.of_get (by simpa using hl.symm) fun i x y hx hy => ?_)⟩
       exact hrr i x y hx (by rwa [Array.getElem?_toList] at hy)
   . rename_i g' caps' hv
     cases hg
     rw [hv] at hx
     obtain ⟨cv, hxa, hcr⟩ := hx
     exact ⟨#[], cv, hxa, trivial, hcr.mono fun _ _ _ h => R2.rv (R1.r2 (R0.r1 h))⟩
   . cases hg
 obtain ⟨bv, cv, hfe, hpr, hcr⟩ := key
 refine ⟨bv ++ c.args.map a.eval ++ cv, ?_, ?_⟩
 . have h1 : fn.name ≠ "runtime.NumGoroutine" := by simpa using hname
   have h2 : fn.body.isNone = false := by cases h : fn.body <;> simp_all
   simp only [execOp, ho, resolve, hc, hfe, Deferred.ofValue, Sem.run_bind, Sem.run_pure, Result.andThen_ok, invoke, callFunc, run_program, hfn]
   simp [h1, h2]
 . have := hpr.append (hr.append hcr)
   simpa using this
theorem yield_run (hI : Inv E U G st a W) {o : Oper} {c : Call} {fo : Operand} (ho : o.op = .call c) (hc : c.callee = .value fo) {k : Nat} (hk : evF st.fr fo = .yl k) {fr : Nat -> V} {nt : Nat} {ps : List Nat} {pa pb : PC} {jmp : LSt} (hH : st.H k = some [.lr fr nt ps pa pb jmp]) (hl : ps.length = c.args.size) :
   ∃ (xs : Array Value) (rec : Loop), W.heap[G.β k]? = some (.loop rec) /\ xs.size = rec.params.size /\ (execOp a.eval o).run P W = .ok (.round (G.β k) rec.fn ((rec.params.zip xs).foldl (fun tmps (t, a) => tmps.setIfInBounds t a) rec.tmps) rec.assign rec.body) W /\ All2 (RV G W) (capL st.fr c.args.toList) xs.toList := by
 obtain ⟨hr, _⟩ := capL_rel hI c.args.toList
 obtain ⟨hx, _⟩ := hI.op fo
 rw [hk] at hx
 have hB := hI.hp k _ hH
 obtain ⟨hbs, rec, hrec, hps⟩ : G.bs k = 0 /\ ∃ rec, W.heap[G.β k]? = some (.loop rec) /\ rec.params.toList = ps := by
   rcases hB with ⟨_, h⟩ | ⟨_, _, _, c', T, _, _, _, h, h2⟩ | ⟨_, _, _, ⟨hz, fr', nt', ps', pa', pb', jmp', rec, h1, h2, h3, _⟩ | ⟨_, es, ms, ck, h1, _⟩ | ⟨_, bx, bp, bv, h1, _⟩⟩
   . cases h
   . simp [V.isCell] at h2
   . cases h1; exact ⟨hz, rec, h2, h3⟩
   . simp [mapC] at h1
   . simp at h1
 have hfe : a.eval fo = .func (.yield (G.β k)) #[] #[] := by
   rcases hx with ⟨_, h⟩ | ⟨h, _⟩ | ⟨h, _⟩ | ⟨h, _⟩
   . exact h
   . omega
   . omega
   . omega
 have hsz : (c.args.map a.eval).size = rec.params.size := by rw [Array.size_map, <- hl, <- hps, Array.length_toList]
 refine ⟨c.args.map a.eval, rec, hrec, hsz, ?_, by simpa using hr⟩
 simp only [execOp, ho, resolve, hc, hfe, Deferred.ofValue, Sem.run_bind, Sem.run_pure, Result.andThen_ok, invoke]
 rw [show (#[] : Array Value) ++ c.args.map a.eval = c.args.map a.eval by simp]
 exact run_yield hrec hsz
theorem bor0_rel (hI : Inv E U G st a W) {Hin : Hp} {v c : V} {x : Value} (hb : Bor0 (lessH st.H Hin) v c) (hx : RV G W v x) : R0 { G with Im := lent G st Hin } W c x := by
 have him : ∀ b, G.Im b -> lent G st Hin b /\ W.heap[b]? = W.heap[b]? := fun b hb => ⟨.inl hb, rfl⟩
 have hless : ∀ i cs, lessH st.H Hin i = some cs -> st.H i = some cs /\ ¬ InH Hin i := fun i cs h => by
   unfold lessH at h
   split at h
   . cases h
   . rename_i h2; exact ⟨h, h2⟩
 unfold Bor0 at hb
 split at hb
 . rename_i y z
   rcases hb with rfl | ⟨rfl, sz, rfl⟩
   . exact RD.mono (x := y) hx him
   . have := rv_lit hx
     subst this
     exact RD.sl sz [] none 0 (fun _ _ => undef) (by simp) (by simp [maxL]) (by simp) (by simp) (by simp)
 . rename_i id off len sz sz' es
   obtain ⟨rfl, hl, hes, cs, hh0, hcs⟩ := hb
   obtain ⟨hh, hnin⟩ := hless _ _ hh0
   obtain ⟨hml, ⟨hph, h0, rfl⟩ | ⟨hph, o', cap, rfl, hcap, hoff⟩⟩ := hx
   . have : es = [] := List.eq_nil_of_length_eq_zero (by omega)
     subst this
     exact RD.sl sz' [] none 0 (fun _ _ => undef) (by simp) (by simp [maxL]) (by simp) (by simp) (by simp)
   . obtain ⟨_, c, T, ⟨fz, hg, _⟩, hbs, hcl, hcr, _⟩ := (hI.hp id cs hh).read hph
     have hfl := flatten_len es hes
     have hlen : ((cs.drop off).take (len * sz')).length = len * sz' := by rw [hcs, List.length_map, hfl, hl]
     have hfit : off + len * sz' <= cs.length \/ len * sz' = 0 := by simp at hlen; omega
     subst hl
     refine RD.sl sz' es (some ⟨G.β id, o', none⟩) cap (fun i j => c.toList.getD (off + i * sz' + j) undef) hes hml hcap (fun i e he => ⟨_, rfl, .inr ⟨id, by show (st.H id).isSome = true; rw [hh]; rfl, hnin, hph.1, rfl⟩, fun j y hy => ?_⟩) (fun i e he j y hy => ?_)
     all_goals
       have hil : i < es.length := (List.getElem?_eq_some_iff.1 he).1
       have hel := hes e (List.mem_of_getElem? he)
       have hjl : j < sz' := by have := (List.getElem?_eq_some_iff.1 hy).1; omega
       have hij : i * sz' + j < es.length * sz' := by
         have : (i + 1) * sz' <= es.length * sz' := Nat.mul_le_mul_right _ hil
         rw [Nat.add_mul] at this; omega
       have hfit' : off + es.length * sz' <= cs.length := by omega
       have hcell : cs[off + (i * sz' + j)]? = some (.d y) := by
         have h1 : ((cs.drop off).take (es.length * sz'))[i * sz' + j]? = some (V.d y) := by
           rw [hcs, List.getElem?_map, flatten_get (by omega) es hes]
           have e1 : (i * sz' + j) / sz' = i := by rw [Nat.add_comm, Nat.add_mul_div_right _ _ (by omega), Nat.div_eq_of_lt hjl]; omega
           have e2 : (i * sz' + j) % sz' = j := by rw [Nat.add_comm, Nat.add_mul_mod_self_right, Nat.mod_eq_of_lt hjl]
           rw [e1, e2, he]; simp [hy]
         rw [List.getElem?_take, if_pos hij, List.getElem?_drop] at h1
         exact h1
       obtain ⟨u, hu, hru⟩ := hcr.get hcell
       rw [List.getElem?_take] at hu
       split at hu
       rotate_left
       . cases hu
     . obtain ⟨rfl, _⟩ := hoff (by omega)
       rw [add_plain]
       simp only [World.cell?, hg]
       rw [Array.getElem?_toList] at hu
       have h2 : c.toList.getD (o' + i * sz' + j) undef = u := by
         rw [List.getD_eq_getElem?_getD, Array.getElem?_toList, show o' + i * sz' + j = o' + (i * sz' + j) by omega, hu]; rfl
       rw [h2]
       simpa using hu
     . have h2 : c.toList.getD (off + i * sz' + j) undef = u := by
         rw [List.getD_eq_getElem?_getD, show off + i * sz' + j = off + (i * sz' + j) by omega, hu]; rfl
       show RD _ _ y (c.toList.getD (off + i * sz' + j) undef)
       rw [h2]
       exact RD.mono (x := y) hru him
 . rename_i id off ds
   obtain ⟨cs, hh0, hcs⟩ := hb
   obtain ⟨hh, hnin⟩ := hless _ _ hh0
   obtain ⟨hph, rfl⟩ : (G.ph id = false /\ G.lo id = false) /\ x = .pointer (some ⟨G.β id, off, none⟩) := hx
   obtain ⟨_, c, T, ⟨fz, hg, _⟩, hbs, hcl, hcr, _⟩ := (hI.hp id cs hh).read hph
   have get : ∀ (j : Nat) y, ds[j]? = some y -> ∃ u, c.toList[off + j]? = some u /\ RD (lent G st Hin) W y u := fun j y hy => by
     have hj := (List.getElem?_eq_some_iff.1 hy).1
     have h1 : ((cs.drop off).take ds.length)[j]? = some (V.d y) := by rw [hcs, List.getElem?_map, hy]; rfl
     rw [List.getElem?_take, if_pos hj, List.getElem?_drop] at h1
     obtain ⟨u, hu, hru⟩ := hcr.get h1
     rw [List.getElem?_take] at hu
     split at hu
     . exact ⟨u, hu, RD.mono (x := y) hru him⟩
     . cases hu
   refine RD.ref ds _ (fun j => c.toList.getD (off + j) undef) (.inr ⟨id, by show (st.H id).isSome = true; rw [hh]; rfl, hnin, hph.1, rfl⟩) (fun j y hy => ?_) (fun j y hy => ?_)
   . obtain ⟨u, hu, _⟩ := get j y hy
     rw [add_plain, List.getD_eq_getElem?_getD, hu]
     simp only [World.cell?, hg]
     simpa using hu
   . obtain ⟨u, hu, hr⟩ := get j y hy
     rw [List.getD_eq_getElem?_getD, hu]
     exact hr
 . rename_i f caps g ds
   obtain ⟨rfl, rfl⟩ := hb
   obtain ⟨cv, rfl, hcr⟩ := hx
   have hl := hcr.length
   refine RD.fn f ds cv (by simpa using hl.symm) fun j y v hy hv => ?_
   have h1 : (ds.map V.d)[j]? = some (V.d y) := by rw [List.getElem?_map, hy]; rfl
   obtain ⟨u, hu, hru⟩ := hcr.get h1
   rw [Array.getElem?_toList, hv] at hu
   cases hu
   exact RD.mono (x := y) hru him
 . obtain ⟨rfl, rfl⟩ := hb; exact hx
 . obtain ⟨rfl, rfl, rfl, rfl⟩ := hb; exact hx
 . have hb : _ = _ := hb; subst hb; exact hx
 . exact hb.elim
theorem bor1_rel (hI : Inv E U G st a W) {Hin : Hp} {v c : V} {x : Value} (hb : Bor1 (lessH st.H Hin) v c) (hx : R1 G W v x) : R1 { G with Im := lent G st Hin } W c x := by
 have him : ∀ b, G.Im b -> lent G st Hin b /\ W.heap[b]? = W.heap[b]? := fun b hb => ⟨.inl hb, rfl⟩
 unfold Bor1 at hb
 split at hb
 . rename_i f caps g caps'
   obtain ⟨rfl, rfl⟩ := hb
   obtain ⟨cv, hx, hc⟩ := hx
   refine ⟨cv, hx, hc.mono fun v _ x h => ?_⟩
   cases v with
   | d y => exact RD.mono (x := y) h him
   | _ => exact h
 . rename_i f caps g ds
   obtain ⟨rfl, hb⟩ := hb
   obtain ⟨cv, rfl, hc⟩ := hx
   have hl := hc.length
   have hl2 := hb.length
   rw [List.length_map] at hl2
   refine RD.fn f ds cv (by simpa using (hl2.symm.trans hl).symm) fun j y v hy hv => ?_
   have h1 : (ds.map V.d)[j]? = some (V.d y) := by rw [List.getElem?_map, hy]; rfl
   obtain ⟨c, hcj, hbj⟩ := hb.get2 h1
   obtain ⟨u, hu, hru⟩ := hc.get hcj
   rw [Array.getElem?_toList, hv] at hu
   cases hu
   exact bor0_rel hI hbj (R2.rv (R1.r2 (R0.r1 hru)))
 . exact R0.r1 (bor0_rel hI hb (R2.rv (R1.r2 hx)))
theorem bor_rel (hI : Inv E U G st a W) {Hin : Hp} {v c : V} {x : Value} (hb : Bor (lessH st.H Hin) v c) (hx : RV G W v x) : R2 { G with Im := lent G st Hin } W c x := by
 unfold Bor at hb
 split at hb
 . rename_i cs ds
   obtain ⟨cv, rfl, hr⟩ := hx
   refine ⟨cv, rfl, All2.of_get (by rw [<- hb.length, hr.length]) fun i y z hy hz => ?_⟩
   obtain ⟨w, hw, hbw⟩ := hb.get2 hy
   obtain ⟨u, hu, hru⟩ := hr.get hw
   rw [hz] at hu; cases hu
   exact bor1_rel hI hbw hru
 . refine R1.r2 (bor1_rel hI hb ?_)
   cases v <;> first | exact hx | (exfalso; revert hb; cases c <;> simp [Bor1, Bor0]; done)
theorem bor0_same {v c : V} {x : Value} (hb : Bor0 noH v c) (hx : RV G W v x) : R0 G W c x := by
 unfold Bor0 at hb
 split at hb
 . rename_i y z
   rcases hb with rfl | ⟨rfl, sz, rfl⟩
   . exact hx
   . have := rv_lit hx
     subst this
     exact RD.sl sz [] none 0 (fun _ _ => undef) (by simp) (by simp [maxL]) (by simp) (by simp) (by simp)
 . obtain ⟨_, _, _, cs, h, _⟩ := hb; cases h
 . obtain ⟨cs, h, _⟩ := hb; cases h
 . rename_i f caps g ds
   obtain ⟨rfl, rfl⟩ := hb
   obtain ⟨cv, rfl, hcr⟩ := hx
   have hl := hcr.length
   refine RD.fn f ds cv (by simpa using hl.symm) fun j y v hy hv => ?_
   have h1 : (ds.map V.d)[j]? = some (V.d y) := by rw [List.getElem?_map, hy]; rfl
   obtain ⟨u, hu, hru⟩ := hcr.get h1
   rw [Array.getElem?_toList, hv] at hu
   cases hu
   exact hru
 . obtain ⟨rfl, rfl⟩ := hb; exact hx
 . obtain ⟨rfl, rfl, rfl, rfl⟩ := hb; exact hx
 . have hb : _ = _ := hb; subst hb; exact hx
 . exact hb.elim
theorem bor1_same {v c : V} {x : Value} (hb : Bor1 noH v c) (hx : R1 G W v x) : R1 G W c x := by
 unfold Bor1 at hb
 split at hb
 . obtain ⟨rfl, rfl⟩ := hb; exact hx
 . rename_i f caps g ds
   obtain ⟨rfl, hb⟩ := hb
   obtain ⟨cv, rfl, hc⟩ := hx
   have hl := hc.length
   have hl2 := hb.length
   rw [List.length_map] at hl2
   refine RD.fn f ds cv (by simpa using (hl2.symm.trans hl).symm) fun j y v hy hv => ?_
   have h1 : (ds.map V.d)[j]? = some (V.d y) := by rw [List.getElem?_map, hy]; rfl
   obtain ⟨c, hcj, hbj⟩ := hb.get2 h1
   obtain ⟨u, hu, hru⟩ := hc.get hcj
   rw [Array.getElem?_toList, hv] at hu
   cases hu
   exact bor0_same hbj (R2.rv (R1.r2 (R0.r1 hru)))
 . exact R0.r1 (bor0_same hb (R2.rv (R1.r2 hx)))
theorem bor_same {v c : V} {x : Value} (hb : Bor noH v c) (hx : RV G W v x) : R2 G W c x := by
 unfold Bor at hb
 split at hb
 . rename_i cs ds
   obtain ⟨cv, rfl, hr⟩ := hx
   refine ⟨cv, rfl, All2.of_get (by rw [<- hb.length, hr.length]) fun i y z hy hz => ?_⟩
   obtain ⟨w, hw, hbw⟩ := hb.get2 hy
   obtain ⟨u, hu, hru⟩ := hr.get hw
   rw [hz] at hu; cases hu
   exact bor1_same hbw hru
 . refine R1.r2 (bor1_same hb ?_)
   cases v <;> first | exact hx | (exfalso; revert hb; cases c <;> simp [Bor1, Bor0]; done)
theorem callB_pre (hI : Inv E U G st a W) {az args : List V} {xs : Array Value} (hrel : All2 (RV G W) az xs.toList) {Hin : Hp} {ks : List Nat} {res : Res} {H1 : Hp} (h : CallB st.H az args Hin ks res H1) :
   ∃ Im : Nat -> Prop, GW Im W /\ All2 (R2 { G with Im := Im } W) args xs.toList /\ PreH { G with Im := Im } W Hin ks /\ (∀ i ∈ ks, G.ph i = false) /\ ((∀ b, Im b ↔ G.Im b) \/ ((∀ b, Im b ↔ lent G st Hin b) /\ flatRes res H1)) := by
 obtain ⟨hin, hlt, hks, hcase⟩ := h
 have comb : ∀ (Im : Nat -> Prop) (B : V -> V -> Prop), All2 B az args -> (∀ v ∈ az, ∀ c x, B v c -> RV G W v x -> R2 { G with Im := Im } W c x) -> All2 (R2 { G with Im := Im } W) args xs.toList := fun Im B hbor hm =>
   All2.of_get (by rw [<- hbor.length, hrel.length]) fun i y z hy hz => by
     obtain ⟨w, hw, hbw⟩ := hbor.get2 hy
     obtain ⟨u, hu, hru⟩ := hrel.get hw
     rw [hz] at hu; cases hu
     exact hm w (List.mem_of_getElem? hw) _ _ hbw hru
 have hIn : ∀ i, InH Hin i -> InH st.H i := fun i hi => by
   obtain ⟨cs, hcs⟩ := Option.isSome_iff_exists.1 hi
   show (st.H i).isSome = true
   rw [hin i cs hcs]; rfl
 have hst : ∀ i ∈ ks, InH Hin i /\ G.ph i = false := fun i hi => by
   obtain ⟨cs, hcs, hne⟩ := hks i hi
   refine ⟨by show (Hin i).isSome = true; rw [hcs]; rfl, ?_⟩
   rcases hI.hp i cs (hin i cs hcs) with ⟨_, h⟩ | ⟨h, _⟩ | ⟨h, _⟩
   . exact absurd h hne
   . exact h
   . exact h
 rcases hcase with hb | ⟨hb, hfl⟩
 . exact ⟨G.Im, ⟨fun b hb => (hI.im b hb).1, hI.gl⟩, comb _ _ hb fun v hv c x hb hx => bor_same hb hx, ⟨fun i cs h => hI.hp i cs (hin i cs h), fun i j hi hj => hI.inj i j (hIn i hi) (hIn j hj), hst⟩, fun i hi => (hst i hi).2, .inl fun _ => Iff.rfl⟩
 . refine ⟨lent G st Hin, ⟨fun b hb => ?_, hI.gl.mono fun b hb => ⟨.inl hb, rfl⟩⟩, comb _ _ hb fun v hv c x hb hx => bor_rel hI hb hx, ⟨fun i cs h => ?_, fun i j hi hj => hI.inj i j (hIn i hi) (hIn j hj), hst⟩, fun i hi => (hst i hi).2, .inr ⟨fun _ => Iff.rfl, hfl⟩⟩
   . rcases hb with h | ⟨i, hi, _, hph, rfl⟩
     . exact (hI.im b h).1
     . obtain ⟨cs, hcs⟩ := Option.isSome_iff_exists.1 hi
       exact (hI.hp i cs hcs).lt hph
   . have him : ∀ b, G.Im b -> lent G st Hin b /\ W.heap[b]? = W.heap[b]? := fun b hb => ⟨.inl hb, rfl⟩
     have hchg : Chg U G W { G with Im := lent G st Hin } W := ⟨fun _ _ => ⟨rfl, rfl, rfl, rfl⟩, him⟩
     have hs := hin i cs h
     have hi : InH st.H i := by show (st.H i).isSome = true; rw [hs]; rfl
     refine hchg.hb (hI.dom i hi) (hI.wh i cs hs) (hI.hp i cs hs) (fun _ => rfl) (fun hx hph => ?_)
     rcases hx with hx | ⟨j, hj, hnj, hpj, he⟩
     . exact hx
     . have := hI.inj j i hj hi hpj hph he
       subst this
       exact absurd (by show (Hin j).isSome = true; rw [h]; rfl) hnj
theorem semAt_call {E : Ent} {o : Oper} {c : Call} (ho : o.op = .call c) (ρ : Operand -> Value) : o.semAt E.F.round ρ = execOp ρ o := Oper.semAt_eq _ _ _ (by rw [ho]; nofun)
theorem call_sound (hI : Inv E U G st a W) {o : Oper} {c : Call} {fo : Operand} (ho : o.op = .call c) (hc : c.callee = .value fo) {g : FuncId} {pre caps args : List V} {Hin : Hp} {ks : List Nat} {res : Res} {H1 : Hp} (hg : calleeB (evF st.fr fo) = some (g, pre, caps))
   (hcall : CallA P st.H g (pre ++ (capL st.fr c.args.toList ++ caps)) args Hin ks res H1) {base : Nat} (hb : ∀ j, j < 1048576 -> ¬ U (base + j)) (hU : ∀ i, U i -> U' i) (hb' : ∀ j, j < 1048576 -> U' (base + j)) (hd : ∀ d, o.dst = some d -> d < E.nt)
   {K : Act -> World -> Prop} {Q : Exit -> Act -> World -> Prop} (h : ∀ r G' a' W', res = .ret r -> Inv E U' G' ⟨frPut st.fr o.dst (ren (sg ks base) r), heapM st.H base Hin ks H1, st.nx⟩ a' W' -> K a' W')
   (hx : ∀ r G' W' ch, res = .pan r -> exRel G' W' (.pan (ren (sg ks base) r)) (.panic ch) -> AV U' anyD (ren (sg ks base) r) -> Inv E U' G' ⟨st.fr, heapM st.H base Hin ks H1, st.nx⟩ a W' -> Q (.panic ch) a W') : o.wpIn E.F 0 P a W K Q := by
 obtain ⟨hfn, hcb⟩ := hcall
 obtain ⟨xs, hrun, hrel⟩ := callee_run hI ho hc hg hfn.1
 obtain ⟨Im, hIm, hall, hpre, hph, hcs⟩ := callB_pre hI hrel hcb
 obtain ⟨hin, hlt, hks, _⟩ := hcb
 refine ⟨fun _ _ => trivial, ?_⟩
 rw [semAt_call ho, hrun]
 simp only [Oper.uponIn]
 refine ⟨by simp [Fence.wide], ?_⟩
 show CallsIn Fence.wide 0 P g xs W _
 rw [callsIn_wide]
 refine (hfn.2 { G with Im := Im } W xs hIm hall hpre).mono fun e W' ⟨G', hpost⟩ => ?_
 obtain ⟨G'', hI', hrv, hav, _⟩ := hI.call hb hU hb' hin hlt (fun i hi => (hpre.st i hi).1) hph hpost hcs
 cases res with
 | ret r => cases e with
   | returned v => exact h r _ _ _ rfl (hI'.slot hrv hav o.dst hd)
   | _ => exact hrv.elim
 | pan r => cases e with
   | panicked ch => exact hx r G'' W' ch rfl hrv hav hI'
   | _ => exact hrv.elim
theorem yield_sound (hI : Inv E U G st a W) {o : Oper} {c : Call} {fo : Operand} (ho : o.op = .call c) (hc : c.callee = .value fo) {k : Nat} {args : List V} {Hin : Hp} {ks : List Nat} {res : Res} {H1 : Hp} (hk : evF st.fr fo = .yl k)
   (hcall : YieldA P st.H k (capL st.fr c.args.toList) args Hin ks res H1) {base : Nat} (hb : ∀ j, j < 1048576 -> ¬ U (base + j)) (hU : ∀ i, U i -> U' i) (hb' : ∀ j, j < 1048576 -> U' (base + j)) (hd : ∀ d, o.dst = some d -> d < E.nt)
   {K : Act -> World -> Prop} {Q : Exit -> Act -> World -> Prop} (h : ∀ r G' a' W', res = .ret r -> Inv E U' G' ⟨frPut st.fr o.dst (ren (sg ks base) r), heapM st.H base Hin ks H1, st.nx⟩ a' W' -> K a' W')
   (hx : ∀ r G' W' ch, res = .pan r -> exRel G' W' (.pan (ren (sg ks base) r)) (.panic ch) -> AV U' anyD (ren (sg ks base) r) -> Inv E U' G' ⟨st.fr, heapM st.H base Hin ks H1, st.nx⟩ a W' -> Q (.panic ch) a W') : o.wpIn E.F 0 P a W K Q := by
 obtain ⟨hy, ⟨fr, nt, ps, pa, pb, jmp, hHk, hlen⟩, hcb⟩ := hcall
 have hl : ps.length = c.args.size := by
   have : (capL st.fr c.args.toList).length = args.length := by
     rcases hcb.2.2.2 with h | ⟨h, _⟩ <;> exact h.length
   have h2 : (capL st.fr c.args.toList).length = c.args.size := by
     have := (capL_rel hI c.args.toList).1.length
     simpa using this
   omega
 obtain ⟨xs, rec, hrec, hsz, hrun, hrel⟩ := yield_run hI ho hc hk (hcb.1 k _ hHk) hl
 obtain ⟨Im, hIm, hall, hpre, hph, hcs⟩ := callB_pre hI hrel hcb
 obtain ⟨hin, hlt, hks, _⟩ := hcb
 refine ⟨fun _ _ => trivial, ?_⟩
 rw [semAt_call ho, hrun]
 simp only [Oper.uponIn]
 refine ⟨by simp [Fence.wide], ?_⟩
 show RoundIn Fence.wide 0 P _ _ _ _ _ W _
 refine (hy { G with Im := Im } W xs rec hIm hall hpre hrec hsz).mono fun e W' ⟨G', hpost⟩ => ?_
 obtain ⟨G'', hI', hrv, hav, _⟩ := hI.call hb hU hb' hin hlt (fun i hi => (hpre.st i hi).1) hph hpost hcs
 cases res with
 | ret r => cases e with
   | returned v => exact h r _ _ _ rfl (hI'.slot hrv hav o.dst hd)
   | _ => exact hrv.elim
 | pan r => cases e with
   | panicked ch => exact hx r G'' W' ch rfl hrv hav hI'
   | _ => exact hrv.elim
end Go.Psl
namespace Go.Psl
variable {P : Program} {Γ : Tys} {eqs : Eqs} {E : Ent} {U U' : Nat -> Prop} {G : Gh} {st : St} {a : Act} {W : World}
def gV : V -> Option (Option Bool)
 | .d (.lit (.bool b)) => some (some b)
 | .tup [] => some none
 | _ => none
def guardOf (all : List Oper) (f : Nat -> V) : Option (Nat × Bool) -> Option Bool
 | none => some true
 | some (j, w) => ((all[j]?).bind (·.dst)).bind fun d => (gV (f d)).map fun y => y == some w
theorem guard_sound (hI : Inv E U G st a W) {all : List Oper} {o : Oper} {b : Bool} (h : guardOf all st.fr o.guard = some b) : Region.wanted o (yielded all.toArray a.tmps) = b := by
 unfold guardOf at h
 unfold Region.wanted
 split at h
 . rename_i hg; cases h; simp [hg]
 . rename_i j w hg
   rw [hg]
   simp only
   cases hd : (all[j]?).bind (·.dst) with
   | none => simp [hd] at h
   | some d =>
     simp only [hd, Option.bind_some] at h
     cases hv : gV (st.fr d) with
     | none => simp [hv] at h
     | some y =>
       simp only [hv, Option.map_some, Option.some.injEq] at h
       have hr := hI.fr d
       have hy : yielded all.toArray a.tmps j = y := by
         unfold yielded
         rw [List.getElem?_toArray, hd]
         simp only [Option.bind_some]
         unfold gV at hv
         split at hv
         . rename_i c hc
           cases hv
           rw [hc] at hr
           have := rv_bool hr
           rw [Array.getD_eq_getD_getElem?] at this
           cases ht : a.tmps[d]? with
           | none => rw [ht] at this; simp [undef] at this
           | some u => rw [ht] at this; simp only [Option.getD_some] at this; subst this; rfl
         . rename_i hc
           cases hv
           rw [hc] at hr
           obtain ⟨cv, hu, hcv⟩ := hr
           have : cv = #[] := by
             have := All2.nil_iff.1 hcv
             exact Array.ext' this
           subst this
           rw [Array.getD_eq_getD_getElem?] at hu
           cases ht : a.tmps[d]? with
           | none => rfl
           | some u => rw [ht] at hu; simp only [Option.getD_some] at hu; subst hu; rfl
         . cases hv
       rw [hy]; exact h
inductive StepOp (P : Program) (Γ : Tys) (eqs : Eqs) (b : Nat) (o : Oper) (st : St) : St -> Prop
 | plain (v : V) (e : Eff) (h : evalOp Γ eqs st.H b st.fr o.op = some (v, e)) : StepOp P Γ eqs b o st ⟨frPut st.fr o.dst v, st.H.app e, st.nx⟩
 | call (c : Call) (fo : Operand) (g : FuncId) (pre caps args : List V) (Hin : Hp) (ks : List Nat) (r : V) (H1 : Hp) (ho : o.op = .call c) (hc : c.callee = .value fo) (hg : calleeB (evF st.fr fo) = some (g, pre, caps))
     (hcall : CallA P st.H g (pre ++ (capL st.fr c.args.toList ++ caps)) args Hin ks (.ret r) H1) : StepOp P Γ eqs b o st ⟨frPut st.fr o.dst (ren (sg ks b) r), heapM st.H b Hin ks H1, st.nx⟩
 | yield (c : Call) (fo : Operand) (k : Nat) (args : List V) (Hin : Hp) (ks : List Nat) (r : V) (H1 : Hp) (ho : o.op = .call c) (hc : c.callee = .value fo) (hg : evF st.fr fo = .yl k)
     (hcall : YieldA P st.H k (capL st.fr c.args.toList) args Hin ks (.ret r) H1) : StepOp P Γ eqs b o st ⟨frPut st.fr o.dst (ren (sg ks b) r), heapM st.H b Hin ks H1, st.nx⟩
inductive StepP (P : Program) (b : Nat) (o : Oper) (st : St) : V -> St -> Prop
 | call (c : Call) (fo : Operand) (g : FuncId) (pre caps args : List V) (Hin : Hp) (ks : List Nat) (r : V) (H1 : Hp) (ho : o.op = .call c) (hc : c.callee = .value fo) (hg : calleeB (evF st.fr fo) = some (g, pre, caps))
     (hcall : CallA P st.H g (pre ++ (capL st.fr c.args.toList ++ caps)) args Hin ks (.pan r) H1) : StepP P b o st (ren (sg ks b) r) ⟨st.fr, heapM st.H b Hin ks H1, st.nx⟩
 | yield (c : Call) (fo : Operand) (k : Nat) (args : List V) (Hin : Hp) (ks : List Nat) (r : V) (H1 : Hp) (ho : o.op = .call c) (hc : c.callee = .value fo) (hg : evF st.fr fo = .yl k)
     (hcall : YieldA P st.H k (capL st.fr c.args.toList) args Hin ks (.pan r) H1) : StepP P b o st (ren (sg ks b) r) ⟨st.fr, heapM st.H b Hin ks H1, st.nx⟩
 | panic (x : Operand) (t : TypeId) (ag : Bool) (cs : List D) (ho : o.op = .panic x) (hv : evF st.fr x = .d (.ifc t ag cs)) : StepP P b o st (.d (.ifc t ag cs)) st
theorem eval_nodefer {Γ : Tys} {eqs : Eqs} {H : Hp} {b : Nat} {f : Nat -> V} {op : Op} {r : V × Eff} (h : evalOp Γ eqs H b f op = some r) : ∀ c, op ≠ .defer c := by
 intro c e
 subst e
 cases h
theorem step_sound (hΓ : GOk P Γ) (hE : EqOk P eqs) (hI : Inv E U G st a W) {o : Oper} {b : Nat} (hb : ∀ j, j < 1048576 -> ¬ U (b + j)) (hU : ∀ i, U i -> U' i) (hb' : ∀ j, j < 1048576 -> U' (b + j)) (hd : ∀ d, o.dst = some d -> d < E.nt) {st' : St} (hs : StepOp P Γ eqs b o st st')
   {K : Act -> World -> Prop} {Q : Exit -> Act -> World -> Prop} (h : ∀ G' a' W', Inv E U' G' st' a' W' -> K a' W') : o.wpIn E.F 0 P a W K Q := by
 cases hs with
 | plain v e he =>
   obtain ⟨n, x, W', G', hrun, hn, hI', hr, ha⟩ := eval_out hΓ hE hI (hb 0 (by omega)) hU (hb' 0 (by omega)) he
   refine ⟨fun _ _ => trivial, ?_⟩
   rw [Oper.semAt_eq _ _ _ (eval_nodefer he), hrun]
   have h2 := h _ _ _ (hI'.slot hr ha o.dst hd)
   rcases hn with rfl | ⟨rfl, rfl⟩
   . exact h2
   . exact h2
 | call c fo g pre caps args Hin ks r H1 ho hc hg hcall => exact call_sound hI ho hc hg hcall hb hU hb' hd (fun r' G' a' W' he hI' => by cases he; exact h G' a' W' hI') (fun _ _ _ _ he => by cases he)
 | yield c fo k args Hin ks r H1 ho hc hg hcall => exact yield_sound hI ho hc hg hcall hb hU hb' hd (fun r' G' a' W' he hI' => by cases he; exact h G' a' W' hI') (fun _ _ _ _ he => by cases he)
theorem stepP_sound (hI : Inv E U G st a W) {o : Oper} {b : Nat} (hb : ∀ j, j < 1048576 -> ¬ U (b + j)) (hU : ∀ i, U i -> U' i) (hb' : ∀ j, j < 1048576 -> U' (b + j)) (hd : ∀ d, o.dst = some d -> d < E.nt) {v : V} {st' : St} (hs : StepP P b o st v st')
   {K : Act -> World -> Prop} {Q : Exit -> Act -> World -> Prop} (h : ∀ G' W' ch, exRel G' W' (.pan v) (.panic ch) -> AV U' anyD v -> Inv E U' G' st' a W' -> Q (.panic ch) a W') : o.wpIn E.F 0 P a W K Q := by
 cases hs with
 | call c fo g pre caps args Hin ks r H1 ho hc hg hcall => exact call_sound hI ho hc hg hcall hb hU hb' hd (fun _ _ _ _ he => by cases he) (fun r' G' W' ch he h1 h2 hI' => by cases he; exact h G' W' ch h1 h2 hI')
 | yield c fo k args Hin ks r H1 ho hc hg hcall => exact yield_sound hI ho hc hg hcall hb hU hb' hd (fun _ _ _ _ he => by cases he) (fun r' G' W' ch he h1 h2 hI' => by cases he; exact h G' W' ch h1 h2 hI')
 | panic x t ag cs ho hv =>
   have hx := (hI.op x).1
   rw [hv] at hx
   refine ⟨fun _ _ => trivial, ?_⟩
   rw [Oper.semAt_eq _ _ _ (by rw [ho]; nofun)]
   have hrun : (execOp a.eval o).run P W = .halt (.panic (a.eval x)) W := by
     have hx' : RD G.Im W (.ifc t ag cs) (a.eval x) := hx
     simp only [execOp, ho]
     generalize a.eval x = u at hx'
     cases hx' <;> rfl
   rw [hrun]
   simp only [Oper.uponIn]
   exact h G W _ ⟨_, rfl, hx⟩ trivial (hI.mono hU)
def AStep (P : Program) (Γ : Tys) (eqs : Eqs) (b : Nat) (o : Oper) (st : St) (K : St -> Prop) (Kx : V -> St -> Prop) : Prop := (∃ st', StepOp P Γ eqs b o st st' /\ K st') \/ (∃ v st', StepP P b o st v st' /\ Kx v st')
def AGuard (g : Option Bool) (r s : Prop) : Prop := match g with | some b => (b = true -> r) /\ (b = false -> s) | none => False
def AOps (P : Program) (Γ : Tys) (eqs : Eqs) (all : List Oper) : Nat -> List Oper -> St -> (St -> Prop) -> (V -> St -> Prop) -> Prop
 | k, [], st, K, _ => K ⟨st.fr, st.H, st.nx + 1048576 * k⟩
 | k, o :: rest, st, K, Kx => AGuard (guardOf all st.fr o.guard) (AStep P Γ eqs (st.nx + 1048576 * k) o st (fun st' => AOps P Γ eqs all (k + 1) rest st' K Kx) (fun v st' => Kx v ⟨st'.fr, st'.H, st'.nx + 1048576 * (k + 1)⟩)) (AOps P Γ eqs all (k + 1) rest ⟨frPut st.fr o.dst (.tup []), st.H, st.nx⟩ K Kx)
theorem StepOp.nx {b : Nat} {o : Oper} {st' : St} (h : StepOp P Γ eqs b o st st') : st'.nx = st.nx := by cases h <;> rfl
theorem StepP.nx {b : Nat} {o : Oper} {v : V} {st' : St} (h : StepP P b o st v st') : st'.nx = st.nx := by cases h <;> rfl
theorem dst_lt {nt : Nat} {ops : List Oper} (h : dstsOk nt ops = true) {o : Oper} (ho : o ∈ ops) (d : Nat) (hd : o.dst = some d) : d < nt := by
 have := List.all_eq_true.1 h o ho
 rw [hd] at this
 simpa using this
theorem Inv.nx (hI : Inv E U G st a W) (n : Nat) : Inv E U G ⟨st.fr, st.H, n⟩ a W := ⟨hI.fr, hI.wf, hI.hp, hI.wh, hI.dom, hI.inj, hI.own, hI.im, hI.im0, hI.keep, hI.stab, hI.sU, hI.nt, hI.df, hI.gl⟩
structure EndOk (E : Ent) (Q : Exit -> Act -> World -> Prop) (K : St -> Prop) (Kx : V -> St -> Prop) : Prop where
 ok : ∀ G st' a' W', Inv E (· < st'.nx) G st' a' W' -> K st' -> Q .normal a' W'
 pan : ∀ G v st' a' W' ch, Inv E (· < st'.nx) G st' a' W' -> exRel G W' (.pan v) (.panic ch) -> AV (· < st'.nx) anyD v -> Kx v st' -> Q (.panic ch) a' W'
theorem aops_sound (hΓ : GOk P Γ) (hE : EqOk P eqs) {all : List Oper} {Q : Exit -> Act -> World -> Prop} {K : St -> Prop} {Kx : V -> St -> Prop} (hK : EndOk E Q K Kx) :
   ∀ (rest : List Oper) (k : Nat) (st : St) (G : Gh) (a : Act) (W : World), dstsOk E.nt rest = true -> Inv E (· < st.nx + 1048576 * k) G st a W -> AOps P Γ eqs all k rest st K Kx -> wpListIn E.F 0 P all.toArray Q rest a W
 | [], k, st, G, a, W, _, hI, h => hK.ok G _ a W (hI.nx _) h
 | o :: rest, k, st, G, a, W, hd, hI, h => by
   simp only [dstsOk, List.all_cons, Bool.and_eq_true] at hd
   have hd1 : ∀ d, o.dst = some d -> d < E.nt := fun d hh => by have := hd.1; rw [hh] at this; simpa using this
   simp only [AOps, AGuard] at h
   cases hg : guardOf all st.fr o.guard with
   | none => simp [hg] at h
   | some b =>
     rw [hg] at h
     have hw := guard_sound hI hg
     unfold wpListIn
     rw [hw]
     cases b with
     | true =>
       simp only [if_true]
       rcases h.1 rfl with ⟨st', hs, hrest⟩ | ⟨v, st', hs, hx⟩
       . refine step_sound hΓ hE hI (U' := (· < st.nx + 1048576 * (k + 1))) (fun j hj => by omega) (fun i hi => by omega) (fun j hj => by omega) hd1 hs fun G' a' W' hI' => ?_
         rw [<- hs.nx] at hI'
         exact aops_sound hΓ hE hK rest (k + 1) st' G' a' W' hd.2 hI' hrest
       . refine stepP_sound hI (U' := (· < st.nx + 1048576 * (k + 1))) (fun j hj => by omega) (fun i hi => by omega) (fun j hj => by omega) hd1 hs fun G' W' ch h1 h2 hI' => ?_
         rw [<- hs.nx] at hI' h2
         exact hK.pan G' v ⟨st'.fr, st'.H, st'.nx + 1048576 * (k + 1)⟩ a W' ch (hI'.nx _) h1 h2 hx
     | false =>
       simp only [Bool.false_eq_true, if_false]
       have hI' := (hI.mono (U' := (· < st.nx + 1048576 * (k + 1))) (fun i hi => by omega)).slot tup_nil (by simp [AV]) o.dst hd1
       exact ⟨fun _ _ => trivial, aops_sound hΓ hE hK rest (k + 1) _ G _ W hd.2 hI' (h.2 rfl)⟩
def AW (P : Program) (E : Ent) (c : Code) (Q : AExit -> St -> Prop) (st : St) : Prop :=
 ∀ G a W, Inv E (· < st.nx) G st a W -> c.wpIn E.F 0 P (fun e a' W' => ∃ x st' G', Inv E (· < st'.nx) G' st' a' W' /\ exRel G' W' x e /\ exOk (· < st'.nx) x /\ Q x st') a W
theorem endOk_of {Q : AExit -> St -> Prop} : EndOk E (fun e a' W' => ∃ x st' G', Inv E (· < st'.nx) G' st' a' W' /\ exRel G' W' x e /\ exOk (· < st'.nx) x /\ Q x st') (Q .normal) (fun v st => Q (.pan v) st) :=
 ⟨fun G st' _ _ hI hk => ⟨.normal, st', G, hI, trivial, trivial, hk⟩, fun G v st' _ _ _ hI h1 h2 hk => ⟨.pan v, st', G, hI, h1, h2, hk⟩⟩
theorem AW.region (hΓ : GOk P Γ) (hE : EqOk P eqs) {id : Nat} {ops : List Oper} {Q : AExit -> St -> Prop} (hd : dstsOk E.nt ops = true) (h : AOps P Γ eqs ops 0 ops st (Q .normal) (fun v st => Q (.pan v) st)) : AW P E (.region id ops.toArray false) Q st := by
 intro G a W hI
 refine wpIn_region_lit (aops_sound hΓ hE endOk_of ops 0 st G a W hd ?_ h)
 simpa using hI
def seqQ (K : St -> Prop) (Q : AExit -> St -> Prop) : AExit -> St -> Prop
 | .normal, st => K st
 | e, st => Q e st
theorem AW.seq {x y : Code} {Q : AExit -> St -> Prop} (h : AW P E x (seqQ (AW P E y Q) Q) st) : AW P E (.seq x y) Q st := by
 intro G a W hI
 refine wpIn_seq (wpIn_mono (h G a W hI) fun e a' W' ⟨x, st', G', hI', hx, ho, hq⟩ => ?_)
 cases e with
 | normal =>
   cases x with
   | normal => exact hq G' a' W' hI'
   | _ => exact hx.elim
 | _ =>
   cases x <;> first | exact False.elim hx | exact ⟨_, st', G', hI', hx, ho, hq⟩
theorem AW.skip {Q : AExit -> St -> Prop} (h : Q .normal st) : AW P E .skip Q st := fun _ _ _ hI => wpIn_skip ⟨.normal, st, _, hI, trivial, trivial, h⟩
theorem AW.ret {Q : AExit -> St -> Prop} (h : Q .ret st) : AW P E .ret Q st := fun _ _ _ hI => wpIn_ret ⟨.ret, st, _, hI, trivial, trivial, h⟩
theorem AW.exit {id : Nat} {Q : AExit -> St -> Prop} (h : Q (.exit id) st) : AW P E (.exit id) Q st := fun _ _ _ hI => wpIn_exit ⟨.exit id, st, _, hI, rfl, trivial, h⟩
theorem AW.cond {c : Operand} {x y : Code} {Q : AExit -> St -> Prop} {b : Bool} (hc : evF st.fr c = .d (.lit (.bool b))) (ht : b = true -> AW P E x Q st) (hf : b = false -> AW P E y Q st) : AW P E (.cond c x y) Q st := by
 intro G a W hI
 have h := (hI.op c).1
 rw [hc] at h
 have h := rv_bool h
 exact wpIn_cond_split h (fun hb => ht hb G a W hI) (fun hb => hf hb G a W hI)
theorem AW.condU {c : Operand} {x y : Code} {Q : AExit -> St -> Prop} (hc : evF st.fr c = .d .ub) (ht : AW P E x Q st) (hf : AW P E y Q st) : AW P E (.cond c x y) Q st := by
 intro G a W hI
 have h := (hI.op c).1
 rw [hc] at h
 have h : RD G.Im W .ub (a.eval c) := h
 generalize hu : a.eval c = u at h
 cases h with
 | ub b => exact wpIn_cond_split hu (fun _ => ht G a W hI) (fun _ => hf G a W hI)
def blkQ (id : Nat) (Q : AExit -> St -> Prop) : AExit -> St -> Prop
 | .exit j, st => if j = id then Q .normal st else Q (.exit j) st
 | e, st => Q e st
theorem AW.block {id : Nat} {c : Code} {Q : AExit -> St -> Prop} (h : AW P E c (blkQ id Q) st) : AW P E (.block id c) Q st := by
 intro G a W hI
 refine wpIn_block (wpIn_mono (h G a W hI) fun e a' W' ⟨x, st', G', hI', hx, ho, hq⟩ => ?_)
 cases e with
 | exit j =>
   cases x with
   | exit j' =>
     have hx : j' = j := hx
     subst hx
     simp only [blkQ] at hq
     simp only [Exit.inBlock]
     split
     . rename_i hj; rw [if_pos hj] at hq; exact ⟨.normal, st', G', hI', trivial, trivial, hq⟩
     . rename_i hj; rw [if_neg hj] at hq; exact ⟨.exit j', st', G', hI', rfl, trivial, hq⟩
   | _ => exact hx.elim
 | _ =>
   cases x <;> first | exact False.elim hx | exact ⟨_, st', G', hI', hx, ho, hq⟩
theorem AW.mono {c : Code} {Q Q' : AExit -> St -> Prop} (h : AW P E c Q st) (hq : ∀ e st, Q e st -> Q' e st) : AW P E c Q' st :=
 fun G a W hI => wpIn_mono (h G a W hI) fun _ _ _ ⟨x, st', G', hI', hx, ho, h⟩ => ⟨x, st', G', hI', hx, ho, hq _ _ h⟩
def Weak (_ : Program) (E : Ent) (st st' : St) : Prop := ∀ G a W, Inv E (· < st.nx) G st a W -> ∃ G', Inv E (· < st'.nx) G' st' a W
theorem AW.weak {c : Code} {Q : AExit -> St -> Prop} {st' : St} (hw : Weak P E st st') (h : AW P E c Q st') : AW P E c Q st := fun G a W hI => by
 obtain ⟨G', hI'⟩ := hw G a W hI
 exact h G' a W hI'
theorem AW.loop {α : Type} {c : Code} {Q : AExit -> St -> Prop} (S : α -> St) (inv : α -> Prop) (μ : α -> Nat) (x0 : α) (h0 : inv x0) (hw : Weak P E st (S x0))
   (round : ∀ x, inv x -> AW P E c (seqQ (fun st' => ∃ y, inv y /\ μ y < μ x /\ Weak P E st' (S y)) Q) (S x)) : AW P E (.loop c) Q st := by
 intro G a W hI
 obtain ⟨G0, hI0⟩ := hw G a W hI
 intro b k cs hro hb hr
 have key : ∀ n x, μ x = n -> inv x -> ∀ G a W, Inv E (· < (S x).nx) G (S x) a W ->
     ∃ e a' w', (∃ x st' G', Inv E (· < st'.nx) G' st' a' w' /\ exRel G' w' x e /\ exOk (· < st'.nx) x /\ Q x st') /\ ArrivesIn (Machine.fenced P E.F) P (lone (b.atR a (.code c :: .inLoop c :: k)) cs W) b k cs e a' w' := by
   intro n
   induction n using Nat.strongRecOn with
   | _ n ih =>
     intro x hx hinv G a W hI
     obtain ⟨e, a₁, w₁, ⟨x', st', G', hI', hx', ho, hq⟩, harr⟩ := round x hinv G a W hI b (.inLoop c :: k) cs hro hb hr
     cases e with
     | normal =>
       cases x' with
       | normal =>
         obtain ⟨y, hy, hlt, hwk⟩ := hq
         obtain ⟨G2, hI2⟩ := hwk G' a₁ w₁ hI'
         obtain ⟨e₂, a₂, w₂, hq₂, harr₂⟩ := ih (μ y) (hx ▸ hlt) y rfl hy G2 a₁ w₁ hI2
         exact ⟨e₂, a₂, w₂, hq₂, .of_steps (StepsIn.trans harr (.one (fenced_calm hb hr rfl) stepR_inLoop)) harr₂⟩
       | _ => exact hx'.elim
     | exit id => cases x' <;> first | exact False.elim hx' | exact ⟨_, a₁, w₁, ⟨_, st', G', hI', hx', ho, hq⟩, .pass (x := .inLoop c) rfl (fun _ _ => .inl (by simp)) harr⟩
     | goto l => cases x' <;> first | exact False.elim hx' | exact ⟨_, a₁, w₁, ⟨_, st', G', hI', hx', ho, hq⟩, .pass (x := .inLoop c) rfl (fun _ _ => .inl (by simp)) harr⟩
     | ret => cases x' <;> first | exact False.elim hx' | exact ⟨_, a₁, w₁, ⟨_, st', G', hI', hx', ho, hq⟩, .pass (x := .inLoop c) rfl (fun _ _ => .inl (by simp)) harr⟩
     | panic ch => cases x' <;> first | exact False.elim hx' | exact ⟨_, a₁, w₁, ⟨_, st', G', hI', hx', ho, hq⟩, .pass (x := .inLoop c) rfl (fun _ _ => .inl (by simp)) harr⟩
     | outgrown => cases x' <;> exact False.elim hx'
 obtain ⟨e, a', w', hq, harr⟩ := key _ x0 rfl h0 G0 a W hI0
 exact ⟨e, a', w', hq, .of_steps (.one (fenced_calm hb hr rfl) stepR_loop) harr⟩
end Go.Psl
namespace Go.Psl
variable {P : Program} {Γ : Tys} {eqs : Eqs}
def HLe (H H' : Hp) : Prop := ∀ id cs, H id = some cs -> H' id = some cs
theorem evF_congr {f f' : Nat -> V} {x : Operand} (h : ∀ t, x = .tmp t -> f t = f' t) : evF f x = evF f' x := by
 cases x with
 | tmp t => exact h t rfl
 | _ => rfl
theorem capL_congr {f f' : Nat -> V} : ∀ {l : List Operand}, (∀ t, Operand.tmp t ∈ l -> f t = f' t) -> capL f l = capL f' l
 | [], _ => rfl
 | x :: r, h => by
   simp only [capL]
   rw [evF_congr (fun t ht => h t (by simp [ht])), capL_congr (fun t ht => h t (by simp [ht]))]
theorem opdL_congr {f f' : Nat -> V} : ∀ {l : List (Nat × Operand)}, (∀ t, Operand.tmp t ∈ l.map (·.2) -> f t = f' t) -> opdL f l = opdL f' l
 | [], _ => rfl
 | (i, x) :: r, h => by
   simp only [opdL]
   rw [evF_congr (fun t ht => h t (by simp [ht])), opdL_congr (fun t ht => h t (by simp [ht]))]
theorem optF_congr {f f' : Nat -> V} {o : Option Operand} (h : ∀ t, o = some (.tmp t) -> f t = f' t) : o.map (evF f) = o.map (evF f') := by
 cases o with
 | none => rfl
 | some x => exact congrArg some (evF_congr fun t ht => h t (by rw [ht]))
theorem evalOp_congr {H : Hp} {b : Nat} {f f' : Nat -> V} {op : Op} (h : ∀ t, Operand.tmp t ∈ op.operands.toList -> f t = f' t) : evalOp Γ eqs H b f op = evalOp Γ eqs H b f' op := by
 cases op with
 | move x | assign x | box _ x | load _ x | nilCheck x | unOp _ _ x | convert _ _ x | extract x _ | fieldAddr _ x _ | field _ x _ | makeInterface _ x =>
   simp only [evalOp]; rw [evF_congr (fun t ht => h t (by subst ht; simp [Op.operands]))]
 | makeMap t r => cases r <;> rfl
 | lookup _ x y _ =>
   simp only [evalOp]
   rw [evF_congr (x := x) (fun t ht => h t (by subst ht; simp [Op.operands])), evF_congr (x := y) (fun t ht => h t (by subst ht; simp [Op.operands]))]
 | mapUpdate _ x y z | insert _ x y z =>
   simp only [evalOp]
   rw [evF_congr (x := x) (fun t ht => h t (by subst ht; simp [Op.operands])), evF_congr (x := y) (fun t ht => h t (by subst ht; simp [Op.operands])), evF_congr (x := z) (fun t ht => h t (by subst ht; simp [Op.operands]))]
 | typeAssert x s t ok =>
   cases ok with
   | true => rfl
   | false => simp only [evalOp]; rw [evF_congr (fun t ht => h t (by subst ht; simp [Op.operands]))]
 | pick c x y =>
   simp only [evalOp]
   rw [evF_congr (x := c) (fun t ht => h t (by subst ht; simp [Op.operands])), evF_congr (x := x) (fun t ht => h t (by subst ht; simp [Op.operands])), evF_congr (x := y) (fun t ht => h t (by subst ht; simp [Op.operands]))]
 | store _ x y | binOp _ _ x y _ | indexAddr _ x y | index _ x y | makeSlice _ x y =>
   simp only [evalOp]
   rw [evF_congr (x := x) (fun t ht => h t (by subst ht; simp [Op.operands])), evF_congr (x := y) (fun t ht => h t (by subst ht; simp [Op.operands]))]
 | build t ps | buildSlice t n ps =>
   simp only [evalOp]
   rw [opdL_congr (fun t ht => h t (by simpa [Op.operands] using ht))]
 | slice t x lo hi mx =>
   cases mx with
   | some m => rfl
   | none =>
     simp only [evalOp]
     rw [evF_congr (x := x) (fun t ht => h t (by subst ht; simp [Op.operands])), optF_congr (o := lo) (fun t ht => h t (by subst ht; simp [Op.operands])), optF_congr (o := hi) (fun t ht => h t (by subst ht; simp [Op.operands]))]
 | makeFunc fn first caps =>
   cases fn with
   | func g =>
     simp only [evalOp, mkAny]
     rw [capL_congr (f := f) (f' := f') (fun t ht => h t (by simp only [Op.operands, Array.toList_append, List.mem_append]; exact .inr ht))]
     split
     . rfl
     . rename_i x hx
       rw [evF_congr (x := x) (fun t ht => h t (by subst ht; simp only [Op.operands, Array.toList_append, List.mem_append, hx]; exact .inl (by simp)))]
     . rfl
   | _ => rfl
 | call c =>
   have hc : ∀ t, Operand.tmp t ∈ c.args.toList -> f t = f' t := fun t ht => h t (by
     simp only [Op.operands, Call.operands]
     split <;> simp_all)
   have h1 := capL_congr hc
   simp only [evalOp]
   split
   . split
     . rename_i x t hx _
       rw [evF_congr (fun t ht => hc t (by rw [hx, ht]; simp))]
     . rfl
   . rw [h1]
   . rw [h1]
   . split
     . rename_i s x t t' hx _
       rw [evF_congr (x := s) (fun t ht => hc t (by rw [hx, ht]; simp)), evF_congr (x := x) (fun t ht => hc t (by rw [hx, ht]; simp))]
     . rfl
   . split
     . rename_i x t hx _
       rw [evF_congr (fun t ht => hc t (by rw [hx, ht]; simp))]
     . rfl
   . split
     . rename_i x t hx _
       rw [evF_congr (fun t ht => hc t (by rw [hx, ht]; simp))]
     . rfl
   . rfl
 | _ => rfl
theorem obind {α β : Type} {x y : Option α} {g g' : α -> Option β} {r : β} (h : ∀ a, x = some a -> y = some a) (hg : ∀ a r, g a = some r -> g' a = some r) (he : x.bind g = some r) : y.bind g' = some r := by
 cases hx : x with
 | none => simp [hx] at he
 | some a => rw [hx] at he; rw [h a hx]; exact hg a r he
theorem loadF_mono {H H' : Hp} (hh : HLe H H') {t : TypeId} {v : V} {r : V × Eff} (h : loadF Γ H t v = some r) : loadF Γ H' t v = some r := by
 unfold loadF at *
 split
 . exact h
 . exact obind (fun _ h => h) (fun y r hy => obind (hh _) (fun _ _ h => h) hy) h
 . simp at h
theorem storeF_mono {H H' : Hp} (hh : HLe H H') {t : TypeId} {a v : V} {r : V × Eff} (h : storeF Γ H t a v = some r) : storeF Γ H' t a v = some r := by
 unfold storeF at *
 split
 . exact obind (fun _ h => h) (fun y r hy => obind (hh _) (fun _ _ h => h) hy) h
 . simp at h
theorem sliceF_mono {H H' : Hp} (hh : HLe H H') {t : TypeId} {x : V} {lo hi : Option V} {r : V × Eff} (h : sliceF Γ H t x lo hi = some r) : sliceF Γ H' t x lo hi = some r := by
 unfold sliceF at *
 refine obind (fun _ h => h) (fun y r hy => ?_) h
 generalize y.sh = sh at hy ⊢
 cases sh with
 | array m e =>
   refine obind (fun _ h => h) (fun ye r hy => ?_) hy
   cases x with
   | lp id off => exact obind (hh _) (fun _ _ h => h) hy
   | _ => exact hy
 | _ => exact hy
theorem cellsOf_mono {H H' : Hp} (hh : HLe H H') {sz : Nat} {x : V} {r : Nat × List V} (h : cellsOf H sz x = some r) : cellsOf H' sz x = some r := by
 cases x with
 | ls id off len sz' =>
   unfold cellsOf at *
   by_cases he : sz = sz'
   . simp only [if_pos he] at h ⊢
     exact obind (hh _) (fun _ _ h => h) h
   . simp [he] at h
 | d x => cases x with
   | lit v => cases v <;> exact h
   | _ => exact h
 | _ => exact h
def appS (H : Hp) (b : Nat) (ye : Ty) (s : V) (nx : Nat × List V) : Option (V × Eff) := match s with
   | .d (.lit (.slice _ _ _)) => if nx.1 * ye.bytes <= maxA /\ nx.1 <= maxL then some (.ls b 0 nx.1 ye.size, .new b nx.2) else none
   | .ls id 0 len sz => if sz = ye.size then (H id).bind fun cs => if len * sz <= cs.length /\ (len + nx.1) * ye.bytes <= maxA /\ len + nx.1 <= maxL then some (.ls b 0 (len + nx.1) sz, .mov id b (cs.take (len * sz) ++ nx.2)) else none else none
   | _ => none
theorem appS_mono {H H' : Hp} (hh : HLe H H') {b : Nat} {ye : Ty} {s : V} {nx : Nat × List V} {r : V × Eff} (h : appS H b ye s nx = some r) : appS H' b ye s nx = some r := by
 cases s with
 | ls id off len sz =>
   cases off with
   | zero =>
     unfold appS at *
     simp only at h ⊢
     by_cases he : sz = ye.size
     . simp only [if_pos he] at h ⊢
       exact obind (hh _) (fun _ _ h => h) h
     . simp [he] at h
   | succ n => exact h
 | d x => cases x with
   | lit v => cases v <;> exact h
   | _ => exact h
 | _ => exact h
theorem appF_mono {H H' : Hp} (hh : HLe H H') {b : Nat} {t : TypeId} {s x : V} {r : V × Eff} (h : appF Γ H b t s x = some r) : appF Γ H' b t s x = some r := by
 have key : ∀ H, appF Γ H b t s x = (Γ t).bind fun y => match y.sh with
   | .slice e => (Γ e).bind fun ye => if ye.size = 0 \/ sameId s x = true then none else (cellsOf H ye.size x).bind fun nx => if nx.2.all V.isCell then appS H b ye s nx else none
   | _ => none := fun H => rfl
 rw [key] at h ⊢
 refine obind (fun _ h => h) (fun y r hy => ?_) h
 generalize y.sh = sh at hy ⊢
 cases sh with
 | slice e =>
   refine obind (fun _ h => h) (fun ye r hy => ?_) hy
   by_cases hc : ye.size = 0 \/ sameId s x = true
   . simp [hc] at hy
   . rw [if_neg hc] at hy ⊢
     refine obind (fun _ h => cellsOf_mono hh h) (fun nx r hy => ?_) hy
     by_cases hc2 : nx.2.all V.isCell = true
     . simp only [hc2, if_true] at hy ⊢
       exact appS_mono hh hy
     . simp [hc2] at hy
 | _ => exact hy
theorem clearF_mono {H H' : Hp} (hh : HLe H H') {t : TypeId} {x : V} {r : V × Eff} (h : clearF Γ H t x = some r) : clearF Γ H' t x = some r := by
 unfold clearF at *
 refine obind (fun _ h => h) (fun y r hy => ?_) h
 generalize y.sh = sh at hy ⊢
 cases sh with
 | slice e =>
   refine obind (fun _ h => h) (fun ye r hy => ?_) hy
   split at hy
   . exact hy
   . split at hy
     . rename_i h0; rw [if_pos h0]; exact hy
     . rename_i h0
       rw [if_neg h0]
       split at hy
       . rename_i h1; rw [if_pos h1]; exact obind (hh _) (fun _ _ h => h) hy
       . cases hy
   . cases hy
 | _ => exact hy
theorem mapAt_mono {eqs : Eqs} {H H' : Hp} (hh : HLe H H') {t : TypeId} {m k : V} {p : Nat × List (Value × Bool × List D) × Value × Option Nat × TypeId} (h : mapAt Γ eqs H t m k = some p) : mapAt Γ eqs H' t m k = some p := by
 unfold mapAt at *
 refine obind (fun _ h => h) (fun y r hy => ?_) h
 generalize y.sh = sh at hy ⊢
 cases sh with
 | map kt et => exact obind (fun _ h => h) (fun yk r hy => obind (fun _ h => h) (fun id r hy => obind (hh _) (fun _ _ h => h) hy) hy) hy
 | _ => exact hy
theorem convF_mono {H H' : Hp} (hh : HLe H H') {b : Nat} {s t : TypeId} {x : V} {r : V × Eff} (h : convF Γ H b s t x = some r) : convF Γ H' b s t x = some r := by
 unfold convF at *
 refine obind (fun _ h => h) (fun ys r hy => ?_) h
 refine obind (fun _ h => h) (fun y r hy => ?_) hy
 generalize y.sh = sh at hy ⊢
 cases sh with
 | str =>
   simp only at hy ⊢
   unfold strF at *
   generalize ys.sh = sh' at hy ⊢
   cases sh' with
   | slice e =>
     refine obind (fun _ h => h) (fun ye r hy => ?_) hy
     split at hy
     . rename_i h8
       rw [if_pos h8]
       exact obind (fun _ h => cellsOf_mono hh h) (fun _ _ h => h) hy
     . cases hy
   | _ => exact hy
 | _ => exact hy
theorem evalOp_mono {H H' : Hp} (hh : HLe H H') {b : Nat} {f : Nat -> V} {op : Op} {r : V × Eff} (h : evalOp Γ eqs H b f op = some r) : evalOp Γ eqs H' b f op = some r := by
 cases op with
 | load t a => exact loadF_mono hh h
 | store t a v => exact storeF_mono hh h
 | convert s t x => exact convF_mono hh h
 | slice t x lo hi mx =>
   cases mx with
   | some m => exact h
   | none => exact sliceF_mono hh h
 | call c =>
   simp only [evalOp] at h ⊢
   generalize c.callee = cc at h ⊢
   cases cc with
   | builtin bi =>
     cases bi with
     | append =>
       simp only at h ⊢
       generalize c.args.toList = al at h ⊢
       generalize c.argTypes.toList = tl at h ⊢
       match al, tl with
       | [s, x], [t, t'] =>
         simp only at h ⊢
         by_cases he : t = t'
         . rw [if_pos he] at h ⊢; exact appF_mono hh h
         . rw [if_neg he] at h ⊢; exact h
       | [], _ | [_], _ | _ :: _ :: _ :: _, _ => exact h
       | [_, _], [] | [_, _], [_] | [_, _], _ :: _ :: _ :: _ => exact h
     | clear =>
       simp only at h ⊢
       generalize c.args.toList = al at h ⊢
       generalize c.argTypes.toList = tl at h ⊢
       match al, tl with
       | [x], [t] => exact clearF_mono hh h
       | [], _ | _ :: _ :: _, _ => exact h
       | [_], [] | [_], _ :: _ :: _ => exact h
     | _ => exact h
   | _ => exact h
 | makeFunc fn first caps => cases fn <;> exact h
 | typeAssert x s t ok => cases ok <;> exact h
 | makeMap t r => cases r <;> exact h
 | lookup t m k ok => exact obind (fun _ h => mapAt_mono hh h) (fun _ _ h => h) h
 | mapUpdate t m k x => exact obind (fun _ h => mapAt_mono hh h) (fun _ _ h => h) h
 | insert t m k x => exact obind (fun _ h => mapAt_mono hh h) (fun _ _ h => h) h
 | _ => exact h
theorem Bor0.le {H H' : Hp} (hh : HLe H H') {x y : V} (h : Bor0 H x y) : Bor0 H' x y := by
 cases x with
 | ls id off len sz =>
   cases y with
   | d y =>
     cases y with
     | sl sz' es => obtain ⟨h1, h2, h3, cs, h4, h5⟩ := h; exact ⟨h1, h2, h3, cs, hh _ _ h4, h5⟩
     | _ => exact h
   | _ => exact h
 | lp id off =>
   cases y with
   | d y =>
     cases y with
     | ref ds => obtain ⟨cs, h4, h5⟩ := h; exact ⟨cs, hh _ _ h4, h5⟩
     | _ => exact h
   | _ => exact h
 | cl f caps =>
   cases y with
   | d y => cases y <;> exact h
   | _ => exact h
 | d x =>
   cases y with
   | d y => exact h
   | _ => exact h
 | _ => cases y <;> exact h
theorem Bor1.le {H H' : Hp} (hh : HLe H H') {x y : V} (h : Bor1 H x y) : Bor1 H' x y := by
 unfold Bor1 at h ⊢
 split at h
 . exact h
 . exact ⟨h.1, All2.mono h.2 fun _ _ _ h => Bor0.le hh h⟩
 . exact Bor0.le hh h
theorem Bor.le {H H' : Hp} (hh : HLe H H') {x y : V} (h : Bor H x y) : Bor H' x y := by
 unfold Bor at h ⊢
 split at h
 . exact All2.mono h fun _ _ _ h => Bor1.le hh h
 . exact Bor1.le hh h
theorem lessH_le {H H' : Hp} (hh : HLe H H') (Hin : Hp) : HLe (lessH H Hin) (lessH H' Hin) := fun i cs h => by
 unfold lessH at h ⊢
 split at h
 . cases h
 . rename_i hn; rw [if_neg hn]; exact hh i cs h
theorem CallB.le {H H' : Hp} (hh : HLe H H') {az args : List V} {Hin : Hp} {ks : List Nat} {res : Res} {H1 : Hp} (h : CallB H az args Hin ks res H1) : CallB H' az args Hin ks res H1 :=
 ⟨fun i cs hi => hh i cs (h.1 i cs hi), h.2.1, h.2.2.1, h.2.2.2.imp id fun ⟨h1, h2⟩ => ⟨h1.mono fun _ _ _ h => Bor.le (lessH_le hh Hin) h, h2⟩⟩
theorem CallA.le {H H' : Hp} (hh : HLe H H') {g : FuncId} {az args : List V} {Hin : Hp} {ks : List Nat} {res : Res} {H1 : Hp} (h : CallA P H g az args Hin ks res H1) : CallA P H' g az args Hin ks res H1 :=
 ⟨h.1, h.2.le hh⟩
theorem guardOf_congr {all : List Oper} {f f' : Nat -> V} {g : Option (Nat × Bool)} (h : ∀ j w d, g = some (j, w) -> (all[j]?).bind (·.dst) = some d -> f d = f' d) : guardOf all f g = guardOf all f' g := by
 unfold guardOf
 split
 . rfl
 . rename_i j w
   cases hd : (all[j]?).bind (·.dst) with
   | none => rfl
   | some d => simp only [Option.bind_some]; rw [h j w d rfl hd]
end Go.Psl
namespace Go.Psl
variable {P : Program} {Γ : Tys} {eqs : Eqs} {E : Ent}
abbrev Dl := Nat -> Option (Option (List V))
def ext (H : Hp) (N : Dl) : Hp := fun id => match N id with | some x => x | none => H id
theorem ext_upd (H : Hp) (b : Nat) (cs : List V) : upd H b (some cs) = ext H (upd (fun _ => none) b (some (some cs))) := by
 funext id
 simp only [ext, upd_at]
 split <;> rfl
theorem ext_mov (H : Hp) (i b : Nat) (cs : List V) : upd (upd H i none) b (some cs) = ext H (upd (upd (fun _ => none) i (some none)) b (some (some cs))) := by
 funext id
 simp only [ext, upd_at]
 split
 . rfl
 . split <;> rfl
def addD (base : Nat) (H1 : Hp) : Dl := fun id => if base <= id then (match H1 (id - base) with | some cs => some (some (cs.map (renC (base + ·)))) | none => none) else none
def addF (H : Hp) (base : Nat) (H1 : Hp) : Hp := fun id => if base <= id then (match H1 (id - base) with | some cs => some (cs.map (renC (base + ·))) | none => H id) else H id
theorem sg_nil (b : Nat) : sg [] b = (b + ·) := by funext j; simp [sg]
theorem heapM_no (H : Hp) (b : Nat) (H1 : Hp) : heapM H b noH [] H1 = addF H b H1 := by
 funext id
 simp only [heapM, addF, List.not_mem_nil, if_false, noH, Option.isSome_none, Bool.false_eq_true, sg_nil] <;> rfl
open Classical in
noncomputable def callN (b : Nat) (Hin : Hp) (ks : List Nat) (H1 : Hp) : Dl := fun id =>
 if id ∈ ks then (if (H1 id).map (·.map (renC (sg ks b))) = Hin id then none else some ((H1 id).map (·.map (renC (sg ks b)))))
 else if (Hin id).isSome then some none
 else if b <= id then (if id - b ∈ ks then none else match H1 (id - b) with | some cs => some (some (cs.map (renC (sg ks b)))) | none => none)
 else none
def wrOk (ws : List (Nat × Nat)) (k b : Nat) (Hin : Hp) (ks : List Nat) (H1 : Hp) : Prop :=
 ∀ id, (id ∈ ks /\ (H1 id).map (·.map (renC (sg ks b))) ≠ Hin id) \/ (id ∉ ks /\ (Hin id).isSome = true) -> (k, id) ∈ ws
theorem ext_callN {H : Hp} {b : Nat} {Hin : Hp} {ks : List Nat} {H1 : Hp} (h1 : ∀ i cs, Hin i = some cs -> H i = some cs) (h2 : ∀ i ∈ ks, ∃ cs, Hin i = some cs /\ cs ≠ []) : heapM H b Hin ks H1 = ext H (callN b Hin ks H1) := by
 funext id
 simp only [heapM, ext, callN]
 by_cases hk : id ∈ ks
 . simp only [hk, if_true]
   by_cases he : (H1 id).map (·.map (renC (sg ks b))) = Hin id
   . obtain ⟨cs, hcs, _⟩ := h2 id hk
     rw [if_pos he, he, hcs, h1 id cs hcs]
   . rw [if_neg he]
 . simp only [hk, if_false]
   by_cases hi : (Hin id).isSome = true
   . simp only [hi, if_true]
   . simp only [hi, if_false, Bool.false_eq_true]
     by_cases hb : b <= id
     . simp only [hb, if_true]
       by_cases hk2 : id - b ∈ ks
       . simp only [hk2, if_true]
       . simp only [hk2, if_false]
         cases H1 (id - b) <;> rfl
     . simp only [hb, if_false]
inductive StepD (P : Program) (Γ : Tys) (eqs : Eqs) (ws : List (Nat × Nat)) (k b : Nat) (o : Oper) (f : Nat -> V) (Hr H : Hp) : V -> Hp -> Prop
 | plain (v : V) (h : evalOp Γ eqs Hr b f o.op = some (v, .none)) : StepD P Γ eqs ws k b o f Hr H v H
 | new (v : V) (cs : List V) (h : evalOp Γ eqs Hr b f o.op = some (v, .new b cs)) : StepD P Γ eqs ws k b o f Hr H v (upd H b (some cs))
 | put (v : V) (id : Nat) (cs : List V) (h : evalOp Γ eqs Hr b f o.op = some (v, .put id cs)) (hw : (k, id) ∈ ws) : StepD P Γ eqs ws k b o f Hr H v (upd H id (some cs))
 | mov (v : V) (id : Nat) (cs : List V) (h : evalOp Γ eqs Hr b f o.op = some (v, .mov id b cs)) (hw : (k, id) ∈ ws) : StepD P Γ eqs ws k b o f Hr H v (upd (upd H id none) b (some cs))
 | call (c : Call) (fo : Operand) (g : FuncId) (pre caps args : List V) (Hin : Hp) (ks : List Nat) (r : V) (H1 : Hp) (ho : o.op = .call c) (hc : c.callee = .value fo) (hg : calleeB (evF f fo) = some (g, pre, caps))
     (hcall : CallA P Hr g (pre ++ (capL f c.args.toList ++ caps)) args Hin ks (.ret r) H1) (hw : wrOk ws k b Hin ks H1) : StepD P Γ eqs ws k b o f Hr H (ren (sg ks b) r) (heapM H b Hin ks H1)
def StepDP (P : Program) (o : Oper) (f : Nat -> V) (Hr : Hp) (D : D) : Prop :=
 ∃ c fo g pre caps args Hin ks H1, o.op = .call c /\ c.callee = .value fo /\ calleeB (evF f fo) = some (g, pre, caps) /\ CallA P Hr g (pre ++ (capL f c.args.toList ++ caps)) args Hin ks (.pan (.d D)) H1
structure Nw where
 v : V
 N : Dl
def nothing : Dl := fun _ => none
def Spec (P : Program) (Γ : Tys) (eqs : Eqs) (all : List Oper) (ws : List (Nat × Nat)) (k n0 b : Nat) (o : Oper) (f : Nat -> V) (Hr : Hp) (x : Nw) : Prop :=
 (∀ id, (x.N id).isSome = true -> (b <= id /\ id < b + 1048576) \/ (k, id) ∈ ws) /\
 ∀ f' H', (∀ t ∈ o.looksAt all.toArray, f' t = f t) -> HLe Hr H' ->
   (guardOf all f' o.guard = some true /\ StepOp P Γ eqs b o ⟨f', H', n0⟩ ⟨frPut f' o.dst x.v, ext H' x.N, n0⟩) \/ (guardOf all f' o.guard = some false /\ x.v = .tup [] /\ x.N = nothing)
theorem looks_op {all : List Oper} {o : Oper} {t : Nat} (h : Operand.tmp t ∈ o.op.operands.toList) : t ∈ o.looksAt all.toArray := by
 unfold Oper.looksAt
 exact List.mem_append_left _ (List.mem_filterMap.2 ⟨_, h, rfl⟩)
theorem looks_guard {all : List Oper} {o : Oper} {j : Nat} {w : Bool} {d : Nat} (hg : o.guard = some (j, w)) (hd : (all[j]?).bind (·.dst) = some d) : d ∈ o.looksAt all.toArray := by
 unfold Oper.looksAt
 rw [hg]
 exact List.mem_append_right _ (by simp [hd])
theorem stepD_spec {all : List Oper} {ws : List (Nat × Nat)} {k n0 b : Nat} {o : Oper} {f : Nat -> V} {Hr H H' : Hp} {v : V} (hle : HLe Hr H) (hg : guardOf all f o.guard = some true) (h : StepD P Γ eqs ws k b o f Hr H v H') :
   ∃ N, H' = ext H N /\ Spec P Γ eqs all ws k n0 b o f Hr ⟨v, N⟩ := by
 have hgc : ∀ f' : Nat -> V, (∀ t ∈ o.looksAt all.toArray, f' t = f t) -> guardOf all f' o.guard = some true := fun f' hf => by
   rw [<- hg]; exact guardOf_congr fun j w d h1 h2 => hf d (looks_guard h1 h2)
 cases h with
 | plain v h =>
   refine ⟨nothing, rfl, fun id h => by simp [nothing] at h, fun f' H' hf hH => .inl ⟨hgc f' hf, ?_⟩⟩
   have := evalOp_mono hH h
   rw [evalOp_congr (fun t ht => (hf t (looks_op ht)).symm)] at this
   exact StepOp.plain (st := ⟨f', H', n0⟩) v .none this
 | new v cs h =>
   refine ⟨upd nothing b (some (some cs)), ext_upd .., fun id h => ?_, fun f' H' hf hH => .inl ⟨hgc f' hf, ?_⟩⟩
   . simp only [upd_at] at h
     split at h
     . exact .inl (by omega)
     . simp [nothing] at h
   . have := evalOp_mono hH h
     rw [evalOp_congr (fun t ht => (hf t (looks_op ht)).symm)] at this
     have h2 := StepOp.plain (P := P) (o := o) (st := ⟨f', H', n0⟩) v (.new b cs) this
     simp only [Hp.app] at h2
     rwa [ext_upd] at h2
 | put v id cs h hw =>
   refine ⟨upd nothing id (some (some cs)), ext_upd .., fun i h => ?_, fun f' H' hf hH => .inl ⟨hgc f' hf, ?_⟩⟩
   . simp only [upd_at] at h
     split at h
     . rename_i e; rw [e]; exact .inr hw
     . simp [nothing] at h
   . have := evalOp_mono hH h
     rw [evalOp_congr (fun t ht => (hf t (looks_op ht)).symm)] at this
     have h2 := StepOp.plain (P := P) (o := o) (st := ⟨f', H', n0⟩) v (.put id cs) this
     simp only [Hp.app] at h2
     rwa [ext_upd] at h2
 | mov v id cs h hw =>
   refine ⟨upd (upd nothing id (some none)) b (some (some cs)), ext_mov .., fun i h => ?_, fun f' H' hf hH => .inl ⟨hgc f' hf, ?_⟩⟩
   . simp only [upd_at] at h
     split at h
     . exact .inl (by omega)
     . split at h
       . rename_i e; rw [e]; exact .inr hw
       . simp [nothing] at h
   . have := evalOp_mono hH h
     rw [evalOp_congr (fun t ht => (hf t (looks_op ht)).symm)] at this
     have h2 := StepOp.plain (P := P) (o := o) (st := ⟨f', H', n0⟩) v (.mov id b cs) this
     simp only [Hp.app] at h2
     rwa [ext_mov] at h2
 | call c fo g pre caps args Hin ks r H1 ho hc hgc' hcall hw =>
   refine ⟨callN b Hin ks H1, ext_callN (fun i cs h => hle i cs (hcall.2.1 i cs h)) hcall.2.2.2.1, fun id h => ?_, fun f' H' hf hH => .inl ⟨hgc f' hf, ?_⟩⟩
   . change (callN b Hin ks H1 id).isSome = true at h
     unfold callN at h
     split at h
     . rename_i hk
       split at h
       . simp at h
       . rename_i hne
         exact .inr (hw id (.inl ⟨hk, hne⟩))
     . rename_i hk
       split at h
       . rename_i hi
         exact .inr (hw id (.inr ⟨hk, hi⟩))
       . split at h
         . rename_i hb
           split at h
           . simp at h
           . rename_i hk2
             split at h
             . rename_i cs hcs
               have := hcall.2.2.1 (id - b) (by show (H1 (id - b)).isSome = true; rw [hcs]; rfl) hk2
               exact .inl (by omega)
             . simp at h
         . simp at h
   . have hops : ∀ t, Operand.tmp t ∈ c.operands.toList -> f' t = f t := fun t ht => hf t (looks_op (by rw [ho]; exact ht))
     have e1 : evF f' fo = evF f fo := evF_congr fun t ht => hops t (by subst ht; simp [Call.operands, hc])
     have e2 : capL f' c.args.toList = capL f c.args.toList := capL_congr fun t ht => hops t (by simp only [Call.operands, hc]; simp_all)
     have h2 := StepOp.call (P := P) (Γ := Γ) (eqs := eqs) (b := b) (o := o) (st := ⟨f', H', n0⟩) c fo g pre caps args Hin ks r H1 ho hc (by rw [e1]; exact hgc') (by rw [e2]; exact hcall.le hH)
     rwa [ext_callN (fun i cs h => hH i cs (hcall.2.1 i cs h)) hcall.2.2.2.1] at h2
theorem skip_spec {all : List Oper} {ws : List (Nat × Nat)} {k n0 b : Nat} {o : Oper} {f : Nat -> V} {Hr : Hp} (hg : guardOf all f o.guard = some false) : Spec P Γ eqs all ws k n0 b o f Hr ⟨.tup [], nothing⟩ :=
 ⟨fun id h => by simp [nothing] at h, fun f' H' hf hH => .inr ⟨by rw [<- hg]; exact guardOf_congr fun j w d h1 h2 => hf d (looks_guard h1 h2), rfl, rfl⟩⟩
def SpecP (P : Program) (all : List Oper) (o : Oper) (f : Nat -> V) (Hr : Hp) (D : D) : Prop :=
 ∀ (n0 b : Nat) f' H', (∀ t ∈ o.looksAt all.toArray, f' t = f t) -> HLe Hr H' -> guardOf all f' o.guard = some true /\ ∃ st', st'.nx = n0 /\ StepP P b o ⟨f', H', n0⟩ (.d D) st'
theorem stepDP_spec {all : List Oper} {o : Oper} {f : Nat -> V} {Hr : Hp} {D : D} (hg : guardOf all f o.guard = some true) (h : StepDP P o f Hr D) : SpecP P all o f Hr D := by
 obtain ⟨c, fo, g, pre, caps, args, Hin, ks, H1, ho, hc, hgc', hcall⟩ := h
 intro n0 b f' H' hf hH
 have hops : ∀ t, Operand.tmp t ∈ c.operands.toList -> f' t = f t := fun t ht => hf t (looks_op (by rw [ho]; exact ht))
 have e1 : evF f' fo = evF f fo := evF_congr fun t ht => hops t (by subst ht; simp [Call.operands, hc])
 have e2 : capL f' c.args.toList = capL f c.args.toList := capL_congr fun t ht => hops t (by simp only [Call.operands, hc]; simp_all)
 refine ⟨by rw [<- hg]; exact guardOf_congr fun j w d h1 h2 => hf d (looks_guard h1 h2), _, ?_, StepP.call (P := P) (b := b) (o := o) (st := ⟨f', H', n0⟩) c fo g pre caps args Hin ks (.d D) H1 ho hc (by rw [e1]; exact hgc') (by rw [e2]; exact hcall.le hH)⟩
 rfl
def seen (ws : List (Nat × Nat)) (cl : List Nat) (k id : Nat) : Bool := ws.all fun p => p.2 != id || p.1 == k || inC cl k p.1 || inC cl p.1 k
def Hcl (ws : List (Nat × Nat)) (cl : List Nat) (k n0 : Nat) (H : Hp) : Hp := fun id => if (id < n0 \/ inC cl k ((id - n0) / 1048576) = true) /\ seen ws cl k id = true then H id else none
theorem Hcl_le (ws : List (Nat × Nat)) (cl : List Nat) (k n0 : Nat) (H : Hp) : HLe (Hcl ws cl k n0 H) H := fun id cs h => by
 unfold Hcl at h
 split at h
 . exact h
 . cases h
def wsOk (ws : List (Nat × Nat)) (cl : List Nat) (n0 : Nat) : Bool := ws.all fun p =>
 (ws.all fun q => !(q.2 == p.2) || !decide (p.1 < q.1) || inC cl q.1 p.1) && (decide (p.2 < n0) || (p.2 - n0) / 1048576 == p.1 || inC cl p.1 ((p.2 - n0) / 1048576))
theorem wsOk_two {ws : List (Nat × Nat)} {cl : List Nat} {n0 i j id : Nat} (h : wsOk ws cl n0 = true) (hi : (i, id) ∈ ws) (hj : (j, id) ∈ ws) (hij : i < j) : inC cl j i = true := by
 have h1 := List.all_eq_true.1 h _ hi
 simp only [Bool.and_eq_true] at h1
 have h2 := List.all_eq_true.1 h1.1 _ hj
 simpa [hij] using h2
theorem wsOk_made {ws : List (Nat × Nat)} {cl : List Nat} {n0 i id : Nat} (h : wsOk ws cl n0 = true) (hi : (i, id) ∈ ws) (hid : ¬ id < n0) (hne : (id - n0) / 1048576 ≠ i) : inC cl i ((id - n0) / 1048576) = true := by
 have h1 := List.all_eq_true.1 h _ hi
 simp only [Bool.and_eq_true] at h1
 simpa [hid, hne] using h1.2
theorem inC_lt {cl : List Nat} {j i : Nat} (h : inC cl j i = true) : i < j := by simp [inC] at h; exact h.1
def ADraw (P : Program) (Γ : Tys) (eqs : Eqs) (all : List Oper) (ws : List (Nat × Nat)) (cl : List Nat) (n0 : Nat) (S : Nat -> (Nat -> V) -> Hp -> Prop) : Nat -> List Oper -> (Nat -> V) -> Hp -> ((Nat -> V) -> Hp -> Prop) -> Prop
 | _, [], f, H, K => K f H
 | k, o :: rest, f, H, K => S k f H /\ AGuard (guardOf all f o.guard) (∃ v H', StepD P Γ eqs ws k (n0 + 1048576 * k) o f (Hcl ws cl k n0 H) H v H' /\ ADraw P Γ eqs all ws cl n0 S (k + 1) rest (frPut f o.dst v) H' K)
     (ADraw P Γ eqs all ws cl n0 S (k + 1) rest (frPut f o.dst (.tup [])) H K)
def ADead (P : Program) (Γ : Tys) (eqs : Eqs) (all : List Oper) (ws : List (Nat × Nat)) (cl : List Nat) (n0 k0 : Nat) : Nat -> List Oper -> (Nat -> V) -> Hp -> Prop
 | _, [], _, _ => True
 | k, o :: rest, f, H => (inC cl k k0 = true /\ ADead P Γ eqs all ws cl n0 k0 (k + 1) rest f H) \/ (inC cl k k0 = false /\ AGuard (guardOf all f o.guard) (∃ v H', StepD P Γ eqs ws k (n0 + 1048576 * k) o f (Hcl ws cl k n0 H) H v H' /\ ADead P Γ eqs all ws cl n0 k0 (k + 1) rest (frPut f o.dst v) H')
     (ADead P Γ eqs all ws cl n0 k0 (k + 1) rest (frPut f o.dst (.tup [])) H))
def ADrawP (P : Program) (Γ : Tys) (eqs : Eqs) (all : List Oper) (ws : List (Nat × Nat)) (cl : List Nat) (n0 : Nat) (Z : V -> Prop) : Nat -> List Oper -> (Nat -> V) -> Hp -> ((Nat -> V) -> Hp -> Prop) -> Prop
 | _, [], f, H, K => K f H
 | k, o :: rest, f, H, K => AGuard (guardOf all f o.guard) ((∃ v H', StepD P Γ eqs ws k (n0 + 1048576 * k) o f (Hcl ws cl k n0 H) H v H' /\ ADrawP P Γ eqs all ws cl n0 Z (k + 1) rest (frPut f o.dst v) H' K) \/
       ∃ D, StepDP P o f (Hcl ws cl k n0 H) D /\ Z (.d D) /\ ADead P Γ eqs all ws cl n0 k (k + 1) rest f H)
     (ADrawP P Γ eqs all ws cl n0 Z (k + 1) rest (frPut f o.dst (.tup [])) H K)
def noop (o : Oper) : Oper := { o with dst := none, op := .assign (.const .nilIface), guard := none }
def deadB (cl : List Nat) (k0 k : Nat) : Bool := k == k0 || inC cl k k0
def maskO (cl : List Nat) (k0 : Nat) : Nat -> List Oper -> List Oper
 | _, [] => []
 | k, o :: r => (if deadB cl k0 k = true then noop o else o) :: maskO cl k0 (k + 1) r
theorem maskO_len {cl : List Nat} {k0 : Nat} : ∀ {l : List Oper} {k : Nat}, (maskO cl k0 k l).length = l.length
 | [], _ => rfl
 | _ :: r, k => by simp [maskO, maskO_len (l := r)]
theorem maskO_get {cl : List Nat} {k0 : Nat} : ∀ {l : List Oper} {k i : Nat}, (maskO cl k0 k l)[i]? = (l[i]?).map fun o => if deadB cl k0 (k + i) = true then noop o else o
 | [], _, _ => by simp [maskO]
 | o :: r, k, 0 => by simp [maskO]
 | o :: r, k, i + 1 => by simp [maskO, maskO_get (l := r), show k + 1 + i = k + (i + 1) by omega]
theorem noop_draw {all : List Oper} {ws : List (Nat × Nat)} {cl : List Nat} {n0 k : Nat} {S : Nat -> (Nat -> V) -> Hp -> Prop} {o : Oper} {rest : List Oper} {f : Nat -> V} {H : Hp} {K : (Nat -> V) -> Hp -> Prop} (hs : S k f H) (h : ADraw P Γ eqs all ws cl n0 S (k + 1) rest f H K) : ADraw P Γ eqs all ws cl n0 S k (noop o :: rest) f H K :=
 ⟨hs, fun _ => ⟨_, _, .plain (.d (.lit .nilIface)) rfl, h⟩, fun h => by cases h⟩
theorem dead_draw {all : List Oper} {ws : List (Nat × Nat)} {cl : List Nat} {n0 k0 : Nat} {S : Nat -> (Nat -> V) -> Hp -> Prop} (hS : ∀ k f H, k0 < k -> S k f H) : ∀ (rest : List Oper) (k : Nat) (f : Nat -> V) (H : Hp), k0 < k -> ADead P Γ eqs all ws cl n0 k0 k rest f H -> ADraw P Γ eqs all ws cl n0 S k (maskO cl k0 k rest) f H fun _ _ => True
 | [], _, _, _, _, _ => trivial
 | o :: r, k, f, H, hk, h => by
   simp only [maskO]
   rcases h with ⟨h1, h2⟩ | ⟨h1, h2⟩
   . rw [if_pos (by simp [deadB, h1])]
     exact noop_draw (hS k f H hk) (dead_draw hS r (k + 1) f H (by omega) h2)
   . rw [if_neg (by simp [deadB, h1]; omega)]
     refine ⟨hS k f H hk, ?_⟩
     unfold AGuard at h2 ⊢
     split at h2
     . rename_i b hb
       exact ⟨fun e => (h2.1 e).imp fun v hv => hv.imp fun H' hh => ⟨hh.1, dead_draw hS r (k + 1) _ _ (by omega) hh.2⟩, fun e => dead_draw hS r (k + 1) _ _ (by omega) (h2.2 e)⟩
     . exact h2.elim
theorem drawP_cases {all : List Oper} {ws : List (Nat × Nat)} {cl : List Nat} {n0 : Nat} {Z : V -> Prop} {K : (Nat -> V) -> Hp -> Prop} : ∀ (rest : List Oper) (k : Nat) (f : Nat -> V) (H : Hp), ADrawP P Γ eqs all ws cl n0 Z k rest f H K ->
   ADraw P Γ eqs all ws cl n0 (fun _ _ _ => True) k rest f H K \/ ∃ k0 o D, k <= k0 /\ rest[k0 - k]? = some o /\ Z (.d D) /\ ADraw P Γ eqs all ws cl n0 (fun i f H => i = k0 -> guardOf all f o.guard = some true /\ StepDP P o f (Hcl ws cl k0 n0 H) D) k (maskO cl k0 k rest) f H fun _ _ => True
 | [], _, _, _, h => .inl h
 | o :: r, k, f, H, h => by
   have lift : ∀ (f' : Nat -> V) (H' : Hp) (Y : Prop), (∀ S : Nat -> (Nat -> V) -> Hp -> Prop, ∀ r' K', S k f H -> ADraw P Γ eqs all ws cl n0 S (k + 1) r' f' H' K' -> ADraw P Γ eqs all ws cl n0 S k (o :: r') f H K') -> ADrawP P Γ eqs all ws cl n0 Z (k + 1) r f' H' K ->
       ADraw P Γ eqs all ws cl n0 (fun _ _ _ => True) k (o :: r) f H K \/ ∃ k0 o' D, k <= k0 /\ (o :: r)[k0 - k]? = some o' /\ Z (.d D) /\ ADraw P Γ eqs all ws cl n0 (fun i f H => i = k0 -> guardOf all f o'.guard = some true /\ StepDP P o' f (Hcl ws cl k0 n0 H) D) k (maskO cl k0 k (o :: r)) f H fun _ _ => True := fun f' H' _ hl h => by
     rcases drawP_cases r (k + 1) f' H' h with h | ⟨k0, o', D, h1, h2, h3, h4⟩
     . exact .inl (hl _ _ _ trivial h)
     . refine .inr ⟨k0, o', D, by omega, ?_, h3, ?_⟩
       . rw [show k0 - k = (k0 - (k + 1)) + 1 by omega, List.getElem?_cons_succ]; exact h2
       . simp only [maskO]
         rw [if_neg (by simp [deadB, inC]; omega)]
         exact hl _ _ _ (fun e => by omega) h4
   simp only [ADrawP, AGuard] at h
   cases hg : guardOf all f o.guard with
   | none => rw [hg] at h; exact h.elim
   | some b =>
     rw [hg] at h
     cases b with
     | true =>
       rcases h.1 rfl with ⟨v, H', hs, hr⟩ | ⟨D, hs, hz, hr⟩
       . exact lift _ _ True (fun S r' K' hS hh => ⟨hS, by rw [hg]; exact ⟨fun _ => ⟨v, H', hs, hh⟩, nofun⟩⟩) hr
       . refine .inr ⟨k, o, D, Nat.le_refl _, by simp, hz, ?_⟩
         simp only [maskO]
         rw [if_pos (by simp [deadB])]
         exact noop_draw (fun _ => ⟨hg, hs⟩) (dead_draw (fun i f H hi e => by omega) r (k + 1) f H (by omega) hr)
     | false => exact lift _ _ True (fun S r' K' hS hh => ⟨hS, by rw [hg]; exact ⟨nofun, fun _ => hh⟩⟩) (h.2 rfl)
section
variable (dst : Nat -> Option Nat) (v : Nat -> V) (N : Nat -> Dl) (f0 : Nat -> V) (H0 : Hp)
def fS : Nat -> (Nat -> Bool) -> Nat -> V
 | 0, _, t => f0 t
 | k + 1, s, t => if s k = true /\ dst k = some t then v k else fS k s t
def HS : Nat -> (Nat -> Bool) -> Hp
 | 0, _ => H0
 | k + 1, s => fun id => if s k = true /\ (N k id).isSome = true then (N k id).join else HS k s id
end
def allT : Nat -> Bool := fun _ => true
section
variable {dst : Nat -> Option Nat} {v v' : Nat -> V} {N N' : Nat -> Dl} {f0 : Nat -> V} {H0 : Hp} {n0 : Nat}
theorem fS_congr {s s' : Nat -> Bool} : ∀ {k : Nat} {t : Nat}, (∀ i, i < k -> dst i = some t -> s i = s' i /\ v i = v' i) -> fS dst v f0 k s t = fS dst v' f0 k s' t
 | 0, _, _ => rfl
 | k + 1, t, h => by
   simp only [fS]
   rw [fS_congr (k := k) fun i hi hd => h i (by omega) hd]
   by_cases hd : dst k = some t
   . obtain ⟨h1, h2⟩ := h k (by omega) hd
     simp only [h1, h2]
   . simp [hd]
theorem fS_cut {s : Nat -> Bool} : ∀ {m k : Nat} {t : Nat}, k <= m -> (∀ i, k <= i -> i < m -> dst i = some t -> s i = false) -> fS dst v f0 m s t = fS dst v f0 k s t
 | 0, k, t, hk, _ => by rw [show k = 0 by omega]
 | m + 1, k, t, hk, h => by
   by_cases hkm : k = m + 1
   . rw [hkm]
   . simp only [fS]
     rw [if_neg (fun hh => by have := h m (by omega) (by omega) hh.2; simp [this] at hh)]
     exact fS_cut (by omega) fun i h1 h2 => h i h1 (by omega)
theorem fS_put {s : Nat -> Bool} {j : Nat} : ∀ {m : Nat}, j < m -> (∀ i, i < m -> i ≠ j -> ∀ t, dst i = some t -> dst j ≠ some t) -> fS dst v f0 m (upd s j true) = frPut (fS dst v f0 m s) (dst j) (v j)
 | 0, h, _ => by omega
 | m + 1, hj, hd => by
   funext t
   by_cases hjm : j = m
   . subst hjm
     have e : fS dst v f0 j (upd s j true) t = fS dst v f0 j s t := fS_congr fun i hi _ => ⟨by rw [upd_at, if_neg (by omega)], rfl⟩
     simp only [fS, upd_at, if_true, true_and, e]
     cases hdj : dst j with
     | none => simp [frPut]
     | some d =>
       simp only [frPut, upd_at]
       by_cases ht : t = d
       . simp [ht]
       . simp [ht, Ne.symm ht]
   . have ih := congrFun (fS_put (s := s) (j := j) (m := m) (by omega) fun i hi => hd i (by omega)) t
     simp only [fS, ih, upd_at, if_neg (Ne.symm hjm)]
     cases hdj : dst j with
     | none => simp [frPut]
     | some d =>
       simp only [frPut, upd_at]
       by_cases ht : t = d
       . subst ht
         have : dst m ≠ some t := fun e => hd m (by omega) (Ne.symm hjm) t e hdj
         simp [this]
       . simp [ht]
theorem HS_at {s s' : Nat -> Bool} : ∀ {m : Nat} {id : Nat}, (∀ i, i < m -> (N i id).isSome = true -> s i = s' i) -> HS N H0 m s id = HS N H0 m s' id
 | 0, _, _ => rfl
 | m + 1, id, h => by
   have ih := HS_at (m := m) (id := id) fun i hi => h i (by omega)
   simp only [HS, ih]
   by_cases hn : (N m id).isSome = true
   . rw [h m (by omega) hn]
   . simp [hn]
theorem HS_cut {s : Nat -> Bool} : ∀ {m k : Nat} {id : Nat}, k <= m -> (∀ i, k <= i -> i < m -> (N i id).isSome = true -> s i = false) -> HS N H0 m s id = HS N H0 k s id
 | 0, k, id, hk, _ => by rw [show k = 0 by omega]
 | m + 1, k, id, hk, h => by
   by_cases hkm : k = m + 1
   . rw [hkm]
   . simp only [HS]
     rw [if_neg (fun hh => by have := h m (by omega) (by omega) hh.2; rw [this] at hh; exact absurd hh.1 (by simp))]
     exact HS_cut (by omega) fun i h1 h2 => h i h1 (by omega)
theorem HS_ext {s : Nat -> Bool} {j : Nat} : ∀ {m : Nat}, j < m -> s j = false -> (∀ i id, j < i -> i < m -> (N i id).isSome = true -> (N j id).isSome = true -> s i = false) -> HS N H0 m (upd s j true) = ext (HS N H0 m s) (N j)
 | 0, h, _, _ => by omega
 | m + 1, hj, hs, h => by
   funext id
   by_cases hjm : j = m
   . subst hjm
     have e : HS N H0 j (upd s j true) id = HS N H0 j s id := HS_at fun i hi _ => by rw [upd_at, if_neg (by omega)]
     simp only [HS, upd_at, if_true, true_and, e, ext, hs, Bool.false_eq_true, false_and, if_false]
     cases N j id <;> simp
   . have ih := congrFun (HS_ext (s := s) (j := j) (m := m) (by omega) hs fun i id h1 h2 => h i id h1 (by omega)) id
     simp only [HS, ih, upd_at, if_neg (Ne.symm hjm), ext]
     cases hn : N j id with
     | none => rfl
     | some cs =>
       simp only
       by_cases hm : (N m id).isSome = true
       . have := h m id (by omega) (by omega) hm (by rw [hn]; rfl)
         simp [this]
       . simp [hm]
theorem HS_succ {k : Nat} : HS N H0 (k + 1) allT = ext (HS N H0 k allT) (N k) := by
 funext id
 simp only [HS, allT, true_and, ext]
 cases N k id <;> simp
theorem HS_congr {s : Nat -> Bool} : ∀ {m : Nat}, (∀ i, i < m -> N i = N' i) -> HS N H0 m s = HS N' H0 m s
 | 0, _ => rfl
 | m + 1, h => by
   funext id
   simp only [HS, h m (by omega), HS_congr (m := m) fun i hi => h i (by omega)]
theorem draw_out {all az : List Oper} {ws : List (Nat × Nat)} {cl : List Nat} {S : Nat -> (Nat -> V) -> Hp -> Prop} {K : (Nat -> V) -> Hp -> Prop} (hdst : ∀ k, dst k = (az[k]?).bind (·.dst)) :
   ∀ (rest : List Oper) (k : Nat) (v0 : Nat -> V) (N0 : Nat -> Dl), (∀ i, rest[i]? = az[k + i]?) -> ADraw P Γ eqs all ws cl n0 S k rest (fS dst v0 f0 k allT) (HS N0 H0 k allT) K ->
     ∃ v N, (∀ i, i < k -> v i = v0 i /\ N i = N0 i) /\ K (fS dst v f0 (k + rest.length) allT) (HS N H0 (k + rest.length) allT) /\
       ∀ i o, rest[i]? = some o -> Spec P Γ eqs all ws (k + i) n0 (n0 + 1048576 * (k + i)) o (fS dst v f0 (k + i) allT) (Hcl ws cl (k + i) n0 (HS N H0 (k + i) allT)) ⟨v (k + i), N (k + i)⟩ /\ S (k + i) (fS dst v f0 (k + i) allT) (HS N H0 (k + i) allT)
 | [], k, v0, N0, _, h => ⟨v0, N0, fun _ _ => ⟨rfl, rfl⟩, h, fun i o hi => by simp at hi⟩
 | o :: rest, k, v0, N0, hr, h => by
   have hok : az[k]? = some o := by have := hr 0; simpa using this.symm
   have hdk : dst k = o.dst := by rw [hdst, hok]; rfl
   obtain ⟨x, hx, hnext⟩ : ∃ x : Nw, Spec P Γ eqs all ws k n0 (n0 + 1048576 * k) o (fS dst v0 f0 k allT) (Hcl ws cl k n0 (HS N0 H0 k allT)) x /\
       ADraw P Γ eqs all ws cl n0 S (k + 1) rest (frPut (fS dst v0 f0 k allT) o.dst x.v) (ext (HS N0 H0 k allT) x.N) K := by
     simp only [ADraw] at h
     replace h := h.2
     cases hg : guardOf all (fS dst v0 f0 k allT) o.guard with
     | none => rw [hg] at h; exact h.elim
     | some b =>
       rw [hg] at h
       cases b with
       | true =>
         obtain ⟨v, H', hs, hrest⟩ := h.1 rfl
         obtain ⟨N, rfl, hsp⟩ := stepD_spec (n0 := n0) (Hcl_le _ _ _ _ _) hg hs
         exact ⟨⟨v, N⟩, hsp, hrest⟩
       | false => exact ⟨⟨.tup [], nothing⟩, skip_spec hg, h.2 rfl⟩
   have e1 : frPut (fS dst v0 f0 k allT) o.dst x.v = fS dst (upd v0 k x.v) f0 (k + 1) allT := by
     funext t
     have : fS dst (upd v0 k x.v) f0 k allT t = fS dst v0 f0 k allT t := fS_congr fun i hi _ => ⟨rfl, by rw [upd_at, if_neg (by omega)]⟩
     simp only [fS, this, hdk, allT, true_and, upd_at, if_true]
     cases o.dst with
     | none => simp [frPut]
     | some d =>
       simp only [frPut, upd_at]
       by_cases ht : t = d
       . simp [ht]
       . simp [ht, Ne.symm ht]
   have e2 : ext (HS N0 H0 k allT) x.N = HS (upd N0 k x.N) H0 (k + 1) allT := by
     rw [HS_succ]
     rw [HS_congr (N := upd N0 k x.N) (N' := N0) fun i hi => by rw [upd_at, if_neg (by omega)]]
     simp [upd_at]
   rw [e1, e2] at hnext
   obtain ⟨v, N, hag, hK, hsp⟩ := draw_out hdst rest (k + 1) _ _ (fun i => by have := hr (i + 1); simpa [Nat.add_assoc, Nat.add_comm 1 i] using this) hnext
   have hv : v k = x.v /\ N k = x.N := by have := hag k (by omega); simpa [upd_at] using this
   have hlow : ∀ i, i < k -> v i = v0 i /\ N i = N0 i := fun i hi => by have := hag i (by omega); simpa [upd_at, Nat.ne_of_lt hi] using this
   refine ⟨v, N, hlow, by simpa [Nat.add_assoc, Nat.add_comm 1] using hK, fun i o' hi => ?_⟩
   cases i with
   | zero =>
     simp only [List.getElem?_cons_zero, Option.some.injEq] at hi
     subst hi
     have e3 : fS dst v f0 k allT = fS dst v0 f0 k allT := by
       funext t
       exact fS_congr fun i hi _ => ⟨rfl, (hlow i hi).1⟩
     have e4 : HS N H0 k allT = HS N0 H0 k allT := HS_congr fun i hi => (hlow i hi).2
     simp only [Nat.add_zero]
     rw [e3, e4, hv.1, hv.2]
     simp only [ADraw] at h
     exact ⟨hx, h.1⟩
   | succ i =>
     have := hsp i o' (by simpa using hi)
     rwa [show k + 1 + i = k + (i + 1) by omega] at this
end
structure DrawOk (nt : Nat) (all : List Oper) (cl : List Nat) (m : Nat) : Prop where
 dsts : dstsOk nt all = true
 le : m <= all.length
 acyc : ∀ j o, all[j]? = some o -> ∀ e ∈ o.after, Region.binds .any e = true -> e.on < j
 clo : ∀ j o i, all[j]? = some o -> inC cl j i = true -> ∃ e ∈ o.after, Region.binds .any e = true /\ (e.on = i \/ inC cl e.on i = true)
 looks : ∀ j o, all[j]? = some o -> j < m -> ∀ t ∈ o.looksAt all.toArray, ∀ i, i < m -> (all[i]?).bind (·.dst) = some t -> inC cl j i = true \/ inC cl i j = true
 dist : ∀ i j, i < j -> j < m -> ∀ t, (all[i]?).bind (·.dst) = some t -> (all[j]?).bind (·.dst) ≠ some t
 fence : ∀ j o i, all[j]? = some o -> m <= j -> i < j -> inC cl j i = true
theorem drawOk_spec {nt : Nat} {all : List Oper} {cl : List Nat} {m : Nat} (h : drawOk nt all cl m = true) : DrawOk nt all cl m := by
 unfold drawOk at h
 simp only [Bool.and_eq_true, decide_eq_true_eq] at h
 obtain ⟨⟨hd, hm⟩, h⟩ := h
 have at' : ∀ j o, all[j]? = some o -> _ := fun j o ho => by
   have h1 := List.all_eq_true.1 h j (List.mem_range.2 (List.getElem?_eq_some_iff.1 ho).1)
   rw [ho] at h1
   simp only [Bool.and_eq_true] at h1
   exact h1
 refine ⟨hd, hm, ?_, ?_, ?_, ?_, ?_⟩
 . intro j o ho e he hb
   have := List.all_eq_true.1 (at' j o ho).1.1 e (by simpa using he)
   simpa [hb] using this
 . intro j o i ho hi
   have hij : i < j := by simp [inC] at hi; exact hi.1
   have := List.all_eq_true.1 (at' j o ho).1.2 i (List.mem_range.2 hij)
   simp only [hi, Bool.not_true, Bool.false_or, List.any_eq_true, Bool.and_eq_true, Bool.or_eq_true, beq_iff_eq] at this
   obtain ⟨e, he, h1, h2⟩ := this
   exact ⟨e, by simpa using he, h1, h2⟩
 . intro j o ho hj t ht i hi hdi
   have h1 := (at' j o ho).2
   rw [if_pos hj, Bool.and_eq_true] at h1
   have := List.all_eq_true.1 (List.all_eq_true.1 h1.1 t ht) i (List.mem_range.2 hi)
   rw [hdi] at this
   simpa using this
 . intro i j hij hj t hdi hdj
   cases ho : all[j]? with
   | none => rw [ho] at hdj; simp at hdj
   | some o =>
     have h1 := (at' j o ho).2
     rw [if_pos hj, Bool.and_eq_true] at h1
     have := List.all_eq_true.1 h1.2 i (List.mem_range.2 hij)
     rw [ho] at hdj
     rw [hdi, show o.dst = some t from hdj] at this
     simp at this
 . intro j o i ho hj hi
   have h1 := (at' j o ho).2
   rw [if_neg (by omega)] at h1
   exact List.all_eq_true.1 h1 i (List.mem_range.2 hi)
def unl : Nat -> (Nat -> Bool) -> Nat
 | 0, _ => 0
 | n + 1, s => unl n s + if s n then 0 else 1
theorem unl_same {s : Nat -> Bool} {j : Nat} : ∀ {n : Nat}, n <= j -> unl n (upd s j true) = unl n s
 | 0, _ => rfl
 | n + 1, h => by
   have e : n ≠ j := by omega
   simp only [unl, unl_same (s := s) (j := j) (n := n) (by omega), upd_at, if_neg e]
theorem unl_set {s : Nat -> Bool} {j : Nat} (hs : s j = false) : ∀ {n : Nat}, j < n -> unl n (upd s j true) + 1 = unl n s
 | 0, h => by omega
 | n + 1, h => by
   simp only [unl]
   by_cases hj : j = n
   . subst hj
     rw [unl_same (Nat.le_refl _)]
     simp [upd_at, hs]
   . have := unl_set (n := n) hs (by omega)
     rw [upd_at, if_neg (Ne.symm hj)]
     omega
theorem unl_pos {s : Nat -> Bool} {j : Nat} (hs : s j = false) : ∀ {n : Nat}, j < n -> 0 < unl n s := fun h => by
 have := unl_set hs h; omega
structure Listed (n : Nat) (s : Nat -> Bool) (l : Array Bool) : Prop where
 size : l.size = n
 at' : ∀ i, i < n -> l[i]? = some (s i)
theorem Listed.set {n : Nat} {s : Nat -> Bool} {l : Array Bool} (h : Listed n s l) {j : Nat} (hj : j < n) : Listed n (upd s j true) (l.setIfInBounds j true) := by
 refine ⟨by simp [h.size], fun i hi => ?_⟩
 rw [upd_at]
 by_cases hij : j = i
 . subst hij; simp [h.size, hj]
 . rw [Array.getElem?_setIfInBounds_ne hij, if_neg (Ne.symm hij)]; exact h.at' i hi
theorem Listed.ready {all : List Oper} {s : Nat -> Bool} {l : Array Bool} (h : Listed all.length s l) {j : Nat} : j ∈ Region.ready .any all.toArray l ↔ ∃ o, all[j]? = some o /\ s j = false /\ ∀ e ∈ o.after, Region.binds .any e = true -> e.on < all.length /\ s e.on = true := by
 rw [mem_ready]
 constructor
 . rintro ⟨h0, o, ho, he⟩
   have ho : all[j]? = some o := by simpa using ho
   have hj := (List.getElem?_eq_some_iff.1 ho).1
   refine ⟨o, ho, ?_, fun e hm hb => ?_⟩
   . rw [Array.getD_eq_getD_getElem?, h.at' j hj] at h0; exact h0
   . have h1 := he e hm hb
     rw [Array.getD_eq_getD_getElem?] at h1
     by_cases hl : e.on < all.length
     . rw [h.at' _ hl] at h1; exact ⟨hl, h1⟩
     . rw [Array.getElem?_eq_none (by rw [h.size]; omega)] at h1; simp at h1
 . rintro ⟨o, ho, hs, he⟩
   have hj := (List.getElem?_eq_some_iff.1 ho).1
   refine ⟨by rw [Array.getD_eq_getD_getElem?, h.at' j hj]; exact hs, o, by simpa using ho, fun e hm hb => ?_⟩
   obtain ⟨h1, h2⟩ := he e hm hb
   rw [Array.getD_eq_getD_getElem?, h.at' _ h1]; exact h2
variable {G : Gh} {a : Act} {W : World}
theorem tailAny (hΓ : GOk P Γ) (hE : EqOk P eqs) {all : List Oper} {cl : List Nat} {m : Nat} (hd : DrawOk E.nt all cl m) {Q : Exit -> Act -> World -> Prop} {K : St -> Prop} {Kx : V -> St -> Prop} (hK : EndOk E Q K Kx) :
   ∀ (rest : List Oper) (k : Nat) (st : St) (G : Gh) (a : Act) (W : World) (fuel : Nat) (l : Array Bool), all.drop k = rest -> m <= k -> k <= all.length -> Listed all.length (fun i => decide (i < k)) l -> rest.length <= fuel ->
     Inv E (· < st.nx + 1048576 * k) G st a W -> AOps P Γ eqs all k rest st K Kx -> wpAnyIn E.F 0 P .any all.toArray Q fuel l a W
 | [], k, st, G, a, W, fuel, l, hr, hm, hk, hl, hf, hI, h => by
   have hkn : k = all.length := by have := congrArg List.length hr; simp at this; omega
   have hq : Q .normal a W := by
     exact hK.ok G _ a W (hI.nx _) h
   have hno : ∀ j, j ∉ Region.ready .any all.toArray l := fun j hj => by
     obtain ⟨o, ho, hs, _⟩ := hl.ready.1 hj
     have := (List.getElem?_eq_some_iff.1 ho).1
     simp at hs; omega
   cases fuel with
   | zero => exact ⟨List.eq_nil_iff_forall_not_mem.2 hno, hq⟩
   | succ n =>
     unfold wpAnyIn
     exact And.intro (fun _ => hq) (fun i hi => absurd hi (hno i))
 | o :: rest, k, st, G, a, W, fuel, l, hr, hm, hk, hl, hf, hI, h => by
   have hok : all[k]? = some o := by have := congrArg (·[0]?) hr; simpa using this
   have hkn := (List.getElem?_eq_some_iff.1 hok).1
   have hrest : all.drop (k + 1) = rest := by
     have := congrArg List.tail hr
     rwa [List.tail_drop] at this
   have hd1 : ∀ d, o.dst = some d -> d < E.nt := dst_lt hd.dsts (List.mem_of_getElem? hok)
   cases fuel with
   | zero => simp at hf
   | succ fuel =>
     have hready : k ∈ Region.ready .any all.toArray l := hl.ready.2 ⟨o, hok, by simp, fun e he hb => by have := hd.acyc k o hok e he hb; exact ⟨by omega, by simpa using this⟩⟩
     unfold wpAnyIn
     refine And.intro (fun hnil => absurd hready (by rw [hnil]; exact List.not_mem_nil)) (fun j hj => ?_)
     obtain ⟨o', ho', hs, hed⟩ := hl.ready.1 hj
     have hjk : j = k := by
       have hge : k <= j := by simpa using hs
       by_cases hjk : j = k
       . exact hjk
       ·
         exfalso
         have hcl : ∀ n j, j <= n -> ∀ o', all[j]? = some o' -> (∀ e ∈ o'.after, Region.binds .any e = true -> e.on < k) -> inC cl j k = true -> False := by
           intro n
           induction n with
           | zero => intro j hj o' ho' he hi; simp [inC] at hi; omega
           | succ n ih =>
             intro j hj o' ho' he hi
             obtain ⟨e, hem, heb, h1 | h1⟩ := hd.clo j o' k ho' hi
             . have := he e hem heb; omega
             . have := he e hem heb
               simp [inC] at h1; omega
         exact hcl j j (Nat.le_refl _) o' ho' (fun e he hb => by have := (hed e he hb).2; simpa using this) (hd.fence j o' k ho' (by omega) (by omega))
     subst hjk
     rw [hok] at ho'; cases ho'
     have hl' : Listed all.length (fun i => decide (i < j + 1)) (l.setIfInBounds j true) := by
       have := hl.set hkn
       refine ⟨this.size, fun i hi => ?_⟩
       rw [this.at' i hi, upd_at]
       by_cases hij : i = j
       . simp [hij]
       . rw [if_neg hij]
         simp only [Option.some.injEq, decide_eq_decide]
         omega
     simp only [AOps, AGuard] at h
     cases hg : guardOf all st.fr o.guard with
     | none => simp [hg] at h
     | some b =>
       rw [hg] at h
       have hw := guard_sound hI hg
       unfold wpOpIn
       rw [show (all.toArray)[j]? = some o by simpa using hok]
       simp only
       rw [hw]
       cases b with
       | true =>
         simp only [if_true]
         rcases h.1 rfl with ⟨st', hs, hrest'⟩ | ⟨v, st', hs, hx⟩
         . refine step_sound hΓ hE hI (U' := (· < st.nx + 1048576 * (j + 1))) (fun i hi => by omega) (fun i hi => by omega) (fun i hi => by omega) hd1 hs fun G' a' W' hI' => ?_
           rw [<- hs.nx] at hI'
           exact tailAny hΓ hE hd hK rest (j + 1) st' G' a' W' fuel _ hrest (by omega) hkn hl' (by simpa using hf) hI' hrest'
         . refine stepP_sound hI (U' := (· < st.nx + 1048576 * (j + 1))) (fun i hi => by omega) (fun i hi => by omega) (fun i hi => by omega) hd1 hs fun G' W' ch h1 h2 hI' => ?_
           rw [<- hs.nx] at hI' h2
           exact hK.pan G' v ⟨st'.fr, st'.H, st'.nx + 1048576 * (j + 1)⟩ a W' ch (hI'.nx _) h1 h2 hx
       | false =>
         simp only [Bool.false_eq_true, if_false]
         have hI' := (hI.mono (U' := (· < st.nx + 1048576 * (j + 1))) (fun i hi => by omega)).slot tup_nil (by simp [AV]) o.dst hd1
         refine And.intro (fun _ _ => trivial) ?_
         exact tailAny hΓ hE hd hK rest (j + 1) _ G _ W fuel _ hrest (by omega) hkn hl' (by simpa using hf) hI' (h.2 rfl)
def usedBy (n0 : Nat) (s : Nat -> Bool) (id : Nat) : Prop := id < n0 \/ ∃ k, s k = true /\ n0 + 1048576 * k <= id /\ id < n0 + 1048576 * k + 1048576
theorem headAny (hΓ : GOk P Γ) (hE : EqOk P eqs) {all az bs : List Oper} (hall : all = az ++ bs) {ws : List (Nat × Nat)} {cl : List Nat} (hd : DrawOk E.nt all cl az.length) {Q : Exit -> Act -> World -> Prop} {K : St -> Prop} {Kx : V -> St -> Prop}
   {dst : Nat -> Option Nat} (dead : Nat -> Bool) (hdst : ∀ i o, az[i]? = some o -> dst i = if dead i = true then none else o.dst) {v : Nat -> V} {N : Nat -> Dl} {f0 : Nat -> V} {H0 : Hp} {n0 : Nat} (hws : wsOk ws cl n0 = true) (hK : EndOk E Q K Kx)
   (hend : (∀ i, i < az.length -> dead i = false) -> AOps P Γ eqs all az.length bs ⟨fS dst v f0 az.length allT, HS N H0 az.length allT, n0⟩ K Kx)
   (hsN : ∀ i id, i < az.length -> (N i id).isSome = true -> (n0 + 1048576 * i <= id /\ id < n0 + 1048576 * i + 1048576) \/ (i, id) ∈ ws)
   (hsp : ∀ i o, az[i]? = some o -> dead i = false -> Spec P Γ eqs all ws i n0 (n0 + 1048576 * i) o (fS dst v f0 i allT) (Hcl ws cl i n0 (HS N H0 i allT)) ⟨v i, N i⟩)
   (hpan : ∀ i o, az[i]? = some o -> dead i = true -> (∃ j, inC cl i j = true /\ dead j = true) \/ ∃ D, (∀ st, Kx (.d D) st) /\ SpecP P all o (fS dst v f0 i allT) (Hcl ws cl i n0 (HS N H0 i allT)) D) :
   ∀ (fuel : Nat) (l : Array Bool) (s : Nat -> Bool) (G : Gh) (a : Act) (W : World), Listed all.length s l -> (∀ i, s i = true -> i < az.length /\ dead i = false) -> (∀ k, s k = true -> ∀ i, inC cl k i = true -> s i = true) -> unl all.length s <= fuel ->
     Inv E (usedBy n0 s) G ⟨fS dst v f0 az.length s, HS N H0 az.length s, n0⟩ a W -> wpAnyIn E.F 0 P .any all.toArray Q fuel l a W := by
 have hget : ∀ i, i < az.length -> all[i]? = az[i]? := fun i hi => by rw [hall, List.getElem?_append_left hi]
 have hdl : ∀ i t, i < az.length -> dst i = some t -> (all[i]?).bind (·.dst) = some t := fun i t hi ht => by
   have hoi : az[i]? = some az[i] := List.getElem?_eq_getElem hi
   rw [hdst i _ hoi] at ht
   split at ht
   . cases ht
   . rw [hget i hi, hoi]; exact ht
 intro fuel
 induction fuel with
 | zero =>
   intro l s G a W hl hs hcl hf hI
   have hno : ∀ i, i < all.length -> s i = true := fun i hi => by
     by_cases h : s i = true
     . exact h
     . have := unl_pos (s := s) (j := i) (by simpa using h) hi; omega
   have hA : az.length = all.length := by
     have h1 := hd.le
     by_cases h : az.length < all.length
     . have := (hs _ (hno _ h)).1; omega
     . omega
   have hse : ∀ i, i < az.length -> s i = allT i := fun i hi => hno i (by omega)
   have e1 : fS dst v f0 az.length s = fS dst v f0 az.length allT := funext fun t => fS_congr fun i hi _ => ⟨hse i hi, rfl⟩
   have e2 : HS N H0 az.length s = HS N H0 az.length allT := funext fun id => HS_at fun i hi _ => hse i hi
   rw [e1, e2] at hI
   refine tailAny hΓ hE hd hK bs az.length _ G a W 0 l (by rw [hall]; simp) (Nat.le_refl _) hd.le ?_ (by rw [hall] at hA; simp at hA; simp [hA]) (hI.mono fun i hi => ?_) (hend fun i hi => (hs i (hno i (by omega))).2)
   . refine ⟨hl.size, fun i hi => ?_⟩
     rw [hl.at' i hi, hno i hi]
     simp; omega
   . rcases hi with h | ⟨k, hk, h1, h2⟩
     . show i < n0 + _; omega
     . have := (hs k hk).1; show i < n0 + _; omega
 | succ fuel ih =>
   intro l s G a W hl hs hcl hf hI
   by_cases hfull : ∀ i, i < az.length -> s i = true
   ·
     have hse : ∀ i, i < az.length -> s i = allT i := fun i hi => hfull i hi
     have e1 : fS dst v f0 az.length s = fS dst v f0 az.length allT := funext fun t => fS_congr fun i hi _ => ⟨hse i hi, rfl⟩
     have e2 : HS N H0 az.length s = HS N H0 az.length allT := funext fun id => HS_at fun i hi _ => hse i hi
     rw [e1, e2] at hI
     have hcount : ∀ n, az.length <= n -> unl n s = n - az.length := by
       intro n
       induction n with
       | zero => intro _; simp [unl]
       | succ n ihn =>
         intro hn
         simp only [unl]
         by_cases hle : az.length <= n
         . have hsn : s n = false := by
             cases h : s n with
             | false => rfl
             | true => have := (hs n h).1; omega
           rw [ihn hle, hsn]; simp; omega
         . have e : az.length = n + 1 := by omega
           have : unl n s = 0 := by
             have : ∀ j, j <= n -> unl j s = 0 := by
               intro j
               induction j with
               | zero => intro _; rfl
               | succ j ihj => intro hj; simp only [unl]; rw [ihj (by omega), hfull j (by omega)]; rfl
             exact this n (Nat.le_refl _)
           rw [this, hfull n (by omega)]; simp; omega
     have hcn := hcount all.length hd.le
     refine tailAny hΓ hE hd hK bs az.length _ G a W (fuel + 1) l (by rw [hall]; simp) (Nat.le_refl _) hd.le ?_ (by rw [hall] at hcn hf; simp at hcn hf; omega) (hI.mono fun i hi => ?_) (hend fun i hi => (hs i (hfull i hi)).2)
     . refine ⟨hl.size, fun i hi => ?_⟩
       rw [hl.at' i hi]
       by_cases h : i < az.length
       . rw [hfull i h]; simp [h]
       . cases h2 : s i with
         | false => simp [h]
         | true => exact absurd (hs i h2).1 h
     . rcases hi with h | ⟨k, hk, h1, h2⟩
       . show i < n0 + _; omega
       . have := (hs k hk).1; show i < n0 + _; omega
   ·
     have hready : ∃ j, j ∈ Region.ready .any all.toArray l := by
       have hne : ∃ i, i < az.length /\ s i = false := by
         simp only [Classical.not_forall] at hfull
         obtain ⟨i, hi, h⟩ := hfull
         exact ⟨i, hi, by simpa using h⟩
       obtain ⟨i, hi, hsi⟩ := hne
       have hleast : ∀ n i, i <= n -> i < az.length -> s i = false -> ∃ j, j < az.length /\ s j = false /\ ∀ k, k < j -> s k = true := by
         intro n
         induction n with
         | zero => intro i h1 h2 h3; exact ⟨i, h2, h3, fun k hk => by omega⟩
         | succ n ihn =>
           intro i h1 h2 h3
           by_cases hh : ∀ k, k < i -> s k = true
           . exact ⟨i, h2, h3, hh⟩
           . simp only [Classical.not_forall] at hh
             obtain ⟨k, hk, h⟩ := hh
             exact ihn k (by omega) (by omega) (by simpa using h)
       obtain ⟨j, hj, hsj, hlow⟩ := hleast i i (Nat.le_refl _) hi hsi
       have hjl : j < all.length := by have := hd.le; omega
       have ho : all[j]? = some all[j] := List.getElem?_eq_getElem hjl
       exact ⟨j, hl.ready.2 ⟨_, ho, hsj, fun e he hb => by
         have h1 := hd.acyc j _ ho e he hb
         exact And.intro (by omega) (hlow _ h1)⟩⟩
     unfold wpAnyIn
     refine And.intro (fun hnil => ?_) (fun j hj => ?_)
     . obtain ⟨j, hj⟩ := hready; rw [hnil] at hj; cases hj
     obtain ⟨o, ho, hsj, hed⟩ := hl.ready.1 hj
     have hjl := (List.getElem?_eq_some_iff.1 ho).1
     have hcj : ∀ i, inC cl j i = true -> s i = true := fun i hi => by
       obtain ⟨e, he, hb, h | h⟩ := hd.clo j o i ho hi
       . rw [<- h]; exact (hed e he hb).2
       . exact hcl _ (hed e he hb).2 i h
     have hjA : j < az.length := by
       by_cases h : j < az.length
       . exact h
       . exact absurd (fun i hi => hcj i (hd.fence j o i ho (by omega) (by omega))) hfull
     have hoA : az[j]? = some o := by rw [<- hget j hjA]; exact ho
     have hlook : ∀ t ∈ o.looksAt all.toArray, fS dst v f0 az.length s t = fS dst v f0 j allT t := fun t ht => by
       have e1 : fS dst v f0 az.length s t = fS dst v f0 az.length (fun i => decide (i < j)) t := fS_congr fun i hi hdi => by
         rcases hd.looks j o ho hjA t ht i hi (hdl i t hi hdi) with hc | hc
         . have h1 : i < j := inC_lt hc
           exact And.intro (by rw [hcj i hc]; simp [h1]) rfl
         . have h1 : j < i := inC_lt hc
           refine And.intro ?_ rfl
           cases hsi : s i with
           | false => simp; omega
           | true => have := hcl i hsi j hc; rw [this] at hsj; cases hsj
       rw [e1, fS_cut (Nat.le_of_lt hjA) fun i h1 _ _ => by simp; omega]
       exact fS_congr fun i hi _ => And.intro (by simp [hi, allT]) rfl
     have hNi : ∀ i id, i < az.length -> (N i id).isSome = true -> (n0 + 1048576 * i <= id /\ id < n0 + 1048576 * i + 1048576) \/ (i, id) ∈ ws := hsN
     have hH : HLe (Hcl ws cl j n0 (HS N H0 j allT)) (HS N H0 az.length s) := fun id cs h => by
       simp only [Hcl] at h
       split at h
       . rename_i hc
         obtain ⟨hc1, hc2⟩ := hc
         rw [<- h]
         have e1 : HS N H0 az.length s id = HS N H0 az.length (fun i => decide (i < j)) id := HS_at fun i hi hn => by
           rcases hNi i id hi hn with ⟨h1, h2⟩ | hw
           . have hown : (id - n0) / 1048576 = i := by omega
             have hin : inC cl j i = true := by rw [<- hown]; exact hc1.resolve_left (by omega)
             rw [hcj i hin]
             simp [inC_lt hin]
           . have h3 := List.all_eq_true.1 hc2 _ hw
             simp only [bne_self_eq_false, Bool.false_or, Bool.or_eq_true, beq_iff_eq] at h3
             rcases h3 with (h3 | h3) | h3
             . rw [h3, hsj]; simp
             . rw [hcj i h3]; simp [inC_lt h3]
             . have hlt := inC_lt h3
               cases hsi : s i with
               | false => simp; omega
               | true => have := hcl i hsi j h3; rw [this] at hsj; cases hsj
         rw [e1, HS_cut (Nat.le_of_lt hjA) fun i h1 _ _ => by simp; omega]
         exact HS_at fun i hi _ => by simp [hi, allT]
       . cases h
     have hU : ∀ i, usedBy n0 s i -> usedBy n0 (upd s j true) i := fun i hi => by
       rcases hi with h | ⟨k, hk, h1, h2⟩
       . exact .inl h
       . exact .inr ⟨k, by rw [upd_at]; split <;> first | rfl | exact hk, h1, h2⟩
     have hb0 : ∀ i, i < 1048576 -> ¬ usedBy n0 s (n0 + 1048576 * j + i) := fun i hi hu => by
       rcases hu with h | ⟨k, hk, h1, h2⟩
       . omega
       . have : k = j := by omega
         rw [this] at hk; rw [hk] at hsj; cases hsj
     have hb1 : ∀ i, i < 1048576 -> usedBy n0 (upd s j true) (n0 + 1048576 * j + i) := fun i hi => .inr ⟨j, by simp [upd_at], by omega, by omega⟩
     have hd1 : ∀ d, o.dst = some d -> d < E.nt := dst_lt hd.dsts (List.mem_of_getElem? ho)
     cases hdead : dead j with
     | true =>
       rcases hpan j o hoA hdead with ⟨i, hi, hdi⟩ | ⟨D, hkx, hpn⟩
       . have := (hs i (hcj i hi)).2
         rw [hdi] at this; cases this
       . obtain ⟨hg, st', hnx, hst⟩ := hpn n0 (n0 + 1048576 * j) _ _ hlook hH
         unfold wpOpIn
         rw [show (all.toArray)[j]? = some o by simpa using ho]
         simp only
         rw [guard_sound hI hg]
         simp only [if_true]
         refine stepP_sound hI hb0 hU hb1 hd1 hst fun G' W' ch hx _ hI' => ?_
         refine hK.pan G' (.d D) ⟨st'.fr, st'.H, n0 + 1048576 * az.length⟩ a W' ch ((hI'.nx _).mono fun i hi => ?_) hx trivial (hkx _)
         rcases hi with h | ⟨k, hk, h1, h2⟩
         . show i < n0 + _; omega
         . have : k < az.length := by
             rw [upd_at] at hk
             split at hk
             . rename_i e; rw [e]; exact hjA
             . exact (hs k hk).1
           show i < n0 + _; omega
     | false =>
     have hdj : dst j = o.dst := by rw [hdst j o hoA, hdead]; rfl
     obtain ⟨hN, hstep⟩ := hsp j o hoA hdead
     have hs' : ∀ i, upd s j true i = true -> i < az.length /\ dead i = false := fun i hi => by
       rw [upd_at] at hi
       split at hi
       . rename_i e; rw [e]; exact ⟨hjA, hdead⟩
       . exact hs i hi
     have hcl' : ∀ k, upd s j true k = true -> ∀ i, inC cl k i = true -> upd s j true i = true := fun k hk i hi => by
       have h1 : s i = true := by
         rw [upd_at] at hk
         split at hk
         . rename_i e; exact hcj i (e ▸ hi)
         . exact hcl k hk i hi
       rw [upd_at]; split
       . rfl
       . exact h1
     have hun := unl_set hsj hjl
     have eF : fS dst v f0 az.length (upd s j true) = frPut (fS dst v f0 az.length s) o.dst (v j) := by
       rw [<- hdj]
       refine fS_put hjA fun i hi hij t hdi hdjt => ?_
       replace hdi := hdl i t hi hdi
       replace hdjt := hdl j t hjA hdjt
       rcases Nat.lt_or_gt_of_ne hij with h | h
       . exact hd.dist i j h hjA t hdi hdjt
       . exact hd.dist j i h hi t hdjt hdi
     have eH : HS N H0 az.length (upd s j true) = ext (HS N H0 az.length s) (N j) := HS_ext hjA hsj fun i id h1 h2 hn1 hn2 => by
       cases hsi : s i with
       | false => rfl
       | true =>
         exfalso
         have hij : inC cl i j = true := by
           rcases hNi i id h2 hn1 with ⟨a1, a2⟩ | w1 <;> rcases hNi j id hjA hn2 with ⟨b1, b2⟩ | w2
           . omega
           . have := inC_lt (wsOk_made hws w2 (by omega) (by omega)); omega
           . have h3 := wsOk_made hws w1 (by omega) (by omega)
             rwa [show (id - n0) / 1048576 = j by omega] at h3
           . exact wsOk_two hws w2 w1 h1
         have := hcl i hsi j hij
         rw [this] at hsj; cases hsj
     unfold wpOpIn
     rw [show (all.toArray)[j]? = some o by simpa using ho]
     simp only
     rcases hstep _ _ hlook hH with ⟨hg, hst⟩ | ⟨hg, hv, hNn⟩
     . rw [guard_sound hI hg]
       simp only [if_true]
       refine step_sound hΓ hE hI hb0 hU hb1 hd1 hst fun G' a' W' hI' => ?_
       refine ih _ (upd s j true) G' a' W' (hl.set hjl) hs' hcl' (by omega) ?_
       rw [eF, eH]
       exact hI'
     . rw [guard_sound hI hg]
       simp only [Bool.false_eq_true, if_false]
       refine And.intro (fun _ _ => trivial) ?_
       refine ih _ (upd s j true) G _ W (hl.set hjl) hs' hcl' (by omega) ?_
       rw [eF, eH, show v j = .tup [] from hv, show N j = nothing from hNn]
       exact (hI.mono hU).slot tup_nil (by simp [AV]) o.dst hd1
theorem AW.draw {st : St} (hΓ : GOk P Γ) (hE : EqOk P eqs) (hm : P.follows .mixedOrders = true) {id : Nat} {az bs : List Oper} {ws : List (Nat × Nat)} {cl : List Nat} {Q : AExit -> St -> Prop} (hd : drawOk E.nt (az ++ bs) cl az.length = true) (hws : wsOk ws cl st.nx = true)
   (h : ADrawP P Γ eqs (az ++ bs) ws cl st.nx (fun v => ∀ st, Q (.pan v) st) 0 az st.fr st.H fun f H => AOps P Γ eqs (az ++ bs) az.length bs ⟨f, H, st.nx⟩ (Q .normal) (fun v st => Q (.pan v) st)) : AW P E (.region id (az ++ bs).toArray true) Q st := by
 intro G a W hI
 refine wpIn_region_any hm ?_
 have hI := hI.drew
 have start : ∀ (dst : Nat -> Option Nat) (v : Nat -> V) (N : Nat -> Dl), HS N st.H az.length (fun _ => false) = st.H /\ fS dst v st.fr az.length (fun _ => false) = st.fr := fun dst v N => ⟨by
   funext id
   rw [HS_cut (k := 0) (by omega) fun i _ _ _ => rfl]; rfl, by
   funext t
   rw [fS_cut (k := 0) (by omega) fun i _ _ _ => rfl]; rfl⟩
 have hlist : Listed (az ++ bs).length (fun _ => false) (Array.replicate (az ++ bs).toArray.size false) := ⟨by simp, fun i hi => by
   simp only [Array.getElem?_replicate, List.size_toArray]
   rw [if_pos hi]⟩
 have hunl : unl (az ++ bs).length (fun _ => false) <= (az ++ bs).toArray.size := by
   simp only [List.size_toArray]
   have : ∀ n, unl n (fun _ => false) <= n := by
     intro n
     induction n with
     | zero => simp [unl]
     | succ n ih => simp only [unl]; simp; omega
   exact this _
 have hids : ∀ {as' : List Oper} {dst : Nat -> Option Nat} {v : Nat -> V} {N : Nat -> Dl}, as'.length = az.length -> (∀ i o, as'[i]? = some o -> Spec P Γ eqs (az ++ bs) ws i st.nx (st.nx + 1048576 * i) o (fS dst v st.fr i allT) (Hcl ws cl i st.nx (HS N st.H i allT)) ⟨v i, N i⟩) ->
     ∀ i id, i < az.length -> (N i id).isSome = true -> (st.nx + 1048576 * i <= id /\ id < st.nx + 1048576 * i + 1048576) \/ (i, id) ∈ ws := fun {as'} _ _ _ hl h i id hi hn =>
   (h i _ (List.getElem?_eq_getElem (by omega : i < as'.length))).1 id hn
 rcases drawP_cases az 0 st.fr st.H h with h | ⟨k0, o0, D, _, ho0, hz, h⟩
 . obtain ⟨v, N, _, hend, hsp⟩ := draw_out (dst := fun k => (az[k]?).bind (·.dst)) (f0 := st.fr) (H0 := st.H) (fun _ => rfl) az 0 (fun _ => .junk) (fun _ => nothing) (fun i => by simp) h
   simp only [Nat.zero_add] at hend hsp
   refine headAny hΓ hE rfl (drawOk_spec hd) (dst := fun k => (az[k]?).bind (·.dst)) (fun _ => false) (fun i o ho => by simp [ho]) hws endOk_of (fun _ => hend) (hids rfl fun i o ho => (hsp i o ho).1) (fun i o ho _ => (hsp i o ho).1) (fun i o _ hd => by cases hd) _ _ (fun _ => false) G a _ hlist (fun i h => by cases h) (fun k h => by cases h) hunl ?_
   rw [(start (fun _ => none) v N).1, (start _ v N).2]
   exact hI.mono fun i hi => .inl hi
 . rw [Nat.sub_zero] at ho0
   have hlen : (maskO cl k0 0 az).length = az.length := maskO_len
   have hk0 : k0 < az.length := (List.getElem?_eq_some_iff.1 ho0).1
   obtain ⟨v, N, _, _, hsp⟩ := draw_out (dst := fun k => ((maskO cl k0 0 az)[k]?).bind (·.dst)) (f0 := st.fr) (H0 := st.H) (fun _ => rfl) (maskO cl k0 0 az) 0 (fun _ => .junk) (fun _ => nothing) (fun i => by simp) h
   simp only [Nat.zero_add] at hsp
   have hlive : ∀ i o, az[i]? = some o -> deadB cl k0 i = false -> (maskO cl k0 0 az)[i]? = some o := fun i o ho hd => by rw [maskO_get, ho]; simp [hd]
   refine headAny hΓ hE rfl (drawOk_spec hd) (dst := fun k => ((maskO cl k0 0 az)[k]?).bind (·.dst)) (deadB cl k0) (fun i o ho => ?_) hws endOk_of (fun hno => ?_) (hids hlen fun i o ho => (hsp i o ho).1) (fun i o ho hd => (hsp i o (hlive i o ho hd)).1) (fun i o ho hd => ?_) _ _ (fun _ => false) G a _ hlist (fun i h => by cases h) (fun k h => by cases h) hunl ?_
   . simp only [maskO_get, ho, Nat.zero_add, Option.map_some, Option.bind_some]
     split <;> simp [noop]
   . have := hno k0 hk0
     simp [deadB] at this
   . by_cases e : i = k0
     . subst e
       rw [ho0] at ho; cases ho
       have hm0 : (maskO cl i 0 az)[i]? = some (noop o0) := by rw [maskO_get, ho0]; simp [deadB]
       obtain ⟨hg, hs⟩ := (hsp i _ hm0).2 rfl
       exact .inr ⟨D, hz, stepDP_spec hg hs⟩
     . refine .inl ⟨k0, ?_, by simp [deadB]⟩
       simpa [deadB, e] using hd
   . rw [(start (fun _ => none) v N).1, (start _ v N).2]
     exact hI.mono fun i hi => .inl hi
end Go.Psl
