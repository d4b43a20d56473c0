/- The layer goes on: rules for calls, loops, rounds and ends, contracts of functions, and equations by which simp computes. Conditions: none beyond those that each theorem states. -/
import Derived.Test.YtaedloehfgmcnaaPa
import Derived.Orders
/- Calls of functions and of yield. -/
namespace Go.Psl
variable {P : Program} {Γ : Tys} {eqs : Eqs} {E : Ent} {U U' : Nat → Prop} {G : Gh} {st : St} {a : Act} {W : World}

def calleeOf : V → Option (FuncId × List V)
  | .d (.fn g caps) => some (g, caps.map .d)
  | .cl g caps => some (g, caps)
  | _ => none
def noH : Hp := fun _ => none
def lessH (H Hin : Hp) : Hp := fun i => if (Hin i).isSome then none else H i
/-- what a caller shows: its blocks fit, the arguments are lent or handed over -/
def CallB (H : Hp) (as args : List V) (Hin : Hp) (ks : List Nat) (res : Res) (H1 : Hp) : Prop :=
  (∀ i cs, Hin i = some cs → H i = some cs) ∧ (∀ i, InH H1 i → i ∉ ks → i < 1048576) ∧ (∀ i ∈ ks, ∃ cs, Hin i = some cs ∧ cs ≠ []) ∧
    (All2 (Bor noH) as args ∨ (All2 (Bor (lessH H Hin)) as args ∧ flatRes res H1))
def CallA (P : Program) (H : Hp) (g : FuncId) (as args : List V) (Hin : Hp) (ks : List Nat) (res : Res) (H1 : Hp) : Prop :=
  Cm P g args Hin ks res H1 ∧ CallB H as args Hin ks res H1
/-- one round of a loop over a function, called by name -/
def Ym (P : Program) (k : Nat) (args : List V) (Hin : Hp) (ks : List Nat) (res : Res) (H1 : Hp) : Prop :=
  ∀ (G : Gh) (W : World) (xs : Array Value) (rec : Loop), (∀ b, G.Im b → b < W.heap.size) → All2 (R2 G W) args xs.toList → PreH G W Hin ks → W.heap[G.β k]? = some (.loop rec) → xs.size = rec.params.size →
    RoundIn Fence.wide 0 P (G.β k) rec.fn ((rec.params.zip xs).foldl (fun tmps (t, a) => tmps.setIfInBounds t a) rec.tmps) rec.assign rec.body W fun e W' => ∃ G', Post G W Hin ks res H1 e W' G'
def YieldA (P : Program) (H : Hp) (k : Nat) (as args : List V) (Hin : Hp) (ks : List Nat) (res : Res) (H1 : Hp) : Prop :=
  Ym P k args Hin ks res H1 ∧ (∃ fr nt ps pa pb jmp, Hin k = some [.lr fr nt ps pa pb jmp] ∧ ps.length = args.length) ∧ CallB H as args Hin ks res H1

theorem callee_run (hI : Inv E U G st a W) {o : Oper} {c : Call} {fo : Operand} (ho : o.op = .call c) (hc : c.callee = .value fo) {g : FuncId} {caps : List V} (hg : calleeOf (evF st.fr fo) = some (g, caps)) (hf : isFn P g) :
    ∃ xs : Array Value, (execOp a.eval o).run P W = .ok (.enter g xs) W ∧ All2 (RV G W) (capL st.fr c.args.toList ++ caps) xs.toList := by
  obtain ⟨fn, hfn, hbody, hname⟩ := hf
  obtain ⟨hr, _⟩ := capL_rel hI c.args.toList
  obtain ⟨hx, _⟩ := hI.op fo
  have key : ∃ cv : Array Value, a.eval fo = .func (.func g) #[] cv ∧ All2 (RV G W) caps cv.toList := by
    unfold calleeOf at hg
    split at hg
    · rename_i g' caps' hv
      cases hg
      rw [hv] at hx
      have hx' : RD G.Im W (.fn g caps') (a.eval fo) := hx
      generalize a.eval fo = u at hx'
      cases hx' with
      | fn _ _ cv hl hrr =>
        refine ⟨cv, rfl, All2.map_left.2 (All2.of_get (by simpa using hl.symm) fun i x y hx hy => ?_)⟩
        exact hrr i x y hx (by rwa [Array.getElem?_toList] at hy)
    · rename_i g' caps' hv
      cases hg
      rw [hv] at hx
      obtain ⟨cv, hxa, hcr⟩ := hx
      exact ⟨cv, hxa, hcr.mono fun _ _ _ h => R2.rv (R1.r2 (R0.r1 h))⟩
    · cases hg
  obtain ⟨cv, hfe, hcr⟩ := key
  refine ⟨#[] ++ c.args.map a.eval ++ cv, ?_, ?_⟩
  · have h1 : fn.name ≠ "runtime.NumGoroutine" := by simpa using hname
    have h2 : fn.body.isNone = false := by cases h : fn.body <;> simp_all
    simp only [execOp, ho, resolve, hc, hfe, Deferred.ofValue, Sem.run_bind, Sem.run_pure, Result.andThen_ok, invoke, callFunc, run_program, hfn]
    simp [h1, h2]
  · simpa using hr.append hcr

theorem yield_run (hI : Inv E U G st a W) {o : Oper} {c : Call} {fo : Operand} (ho : o.op = .call c) (hc : c.callee = .value fo) {k : Nat} (hk : evF st.fr fo = .yl k) {fr : Nat → V} {nt : Nat} {ps : List Nat} {pa pb : PC} {jmp : LSt} (hH : st.H k = some [.lr fr nt ps pa pb jmp]) (hl : ps.length = c.args.size) :
    ∃ (xs : Array Value) (rec : Loop), W.heap[G.β k]? = some (.loop rec) ∧ xs.size = rec.params.size ∧ (execOp a.eval o).run P W = .ok (.round (G.β k) rec.fn ((rec.params.zip xs).foldl (fun tmps (t, a) => tmps.setIfInBounds t a) rec.tmps) rec.assign rec.body) W ∧ All2 (RV G W) (capL st.fr c.args.toList) xs.toList := by
  obtain ⟨hr, _⟩ := capL_rel hI c.args.toList
  obtain ⟨hx, _⟩ := hI.op fo
  rw [hk] at hx
  have hfe : a.eval fo = .func (.yield (G.β k)) #[] #[] := hx
  have hB := hI.hp k _ hH
  obtain ⟨rec, hrec, hps⟩ : ∃ rec, W.heap[G.β k]? = some (.loop rec) ∧ rec.params.toList = ps := by
    rcases hB with ⟨_, h⟩ | ⟨_, _, _, c', T, _, _, _, h, h2⟩ | ⟨_, _, _, fr', nt', ps', pa', pb', jmp', rec, h1, h2, h3, _⟩
    · cases h
    · simp [V.isCell] at h2
    · cases h1; exact ⟨rec, h2, h3⟩
  have hsz : (c.args.map a.eval).size = rec.params.size := by rw [Array.size_map, ← hl, ← hps, Array.length_toList]
  refine ⟨c.args.map a.eval, rec, hrec, hsz, ?_, by simpa using hr⟩
  simp only [execOp, ho, resolve, hc, hfe, Deferred.ofValue, Sem.run_bind, Sem.run_pure, Result.andThen_ok, invoke]
  rw [show (#[] : Array Value) ++ c.args.map a.eval = c.args.map a.eval by simp]
  exact run_yield hrec hsz

theorem bor0_rel (hI : Inv E U G st a W) {Hin : Hp} {v c : V} {x : Value} (hb : Bor0 (lessH st.H Hin) v c) (hx : RV G W v x) : R0 { G with Im := lent G st Hin } W c x := by
  have him : ∀ b, G.Im b → lent G st Hin b ∧ W.heap[b]? = W.heap[b]? := fun b hb => ⟨.inl hb, rfl⟩
  have hless : ∀ i cs, lessH st.H Hin i = some cs → st.H i = some cs ∧ ¬ InH Hin i := fun i cs h => by
    unfold lessH at h
    split at h
    · cases h
    · rename_i h2; exact ⟨h, h2⟩
  unfold Bor0 at hb
  split at hb
  · rename_i y z
    rcases hb with rfl | ⟨rfl, sz, rfl⟩
    · exact RD.mono (x := y) hx him
    · have := rv_lit hx
      subst this
      exact RD.sl sz [] none 0 (fun _ _ => undef) (by simp) (by simp [maxL]) (by simp) (by simp) (by simp)
  · rename_i id off len sz sz' es
    obtain ⟨rfl, hl, hes, cs, hh0, hcs⟩ := hb
    obtain ⟨hh, hnin⟩ := hless _ _ hh0
    obtain ⟨hml, ⟨hph, h0, rfl⟩ | ⟨hph, o', cap, rfl, hcap, hoff⟩⟩ := hx
    · have : es = [] := List.eq_nil_of_length_eq_zero (by omega)
      subst this
      exact RD.sl sz' [] none 0 (fun _ _ => undef) (by simp) (by simp [maxL]) (by simp) (by simp) (by simp)
    · obtain ⟨_, c, T, hg, hbs, hcl, hcr, _⟩ := (hI.hp id cs hh).read hph
      have hfl := flatten_len es hes
      have hlen : ((cs.drop off).take (len * sz')).length = len * sz' := by rw [hcs, List.length_map, hfl, hl]
      have hfit : off + len * sz' ≤ cs.length ∨ len * sz' = 0 := by simp at hlen; omega
      subst hl
      refine RD.sl sz' es (some ⟨G.β id, o', none⟩) cap (fun i j => c.toList.getD (off + i * sz' + j) undef) hes hml hcap (fun i e he => ⟨_, rfl, .inr ⟨id, by show (st.H id).isSome = true; rw [hh]; rfl, hnin, hph.1, rfl⟩, fun j y hy => ?_⟩) (fun i e he j y hy => ?_)
      all_goals
        have hil : i < es.length := (List.getElem?_eq_some_iff.1 he).1
        have hel := hes e (List.mem_of_getElem? he)
        have hjl : j < sz' := by have := (List.getElem?_eq_some_iff.1 hy).1; omega
        have hij : i * sz' + j < es.length * sz' := by
          have : (i + 1) * sz' ≤ es.length * sz' := Nat.mul_le_mul_right _ hil
          rw [Nat.add_mul] at this; omega
        have hfit' : off + es.length * sz' ≤ cs.length := by omega
        have hcell : cs[off + (i * sz' + j)]? = some (.d y) := by
          have h1 : ((cs.drop off).take (es.length * sz'))[i * sz' + j]? = some (V.d y) := by
            rw [hcs, List.getElem?_map, flatten_get (by omega) es hes]
            have e1 : (i * sz' + j) / sz' = i := by rw [Nat.add_comm, Nat.add_mul_div_right _ _ (by omega), Nat.div_eq_of_lt hjl]; omega
            have e2 : (i * sz' + j) % sz' = j := by rw [Nat.add_comm, Nat.add_mul_mod_self_right, Nat.mod_eq_of_lt hjl]
            rw [e1, e2, he]; simp [hy]
          rw [List.getElem?_take, if_pos hij, List.getElem?_drop] at h1
          exact h1
        obtain ⟨u, hu, hru⟩ := hcr.get hcell
        rw [List.getElem?_take] at hu
        split at hu
        rotate_left
        · cases hu
      · obtain ⟨rfl, _⟩ := hoff (by omega)
        rw [add_plain]
        simp only [World.cell?, hg]
        rw [Array.getElem?_toList] at hu
        have h2 : c.toList.getD (o' + i * sz' + j) undef = u := by
          rw [List.getD_eq_getElem?_getD, Array.getElem?_toList, show o' + i * sz' + j = o' + (i * sz' + j) by omega, hu]; rfl
        rw [h2]
        simpa using hu
      · have h2 : c.toList.getD (off + i * sz' + j) undef = u := by
          rw [List.getD_eq_getElem?_getD, show off + i * sz' + j = off + (i * sz' + j) by omega, hu]; rfl
        show RD _ _ y (c.toList.getD (off + i * sz' + j) undef)
        rw [h2]
        exact RD.mono (x := y) hru him
  · rename_i id off ds
    obtain ⟨cs, hh0, hcs⟩ := hb
    obtain ⟨hh, hnin⟩ := hless _ _ hh0
    obtain ⟨hph, rfl⟩ : (G.ph id = false ∧ G.lo id = false) ∧ x = .pointer (some ⟨G.β id, off, none⟩) := hx
    obtain ⟨_, c, T, hg, hbs, hcl, hcr, _⟩ := (hI.hp id cs hh).read hph
    have get : ∀ (j : Nat) y, ds[j]? = some y → ∃ u, c.toList[off + j]? = some u ∧ RD (lent G st Hin) W y u := fun j y hy => by
      have hj := (List.getElem?_eq_some_iff.1 hy).1
      have h1 : ((cs.drop off).take ds.length)[j]? = some (V.d y) := by rw [hcs, List.getElem?_map, hy]; rfl
      rw [List.getElem?_take, if_pos hj, List.getElem?_drop] at h1
      obtain ⟨u, hu, hru⟩ := hcr.get h1
      rw [List.getElem?_take] at hu
      split at hu
      · exact ⟨u, hu, RD.mono (x := y) hru him⟩
      · cases hu
    refine RD.ref ds _ (fun j => c.toList.getD (off + j) undef) (.inr ⟨id, by show (st.H id).isSome = true; rw [hh]; rfl, hnin, hph.1, rfl⟩) (fun j y hy => ?_) (fun j y hy => ?_)
    · obtain ⟨u, hu, _⟩ := get j y hy
      rw [add_plain, List.getD_eq_getElem?_getD, hu]
      simp only [World.cell?, hg]
      simpa using hu
    · obtain ⟨u, hu, hr⟩ := get j y hy
      rw [List.getD_eq_getElem?_getD, hu]
      exact hr
  · rename_i f caps g ds
    obtain ⟨rfl, rfl⟩ := hb
    obtain ⟨cv, rfl, hcr⟩ := hx
    have hl := hcr.length
    refine RD.fn f ds cv (by simpa using hl.symm) fun j y v hy hv => ?_
    have h1 : (ds.map V.d)[j]? = some (V.d y) := by rw [List.getElem?_map, hy]; rfl
    obtain ⟨u, hu, hru⟩ := hcr.get h1
    rw [Array.getElem?_toList, hv] at hu
    cases hu
    exact RD.mono (x := y) hru him
  · obtain ⟨rfl, rfl⟩ := hb; exact hx
  · obtain ⟨rfl, rfl, rfl, rfl⟩ := hb; exact hx
  · have hb : _ = _ := hb; subst hb; exact hx
  · exact hb.elim
theorem bor1_rel (hI : Inv E U G st a W) {Hin : Hp} {v c : V} {x : Value} (hb : Bor1 (lessH st.H Hin) v c) (hx : R1 G W v x) : R1 { G with Im := lent G st Hin } W c x := by
  have him : ∀ b, G.Im b → lent G st Hin b ∧ W.heap[b]? = W.heap[b]? := fun b hb => ⟨.inl hb, rfl⟩
  unfold Bor1 at hb
  split at hb
  · rename_i f caps g caps'
    obtain ⟨rfl, rfl⟩ := hb
    obtain ⟨cv, hx, hc⟩ := hx
    refine ⟨cv, hx, hc.mono fun v _ x h => ?_⟩
    cases v with
    | d y => exact RD.mono (x := y) h him
    | _ => exact h
  · rename_i f caps g ds
    obtain ⟨rfl, hb⟩ := hb
    obtain ⟨cv, rfl, hc⟩ := hx
    have hl := hc.length
    have hl2 := hb.length
    rw [List.length_map] at hl2
    refine RD.fn f ds cv (by simpa using (hl2.symm.trans hl).symm) fun j y v hy hv => ?_
    have h1 : (ds.map V.d)[j]? = some (V.d y) := by rw [List.getElem?_map, hy]; rfl
    obtain ⟨c, hcj, hbj⟩ := hb.get2 h1
    obtain ⟨u, hu, hru⟩ := hc.get hcj
    rw [Array.getElem?_toList, hv] at hu
    cases hu
    exact bor0_rel hI hbj (R2.rv (R1.r2 (R0.r1 hru)))
  · exact R0.r1 (bor0_rel hI hb (R2.rv (R1.r2 hx)))
theorem bor_rel (hI : Inv E U G st a W) {Hin : Hp} {v c : V} {x : Value} (hb : Bor (lessH st.H Hin) v c) (hx : RV G W v x) : R2 { G with Im := lent G st Hin } W c x := by
  unfold Bor at hb
  split at hb
  · rename_i cs ds
    obtain ⟨cv, rfl, hr⟩ := hx
    refine ⟨cv, rfl, All2.of_get (by rw [← hb.length, hr.length]) fun i y z hy hz => ?_⟩
    obtain ⟨w, hw, hbw⟩ := hb.get2 hy
    obtain ⟨u, hu, hru⟩ := hr.get hw
    rw [hz] at hu; cases hu
    exact bor1_rel hI hbw hru
  · refine R1.r2 (bor1_rel hI hb ?_)
    cases v <;> first | exact hx | (exfalso; revert hb; cases c <;> simp [Bor1, Bor0]; done)
/-- nothing is lent -/
theorem bor0_same {v c : V} {x : Value} (hb : Bor0 noH v c) (hx : RV G W v x) : R0 G W c x := by
  unfold Bor0 at hb
  split at hb
  · rename_i y z
    rcases hb with rfl | ⟨rfl, sz, rfl⟩
    · exact hx
    · have := rv_lit hx
      subst this
      exact RD.sl sz [] none 0 (fun _ _ => undef) (by simp) (by simp [maxL]) (by simp) (by simp) (by simp)
  · obtain ⟨_, _, _, cs, h, _⟩ := hb; cases h
  · obtain ⟨cs, h, _⟩ := hb; cases h
  · rename_i f caps g ds
    obtain ⟨rfl, rfl⟩ := hb
    obtain ⟨cv, rfl, hcr⟩ := hx
    have hl := hcr.length
    refine RD.fn f ds cv (by simpa using hl.symm) fun j y v hy hv => ?_
    have h1 : (ds.map V.d)[j]? = some (V.d y) := by rw [List.getElem?_map, hy]; rfl
    obtain ⟨u, hu, hru⟩ := hcr.get h1
    rw [Array.getElem?_toList, hv] at hu
    cases hu
    exact hru
  · obtain ⟨rfl, rfl⟩ := hb; exact hx
  · obtain ⟨rfl, rfl, rfl, rfl⟩ := hb; exact hx
  · have hb : _ = _ := hb; subst hb; exact hx
  · exact hb.elim
theorem bor1_same {v c : V} {x : Value} (hb : Bor1 noH v c) (hx : R1 G W v x) : R1 G W c x := by
  unfold Bor1 at hb
  split at hb
  · obtain ⟨rfl, rfl⟩ := hb; exact hx
  · rename_i f caps g ds
    obtain ⟨rfl, hb⟩ := hb
    obtain ⟨cv, rfl, hc⟩ := hx
    have hl := hc.length
    have hl2 := hb.length
    rw [List.length_map] at hl2
    refine RD.fn f ds cv (by simpa using (hl2.symm.trans hl).symm) fun j y v hy hv => ?_
    have h1 : (ds.map V.d)[j]? = some (V.d y) := by rw [List.getElem?_map, hy]; rfl
    obtain ⟨c, hcj, hbj⟩ := hb.get2 h1
    obtain ⟨u, hu, hru⟩ := hc.get hcj
    rw [Array.getElem?_toList, hv] at hu
    cases hu
    exact bor0_same hbj (R2.rv (R1.r2 (R0.r1 hru)))
  · exact R0.r1 (bor0_same hb (R2.rv (R1.r2 hx)))
theorem bor_same {v c : V} {x : Value} (hb : Bor noH v c) (hx : RV G W v x) : R2 G W c x := by
  unfold Bor at hb
  split at hb
  · rename_i cs ds
    obtain ⟨cv, rfl, hr⟩ := hx
    refine ⟨cv, rfl, All2.of_get (by rw [← hb.length, hr.length]) fun i y z hy hz => ?_⟩
    obtain ⟨w, hw, hbw⟩ := hb.get2 hy
    obtain ⟨u, hu, hru⟩ := hr.get hw
    rw [hz] at hu; cases hu
    exact bor1_same hbw hru
  · refine R1.r2 (bor1_same hb ?_)
    cases v <;> first | exact hx | (exfalso; revert hb; cases c <;> simp [Bor1, Bor0]; done)

/-- what the callee may take as given -/
theorem callB_pre (hI : Inv E U G st a W) {as args : List V} {xs : Array Value} (hrel : All2 (RV G W) as xs.toList) {Hin : Hp} {ks : List Nat} {res : Res} {H1 : Hp} (h : CallB st.H as args Hin ks res H1) :
    ∃ Im : Nat → Prop, (∀ b, Im b → b < W.heap.size) ∧ All2 (R2 { G with Im := Im } W) args xs.toList ∧ PreH { G with Im := Im } W Hin ks ∧ (∀ i ∈ ks, G.ph i = false) ∧ ((∀ b, Im b ↔ G.Im b) ∨ ((∀ b, Im b ↔ lent G st Hin b) ∧ flatRes res H1)) := by
  obtain ⟨hin, hlt, hks, hcase⟩ := h
  have comb : ∀ (Im : Nat → Prop) (B : V → V → Prop), All2 B as args → (∀ v ∈ as, ∀ c x, B v c → RV G W v x → R2 { G with Im := Im } W c x) → All2 (R2 { G with Im := Im } W) args xs.toList := fun Im B hbor hm =>
    All2.of_get (by rw [← hbor.length, hrel.length]) fun i y z hy hz => by
      obtain ⟨w, hw, hbw⟩ := hbor.get2 hy
      obtain ⟨u, hu, hru⟩ := hrel.get hw
      rw [hz] at hu; cases hu
      exact hm w (List.mem_of_getElem? hw) _ _ hbw hru
  have hIn : ∀ i, InH Hin i → InH st.H i := fun i hi => by
    obtain ⟨cs, hcs⟩ := Option.isSome_iff_exists.1 hi
    show (st.H i).isSome = true
    rw [hin i cs hcs]; rfl
  have hst : ∀ i ∈ ks, InH Hin i ∧ G.ph i = false := fun i hi => by
    obtain ⟨cs, hcs, hne⟩ := hks i hi
    refine ⟨by show (Hin i).isSome = true; rw [hcs]; rfl, ?_⟩
    rcases hI.hp i cs (hin i cs hcs) with ⟨_, h⟩ | ⟨h, _⟩ | ⟨h, _⟩
    · exact absurd h hne
    · exact h
    · exact h
  rcases hcase with hb | ⟨hb, hfl⟩
  · exact ⟨G.Im, fun b hb => (hI.im b hb).1, comb _ _ hb fun v hv c x hb hx => bor_same hb hx, ⟨fun i cs h => hI.hp i cs (hin i cs h), fun i j hi hj => hI.inj i j (hIn i hi) (hIn j hj), hst⟩, fun i hi => (hst i hi).2, .inl fun _ => Iff.rfl⟩
  · refine ⟨lent G st Hin, fun b hb => ?_, comb _ _ hb fun v hv c x hb hx => bor_rel hI hb hx, ⟨fun i cs h => ?_, fun i j hi hj => hI.inj i j (hIn i hi) (hIn j hj), hst⟩, fun i hi => (hst i hi).2, .inr ⟨fun _ => Iff.rfl, hfl⟩⟩
    · rcases hb with h | ⟨i, hi, _, hph, rfl⟩
      · exact (hI.im b h).1
      · obtain ⟨cs, hcs⟩ := Option.isSome_iff_exists.1 hi
        exact (hI.hp i cs hcs).lt hph
    · have him : ∀ b, G.Im b → lent G st Hin b ∧ W.heap[b]? = W.heap[b]? := fun b hb => ⟨.inl hb, rfl⟩
      have hchg : Chg U G W { G with Im := lent G st Hin } W := ⟨fun _ _ => ⟨rfl, rfl, rfl, rfl⟩, him⟩
      have hs := hin i cs h
      have hi : InH st.H i := by show (st.H i).isSome = true; rw [hs]; rfl
      refine hchg.hb (hI.dom i hi) (hI.wh i cs hs) (hI.hp i cs hs) (fun _ => rfl) (fun hx hph => ?_)
      rcases hx with hx | ⟨j, hj, hnj, hpj, he⟩
      · exact hx
      · have := hI.inj j i hj hi hpj hph he
        subst this
        exact absurd (by show (Hin j).isSome = true; rw [h]; rfl) hnj

theorem semAt_call {E : Ent} {o : Oper} {c : Call} (ho : o.op = .call c) (ρ : Operand → Value) : o.semAt E.F.round ρ = execOp ρ o := Oper.semAt_eq _ _ _ (by rw [ho]; nofun)

theorem call_sound (hI : Inv E U G st a W) {o : Oper} {c : Call} {fo : Operand} (ho : o.op = .call c) (hc : c.callee = .value fo) {g : FuncId} {caps args : List V} {Hin : Hp} {ks : List Nat} {res : Res} {H1 : Hp} (hg : calleeOf (evF st.fr fo) = some (g, caps))
    (hcall : CallA P st.H g (capL st.fr c.args.toList ++ caps) args Hin ks res H1) {base : Nat} (hb : ∀ j, j < 1048576 → ¬ U (base + j)) (hU : ∀ i, U i → U' i) (hb' : ∀ j, j < 1048576 → U' (base + j)) (hd : ∀ d, o.dst = some d → d < E.nt)
    {K : Act → World → Prop} {Q : Exit → Act → World → Prop} (h : ∀ r G' a' W', res = .ret r → Inv E U' G' ⟨frPut st.fr o.dst (ren (sg ks base) r), heapM st.H base Hin ks H1, st.nx⟩ a' W' → K a' W')
    (hx : ∀ r G' W' ch, res = .pan r → exRel G' W' (.pan (ren (sg ks base) r)) (.panic ch) → AV U' anyD (ren (sg ks base) r) → Inv E U' G' ⟨st.fr, heapM st.H base Hin ks H1, st.nx⟩ a W' → Q (.panic ch) a W') : o.wpIn E.F 0 P a W K Q := by
  obtain ⟨hfn, hcb⟩ := hcall
  obtain ⟨xs, hrun, hrel⟩ := callee_run hI ho hc hg hfn.1
  obtain ⟨Im, hIm, hall, hpre, hph, hcs⟩ := callB_pre hI hrel hcb
  obtain ⟨hin, hlt, hks, _⟩ := hcb
  refine ⟨fun _ _ => trivial, ?_⟩
  rw [semAt_call ho, hrun]
  simp only [Oper.uponIn]
  refine ⟨by simp [Fence.wide], ?_⟩
  show CallsIn Fence.wide 0 P g xs W _
  rw [callsIn_wide]
  refine (hfn.2 { G with Im := Im } W xs hIm hall hpre).mono fun e W' ⟨G', hpost⟩ => ?_
  obtain ⟨G'', hI', hrv, hav, _⟩ := hI.call hb hU hb' hin hlt (fun i hi => (hpre.st i hi).1) hph hpost hcs
  cases res with
  | ret r => cases e with
    | returned v => exact h r _ _ _ rfl (hI'.slot hrv hav o.dst hd)
    | _ => exact hrv.elim
  | pan r => cases e with
    | panicked ch => exact hx r G'' W' ch rfl hrv hav hI'
    | _ => exact hrv.elim
theorem yield_sound (hI : Inv E U G st a W) {o : Oper} {c : Call} {fo : Operand} (ho : o.op = .call c) (hc : c.callee = .value fo) {k : Nat} {args : List V} {Hin : Hp} {ks : List Nat} {res : Res} {H1 : Hp} (hk : evF st.fr fo = .yl k)
    (hcall : YieldA P st.H k (capL st.fr c.args.toList) args Hin ks res H1) {base : Nat} (hb : ∀ j, j < 1048576 → ¬ U (base + j)) (hU : ∀ i, U i → U' i) (hb' : ∀ j, j < 1048576 → U' (base + j)) (hd : ∀ d, o.dst = some d → d < E.nt)
    {K : Act → World → Prop} {Q : Exit → Act → World → Prop} (h : ∀ r G' a' W', res = .ret r → Inv E U' G' ⟨frPut st.fr o.dst (ren (sg ks base) r), heapM st.H base Hin ks H1, st.nx⟩ a' W' → K a' W')
    (hx : ∀ r G' W' ch, res = .pan r → exRel G' W' (.pan (ren (sg ks base) r)) (.panic ch) → AV U' anyD (ren (sg ks base) r) → Inv E U' G' ⟨st.fr, heapM st.H base Hin ks H1, st.nx⟩ a W' → Q (.panic ch) a W') : o.wpIn E.F 0 P a W K Q := by
  obtain ⟨hy, ⟨fr, nt, ps, pa, pb, jmp, hHk, hlen⟩, hcb⟩ := hcall
  have hl : ps.length = c.args.size := by
    have : (capL st.fr c.args.toList).length = args.length := by
      rcases hcb.2.2.2 with h | ⟨h, _⟩ <;> exact h.length
    have h2 : (capL st.fr c.args.toList).length = c.args.size := by
      have := (capL_rel hI c.args.toList).1.length
      simpa using this
    omega
  obtain ⟨xs, rec, hrec, hsz, hrun, hrel⟩ := yield_run hI ho hc hk (hcb.1 k _ hHk) hl
  obtain ⟨Im, hIm, hall, hpre, hph, hcs⟩ := callB_pre hI hrel hcb
  obtain ⟨hin, hlt, hks, _⟩ := hcb
  refine ⟨fun _ _ => trivial, ?_⟩
  rw [semAt_call ho, hrun]
  simp only [Oper.uponIn]
  refine ⟨by simp [Fence.wide], ?_⟩
  show RoundIn Fence.wide 0 P _ _ _ _ _ W _
  refine (hy { G with Im := Im } W xs rec hIm hall hpre hrec hsz).mono fun e W' ⟨G', hpost⟩ => ?_
  obtain ⟨G'', hI', hrv, hav, _⟩ := hI.call hb hU hb' hin hlt (fun i hi => (hpre.st i hi).1) hph hpost hcs
  cases res with
  | ret r => cases e with
    | returned v => exact h r _ _ _ rfl (hI'.slot hrv hav o.dst hd)
    | _ => exact hrv.elim
  | pan r => cases e with
    | panicked ch => exact hx r G'' W' ch rfl hrv hav hI'
    | _ => exact hrv.elim
end Go.Psl
/- One step of a region; a region in the order of the text; the rules of code. -/
namespace Go.Psl
variable {P : Program} {Γ : Tys} {eqs : Eqs} {E : Ent} {U U' : Nat → Prop} {G : Gh} {st : St} {a : Act} {W : World}

def gV : V → Option (Option Bool)
  | .d (.lit (.bool b)) => some (some b)
  | .tup [] => some none
  | _ => none
def guardOf (all : List Oper) (f : Nat → V) : Option (Nat × Bool) → Option Bool
  | none => some true
  | some (j, w) => ((all[j]?).bind (·.dst)).bind fun d => (gV (f d)).map fun y => y == some w

theorem guard_sound (hI : Inv E U G st a W) {all : List Oper} {o : Oper} {b : Bool} (h : guardOf all st.fr o.guard = some b) : Region.wanted o (yielded all.toArray a.tmps) = b := by
  unfold guardOf at h
  unfold Region.wanted
  split at h
  · rename_i hg; cases h; simp [hg]
  · rename_i j w hg
    rw [hg]
    simp only
    cases hd : (all[j]?).bind (·.dst) with
    | none => simp [hd] at h
    | some d =>
      simp only [hd, Option.bind_some] at h
      cases hv : gV (st.fr d) with
      | none => simp [hv] at h
      | some y =>
        simp only [hv, Option.map_some, Option.some.injEq] at h
        have hr := hI.fr d
        have hy : yielded all.toArray a.tmps j = y := by
          unfold yielded
          rw [List.getElem?_toArray, hd]
          simp only [Option.bind_some]
          unfold gV at hv
          split at hv
          · rename_i c hc
            cases hv
            rw [hc] at hr
            have := rv_bool hr
            rw [Array.getD_eq_getD_getElem?] at this
            cases ht : a.tmps[d]? with
            | none => rw [ht] at this; simp [undef] at this
            | some u => rw [ht] at this; simp only [Option.getD_some] at this; subst this; rfl
          · rename_i hc
            cases hv
            rw [hc] at hr
            obtain ⟨cv, hu, hcv⟩ := hr
            have : cv = #[] := by
              have := All2.nil_iff.1 hcv
              exact Array.ext' this
            subst this
            rw [Array.getD_eq_getD_getElem?] at hu
            cases ht : a.tmps[d]? with
            | none => rfl
            | some u => rw [ht] at hu; simp only [Option.getD_some] at hu; subst hu; rfl
          · cases hv
        rw [hy]; exact h

/-- what an operation does, if it is carried out -/
inductive StepOp (P : Program) (Γ : Tys) (eqs : Eqs) (b : Nat) (o : Oper) (st : St) : St → Prop
  | plain (v : V) (e : Eff) (h : evalOp Γ eqs st.H b st.fr o.op = some (v, e)) : StepOp P Γ eqs b o st ⟨frPut st.fr o.dst v, st.H.app e, st.nx⟩
  | call (c : Call) (fo : Operand) (g : FuncId) (caps args : List V) (Hin : Hp) (ks : List Nat) (r : V) (H1 : Hp) (ho : o.op = .call c) (hc : c.callee = .value fo) (hg : calleeOf (evF st.fr fo) = some (g, caps))
      (hcall : CallA P st.H g (capL st.fr c.args.toList ++ caps) args Hin ks (.ret r) H1) : StepOp P Γ eqs b o st ⟨frPut st.fr o.dst (ren (sg ks b) r), heapM st.H b Hin ks H1, st.nx⟩
  | yield (c : Call) (fo : Operand) (k : Nat) (args : List V) (Hin : Hp) (ks : List Nat) (r : V) (H1 : Hp) (ho : o.op = .call c) (hc : c.callee = .value fo) (hg : evF st.fr fo = .yl k)
      (hcall : YieldA P st.H k (capL st.fr c.args.toList) args Hin ks (.ret r) H1) : StepOp P Γ eqs b o st ⟨frPut st.fr o.dst (ren (sg ks b) r), heapM st.H b Hin ks H1, st.nx⟩
/-- an operation that panics -/
inductive StepP (P : Program) (b : Nat) (o : Oper) (st : St) : V → St → Prop
  | call (c : Call) (fo : Operand) (g : FuncId) (caps args : List V) (Hin : Hp) (ks : List Nat) (r : V) (H1 : Hp) (ho : o.op = .call c) (hc : c.callee = .value fo) (hg : calleeOf (evF st.fr fo) = some (g, caps))
      (hcall : CallA P st.H g (capL st.fr c.args.toList ++ caps) args Hin ks (.pan r) H1) : StepP P b o st (ren (sg ks b) r) ⟨st.fr, heapM st.H b Hin ks H1, st.nx⟩
  | yield (c : Call) (fo : Operand) (k : Nat) (args : List V) (Hin : Hp) (ks : List Nat) (r : V) (H1 : Hp) (ho : o.op = .call c) (hc : c.callee = .value fo) (hg : evF st.fr fo = .yl k)
      (hcall : YieldA P st.H k (capL st.fr c.args.toList) args Hin ks (.pan r) H1) : StepP P b o st (ren (sg ks b) r) ⟨st.fr, heapM st.H b Hin ks H1, st.nx⟩
  | panic (x : Operand) (t : TypeId) (ag : Bool) (cs : List D) (ho : o.op = .panic x) (hv : evF st.fr x = .d (.ifc t ag cs)) : StepP P b o st (.d (.ifc t ag cs)) st

theorem eval_nodefer {Γ : Tys} {eqs : Eqs} {H : Hp} {b : Nat} {f : Nat → V} {op : Op} {r : V × Eff} (h : evalOp Γ eqs H b f op = some r) : ∀ c, op ≠ .defer c := by
  intro c e
  subst e
  cases h

theorem step_sound (hΓ : GOk P Γ) (hE : EqOk P eqs) (hI : Inv E U G st a W) {o : Oper} {b : Nat} (hb : ∀ j, j < 1048576 → ¬ U (b + j)) (hU : ∀ i, U i → U' i) (hb' : ∀ j, j < 1048576 → U' (b + j)) (hd : ∀ d, o.dst = some d → d < E.nt) {st' : St} (hs : StepOp P Γ eqs b o st st')
    {K : Act → World → Prop} {Q : Exit → Act → World → Prop} (h : ∀ G' a' W', Inv E U' G' st' a' W' → K a' W') : o.wpIn E.F 0 P a W K Q := by
  cases hs with
  | plain v e he =>
    obtain ⟨n, x, W', G', hrun, hn, hI', hr, ha⟩ := eval_out hΓ hE hI (hb 0 (by omega)) hU (hb' 0 (by omega)) he
    refine ⟨fun _ _ => trivial, ?_⟩
    rw [Oper.semAt_eq _ _ _ (eval_nodefer he), hrun]
    have h2 := h _ _ _ (hI'.slot hr ha o.dst hd)
    rcases hn with rfl | ⟨rfl, rfl⟩
    · exact h2
    · exact h2
  | call c fo g caps args Hin ks r H1 ho hc hg hcall => exact call_sound hI ho hc hg hcall hb hU hb' hd (fun r' G' a' W' he hI' => by cases he; exact h G' a' W' hI') (fun _ _ _ _ he => by cases he)
  | yield c fo k args Hin ks r H1 ho hc hg hcall => exact yield_sound hI ho hc hg hcall hb hU hb' hd (fun r' G' a' W' he hI' => by cases he; exact h G' a' W' hI') (fun _ _ _ _ he => by cases he)
theorem stepP_sound (hI : Inv E U G st a W) {o : Oper} {b : Nat} (hb : ∀ j, j < 1048576 → ¬ U (b + j)) (hU : ∀ i, U i → U' i) (hb' : ∀ j, j < 1048576 → U' (b + j)) (hd : ∀ d, o.dst = some d → d < E.nt) {v : V} {st' : St} (hs : StepP P b o st v st')
    {K : Act → World → Prop} {Q : Exit → Act → World → Prop} (h : ∀ G' W' ch, exRel G' W' (.pan v) (.panic ch) → AV U' anyD v → Inv E U' G' st' a W' → Q (.panic ch) a W') : o.wpIn E.F 0 P a W K Q := by
  cases hs with
  | call c fo g caps args Hin ks r H1 ho hc hg hcall => exact call_sound hI ho hc hg hcall hb hU hb' hd (fun _ _ _ _ he => by cases he) (fun r' G' W' ch he h1 h2 hI' => by cases he; exact h G' W' ch h1 h2 hI')
  | yield c fo k args Hin ks r H1 ho hc hg hcall => exact yield_sound hI ho hc hg hcall hb hU hb' hd (fun _ _ _ _ he => by cases he) (fun r' G' W' ch he h1 h2 hI' => by cases he; exact h G' W' ch h1 h2 hI')
  | panic x t ag cs ho hv =>
    have hx := (hI.op x).1
    rw [hv] at hx
    refine ⟨fun _ _ => trivial, ?_⟩
    rw [Oper.semAt_eq _ _ _ (by rw [ho]; nofun)]
    have hrun : (execOp a.eval o).run P W = .halt (.panic (a.eval x)) W := by
      have hx' : RD G.Im W (.ifc t ag cs) (a.eval x) := hx
      simp only [execOp, ho]
      generalize a.eval x = u at hx'
      cases hx' <;> rfl
    rw [hrun]
    simp only [Oper.uponIn]
    exact h G W _ ⟨_, rfl, hx⟩ trivial (hI.mono hU)

def AStep (P : Program) (Γ : Tys) (eqs : Eqs) (b : Nat) (o : Oper) (st : St) (K : St → Prop) (Kx : V → St → Prop) : Prop := (∃ st', StepOp P Γ eqs b o st st' ∧ K st') ∨ (∃ v st', StepP P b o st v st' ∧ Kx v st')
def AGuard (g : Option Bool) (r s : Prop) : Prop := match g with | some b => (b = true → r) ∧ (b = false → s) | none => False

/-- a region in the order of the text -/
def AOps (P : Program) (Γ : Tys) (eqs : Eqs) (all : List Oper) : Nat → List Oper → St → (St → Prop) → (V → St → Prop) → Prop
  | k, [], st, K, _ => K ⟨st.fr, st.H, st.nx + 1048576 * k⟩
  | k, o :: rest, st, K, Kx => AGuard (guardOf all st.fr o.guard) (AStep P Γ eqs (st.nx + 1048576 * k) o st (fun st' => AOps P Γ eqs all (k + 1) rest st' K Kx) (fun v st' => Kx v ⟨st'.fr, st'.H, st'.nx + 1048576 * (k + 1)⟩)) (AOps P Γ eqs all (k + 1) rest ⟨frPut st.fr o.dst (.tup []), st.H, st.nx⟩ K Kx)

theorem StepOp.nx {b : Nat} {o : Oper} {st' : St} (h : StepOp P Γ eqs b o st st') : st'.nx = st.nx := by cases h <;> rfl
theorem StepP.nx {b : Nat} {o : Oper} {v : V} {st' : St} (h : StepP P b o st v st') : st'.nx = st.nx := by cases h <;> rfl

theorem dst_lt {nt : Nat} {ops : List Oper} (h : dstsOk nt ops = true) {o : Oper} (ho : o ∈ ops) (d : Nat) (hd : o.dst = some d) : d < nt := by
  have := List.all_eq_true.1 h o ho
  rw [hd] at this
  simpa using this
theorem Inv.nx (hI : Inv E U G st a W) (n : Nat) : Inv E U G ⟨st.fr, st.H, n⟩ a W := ⟨hI.fr, hI.wf, hI.hp, hI.wh, hI.dom, hI.inj, hI.own, hI.im, hI.im0, hI.keep, hI.stab, hI.sU, hI.nt, hI.df⟩

/-- what is asked at the ends of a region -/
structure EndOk (E : Ent) (Q : Exit → Act → World → Prop) (K : St → Prop) (Kx : V → St → Prop) : Prop where
  ok : ∀ G st' a' W', Inv E (· < st'.nx) G st' a' W' → K st' → Q .normal a' W'
  pan : ∀ G v st' a' W' ch, Inv E (· < st'.nx) G st' a' W' → exRel G W' (.pan v) (.panic ch) → AV (· < st'.nx) anyD v → Kx v st' → Q (.panic ch) a' W'

theorem aops_sound (hΓ : GOk P Γ) (hE : EqOk P eqs) {all : List Oper} {Q : Exit → Act → World → Prop} {K : St → Prop} {Kx : V → St → Prop} (hK : EndOk E Q K Kx) :
    ∀ (rest : List Oper) (k : Nat) (st : St) (G : Gh) (a : Act) (W : World), dstsOk E.nt rest = true → Inv E (· < st.nx + 1048576 * k) G st a W → AOps P Γ eqs all k rest st K Kx → wpListIn E.F 0 P all.toArray Q rest a W
  | [], k, st, G, a, W, _, hI, h => hK.ok G _ a W (hI.nx _) h
  | o :: rest, k, st, G, a, W, hd, hI, h => by
    simp only [dstsOk, List.all_cons, Bool.and_eq_true] at hd
    have hd1 : ∀ d, o.dst = some d → d < E.nt := fun d hh => by have := hd.1; rw [hh] at this; simpa using this
    simp only [AOps, AGuard] at h
    cases hg : guardOf all st.fr o.guard with
    | none => simp [hg] at h
    | some b =>
      rw [hg] at h
      have hw := guard_sound hI hg
      unfold wpListIn
      rw [hw]
      cases b with
      | true =>
        simp only [if_true]
        rcases h.1 rfl with ⟨st', hs, hrest⟩ | ⟨v, st', hs, hx⟩
        · refine step_sound hΓ hE hI (U' := (· < st.nx + 1048576 * (k + 1))) (fun j hj => by omega) (fun i hi => by omega) (fun j hj => by omega) hd1 hs fun G' a' W' hI' => ?_
          rw [← hs.nx] at hI'
          exact aops_sound hΓ hE hK rest (k + 1) st' G' a' W' hd.2 hI' hrest
        · refine stepP_sound hI (U' := (· < st.nx + 1048576 * (k + 1))) (fun j hj => by omega) (fun i hi => by omega) (fun j hj => by omega) hd1 hs fun G' W' ch h1 h2 hI' => ?_
          rw [← hs.nx] at hI' h2
          exact hK.pan G' v ⟨st'.fr, st'.H, st'.nx + 1048576 * (k + 1)⟩ a W' ch (hI'.nx _) h1 h2 hx
      | false =>
        simp only [Bool.false_eq_true, if_false]
        have hI' := (hI.mono (U' := (· < st.nx + 1048576 * (k + 1))) (fun i hi => by omega)).slot tup_nil (by simp [AV]) o.dst hd1
        exact ⟨fun _ _ => trivial, aops_sound hΓ hE hK rest (k + 1) _ G _ W hd.2 hI' (h.2 rfl)⟩

/-- THE ABSTRACT WP OF CODE -/
def AW (P : Program) (E : Ent) (c : Code) (Q : AExit → St → Prop) (st : St) : Prop :=
  ∀ G a W, Inv E (· < st.nx) G st a W → c.wpIn E.F 0 P (fun e a' W' => ∃ x st' G', Inv E (· < st'.nx) G' st' a' W' ∧ exRel G' W' x e ∧ exOk (· < st'.nx) x ∧ Q x st') a W

theorem endOk_of {Q : AExit → St → Prop} : EndOk E (fun e a' W' => ∃ x st' G', Inv E (· < st'.nx) G' st' a' W' ∧ exRel G' W' x e ∧ exOk (· < st'.nx) x ∧ Q x st') (Q .normal) (fun v st => Q (.pan v) st) :=
  ⟨fun G st' _ _ hI hk => ⟨.normal, st', G, hI, trivial, trivial, hk⟩, fun G v st' _ _ _ hI h1 h2 hk => ⟨.pan v, st', G, hI, h1, h2, hk⟩⟩
theorem AW.region (hΓ : GOk P Γ) (hE : EqOk P eqs) {id : Nat} {ops : List Oper} {Q : AExit → St → Prop} (hd : dstsOk E.nt ops = true) (h : AOps P Γ eqs ops 0 ops st (Q .normal) (fun v st => Q (.pan v) st)) : AW P E (.region id ops.toArray false) Q st := by
  intro G a W hI
  refine wpIn_region_lit (aops_sound hΓ hE endOk_of ops 0 st G a W hd ?_ h)
  simpa using hI
def seqQ (K : St → Prop) (Q : AExit → St → Prop) : AExit → St → Prop
  | .normal, st => K st
  | e, st => Q e st
theorem AW.seq {x y : Code} {Q : AExit → St → Prop} (h : AW P E x (seqQ (AW P E y Q) Q) st) : AW P E (.seq x y) Q st := by
  intro G a W hI
  refine wpIn_seq (wpIn_mono (h G a W hI) fun e a' W' ⟨x, st', G', hI', hx, ho, hq⟩ => ?_)
  cases e with
  | normal =>
    cases x with
    | normal => exact hq G' a' W' hI'
    | _ => exact hx.elim
  | _ =>
    cases x <;> first | exact False.elim hx | exact ⟨_, st', G', hI', hx, ho, hq⟩
theorem AW.skip {Q : AExit → St → Prop} (h : Q .normal st) : AW P E .skip Q st := fun _ _ _ hI => wpIn_skip ⟨.normal, st, _, hI, trivial, trivial, h⟩
theorem AW.ret {Q : AExit → St → Prop} (h : Q .ret st) : AW P E .ret Q st := fun _ _ _ hI => wpIn_ret ⟨.ret, st, _, hI, trivial, trivial, h⟩
theorem AW.exit {id : Nat} {Q : AExit → St → Prop} (h : Q (.exit id) st) : AW P E (.exit id) Q st := fun _ _ _ hI => wpIn_exit ⟨.exit id, st, _, hI, rfl, trivial, h⟩
theorem AW.cond {c : Operand} {x y : Code} {Q : AExit → St → Prop} {b : Bool} (hc : evF st.fr c = .d (.lit (.bool b))) (ht : b = true → AW P E x Q st) (hf : b = false → AW P E y Q st) : AW P E (.cond c x y) Q st := by
  intro G a W hI
  have h := (hI.op c).1
  rw [hc] at h
  have h := rv_bool h
  exact wpIn_cond_split h (fun hb => ht hb G a W hI) (fun hb => hf hb G a W hI)
def blkQ (id : Nat) (Q : AExit → St → Prop) : AExit → St → Prop
  | .exit j, st => if j = id then Q .normal st else Q (.exit j) st
  | e, st => Q e st
theorem AW.block {id : Nat} {c : Code} {Q : AExit → St → Prop} (h : AW P E c (blkQ id Q) st) : AW P E (.block id c) Q st := by
  intro G a W hI
  refine wpIn_block (wpIn_mono (h G a W hI) fun e a' W' ⟨x, st', G', hI', hx, ho, hq⟩ => ?_)
  cases e with
  | exit j =>
    cases x with
    | exit j' =>
      have hx : j' = j := hx
      subst hx
      simp only [blkQ] at hq
      simp only [Exit.inBlock]
      split
      · rename_i hj; rw [if_pos hj] at hq; exact ⟨.normal, st', G', hI', trivial, trivial, hq⟩
      · rename_i hj; rw [if_neg hj] at hq; exact ⟨.exit j', st', G', hI', rfl, trivial, hq⟩
    | _ => exact hx.elim
  | _ =>
    cases x <;> first | exact False.elim hx | exact ⟨_, st', G', hI', hx, ho, hq⟩
theorem AW.mono {c : Code} {Q Q' : AExit → St → Prop} (h : AW P E c Q st) (hq : ∀ e st, Q e st → Q' e st) : AW P E c Q' st :=
  fun G a W hI => wpIn_mono (h G a W hI) fun _ _ _ ⟨x, st', G', hI', hx, ho, h⟩ => ⟨x, st', G', hI', hx, ho, hq _ _ h⟩

/-- less is known -/
def Weak (_ : Program) (E : Ent) (st st' : St) : Prop := ∀ G a W, Inv E (· < st.nx) G st a W → ∃ G', Inv E (· < st'.nx) G' st' a W
theorem AW.weak {c : Code} {Q : AExit → St → Prop} {st' : St} (hw : Weak P E st st') (h : AW P E c Q st') : AW P E c Q st := fun G a W hI => by
  obtain ⟨G', hI'⟩ := hw G a W hI
  exact h G' a W hI'

theorem AW.loop {α : Type} {c : Code} {Q : AExit → St → Prop} (S : α → St) (inv : α → Prop) (μ : α → Nat) (x0 : α) (h0 : inv x0) (hw : Weak P E st (S x0))
    (round : ∀ x, inv x → AW P E c (seqQ (fun st' => ∃ y, inv y ∧ μ y < μ x ∧ Weak P E st' (S y)) Q) (S x)) : AW P E (.loop c) Q st := by
  intro G a W hI
  obtain ⟨G0, hI0⟩ := hw G a W hI
  intro b k cs hro hb hr
  have key : ∀ n x, μ x = n → inv x → ∀ G a W, Inv E (· < (S x).nx) G (S x) a W →
      ∃ e a' w', (∃ x st' G', Inv E (· < st'.nx) G' st' a' w' ∧ exRel G' w' x e ∧ exOk (· < st'.nx) x ∧ Q x st') ∧ ArrivesIn (Machine.fenced P E.F) P (lone (b.atR a (.code c :: .inLoop c :: k)) cs W) b k cs e a' w' := by
    intro n
    induction n using Nat.strongRecOn with
    | _ n ih =>
      intro x hx hinv G a W hI
      obtain ⟨e, a₁, w₁, ⟨x', st', G', hI', hx', ho, hq⟩, harr⟩ := round x hinv G a W hI b (.inLoop c :: k) cs hro hb hr
      cases e with
      | normal =>
        cases x' with
        | normal =>
          obtain ⟨y, hy, hlt, hwk⟩ := hq
          obtain ⟨G2, hI2⟩ := hwk G' a₁ w₁ hI'
          obtain ⟨e₂, a₂, w₂, hq₂, harr₂⟩ := ih (μ y) (hx ▸ hlt) y rfl hy G2 a₁ w₁ hI2
          exact ⟨e₂, a₂, w₂, hq₂, .of_steps (StepsIn.trans harr (.one (fenced_calm hb hr rfl) stepR_inLoop)) harr₂⟩
        | _ => exact hx'.elim
      | exit id => cases x' <;> first | exact False.elim hx' | exact ⟨_, a₁, w₁, ⟨_, st', G', hI', hx', ho, hq⟩, .pass (x := .inLoop c) rfl (fun _ _ => .inl (by simp)) harr⟩
      | goto l => cases x' <;> first | exact False.elim hx' | exact ⟨_, a₁, w₁, ⟨_, st', G', hI', hx', ho, hq⟩, .pass (x := .inLoop c) rfl (fun _ _ => .inl (by simp)) harr⟩
      | ret => cases x' <;> first | exact False.elim hx' | exact ⟨_, a₁, w₁, ⟨_, st', G', hI', hx', ho, hq⟩, .pass (x := .inLoop c) rfl (fun _ _ => .inl (by simp)) harr⟩
      | panic ch => cases x' <;> first | exact False.elim hx' | exact ⟨_, a₁, w₁, ⟨_, st', G', hI', hx', ho, hq⟩, .pass (x := .inLoop c) rfl (fun _ _ => .inl (by simp)) harr⟩
      | outgrown => cases x' <;> exact False.elim hx'
  obtain ⟨e, a', w', hq, harr⟩ := key _ x0 rfl h0 G0 a W hI0
  exact ⟨e, a', w', hq, .of_steps (.one (fenced_calm hb hr rfl) stepR_loop) harr⟩
end Go.Psl
/- What an operation looks at: its operands' slots, and blocks that are there. -/
namespace Go.Psl
variable {P : Program} {Γ : Tys} {eqs : Eqs}

def HLe (H H' : Hp) : Prop := ∀ id cs, H id = some cs → H' id = some cs

theorem evF_congr {f f' : Nat → V} {x : Operand} (h : ∀ t, x = .tmp t → f t = f' t) : evF f x = evF f' x := by
  cases x with
  | tmp t => exact h t rfl
  | _ => rfl
def tmpsOf (l : List Operand) : List Nat := l.filterMap fun | .tmp t => some t | _ => none
theorem mem_tmpsOf {l : List Operand} {t : Nat} (h : Operand.tmp t ∈ l) : t ∈ tmpsOf l := List.mem_filterMap.2 ⟨_, h, rfl⟩
theorem capL_congr {f f' : Nat → V} : ∀ {l : List Operand}, (∀ t, Operand.tmp t ∈ l → f t = f' t) → capL f l = capL f' l
  | [], _ => rfl
  | x :: r, h => by
    simp only [capL]
    rw [evF_congr (fun t ht => h t (by simp [ht])), capL_congr (fun t ht => h t (by simp [ht]))]
theorem opdL_congr {f f' : Nat → V} : ∀ {l : List (Nat × Operand)}, (∀ t, Operand.tmp t ∈ l.map (·.2) → f t = f' t) → opdL f l = opdL f' l
  | [], _ => rfl
  | (i, x) :: r, h => by
    simp only [opdL]
    rw [evF_congr (fun t ht => h t (by simp [ht])), opdL_congr (fun t ht => h t (by simp [ht]))]
theorem optF_congr {f f' : Nat → V} {o : Option Operand} (h : ∀ t, o = some (.tmp t) → f t = f' t) : o.map (evF f) = o.map (evF f') := by
  cases o with
  | none => rfl
  | some x => exact congrArg some (evF_congr fun t ht => h t (by rw [ht]))

theorem evalOp_congr {H : Hp} {b : Nat} {f f' : Nat → V} {op : Op} (h : ∀ t, Operand.tmp t ∈ op.operands.toList → f t = f' t) : evalOp Γ eqs H b f op = evalOp Γ eqs H b f' op := by
  cases op with
  | move x | assign x | box _ x | load _ x | nilCheck x | unOp _ _ x | convert _ _ x | extract x _ | fieldAddr _ x _ | field _ x _ =>
    simp only [evalOp]; rw [evF_congr (fun t ht => h t (by subst ht; simp [Op.operands]))]
  | pick c x y =>
    simp only [evalOp]
    rw [evF_congr (x := c) (fun t ht => h t (by subst ht; simp [Op.operands])), evF_congr (x := x) (fun t ht => h t (by subst ht; simp [Op.operands])), evF_congr (x := y) (fun t ht => h t (by subst ht; simp [Op.operands]))]
  | store _ x y | binOp _ _ x y _ | indexAddr _ x y | index _ x y =>
    simp only [evalOp]
    rw [evF_congr (x := x) (fun t ht => h t (by subst ht; simp [Op.operands])), evF_congr (x := y) (fun t ht => h t (by subst ht; simp [Op.operands]))]
  | build t ps | buildSlice t n ps =>
    simp only [evalOp]
    rw [opdL_congr (fun t ht => h t (by simpa [Op.operands] using ht))]
  | slice t x lo hi mx =>
    cases mx with
    | some m => rfl
    | none =>
      simp only [evalOp]
      rw [evF_congr (x := x) (fun t ht => h t (by subst ht; simp [Op.operands])), optF_congr (o := lo) (fun t ht => h t (by subst ht; simp [Op.operands])), optF_congr (o := hi) (fun t ht => h t (by subst ht; simp [Op.operands]))]
  | makeFunc fn first caps =>
    cases fn with
    | func g => simp only [evalOp]; rw [capL_congr (fun t ht => h t (by simp only [Op.operands, Array.toList_append, List.mem_append]; exact .inr ht))]
    | _ => rfl
  | call c =>
    have hc : ∀ t, Operand.tmp t ∈ c.args.toList → f t = f' t := fun t ht => h t (by
      simp only [Op.operands, Call.operands]
      split <;> simp_all)
    have h1 := capL_congr hc
    simp only [evalOp]
    split
    · split
      · rename_i x t hx _
        rw [evF_congr (fun t ht => hc t (by rw [hx, ht]; simp))]
      · rfl
    · rw [h1]
    · rw [h1]
    · split
      · rename_i s x t t' hx _
        rw [evF_congr (x := s) (fun t ht => hc t (by rw [hx, ht]; simp)), evF_congr (x := x) (fun t ht => hc t (by rw [hx, ht]; simp))]
      · rfl
    · split
      · rename_i x t hx _
        rw [evF_congr (fun t ht => hc t (by rw [hx, ht]; simp))]
      · rfl
    · split
      · rename_i x t hx _
        rw [evF_congr (fun t ht => hc t (by rw [hx, ht]; simp))]
      · rfl
    · rfl
  | _ => rfl

theorem obind {α β : Type} {x y : Option α} {g g' : α → Option β} {r : β} (h : ∀ a, x = some a → y = some a) (hg : ∀ a r, g a = some r → g' a = some r) (he : x.bind g = some r) : y.bind g' = some r := by
  cases hx : x with
  | none => simp [hx] at he
  | some a => rw [hx] at he; rw [h a hx]; exact hg a r he

theorem loadF_mono {H H' : Hp} (hh : HLe H H') {t : TypeId} {v : V} {r : V × Eff} (h : loadF Γ H t v = some r) : loadF Γ H' t v = some r := by
  unfold loadF at *
  split
  · exact h
  · exact obind (fun _ h => h) (fun y r hy => obind (hh _) (fun _ _ h => h) hy) h
  · simp at h
theorem storeF_mono {H H' : Hp} (hh : HLe H H') {t : TypeId} {a v : V} {r : V × Eff} (h : storeF Γ H t a v = some r) : storeF Γ H' t a v = some r := by
  unfold storeF at *
  split
  · exact obind (fun _ h => h) (fun y r hy => obind (hh _) (fun _ _ h => h) hy) h
  · simp at h
theorem sliceF_mono {H H' : Hp} (hh : HLe H H') {t : TypeId} {x : V} {lo hi : Option V} {r : V × Eff} (h : sliceF Γ H t x lo hi = some r) : sliceF Γ H' t x lo hi = some r := by
  unfold sliceF at *
  refine obind (fun _ h => h) (fun y r hy => ?_) h
  generalize y.sh = sh at hy ⊢
  cases sh with
  | array m e =>
    refine obind (fun _ h => h) (fun ye r hy => ?_) hy
    cases x with
    | lp id off => exact obind (hh _) (fun _ _ h => h) hy
    | _ => exact hy
  | _ => exact hy
theorem cellsOf_mono {H H' : Hp} (hh : HLe H H') {sz : Nat} {x : V} {r : Nat × List V} (h : cellsOf H sz x = some r) : cellsOf H' sz x = some r := by
  cases x with
  | ls id off len sz' =>
    unfold cellsOf at *
    by_cases he : sz = sz'
    · simp only [if_pos he] at h ⊢
      exact obind (hh _) (fun _ _ h => h) h
    · simp [he] at h
  | d x => cases x with
    | lit v => cases v <;> exact h
    | _ => exact h
  | _ => exact h
def appS (H : Hp) (b : Nat) (ye : Ty) (s : V) (nx : Nat × List V) : Option (V × Eff) := match s with
    | .d (.lit (.slice _ _ _)) => if nx.1 * ye.bytes ≤ maxA ∧ nx.1 ≤ maxL then some (.ls b 0 nx.1 ye.size, .new b nx.2) else none
    | .ls id 0 len sz => if sz = ye.size then (H id).bind fun cs => if len * sz ≤ cs.length ∧ (len + nx.1) * ye.bytes ≤ maxA ∧ len + nx.1 ≤ maxL then some (.ls b 0 (len + nx.1) sz, .mov id b (cs.take (len * sz) ++ nx.2)) else none else none
    | _ => none
theorem appS_mono {H H' : Hp} (hh : HLe H H') {b : Nat} {ye : Ty} {s : V} {nx : Nat × List V} {r : V × Eff} (h : appS H b ye s nx = some r) : appS H' b ye s nx = some r := by
  cases s with
  | ls id off len sz =>
    cases off with
    | zero =>
      unfold appS at *
      simp only at h ⊢
      by_cases he : sz = ye.size
      · simp only [if_pos he] at h ⊢
        exact obind (hh _) (fun _ _ h => h) h
      · simp [he] at h
    | succ n => exact h
  | d x => cases x with
    | lit v => cases v <;> exact h
    | _ => exact h
  | _ => exact h
theorem appF_mono {H H' : Hp} (hh : HLe H H') {b : Nat} {t : TypeId} {s x : V} {r : V × Eff} (h : appF Γ H b t s x = some r) : appF Γ H' b t s x = some r := by
  have key : ∀ H, appF Γ H b t s x = (Γ t).bind fun y => match y.sh with
    | .slice e => (Γ e).bind fun ye => if ye.size = 0 ∨ sameId s x = true then none else (cellsOf H ye.size x).bind fun nx => if nx.2.all V.isCell then appS H b ye s nx else none
    | _ => none := fun H => rfl
  rw [key] at h ⊢
  refine obind (fun _ h => h) (fun y r hy => ?_) h
  generalize y.sh = sh at hy ⊢
  cases sh with
  | slice e =>
    refine obind (fun _ h => h) (fun ye r hy => ?_) hy
    by_cases hc : ye.size = 0 ∨ sameId s x = true
    · simp [hc] at hy
    · rw [if_neg hc] at hy ⊢
      refine obind (fun _ h => cellsOf_mono hh h) (fun nx r hy => ?_) hy
      by_cases hc2 : nx.2.all V.isCell = true
      · simp only [hc2, if_true] at hy ⊢
        exact appS_mono hh hy
      · simp [hc2] at hy
  | _ => exact hy
theorem clearF_mono {H H' : Hp} (hh : HLe H H') {t : TypeId} {x : V} {r : V × Eff} (h : clearF Γ H t x = some r) : clearF Γ H' t x = some r := by
  unfold clearF at *
  refine obind (fun _ h => h) (fun y r hy => ?_) h
  generalize y.sh = sh at hy ⊢
  cases sh with
  | slice e =>
    refine obind (fun _ h => h) (fun ye r hy => ?_) hy
    split at hy
    · exact hy
    · split at hy
      · rename_i h0; rw [if_pos h0]; exact hy
      · rename_i h0
        rw [if_neg h0]
        split at hy
        · rename_i h1; rw [if_pos h1]; exact obind (hh _) (fun _ _ h => h) hy
        · cases hy
    · cases hy
  | _ => exact hy
theorem evalOp_mono {H H' : Hp} (hh : HLe H H') {b : Nat} {f : Nat → V} {op : Op} {r : V × Eff} (h : evalOp Γ eqs H b f op = some r) : evalOp Γ eqs H' b f op = some r := by
  cases op with
  | load t a => exact loadF_mono hh h
  | store t a v => exact storeF_mono hh h
  | slice t x lo hi mx =>
    cases mx with
    | some m => exact h
    | none => exact sliceF_mono hh h
  | call c =>
    simp only [evalOp] at h ⊢
    generalize c.callee = cc at h ⊢
    cases cc with
    | builtin bi =>
      cases bi with
      | append =>
        simp only at h ⊢
        generalize c.args.toList = al at h ⊢
        generalize c.argTypes.toList = tl at h ⊢
        match al, tl with
        | [s, x], [t, t'] =>
          simp only at h ⊢
          by_cases he : t = t'
          · rw [if_pos he] at h ⊢; exact appF_mono hh h
          · rw [if_neg he] at h ⊢; exact h
        | [], _ | [_], _ | _ :: _ :: _ :: _, _ => exact h
        | [_, _], [] | [_, _], [_] | [_, _], _ :: _ :: _ :: _ => exact h
      | clear =>
        simp only at h ⊢
        generalize c.args.toList = al at h ⊢
        generalize c.argTypes.toList = tl at h ⊢
        match al, tl with
        | [x], [t] => exact clearF_mono hh h
        | [], _ | _ :: _ :: _, _ => exact h
        | [_], [] | [_], _ :: _ :: _ => exact h
      | _ => exact h
    | _ => exact h
  | makeFunc fn first caps => cases fn <;> exact h
  | _ => exact h
theorem Bor0.le {H H' : Hp} (hh : HLe H H') {x y : V} (h : Bor0 H x y) : Bor0 H' x y := by
  cases x with
  | ls id off len sz =>
    cases y with
    | d y =>
      cases y with
      | sl sz' es => obtain ⟨h1, h2, h3, cs, h4, h5⟩ := h; exact ⟨h1, h2, h3, cs, hh _ _ h4, h5⟩
      | _ => exact h
    | _ => exact h
  | lp id off =>
    cases y with
    | d y =>
      cases y with
      | ref ds => obtain ⟨cs, h4, h5⟩ := h; exact ⟨cs, hh _ _ h4, h5⟩
      | _ => exact h
    | _ => exact h
  | cl f caps =>
    cases y with
    | d y => cases y <;> exact h
    | _ => exact h
  | d x =>
    cases y with
    | d y => exact h
    | _ => exact h
  | _ => cases y <;> exact h
theorem Bor1.le {H H' : Hp} (hh : HLe H H') {x y : V} (h : Bor1 H x y) : Bor1 H' x y := by
  unfold Bor1 at h ⊢
  split at h
  · exact h
  · exact ⟨h.1, All2.mono h.2 fun _ _ _ h => Bor0.le hh h⟩
  · exact Bor0.le hh h
theorem Bor.le {H H' : Hp} (hh : HLe H H') {x y : V} (h : Bor H x y) : Bor H' x y := by
  unfold Bor at h ⊢
  split at h
  · exact All2.mono h fun _ _ _ h => Bor1.le hh h
  · exact Bor1.le hh h
theorem lessH_le {H H' : Hp} (hh : HLe H H') (Hin : Hp) : HLe (lessH H Hin) (lessH H' Hin) := fun i cs h => by
  unfold lessH at h ⊢
  split at h
  · cases h
  · rename_i hn; rw [if_neg hn]; exact hh i cs h
theorem CallB.le {H H' : Hp} (hh : HLe H H') {as args : List V} {Hin : Hp} {ks : List Nat} {res : Res} {H1 : Hp} (h : CallB H as args Hin ks res H1) : CallB H' as args Hin ks res H1 :=
  ⟨fun i cs hi => hh i cs (h.1 i cs hi), h.2.1, h.2.2.1, h.2.2.2.imp id fun ⟨h1, h2⟩ => ⟨h1.mono fun _ _ _ h => Bor.le (lessH_le hh Hin) h, h2⟩⟩
theorem CallA.le {H H' : Hp} (hh : HLe H H') {g : FuncId} {as args : List V} {Hin : Hp} {ks : List Nat} {res : Res} {H1 : Hp} (h : CallA P H g as args Hin ks res H1) : CallA P H' g as args Hin ks res H1 :=
  ⟨h.1, h.2.le hh⟩

theorem guardOf_congr {all : List Oper} {f f' : Nat → V} {g : Option (Nat × Bool)} (h : ∀ j w d, g = some (j, w) → (all[j]?).bind (·.dst) = some d → f d = f' d) : guardOf all f g = guardOf all f' g := by
  unfold guardOf
  split
  · rfl
  · rename_i j w
    cases hd : (all[j]?).bind (·.dst) with
    | none => rfl
    | some d => simp only [Option.bind_some]; rw [h j w d rfl hd]
end Go.Psl
/- Regions that draw their order. -/
namespace Go.Psl
variable {P : Program} {Γ : Tys} {eqs : Eqs} {E : Ent}

/-- what an operation changes: blocks made or overwritten, blocks gone -/
abbrev Dl := Nat → Option (Option (List V))
def ext (H : Hp) (N : Dl) : Hp := fun id => match N id with | some x => x | none => H id
theorem ext_none (H : Hp) : ext H (fun _ => none) = H := rfl
theorem ext_upd (H : Hp) (b : Nat) (cs : List V) : upd H b (some cs) = ext H (upd (fun _ => none) b (some (some cs))) := by
  funext id
  simp only [ext, upd_at]
  split <;> rfl
theorem ext_mov (H : Hp) (i b : Nat) (cs : List V) : upd (upd H i none) b (some cs) = ext H (upd (upd (fun _ => none) i (some none)) b (some (some cs))) := by
  funext id
  simp only [ext, upd_at]
  split
  · rfl
  · split <;> rfl
def addD (base : Nat) (H1 : Hp) : Dl := fun id => if base ≤ id then (match H1 (id - base) with | some cs => some (some (cs.map (renC (base + ·)))) | none => none) else none
def addF (H : Hp) (base : Nat) (H1 : Hp) : Hp := fun id => if base ≤ id then (match H1 (id - base) with | some cs => some (cs.map (renC (base + ·))) | none => H id) else H id
theorem sg_nil (b : Nat) : sg [] b = (b + ·) := by funext j; simp [sg]
theorem heapM_no (H : Hp) (b : Nat) (H1 : Hp) : heapM H b noH [] H1 = addF H b H1 := by
  funext id
  simp only [heapM, addF, List.not_mem_nil, if_false, noH, Option.isSome_none, Bool.false_eq_true, sg_nil]
  rfl
theorem ext_addF (H : Hp) (b : Nat) (H1 : Hp) : addF H b H1 = ext H (addD b H1) := by
  funext id
  simp only [ext, addF, addD]
  by_cases h : b ≤ id
  · simp only [if_pos h]
    cases H1 (id - b) <;> rfl
  · simp only [if_neg h]

inductive StepD (P : Program) (Γ : Tys) (eqs : Eqs) (ws : List (Nat × Nat)) (k b : Nat) (o : Oper) (f : Nat → V) (Hr H : Hp) : V → Hp → Prop
  | plain (v : V) (h : evalOp Γ eqs Hr b f o.op = some (v, .none)) : StepD P Γ eqs ws k b o f Hr H v H
  | new (v : V) (cs : List V) (h : evalOp Γ eqs Hr b f o.op = some (v, .new b cs)) : StepD P Γ eqs ws k b o f Hr H v (upd H b (some cs))
  | put (v : V) (id : Nat) (cs : List V) (h : evalOp Γ eqs Hr b f o.op = some (v, .put id cs)) (hw : (k, id) ∈ ws) : StepD P Γ eqs ws k b o f Hr H v (upd H id (some cs))
  | mov (v : V) (id : Nat) (cs : List V) (h : evalOp Γ eqs Hr b f o.op = some (v, .mov id b cs)) (hw : (k, id) ∈ ws) : StepD P Γ eqs ws k b o f Hr H v (upd (upd H id none) b (some cs))
  | call (c : Call) (fo : Operand) (g : FuncId) (caps args : List V) (r : V) (H1 : Hp) (ho : o.op = .call c) (hc : c.callee = .value fo) (hg : calleeOf (evF f fo) = some (g, caps))
      (hcall : CallA P Hr g (capL f c.args.toList ++ caps) args noH [] (.ret r) H1) : StepD P Γ eqs ws k b o f Hr H (ren (b + ·) r) (addF H b H1)

structure Nw where
  v : V
  N : Dl
def nothing : Dl := fun _ => none

def Spec (P : Program) (Γ : Tys) (eqs : Eqs) (all : List Oper) (ws : List (Nat × Nat)) (k n0 b : Nat) (o : Oper) (f : Nat → V) (Hr : Hp) (x : Nw) : Prop :=
  (∀ id, (x.N id).isSome = true → (b ≤ id ∧ id < b + 1048576) ∨ (k, id) ∈ ws) ∧
  ∀ f' H', (∀ t ∈ o.looksAt all.toArray, f' t = f t) → HLe Hr H' →
    (guardOf all f' o.guard = some true ∧ StepOp P Γ eqs b o ⟨f', H', n0⟩ ⟨frPut f' o.dst x.v, ext H' x.N, n0⟩) ∨ (guardOf all f' o.guard = some false ∧ x.v = .tup [] ∧ x.N = nothing)

theorem looks_op {all : List Oper} {o : Oper} {t : Nat} (h : Operand.tmp t ∈ o.op.operands.toList) : t ∈ o.looksAt all.toArray := by
  unfold Oper.looksAt
  exact List.mem_append_left _ (List.mem_filterMap.2 ⟨_, h, rfl⟩)
theorem looks_guard {all : List Oper} {o : Oper} {j : Nat} {w : Bool} {d : Nat} (hg : o.guard = some (j, w)) (hd : (all[j]?).bind (·.dst) = some d) : d ∈ o.looksAt all.toArray := by
  unfold Oper.looksAt
  rw [hg]
  exact List.mem_append_right _ (by simp [hd])

theorem stepD_spec {all : List Oper} {ws : List (Nat × Nat)} {k n0 b : Nat} {o : Oper} {f : Nat → V} {Hr H H' : Hp} {v : V} (hg : guardOf all f o.guard = some true) (h : StepD P Γ eqs ws k b o f Hr H v H') :
    ∃ N, H' = ext H N ∧ Spec P Γ eqs all ws k n0 b o f Hr ⟨v, N⟩ := by
  have hgc : ∀ f' : Nat → V, (∀ t ∈ o.looksAt all.toArray, f' t = f t) → guardOf all f' o.guard = some true := fun f' hf => by
    rw [← hg]; exact guardOf_congr fun j w d h1 h2 => hf d (looks_guard h1 h2)
  cases h with
  | plain v h =>
    refine ⟨nothing, rfl, fun id h => by simp [nothing] at h, fun f' H' hf hH => .inl ⟨hgc f' hf, ?_⟩⟩
    have := evalOp_mono hH h
    rw [evalOp_congr (fun t ht => (hf t (looks_op ht)).symm)] at this
    exact StepOp.plain (st := ⟨f', H', n0⟩) v .none this
  | new v cs h =>
    refine ⟨upd nothing b (some (some cs)), ext_upd .., fun id h => ?_, fun f' H' hf hH => .inl ⟨hgc f' hf, ?_⟩⟩
    · simp only [upd_at] at h
      split at h
      · exact .inl (by omega)
      · simp [nothing] at h
    · have := evalOp_mono hH h
      rw [evalOp_congr (fun t ht => (hf t (looks_op ht)).symm)] at this
      have h2 := StepOp.plain (P := P) (o := o) (st := ⟨f', H', n0⟩) v (.new b cs) this
      simp only [Hp.app] at h2
      rwa [ext_upd] at h2
  | put v id cs h hw =>
    refine ⟨upd nothing id (some (some cs)), ext_upd .., fun i h => ?_, fun f' H' hf hH => .inl ⟨hgc f' hf, ?_⟩⟩
    · simp only [upd_at] at h
      split at h
      · rename_i e; rw [e]; exact .inr hw
      · simp [nothing] at h
    · have := evalOp_mono hH h
      rw [evalOp_congr (fun t ht => (hf t (looks_op ht)).symm)] at this
      have h2 := StepOp.plain (P := P) (o := o) (st := ⟨f', H', n0⟩) v (.put id cs) this
      simp only [Hp.app] at h2
      rwa [ext_upd] at h2
  | mov v id cs h hw =>
    refine ⟨upd (upd nothing id (some none)) b (some (some cs)), ext_mov .., fun i h => ?_, fun f' H' hf hH => .inl ⟨hgc f' hf, ?_⟩⟩
    · simp only [upd_at] at h
      split at h
      · exact .inl (by omega)
      · split at h
        · rename_i e; rw [e]; exact .inr hw
        · simp [nothing] at h
    · have := evalOp_mono hH h
      rw [evalOp_congr (fun t ht => (hf t (looks_op ht)).symm)] at this
      have h2 := StepOp.plain (P := P) (o := o) (st := ⟨f', H', n0⟩) v (.mov id b cs) this
      simp only [Hp.app] at h2
      rwa [ext_mov] at h2
  | call c fo g caps args r H1 ho hc hgc' hcall =>
    refine ⟨addD b H1, ext_addF .., fun id h => ?_, fun f' H' hf hH => .inl ⟨hgc f' hf, ?_⟩⟩
    · change (addD b H1 id).isSome = true at h
      unfold addD at h
      split at h
      · rename_i hb
        split at h
        · rename_i cs hcs
          have := hcall.2.2.1 (id - b) (by show (H1 (id - b)).isSome = true; rw [hcs]; rfl) (by simp)
          exact .inl (by omega)
        · simp at h
      · simp at h
    · have hops : ∀ t, Operand.tmp t ∈ c.operands.toList → f' t = f t := fun t ht => hf t (looks_op (by rw [ho]; exact ht))
      have e1 : evF f' fo = evF f fo := evF_congr fun t ht => hops t (by subst ht; simp [Call.operands, hc])
      have e2 : capL f' c.args.toList = capL f c.args.toList := capL_congr fun t ht => hops t (by simp only [Call.operands, hc]; simp_all)
      have h2 := StepOp.call (P := P) (Γ := Γ) (eqs := eqs) (b := b) (o := o) (st := ⟨f', H', n0⟩) c fo g caps args noH [] r H1 ho hc (by rw [e1]; exact hgc') (by rw [e2]; exact hcall.le hH)
      rw [heapM_no, sg_nil] at h2
      rwa [ext_addF] at h2
theorem skip_spec {all : List Oper} {ws : List (Nat × Nat)} {k n0 b : Nat} {o : Oper} {f : Nat → V} {Hr : Hp} (hg : guardOf all f o.guard = some false) : Spec P Γ eqs all ws k n0 b o f Hr ⟨.tup [], nothing⟩ :=
  ⟨fun id h => by simp [nothing] at h, fun f' H' hf hH => .inr ⟨by rw [← hg]; exact guardOf_congr fun j w d h1 h2 => hf d (looks_guard h1 h2), rfl, rfl⟩⟩

def seen (ws : List (Nat × Nat)) (cl : List Nat) (k id : Nat) : Bool := ws.all fun p => p.2 != id || p.1 == k || inC cl k p.1 || inC cl p.1 k
def Hcl (ws : List (Nat × Nat)) (cl : List Nat) (k n0 : Nat) (H : Hp) : Hp := fun id => if (id < n0 ∨ inC cl k ((id - n0) / 1048576) = true) ∧ seen ws cl k id = true then H id else none
/-- who writes: two writers of one block are in order; a fresh block's maker is behind none of its writers -/
def wsOk (ws : List (Nat × Nat)) (cl : List Nat) (n0 : Nat) : Bool := ws.all fun p =>
  (ws.all fun q => !(q.2 == p.2) || !decide (p.1 < q.1) || inC cl q.1 p.1) && (decide (p.2 < n0) || (p.2 - n0) / 1048576 == p.1 || inC cl p.1 ((p.2 - n0) / 1048576))
theorem wsOk_two {ws : List (Nat × Nat)} {cl : List Nat} {n0 i j id : Nat} (h : wsOk ws cl n0 = true) (hi : (i, id) ∈ ws) (hj : (j, id) ∈ ws) (hij : i < j) : inC cl j i = true := by
  have h1 := List.all_eq_true.1 h _ hi
  simp only [Bool.and_eq_true] at h1
  have h2 := List.all_eq_true.1 h1.1 _ hj
  simpa [hij] using h2
theorem wsOk_made {ws : List (Nat × Nat)} {cl : List Nat} {n0 i id : Nat} (h : wsOk ws cl n0 = true) (hi : (i, id) ∈ ws) (hid : ¬ id < n0) (hne : (id - n0) / 1048576 ≠ i) : inC cl i ((id - n0) / 1048576) = true := by
  have h1 := List.all_eq_true.1 h _ hi
  simp only [Bool.and_eq_true] at h1
  simpa [hid, hne] using h1.2
theorem inC_lt {cl : List Nat} {j i : Nat} (h : inC cl j i = true) : i < j := by simp [inC] at h; exact h.1

/-- the operations that draw their order, in the order of the text; each reads only blocks that surely are there -/
def ADraw (P : Program) (Γ : Tys) (eqs : Eqs) (all : List Oper) (ws : List (Nat × Nat)) (cl : List Nat) (n0 : Nat) : Nat → List Oper → (Nat → V) → Hp → ((Nat → V) → Hp → Prop) → Prop
  | _, [], f, H, K => K f H
  | k, o :: rest, f, H, K => AGuard (guardOf all f o.guard) (∃ v H', StepD P Γ eqs ws k (n0 + 1048576 * k) o f (Hcl ws cl k n0 H) H v H' ∧ ADraw P Γ eqs all ws cl n0 (k + 1) rest (frPut f o.dst v) H' K)
      (ADraw P Γ eqs all ws cl n0 (k + 1) rest (frPut f o.dst (.tup [])) H K)

section
variable (dst : Nat → Option Nat) (v : Nat → V) (N : Nat → Dl) (f0 : Nat → V) (H0 : Hp)
def fS : Nat → (Nat → Bool) → Nat → V
  | 0, _, t => f0 t
  | k + 1, s, t => if s k = true ∧ dst k = some t then v k else fS k s t
def HS : Nat → (Nat → Bool) → Hp
  | 0, _ => H0
  | k + 1, s => fun id => if s k = true ∧ (N k id).isSome = true then (N k id).join else HS k s id
end
def allT : Nat → Bool := fun _ => true

section
variable {dst : Nat → Option Nat} {v v' : Nat → V} {N N' : Nat → Dl} {f0 : Nat → V} {H0 : Hp} {n0 : Nat}
theorem fS_congr {s s' : Nat → Bool} : ∀ {k : Nat} {t : Nat}, (∀ i, i < k → dst i = some t → s i = s' i ∧ v i = v' i) → fS dst v f0 k s t = fS dst v' f0 k s' t
  | 0, _, _ => rfl
  | k + 1, t, h => by
    simp only [fS]
    rw [fS_congr (k := k) fun i hi hd => h i (by omega) hd]
    by_cases hd : dst k = some t
    · obtain ⟨h1, h2⟩ := h k (by omega) hd
      simp only [h1, h2]
    · simp [hd]
theorem fS_cut {s : Nat → Bool} : ∀ {m k : Nat} {t : Nat}, k ≤ m → (∀ i, k ≤ i → i < m → dst i = some t → s i = false) → fS dst v f0 m s t = fS dst v f0 k s t
  | 0, k, t, hk, _ => by rw [show k = 0 by omega]
  | m + 1, k, t, hk, h => by
    by_cases hkm : k = m + 1
    · rw [hkm]
    · simp only [fS]
      rw [if_neg (fun hh => by have := h m (by omega) (by omega) hh.2; simp [this] at hh)]
      exact fS_cut (by omega) fun i h1 h2 => h i h1 (by omega)
theorem fS_put {s : Nat → Bool} {j : Nat} : ∀ {m : Nat}, j < m → (∀ i, i < m → i ≠ j → ∀ t, dst i = some t → dst j ≠ some t) → fS dst v f0 m (upd s j true) = frPut (fS dst v f0 m s) (dst j) (v j)
  | 0, h, _ => by omega
  | m + 1, hj, hd => by
    funext t
    by_cases hjm : j = m
    · subst hjm
      have e : fS dst v f0 j (upd s j true) t = fS dst v f0 j s t := fS_congr fun i hi _ => ⟨by rw [upd_at, if_neg (by omega)], rfl⟩
      simp only [fS, upd_at, if_true, true_and, e]
      cases hdj : dst j with
      | none => simp [frPut]
      | some d =>
        simp only [frPut, upd_at]
        by_cases ht : t = d
        · simp [ht]
        · simp [ht, Ne.symm ht]
    · have ih := congrFun (fS_put (s := s) (j := j) (m := m) (by omega) fun i hi => hd i (by omega)) t
      simp only [fS, ih, upd_at, if_neg (Ne.symm hjm)]
      cases hdj : dst j with
      | none => simp [frPut]
      | some d =>
        simp only [frPut, upd_at]
        by_cases ht : t = d
        · subst ht
          have : dst m ≠ some t := fun e => hd m (by omega) (Ne.symm hjm) t e hdj
          simp [this]
        · simp [ht]
theorem HS_at {s s' : Nat → Bool} : ∀ {m : Nat} {id : Nat}, (∀ i, i < m → (N i id).isSome = true → s i = s' i) → HS N H0 m s id = HS N H0 m s' id
  | 0, _, _ => rfl
  | m + 1, id, h => by
    have ih := HS_at (m := m) (id := id) fun i hi => h i (by omega)
    simp only [HS, ih]
    by_cases hn : (N m id).isSome = true
    · rw [h m (by omega) hn]
    · simp [hn]
theorem HS_cut {s : Nat → Bool} : ∀ {m k : Nat} {id : Nat}, k ≤ m → (∀ i, k ≤ i → i < m → (N i id).isSome = true → s i = false) → HS N H0 m s id = HS N H0 k s id
  | 0, k, id, hk, _ => by rw [show k = 0 by omega]
  | m + 1, k, id, hk, h => by
    by_cases hkm : k = m + 1
    · rw [hkm]
    · simp only [HS]
      rw [if_neg (fun hh => by have := h m (by omega) (by omega) hh.2; rw [this] at hh; exact absurd hh.1 (by simp))]
      exact HS_cut (by omega) fun i h1 h2 => h i h1 (by omega)
theorem HS_ext {s : Nat → Bool} {j : Nat} : ∀ {m : Nat}, j < m → s j = false → (∀ i id, j < i → i < m → (N i id).isSome = true → (N j id).isSome = true → s i = false) → HS N H0 m (upd s j true) = ext (HS N H0 m s) (N j)
  | 0, h, _, _ => by omega
  | m + 1, hj, hs, h => by
    funext id
    by_cases hjm : j = m
    · subst hjm
      have e : HS N H0 j (upd s j true) id = HS N H0 j s id := HS_at fun i hi _ => by rw [upd_at, if_neg (by omega)]
      simp only [HS, upd_at, if_true, true_and, e, ext, hs, Bool.false_eq_true, false_and, if_false]
      cases N j id <;> simp
    · have ih := congrFun (HS_ext (s := s) (j := j) (m := m) (by omega) hs fun i id h1 h2 => h i id h1 (by omega)) id
      simp only [HS, ih, upd_at, if_neg (Ne.symm hjm), ext]
      cases hn : N j id with
      | none => rfl
      | some cs =>
        simp only
        by_cases hm : (N m id).isSome = true
        · have := h m id (by omega) (by omega) hm (by rw [hn]; rfl)
          simp [this]
        · simp [hm]
theorem HS_succ {k : Nat} : HS N H0 (k + 1) allT = ext (HS N H0 k allT) (N k) := by
  funext id
  simp only [HS, allT, true_and, ext]
  cases N k id <;> simp
theorem HS_congr {s : Nat → Bool} : ∀ {m : Nat}, (∀ i, i < m → N i = N' i) → HS N H0 m s = HS N' H0 m s
  | 0, _ => rfl
  | m + 1, h => by
    funext id
    simp only [HS, h m (by omega), HS_congr (m := m) fun i hi => h i (by omega)]

theorem draw_out {all as : List Oper} {ws : List (Nat × Nat)} {cl : List Nat} {K : (Nat → V) → Hp → Prop} (hdst : ∀ k, dst k = (as[k]?).bind (·.dst)) :
    ∀ (rest : List Oper) (k : Nat) (v0 : Nat → V) (N0 : Nat → Dl), (∀ i, rest[i]? = as[k + i]?) → ADraw P Γ eqs all ws cl n0 k rest (fS dst v0 f0 k allT) (HS N0 H0 k allT) K →
      ∃ v N, (∀ i, i < k → v i = v0 i ∧ N i = N0 i) ∧ K (fS dst v f0 (k + rest.length) allT) (HS N H0 (k + rest.length) allT) ∧
        ∀ i o, rest[i]? = some o → Spec P Γ eqs all ws (k + i) n0 (n0 + 1048576 * (k + i)) o (fS dst v f0 (k + i) allT) (Hcl ws cl (k + i) n0 (HS N H0 (k + i) allT)) ⟨v (k + i), N (k + i)⟩
  | [], k, v0, N0, _, h => ⟨v0, N0, fun _ _ => ⟨rfl, rfl⟩, h, fun i o hi => by simp at hi⟩
  | o :: rest, k, v0, N0, hr, h => by
    have hok : as[k]? = some o := by have := hr 0; simpa using this.symm
    have hdk : dst k = o.dst := by rw [hdst, hok]; rfl
    -- the values of this operation
    obtain ⟨x, hx, hnext⟩ : ∃ x : Nw, Spec P Γ eqs all ws k n0 (n0 + 1048576 * k) o (fS dst v0 f0 k allT) (Hcl ws cl k n0 (HS N0 H0 k allT)) x ∧
        ADraw P Γ eqs all ws cl n0 (k + 1) rest (frPut (fS dst v0 f0 k allT) o.dst x.v) (ext (HS N0 H0 k allT) x.N) K := by
      simp only [ADraw] at h
      cases hg : guardOf all (fS dst v0 f0 k allT) o.guard with
      | none => rw [hg] at h; exact h.elim
      | some b =>
        rw [hg] at h
        cases b with
        | true =>
          obtain ⟨v, H', hs, hrest⟩ := h.1 rfl
          obtain ⟨N, rfl, hsp⟩ := stepD_spec (n0 := n0) hg hs
          exact ⟨⟨v, N⟩, hsp, hrest⟩
        | false => exact ⟨⟨.tup [], nothing⟩, skip_spec hg, h.2 rfl⟩
    have e1 : frPut (fS dst v0 f0 k allT) o.dst x.v = fS dst (upd v0 k x.v) f0 (k + 1) allT := by
      funext t
      have : fS dst (upd v0 k x.v) f0 k allT t = fS dst v0 f0 k allT t := fS_congr fun i hi _ => ⟨rfl, by rw [upd_at, if_neg (by omega)]⟩
      simp only [fS, this, hdk, allT, true_and, upd_at, if_true]
      cases o.dst with
      | none => simp [frPut]
      | some d =>
        simp only [frPut, upd_at]
        by_cases ht : t = d
        · simp [ht]
        · simp [ht, Ne.symm ht]
    have e2 : ext (HS N0 H0 k allT) x.N = HS (upd N0 k x.N) H0 (k + 1) allT := by
      rw [HS_succ]
      rw [HS_congr (N := upd N0 k x.N) (N' := N0) fun i hi => by rw [upd_at, if_neg (by omega)]]
      simp [upd_at]
    rw [e1, e2] at hnext
    obtain ⟨v, N, hag, hK, hsp⟩ := draw_out hdst rest (k + 1) _ _ (fun i => by have := hr (i + 1); simpa [Nat.add_assoc, Nat.add_comm 1 i] using this) hnext
    have hv : v k = x.v ∧ N k = x.N := by have := hag k (by omega); simpa [upd_at] using this
    have hlow : ∀ i, i < k → v i = v0 i ∧ N i = N0 i := fun i hi => by have := hag i (by omega); simpa [upd_at, Nat.ne_of_lt hi] using this
    refine ⟨v, N, hlow, by simpa [Nat.add_assoc, Nat.add_comm 1] using hK, fun i o' hi => ?_⟩
    cases i with
    | zero =>
      simp only [List.getElem?_cons_zero, Option.some.injEq] at hi
      subst hi
      have e3 : fS dst v f0 k allT = fS dst v0 f0 k allT := by
        funext t
        exact fS_congr fun i hi _ => ⟨rfl, (hlow i hi).1⟩
      have e4 : HS N H0 k allT = HS N0 H0 k allT := HS_congr fun i hi => (hlow i hi).2
      simp only [Nat.add_zero]
      rw [e3, e4, hv.1, hv.2]
      exact hx
    | succ i =>
      have := hsp i o' (by simpa using hi)
      rwa [show k + 1 + i = k + (i + 1) by omega] at this
end

/-! ## the check, and every order -/
structure DrawOk (nt : Nat) (all : List Oper) (cl : List Nat) (m : Nat) : Prop where
  dsts : dstsOk nt all = true
  le : m ≤ all.length
  acyc : ∀ j o, all[j]? = some o → ∀ e ∈ o.after, Region.binds .any e = true → e.on < j
  clo : ∀ j o i, all[j]? = some o → inC cl j i = true → ∃ e ∈ o.after, Region.binds .any e = true ∧ (e.on = i ∨ inC cl e.on i = true)
  looks : ∀ j o, all[j]? = some o → j < m → ∀ t ∈ o.looksAt all.toArray, ∀ i, i < m → (all[i]?).bind (·.dst) = some t → inC cl j i = true ∨ inC cl i j = true
  dist : ∀ i j, i < j → j < m → ∀ t, (all[i]?).bind (·.dst) = some t → (all[j]?).bind (·.dst) ≠ some t
  fence : ∀ j o i, all[j]? = some o → m ≤ j → i < j → inC cl j i = true
theorem drawOk_spec {nt : Nat} {all : List Oper} {cl : List Nat} {m : Nat} (h : drawOk nt all cl m = true) : DrawOk nt all cl m := by
  unfold drawOk at h
  simp only [Bool.and_eq_true, decide_eq_true_eq] at h
  obtain ⟨⟨hd, hm⟩, h⟩ := h
  have at' : ∀ j o, all[j]? = some o → _ := fun j o ho => by
    have h1 := List.all_eq_true.1 h j (List.mem_range.2 (List.getElem?_eq_some_iff.1 ho).1)
    rw [ho] at h1
    simp only [Bool.and_eq_true] at h1
    exact h1
  refine ⟨hd, hm, ?_, ?_, ?_, ?_, ?_⟩
  · intro j o ho e he hb
    have := List.all_eq_true.1 (at' j o ho).1.1 e (by simpa using he)
    simpa [hb] using this
  · intro j o i ho hi
    have hij : i < j := by simp [inC] at hi; exact hi.1
    have := List.all_eq_true.1 (at' j o ho).1.2 i (List.mem_range.2 hij)
    simp only [hi, Bool.not_true, Bool.false_or, List.any_eq_true, Bool.and_eq_true, Bool.or_eq_true, beq_iff_eq] at this
    obtain ⟨e, he, h1, h2⟩ := this
    exact ⟨e, by simpa using he, h1, h2⟩
  · intro j o ho hj t ht i hi hdi
    have h1 := (at' j o ho).2
    rw [if_pos hj, Bool.and_eq_true] at h1
    have := List.all_eq_true.1 (List.all_eq_true.1 h1.1 t ht) i (List.mem_range.2 hi)
    rw [hdi] at this
    simpa using this
  · intro i j hij hj t hdi hdj
    cases ho : all[j]? with
    | none => rw [ho] at hdj; simp at hdj
    | some o =>
      have h1 := (at' j o ho).2
      rw [if_pos hj, Bool.and_eq_true] at h1
      have := List.all_eq_true.1 h1.2 i (List.mem_range.2 hij)
      rw [ho] at hdj
      rw [hdi, show o.dst = some t from hdj] at this
      simp at this
  · intro j o i ho hj hi
    have h1 := (at' j o ho).2
    rw [if_neg (by omega)] at h1
    exact List.all_eq_true.1 h1 i (List.mem_range.2 hi)

def unl : Nat → (Nat → Bool) → Nat
  | 0, _ => 0
  | n + 1, s => unl n s + if s n then 0 else 1
theorem unl_same {s : Nat → Bool} {j : Nat} : ∀ {n : Nat}, n ≤ j → unl n (upd s j true) = unl n s
  | 0, _ => rfl
  | n + 1, h => by
    have e : n ≠ j := by omega
    simp only [unl, unl_same (s := s) (j := j) (n := n) (by omega), upd_at, if_neg e]
theorem unl_set {s : Nat → Bool} {j : Nat} (hs : s j = false) : ∀ {n : Nat}, j < n → unl n (upd s j true) + 1 = unl n s
  | 0, h => by omega
  | n + 1, h => by
    simp only [unl]
    by_cases hj : j = n
    · subst hj
      rw [unl_same (Nat.le_refl _)]
      simp [upd_at, hs]
    · have := unl_set (n := n) hs (by omega)
      rw [upd_at, if_neg (Ne.symm hj)]
      omega
theorem unl_pos {s : Nat → Bool} {j : Nat} (hs : s j = false) : ∀ {n : Nat}, j < n → 0 < unl n s := fun h => by
  have := unl_set hs h; omega

structure Listed (n : Nat) (s : Nat → Bool) (l : Array Bool) : Prop where
  size : l.size = n
  at' : ∀ i, i < n → l[i]? = some (s i)
theorem Listed.set {n : Nat} {s : Nat → Bool} {l : Array Bool} (h : Listed n s l) {j : Nat} (hj : j < n) : Listed n (upd s j true) (l.setIfInBounds j true) := by
  refine ⟨by simp [h.size], fun i hi => ?_⟩
  rw [upd_at]
  by_cases hij : j = i
  · subst hij; simp [h.size, hj]
  · rw [Array.getElem?_setIfInBounds_ne hij, if_neg (Ne.symm hij)]; exact h.at' i hi
theorem Listed.ready {all : List Oper} {s : Nat → Bool} {l : Array Bool} (h : Listed all.length s l) {j : Nat} : j ∈ Region.ready .any all.toArray l ↔ ∃ o, all[j]? = some o ∧ s j = false ∧ ∀ e ∈ o.after, Region.binds .any e = true → e.on < all.length ∧ s e.on = true := by
  rw [mem_ready]
  constructor
  · rintro ⟨h0, o, ho, he⟩
    have ho : all[j]? = some o := by simpa using ho
    have hj := (List.getElem?_eq_some_iff.1 ho).1
    refine ⟨o, ho, ?_, fun e hm hb => ?_⟩
    · rw [Array.getD_eq_getD_getElem?, h.at' j hj] at h0; exact h0
    · have h1 := he e hm hb
      rw [Array.getD_eq_getD_getElem?] at h1
      by_cases hl : e.on < all.length
      · rw [h.at' _ hl] at h1; exact ⟨hl, h1⟩
      · rw [Array.getElem?_eq_none (by rw [h.size]; omega)] at h1; simp at h1
  · rintro ⟨o, ho, hs, he⟩
    have hj := (List.getElem?_eq_some_iff.1 ho).1
    refine ⟨by rw [Array.getD_eq_getD_getElem?, h.at' j hj]; exact hs, o, by simpa using ho, fun e hm hb => ?_⟩
    obtain ⟨h1, h2⟩ := he e hm hb
    rw [Array.getD_eq_getD_getElem?, h.at' _ h1]; exact h2

variable {G : Gh} {a : Act} {W : World}
theorem tailAny (hΓ : GOk P Γ) (hE : EqOk P eqs) {all : List Oper} {cl : List Nat} {m : Nat} (hd : DrawOk E.nt all cl m) {Q : Exit → Act → World → Prop} {K : St → Prop} {Kx : V → St → Prop} (hK : EndOk E Q K Kx) :
    ∀ (rest : List Oper) (k : Nat) (st : St) (G : Gh) (a : Act) (W : World) (fuel : Nat) (l : Array Bool), all.drop k = rest → m ≤ k → k ≤ all.length → Listed all.length (fun i => decide (i < k)) l → rest.length ≤ fuel →
      Inv E (· < st.nx + 1048576 * k) G st a W → AOps P Γ eqs all k rest st K Kx → wpAnyIn E.F 0 P .any all.toArray Q fuel l a W
  | [], k, st, G, a, W, fuel, l, hr, hm, hk, hl, hf, hI, h => by
    have hkn : k = all.length := by have := congrArg List.length hr; simp at this; omega
    have hq : Q .normal a W := by
      exact hK.ok G _ a W (hI.nx _) h
    have hno : ∀ j, j ∉ Region.ready .any all.toArray l := fun j hj => by
      obtain ⟨o, ho, hs, _⟩ := hl.ready.1 hj
      have := (List.getElem?_eq_some_iff.1 ho).1
      simp at hs; omega
    cases fuel with
    | zero => exact ⟨List.eq_nil_iff_forall_not_mem.2 hno, hq⟩
    | succ n =>
      unfold wpAnyIn
      exact And.intro (fun _ => hq) (fun i hi => absurd hi (hno i))
  | o :: rest, k, st, G, a, W, fuel, l, hr, hm, hk, hl, hf, hI, h => by
    have hok : all[k]? = some o := by have := congrArg (·[0]?) hr; simpa using this
    have hkn := (List.getElem?_eq_some_iff.1 hok).1
    have hrest : all.drop (k + 1) = rest := by
      have := congrArg List.tail hr
      rwa [List.tail_drop] at this
    have hd1 : ∀ d, o.dst = some d → d < E.nt := dst_lt hd.dsts (List.mem_of_getElem? hok)
    cases fuel with
    | zero => simp at hf
    | succ fuel =>
      have hready : k ∈ Region.ready .any all.toArray l := hl.ready.2 ⟨o, hok, by simp, fun e he hb => by have := hd.acyc k o hok e he hb; exact ⟨by omega, by simpa using this⟩⟩
      unfold wpAnyIn
      refine And.intro (fun hnil => absurd hready (by rw [hnil]; exact List.not_mem_nil)) (fun j hj => ?_)
      obtain ⟨o', ho', hs, hed⟩ := hl.ready.1 hj
      have hjk : j = k := by
        have hge : k ≤ j := by simpa using hs
        by_cases hjk : j = k
        · exact hjk
        · -- closed: everything before j is listed
          exfalso
          have hcl : ∀ n j, j ≤ n → ∀ o', all[j]? = some o' → (∀ e ∈ o'.after, Region.binds .any e = true → e.on < k) → inC cl j k = true → False := by
            intro n
            induction n with
            | zero => intro j hj o' ho' he hi; simp [inC] at hi; omega
            | succ n ih =>
              intro j hj o' ho' he hi
              obtain ⟨e, hem, heb, h1 | h1⟩ := hd.clo j o' k ho' hi
              · have := he e hem heb; omega
              · have := he e hem heb
                simp [inC] at h1; omega
          exact hcl j j (Nat.le_refl _) o' ho' (fun e he hb => by have := (hed e he hb).2; simpa using this) (hd.fence j o' k ho' (by omega) (by omega))
      subst hjk
      rw [hok] at ho'; cases ho'
      have hl' : Listed all.length (fun i => decide (i < j + 1)) (l.setIfInBounds j true) := by
        have := hl.set hkn
        refine ⟨this.size, fun i hi => ?_⟩
        rw [this.at' i hi, upd_at]
        by_cases hij : i = j
        · simp [hij]
        · rw [if_neg hij]
          simp only [Option.some.injEq, decide_eq_decide]
          omega
      simp only [AOps, AGuard] at h
      cases hg : guardOf all st.fr o.guard with
      | none => simp [hg] at h
      | some b =>
        rw [hg] at h
        have hw := guard_sound hI hg
        unfold wpOpIn
        rw [show (all.toArray)[j]? = some o by simpa using hok]
        simp only
        rw [hw]
        cases b with
        | true =>
          simp only [if_true]
          rcases h.1 rfl with ⟨st', hs, hrest'⟩ | ⟨v, st', hs, hx⟩
          · refine step_sound hΓ hE hI (U' := (· < st.nx + 1048576 * (j + 1))) (fun i hi => by omega) (fun i hi => by omega) (fun i hi => by omega) hd1 hs fun G' a' W' hI' => ?_
            rw [← hs.nx] at hI'
            exact tailAny hΓ hE hd hK rest (j + 1) st' G' a' W' fuel _ hrest (by omega) hkn hl' (by simpa using hf) hI' hrest'
          · refine stepP_sound hI (U' := (· < st.nx + 1048576 * (j + 1))) (fun i hi => by omega) (fun i hi => by omega) (fun i hi => by omega) hd1 hs fun G' W' ch h1 h2 hI' => ?_
            rw [← hs.nx] at hI' h2
            exact hK.pan G' v ⟨st'.fr, st'.H, st'.nx + 1048576 * (j + 1)⟩ a W' ch (hI'.nx _) h1 h2 hx
        | false =>
          simp only [Bool.false_eq_true, if_false]
          have hI' := (hI.mono (U' := (· < st.nx + 1048576 * (j + 1))) (fun i hi => by omega)).slot tup_nil (by simp [AV]) o.dst hd1
          refine And.intro (fun _ _ => trivial) ?_
          exact tailAny hΓ hE hd hK rest (j + 1) _ G _ W fuel _ hrest (by omega) hkn hl' (by simpa using hf) hI' (h.2 rfl)

def usedBy (n0 : Nat) (s : Nat → Bool) (id : Nat) : Prop := id < n0 ∨ ∃ k, s k = true ∧ n0 + 1048576 * k ≤ id ∧ id < n0 + 1048576 * k + 1048576

theorem headAny (hΓ : GOk P Γ) (hE : EqOk P eqs) {all as bs : List Oper} (hall : all = as ++ bs) {ws : List (Nat × Nat)} {cl : List Nat} (hd : DrawOk E.nt all cl as.length) {Q : Exit → Act → World → Prop} {K : St → Prop} {Kx : V → St → Prop}
    {dst : Nat → Option Nat} (hdst : ∀ k, dst k = (as[k]?).bind (·.dst)) {v : Nat → V} {N : Nat → Dl} {f0 : Nat → V} {H0 : Hp} {n0 : Nat} (hws : wsOk ws cl n0 = true) (hK : EndOk E Q K Kx)
    (hend : AOps P Γ eqs all as.length bs ⟨fS dst v f0 as.length allT, HS N H0 as.length allT, n0⟩ K Kx)
    (hsp : ∀ i o, as[i]? = some o → Spec P Γ eqs all ws i n0 (n0 + 1048576 * i) o (fS dst v f0 i allT) (Hcl ws cl i n0 (HS N H0 i allT)) ⟨v i, N i⟩) :
    ∀ (fuel : Nat) (l : Array Bool) (s : Nat → Bool) (G : Gh) (a : Act) (W : World), Listed all.length s l → (∀ i, s i = true → i < as.length) → (∀ k, s k = true → ∀ i, inC cl k i = true → s i = true) → unl all.length s ≤ fuel →
      Inv E (usedBy n0 s) G ⟨fS dst v f0 as.length s, HS N H0 as.length s, n0⟩ a W → wpAnyIn E.F 0 P .any all.toArray Q fuel l a W := by
  have hget : ∀ i, i < as.length → all[i]? = as[i]? := fun i hi => by rw [hall, List.getElem?_append_left hi]
  have hdl : ∀ i, i < as.length → (all[i]?).bind (·.dst) = dst i := fun i hi => by rw [hdst, hget i hi]
  intro fuel
  induction fuel with
  | zero =>
    intro l s G a W hl hs hcl hf hI
    -- all are listed
    have hno : ∀ i, i < all.length → s i = true := fun i hi => by
      by_cases h : s i = true
      · exact h
      · have := unl_pos (s := s) (j := i) (by simpa using h) hi; omega
    have hA : as.length = all.length := by
      have h1 := hd.le
      by_cases h : as.length < all.length
      · have := hs _ (hno _ h); omega
      · omega
    have hse : ∀ i, i < as.length → s i = allT i := fun i hi => hno i (by omega)
    have e1 : fS dst v f0 as.length s = fS dst v f0 as.length allT := funext fun t => fS_congr fun i hi _ => ⟨hse i hi, rfl⟩
    have e2 : HS N H0 as.length s = HS N H0 as.length allT := funext fun id => HS_at fun i hi _ => hse i hi
    rw [e1, e2] at hI
    refine tailAny hΓ hE hd hK bs as.length _ G a W 0 l (by rw [hall]; simp) (Nat.le_refl _) hd.le ?_ (by rw [hall] at hA; simp at hA; simp [hA]) (hI.mono fun i hi => ?_) hend
    · refine ⟨hl.size, fun i hi => ?_⟩
      rw [hl.at' i hi, hno i hi]
      simp; omega
    · rcases hi with h | ⟨k, hk, h1, h2⟩
      · show i < n0 + _; omega
      · have := hs k hk; show i < n0 + _; omega
  | succ fuel ih =>
    intro l s G a W hl hs hcl hf hI
    by_cases hfull : ∀ i, i < as.length → s i = true
    · -- the drawn part is over
      have hse : ∀ i, i < as.length → s i = allT i := fun i hi => hfull i hi
      have e1 : fS dst v f0 as.length s = fS dst v f0 as.length allT := funext fun t => fS_congr fun i hi _ => ⟨hse i hi, rfl⟩
      have e2 : HS N H0 as.length s = HS N H0 as.length allT := funext fun id => HS_at fun i hi _ => hse i hi
      rw [e1, e2] at hI
      have hcount : ∀ n, as.length ≤ n → unl n s = n - as.length := by
        intro n
        induction n with
        | zero => intro _; simp [unl]
        | succ n ihn =>
          intro hn
          simp only [unl]
          by_cases hle : as.length ≤ n
          · have hsn : s n = false := by
              cases h : s n with
              | false => rfl
              | true => have := hs n h; omega
            rw [ihn hle, hsn]; simp; omega
          · have e : as.length = n + 1 := by omega
            have : unl n s = 0 := by
              have : ∀ j, j ≤ n → unl j s = 0 := by
                intro j
                induction j with
                | zero => intro _; rfl
                | succ j ihj => intro hj; simp only [unl]; rw [ihj (by omega), hfull j (by omega)]; rfl
              exact this n (Nat.le_refl _)
            rw [this, hfull n (by omega)]; simp; omega
      have hcn := hcount all.length hd.le
      refine tailAny hΓ hE hd hK bs as.length _ G a W (fuel + 1) l (by rw [hall]; simp) (Nat.le_refl _) hd.le ?_ (by rw [hall] at hcn hf; simp at hcn hf; omega) (hI.mono fun i hi => ?_) hend
      · refine ⟨hl.size, fun i hi => ?_⟩
        rw [hl.at' i hi]
        by_cases h : i < as.length
        · rw [hfull i h]; simp [h]
        · cases h2 : s i with
          | false => simp [h]
          | true => exact absurd (hs i h2) h
      · rcases hi with h | ⟨k, hk, h1, h2⟩
        · show i < n0 + _; omega
        · have := hs k hk; show i < n0 + _; omega
    · -- something of the drawn part is left
      have hready : ∃ j, j ∈ Region.ready .any all.toArray l := by
        have hne : ∃ i, i < as.length ∧ s i = false := by
          simp only [Classical.not_forall] at hfull
          obtain ⟨i, hi, h⟩ := hfull
          exact ⟨i, hi, by simpa using h⟩
        obtain ⟨i, hi, hsi⟩ := hne
        have hleast : ∀ n i, i ≤ n → i < as.length → s i = false → ∃ j, j < as.length ∧ s j = false ∧ ∀ k, k < j → s k = true := by
          intro n
          induction n with
          | zero => intro i h1 h2 h3; exact ⟨i, h2, h3, fun k hk => by omega⟩
          | succ n ihn =>
            intro i h1 h2 h3
            by_cases hh : ∀ k, k < i → s k = true
            · exact ⟨i, h2, h3, hh⟩
            · simp only [Classical.not_forall] at hh
              obtain ⟨k, hk, h⟩ := hh
              exact ihn k (by omega) (by omega) (by simpa using h)
        obtain ⟨j, hj, hsj, hlow⟩ := hleast i i (Nat.le_refl _) hi hsi
        have hjl : j < all.length := by have := hd.le; omega
        have ho : all[j]? = some all[j] := List.getElem?_eq_getElem hjl
        exact ⟨j, hl.ready.2 ⟨_, ho, hsj, fun e he hb => by
          have h1 := hd.acyc j _ ho e he hb
          exact And.intro (by omega) (hlow _ h1)⟩⟩
      unfold wpAnyIn
      refine And.intro (fun hnil => ?_) (fun j hj => ?_)
      · obtain ⟨j, hj⟩ := hready; rw [hnil] at hj; cases hj
      obtain ⟨o, ho, hsj, hed⟩ := hl.ready.1 hj
      have hjl := (List.getElem?_eq_some_iff.1 ho).1
      have hcj : ∀ i, inC cl j i = true → s i = true := fun i hi => by
        obtain ⟨e, he, hb, h | h⟩ := hd.clo j o i ho hi
        · rw [← h]; exact (hed e he hb).2
        · exact hcl _ (hed e he hb).2 i h
      have hjA : j < as.length := by
        by_cases h : j < as.length
        · exact h
        · exact absurd (fun i hi => hcj i (hd.fence j o i ho (by omega) (by omega))) hfull
      have hoA : as[j]? = some o := by rw [← hget j hjA]; exact ho
      have hdj : dst j = o.dst := by rw [hdst, hoA]; rfl
      obtain ⟨hN, hstep⟩ := hsp j o hoA
      have hlook : ∀ t ∈ o.looksAt all.toArray, fS dst v f0 as.length s t = fS dst v f0 j allT t := fun t ht => by
        have e1 : fS dst v f0 as.length s t = fS dst v f0 as.length (fun i => decide (i < j)) t := fS_congr fun i hi hdi => by
          rcases hd.looks j o ho hjA t ht i hi (by rw [hdl i hi]; exact hdi) with hc | hc
          · have h1 : i < j := inC_lt hc
            exact And.intro (by rw [hcj i hc]; simp [h1]) rfl
          · have h1 : j < i := inC_lt hc
            refine And.intro ?_ rfl
            cases hsi : s i with
            | false => simp; omega
            | true => have := hcl i hsi j hc; rw [this] at hsj; cases hsj
        rw [e1, fS_cut (Nat.le_of_lt hjA) fun i h1 _ _ => by simp; omega]
        exact fS_congr fun i hi _ => And.intro (by simp [hi, allT]) rfl
      have hNi : ∀ i id, i < as.length → (N i id).isSome = true → (n0 + 1048576 * i ≤ id ∧ id < n0 + 1048576 * i + 1048576) ∨ (i, id) ∈ ws := fun i id hi hn => by
        have hoi : as[i]? = some as[i] := List.getElem?_eq_getElem hi
        exact (hsp i _ hoi).1 id hn
      have hH : HLe (Hcl ws cl j n0 (HS N H0 j allT)) (HS N H0 as.length s) := fun id cs h => by
        simp only [Hcl] at h
        split at h
        · rename_i hc
          obtain ⟨hc1, hc2⟩ := hc
          rw [← h]
          have e1 : HS N H0 as.length s id = HS N H0 as.length (fun i => decide (i < j)) id := HS_at fun i hi hn => by
            rcases hNi i id hi hn with ⟨h1, h2⟩ | hw
            · have hown : (id - n0) / 1048576 = i := by omega
              have hin : inC cl j i = true := by rw [← hown]; exact hc1.resolve_left (by omega)
              rw [hcj i hin]
              simp [inC_lt hin]
            · have h3 := List.all_eq_true.1 hc2 _ hw
              simp only [bne_self_eq_false, Bool.false_or, Bool.or_eq_true, beq_iff_eq] at h3
              rcases h3 with (h3 | h3) | h3
              · rw [h3, hsj]; simp
              · rw [hcj i h3]; simp [inC_lt h3]
              · have hlt := inC_lt h3
                cases hsi : s i with
                | false => simp; omega
                | true => have := hcl i hsi j h3; rw [this] at hsj; cases hsj
          rw [e1, HS_cut (Nat.le_of_lt hjA) fun i h1 _ _ => by simp; omega]
          exact HS_at fun i hi _ => by simp [hi, allT]
        · cases h
      have hs' : ∀ i, upd s j true i = true → i < as.length := fun i hi => by
        rw [upd_at] at hi
        split at hi
        · rename_i e; rw [e]; exact hjA
        · exact hs i hi
      have hcl' : ∀ k, upd s j true k = true → ∀ i, inC cl k i = true → upd s j true i = true := fun k hk i hi => by
        have h1 : s i = true := by
          rw [upd_at] at hk
          split at hk
          · rename_i e; exact hcj i (e ▸ hi)
          · exact hcl k hk i hi
        rw [upd_at]; split
        · rfl
        · exact h1
      have hun := unl_set hsj hjl
      have eF : fS dst v f0 as.length (upd s j true) = frPut (fS dst v f0 as.length s) o.dst (v j) := by
        rw [← hdj]
        refine fS_put hjA fun i hi hij t hdi hdjt => ?_
        rw [← hdl i hi] at hdi
        rw [← hdl j hjA] at hdjt
        rcases Nat.lt_or_gt_of_ne hij with h | h
        · exact hd.dist i j h hjA t hdi hdjt
        · exact hd.dist j i h hi t hdjt hdi
      have eH : HS N H0 as.length (upd s j true) = ext (HS N H0 as.length s) (N j) := HS_ext hjA hsj fun i id h1 h2 hn1 hn2 => by
        cases hsi : s i with
        | false => rfl
        | true =>
          exfalso
          have hij : inC cl i j = true := by
            rcases hNi i id h2 hn1 with ⟨a1, a2⟩ | w1 <;> rcases hNi j id hjA hn2 with ⟨b1, b2⟩ | w2
            · omega
            · have := inC_lt (wsOk_made hws w2 (by omega) (by omega)); omega
            · have h3 := wsOk_made hws w1 (by omega) (by omega)
              rwa [show (id - n0) / 1048576 = j by omega] at h3
            · exact wsOk_two hws w2 w1 h1
          have := hcl i hsi j hij
          rw [this] at hsj; cases hsj
      have hU : ∀ i, usedBy n0 s i → usedBy n0 (upd s j true) i := fun i hi => by
        rcases hi with h | ⟨k, hk, h1, h2⟩
        · exact .inl h
        · exact .inr ⟨k, by rw [upd_at]; split <;> first | rfl | exact hk, h1, h2⟩
      have hb0 : ∀ i, i < 1048576 → ¬ usedBy n0 s (n0 + 1048576 * j + i) := fun i hi hu => by
        rcases hu with h | ⟨k, hk, h1, h2⟩
        · omega
        · have : k = j := by omega
          rw [this] at hk; rw [hk] at hsj; cases hsj
      have hb1 : ∀ i, i < 1048576 → usedBy n0 (upd s j true) (n0 + 1048576 * j + i) := fun i hi => .inr ⟨j, by simp [upd_at], by omega, by omega⟩
      have hd1 : ∀ d, o.dst = some d → d < E.nt := dst_lt hd.dsts (List.mem_of_getElem? ho)
      unfold wpOpIn
      rw [show (all.toArray)[j]? = some o by simpa using ho]
      simp only
      rcases hstep _ _ hlook hH with ⟨hg, hst⟩ | ⟨hg, hv, hNn⟩
      · rw [guard_sound hI hg]
        simp only [if_true]
        refine step_sound hΓ hE hI hb0 hU hb1 hd1 hst fun G' a' W' hI' => ?_
        refine ih _ (upd s j true) G' a' W' (hl.set hjl) hs' hcl' (by omega) ?_
        rw [eF, eH]
        exact hI'
      · rw [guard_sound hI hg]
        simp only [Bool.false_eq_true, if_false]
        refine And.intro (fun _ _ => trivial) ?_
        refine ih _ (upd s j true) G _ W (hl.set hjl) hs' hcl' (by omega) ?_
        rw [eF, eH, show v j = .tup [] from hv, show N j = nothing from hNn]
        exact (hI.mono hU).slot tup_nil (by simp [AV]) o.dst hd1

/-- a region that draws its order: `m` operations in any order, the others behind them in the order of the text -/
theorem AW.draw {st : St} (hΓ : GOk P Γ) (hE : EqOk P eqs) (hm : P.follows .mixedOrders = true) {id : Nat} {as bs : List Oper} {ws : List (Nat × Nat)} {cl : List Nat} {Q : AExit → St → Prop} (hd : drawOk E.nt (as ++ bs) cl as.length = true) (hws : wsOk ws cl st.nx = true)
    (h : ADraw P Γ eqs (as ++ bs) ws cl st.nx 0 as st.fr st.H fun f H => AOps P Γ eqs (as ++ bs) as.length bs ⟨f, H, st.nx⟩ (Q .normal) (fun v st => Q (.pan v) st)) : AW P E (.region id (as ++ bs).toArray true) Q st := by
  intro G a W hI
  refine wpIn_region_any hm ?_
  have hI := hI.drew
  obtain ⟨v, N, _, hend, hsp⟩ := draw_out (dst := fun k => (as[k]?).bind (·.dst)) (f0 := st.fr) (H0 := st.H) (fun _ => rfl) as 0 (fun _ => .junk) (fun _ => nothing) (fun i => by simp) h
  simp only [Nat.zero_add] at hend hsp
  have e1 : HS N st.H as.length (fun _ => false) = st.H := by
    funext id
    rw [HS_cut (k := 0) (by omega) fun i _ _ _ => rfl]; rfl
  have e2 : fS (fun k => (as[k]?).bind (·.dst)) v st.fr as.length (fun _ => false) = st.fr := by
    funext t
    rw [fS_cut (k := 0) (by omega) fun i _ _ _ => rfl]; rfl
  refine headAny hΓ hE rfl (drawOk_spec hd) (fun _ => rfl) hws endOk_of hend hsp _ _ (fun _ => false) G a _ ⟨by simp, fun i hi => ?_⟩ (fun i h => by cases h) (fun k h => by cases h) ?_ ?_
  · simp only [Array.getElem?_replicate, List.size_toArray]
    rw [if_pos hi]
  · simp only [List.size_toArray]
    have : ∀ n, unl n (fun _ => false) ≤ n := by
      intro n
      induction n with
      | zero => simp [unl]
      | succ n ih => simp only [unl]; simp; omega
    exact this _
  · rw [e1, e2]
    exact hI.mono fun i hi => .inl hi
end Go.Psl
/- Less is known: a state seen through new names; the contract of a function from its body. -/
namespace Go.Psl
variable {P : Program} {Γ : Tys} {eqs : Eqs} {E : Ent}

/-! ## a value seen as another: new ids come from old ones; an id from nowhere is the nil slice's -/
def W0 (ρ : Nat → Option Nat) (v : V) : V → Prop
  | .junk => True
  | .d x => v = .d x
  | .lp i off => ∃ j, ρ i = some j ∧ v = .lp j off
  | .ls i off len sz => match ρ i with
    | some j => v = .ls j off len sz
    | none => len = 0 ∧ v = .d (.lit (.slice none 0 0))
  | .yl i => ∃ j, ρ i = some j ∧ v = .yl j
  | _ => False
def W1 (ρ : Nat → Option Nat) (v : V) : V → Prop
  | .cl f caps => ∃ cs, v = .cl f cs ∧ All2 (W0 ρ) cs caps
  | v' => W0 ρ v v'
def W2 (ρ : Nat → Option Nat) (v : V) : V → Prop
  | .agg cs' => ∃ cs, v = .agg cs ∧ All2 (W1 ρ) cs cs'
  | v' => W1 ρ v v'
def WV (ρ : Nat → Option Nat) (v : V) : V → Prop
  | .tup cs' => ∃ cs, v = .tup cs ∧ All2 (W2 ρ) cs cs'
  | v' => W2 ρ v v'

/-- of a cell -/
def WC (ρ : Nat → Option Nat) (v : V) : V → Prop
  | .lr fr nt ps pa pb jmp => v = .lr fr nt ps pa pb jmp ∧ ∀ t, AV (fun i => ρ i = some i) anyD (fr t)
  | v' => W1 ρ v v'

def ghOf (G : Gh) (ρ : Nat → Option Nat) : Gh where
  β i := match ρ i with | some j => G.β j | none => 0
  bs i := match ρ i with | some j => G.bs j | none => 0
  ph i := match ρ i with | some j => G.ph j | none => true
  lo i := match ρ i with | some j => G.lo j | none => false
  Im := G.Im

section
variable {G : Gh} {W : World} {ρ : Nat → Option Nat}
theorem W0.rel {v v' : V} {x : Value} (h : W0 ρ v v') (hr : R0 G W v x) : R0 (ghOf G ρ) W v' x := by
  cases v' with
  | junk => trivial
  | d y => have h : v = .d y := h; subst h; exact hr
  | lp i off =>
    obtain ⟨j, hj, rfl⟩ := h
    simp only [R0, ghOf, hj]
    exact hr
  | ls i off len sz =>
    unfold W0 at h
    simp only at h
    cases hj : ρ i with
    | some j =>
      rw [hj] at h
      simp only at h
      subst h
      simp only [R0, ghOf, hj]
      exact hr
    | none =>
      rw [hj] at h
      obtain ⟨rfl, rfl⟩ := h
      have hr : RD G.Im W (.lit (.slice none 0 0)) x := hr
      cases hr
      simp only [R0, ghOf, hj]
      simp [maxL]
  | yl i =>
    obtain ⟨j, hj, rfl⟩ := h
    simp only [R0, ghOf, hj]
    exact hr
  | lr => exact h.elim
  | cl f c => exact h.elim
  | agg c => exact h.elim
  | tup c => exact h.elim
theorem Wall {S S' : V → Value → Prop} {T : V → V → Prop} (h : ∀ v v' x, T v v' → S v x → S' v' x) : ∀ {vs vs' : List V} {xs : List Value}, All2 T vs vs' → All2 S vs xs → All2 S' vs' xs
  | [], [], _, _, h2 => by cases All2.nil_iff.1 h2; trivial
  | _ :: _, _ :: _, [], _, h2 => h2.elim
  | _ :: _, _ :: _, _ :: _, h1, h2 => ⟨h _ _ _ h1.1 h2.1, Wall h h1.2 h2.2⟩
  | [], _ :: _, _, h1, _ => h1.elim
  | _ :: _, [], _, h1, _ => h1.elim
theorem R0.cl_no {f : FuncId} {c : List V} {x : Value} (h : R0 G W (.cl f c) x) : False := h
theorem W1.rel {v v' : V} {x : Value} (h : W1 ρ v v') (hr : R1 G W v x) : R1 (ghOf G ρ) W v' x := by
  cases v' with
  | cl f caps =>
    obtain ⟨cs, rfl, hc⟩ := h
    obtain ⟨cv, hx, hcv⟩ := hr
    exact ⟨cv, hx, Wall (S := R0 G W) (S' := R0 (ghOf G ρ) W) (T := W0 ρ) (fun _ _ _ => W0.rel) hc hcv⟩
  | junk => trivial
  | d y => have h : v = .d y := h; subst h; exact hr
  | lp i off =>
    have h' := h
    obtain ⟨j, hj, rfl⟩ := h'
    exact W0.rel (W := W) (v' := .lp i off) h hr
  | ls i off len sz =>
    have h' : W0 ρ v (.ls i off len sz) := h
    have hv : R0 G W v x := by
      unfold W0 at h'
      simp only at h'
      split at h'
      · subst h'; exact hr
      · rw [h'.2] at hr ⊢; exact hr
    exact W0.rel (W := W) (v' := .ls i off len sz) h hv
  | yl i =>
    have h' := h
    obtain ⟨j, hj, rfl⟩ := h'
    exact W0.rel (W := W) (v' := .yl i) h hr
  | lr => exact h.elim
  | agg c => exact h.elim
  | tup c => exact h.elim
theorem W1.notop {v v' : V} (h : W1 ρ v v') (hj : v' ≠ .junk) : (∀ c, v ≠ .agg c) ∧ ∀ c, v ≠ .tup c := by
  cases v' with
  | junk => exact absurd rfl hj
  | cl f c => obtain ⟨cs, rfl, _⟩ := h; simp
  | d y => have h : v = .d y := h; subst h; simp
  | lp i off => obtain ⟨j, hj, rfl⟩ := h; simp
  | ls i off len sz =>
    have h : W0 ρ v (.ls i off len sz) := h
    unfold W0 at h
    simp only at h
    split at h
    · subst h; simp
    · rw [h.2]; simp
  | yl i => obtain ⟨j, hj, rfl⟩ := h; simp
  | lr => exact h.elim
  | agg c => exact h.elim
  | tup c => exact h.elim
theorem R2.r1 {v : V} {x : Value} (h : ∀ c, v ≠ .agg c) (hr : R2 G W v x) : R1 G W v x := by
  cases v with
  | agg c => exact absurd rfl (h c)
  | _ => exact hr
theorem RV.r2 {v : V} {x : Value} (h : ∀ c, v ≠ .tup c) (hr : RV G W v x) : R2 G W v x := by
  cases v with
  | tup c => exact absurd rfl (h c)
  | _ => exact hr
theorem W2.rel {v v' : V} {x : Value} (h : W2 ρ v v') (hr : R2 G W v x) : R2 (ghOf G ρ) W v' x := by
  by_cases hj : v' = .junk
  · subst hj; trivial
  · cases v' with
    | agg c =>
      obtain ⟨cs, rfl, hc⟩ := h
      obtain ⟨cv, hx, hcv⟩ := hr
      exact ⟨cv, hx, Wall (S := R1 G W) (S' := R1 (ghOf G ρ) W) (T := W1 ρ) (fun _ _ _ => W1.rel) hc hcv⟩
    | junk => exact absurd rfl hj
    | tup c => exact h.elim
    | d y => exact W1.rel (v' := .d y) h (R2.r1 (W1.notop (ρ := ρ) (v' := .d y) h hj).1 hr)
    | lp i o => exact W1.rel (v' := .lp i o) h (R2.r1 (W1.notop (ρ := ρ) (v' := .lp i o) h hj).1 hr)
    | ls i o l z => exact W1.rel (v' := .ls i o l z) h (R2.r1 (W1.notop (ρ := ρ) (v' := .ls i o l z) h hj).1 hr)
    | cl f c => exact W1.rel (v' := .cl f c) h (R2.r1 (W1.notop (ρ := ρ) (v' := .cl f c) h hj).1 hr)
    | yl i => exact W1.rel (v' := .yl i) h (R2.r1 (W1.notop (ρ := ρ) (v' := .yl i) h hj).1 hr)
    | lr => exact h.elim
theorem W2.notup {v v' : V} (h : W2 ρ v v') (hj : v' ≠ .junk) : ∀ c, v ≠ .tup c := by
  cases v' with
  | agg c => obtain ⟨cs, rfl, _⟩ := h; simp
  | junk => exact absurd rfl hj
  | tup c => exact h.elim
  | d y => exact (W1.notop (ρ := ρ) (v' := .d y) h hj).2
  | lp i o => exact (W1.notop (ρ := ρ) (v' := .lp i o) h hj).2
  | ls i o l z => exact (W1.notop (ρ := ρ) (v' := .ls i o l z) h hj).2
  | cl f c => exact (W1.notop (ρ := ρ) (v' := .cl f c) h hj).2
  | yl i => exact (W1.notop (ρ := ρ) (v' := .yl i) h hj).2
  | lr => exact h.elim
theorem WV.rel {v v' : V} {x : Value} (h : WV ρ v v') (hr : RV G W v x) : RV (ghOf G ρ) W v' x := by
  by_cases hj : v' = .junk
  · subst hj; trivial
  · cases v' with
    | tup c =>
      obtain ⟨cs, rfl, hc⟩ := h
      obtain ⟨cv, hx, hcv⟩ := hr
      exact ⟨cv, hx, Wall (S := R2 G W) (S' := R2 (ghOf G ρ) W) (T := W2 ρ) (fun _ _ _ => W2.rel) hc hcv⟩
    | junk => exact absurd rfl hj
    | agg c => exact W2.rel (v' := .agg c) h (RV.r2 (W2.notup (ρ := ρ) (v' := .agg c) h hj) hr)
    | d y => exact W2.rel (v' := .d y) h (RV.r2 (W2.notup (ρ := ρ) (v' := .d y) h hj) hr)
    | lp i o => exact W2.rel (v' := .lp i o) h (RV.r2 (W2.notup (ρ := ρ) (v' := .lp i o) h hj) hr)
    | ls i o l z => exact W2.rel (v' := .ls i o l z) h (RV.r2 (W2.notup (ρ := ρ) (v' := .ls i o l z) h hj) hr)
    | cl f c => exact W2.rel (v' := .cl f c) h (RV.r2 (W2.notup (ρ := ρ) (v' := .cl f c) h hj) hr)
    | yl i => exact W2.rel (v' := .yl i) h (RV.r2 (W2.notup (ρ := ρ) (v' := .yl i) h hj) hr)
    | lr => exact h.elim
/-- names that stay -/
theorem fix_into : Into (fun i => ρ i = some i) anyD (fun i => i) G W (ghOf G ρ) W :=
  ⟨fun i hi => by simp only [ghOf, hi, and_self], fun _ _ _ h => h⟩
end

def cellsOk (l : List V) : Prop := l.all V.isCell = true ∨ ∃ fr nt ps pa pb jmp, l = [.lr fr nt ps pa pb jmp]
/-- new blocks and where they come from -/
def HpOk (ρ : Nat → Option Nat) (H : Hp) : List (Nat × List V) → Prop
  | [] => True
  | p :: r => (match ρ p.1 with | some j => (∃ cs, H j = some cs ∧ All2 (WC ρ) cs p.2) ∧ cellsOk p.2 | none => p.2 = []) ∧ HpOk ρ H r
/-- the same of a function -/
def HpFn (ρ : Nat → Option Nat) (H h : Hp) : Prop := ∀ i cs', h i = some cs' → (∃ j cs, ρ i = some j ∧ H j = some cs ∧ All2 (WC ρ) cs cs' ∧ cellsOk cs') ∨ (ρ i = none ∧ cs' = [])
theorem HpOk.at {ρ : Nat → Option Nat} {H : Hp} : ∀ {h : List (Nat × List V)}, HpOk ρ H h → HpFn ρ H (lk h)
  | [], _, i, cs', h => by simp [lk] at h
  | p :: r, hk, i, cs', h => by
    simp only [lk] at h
    split at h
    · rename_i e
      cases h
      subst e
      have h1 := hk.1
      cases hj : ρ p.1 with
      | none => rw [hj] at h1; exact .inr ⟨rfl, h1⟩
      | some j => rw [hj] at h1; obtain ⟨⟨cs, h2, h3⟩, h4⟩ := h1; exact .inl ⟨j, cs, rfl, h2, h3, h4⟩
    · exact hk.2.at i cs' h
/-- no two new names for one old one -/
def RhoInj (ρ : Nat → Option Nat) : List (Nat × List V) → Prop
  | [] => True
  | p :: r => (∀ q ∈ r, ρ q.1 = none ∨ ρ q.1 ≠ ρ p.1 ∨ q.1 = p.1) ∧ RhoInj ρ r
theorem lk_mem {α : Type} : ∀ {l : List (Nat × α)} {i : Nat} {x : α}, lk l i = some x → ∃ p ∈ l, p.1 = i
  | [], _, _, h => by simp [lk] at h
  | p :: r, i, x, h => by
    simp only [lk] at h
    split at h
    · rename_i e; exact ⟨p, by simp, e.symm⟩
    · obtain ⟨q, hq, e⟩ := lk_mem h; exact ⟨q, by simp [hq], e⟩
def RhoFn (ρ : Nat → Option Nat) (h : Hp) : Prop := ∀ i i' j, InH h i → InH h i' → ρ i = some j → ρ i' = some j → i = i'
theorem RhoInj.at' {ρ : Nat → Option Nat} : ∀ {h : List (Nat × List V)} {i i' j : Nat} {x x' : List V}, RhoInj ρ h → lk h i = some x → lk h i' = some x' → ρ i = some j → ρ i' = some j → i = i'
  | [], _, _, _, _, _, _, h, _, _, _ => by simp [lk] at h
  | p :: r, i, i', j, x, x', hk, h, h', e, e' => by
    simp only [lk] at h h'
    split at h
    · rename_i hi
      subst hi
      split at h'
      · rename_i hi'; exact hi'.symm
      · obtain ⟨q, hq, hqi⟩ := lk_mem h'
        subst hqi
        rcases hk.1 q hq with h1 | h1 | h1
        · rw [e'] at h1; cases h1
        · exact absurd (e'.trans e.symm) h1
        · exact h1.symm
    · split at h'
      · rename_i hi'
        subst hi'
        obtain ⟨q, hq, hqi⟩ := lk_mem h
        subst hqi
        rcases hk.1 q hq with h1 | h1 | h1
        · rw [e] at h1; cases h1
        · exact absurd (e.trans e'.symm) h1
        · exact h1
      · exact RhoInj.at' hk.2 h h' e e'

theorem RhoInj.at {ρ : Nat → Option Nat} {h : List (Nat × List V)} (hr : RhoInj ρ h) : RhoFn ρ (lk h) := fun i i' j h1 h2 => by
  obtain ⟨x, hx⟩ := Option.isSome_iff_exists.1 h1
  obtain ⟨x', hx'⟩ := Option.isSome_iff_exists.1 h2
  exact hr.at' hx hx'

def HpIds (n : Nat) : List (Nat × List V) → Prop
  | [] => True
  | p :: r => p.1 < n ∧ (∀ c ∈ p.2, AC (· < n) anyD c) ∧ HpIds n r
def IdsFn (n : Nat) (h : Hp) : Prop := ∀ i cs, h i = some cs → i < n ∧ ∀ c ∈ cs, AC (· < n) anyD c
theorem HpIds.at {n : Nat} : ∀ {h : List (Nat × List V)}, HpIds n h → IdsFn n (lk h)
  | [], _, i, cs, h => by simp [lk] at h
  | p :: r, hk, i, cs, h => by
    simp only [lk] at h
    split at h
    · rename_i e; cases h; exact ⟨e ▸ hk.1, hk.2.1⟩
    · exact hk.2.2.at i cs h

def slots (l : List (Nat × V)) : Nat → V := fun t => (lk l t).getD .junk
def SlotsOk (ρ : Nat → Option Nat) (f : Nat → V) : List (Nat × V) → Prop
  | [] => True
  | p :: r => WV ρ (f p.1) p.2 ∧ SlotsOk ρ f r
theorem SlotsOk.at {ρ : Nat → Option Nat} {f : Nat → V} : ∀ {l : List (Nat × V)}, SlotsOk ρ f l → ∀ t, WV ρ (f t) (slots l t)
  | [], _, t => trivial
  | p :: r, h, t => by
    have ih := h.2.at t
    simp only [slots, lk] at ih ⊢
    split
    · rename_i e; rw [e]; exact h.1
    · exact ih
def SlotsIds (n : Nat) : List (Nat × V) → Prop
  | [] => True
  | p :: r => AV (· < n) anyD p.2 ∧ SlotsIds n r
theorem SlotsIds.at {n : Nat} : ∀ {l : List (Nat × V)}, SlotsIds n l → ∀ t, AV (· < n) anyD (slots l t)
  | [], _, t => trivial
  | p :: r, h, t => by
    have ih := h.2.at t
    simp only [slots, lk] at ih ⊢
    split
    · exact h.1
    · exact ih

theorem hb_rel {G : Gh} {W : World} {ρ : Nat → Option Nat} {H h : Hp} (hh : HpFn ρ H h) (hp : ∀ id cs, H id = some cs → HB G W id cs) {i : Nat} {cs' : List V} (hi : h i = some cs') : HB (ghOf G ρ) W i cs' := by
  rcases hh i cs' hi with ⟨j, cs, h1, h2, h3, h4⟩ | ⟨h1, h2⟩
  · have hl := h3.length
    rcases hp j cs h2 with ⟨h5, h6⟩ | ⟨h5, h0, h6, c, T, h7, h8, h9, h10, h11⟩ | ⟨h5, h0, h6, fr, nt, ps, pa, pb, jmp, rec, h7, h8, h9⟩
    · subst h6
      have : cs' = [] := by cases cs' with | nil => rfl | cons a l => exact h3.elim
      exact .inl ⟨by simp only [ghOf, h1]; exact h5, this⟩
    · have hcell : cs'.all V.isCell = true := by
        rcases h4 with h4 | ⟨fr, nt, ps, pa, pb, jmp, rfl⟩
        · exact h4
        · exfalso
          match cs, h3 with
          | [c0], h3 =>
            have : c0 = .lr fr nt ps pa pb jmp := h3.1.1
            subst this
            simp [V.isCell] at h11
          | [], h3 => exact h3.elim
          | _ :: _ :: _, h3 => exact h3.2.elim
      have h3' : All2 (W1 ρ) cs cs' := All2.of_get hl fun k v v' hv hv' => by
        obtain ⟨w, hw, hwr⟩ := h3.get hv
        rw [hv'] at hw; cases hw
        have := List.all_eq_true.1 hcell v' (List.mem_of_getElem? hv')
        cases v' <;> first | (simp [V.isCell] at this; done) | exact hwr
      refine .inr (.inl ⟨by simp only [ghOf, h1]; exact h5, by simp only [ghOf, h1]; exact h0, by simp only [ghOf, h1]; exact h6, c, T, by simp only [ghOf, h1]; exact h7, by simp only [ghOf, h1]; exact h8, by omega, ?_, hcell⟩)
      rw [← hl]
      exact Wall (S := R1 G W) (S' := R1 (ghOf G ρ) W) (T := W1 ρ) (fun _ _ _ => W1.rel) h3' h10
    · subst h7
      match cs', h3 with
      | [c0], h3 =>
        have h31 := h3.1
        have hc0 : c0 = .lr fr nt ps pa pb jmp ∧ ∀ t, AV (fun i => ρ i = some i) anyD (fr t) := by
          cases c0 with
          | lr fr' nt' ps' pa' pb' jmp' =>
            obtain ⟨e, ha⟩ := h31
            cases e
            exact ⟨rfl, ha⟩
          | junk => rcases h4 with h4 | ⟨_, _, _, _, _, _, h4⟩ <;> simp [V.isCell] at h4
          | agg c => rcases h4 with h4 | ⟨_, _, _, _, _, _, h4⟩ <;> simp [V.isCell] at h4
          | tup c => rcases h4 with h4 | ⟨_, _, _, _, _, _, h4⟩ <;> simp [V.isCell] at h4
          | d x => have : V.lr fr nt ps pa pb jmp = .d x := h31; cases this
          | lp i o => obtain ⟨_, _, h⟩ := h31; cases h
          | ls i o l z =>
            simp only [WC, W1, W0] at h31
            split at h31
            · cases h31
            · cases h31.2
          | cl f c => obtain ⟨_, h, _⟩ := h31; cases h
          | yl i => obtain ⟨_, _, h⟩ := h31; cases h
        obtain ⟨rfl, hfr⟩ := hc0
        obtain ⟨q1, q2, q3, q4, q5, q6⟩ := h9
        refine .inr (.inr ⟨by simp only [ghOf, h1]; exact h5, by simp only [ghOf, h1]; exact h0, by simp only [ghOf, h1]; exact h6, fr, nt, ps, pa, pb, jmp, rec, rfl, by simp only [ghOf, h1]; exact h8, q1, q2, q3, q4, fun t => ?_, q6⟩)
        exact fix_into.sv (hfr t) (q5 t)
      | [], h3 => exact h3.elim
      | _ :: _ :: _, h3 => exact h3.2.elim
  · exact .inl ⟨by simp only [ghOf, h1], h2⟩

def SlotsFn (ρ : Nat → Option Nat) (f g : Nat → V) : Prop := ∀ t, WV ρ (f t) (g t)
theorem Weak.fn (ρ : Nat → Option Nat) {st : St} (g : Nat → V) (h : Hp) (n : Nat) (hs : SlotsFn ρ st.fr g) (hh : HpFn ρ st.H h) (hi : RhoFn ρ h) (hsi : ∀ t, AV (· < n) anyD (g t)) (hhi : IdsFn n h)
    (hst : ∀ i, E.stab i → i < n ∧ (InH h i → ρ i = some i ∧ InH st.H i)) : Weak P E st ⟨g, h, n⟩ := by
  intro G a W hI
  refine ⟨ghOf G ρ, { fr := fun t => (hs t).rel (hI.fr t), wf := hsi, hp := fun id cs hid => hb_rel hh hI.hp hid, wh := fun id cs hid => (hhi id cs hid).2, dom := fun id hid => ?_, inj := ?_, own := ?_, im := hI.im, im0 := hI.im0, keep := hI.keep, stab := ?_, sU := fun i hs => (hst i hs).1, nt := hI.nt, df := hI.df.imp fun ds h => ⟨h.1, h.2.nodup, h.2.at'⟩ }⟩
  · obtain ⟨cs, hcs⟩ := Option.isSome_iff_exists.1 hid
    exact (hhi id cs hcs).1
  · intro i i' h1 h2 p1 p2 he
    obtain ⟨x, hx⟩ := Option.isSome_iff_exists.1 h1
    obtain ⟨x', hx'⟩ := Option.isSome_iff_exists.1 h2
    rcases hh i x hx with ⟨j, cs, e1, e2, _⟩ | ⟨e1, _⟩
    · rcases hh i' x' hx' with ⟨j', cs', e1', e2', _⟩ | ⟨e1', _⟩
      · simp only [ghOf, e1, e1'] at p1 p2 he
        have := hI.inj j j' (by rw [e2]; rfl) (by rw [e2']; rfl) p1 p2 he
        subst this
        exact hi i i' j h1 h2 e1 e1'
      · simp [ghOf, e1'] at p2
    · simp [ghOf, e1] at p1
  · intro i h1 p1
    obtain ⟨x, hx⟩ := Option.isSome_iff_exists.1 h1
    rcases hh i x hx with ⟨j, cs, e1, e2, _⟩ | ⟨e1, _⟩
    · simp only [ghOf, e1] at p1 ⊢
      exact hI.own j (by rw [e2]; rfl) p1
    · simp [ghOf, e1] at p1
  · intro i hs h1
    obtain ⟨h2, h3⟩ := (hst i hs).2 h1
    simp only [ghOf, h2]
    exact hI.stab i hs h3
theorem Weak.of (ρ : Nat → Option Nat) {st : St} (l : List (Nat × V)) (h : List (Nat × List V)) (n : Nat) (hs : SlotsOk ρ st.fr l) (hh : HpOk ρ st.H h) (hi : RhoInj ρ h) (hsi : SlotsIds n l) (hhi : HpIds n h)
    (hst : ∀ i, E.stab i → i < n ∧ (InH (lk h) i → ρ i = some i ∧ InH st.H i)) : Weak P E st ⟨slots l, lk h, n⟩ :=
  Weak.fn ρ _ _ n hs.at hh.at hi.at hsi.at hhi.at hst

/-! ## the contract of a function from its body -/
def resL (Γ : Tys) (H : Hp) (f : Nat → V) : List ResultVar → Option (List V)
  | [] => some []
  | .tmp t :: r => (resL Γ H f r).map (f t :: ·)
  | .cell a T :: r => (loadF Γ H T (f a)).bind fun p => (resL Γ H f r).map (p.1 :: ·)
def V.isTup : V → Bool
  | .tup _ => true
  | _ => false
def pack : List V → V
  | [v] => v
  | vs => .tup vs

def readVar (tmps : Array Value) : ResultVar → Sem Value
  | .tmp t => pure (tmps.getD t undef)
  | .cell a t => do loadVar t (← asAddr (tmps.getD a undef))
theorem readVars (hΓ : GOk P Γ) {U : Nat → Prop} {G : Gh} {st : St} {a : Act} {W : World} (hI : Inv E U G st a W) : ∀ (rs : List ResultVar) (vs : List V), resL Γ st.H st.fr rs = some vs →
    ∃ xs, (rs.mapM (readVar a.tmps)).run P W = .ok xs W ∧ All2 (RV G W) vs xs ∧ ∀ v ∈ vs, AV U anyD v
  | [], vs, h => by
    simp only [resL, Option.some.injEq] at h
    subst h
    exact ⟨[], rfl, trivial, by simp⟩
  | .tmp t :: r, vs, h => by
    simp only [resL, Option.map_eq_some_iff] at h
    obtain ⟨vs', h1, rfl⟩ := h
    obtain ⟨xs, h2, h3, h4⟩ := readVars hΓ hI r vs' h1
    refine ⟨_ :: xs, ?_, ⟨hI.fr t, h3⟩, fun v hv => ?_⟩
    · simp only [List.mapM_cons, Sem.run_bind, readVar, Sem.run_pure, Result.andThen_ok, h2]
    · rcases List.mem_cons.1 hv with rfl | hv
      · exact hI.wf t
      · exact h4 v hv
  | .cell b T :: r, vs, h => by
    simp only [resL] at h
    cases hp : loadF Γ st.H T (st.fr b) with
    | none => simp [hp] at h
    | some p =>
      obtain ⟨v, e⟩ := p
      simp only [hp, Option.bind_some, Option.map_eq_some_iff] at h
      obtain ⟨vs', h1, rfl⟩ := h
      obtain ⟨xs, h2, h3, h4⟩ := readVars hΓ hI r vs' h1
      obtain ⟨y, cs, hy, rfl, rfl, hc⟩ := loadF_inv hp
      obtain ⟨ad, us, hpv, hl, hcell, hr, hok, hcl⟩ := load_cells hI (hI.fr b) hc
      obtain ⟨u, hu, huv⟩ := run_loadVar (hΓ T y hy) W ad us hl hcell
      refine ⟨u :: xs, ?_, ⟨mk_rel hr huv, h3⟩, fun v hv => ?_⟩
      · simp only [List.mapM_cons, Sem.run_bind, readVar, Sem.run_pure, Result.andThen_ok, h2, hpv, hu, asAddr]
      · rcases List.mem_cons.1 hv with rfl | hv
        · exact mk_ok hok fun _ => hcl
        · exact h4 v hv
theorem run_results (hΓ : GOk P Γ) {U : Nat → Prop} {G : Gh} {st : St} {a : Act} {W : World} (hI : Inv E U G st a W) {fn : Func} {vs : List V} (h : resL Γ st.H st.fr fn.results.toList = some vs) (ht : vs.all (fun v => !v.isTup) = true) :
    ∃ v, (results fn a.tmps).run P W = .ok v W ∧ RV G W (pack vs) v := by
  obtain ⟨xs, h1, h2, _⟩ := readVars hΓ hI _ vs h
  have hm : (fn.results.mapM (readVar a.tmps)).run P W = .ok xs.toArray W := by
    rw [Array.mapM_eq_mapM_toList, Sem.run_map, h1]
    rfl
  have h2' : ∀ x ∈ vs, x.isTup = false := fun x hx => by simpa using List.all_eq_true.1 ht x hx
  refine ⟨if h : xs.toArray.size = 1 then xs.toArray[0] else .tuple xs.toArray, ?_, ?_⟩
  · change Sem.run P (do let vs ← fn.results.mapM (readVar a.tmps); pure (if h : vs.size = 1 then vs[0] else .tuple vs)) W = _
    rw [Sem.run_bind, hm, Result.andThen_ok, Sem.run_pure]
  · match vs, xs, h2 with
    | [v], [x], h2 => exact h2.1
    | [], [], _ => exact ⟨#[], by simp, trivial⟩
    | v :: w :: r, x :: y :: s, h2 =>
      refine ⟨(x :: y :: s).toArray, by simp, ?_⟩
      exact h2.mono fun v hv x hx => RV.r2 (fun c e => by have := h2' v hv; rw [e] at this; cases this) hx
    | [_], _ :: _ :: _, h2 => exact h2.2.elim
    | _ :: _ :: _, [_], h2 => exact h2.2.elim

def argF : Nat → List V → Nat → V
  | _, [], _ => .tup []
  | k, a :: r, t => if t = k then a else argF (k + 1) r t
theorem argF_at : ∀ (l : List V) (k t : Nat), argF k l t = if k ≤ t then (l[t - k]?).getD (.tup []) else .tup []
  | [], k, t => by simp [argF]
  | a :: r, k, t => by
    simp only [argF, argF_at r]
    by_cases h : t = k
    · subst h; simp
    · rw [if_neg h]
      by_cases hk : k ≤ t
      · rw [if_pos hk, if_pos (by omega), show t - k = (t - (k + 1)) + 1 by omega, List.getElem?_cons_succ]
      · rw [if_neg hk, if_neg (by omega)]

/-- names that have to stay -/
def StabL (ρ : Nat → Option Nat) (H : Hp) (h : Hp) : List Nat → Prop
  | [] => True
  | i :: r => ((h i).isSome = true → ρ i = some i ∧ (H i).isSome = true) ∧ StabL ρ H h r
theorem StabL.at {ρ : Nat → Option Nat} {H h : Hp} : ∀ {ks : List Nat}, StabL ρ H h ks → ∀ i ∈ ks, InH h i → ρ i = some i ∧ InH H i
  | [], _, _, hi, _ => by cases hi
  | k :: r, hs, i, hi, hh => by
    rcases List.mem_cons.1 hi with rfl | hi
    · exact hs.1 hh
    · exact hs.2.at i hi hh
def RetM (Γ : Tys) (fn : Func) (ks : List Nat) (r : V) (H1 : List (Nat × List V)) (st : St) : Prop :=
  ∃ vs ρ, resL Γ st.H st.fr fn.results.toList = some vs ∧ vs.all (fun v => !v.isTup) = true ∧ WV ρ (pack vs) r ∧ HpOk ρ st.H H1 ∧ RhoInj ρ H1 ∧ StabL ρ st.H (lk H1) ks
abbrev RetOk (Γ : Tys) (fn : Func) (r : V) (H1 : List (Nat × List V)) (st : St) : Prop := RetM Γ fn [] r H1 st
def PanM (ks : List Nat) (v r : V) (H1 : List (Nat × List V)) (st : St) : Prop :=
  ∃ ρ, WV ρ v r ∧ HpOk ρ st.H H1 ∧ RhoInj ρ H1 ∧ StabL ρ st.H (lk H1) ks
def retM (Γ : Tys) (fn : Func) (ks : List Nat) (res : Res) (H1 : List (Nat × List V)) : AExit → St → Prop
  | .normal, st | .ret, st => match res with | .ret r => RetM Γ fn ks r H1 st | .pan _ => False
  | .pan v, st => match res with | .pan r => PanM ks v r H1 st | .ret _ => False
  | _, _ => False
abbrev retQ (Γ : Tys) (fn : Func) (r : V) (H1 : List (Nat × List V)) : AExit → St → Prop := retM Γ fn [] (.ret r) H1
def InB (H1 : List (Nat × List V)) (i : Nat) : Prop := (lk H1 i).isSome = true
/-- names of results lead to the result's own blocks -/
def ResIds (r : V) (H1 : List (Nat × List V)) : Prop := AV (InB H1) anyD r ∧ ∀ p ∈ H1, ∀ c ∈ p.2, AC (InB H1) anyD c
theorem lk_mem' {α : Type} : ∀ {l : List (Nat × α)} {i : Nat} {x : α}, lk l i = some x → (i, x) ∈ l
  | [], _, _, h => by simp [lk] at h
  | p :: r, i, x, h => by
    simp only [lk] at h
    split at h
    · rename_i e; cases h; subst e; simp
    · exact List.mem_cons_of_mem _ (lk_mem' h)

/-- a block beside is written -/
theorem Inv.side {U : Nat → Prop} {G : Gh} {st : St} {a a' : Act} {W W' : World} (hI : Inv E U G st a W) {l : Nat} (hs : ∀ k, k ≠ l → W'.heap[k]? = W.heap[k]?) (hsz : W'.heap.size = W.heap.size) (hos : W'.os = W.os) (hta : W'.tape = W.tape) (hou : W'.output = W.output)
    (hnim : ¬ G.Im l) (hno : ∀ i, InH st.H i → G.ph i = false → G.β i ≠ l) (hl : E.W0.heap.size ≤ l ∨ E.mu l) (ha : a'.tmps = a.tmps) (hdf : ∃ ds, a'.defers = marksOf ds ∧ Marks E G W' ds) (hdr : W.drawn ≤ W'.drawn := by first | exact Nat.le_refl _ | exact Nat.le_succ _) : Inv E U G st a' W' := by
  have hchg : Chg U G W G W' := ⟨fun i _ => ⟨rfl, rfl, rfl, rfl⟩, fun k hk => ⟨hk, hs k (fun e => hnim (e ▸ hk))⟩⟩
  exact { fr := fun t => by rw [ha]; exact hchg.rv (hI.wf t) (hI.fr t), wf := hI.wf, hp := fun id cs h => hchg.hb (hI.dom id (by rw [h]; rfl)) (hI.wh id cs h) (hI.hp id cs h) (fun hp => hs _ (hno id (by show (st.H id).isSome = true; rw [h]; rfl) hp)) (fun h _ => h), wh := hI.wh, dom := hI.dom, inj := hI.inj, own := hI.own, im := fun b hb => ⟨by rw [hsz]; exact (hI.im b hb).1, (hI.im b hb).2⟩, im0 := hI.im0, keep := ⟨hos.trans hI.keep.os, hta.trans hI.keep.tape, hou.trans hI.keep.output, Nat.le_trans hI.keep.drawn hdr, by rw [hsz]; exact hI.keep.size, fun b hb hm => (hs b (fun e => hl.elim (fun h => by omega) (fun h => hm (e ▸ h)))).trans (hI.keep.block b hb hm)⟩, stab := hI.stab, sU := hI.sU, nt := by rw [ha]; exact hI.nt, df := hdf }
theorem HB.kind {G : Gh} {W : World} {id : Nat} {cs : List V} (h : HB G W id cs) (hp : G.ph id = false) {x : Option (List Deferred)} : W.heap[G.β id]? ≠ some (.deferred x) := by
  rcases h with ⟨h, _⟩ | ⟨_, _, _, c, T, h, _⟩ | ⟨_, _, _, fr, nt, ps, pa, pb, jmp, rec, _, h, _⟩
  · rw [h] at hp; cases hp
  · rw [h]; nofun
  · rw [h]; nofun
theorem marks_inj : ∀ {l l' : List Nat}, marksOf l = marksOf l' → l = l'
  | [], [], _ => rfl
  | x :: l, y :: l', h => by
    simp only [marksOf, List.map_cons, List.cons.injEq, Deferred.mk.injEq, Target.collected.injEq, and_true] at h
    rw [h.1, marks_inj h.2]
  | [], _ :: _, h => by cases h
  | _ :: _, [], h => by cases h
/-- the marks are taken up, one by one -/
theorem leave_marks {U : Nat → Prop} {G : Gh} {st : St} {fn : Func} {R : Ending → World → Prop} {u : FrameMode} (hu : u ≠ .run) {tmps : Array Value} {W0 : World} :
    ∀ (ds : List Nat) (a : Act) (W : World), a.tmps = tmps → a.defers = marksOf ds → Inv E U G st a W → (∀ b, G.Im b → W.heap[b]? = W0.heap[b]?) → (∀ a' W', a'.tmps = tmps → Inv E U G st a' W' → (∀ b, G.Im b → W'.heap[b]? = W0.heap[b]?) → LeavesIn Fence.wide 0 P fn tmps R [] u W') → LeavesInM Fence.wide 0 P fn tmps R (marksOf ds) u W
  | [], a, W, ht, hd, hI, hW, h => h a W ht hI hW
  | D :: ds, a, W, ht, hd, hI, hW, h => by
    obtain ⟨ds', hd', hm⟩ := hI.df
    have : ds' = D :: ds := by
      have := hd'.symm.trans hd
      exact marks_inj this
    subst this
    obtain ⟨h1, h2, h3⟩ := hm.at' D (by simp)
    have hlt := (Array.getElem?_eq_some_iff.1 h1).1
    refine ⟨hu, .inl ⟨D, W.putObj D (.deferred none), rfl, run_takeDeferred h1, ?_⟩⟩
    refine leave_marks hu ds { a with defers := marksOf ds } _ ht rfl (hI.side (l := D) (fun k hk => World.putObj_heap_other hk) (by simp) rfl rfl rfl h3 (fun i hi hp e => ?_) (.inl h2) rfl ⟨ds, rfl, ?_⟩) (fun b hb => (World.putObj_heap_other (fun e => h3 (by rw [← e]; exact hb))).trans (hW b hb)) h
    · obtain ⟨cs, hcs⟩ := Option.isSome_iff_exists.1 hi
      exact (hI.hp i cs hcs).kind hp (by rw [e]; exact h1)
    · have hn := List.nodup_cons.1 hm.nodup
      exact ⟨hn.2, fun D' hD' => ⟨(World.putObj_heap_other (fun e => hn.1 (by rw [← e]; exact hD'))).trans (hm.at' D' (by simp [hD'])).1, (hm.at' D' (by simp [hD'])).2⟩⟩

theorem post_of {W0 : World} {G : Gh} {Hin : Hp} {ks : List Nat} (hE : E.W0 = W0 ∧ E.Im0 = G.Im ∧ (∀ b, E.mu b ↔ lentB G Hin b) ∧ (∀ i, i ∈ ks → E.stab i) ∧ E.β0 = G.β ∧ E.bs0 = G.bs ∧ E.lo0 = G.lo) {res : Res} {H1 : List (Nat × List V)} (hri : ResIds res.v H1) {U : Nat → Prop} {G' : Gh} {st : St} {a : Act} {W : World} (hI : Inv E U G' st a W) {ρ : Nat → Option Nat} {e : Ending} (h4 : HpOk ρ st.H H1) (h5 : RhoInj ρ H1) (h6 : StabL ρ st.H (lk H1) ks) (hr : resRel (ghOf G' ρ) W res e) :
    Post G W0 Hin ks res (lk H1) e W (ghOf G' ρ) := by
  obtain ⟨rfl, hIm, hmu, hst, e1, e2, e3⟩ := hE
  refine ⟨hI.keep.os, hI.keep.tape, hI.keep.output, hI.keep.drawn, hI.keep.size, fun b hb hl => hI.keep.block b hb (fun h => hl ((hmu b).1 h)), fun b hb => ?_, fun b hb => hI.im0 b (by rw [hIm]; exact hb), hr, hri.1, fun i cs hi => ⟨hb_rel h4.at hI.hp hi, fun hp => ?_, hri.2 _ (lk_mem' hi)⟩, ?_, fun i hi hh => ?_⟩
  · obtain ⟨q1, q2 | q2 | q2⟩ := hI.im b hb
    · exact ⟨q1, .inl (by rw [← hIm]; exact q2)⟩
    · exact ⟨q1, .inr (.inl q2)⟩
    · exact ⟨q1, .inr (.inr ((hmu b).1 q2))⟩
  · rcases h4.at i cs hi with ⟨j, cs', q1, q2, _⟩ | ⟨q1, _⟩
    · simp only [ghOf, q1] at hp ⊢
      exact (hI.own j (by rw [q2]; rfl) hp).imp id (hmu _).1
    · simp [ghOf, q1] at hp
  · intro i i' q1 q2 p1 p2 he
    obtain ⟨x, hx⟩ := Option.isSome_iff_exists.1 q1
    obtain ⟨x', hx'⟩ := Option.isSome_iff_exists.1 q2
    rcases h4.at i x hx with ⟨j, cs, r1, r2, _⟩ | ⟨r1, _⟩
    · rcases h4.at i' x' hx' with ⟨j', cs', r1', r2', _⟩ | ⟨r1', _⟩
      · simp only [ghOf, r1, r1'] at p1 p2 he
        have := hI.inj j j' (by rw [r2]; rfl) (by rw [r2']; rfl) p1 p2 he
        subst this
        exact h5.at i i' j q1 q2 r1 r1'
      · simp [ghOf, r1'] at p2
    · simp [ghOf, r1] at p1
  · obtain ⟨q1, q2⟩ := h6.at i hi hh
    have := hI.stab i (hst i hi) q2
    simp only [ghOf, q1]
    rw [e1, e2, e3] at this
    exact this

def HpLt (N : Nat) : List (Nat × List V) → Prop
  | [] => True
  | p :: r => p.1 < N ∧ (∀ c ∈ p.2, AC (· < N) anyD c) ∧ HpLt N r
theorem run_resM (hΓ : GOk P Γ) {U : Nat → Prop} {G' : Gh} {st : St} {a : Act} {W : World} {fn : Func} {ks : List Nat} {r : V} {H1 : List (Nat × List V)} (hI : Inv E U G' st a W) (h : RetM Γ fn ks r H1 st) : ∃ ρ v, (results fn a.tmps).run P W = .ok v W ∧ RV (ghOf G' ρ) W r v ∧ HpOk ρ st.H H1 ∧ RhoInj ρ H1 ∧ StabL ρ st.H (lk H1) ks := by
  obtain ⟨vs, ρ, h1, h2, h3, h4⟩ := h
  obtain ⟨v, hv, hr⟩ := run_results hΓ hI h1 h2
  exact ⟨ρ, v, hv, h3.rel hr, h4⟩

/-- the state in which a function begins -/
theorem Inv.start {G : Gh} {W : World} {Hin : Hp} {ks : List Nat} {nt N : Nat} {rd : Option Nat} (hGW : ∀ b, G.Im b → b < W.heap.size) (hpre : PreH G W Hin ks) (hids : IdsFn N Hin) (hks : ∀ i ∈ ks, i < N) {f : Nat → V} {tmps : Array Value} (hfr : ∀ t, RV G W (f t) (tmps.getD t undef)) (hwf : ∀ t, AV (· < N) anyD (f t)) (hnt : nt ≤ tmps.size) :
    Inv { W0 := W, Im0 := G.Im, mu := lentB G Hin, β0 := G.β, bs0 := G.bs, lo0 := G.lo, stab := (· ∈ ks), nt := nt, rd := rd } (· < N) G ⟨f, Hin, N⟩ { tmps := tmps, defers := [] } W :=
  ⟨hfr, hwf, hpre.hb, fun i cs h => (hids i cs h).2, fun i h => by obtain ⟨cs, hcs⟩ := Option.isSome_iff_exists.1 h; exact (hids i cs hcs).1, hpre.inj, fun i hi hp => .inr ⟨i, hi, hp, rfl⟩, fun b hb => ⟨hGW b hb, .inl hb⟩, fun _ h => h, ⟨rfl, rfl, rfl, Nat.le_refl _, Nat.le_refl _, fun _ _ _ => rfl⟩, fun i hi _ => ⟨rfl, rfl, (hpre.st i hi).2, rfl⟩, hks, hnt, [], rfl, List.nodup_nil, fun _ h => by cases h⟩

theorem Cm.intro (hΓ : GOk P Γ) {f : FuncId} {fn : Func} {c : Code} {args : List V} {Hin : Hp} {ks : List Nat} {res : Res} {H1 : List (Nat × List V)} (N : Nat) (hf : P.funcs[f]? = some fn) (hb : fn.body = some c) (hname : (fn.name == "runtime.NumGoroutine") = false)
    (hn : args.length ≤ fn.ntmps) (hcl : ∀ v ∈ args, A2 (· < N) anyD v) (hids : IdsFn N Hin) (hks : ∀ i ∈ ks, i < N) (hri : ResIds res.v H1)
    (h : ∀ E : Ent, E.nt = fn.ntmps → (∀ i, E.stab i ↔ i ∈ ks) → E.rd = none → AW P E c (retM Γ fn ks res H1) ⟨argF 0 args, Hin, N⟩) : Cm P f args Hin ks res (lk H1) := by
  refine ⟨⟨fn, hf, by rw [hb]; rfl, hname⟩, fun G W xs hGW hargs hpre => ?_⟩
  have hl : args.length = xs.size := by have := hargs.length; simpa using this
  have hfr : ∀ t, RV G W (argF 0 args t) ((xs ++ Array.replicate (fn.ntmps - xs.size) undef).getD t undef) := fun t => by
    rw [argF_at, if_pos (Nat.zero_le t), Nat.sub_zero, Array.getD_eq_getD_getElem?]
    by_cases ht : t < xs.size
    · rw [Array.getElem?_append_left ht, Array.getElem?_eq_getElem ht]
      have h1 : args[t]? = some args[t] := List.getElem?_eq_getElem (by omega)
      obtain ⟨x, hx, hrx⟩ := hargs.get h1
      rw [h1]
      have : x = xs[t] := by
        rw [Array.getElem?_toList, Array.getElem?_eq_getElem ht] at hx; cases hx; rfl
      subst this
      exact hrx.rv
    · rw [List.getElem?_eq_none (by omega), Array.getElem?_append_right (by omega)]
      have : ((Array.replicate (fn.ntmps - xs.size) undef)[t - xs.size]?).getD undef = undef := by
        rw [Array.getElem?_replicate]; split <;> rfl
      rw [this]
      exact tup_nil
  have hwf : ∀ t, AV (· < N) anyD (argF 0 args t) := fun t => by
    rw [argF_at, if_pos (Nat.zero_le t), Nat.sub_zero]
    cases h1 : args[t]? with
    | none => intro c hc; cases hc
    | some v =>
      obtain ⟨x, _, hx⟩ := hargs.get h1
      exact hx.av (hcl v (List.mem_of_getElem? h1))
  have hI := Inv.start (nt := fn.ntmps) (rd := none) hGW hpre hids hks (tmps := xs ++ Array.replicate (fn.ntmps - xs.size) undef) hfr hwf (by simp; omega)
  rw [← callsIn_wide (n := 0)]
  refine callsIn_of_wp_marks hf hb trivial ?_
  refine wpIn_mono (h _ rfl (fun _ => Iff.rfl) rfl G _ W hI) fun e a' W' ⟨x, st', G', hI', hx, ho, hq⟩ => ?_
  have hE : W = W ∧ G.Im = G.Im ∧ (∀ b, lentB G Hin b ↔ lentB G Hin b) ∧ (∀ i, i ∈ ks → i ∈ ks) ∧ G.β = G.β ∧ G.bs = G.bs ∧ G.lo = G.lo := ⟨rfl, rfl, fun _ => Iff.rfl, fun _ h => h, rfl, rfl, rfl⟩
  have fin : retM Γ fn ks res H1 .ret st' → LeavesInM Fence.wide 0 P fn a'.tmps (fun e W' => ∃ G', Post G W Hin ks res (lk H1) e W' G') a'.defers .returning W' := fun hq => by
    obtain ⟨ds, hd, _⟩ := hI'.df
    rw [hd]
    refine leave_marks (u := .returning) nofun ds a' W' rfl hd hI' (W0 := W') (fun _ _ => rfl) fun a2 W2 ht hI2 _ => ?_
    cases res with
    | pan r => exact hq.elim
    | ret r =>
      obtain ⟨ρ, v, hv, hr, h4, h5, h6⟩ := run_resM hΓ hI2 hq
      rw [ht] at hv
      exact ⟨v, hv, _, post_of hE hri hI2 h4 h5 h6 (e := .returned v) hr⟩
  cases e with
  | normal => cases x <;> first | exact fin hq | exact False.elim hx
  | ret => cases x <;> first | exact fin hq | exact False.elim hx
  | exit _ => cases x <;> first | exact hq.elim | exact False.elim hx
  | goto _ => cases x <;> first | exact hq.elim | exact False.elim hx
  | panic ch =>
    cases x with
    | pan v =>
      obtain ⟨ds, hd, _⟩ := hI'.df
      show LeavesInM Fence.wide 0 P fn a'.tmps _ a'.defers (.panicking ch) W'
      rw [hd]
      cases res with
      | ret r => exact hq.elim
      | pan r =>
        obtain ⟨ρ, h3, h4, h5, h6⟩ := hq
        obtain ⟨y, hy, hry⟩ := hx
        refine leave_marks (u := .panicking ch) nofun ds a' W' rfl hd hI' (W0 := W') (fun _ _ => rfl) fun a2 W2 ht hI2 hW2 => ?_
        have hchg : Chg (· < st'.nx) G' W' G' W2 := ⟨fun _ _ => ⟨rfl, rfl, rfl, rfl⟩, fun b hb => ⟨hb, hW2 b hb⟩⟩
        exact ⟨_, post_of hE hri hI2 h4 h5 h6 (e := .panicked ch) ⟨y, hy, h3.rel (hchg.rv ho hry)⟩⟩
    | _ => exact False.elim hx
  | outgrown => cases x <;> exact False.elim hx
end Go.Psl
/- Code without loops, computed. -/
namespace Go.Psl
variable {P : Program} {Γ : Tys} {eqs : Eqs} {E : Ent}

/-- what follows a call -/
def afterC (res : Res) (ρ : Nat → Nat) (Hout : Hp) (Kc Kx : V → Hp → Prop) : Prop := match res with
  | .ret r => Kc (ren ρ r) Hout
  | .pan r => Kx (ren ρ r) Hout
/-- a call in the midst of code: Hr what may be read, H what is written on; where m is false the call writes nothing of the caller's -/
def ACall (P : Program) (m : Bool) (Hr H : Hp) (b : Nat) (g : FuncId) (as : List V) (Kc Kx : V → Hp → Prop) : Prop :=
  ∃ args Hin ks res H1 Hout, CallA P Hr g as args Hin ks res H1 ∧ (m = false → Hin = noH ∧ ks = [] ∧ ∃ r, res = .ret r) ∧ Hout = heapM H b Hin ks H1 ∧ afterC res (sg ks b) Hout Kc Kx
def AYield (P : Program) (m : Bool) (Hr H : Hp) (b k : Nat) (as : List V) (Kc Kx : V → Hp → Prop) : Prop :=
  m = true ∧ ∃ args Hin ks res H1 Hout, YieldA P Hr k as args Hin ks res H1 ∧ Hout = heapM H b Hin ks H1 ∧ afterC res (sg ks b) Hout Kc Kx
def callV (P : Program) (m : Bool) (Hr H : Hp) (b : Nat) (cv : V) (as : List V) (Kc Kx : V → Hp → Prop) : Prop := match cv with
  | .d (.fn g caps) => ACall P m Hr H b g (as ++ caps.map .d) Kc Kx
  | .cl g caps => ACall P m Hr H b g (as ++ caps) Kc Kx
  | .yl k => AYield P m Hr H b k as Kc Kx
  | _ => False

def addH (H : Hp) (base : Nat) : List (Nat × List V) → Hp
  | [] => H
  | p :: r => upd (addH H base r) (base + p.1) (some (p.2.map (renC (base + ·))))
def idsLt (n : Nat) : List (Nat × List V) → Prop
  | [] => True
  | p :: r => p.1 < n ∧ idsLt n r
theorem addH_eq (H : Hp) (base : Nat) : ∀ (H1 : List (Nat × List V)), addH H base H1 = addF H base (lk H1)
  | [] => by funext i; simp [addH, addF, lk]
  | p :: r => by
    funext i
    simp only [addH, upd_at, addH_eq H base r, addF, lk]
    by_cases h : i = base + p.1
    · subst h; simp
    · rw [if_neg h]
      by_cases hb : base ≤ i
      · rw [if_pos hb, if_pos hb, if_neg (show ¬ (i - base = p.1) by omega)]
      · rw [if_neg hb, if_neg hb]
theorem lk_lt {n : Nat} : ∀ {H1 : List (Nat × List V)} {i : Nat}, idsLt n H1 → InH (lk H1) i → i < n
  | [], i, _, h => by simp [lk, InH] at h
  | p :: r, i, hl, h => by
    simp only [lk, InH] at h
    split at h
    · rename_i e; rw [e]; exact hl.1
    · exact lk_lt hl.2 h
theorem lessH_no (H : Hp) : lessH H noH = H := by funext i; simp [lessH, noH]
/-- a call that writes nothing of the caller's -/
theorem ACall.mk0 {m : Bool} {Hr H : Hp} {b : Nat} {g : FuncId} {as : List V} {Kc Kx : V → Hp → Prop} (args : List V) (r : V) (H1 : List (Nat × List V)) (hf : Ct P g args r H1) (hb : All2 (Bor Hr) as args) (hi : idsLt 1048576 H1) (hc : All2 (Bor noH) as args ∨ flatRes (.ret r) (lk H1)) (hk : Kc (ren (b + ·) r) (addH H b H1)) : ACall P m Hr H b g as Kc Kx := by
  refine ⟨args, noH, [], .ret r, lk H1, addH H b H1, ⟨hf, nofun, fun i h _ => lk_lt hi h, nofun, ?_⟩, fun _ => ⟨rfl, rfl, r, rfl⟩, by rw [addH_eq, heapM_no], by rw [sg_nil]; exact hk⟩
  rw [lessH_no]
  exact hc.imp id fun h => ⟨hb, h⟩

/-- the blocks that are handed over, as a list -/
def HinOk (H : Hp) : List (Nat × List V) → Prop
  | [] => True
  | p :: r => H p.1 = some p.2 ∧ HinOk H r
theorem HinOk.at {H : Hp} : ∀ {L : List (Nat × List V)}, HinOk H L → ∀ i cs, lk L i = some cs → H i = some cs
  | [], _, i, cs, h => by simp [lk] at h
  | p :: r, hk, i, cs, h => by
    simp only [lk] at h
    split at h
    · rename_i e; cases h; rw [e]; exact hk.1
    · exact hk.2.at i cs h
def delL (H : Hp) : List (Nat × List V) → Hp
  | [] => H
  | p :: r => upd (delL H r) p.1 none
def addM (H : Hp) (ks : List Nat) (b : Nat) : List (Nat × List V) → Hp
  | [] => H
  | p :: r => upd (addM H ks b r) (sg ks b p.1) (some (p.2.map (renC (sg ks b))))
theorem delL_eq (H : Hp) : ∀ (L : List (Nat × List V)) (i : Nat), delL H L i = if (lk L i).isSome then none else H i
  | [], i => rfl
  | p :: r, i => by
    simp only [delL, upd_at, lk, delL_eq H r i]
    by_cases h : i = p.1
    · simp [h]
    · simp [h]
/-- names of the stable ones lie below, and each is found again -/
def ksOk (b : Nat) (L L1 : List (Nat × List V)) : List Nat → Prop
  | [] => True
  | i :: r => i < b ∧ (lk L1 i).isSome = true ∧ (∃ cs, lk L i = some cs ∧ cs ≠ []) ∧ ksOk b L L1 r
theorem ksOk.at {b : Nat} {L L1 : List (Nat × List V)} : ∀ {ks : List Nat}, ksOk b L L1 ks → ∀ i ∈ ks, i < b ∧ (lk L1 i).isSome = true ∧ ∃ cs, lk L i = some cs ∧ cs ≠ []
  | [], _, _, h => by cases h
  | k :: r, hk, i, h => by
    rcases List.mem_cons.1 h with rfl | h
    · exact ⟨hk.1, hk.2.1, hk.2.2.1⟩
    · exact hk.2.2.2.at i h
theorem addM_eq (H : Hp) (ks : List Nat) (b : Nat) (hks : ∀ i ∈ ks, i < b) : ∀ (L1 : List (Nat × List V)) (i : Nat), addM H ks b L1 i = if i ∈ ks then (match lk L1 i with | some cs => some (cs.map (renC (sg ks b))) | none => H i) else if b ≤ i then (if i - b ∈ ks then H i else match lk L1 (i - b) with | some cs => some (cs.map (renC (sg ks b))) | none => H i) else H i
  | [], i => by simp [addM, lk]
  | p :: r, i => by
    simp only [addM, upd_at, lk, addM_eq H ks b hks r i]
    by_cases hk : p.1 ∈ ks
    · have e : sg ks b p.1 = p.1 := by simp [sg, hk]
      rw [e]
      by_cases h : i = p.1
      · subst h; simp [hk]
      · rw [if_neg h]
        by_cases hi : i ∈ ks
        · simp [hi, h]
        · simp only [if_neg hi]
          by_cases hb : b ≤ i
          · simp only [if_pos hb]
            by_cases hib : i - b ∈ ks
            · simp [hib]
            · have : i - b ≠ p.1 := fun e => hib (e ▸ hk)
              simp [hib, this]
          · simp [hb]
    · have e : sg ks b p.1 = b + p.1 := by simp [sg, hk]
      rw [e]
      by_cases h : i = b + p.1
      · subst h
        have hn : ¬ (b + p.1 ∈ ks) := fun hh => by have := hks _ hh; omega
        simp [hn, hk]
      · rw [if_neg h]
        by_cases hi : i ∈ ks
        · have : i ≠ p.1 := fun e => hk (e ▸ hi)
          simp [hi, this]
        · simp only [if_neg hi]
          by_cases hb : b ≤ i
          · have : i - b ≠ p.1 := by omega
            simp [hb, this]
          · simp [hb]
theorem heapM_list (H : Hp) (ks : List Nat) (b : Nat) (L L1 : List (Nat × List V)) (h : ksOk b L L1 ks) (hL : ∀ i, InH (lk L) i → i < b) : heapM H b (lk L) ks (lk L1) = addM (delL H L) ks b L1 := by
  funext i
  rw [addM_eq _ ks b (fun i hi => (h.at i hi).1)]
  simp only [heapM, delL_eq]
  by_cases hi : i ∈ ks
  · obtain ⟨h1, h2, h3⟩ := h.at i hi
    obtain ⟨cs, hcs⟩ := Option.isSome_iff_exists.1 h2
    simp [hi, hcs]
  · simp only [if_neg hi]
    by_cases hl : (lk L i).isSome = true
    · have := hL i hl
      simp [hl, show ¬ b ≤ i by omega]
    · simp [hl]
      rfl
/-- a call that writes blocks of the caller's: L before, L1 behind it -/
theorem ACall.mkM0 {H : Hp} {b : Nat} {g : FuncId} {as : List V} {Kc Kx : V → Hp → Prop} (args : List V) (L : List (Nat × List V)) (ks : List Nat) (res : Res) (L1 : List (Nat × List V)) (hf : Cm P g args (lk L) ks res (lk L1)) (hin : HinOk H L) (hi : idsLt 1048576 L1) (hks : ksOk b L L1 ks) (hL : ∀ i, InH (lk L) i → i < b)
    (hb : All2 (Bor noH) as args ∨ (All2 (Bor (delL H L)) as args ∧ flatRes res (lk L1))) (hk : afterC res (sg ks b) (addM (delL H L) ks b L1) Kc Kx) : ACall P true H H b g as Kc Kx := by
  refine ⟨args, lk L, ks, res, lk L1, _, ⟨hf, hin.at, fun i h _ => lk_lt hi h, fun i h => (hks.at i h).2.2, hb.imp id fun ⟨h1, h2⟩ => ⟨?_, h2⟩⟩, nofun, (heapM_list H ks b L L1 hks hL).symm, hk⟩
  have : lessH H (lk L) = delL H L := by funext i; rw [delL_eq]; rfl
  rw [this]; exact h1

def stepC (P : Program) (Γ : Tys) (eqs : Eqs) (m : Bool) (b : Nat) (op : Op) (f : Nat → V) (Hr H : Hp) (Kp : V → Eff → Prop) (Kc Kx : V → Hp → Prop) : Prop :=
  match evalOp Γ eqs Hr b f op with
  | some (v, e) => Kp v e
  | none => match op with
    | .call c => (match c.callee with
      | .value fo => callV P m Hr H b (evF f fo) (capL f c.args.toList) Kc Kx
      | _ => False)
    | .panic x => m = true ∧ (∃ t ag cs, evF f x = .d (.ifc t ag cs)) ∧ Kx (evF f x) H
    | _ => False
theorem callV_step {b : Nat} {o : Oper} {st : St} {c : Call} {fo : Operand} (ho : o.op = .call c) (hc : c.callee = .value fo) {Kc Kx : V → Hp → Prop} {K : St → Prop} {K' : V → St → Prop}
    (h : callV P true st.H st.H b (evF st.fr fo) (capL st.fr c.args.toList) Kc Kx) (hKc : ∀ v H, Kc v H → K ⟨frPut st.fr o.dst v, H, st.nx⟩) (hKx : ∀ v H, Kx v H → K' v ⟨st.fr, H, st.nx⟩) : AStep P Γ eqs b o st K K' := by
  have hcall : ∀ g caps, calleeOf (evF st.fr fo) = some (g, caps) → ACall P true st.H st.H b g (capL st.fr c.args.toList ++ caps) Kc Kx → AStep P Γ eqs b o st K K' := fun g caps hg ⟨args, Hin, ks, res, H1, Hout, hcall, _, he, hk⟩ => by
    subst he
    cases res with
    | ret r => exact .inl ⟨_, .call c fo g caps args Hin ks r H1 ho hc hg hcall, hKc _ _ hk⟩
    | pan r => exact .inr ⟨_, _, .call c fo g caps args Hin ks r H1 ho hc hg hcall, hKx _ _ hk⟩
  unfold callV at h
  split at h
  · rename_i g caps he; exact hcall g _ (by rw [he]; rfl) h
  · rename_i g caps he; exact hcall g _ (by rw [he]; rfl) h
  · rename_i k he
    obtain ⟨_, args, Hin, ks, res, H1, Hout, hcall, he', hk⟩ := h
    subst he'
    cases res with
    | ret r => exact .inl ⟨_, .yield c fo k args Hin ks r H1 ho hc he hcall, hKc _ _ hk⟩
    | pan r => exact .inr ⟨_, _, .yield c fo k args Hin ks r H1 ho hc he hcall, hKx _ _ hk⟩
  · exact h.elim
theorem stepC_sound {b : Nat} {o : Oper} {st : St} {K : St → Prop} {K' : V → St → Prop}
    (h : stepC P Γ eqs true b o.op st.fr st.H st.H (fun v e => K ⟨frPut st.fr o.dst v, st.H.app e, st.nx⟩) (fun v H => K ⟨frPut st.fr o.dst v, H, st.nx⟩) (fun v H => K' v ⟨st.fr, H, st.nx⟩)) : AStep P Γ eqs b o st K K' := by
  unfold stepC at h
  split at h
  · rename_i v e he; exact .inl ⟨_, .plain v e he, h⟩
  · split at h
    · rename_i c hop
      split at h
      · rename_i fo hce
        exact callV_step hop hce h (fun _ _ h => h) (fun _ _ h => h)
      · exact h.elim
    · rename_i x hop
      obtain ⟨_, ⟨t, ag, cs, hv⟩, hk⟩ := h
      rw [hv] at hk
      exact .inr ⟨_, _, .panic x t ag cs hop hv, hk⟩
    · exact h.elim
theorem stepD_sound {ws : List (Nat × Nat)} {k b : Nat} {o : Oper} {f : Nat → V} {Hr H : Hp} {K : V → Hp → Prop} {Kx : V → Hp → Prop}
    (h : stepC P Γ eqs false b o.op f Hr H (fun v e => match e with | .none => K v H | .new i cs => i = b ∧ K v (upd H b (some cs)) | .put i cs => (k, i) ∈ ws ∧ K v (upd H i (some cs)) | .mov i j cs => ((k, i) ∈ ws ∧ j = b) ∧ K v (upd (upd H i none) b (some cs))) K Kx) : ∃ v H', StepD P Γ eqs ws k b o f Hr H v H' ∧ K v H' := by
  unfold stepC at h
  split at h
  · rename_i v e he
    cases e with
    | none => exact ⟨v, _, .plain v he, h⟩
    | new i cs => obtain ⟨rfl, h⟩ := h; exact ⟨v, _, .new v cs he, h⟩
    | put i cs => exact ⟨v, _, .put v i cs he h.1, h.2⟩
    | mov i j cs => obtain ⟨⟨hw, rfl⟩, h⟩ := h; exact ⟨v, _, .mov v i cs he hw, h⟩
  · split at h
    · rename_i c hop
      split at h
      · rename_i fo hce
        have hcall : ∀ g caps, calleeOf (evF f fo) = some (g, caps) → ACall P false Hr H b g (capL f c.args.toList ++ caps) K Kx → ∃ v H', StepD P Γ eqs ws k b o f Hr H v H' ∧ K v H' := fun g caps hg ⟨args, Hin, ks, res, H1, Hout, hcall, hm, he, hk⟩ => by
          obtain ⟨rfl, rfl, r, rfl⟩ := hm rfl
          subst he
          rw [heapM_no] at hk
          rw [sg_nil] at hk
          exact ⟨_, _, .call c fo g caps args r H1 hop hce hg hcall, hk⟩
        unfold callV at h
        split at h
        · rename_i g caps he; exact hcall g _ (by rw [he]; rfl) h
        · rename_i g caps he; exact hcall g _ (by rw [he]; rfl) h
        · exact absurd h.1 (by simp)
        · exact h.elim
      · exact h.elim
    · exact absurd h.1 (by simp)
    · exact h.elim

/-! the guards, resolved -/
def gV2 (f : Nat → V) : Option (Option Nat × Bool) → Option Bool
  | none => some true
  | some (none, _) => none
  | some (some d, w) => (gV (f d)).map fun y => y == some w
theorem gV2_eq {all : List Oper} {f : Nat → V} {g : Option (Nat × Bool)} : gV2 f (gdOf all g) = guardOf all f g := by
  cases g with
  | none => rfl
  | some p =>
    obtain ⟨j, w⟩ := p
    simp only [gdOf, guardOf]
    cases h : (all[j]?).bind (·.dst) <;> rfl

abbrev RK := (Nat → V) → Hp → Nat → Prop
def PO.run (P : Program) (Γ : Tys) (eqs : Eqs) (o : PO) (b : Nat) (f : Nat → V) (H : Hp) (K : (Nat → V) → Hp → Prop) (Kx : V → (Nat → V) → Hp → Nat → Prop) : Prop :=
  match gV2 f o.g with
  | some true => stepC P Γ eqs true b o.op f H H (fun v e => K (frPut f o.dst v) (H.app e)) (fun v H => K (frPut f o.dst v) H) (fun v H => Kx v f H (b + 1048576))
  | some false => K (frPut f o.dst (.tup [])) H
  | none => False
def runR (P : Program) (Γ : Tys) (eqs : Eqs) (Kx : V → RK) : Nat → List PO → (Nat → V) → Hp → RK → Prop
  | b, [], f, H, K => K f H b
  | b, o :: r, f, H, K => o.run P Γ eqs b f H (fun f H => runR P Γ eqs Kx (b + 1048576) r f H K) Kx
def PO.runD (P : Program) (Γ : Tys) (eqs : Eqs) (ws : List (Nat × Nat)) (k : Nat) (o : PO) (b : Nat) (f : Nat → V) (Hr H : Hp) (K : (Nat → V) → Hp → Prop) : Prop :=
  match gV2 f o.g with
  | some true => stepC P Γ eqs false b o.op f Hr H (fun v e => match e with | .none => K (frPut f o.dst v) H | .new i cs => i = b ∧ K (frPut f o.dst v) (upd H b (some cs)) | .put i cs => (k, i) ∈ ws ∧ K (frPut f o.dst v) (upd H i (some cs)) | .mov i j cs => ((k, i) ∈ ws ∧ j = b) ∧ K (frPut f o.dst v) (upd (upd H i none) b (some cs))) (fun v H => K (frPut f o.dst v) H) (fun _ _ => False)
  | some false => K (frPut f o.dst (.tup [])) H
  | none => False
def runD (P : Program) (Γ : Tys) (eqs : Eqs) (ws : List (Nat × Nat)) (cl : List Nat) (n0 : Nat) : Nat → Nat → List PO → (Nat → V) → Hp → RK → Prop
  | _, b, [], f, H, K => K f H b
  | k, b, o :: r, f, H, K => o.runD P Γ eqs ws k b f (Hcl ws cl k n0 H) H fun f H => runD P Γ eqs ws cl n0 (k + 1) (b + 1048576) r f H K

theorem afterC_mono {res : Res} {ρ : Nat → Nat} {Hout : Hp} {Kc Kc' Kx Kx' : V → Hp → Prop} (h : afterC res ρ Hout Kc Kx) (h1 : ∀ v H, Kc v H → Kc' v H) (h2 : ∀ v H, Kx v H → Kx' v H) : afterC res ρ Hout Kc' Kx' := by
  cases res with
  | ret r => exact h1 _ _ h
  | pan r => exact h2 _ _ h
theorem ACall.mono {m : Bool} {Hr H : Hp} {b : Nat} {g : FuncId} {as : List V} {Kc Kc' Kx Kx' : V → Hp → Prop} (h : ACall P m Hr H b g as Kc Kx) (h1 : ∀ v H, Kc v H → Kc' v H) (h2 : ∀ v H, Kx v H → Kx' v H) : ACall P m Hr H b g as Kc' Kx' := by
  obtain ⟨args, Hin, ks, res, H1, Hout, q1, q2, q3, q4⟩ := h
  exact ⟨args, Hin, ks, res, H1, Hout, q1, q2, q3, afterC_mono q4 h1 h2⟩
theorem callV_mono {m : Bool} {Hr H : Hp} {b : Nat} {cv : V} {as : List V} {Kc Kc' Kx Kx' : V → Hp → Prop} (h : callV P m Hr H b cv as Kc Kx) (h1 : ∀ v H, Kc v H → Kc' v H) (h2 : ∀ v H, Kx v H → Kx' v H) : callV P m Hr H b cv as Kc' Kx' := by
  unfold callV at h ⊢
  split
  · exact ACall.mono h h1 h2
  · exact ACall.mono h h1 h2
  · obtain ⟨q0, args, Hin, ks, res, H1, Hout, q1, q3, q4⟩ := h
    exact ⟨q0, args, Hin, ks, res, H1, Hout, q1, q3, afterC_mono q4 h1 h2⟩
  · simp at h
theorem stepC_mono {m : Bool} {b : Nat} {op : Op} {f : Nat → V} {Hr H : Hp} {Kp Kp' : V → Eff → Prop} {Kc Kc' Kx Kx' : V → Hp → Prop} (h : stepC P Γ eqs m b op f Hr H Kp Kc Kx) (h0 : ∀ v e, Kp v e → Kp' v e) (h1 : ∀ v H, Kc v H → Kc' v H) (h2 : ∀ v H, Kx v H → Kx' v H) : stepC P Γ eqs m b op f Hr H Kp' Kc' Kx' := by
  unfold stepC at h ⊢
  split
  · rename_i v e he; rw [he] at h; exact h0 _ _ h
  · rename_i he
    rw [he] at h
    simp only at h
    cases op with
    | call c =>
      simp only at h ⊢
      generalize c.callee = cc at h ⊢
      cases cc with
      | value fo => exact callV_mono h h1 h2
      | _ => exact h
    | panic x => exact ⟨h.1, h.2.1, h2 _ _ h.2.2⟩
    | _ => exact h
theorem PO.run_mono {o : PO} {b : Nat} {f : Nat → V} {H : Hp} {K K' : (Nat → V) → Hp → Prop} {Kx : V → RK} (h : o.run P Γ eqs b f H K Kx) (hk : ∀ f H, K f H → K' f H) : o.run P Γ eqs b f H K' Kx := by
  unfold PO.run at h ⊢
  split
  · rename_i hg; rw [hg] at h; exact stepC_mono h (fun _ _ h => hk _ _ h) (fun _ _ h => hk _ _ h) (fun _ _ h => h)
  · rename_i hg; rw [hg] at h; exact hk _ _ h
  · rename_i hg; rw [hg] at h; exact h
theorem runR_mono {Kx : V → RK} : ∀ {l : List PO} {b : Nat} {f : Nat → V} {H : Hp} {K K' : RK}, runR P Γ eqs Kx b l f H K → (∀ f H n, K f H n → K' f H n) → runR P Γ eqs Kx b l f H K'
  | [], _, _, _, _, _, h, hk => hk _ _ _ h
  | _ :: _, _, _, _, _, _, h, hk => PO.run_mono h fun _ _ h => runR_mono h hk
theorem runR_sound {all : List Oper} {K : St → Prop} {K' : V → St → Prop} : ∀ (ops : List Oper) (k n0 : Nat) (f : Nat → V) (H : Hp), runR P Γ eqs (fun v f H n => K' v ⟨f, H, n⟩) (n0 + 1048576 * k) (ops.map (poOf all)) f H (fun f H n => K ⟨f, H, n⟩) → AOps P Γ eqs all k ops ⟨f, H, n0⟩ K K'
  | [], k, n0, f, H, h => h
  | o :: r, k, n0, f, H, h => by
    have e : n0 + 1048576 * (k + 1) = n0 + 1048576 * k + 1048576 := by omega
    simp only [List.map_cons, runR, PO.run, poOf] at h
    simp only [AOps, AGuard]
    split at h
    · rename_i hg
      rw [gV2_eq] at hg
      rw [hg]
      refine ⟨fun _ => stepC_sound (stepC_mono h (fun v e' hh => runR_sound r (k + 1) n0 _ _ (by rw [e]; exact hh)) (fun v H' hh => runR_sound r (k + 1) n0 _ _ (by rw [e]; exact hh)) (fun v H' hh => ?_)), nofun⟩
      show K' v ⟨f, H', n0 + 1048576 * (k + 1)⟩
      rw [e]; exact hh
    · rename_i hg
      rw [gV2_eq] at hg
      rw [hg]
      exact ⟨nofun, fun _ => runR_sound r (k + 1) n0 _ _ (by rw [e]; exact h)⟩
    · exact h.elim
theorem runD_sound {all : List Oper} {ws : List (Nat × Nat)} {cl : List Nat} {K : (Nat → V) → Hp → Prop} : ∀ (ops : List Oper) (k n0 : Nat) (f : Nat → V) (H : Hp), runD P Γ eqs ws cl n0 k (n0 + 1048576 * k) (ops.map (poOf all)) f H (fun f H n => n = n0 + 1048576 * (k + ops.length) → K f H) → ADraw P Γ eqs all ws cl n0 k ops f H K
  | [], k, n0, f, H, h => h rfl
  | o :: r, k, n0, f, H, h => by
    have hlen : k + (o :: r).length = k + 1 + r.length := by simp; omega
    have next : ∀ f H, runD P Γ eqs ws cl n0 (k + 1) (n0 + 1048576 * k + 1048576) (r.map (poOf all)) f H (fun f H n => n = n0 + 1048576 * (k + (o :: r).length) → K f H) → ADraw P Γ eqs all ws cl n0 (k + 1) r f H K := fun f H h =>
      runD_sound r (k + 1) n0 f H (by rw [show n0 + 1048576 * (k + 1) = n0 + 1048576 * k + 1048576 by omega, ← hlen]; exact h)
    simp only [List.map_cons, runD, PO.runD, poOf] at h
    simp only [ADraw]
    split at h
    · rename_i hg
      rw [gV2_eq] at hg
      simp only [hg, AGuard, true_implies, Bool.true_eq_false, false_implies, and_true]
      refine stepD_sound (Kx := fun _ _ => False) (stepC_mono h (fun v e hh => ?_) (fun v H' hh => next _ _ hh) (fun _ _ h => h))
      cases e with
      | none => exact next _ _ hh
      | new i cs => exact ⟨hh.1, next _ _ hh.2⟩
      | put i cs => exact ⟨hh.1, next _ _ hh.2⟩
      | mov i j cs => exact ⟨hh.1, next _ _ hh.2⟩
    · rename_i hg
      rw [gV2_eq] at hg
      simp only [hg, AGuard, true_implies, Bool.false_eq_true, false_implies, true_and]
      exact next _ _ h
    · exact h.elim
theorem runD_mono {ws : List (Nat × Nat)} {cl : List Nat} {n0 : Nat} : ∀ {l : List PO} {k b : Nat} {f : Nat → V} {H : Hp} {K K' : RK}, runD P Γ eqs ws cl n0 k b l f H K → (∀ f H n, K f H n → K' f H n) → runD P Γ eqs ws cl n0 k b l f H K'
  | [], _, _, _, _, _, _, h, hk => hk _ _ _ h
  | o :: r, k, b, f, H, K, K', h, hk => by
    simp only [runD, PO.runD] at h ⊢
    split
    · rename_i hg
      rw [hg] at h
      refine stepC_mono h (fun v e hh => ?_) (fun v H' hh => runD_mono hh hk) (fun _ _ h => h)
      cases e with
      | none => exact runD_mono hh hk
      | new i cs => exact ⟨hh.1, runD_mono hh.2 hk⟩
      | put i cs => exact ⟨hh.1, runD_mono hh.2 hk⟩
      | mov i j cs => exact ⟨hh.1, runD_mono hh.2 hk⟩
    · rename_i hg; rw [hg] at h; exact runD_mono h hk
    · rename_i hg; rw [hg] at h; exact h

def condP (v : V) (a b : Prop) : Prop := match v with | .d (.lit (.bool t)) => (t = true → a) ∧ (t = false → b) | _ => False
/-- Q, where less may be known -/
def clQ (P : Program) (E : Ent) (Q : AExit → St → Prop) (e : AExit) (st : St) : Prop := Q e st ∨ (∃ st1, Weak P E st st1 ∧ Q e st1 ∧ ∀ v, e ≠ .pan v)
def PLoop (P : Program) (E : Ent) (body : (AExit → St → Prop) → St → Prop) (Q : AExit → St → Prop) (st : St) : Prop :=
  ∃ (α : Type) (S : α → St) (inv : α → Prop) (μ : α → Nat) (x0 : α), inv x0 ∧ Weak P E st (S x0) ∧ ∀ x, inv x → body (seqQ (fun st' => ∃ y, inv y ∧ μ y < μ x ∧ Weak P E st' (S y)) (clQ P E Q)) (S x)
theorem PLoop.mk {body : (AExit → St → Prop) → St → Prop} {Q : AExit → St → Prop} {st : St} {α : Type} (S : α → St) (inv : α → Prop) (μ : α → Nat) (x0 : α) (h0 : inv x0) (hw : Weak P E st (S x0))
    (round : ∀ x, inv x → body (seqQ (fun st' => ∃ y, inv y ∧ μ y < μ x ∧ Weak P E st' (S y)) (clQ P E Q)) (S x)) : PLoop P E body Q st := ⟨α, S, inv, μ, x0, h0, hw, round⟩

/-- a jump that a round has left -/
def jumpQ (Q : AExit → St → Prop) (st : St) : LSt → Prop
  | .ready => Q .normal st
  | .done .ret => Q .ret st
  | .done (.exit i) => Q (.exit i) st
  | _ => False
/-- a loop over a function: the one call, with yield; behind it the jump that a round has left -/
def PRange (P : Program) (E : Ent) (fo : Operand) (ps : List Nat) (pa pb : PC) (Q : AExit → St → Prop) (st : St) : Prop :=
  E.rd = none ∧ ∃ g caps args Hin ks res H1, calleeOf (evF st.fr fo) = some (g, caps) ∧ CallA P (upd st.H st.nx (some [.lr st.fr E.nt ps pa pb .ready])) g (.yl st.nx :: caps) args Hin ks res H1 ∧ st.nx ∈ ks ∧
    match res with
    | .ret _ => ∃ jmp, H1 st.nx = some [.lr st.fr E.nt ps pa pb jmp] ∧ jumpQ Q ⟨st.fr, upd (heapM (upd st.H st.nx (some [.lr st.fr E.nt ps pa pb .ready])) (st.nx + 1048576) Hin ks H1) st.nx none, st.nx + 2097152⟩ jmp
    | .pan r => Q (.pan (ren (sg ks (st.nx + 1048576)) r)) ⟨st.fr, upd (heapM (upd st.H st.nx (some [.lr st.fr E.nt ps pa pb .ready])) (st.nx + 1048576) Hin ks H1) st.nx none, st.nx + 2097152⟩

def PW (P : Program) (Γ : Tys) (eqs : Eqs) (E : Ent) : PC → (AExit → St → Prop) → St → Prop
  | .reg ops, Q, st => runR P Γ eqs (fun v f H n => Q (.pan v) ⟨f, H, n⟩) st.nx ops st.fr st.H fun f H n => Q .normal ⟨f, H, n⟩
  | .draw cl as bs, Q, st => runD P Γ eqs [] cl st.nx 0 st.nx as st.fr st.H fun f H n => runR P Γ eqs (fun v f H n => Q (.pan v) ⟨f, H, n⟩) n bs f H fun f H n => Q .normal ⟨f, H, n⟩
  | .drawW cl as bs, Q, st => ∃ ws, wsOk ws cl st.nx = true ∧ runD P Γ eqs ws cl st.nx 0 st.nx as st.fr st.H fun f H n => runR P Γ eqs (fun v f H n => Q (.pan v) ⟨f, H, n⟩) n bs f H fun f H n => Q .normal ⟨f, H, n⟩
  | .seq a b, Q, st => PW P Γ eqs E a (seqQ (fun st => PW P Γ eqs E b Q st) Q) st
  | .cond c a b, Q, st => condP (evF st.fr c) (PW P Γ eqs E a Q st) (PW P Γ eqs E b Q st)
  | .block id a, Q, st => PW P Γ eqs E a (blkQ id Q) st
  | .loop a, Q, st => PLoop P E (fun Q st => PW P Γ eqs E a Q st) Q st
  | .exit id, Q, st => Q (.exit id) st
  | .ret, Q, st => Q .ret st
  | .skip, Q, st => Q .normal st
  | .rangeF f ps a b, Q, st => PRange P E f ps a b Q st

theorem runR_mono2 {Kx Kx' : V → RK} (hx : ∀ v f H n, Kx v f H n → Kx' v f H n) : ∀ {l : List PO} {b : Nat} {f : Nat → V} {H : Hp} {K K' : RK}, runR P Γ eqs Kx b l f H K → (∀ f H n, K f H n → K' f H n) → runR P Γ eqs Kx' b l f H K'
  | [], _, _, _, _, _, h, hk => hk _ _ _ h
  | o :: r, _, _, _, _, _, h, hk => by
    simp only [runR, PO.run] at h ⊢
    split
    · rename_i hg
      rw [hg] at h
      exact stepC_mono h (fun _ _ h => runR_mono2 hx h hk) (fun _ _ h => runR_mono2 hx h hk) (fun _ _ h => hx _ _ _ _ h)
    · rename_i hg; rw [hg] at h; exact runR_mono2 hx h hk
    · rename_i hg; rw [hg] at h; exact h
theorem seqQ_mono {K K' : St → Prop} {Q Q' : AExit → St → Prop} (hk : ∀ st, K st → K' st) (hq : ∀ e st, Q e st → Q' e st) (e : AExit) (st : St) (h : seqQ K Q e st) : seqQ K' Q' e st := by
  cases e <;> first | exact hk _ h | exact hq _ _ h
theorem blkQ_mono {id : Nat} {Q Q' : AExit → St → Prop} (hq : ∀ e st, Q e st → Q' e st) (e : AExit) (st : St) (h : blkQ id Q e st) : blkQ id Q' e st := by
  cases e with
  | exit j =>
    simp only [blkQ] at h ⊢
    split
    · rename_i hj; rw [if_pos hj] at h; exact hq _ _ h
    · rename_i hj; rw [if_neg hj] at h; exact hq _ _ h
  | _ => exact hq _ _ h
theorem clQ_mono {Q Q' : AExit → St → Prop} (hq : ∀ e st, Q e st → Q' e st) (e : AExit) (st : St) (h : clQ P E Q e st) : clQ P E Q' e st := by
  rcases h with h | ⟨st1, h1, h2, h3⟩
  · exact .inl (hq _ _ h)
  · exact .inr ⟨st1, h1, hq _ _ h2, h3⟩
theorem PW.mono : ∀ {p : PC} {Q Q' : AExit → St → Prop} {st : St}, PW P Γ eqs E p Q st → (∀ e st, Q e st → Q' e st) → PW P Γ eqs E p Q' st
  | .reg _, _, _, _, h, hq => runR_mono2 (fun _ _ _ _ h => hq _ _ h) h fun _ _ _ h => hq _ _ h
  | .draw _ _ _, _, _, _, h, hq => runD_mono h fun _ _ _ h => runR_mono2 (fun _ _ _ _ h => hq _ _ h) h fun _ _ _ h => hq _ _ h
  | .drawW _ _ _, _, _, _, ⟨ws, h1, h⟩, hq => ⟨ws, h1, runD_mono h fun _ _ _ h => runR_mono2 (fun _ _ _ _ h => hq _ _ h) h fun _ _ _ h => hq _ _ h⟩
  | .seq a b, Q, Q', _, h, hq => PW.mono (p := a) h fun e st h => seqQ_mono (fun _ h => PW.mono (p := b) h hq) hq e st h
  | .cond c a b, Q, Q', st, h, hq => by
    simp only [PW, condP] at h ⊢
    split
    · rename_i t ht
      rw [ht] at h
      exact ⟨fun e => PW.mono (p := a) (h.1 e) hq, fun e => PW.mono (p := b) (h.2 e) hq⟩
    · rename_i hne
      split at h
      · rename_i t ht; exact absurd ht (hne t)
      · exact h
  | .block _ a, _, _, _, h, hq => PW.mono (p := a) h (blkQ_mono hq)
  | .loop a, Q, Q', st, ⟨α, S, inv, μ, x0, h0, hw, hr⟩, hq => ⟨α, S, inv, μ, x0, h0, hw, fun x hx => PW.mono (p := a) (hr x hx) fun e st h => seqQ_mono (fun _ h => h) (clQ_mono hq) e st h⟩
  | .exit _, _, _, _, h, hq => hq _ _ h
  | .ret, _, _, _, h, hq => hq _ _ h
  | .skip, _, _, _, h, hq => hq _ _ h
  | .rangeF _ _ _ _, Q, Q', st, ⟨h0, g, caps, args, Hin, ks, res, H1, h1, h2, h3, h4⟩, hq => ⟨h0, g, caps, args, Hin, ks, res, H1, h1, h2, h3, by
    cases res with
    | ret r =>
      obtain ⟨jmp, h5, h6⟩ := h4
      refine ⟨jmp, h5, ?_⟩
      cases jmp with
      | ready => exact hq _ _ h6
      | busy => exact h6
      | done c => cases c <;> first | exact hq _ _ h6 | exact h6
    | pan r => exact hq _ _ h4⟩

/-- the loop's record, and the mark, are laid -/
theorem Inv.enter {U' : Nat → Prop} {U : Nat → Prop} {G : Gh} {st : St} {a : Act} {W : World} (hI : Inv E U G st a W) {k : Nat} (hk : ¬ U k) (hU : ∀ i, U i → U' i) (hk' : U' k) {fn : FuncId} {ps : Array Tmp} {assign body : Code} {pa pb : PC} (ha : comp E.nt assign = some pa) (hb : comp E.nt body = some pb) :
    ∃ G', Inv E U' G' ⟨st.fr, upd st.H k (some [.lr st.fr E.nt ps.toList pa pb .ready]), st.nx⟩ { a with defers := { target := .collected W.heap.size, args := #[] } :: a.defers } ((W.alloc (.deferred (some []))).alloc (.loop { state := .ready, pending := none, fn, tmps := a.tmps, params := ps, assign, body, defers := W.heap.size })) ∧ G'.β k = W.heap.size + 1 := by
  let rc : Loop := { state := .ready, pending := none, fn, tmps := a.tmps, params := ps, assign, body, defers := W.heap.size }
  let G' : Gh := { β := upd G.β k (W.heap.size + 1), bs := upd G.bs k 0, ph := upd G.ph k false, lo := upd G.lo k true, Im := G.Im }
  let W' : World := (W.alloc (.deferred (some []))).alloc (.loop rc)
  have hne : ∀ i, U i → i ≠ k := fun i hi e => hk (e ▸ hi)
  have hsz : W'.heap.size = W.heap.size + 2 := by
    show ((W.heap.push _).push _).size = _
    simp
  have hold : ∀ j, j < W.heap.size → W'.heap[j]? = W.heap[j]? := fun j hj => by
    show ((W.heap.push _).push _)[j]? = _
    rw [Array.getElem?_push, if_neg (by simp; omega), Array.getElem?_push, if_neg (by omega)]
  have hD : W'.heap[W.heap.size]? = some (.deferred (some [])) := by
    show ((W.heap.push _).push _)[_]? = _
    rw [Array.getElem?_push, if_neg (by simp)]; simp
  have hL : W'.heap[W.heap.size + 1]? = some (.loop rc) := by
    show ((W.heap.push _).push _)[_]? = _
    rw [Array.getElem?_push, if_pos (by simp)]
  have hchg : Chg U G W G' W' := ⟨fun i hi => by simp [G', upd, hne i hi], fun j hj => ⟨hj, hold j (hI.im j hj).1⟩⟩
  have hlt : ∀ i cs', st.H i = some cs' → G.ph i = false → G.β i < W.heap.size := fun i cs' hs hp => (hI.hp i cs' hs).lt hp
  have hsome : ∀ i, (upd st.H k (some [.lr st.fr E.nt ps.toList pa pb .ready]) i).isSome = true → i = k ∨ (i ≠ k ∧ (st.H i).isSome = true) := fun i hi => by
    by_cases e : i = k
    · exact .inl e
    · simp only [upd_at, if_neg e] at hi; exact .inr ⟨e, hi⟩
  refine ⟨G', ?_, by simp [G', upd]⟩
  refine { fr := fun t => hchg.rv (hI.wf t) (hI.fr t), wf := fun t => AV.mono hU (fun _ h => h) (hI.wf t), hp := ?_, wh := ?_, dom := ?_, inj := ?_, own := ?_, im := ?_, im0 := hI.im0, keep := ?_, stab := ?_, sU := fun i hs => hU _ (hI.sU i hs), nt := hI.nt, df := ?_ }
  · intro id cs' h
    simp only [upd_at] at h
    split at h
    · rename_i e; subst e; cases h
      refine .inr (.inr ⟨by simp [G', upd], by simp [G', upd], ?_, st.fr, E.nt, ps.toList, pa, pb, .ready, rc, rfl, by simp only [G', upd, if_true]; exact hL, rfl, ha, hb, hI.nt, fun t => hchg.rv (hI.wf t) (hI.fr t), rfl, rfl⟩)
      simp only [G', upd, if_true]
      intro hx
      have := (hI.im _ hx).1
      omega
    · have hu := hI.dom id (by rw [h]; rfl)
      exact hchg.hb hu (hI.wh id cs' h) (hI.hp id cs' h) (fun hp => hold _ (hlt id cs' h hp)) (fun hx _ => hx)
  · intro id cs' h x hx
    simp only [upd_at] at h
    split at h
    · cases h
      simp only [List.mem_singleton] at hx
      subst hx
      exact fun t => AV.mono hU (fun _ h => h) (hI.wf t)
    · exact AC.mono hU (fun _ h => h) (hI.wh id cs' h x hx)
  · intro id h
    rcases hsome id h with rfl | ⟨_, h⟩
    · exact hk'
    · exact hU _ (hI.dom id h)
  · intro i j hi hj hpi hpj he
    rcases hsome i hi with ei | ⟨ei, hi'⟩ <;> rcases hsome j hj with ej | ⟨ej, hj'⟩
    · rw [ei, ej]
    · simp only [G', upd, if_pos ei, if_neg ej] at he hpj
      obtain ⟨cs', hs⟩ := Option.isSome_iff_exists.1 hj'
      have := hlt j cs' hs hpj
      omega
    · simp only [G', upd, if_pos ej, if_neg ei] at he hpi
      obtain ⟨cs', hs⟩ := Option.isSome_iff_exists.1 hi'
      have := hlt i cs' hs hpi
      omega
    · simp only [G', upd, if_neg ei, if_neg ej] at he hpi hpj
      exact hI.inj i j hi' hj' hpi hpj he
  · intro i hi hp
    rcases hsome i hi with rfl | ⟨ei, hi⟩
    · simp only [G', upd, if_true]
      have := hI.keep.size
      exact .inl (by omega)
    · simp only [G', upd, if_neg ei] at hp ⊢
      exact hI.own i hi hp
  · intro j hj
    have := hI.im j hj
    exact ⟨by rw [hsz]; omega, this.2⟩
  · exact ⟨hI.keep.os, hI.keep.tape, hI.keep.output, hI.keep.drawn, by rw [hsz]; have := hI.keep.size; omega, fun j hj hm => (hold j (by have := hI.keep.size; omega)).trans (hI.keep.block j hj hm)⟩
  · intro i hs hi
    rcases hsome i hi with rfl | ⟨ei, hi⟩
    · exact absurd (hI.sU _ hs) hk
    · simp only [G', upd, if_neg ei]
      exact hI.stab i hs hi
  · obtain ⟨ds, h1, h2⟩ := hI.df
    refine ⟨W.heap.size :: ds, by simp only [h1, marksOf, List.map_cons], List.nodup_cons.2 ⟨fun h => ?_, h2.nodup⟩, fun D hDm => ?_⟩
    · have := (Array.getElem?_eq_some_iff.1 (h2.at' _ h).1).1
      omega
    · rcases List.mem_cons.1 hDm with rfl | hDm
      · exact ⟨hD, hI.keep.size, fun hx => by have := (hI.im _ hx).1; omega⟩
      · obtain ⟨q1, q2, q3⟩ := h2.at' D hDm
        exact ⟨(hold D (Array.getElem?_eq_some_iff.1 q1).1).trans q1, q2, q3⟩

/-- the loop's record is done with -/
theorem Inv.leave {U : Nat → Prop} {G : Gh} {st : St} {a : Act} {W : World} (hI : Inv E U G st a W) {k : Nat} {fr : Nat → V} {nt : Nat} {ps : List Nat} {pa pb : PC} {jmp : LSt} (hk : st.H k = some [.lr fr nt ps pa pb jmp]) (hj : jmp ≠ .busy) :
    ∃ j W', (Instr.endLoop (G.β k)).run P W = .ok j W' ∧ (match jmp with | .ready => j = none | .busy => False | .done c => j = some c) ∧ Inv E U G ⟨st.fr, upd st.H k none, st.nx⟩ a W' ∧ (∀ b, G.Im b → W'.heap[b]? = W.heap[b]?) := by
  obtain ⟨hph, hlo, hnim, rec, hrec, hl⟩ : G.ph k = false ∧ G.lo k = true ∧ ¬ G.Im (G.β k) ∧ ∃ rec, W.heap[G.β k]? = some (.loop rec) ∧ LRel G W fr nt ps pa pb jmp rec := by
    rcases hI.hp k _ hk with ⟨_, h⟩ | ⟨_, _, _, c, T, _, _, _, h, h2⟩ | ⟨h0, h1, h2, fr', nt', ps', pa', pb', jmp', rec, h3, h4, h5⟩
    · cases h
    · simp [V.isCell] at h2
    · cases h3; exact ⟨h0, h1, h2, rec, h4, h5⟩
  obtain ⟨_, _, _, _, _, hst⟩ := hl
  have hlive : (st.H k).isSome = true := by rw [hk]; rfl
  have hnb : rec.state ≠ .busy := by
    cases jmp with
    | ready => rw [hst.1]; nofun
    | busy => exact absurd rfl hj
    | done c => rw [hst.1]; nofun
  refine ⟨rec.pending, _, run_endLoop hrec hnb, ?_, ?_, fun b hb => World.putObj_heap_other (fun e => hnim (by rw [← e]; exact hb))⟩
  · cases jmp with
    | ready => exact hst.2
    | busy => exact absurd rfl hj
    | done c => exact hst.2
  · obtain ⟨ds, h1, h2⟩ := hI.df
    refine (hI.drop k).side (l := G.β k) (fun j hj => World.putObj_heap_other hj) (by simp) rfl rfl rfl hnim (fun i hi hp e => ?_) (hI.own k hlive hph) rfl ⟨ds, h1, h2.same (fun D hD hd => World.putObj_heap_other (fun e => by rw [e, hrec] at hd; cases hd)) (fun _ _ _ h => h)⟩
    have hi' : i ≠ k ∧ (st.H i).isSome = true := by
      simp only [InH, upd_at] at hi
      split at hi
      · cases hi
      · rename_i hne; exact ⟨hne, hi⟩
    exact hi'.1 (hI.inj i k hi'.2 hlive hp hph e)

theorem AW.range {fo : Operand} {ps : Array Tmp} {assign body : Code} {pa pb : PC} (ha : comp E.nt assign = some pa) (hb : comp E.nt body = some pb) {Q : AExit → St → Prop} {st : St} (h : PRange P E fo ps.toList pa pb Q st) : AW P E (.rangeFunc fo ps assign body) Q st := by
  obtain ⟨hrd, g, caps, args, Hin, ks, res, H1, hg, ⟨hfn, hcb⟩, hks, hend⟩ := h
  intro G a W hI
  refine wpIn_rangeFunc fun fn _ => ?_
  obtain ⟨G1, hI1, hβ⟩ := hI.enter (U' := (· < st.nx + 1048576)) (k := st.nx) (fn := fn) (ps := ps) (by omega) (fun i hi => by omega) (by omega) ha hb
  generalize hW1 : ((W.alloc (.deferred (some []))).alloc (.loop { state := .ready, pending := none, fn, tmps := a.tmps, params := ps, assign, body, defers := W.heap.size })) = W1 at hI1
  have key : ∃ cv : Array Value, a.eval fo = .func (.func g) #[] cv ∧ All2 (RV G1 W1) caps cv.toList := by
    have hx := (hI1.op fo).1
    unfold calleeOf at hg
    have hev : (({ a with defers := { target := .collected W.heap.size, args := #[] } :: a.defers } : Act).eval fo) = a.eval fo := by cases fo <;> rfl
    rw [hev] at hx
    split at hg
    · rename_i g' caps' hv
      cases hg
      simp only at hx
      rw [hv] at hx
      have hx' : RD G1.Im W1 (.fn g caps') (a.eval fo) := hx
      generalize a.eval fo = u at hx'
      cases hx' with
      | fn _ _ cv hl hrr =>
        refine ⟨cv, rfl, All2.map_left.2 (All2.of_get (by simpa using hl.symm) fun i x y hx hy => ?_)⟩
        exact hrr i x y hx (by rwa [Array.getElem?_toList] at hy)
    · rename_i g' caps' hv
      cases hg
      simp only at hx
      rw [hv] at hx
      obtain ⟨cv, hxa, hcr⟩ := hx
      exact ⟨cv, hxa, hcr.mono fun _ _ _ h => R2.rv (R1.r2 (R0.r1 h))⟩
    · cases hg
  obtain ⟨cv, hfe, hcr⟩ := key
  obtain ⟨f', hfn', hbody, hname⟩ := hfn.1
  have h1 : f'.name ≠ "runtime.NumGoroutine" := by simpa using hname
  have h2 : f'.body.isNone = false := by cases h : f'.body <;> simp_all
  have hrel : All2 (RV G1 W1) (.yl st.nx :: caps) ((#[.func (.yield (W.heap.size + 1)) #[] #[]] ++ cv : Array Value)).toList := by
    have : RV G1 W1 (.yl st.nx) (.func (.yield (W.heap.size + 1)) #[] #[]) := by
      show _ = _
      rw [hβ]
    simpa using (show All2 (RV G1 W1) (.yl st.nx :: caps) (Value.func (.yield (W.heap.size + 1)) #[] #[] :: cv.toList) from ⟨this, hcr⟩)
  obtain ⟨Im, hIm, hall, hpre, hph, hcs⟩ := callB_pre hI1 hrel hcb
  obtain ⟨hin, hlt, hkk, _⟩ := hcb
  refine ⟨W.heap.size + 1, [{ target := .collected W.heap.size, args := #[] }], W1, { target := .fn (.func g) cv, args := #[.func (.yield (W.heap.size + 1)) #[] #[]] }, W1, g, #[.func (.yield (W.heap.size + 1)) #[] #[]] ++ cv, W1, ?_, ?_, fun _ _ => trivial, ?_, by simp [Fence.wide], ?_⟩
  · show (Instr.enterLoop fn a.tmps ps assign body E.rd).run P W = _
    rw [hrd, ← hW1]
    exact run_enterLoop_outer _ _ _ _ _
  · have e1 : (#[] ++ Array.map a.eval #[Operand.const (Value.func (Fn.yield (W.heap.size + 1)) #[] #[])] : Array Value) = #[.func (.yield (W.heap.size + 1)) #[] #[]] := by
      simp only [Array.empty_append, List.map_toArray, List.map_cons, List.map_nil]
      rfl
    simp only [resolve, hfe, Deferred.ofValue, Sem.run_pure, e1]
  · simp only [invoke, callFunc, Sem.run_bind, run_program, Result.andThen_ok, hfn']
    simp [h1, h2]
  · show CallsIn Fence.wide 0 P g _ W1 _
    rw [callsIn_wide]
    refine (hfn.2 { G1 with Im := Im } W1 _ hIm hall hpre).mono fun e W' ⟨G', hpost⟩ => ?_
    obtain ⟨G2, hI2, hrv, hav, hchg2⟩ := hI1.call (U' := (· < st.nx + 2097152)) (base := st.nx + 1048576) (fun j hj => by omega) (fun i hi => by omega) (fun j hj => by omega) hin hlt (fun i hi => (hpre.st i hi).1) hph hpost hcs
    have hkeep : st.nx ∈ ks → ∀ jmp, H1 st.nx = some [.lr st.fr E.nt ps.toList pa pb jmp] → heapM (upd st.H st.nx (some [.lr st.fr E.nt ps.toList pa pb .ready])) (st.nx + 1048576) Hin ks H1 st.nx = some [.lr (fun t => ren (sg ks (st.nx + 1048576)) (st.fr t)) E.nt ps.toList pa pb jmp] := fun hk jmp hj => by
      simp only [heapM, if_pos hk, hj]; rfl
    have hβ2 : G2.β st.nx = W.heap.size + 1 := (hchg2.ag st.nx (by omega)).1.trans hβ
    cases res with
    | ret r =>
      obtain ⟨jmp, hj, hq⟩ := hend
      cases e with
      | returned v =>
        have hnb : jmp ≠ .busy := by intro e; subst e; exact hq.elim
        obtain ⟨j, W4, he, hjm, hI4, _⟩ := hI2.leave (P := P) (hkeep hks jmp hj) hnb
        rw [hβ2] at he
        refine ⟨j, W4, he, ?_⟩
        have hI5 := (hI4.nx (st.nx + 2097152))
        cases jmp with
        | ready =>
          cases hjm
          exact ⟨.normal, _, G2, hI5, trivial, trivial, hq⟩
        | busy => exact hq.elim
        | done c =>
          simp only at hjm
          subst hjm
          cases c <;> first | exact hq.elim | exact wpIn_ret ⟨.ret, _, G2, hI5, trivial, trivial, hq⟩ | exact wpIn_exit ⟨.exit _, _, G2, hI5, rfl, trivial, hq⟩
      | _ => exact hrv.elim
    | pan r =>
      cases e with
      | panicked ch => exact ⟨.pan (ren (sg ks (st.nx + 1048576)) r), ⟨st.fr, _, st.nx + 2097152⟩, G2, ((hI2.drop st.nx).nx (st.nx + 2097152)), hrv, hav, hend⟩
      | _ => exact hrv.elim

theorem AW.clQ {c : Code} {Q : AExit → St → Prop} {st : St} (h : AW P E c (clQ P E Q) st) : AW P E c Q st := fun G a W hI => wpIn_mono (h G a W hI) fun e a' W' ⟨x, st', G', hI', hx, ho, hq⟩ => by
  rcases hq with hq | ⟨st1, hw, hq, hn⟩
  · exact ⟨x, st', G', hI', hx, ho, hq⟩
  · obtain ⟨G2, hI2⟩ := hw G' a' W' hI'
    have hx2 : exRel G2 W' x e := by
      cases x <;> first | exact absurd rfl (hn _) | (cases e <;> exact hx)
    have ho2 : exOk (· < st1.nx) x := by
      cases x <;> first | exact absurd rfl (hn _) | exact trivial
    exact ⟨x, st1, G2, hI2, hx2, ho2, hq⟩
theorem PW.sound (hΓ : GOk P Γ) (hE : EqOk P eqs) (hm : P.follows .mixedOrders = true) : ∀ (c : Code) (p : PC), comp E.nt c = some p → ∀ (Q : AExit → St → Prop) (st : St), PW P Γ eqs E p Q st → AW P E c Q st
  | .skip, p, hc, Q, st, h => by cases hc; exact AW.skip h
  | .ret, p, hc, Q, st, h => by cases hc; exact AW.ret h
  | .exit id, p, hc, Q, st, h => by cases hc; exact AW.exit h
  | .seq a b, p, hc, Q, st, h => by
    simp only [comp, Option.bind_eq_some_iff, Option.map_eq_some_iff] at hc
    obtain ⟨x, hx, y, hy, rfl⟩ := hc
    refine AW.seq (AW.mono (PW.sound hΓ hE hm a x hx _ _ h) fun e st hq => ?_)
    cases e with
    | normal => exact PW.sound hΓ hE hm b y hy Q st hq
    | _ => exact hq
  | .cond c a b, p, hc, Q, st, h => by
    simp only [comp, Option.bind_eq_some_iff, Option.map_eq_some_iff] at hc
    obtain ⟨x, hx, y, hy, rfl⟩ := hc
    simp only [PW, condP] at h
    split at h
    · rename_i t ht
      exact AW.cond ht (fun e => PW.sound hΓ hE hm a x hx Q st (h.1 e)) (fun e => PW.sound hΓ hE hm b y hy Q st (h.2 e))
    · exact h.elim
  | .block id a, p, hc, Q, st, h => by
    simp only [comp, Option.map_eq_some_iff] at hc
    obtain ⟨x, hx, rfl⟩ := hc
    exact AW.block (PW.sound hΓ hE hm a x hx _ st h)
  | .loop a, p, hc, Q, st, h => by
    simp only [comp, Option.map_eq_some_iff] at hc
    obtain ⟨x, hx, rfl⟩ := hc
    obtain ⟨α, S, inv, μ, x0, h0, hw, hr⟩ := h
    exact AW.clQ (AW.loop S inv μ x0 h0 hw fun y hy => PW.sound hΓ hE hm a x hx _ _ (hr y hy))
  | .rangeFunc fo ps a b, p, hc, Q, st, h => by
    simp only [comp, Option.bind_eq_some_iff, Option.map_eq_some_iff] at hc
    obtain ⟨x, hx, y, hy, rfl⟩ := hc
    exact AW.range hx hy h
  | .region id ops draw, p, hc, Q, st, h => by
    cases draw with
    | false =>
      simp only [comp, Bool.false_eq_true, if_false, Option.ite_none_right_eq_some, Option.some.injEq] at hc
      obtain ⟨hd, rfl⟩ := hc
      have e : ops = ops.toList.toArray := by simp
      rw [e]
      refine AW.region hΓ hE hd (runR_sound ops.toList 0 st.nx st.fr st.H ?_)
      exact h
    | true =>
      simp only [comp, if_true, Option.ite_none_right_eq_some, Option.some.injEq] at hc
      obtain ⟨hd, rfl⟩ := hc
      generalize hm' : mOf (clOf ops.toList) ops.toList.length = m at *
      generalize hcl : clOf ops.toList = cl at *
      have hle := (drawOk_spec hd).le
      have e : ops = (ops.toList.take m ++ ops.toList.drop m).toArray := by rw [List.take_append_drop]
      have hlen : (ops.toList.take m).length = m := by rw [List.length_take]; omega
      rw [e]
      have main : ∃ ws, wsOk ws cl st.nx = true ∧ runD P Γ eqs ws cl st.nx 0 st.nx ((ops.toList.take m).map (poOf ops.toList)) st.fr st.H fun f H n => runR P Γ eqs (fun v f H n => Q (.pan v) ⟨f, H, n⟩) n ((ops.toList.drop m).map (poOf ops.toList)) f H fun f H n => Q .normal ⟨f, H, n⟩ := by
        unfold mkDraw at h
        split at h
        · exact h
        · exact ⟨[], rfl, h⟩
      obtain ⟨ws, hws, h⟩ := main
      refine AW.draw (ws := ws) (cl := cl) hΓ hE hm (by rw [List.take_append_drop, hlen]; exact hd) hws ?_
      rw [List.take_append_drop]
      refine runD_sound _ 0 st.nx st.fr st.H (runD_mono h fun f H n h hn => ?_)
      subst hn
      rw [hlen] at h ⊢
      exact runR_sound _ m st.nx f H (by rwa [Nat.zero_add] at h)
  | .scope _, p, hc, _, _, _ => by cases hc
  | .label _, p, hc, _, _, _ => by cases hc
  | .goto _, p, hc, _, _, _ => by cases hc
  | .refuse _, p, hc, _, _, _ => by cases hc

theorem Weak.mk {st : St} (hs : ∀ i, ¬ E.stab i) (ρ : Nat → Option Nat) (l : List (Nat × V)) (h : List (Nat × List V)) (n : Nat) (h1 : SlotsOk ρ st.fr l) (h2 : HpOk ρ st.H h) (h3 : RhoInj ρ h) (h4 : SlotsIds n l) (h5 : HpIds n h) : Weak P E st ⟨slots l, lk h, n⟩ :=
  Weak.of ρ l h n h1 h2 h3 h4 h5 fun i hi => absurd hi (hs i)
def StabW (ρ : Nat → Option Nat) (H h : Hp) (n : Nat) : List Nat → Prop
  | [] => True
  | i :: r => i < n ∧ ((h i).isSome = true → ρ i = some i ∧ (H i).isSome = true) ∧ StabW ρ H h n r
theorem StabW.at {ρ : Nat → Option Nat} {H h : Hp} {n : Nat} : ∀ {ks : List Nat}, StabW ρ H h n ks → ∀ i ∈ ks, i < n ∧ (InH h i → ρ i = some i ∧ InH H i)
  | [], _, _, hi => by cases hi
  | k :: r, hs, i, hi => by
    rcases List.mem_cons.1 hi with rfl | hi
    · exact ⟨hs.1, hs.2.1⟩
    · exact hs.2.2.at i hi
theorem Weak.mkM {st : St} {ks : List Nat} (hs : ∀ i, E.stab i ↔ i ∈ ks) (ρ : Nat → Option Nat) (l : List (Nat × V)) (h : List (Nat × List V)) (n : Nat) (h1 : SlotsOk ρ st.fr l) (h2 : HpOk ρ st.H h) (h3 : RhoInj ρ h) (h4 : SlotsIds n l) (h5 : HpIds n h) (h6 : StabW ρ st.H (lk h) n ks) : Weak P E st ⟨slots l, lk h, n⟩ :=
  Weak.of ρ l h n h1 h2 h3 h4 h5 fun i hi => h6.at i ((hs i).1 hi)
/-- THE RULE: a function's contract from its body, computed -/
theorem Cm.of (hΓ : GOk P Γ) (hE : EqOk P eqs) (hm : P.follows .mixedOrders = true) {f : FuncId} {fn : Func} {c : Code} {p : PC} {args : List V} {Hin : Hp} {ks : List Nat} {res : Res} {H1 : List (Nat × List V)} (N : Nat) (hf : P.funcs[f]? = some fn) (hb : fn.body = some c) (hc : comp fn.ntmps c = some p) (hname : (fn.name == "runtime.NumGoroutine") = false)
    (hn : args.length ≤ fn.ntmps) (hcl : ∀ v ∈ args, A2 (· < N) anyD v) (hids : IdsFn N Hin) (hks : ∀ i ∈ ks, i < N) (hri : ResIds res.v H1) (h : ∀ E : Ent, (∀ i, E.stab i ↔ i ∈ ks) → E.rd = none → PW P Γ eqs E p (retM Γ fn ks res H1) ⟨argF 0 args, Hin, N⟩) : Cm P f args Hin ks res (lk H1) :=
  Cm.intro hΓ N hf hb hname hn hcl hids hks hri fun E hE' hs hrd => PW.sound hΓ hE hm c p (by rw [hE']; exact hc) _ _ (h E hs hrd)
end Go.Psl
/- One round of a loop over a function, from its body. -/
namespace Go.Psl
variable {P : Program} {Γ : Tys} {eqs : Eqs} {E : Ent}

def stOk (s : LSt) (rc : Loop) : Prop := match s with | .ready => rc.state = .ready ∧ rc.pending = none | .busy => rc.state = .busy | .done c => rc.state = .done ∧ rc.pending = some c
theorem Inv.loopAt {U : Nat → Prop} {G : Gh} {st : St} {a : Act} {W : World} (hI : Inv E U G st a W) {k : Nat} {fr : Nat → V} {nt : Nat} {ps : List Nat} {pa pb : PC} {s : LSt} (hk : st.H k = some [.lr fr nt ps pa pb s]) :
    G.ph k = false ∧ G.lo k = true ∧ ¬ G.Im (G.β k) ∧ ∃ rc, W.heap[G.β k]? = some (.loop rc) ∧ LRel G W fr nt ps pa pb s rc := by
  rcases hI.hp k _ hk with ⟨_, h⟩ | ⟨_, _, _, c, T, _, _, _, h, h2⟩ | ⟨h0, h1, h2, fr', nt', ps', pa', pb', jmp', rec, h3, h4, h5⟩
  · cases h
  · simp [V.isCell] at h2
  · cases h3; exact ⟨h0, h1, h2, rec, h4, h5⟩
theorem Inv.setLoop {U : Nat → Prop} {G : Gh} {st : St} {a : Act} {W : World} (hI : Inv E U G st a W) {k : Nat} {fr : Nat → V} {nt : Nat} {ps : List Nat} {pa pb : PC} {s s' : LSt} (hk : st.H k = some [.lr fr nt ps pa pb s]) {rc rc' : Loop}
    (hrec : W.heap[G.β k]? = some (.loop rc)) (hs : rc'.params = rc.params ∧ rc'.assign = rc.assign ∧ rc'.body = rc.body ∧ rc'.tmps = rc.tmps) (hst : stOk s' rc') :
    Inv E U G ⟨st.fr, upd st.H k (some [.lr fr nt ps pa pb s']), st.nx⟩ a (W.putObj (G.β k) (.loop rc')) := by
  obtain ⟨hph, hlo, hnim, rc0, hrec0, q1, q2, q3, q4, q5, _⟩ := hI.loopAt hk
  rw [hrec] at hrec0; cases hrec0
  have hlive : (st.H k).isSome = true := by rw [hk]; rfl
  have hlt := (Array.getElem?_eq_some_iff.1 hrec).1
  have hsame : ∀ j, j ≠ G.β k → (W.putObj (G.β k) (.loop rc')).heap[j]? = W.heap[j]? := fun j hj => World.putObj_heap_other hj
  have hchg : Chg U G W G (W.putObj (G.β k) (.loop rc')) := ⟨fun i _ => ⟨rfl, rfl, rfl, rfl⟩, fun j hj => ⟨hj, hsame j (fun e => hnim (by rw [← e]; exact hj))⟩⟩
  have hsome : ∀ i, (upd st.H k (some [.lr fr nt ps pa pb s']) i).isSome = true → (st.H i).isSome = true := fun i hi => by
    by_cases e : i = k
    · subst e; exact hlive
    · simpa only [upd_at, if_neg e] using hi
  have hw := hI.wh k _ hk (.lr fr nt ps pa pb s) (by simp)
  refine { fr := fun t => hchg.rv (hI.wf t) (hI.fr t), wf := hI.wf, hp := ?_, wh := ?_, dom := fun i hi => hI.dom i (hsome i hi), inj := fun i j hi hj => hI.inj i j (hsome i hi) (hsome j hj), own := fun i hi => hI.own i (hsome i hi), im := fun b hb => ⟨by rw [World.putObj_size]; exact (hI.im b hb).1, (hI.im b hb).2⟩, im0 := hI.im0, keep := ?_, stab := fun i hs hi => hI.stab i hs (hsome i hi), sU := hI.sU, nt := hI.nt, df := ?_ }
  · intro id cs' h
    simp only [upd_at] at h
    split at h
    · rename_i e; subst e; cases h
      refine .inr (.inr ⟨hph, hlo, hnim, fr, nt, ps, pa, pb, s', rc', rfl, World.putObj_heap_same hlt, by rw [hs.1]; exact q1, by rw [hs.2.1]; exact q2, by rw [hs.2.2.1]; exact q3, by rw [hs.2.2.2]; exact q4, fun t => by rw [hs.2.2.2]; exact hchg.rv (hw t) (q5 t), hst⟩)
    · rename_i e
      have hlv : (st.H id).isSome = true := by rw [h]; rfl
      exact hchg.hb (hI.dom id hlv) (hI.wh id cs' h) (hI.hp id cs' h) (fun hp => hsame _ (fun e' => e (hI.inj id k hlv hlive hp hph e'))) (fun hx _ => hx)
  · intro id cs' h x hx
    simp only [upd_at] at h
    split at h
    · cases h
      simp only [List.mem_singleton] at hx
      subst hx
      exact hw
    · exact hI.wh id cs' h x hx
  · refine ⟨hI.keep.os, hI.keep.tape, hI.keep.output, hI.keep.drawn, by rw [World.putObj_size]; exact hI.keep.size, fun j hj hm => (hsame j fun e => ?_).trans (hI.keep.block j hj hm)⟩
    rcases hI.own k hlive hph with h | h
    · omega
    · exact hm (e ▸ h)
  · obtain ⟨ds, h1, h2⟩ := hI.df
    exact ⟨ds, h1, h2.same (fun D hD hd => hsame D (fun e => by rw [e, hrec] at hd; cases hd)) (fun _ _ _ h => h)⟩

/-- the parameters of a round are laid -/
def frPuts (f : Nat → V) : List Nat → List V → Nat → V
  | p :: ps, v :: vs => frPuts (upd f p v) ps vs
  | _, _ => f
theorem frPuts_rel {G : Gh} {W : World} : ∀ {ps : List Nat} {vs : List V} {xs : List Value} {f : Nat → V} {tmps : Array Value}, All2 (RV G W) vs xs → ps.length = vs.length → (∀ p ∈ ps, p < tmps.size) → (∀ t, RV G W (f t) (tmps.getD t undef)) →
    (∀ t, RV G W (frPuts f ps vs t) (((ps.zip xs).foldl (fun (tmps : Array Value) (p : Nat × Value) => tmps.setIfInBounds p.1 p.2) tmps).getD t undef)) ∧ ((ps.zip xs).foldl (fun (tmps : Array Value) (p : Nat × Value) => tmps.setIfInBounds p.1 p.2) tmps).size = tmps.size
  | [], [], [], f, tmps, _, _, _, hf => ⟨hf, rfl⟩
  | p :: ps, v :: vs, x :: xs, f, tmps, hr, hl, hp, hf => by
    have := frPuts_rel (ps := ps) (vs := vs) (xs := xs) (f := upd f p v) (tmps := tmps.setIfInBounds p x) hr.2 (by simpa using hl) (fun q hq => by simp; exact hp q (by simp [hq])) (fun t => by
      have hpt := hp p (by simp)
      rw [Array.getD_eq_getD_getElem?]
      simp only [upd_at, Array.getElem?_setIfInBounds]
      by_cases h : t = p
      · subst h; simp [hpt]; exact hr.1
      · rw [if_neg h, if_neg (Ne.symm h), ← Array.getD_eq_getD_getElem?]; exact hf t)
    refine ⟨fun t => this.1 t, ?_⟩
    rw [List.zip_cons_cons, List.foldl_cons, this.2]
    simp
  | [], _ :: _, _, _, _, _, hl, _, _ => by simp at hl
  | _ :: _, [], _, _, _, _, hl, _, _ => by simp at hl
  | _ :: _, _ :: _, [], _, _, hr, _, _, _ => hr.elim
  | [], [], _ :: _, _, _, hr, _, _, _ => hr.elim
theorem frPuts_ok {p : Nat → Prop} : ∀ {ps : List Nat} {vs : List V} {f : Nat → V}, (∀ v ∈ vs, AV p anyD v) → (∀ t, AV p anyD (f t)) → ∀ t, AV p anyD (frPuts f ps vs t)
  | [], _, _, _, hf, t => hf t
  | _ :: _, [], _, _, hf, t => hf t
  | q :: ps, v :: vs, f, hv, hf, t => frPuts_ok (ps := ps) (vs := vs) (fun w hw => hv w (by simp [hw])) (fun t => by
      simp only [upd_at]; split
      · exact hv v (by simp)
      · exact hf t) t

/-- what a round leaves -/
def RndM (k : Nat) (rc : LSt → V) (s : LSt) (ks : List Nat) (H1 : List (Nat × List V)) (st : St) : Prop :=
  st.H k = some [rc .busy] ∧ ∃ ρ, HpOk ρ (upd st.H k (some [rc s])) H1 ∧ RhoInj ρ H1 ∧ StabL ρ (upd st.H k (some [rc s])) (lk H1) ks
def rndQ (k : Nat) (rc : LSt → V) (s : LSt) (ks : List Nat) (H1 : List (Nat × List V)) : AExit → St → Prop
  | .normal, st => (match s with | .ready => True | _ => False) ∧ RndM k rc s ks H1 st
  | .ret, st => (match s with | .done .ret => True | _ => False) ∧ RndM k rc s ks H1 st
  | .exit i, st => (match s with | .done (.exit j) => i = j | _ => False) ∧ RndM k rc s ks H1 st
  | _, _ => False
def goesOn : LSt → Bool
  | .ready => true
  | _ => false

theorem Ym.of (hΓ : GOk P Γ) (hE : EqOk P eqs) (hm : P.follows .mixedOrders = true) {k : Nat} {fr : Nat → V} {nt : Nat} {ps : List Nat} {pa pb : PC} {args : List V} {Hin : Hp} {ks : List Nat} {s : LSt} {H1 : List (Nat × List V)} (N : Nat)
    (hk : Hin k = some [.lr fr nt ps pa pb .ready]) (hkk : k ∈ ks) (hlen : ps.length = args.length) (hps : ∀ p ∈ ps, p < nt) (hcl : ∀ v ∈ args, A2 (· < N) anyD v) (hids : IdsFn N Hin) (hks : ∀ i ∈ ks, i < N) (hri : ∀ p ∈ H1, ∀ c ∈ p.2, AC (InB H1) anyD c)
    (h : ∀ E : Ent, E.nt = nt → (∀ i, E.stab i ↔ i ∈ ks) → PW P Γ eqs E pa (seqQ (fun st => st.H k = some [.lr fr nt ps pa pb .ready] ∧ PW P Γ eqs E pb (rndQ k (.lr fr nt ps pa pb) s ks H1) ⟨st.fr, upd st.H k (some [.lr fr nt ps pa pb .busy]), st.nx⟩) (fun _ _ => False)) ⟨frPuts fr ps args, Hin, N⟩) :
    Ym P k args Hin ks (.ret (.d (.lit (.bool (goesOn s))))) (lk H1) := by
  intro G W xs rc hGW hargs hpre hrec hsz
  obtain ⟨q1, q2, q3, q4, q5, q6⟩ : LRel G W fr nt ps pa pb .ready rc := by
    rcases hpre.hb k _ hk with ⟨_, h⟩ | ⟨_, _, _, c, T, _, _, _, h, h2⟩ | ⟨h0, h1, h2, fr', nt', ps', pa', pb', jmp', rec, h3, h4, h5⟩
    · cases h
    · simp [V.isCell] at h2
    · cases h3; rw [hrec] at h4; cases h4; exact h5
  have hargsV : All2 (RV G W) args xs.toList := hargs.mono fun _ _ _ h => h.rv
  have hfold : (rc.params.zip xs).foldl (fun tmps (t, a) => tmps.setIfInBounds t a) rc.tmps = (ps.zip xs.toList).foldl (fun (tmps : Array Value) (p : Nat × Value) => tmps.setIfInBounds p.1 p.2) rc.tmps := by
    rw [← Array.foldl_toList, Array.toList_zip, q1]
  obtain ⟨r1, r2⟩ := frPuts_rel (ps := ps) (f := fr) (tmps := rc.tmps) hargsV hlen (fun p hp => Nat.lt_of_lt_of_le (hps p hp) q4) q5
  have hwf : ∀ t, AV (· < N) anyD (frPuts fr ps args t) := frPuts_ok (fun v hv => by
    obtain ⟨i, hi⟩ := List.mem_iff_getElem?.1 hv
    obtain ⟨x, _, hx⟩ := hargs.get hi
    exact hx.av (hcl v hv)) (fun t => (hids k _ hk).2 (.lr fr nt ps pa pb .ready) (by simp) t)
  rw [hfold]
  have hI := Inv.start (nt := nt) (rd := some (G.β k)) hGW hpre hids hks (f := frPuts fr ps args) (tmps := (ps.zip xs.toList).foldl (fun (tmps : Array Value) (p : Nat × Value) => tmps.setIfInBounds p.1 p.2) rc.tmps) r1 hwf (by rw [r2]; exact q4)
  refine roundIn_of_wpIn trivial ?_
  have hpw := h { W0 := W, Im0 := G.Im, mu := lentB G Hin, β0 := G.β, bs0 := G.bs, lo0 := G.lo, stab := (· ∈ ks), nt := nt, rd := some (G.β k) } rfl (fun _ => Iff.rfl)
  refine wpIn_mono (PW.sound (E := { W0 := W, Im0 := G.Im, mu := lentB G Hin, β0 := G.β, bs0 := G.bs, lo0 := G.lo, stab := (· ∈ ks), nt := nt, rd := some (G.β k) }) hΓ hE hm rc.assign pa q2 _ _ hpw G _ W hI) fun e a' W' ⟨x, st', G', hI', hx, ho, hq⟩ => ?_
  cases e with
  | normal =>
    cases x with
    | normal =>
      obtain ⟨hk', hb⟩ := hq
      obtain ⟨hph, _, _, rc1, hrec1, hl1⟩ := hI'.loopAt hk'
      have hβ : G'.β k = G.β k := (hI'.stab k hkk (by rw [hk']; rfl)).1
      have hrec1' : W'.heap[G.β k]? = some (.loop rc1) := by rw [← hβ]; exact hrec1
      have hI2 := hI'.setLoop hk' (rc' := { rc1 with state := .busy }) (s' := .busy) hrec1 ⟨rfl, rfl, rfl, rfl⟩ rfl
      rw [hβ] at hI2
      refine ⟨_, run_beginRound hrec1' hl1.2.2.2.2.2.1, ?_⟩
      refine wpIn_mono (PW.sound (E := { W0 := W, Im0 := G.Im, mu := lentB G Hin, β0 := G.β, bs0 := G.bs, lo0 := G.lo, stab := (· ∈ ks), nt := nt, rd := some (G.β k) }) hΓ hE hm rc.body pb q3 _ _ hb G' a' _ hI2) fun e a2 W2 ⟨x, st2, G2, hI3, hx, ho, hq⟩ => ?_
      have fin : ∀ (j : Option Code), RndM k (.lr fr nt ps pa pb) s ks H1 st2 → j.isNone = goesOn s → (∀ rc2 : Loop, stOk s { rc2 with state := if j.isNone then .ready else .done, pending := j }) →
          ∃ v w', (Instr.endRound (G.β k) j).run P W2 = .ok v w' ∧ ∃ G', Post G W Hin ks (.ret (.d (.lit (.bool (goesOn s))))) (lk H1) (.returned v) w' G' := fun j ⟨hk2, ρ, h4, h5, h6⟩ hj hs => by
        obtain ⟨_, _, _, rc2, hrec2, _⟩ := hI3.loopAt hk2
        have hβ2 : G2.β k = G.β k := (hI3.stab k hkk (by rw [hk2]; rfl)).1
        have hI4 := hI3.setLoop hk2 (rc' := { rc2 with state := if j.isNone then .ready else .done, pending := j }) (s' := s) hrec2 ⟨rfl, rfl, rfl, rfl⟩ (hs rc2)
        rw [hβ2] at hI4 hrec2
        have hri' : ResIds (Res.v (.ret (.d (.lit (.bool (goesOn s)))))) H1 := ⟨trivial, hri⟩
        refine ⟨_, _, by rw [run_endRound j hrec2, hj], _, post_of (res := .ret (.d (.lit (.bool (goesOn s))))) ⟨rfl, rfl, fun _ => Iff.rfl, fun _ h => h, rfl, rfl, rfl⟩ hri' hI4 h4 h5 h6 (e := .returned (.bool (goesOn s))) ?_⟩
        exact RD.lit _ rfl
      cases e with
      | normal =>
        cases x with
        | normal =>
          obtain ⟨hs, hr⟩ := hq
          cases s with
          | ready => exact fin none hr rfl (fun _ => ⟨rfl, rfl⟩)
          | _ => exact hs.elim
        | _ => exact hx.elim
      | ret =>
        cases x with
        | ret =>
          obtain ⟨hs, hr⟩ := hq
          split at hs
          · exact fin (some .ret) hr rfl (fun _ => ⟨rfl, rfl⟩)
          · exact hs.elim
        | _ => exact hx.elim
      | exit i =>
        cases x with
        | exit i' =>
          have hx : i' = i := hx
          subst hx
          obtain ⟨hs, hr⟩ := hq
          split at hs
          · subst hs; exact fin (some (.exit i')) hr rfl (fun _ => ⟨rfl, rfl⟩)
          · exact hs.elim
        | _ => exact hx.elim
      | goto l => cases x <;> first | exact hq.elim | exact False.elim hx
      | panic ch => cases x <;> first | exact hq.elim | exact False.elim hx
      | outgrown => cases x <;> exact False.elim hx
    | _ => exact hx.elim
  | _ => cases x <;> first | exact False.elim hx | exact hq.elim
end Go.Psl
