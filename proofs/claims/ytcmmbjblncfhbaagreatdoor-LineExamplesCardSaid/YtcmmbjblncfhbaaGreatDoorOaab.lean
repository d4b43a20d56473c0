/- Own lemmas, used by the last text. Conditions: those that each theorem states. -/
import Derived.Laws.StructEq
import Derived.Test.YtcmmbjblncfhbaaGreatDoorOaaa
set_option maxRecDepth 200000
set_option maxHeartbeats 8000000
namespace Go.Psl
variable {P : Program} {Γ : Tys} {eqs : Eqs} {E : Ent} {U U' : Nat -> Prop} {G : Gh} {st : St} {a : Act} {W : World}
theorem index_out (hΓ : GOk P Γ) (hI : Inv E U G st a W) {o : Oper} {t : TypeId} {x i : Operand} (ho : o.op = .indexAddr t x i) {v : V} {e : Eff} (he : indexF Γ t (evF st.fr x) (evF st.fr i) = some (v, e)) :
   Out P E U st a W o v e := by
 obtain ⟨hx, hxw⟩ := hI.op x
 obtain ⟨hi, _⟩ := hI.op i
 unfold indexF at he
 cases hty : Γ t with
 | none => simp [hty] at he
 | some ty =>
   simp only [hty, Option.bind_some] at he
   split at he
   . rename_i k n hin
     rw [hin] at hi
     have hie := rv_int hi
     split at he
     . rename_i el hsh
       have hd := und_slice (hΓ t ty hty) hsh
       cases hel : Γ el with
       | none => simp [hel] at he
       | some ye =>
         simp only [hel, Option.bind_some] at he
         have hrun : ∀ (ad : Addr) (len cap : Nat), 0 <= n -> n < len -> (Instr.indexAt t (.slice (some ad) len cap) (.int k n)).run P W = .ok (.pointer (some (ad.add (n.toNat * ye.size)))) W := fun ad len cap h0 h1 => by
           simp [Instr.indexAt, run_underlying hd, asIntOf, h0, h1, (hΓ el ye hel).sizeOf]
         split at he
         . rename_i sz es hxs
           split at he
           . rename_i hc
             obtain ⟨h0, hsz⟩ := hc
             cases hes : es[n.toNat]? with
             | none => simp [hes] at he
             | some c =>
               simp only [hes, Option.map_some] at he
               cases he
               rw [hxs] at hx
               have hx' : RD G.Im W (.sl sz es) (a.eval x) := hx
               generalize hu : a.eval x = u at hx' hx
               cases hx' with
               | sl _ _ ao cap vs hsz' hlen hcap hm hr =>
                 obtain ⟨ad, rfl, hb, hc⟩ := hm _ _ hes
                 have hlt : n.toNat < es.length := (List.getElem?_eq_some_iff.1 hes).1
                 refine Out.pure hI (x := .pointer (some (ad.add (n.toNat * ye.size)))) ?_ (RD.ref c _ (vs n.toNat) (by rw [block_add]; exact hb) (fun j y hy => by rw [add_add, hsz]; exact hc j y hy) (hr _ _ hes)) trivial
                 simp only [execOp, ho, hie, Sem.run_bind]
                 rw [hu, hrun ad es.length cap h0 (by omega)]
                 rfl
           . cases he
         . rename_i id off len sz hxs
           split at he
           . rename_i hc
             obtain ⟨h0, h1, hsz⟩ := hc
             cases he
             rw [hxs] at hx hxw
             obtain ⟨_, hx | ⟨hph, o', cap, hxa, hcap, hoff⟩⟩ := hx
             . omega
             . obtain ⟨rfl, _⟩ := hoff (by omega)
               refine Out.pure hI (x := .pointer (some ⟨G.β id, o' + n.toNat * sz, none⟩)) ?_ ⟨hph, rfl⟩ hxw
               simp only [execOp, ho, hie, hxa, Sem.run_bind, hrun _ _ _ h0 h1, Result.andThen_ok, Sem.run_pure, add_plain, hsz]
           . cases he
         . cases he
     . rename_i m el hsh
       have hd := und_array (hΓ t ty hty) hsh
       cases hel : Γ el with
       | none => simp [hel] at he
       | some ye =>
         simp only [hel, Option.bind_some] at he
         have hrun : ∀ ad, 0 <= n -> n < m -> (Instr.indexAt t (.pointer (some ad)) (.int k n)).run P W = .ok (.pointer (some (ad.add (n.toNat * ye.size)))) W := fun ad h0 h1 => by
           simp [Instr.indexAt, run_underlying hd, asIntOf, h0, h1, (hΓ el ye hel).sizeOf, Instr.sureAddr]
         split at he
         . rename_i id off hxs
           split at he
           . rename_i hc
             obtain ⟨h0, h1⟩ := hc
             cases he
             rw [hxs] at hx hxw
             obtain ⟨hph, hxa⟩ : (G.ph id = false /\ G.lo id = false) /\ a.eval x = .pointer (some ⟨G.β id, off, none⟩) := hx
             refine Out.pure hI (x := .pointer (some ⟨G.β id, off + n.toNat * ye.size, none⟩)) ?_ ⟨hph, rfl⟩ hxw
             simp only [execOp, ho, hie, hxa, Sem.run_bind, hrun _ h0 h1, Result.andThen_ok, Sem.run_pure, add_plain]
           . cases he
         . rename_i ds hxs
           split at he
           . rename_i hc
             obtain ⟨h0, h1⟩ := hc
             cases he
             rw [hxs] at hx
             obtain ⟨ad, hxa, hr⟩ := ref_drop hx (n.toNat * ye.size)
             refine Out.pure hI (x := .pointer (some (ad.add (n.toNat * ye.size)))) ?_ hr trivial
             simp only [execOp, ho, hie, hxa, Sem.run_bind, hrun _ h0 h1, Result.andThen_ok, Sem.run_pure]
           . cases he
         . cases he
     . cases he
   . cases he
theorem lit_flat {v x : Value} (h : RV G W (.d (.lit v)) x) : flatV v = true := by
 have h' : RD G.Im W (.lit v) x := h
 generalize x = y at h'
 cases h'; assumption
theorem run_sliceBound' {x : Value} {k : IntKind} {i : Int} (hx : x = .int k i) (w : World) (y : Nat) (code : BoundsCode) (h0 : 0 <= i) (h1 : i <= y) : (Instr.sliceBound x y code).run P w = .ok i.toNat w := by
 subst hx
 simp [Instr.sliceBound, asIntOf, h0, h1]
theorem hiOf_run {hi : Option V} {hi' : Option Value} {n cap h : Nat} (hl : hiOf n hi = some h) (hcap : n <= cap) (hhi : hi = none /\ hi' = none \/ ∃ x y, hi = some x /\ hi' = some y /\ RV G W x y) :
   (hi' = none /\ h = n \/ ∃ y, hi' = some y /\ ∀ c, (Instr.sliceBound y cap c).run P W = .ok h W) /\ h <= n := by
 rcases hhi with ⟨rfl, rfl⟩ | ⟨x, y, rfl, rfl, hr⟩
 . cases hl; exact ⟨.inl ⟨rfl, rfl⟩, Nat.le_refl _⟩
 . unfold hiOf at hl
   split at hl
   . rename_i hxx; cases hxx
   . rename_i k m hxx
     cases hxx
     split at hl
     . rename_i hc
       cases hl
       exact ⟨.inr ⟨y, rfl, fun c => run_sliceBound' (rv_int hr) W cap _ hc.1 (by omega)⟩, by omega⟩
     . cases hl
   . cases hl
theorem loOf_run {lo : Option V} {lo' : Option Value} {h l : Nat} (hl : loOf h lo = some l) (hlo : lo = none /\ lo' = none \/ ∃ x y, lo = some x /\ lo' = some y /\ RV G W x y) :
   (lo' = none /\ l = 0 \/ ∃ y, lo' = some y /\ ∀ c, (Instr.sliceBound y h c).run P W = .ok l W) /\ l <= h := by
 rcases hlo with ⟨rfl, rfl⟩ | ⟨x, y, rfl, rfl, hr⟩
 . cases hl; exact ⟨.inl ⟨rfl, rfl⟩, Nat.zero_le _⟩
 . unfold loOf at hl
   split at hl
   . rename_i hxx; cases hxx
   . rename_i k m hxx
     cases hxx
     split at hl
     . rename_i hc
       cases hl
       exact ⟨.inr ⟨y, rfl, fun c => run_sliceBound' (rv_int hr) W h _ hc.1 hc.2⟩, by omega⟩
     . cases hl
   . cases hl
theorem loHi_run {lo hi : Option V} {lo' hi' : Option Value} {n cap : Nat} {l h : Nat} (hl : loHi n lo hi = some (l, h)) (hcap : n <= cap) (hlo : lo = none /\ lo' = none \/ ∃ x y, lo = some x /\ lo' = some y /\ RV G W x y) (hhi : hi = none /\ hi' = none \/ ∃ x y, hi = some x /\ hi' = some y /\ RV G W x y) (isS : Bool) :
   (Instr.sliceBounds isS n cap lo' hi' none).run P W = .ok (l, h, cap) W /\ l <= h /\ h <= n := by
 unfold loHi at hl
 cases h1 : hiOf n hi with
 | none => simp [h1] at hl
 | some h' =>
   simp only [h1, Option.bind_some] at hl
   cases h2 : loOf h' lo with
   | none => simp [h2] at hl
   | some l' =>
     simp only [h2, Option.bind_some] at hl
     cases hl
     obtain ⟨r1, b1⟩ := hiOf_run (P := P) h1 hcap hhi
     obtain ⟨r2, b2⟩ := loOf_run (P := P) h2 hlo
     refine ⟨?_, b2, b1⟩
     rcases r1 with ⟨rfl, rfl⟩ | ⟨y, rfl, r1⟩ <;> rcases r2 with ⟨rfl, rfl⟩ | ⟨z, rfl, r2⟩ <;> simp only [Instr.sliceBounds, Sem.run_bind, Sem.run_pure, Result.andThen_ok, *]
theorem opt_rel (hI : Inv E U G st a W) (x : Option Operand) : x.map (evF st.fr) = none /\ x.map a.eval = none \/ ∃ u y, x.map (evF st.fr) = some u /\ x.map a.eval = some y /\ RV G W u y := by
 cases x with
 | none => exact .inl ⟨rfl, rfl⟩
 | some x => exact .inr ⟨_, _, rfl, rfl, (hI.op x).1⟩
theorem slice_out (hΓ : GOk P Γ) (hI : Inv E U G st a W) {o : Oper} {t : TypeId} {x : Operand} {lo hi : Option Operand} (ho : o.op = .slice t x lo hi none) {v : V} {e : Eff}
   (he : sliceF Γ st.H t (evF st.fr x) (lo.map (evF st.fr)) (hi.map (evF st.fr)) = some (v, e)) : Out P E U st a W o v e := by
 obtain ⟨hx, hxw⟩ := hI.op x
 have hlo := opt_rel hI lo
 have hhi := opt_rel hI hi
 unfold sliceF at he
 cases hty : Γ t with
 | none => simp [hty] at he
 | some ty =>
   simp only [hty, Option.bind_some] at he
   split at he
   . rename_i el hsh
     have hd := und_slice (hΓ t ty hty) hsh
     cases hel : Γ el with
     | none => simp [hel] at he
     | some ye =>
       simp only [hel, Option.bind_some] at he
       have hrun : ∀ (ao : Option Addr) (len cap l h : Nat), loHi len (lo.map (evF st.fr)) (hi.map (evF st.fr)) = some (l, h) -> len <= cap ->
           (Instr.sliceAt t (.slice ao len cap) (lo.map a.eval) (hi.map a.eval) none).run P W = .ok (.slice (if cap = l then ao else ao.map (·.add (l * ye.size))) (h - l) (cap - l)) W /\ l <= h /\ h <= len := fun ao len cap l h hl hc => by
         obtain ⟨r, b1, b2⟩ := loHi_run (P := P) hl hc hlo hhi true
         refine ⟨?_, b1, b2⟩
         simp only [Instr.sliceAt, Sem.run_bind, run_underlying hd, Result.andThen_ok, Instr.slice, r, (hΓ el ye hel).sizeOf, Sem.run_pure]
       split at he
       . rename_i sz es hxs
         split at he
         . rename_i hsz
           cases hl : loHi es.length (lo.map (evF st.fr)) (hi.map (evF st.fr)) with
           | none => simp [hl] at he
           | some p =>
             simp only [hl, Option.map_some] at he
             cases he
             rw [hxs] at hx
             have hx' : RD G.Im W (.sl sz es) (a.eval x) := hx
             generalize hu : a.eval x = u at hx' hx
             cases hx' with
             | sl _ _ ao cap vs hsz' hlen hcap hm hr =>
               obtain ⟨r, b1, b2⟩ := hrun ao es.length cap p.1 p.2 hl hcap
               have hlen' : ((es.take p.2).drop p.1).length = p.2 - p.1 := by simp; omega
               have hget : ∀ (i : Nat) e, ((es.take p.2).drop p.1)[i]? = some e -> es[p.1 + i]? = some e := fun i e h => by
                 rw [List.getElem?_drop, List.getElem?_take] at h
                 split at h
                 . exact h
                 . cases h
               refine Out.pure hI (x := .slice (if cap = p.1 then ao else ao.map (·.add (p.1 * ye.size))) (p.2 - p.1) (cap - p.1)) ?_ ?_ trivial
               . simp only [execOp, ho, Option.map_none, hu, Sem.run_bind, r, Result.andThen_ok, Sem.run_pure]
               . rw [<- hlen']
                 refine RD.sl sz _ _ _ (fun i j => vs (p.1 + i) j) (fun e he => hsz' e (List.mem_of_mem_take (List.mem_of_mem_drop he))) (by rw [hlen']; omega) (by rw [hlen']; omega) (fun i e he => ?_) (fun i e he => hr _ _ (hget i e he))
                 obtain ⟨ad, rfl, hb, hc⟩ := hm _ _ (hget i e he)
                 have hlt : p.1 + i < es.length := (List.getElem?_eq_some_iff.1 (hget i e he)).1
                 refine ⟨ad.add (p.1 * ye.size), by rw [if_neg (by omega)]; rfl, by rw [block_add]; exact hb, fun j y hy => ?_⟩
                 rw [add_add, hsz, show p.1 * sz + (i * sz + j) = (p.1 + i) * sz + j by rw [Nat.add_mul]; omega]
                 exact hc j y hy
         . cases he
       . rename_i id off len sz hxs
         split at he
         . rename_i hsz
           cases hl : loHi len (lo.map (evF st.fr)) (hi.map (evF st.fr)) with
           | none => simp [hl] at he
           | some p =>
             simp only [hl, Option.map_some] at he
             cases he
             rw [hxs] at hx hxw
             obtain ⟨hml, ⟨hph, h0, hxa⟩ | ⟨hph, o', cap, hxa, hcap, hoff⟩⟩ := hx
             . subst h0
               obtain ⟨r, b1, b2⟩ := hrun none 0 0 p.1 p.2 hl (Nat.le_refl _)
               refine Out.pure hI (x := .slice none 0 0) ?_ ⟨by omega, .inl ⟨hph, by omega, rfl⟩⟩ hxw
               simp only [execOp, ho, Option.map_none, hxa, Sem.run_bind, r, Result.andThen_ok, Sem.run_pure]
               have e1 : p.1 = 0 := by omega
               have e2 : p.2 = 0 := by omega
               simp [e1, e2]
             . obtain ⟨r, b1, b2⟩ := hrun (some ⟨G.β id, o', none⟩) len cap p.1 p.2 hl hcap
               refine Out.pure hI (x := .slice (if cap = p.1 then some ⟨G.β id, o', none⟩ else (some ⟨G.β id, o', none⟩ : Option Addr).map (·.add (p.1 * ye.size))) (p.2 - p.1) (cap - p.1)) ?_ ?_ hxw
               . simp only [execOp, ho, Option.map_none, hxa, Sem.run_bind, r, Result.andThen_ok, Sem.run_pure]
               . refine ⟨by omega, .inr ⟨hph, ?_⟩⟩
                 by_cases hc : cap = p.1
                 . refine ⟨o', cap - p.1, by rw [if_pos hc], by omega, fun h => by omega⟩
                 . obtain ⟨rfl, hb⟩ := hoff (by omega)
                   refine ⟨o' + p.1 * ye.size, cap - p.1, by rw [if_neg hc]; simp [add_plain], by omega, fun _ => ⟨by rw [hsz], ?_⟩⟩
                   have : p.1 * sz + (cap - p.1) * sz = cap * sz := by rw [<- Nat.add_mul]; congr 1; omega
                   omega
         . cases he
       . rename_i u n c hxs
         cases hl : loHi 0 (lo.map (evF st.fr)) (hi.map (evF st.fr)) with
         | none => simp [hl] at he
         | some p =>
           simp only [hl, Option.map_some] at he
           cases he
           rw [hxs] at hx
           have hfl : flatV (.slice u n c) = true := lit_flat hx
           have hxa := rv_lit hx
           simp only [flatV, Bool.and_eq_true, beq_iff_eq, Option.isNone_iff_eq_none] at hfl
           obtain ⟨⟨rfl, rfl⟩, rfl⟩ := hfl
           obtain ⟨r, b1, b2⟩ := hrun none 0 0 p.1 p.2 hl (Nat.le_refl _)
           refine Out.pure hI (x := .slice none 0 0) ?_ (lit_rv rfl) trivial
           simp only [execOp, ho, Option.map_none, hxa, Sem.run_bind, r, Result.andThen_ok, Sem.run_pure]
           have e1 : p.1 = 0 := by omega
           have e2 : p.2 = 0 := by omega
           simp [e1, e2]
       . cases he
   . rename_i m el hsh
     have hd := und_array (hΓ t ty hty) hsh
     cases hel : Γ el with
     | none => simp [hel] at he
     | some ye =>
       simp only [hel, Option.bind_some] at he
       split at he
       . rename_i id off hxs
         cases hh : st.H id with
         | none => simp [hh] at he
         | some cs =>
           simp only [hh, Option.bind_some] at he
           split at he
           . rename_i hfit
             cases hl : loHi m (lo.map (evF st.fr)) (hi.map (evF st.fr)) with
             | none => simp [hl] at he
             | some p =>
               simp only [hl, Option.map_some] at he
               cases he
               rw [hxs] at hx hxw
               obtain ⟨hph, hxa⟩ : (G.ph id = false /\ G.lo id = false) /\ a.eval x = .pointer (some ⟨G.β id, off, none⟩) := hx
               obtain ⟨_, c, T, _, hbs, hcl, _⟩ := (hI.hp id cs hh).read hph
               obtain ⟨r, b1, b2⟩ := loHi_run (P := P) (cap := m) hl (Nat.le_refl _) hlo hhi false
               refine Out.pure hI (x := .slice (some (if m = p.1 then (⟨G.β id, off, none⟩ : Addr) else (⟨G.β id, off, none⟩ : Addr).add (p.1 * ye.size))) (p.2 - p.1) (m - p.1)) ?_ ?_ hxw
               . simp only [execOp, ho, Option.map_none, hxa, Instr.sliceAt, Instr.sureAddr, Sem.run_bind, run_underlying hd, Result.andThen_ok, r, Sem.run_pure, (hΓ el ye hel).sizeOf]
               . refine ⟨by omega, .inr ⟨hph, ?_⟩⟩
                 by_cases hc : m = p.1
                 . refine ⟨off, m - p.1, by rw [if_pos hc], by omega, fun h => by omega⟩
                 . refine ⟨off + p.1 * ye.size, m - p.1, by rw [if_neg hc, add_plain], by omega, fun _ => ⟨rfl, ?_⟩⟩
                   have : p.1 * ye.size + (m - p.1) * ye.size = m * ye.size := by rw [<- Nat.add_mul]; congr 1; omega
                   omega
           . cases he
       . cases he
   . rename_i hsh
     have hd := und_str (hΓ t ty hty) hsh
     split at he
     . rename_i s hxs
       cases hl : loHi s.size (lo.map (evF st.fr)) (hi.map (evF st.fr)) with
       | none => simp [hl] at he
       | some p =>
         simp only [hl, Option.map_some] at he
         cases he
         rw [hxs] at hx
         have hxa := rv_lit hx
         obtain ⟨r, b1, b2⟩ := loHi_run (P := P) hl (Nat.le_refl _) hlo hhi false
         refine Out.pure hI (x := .string (s.extract p.1 p.2)) ?_ (lit_rv rfl) trivial
         simp only [execOp, ho, Option.map_none, hxa, Instr.sliceAt, Instr.slice, Option.isSome_none, Bool.false_eq_true, if_false, Sem.run_bind, run_underlying hd, Result.andThen_ok, r, Sem.run_pure]
     . cases he
   . cases he
end Go.Psl
namespace Go.Psl
variable {P : Program} {Γ : Tys} {eqs : Eqs} {E : Ent} {U U' : Nat -> Prop} {G : Gh} {st : St} {a : Act} {W : World}
def eqVal : CK -> Value -> Value -> Option Bool
 | .int, .int k a, .int k' b => if k = k' then some (a == b) else none
 | .bool, .bool a, .bool b => some (a == b)
 | .str, .string a, .string b => some (a == b)
 | _, _, _ => none
def eqVals : List CK -> List Value -> List Value -> Option Bool
 | [], [], [] => some true
 | k :: ks, a :: az, b :: bs => (eqVal k a b).bind fun r => (eqVals ks az bs).map fun s => r && s
 | _, _, _ => none
theorem eqCell_val {k : CK} {x y : V} {u w : Value} {r : Bool} (hx : R1 G W x u) (hy : R1 G W y w) (h : eqCell k x y = some r) : eqVal k u w = some r := by
 unfold eqCell at h
 split at h <;> first | (cases h; done) | skip
 . have h1 := rv_int (G := G) (W := W) hx; have h2 := rv_int (G := G) (W := W) hy; subst h1; subst h2; exact h
 . have h1 := rv_bool (G := G) (W := W) hx; have h2 := rv_bool (G := G) (W := W) hy; subst h1; subst h2; exact h
 . have h1 := rv_lit (G := G) (W := W) hx; have h2 := rv_lit (G := G) (W := W) hy; subst h1; subst h2; exact h
theorem eqCells_vals : ∀ {ks : List CK} {xs ys : List V} {us ws : List Value} {r : Bool}, All2 (R1 G W) xs us -> All2 (R1 G W) ys ws -> eqCells ks xs ys = some r -> eqVals ks us ws = some r
 | [], [], [], [], [], r, _, _, h => h
 | k :: ks, x :: xs, y :: ys, u :: us, w :: ws, r, hx, hy, h => by
   simp only [eqCells] at h
   cases h1 : eqCell k x y with
   | none => simp [h1] at h
   | some r1 =>
     simp only [h1, Option.bind_some] at h
     cases h2 : eqCells ks xs ys with
     | none => simp [h2] at h
     | some r2 =>
       simp only [h2, Option.map_some] at h
       cases h
       simp only [eqVals, eqCell_val hx.1 hy.1 h1, eqCells_vals hx.2 hy.2 h2, Option.bind_some, Option.map_some]
 | [], _ :: _, _, _, _, _, _, _, h => by simp [eqCells] at h
 | [], [], _ :: _, _, _, _, _, _, h => by simp [eqCells] at h
 | _ :: _, [], _, _, _, _, _, _, h => by simp [eqCells] at h
 | _ :: _, _ :: _, [], _, _, _, _, _, h => by simp [eqCells] at h
 | [], [], [], _ :: _, _, _, h, _, _ => h.elim
 | [], [], [], [], _ :: _, _, _, h, _ => h.elim
 | _ :: _, _ :: _, _ :: _, [], _, _, h, _, _ => h.elim
 | _ :: _, _ :: _, _ :: _, _ :: _, [], _, _, h, _ => h.elim
def szOf (P : Program) (t : TypeId) : Nat := ((P.info? t).map (·.size)).getD 0
def fkinds (f : TypeId -> Option (List CK)) : List Field -> Option (List CK)
 | [] => some []
 | x :: fs => (f x.type).bind fun a => (fkinds f fs).map fun b => a ++ b
def lay (f : TypeId -> Option (List CK)) : Nat -> List Field -> Bool
 | _, [] => true
 | o, x :: fs => x.offset == o && x.name != "_" && lay f (o + ((f x.type).map (·.length)).getD 0) fs
def tyKinds (P : Program) : Nat -> TypeId -> Option (List CK)
 | 0, _ => none
 | n + 1, t => match P.underlying t with
   | some .bool => some [.bool]
   | some (.int _) => some [.int]
   | some .string => some [.str]
   | some (.struct fs) => if !P.stoodInHeld t && lay (tyKinds P n) 0 fs.toList then (fkinds (tyKinds P n) fs.toList).bind fun ks => if szOf P t = ks.length && (P.info? t).isSome then some ks else none else none
   | _ => none
theorem eqVals_app {k1 k2 : List CK} {az bs cs ds : List Value} {r : Bool} (hl : az.length = k1.length) (hl' : bs.length = k1.length) (h : eqVals (k1 ++ k2) (az ++ cs) (bs ++ ds) = some r) : ∃ r1 r2, eqVals k1 az bs = some r1 /\ eqVals k2 cs ds = some r2 /\ r = (r1 && r2) := by
 induction k1 generalizing az bs r with
 | nil =>
   have e1 : az = [] := List.eq_nil_of_length_eq_zero (by simpa using hl)
   have e2 : bs = [] := List.eq_nil_of_length_eq_zero (by simpa using hl')
   subst e1; subst e2
   exact ⟨true, r, rfl, h, by simp⟩
 | cons k k1 ih =>
   match az, bs, hl, hl' with
   | a :: az, b :: bs, hl, hl' =>
     simp only [List.cons_append, eqVals] at h ⊢
     cases h1 : eqVal k a b with
     | none => simp [h1] at h
     | some r1 =>
       simp only [h1, Option.bind_some] at h ⊢
       cases h2 : eqVals (k1 ++ k2) (az ++ cs) (bs ++ ds) with
       | none => simp [h2] at h
       | some r2 =>
         simp only [h2, Option.map_some] at h
         cases h
         obtain ⟨r3, r4, e1, e2, e3⟩ := ih (by simpa using hl) (by simpa using hl') h2
         exact ⟨r1 && r3, r4, by simp [e1], e2, by rw [e3, Bool.and_assoc]⟩
   | [], _, hl, _ => simp at hl
   | _ :: _, [], _, hl' => simp at hl'
theorem eqVals_len : ∀ {ks : List CK} {az bs : List Value} {r : Bool}, eqVals ks az bs = some r -> az.length = ks.length /\ bs.length = ks.length
 | [], [], [], _, _ => ⟨rfl, rfl⟩
 | k :: ks, a :: az, b :: bs, r, h => by
   simp only [eqVals] at h
   cases h1 : eqVal k a b with
   | none => simp [h1] at h
   | some r1 =>
     simp only [h1, Option.bind_some] at h
     cases h2 : eqVals ks az bs with
     | none => simp [h2] at h
     | some r2 => have := eqVals_len h2; simp [this.1, this.2]
 | [], _ :: _, _, _, h => by simp [eqVals] at h
 | [], [], _ :: _, _, h => by simp [eqVals] at h
 | _ :: _, [], _, _, h => by simp [eqVals] at h
 | _ :: _, _ :: _, [], _, h => by simp [eqVals] at h
def asTy (P : Program) (t : TypeId) (cs : List Value) (v : Value) : Prop :=
 match P.underlying t with
 | some (.struct _) => v = .agg cs.toArray
 | _ => cs = [v]
theorem run_part_ty {n : Nat} {t : TypeId} {ks : List CK} (h : tyKinds P n t = some ks) (w : World) (cv : Array Value) (off : Nat) (hl : off + ks.length <= cv.size) :
   ∃ v, (part t cv off).run P w = .ok v w /\ asTy P t ((cv.toList.drop off).take ks.length) v := by
 cases n with
 | zero => simp [tyKinds] at h
 | succ n =>
   unfold tyKinds at h
   unfold asTy
   have one : ∀ d, P.underlying t = some d -> ks.length = 1 -> (match d with | .struct _ | .array _ _ => true | _ => false) = false -> ∃ v, (part t cv off).run P w = .ok v w /\ (cv.toList.drop off).take ks.length = [v] := fun d hd hk hna => by
     have hlt : off < cv.size := by omega
     refine ⟨cv[off], ?_, ?_⟩
     . unfold part isAgg
       simp only [Sem.run_bind, run_underlying hd, Result.andThen_ok]
       cases d <;> first | (simp only [Bool.true_eq_false] at hna; done) | (simp [hlt]; done)
     . rw [hk, List.drop_eq_getElem_cons (by simpa using hlt)]; simp
   cases hd : P.underlying t with
   | none => simp [hd] at h
   | some d =>
     rw [hd] at h
     cases d <;> simp only [reduceCtorEq] at h
     case bool => cases h; exact one _ hd rfl rfl
     case int => cases h; exact one _ hd rfl rfl
     case string => cases h; exact one _ hd rfl rfl
     case struct fs =>
       split at h
       . cases hk : fkinds (tyKinds P n) fs.toList with
         | none => simp [hk] at h
         | some ks' =>
           simp only [hk, Option.bind_some] at h
           split at h
           . rename_i hc
             cases h
             simp only [Bool.and_eq_true, decide_eq_true_eq] at hc
             obtain ⟨i, hi⟩ := Option.isSome_iff_exists.1 hc.2
             have hsz : (sizeOf t).run P w = .ok ks.length w := by
               have := hc.1
               simp only [szOf, hi, Option.map_some, Option.getD_some] at this
               simp [sizeOf, typeInfo, hi, this]
             refine ⟨.agg (cv.extract off (off + ks.length)), ?_, ?_⟩
             . unfold part isAgg
               simp [run_underlying hd, hsz]
             . simp only
               congr 1
               apply Array.ext'
               simp [List.take_drop]
           . cases h
       . cases h
theorem run_eqFields {n : Nat} (ih : ∀ (t : TypeId) (ks : List CK), tyKinds P n t = some ks -> ∀ (d : Nat), n <= d -> ∀ (cu cv : List Value) (u v : Value) (w : World) (r : Bool), asTy P t cu u -> asTy P t cv v -> eqVals ks cu cv = some r -> (Op.equalIn d t u v).run P w = .ok r w) (d : Nat) (hd : n <= d) (xs ys : Array Value) :
   ∀ (fs : List Field) (off : Nat) (ks : List CK) (w : World) (r : Bool), lay (tyKinds P n) off fs = true -> fkinds (tyKinds P n) fs = some ks -> off + ks.length <= xs.size -> off + ks.length <= ys.size -> eqVals ks ((xs.toList.drop off).take ks.length) ((ys.toList.drop off).take ks.length) = some r ->
     (Op.eqFields d xs ys fs).run P w = .ok r w
 | [], off, ks, w, r, _, hk, _, _, he => by
   simp only [fkinds] at hk
   cases hk
   simp [eqVals] at he
   simp [Op.eqFields, he]
 | f :: fs, off, ks, w, r, hl, hk, hx, hy, he => by
   simp only [lay, Bool.and_eq_true, beq_iff_eq, bne_iff_ne, ne_eq] at hl
   obtain ⟨⟨h1, h2⟩, h3⟩ := hl
   simp only [fkinds] at hk
   cases hk1 : tyKinds P n f.type with
   | none => simp [hk1] at hk
   | some k1 =>
     simp only [hk1, Option.bind_some] at hk
     cases hk2 : fkinds (tyKinds P n) fs with
     | none => simp [hk2] at hk
     | some k2 =>
       simp only [hk2, Option.map_some] at hk
       cases hk
       simp only [List.length_append] at hx hy he
       have e : ∀ zs : List Value, (zs.drop off).take (k1.length + k2.length) = (zs.drop off).take k1.length ++ (zs.drop (off + k1.length)).take k2.length := fun zs => by
         rw [List.take_add, List.drop_drop]
       rw [e, e] at he
       obtain ⟨r1, r2, e1, e2, e3⟩ := eqVals_app (by simp; omega) (by simp; omega) he
       obtain ⟨u, hu, hau⟩ := run_part_ty hk1 w xs f.offset (by omega)
       obtain ⟨v, hv, hav⟩ := run_part_ty hk1 w ys f.offset (by omega)
       rw [h1] at hau hav
       have heq := ih f.type k1 hk1 d hd _ _ u v w r1 hau hav e1
       simp only [hk1, Option.map_some, Option.getD_some] at h3
       have hrest := run_eqFields ih d hd xs ys fs (off + k1.length) k2 w r2 h3 hk2 (by omega) (by omega) e2
       simp only [Op.eqFields, h2, ne_eq, not_false_eq_true, if_true, Sem.run_bind, hu, hv, heq, Result.andThen_ok, Sem.run_ite]
       cases r1
       . simp [e3]
       . simp [hrest, e3]
theorem run_equalIn_ty : ∀ (n : Nat) (t : TypeId) (ks : List CK), tyKinds P n t = some ks -> ∀ (d : Nat), n <= d -> ∀ (cu cv : List Value) (u v : Value) (w : World) (r : Bool), asTy P t cu u -> asTy P t cv v -> eqVals ks cu cv = some r ->
   (Op.equalIn d t u v).run P w = .ok r w
 | 0, _, _, h, _, _, _, _, _, _, _, _, _, _, _ => by simp [tyKinds] at h
 | n + 1, t, ks, h, d, hnd, cu, cv, u, v, w, r, hu, hv, he => by
   obtain ⟨d, rfl⟩ : ∃ d', d = d' + 1 := ⟨d - 1, by omega⟩
   unfold tyKinds at h
   unfold asTy at hu hv
   have prim : ∀ k, ks = [k] -> cu = [u] -> cv = [v] -> eqVal k u v = some r := fun k h1 h2 h3 => by
     subst h1; subst h2; subst h3
     simp only [eqVals] at he
     cases h3 : eqVal k u v with
     | none => simp [h3] at he
     | some r1 => simp only [h3, Option.bind_some, Option.map_some, Bool.and_true] at he; exact he
   cases hd : P.underlying t with
   | none => simp [hd] at h
   | some ds =>
     rw [hd] at h hu hv
     cases ds <;> simp only [reduceCtorEq] at h
     case bool =>
       cases h
       have := prim _ rfl hu hv
       cases u <;> cases v <;> simp only [eqVal, reduceCtorEq] at this
       cases this; exact run_equalIn_bool' w d t _ _ hd
     case int k =>
       cases h
       have := prim _ rfl hu hv
       cases u <;> cases v <;> simp only [eqVal, reduceCtorEq] at this
       split at this
       . rename_i hk; subst hk; cases this; exact run_equalIn_int w d t _ _ _ _ hd
       . cases this
     case string =>
       cases h
       have := prim _ rfl hu hv
       cases u <;> cases v <;> simp only [eqVal, reduceCtorEq] at this
       cases this; rw [beq_toListBytes]; exact run_equalIn_string w d t _ _ hd
     case struct fs =>
       simp only at hu hv
       subst hu; subst hv
       split at h
       . rename_i hst
         simp only [Bool.and_eq_true, Bool.not_eq_true'] at hst
         cases hk : fkinds (tyKinds P n) fs.toList with
         | none => simp [hk] at h
         | some ks' =>
           simp only [hk, Option.bind_some] at h
           split at h
           . cases h
             have hlen := eqVals_len he
             have hf : P.underlying t = some (.struct (P.fieldsOf t)) := by simp [Program.fieldsOf, hd]
             have hff : P.fieldsOf t = fs := by simp [Program.fieldsOf, hd]
             rw [run_equalIn_struct w d t _ _ hf hst.1, hff]
             refine run_eqFields (run_equalIn_ty n) d (by omega) _ _ fs.toList 0 ks w r hst.2 hk (by simp; omega) (by simp; omega) ?_
             simp only [List.drop_zero]
             rw [List.take_of_length_le (by omega), List.take_of_length_le (by omega)]
             exact he
           . cases h
       . cases h
end Go.Psl
namespace Go.Psl
variable {P : Program} {Γ : Tys} {eqs : Eqs} {E : Ent} {U U' : Nat -> Prop} {G : Gh} {st : St} {a : Act} {W : World}
def EqOk (P : Program) (eqs : Eqs) : Prop := ∀ t ks, eqs t = some ks -> tyKinds P 8 t = some ks /\ P.eqGuardType P.depth t = false /\ ∃ fs, P.underlying t = some (.struct fs)
theorem und_bool {t : TypeId} {y : Ty} (h : TyOk P t y) (hs : y.sh = .bool) : P.underlying t = some .bool := by
 obtain ⟨d, hd, h⟩ := h.und
 simp only [ShOk, hs] at h
 split at h <;> first | (simp_all; done) | skip
theorem run_binI {op : BinOp} {t : TypeId} {k k' : IntKind} {x y : Int} {v : Value} (h : binI op k k' x y = some v) (w : World) : (binOp op t (.int k x) (.int k' y)).run P w = .ok v w /\ flatV v = true := by
 unfold binI at h
 split at h
 . split at h
   . rename_i hc; cases h
     rw [binOp_shl, shift_shl k k' x y hc.1 hc.2]; exact ⟨rfl, rfl⟩
   . cases h
 . split at h
   . rename_i hc; cases h
     rw [binOp_shr, shift_shr k k' x y hc.1 hc.2]; exact ⟨rfl, rfl⟩
   . cases h
 . split at h
   . rename_i hk; subst hk
     split at h <;> try (cases h; done)
     . cases h; exact ⟨by simp [binOp, Op.intArith], rfl⟩
     . cases h; exact ⟨by simp [binOp, Op.intArith], rfl⟩
     . cases h; exact ⟨by simp [binOp, Op.intArith], rfl⟩
     . split at h
       . cases h
       . rename_i hz; cases h; exact ⟨by simp [binOp, Op.intDiv, hz], rfl⟩
     . split at h
       . cases h
       . rename_i hz; cases h; exact ⟨by simp [binOp, Op.intDiv, hz], rfl⟩
     . cases h; exact ⟨by rw [binOp_and, intBits_and]; rfl, rfl⟩
     . cases h; exact ⟨by rw [binOp_or, intBits_or]; rfl, rfl⟩
     . cases h; exact ⟨by rw [binOp_xor, intBits_xor]; rfl, rfl⟩
     . cases h; exact ⟨by rw [binOp_andNot, intBits_andNot]; rfl, rfl⟩
     . cases h; exact ⟨by rw [binOp_eql]; rfl, rfl⟩
     . cases h; exact ⟨by rw [binOp_neq]; rfl, rfl⟩
     . cases h; exact ⟨by rw [binOp_lss]; rfl, rfl⟩
     . cases h; exact ⟨by rw [binOp_leq]; rfl, rfl⟩
     . cases h; exact ⟨by rw [binOp_gtr]; rfl, rfl⟩
     . cases h; exact ⟨by rw [binOp_geq]; rfl, rfl⟩
   . cases h
theorem guard_plain (op : BinOp) (t : TypeId) (x y : Operand) (u w : Value) (W : World) (hu : u.oneCell' = true) (hn : u ≠ .nilIface) : (eqGuard op t x y u w).run P W = .ok () W := by
 unfold eqGuard
 cases u <;> first | (simp [Value.oneCell'] at hu; done) | (exact absurd rfl hn) | (cases op <;> cases w <;> rfl)
theorem und_ifc {t : TypeId} {e : Bool} {y : Ty} (h : TyOk P t y) (hs : y.sh = .ifc e) : ∃ ms, P.underlying t = some (.interface ms) /\ e = ms.isEmpty := by
 obtain ⟨d, hd, h⟩ := h.und
 simp only [ShOk, hs] at h
 split at h <;> first | (simp_all; done) | skip
theorem rv_ifc {G : Gh} {W : World} {t : TypeId} {ag : Bool} {cs : List D} {x : Value} (h : RV G W (.d (.ifc t ag cs)) x) : ∃ v, x = .iface t v /\ ((ag = true /\ ∃ cv : Array Value, v = .agg cv /\ All2 (RV G W) (cs.map .d) cv.toList) \/ (ag = false /\ ∃ c, cs = [c] /\ RV G W (.d c) v)) := by
 have h : RD G.Im W (.ifc t ag cs) x := h
 cases h with
 | ifc _ _ cv hl hr =>
   refine ⟨_, rfl, .inl ⟨rfl, cv, rfl, All2.of_get (by simpa using hl.symm) fun i y z hy hz => ?_⟩⟩
   rw [List.getElem?_map] at hy
   cases hc : cs[i]? with
   | none => rw [hc] at hy; cases hy
   | some c =>
     rw [hc] at hy; cases hy
     exact hr i c z hc (by rw [<- Array.getElem?_toList]; exact hz)
 | ifc1 _ c v hr => exact ⟨v, rfl, .inr ⟨rfl, c, rfl, hr⟩⟩
theorem binF_out (hΓ : GOk P Γ) (hE : EqOk P eqs) (hI : Inv E U G st a W) {o : Oper} {op : BinOp} {t t' : TypeId} {x y : Operand} (ho : o.op = .binOp op t x y t') {v : V} {e : Eff} (he : binF Γ eqs op t (nilOp y) (evF st.fr x) (evF st.fr y) = some (v, e)) :
   Out P E U st a W o v e := by
 obtain ⟨hx, _⟩ := hI.op x
 obtain ⟨hy, _⟩ := hI.op y
 unfold binF at he
 split at he
 . rename_i k i k' j h1 h2
   rw [h1] at hx; rw [h2] at hy
   have hx := rv_int hx; have hy := rv_int hy
   cases hb : binI op k k' i j with
   | none => simp [hb] at he
   | some r =>
     simp only [hb, Option.map_some] at he
     cases he
     obtain ⟨hr, hf⟩ := run_binI (P := P) (t := t) hb W
     refine Out.pure hI (x := r) ?_ (lit_rv hf) trivial
     have hg := guard_plain (P := P) op t x y (.int k i) (.int k' j) W rfl (by simp)
     simp only [execOp, ho, hx, hy, Sem.run_bind, hg, Result.andThen_ok, hr, Sem.run_pure]
 . rename_i i j h1 h2
   rw [h1] at hx; rw [h2] at hy
   have hx := rv_bool hx; have hy := rv_bool hy
   cases hty : Γ t with
   | none => simp [hty] at he
   | some ty =>
     simp only [hty, Option.bind_some] at he
     have hg := guard_plain (P := P) op t x y (.bool i) (.bool j) W rfl (by simp)
     split at he <;> first | (cases he; done) | skip
     . rename_i hsh
       have hq := run_equalIn_bool' (P := P) W 9999 t i j (und_bool (hΓ t ty hty) hsh)
       cases he
       refine Out.pure hI (x := .bool (i == j)) ?_ (lit_rv rfl) trivial
       simp only [execOp, ho, hx, hy, Sem.run_bind, hg, Result.andThen_ok, binOp, Op.equal, Op.maxDepth, hq, Sem.run_pure]
     . rename_i hsh
       have hq := run_equalIn_bool' (P := P) W 9999 t i j (und_bool (hΓ t ty hty) hsh)
       cases he
       refine Out.pure hI (x := .bool (i != j)) ?_ (lit_rv rfl) trivial
       simp only [execOp, ho, hx, hy, Sem.run_bind, hg, Result.andThen_ok, binOp, Op.equal, Op.maxDepth, hq, Sem.run_pure]
       rfl
 . rename_i i j h1 h2
   rw [h1] at hx; rw [h2] at hy
   have hx := rv_lit hx; have hy := rv_lit hy
   have hg := guard_plain (P := P) op t x y (.string i) (.string j) W rfl (by simp)
   split at he <;> first | (cases he; done) | skip
   . cases he
     refine Out.pure hI (x := .bool (i == j)) ?_ (lit_rv rfl) trivial
     simp [execOp, ho, hx, hy, hg, binOp, Op.stringOp, beq_toListBytes]
   . cases he
     refine Out.pure hI (x := .bool (i != j)) ?_ (lit_rv rfl) trivial
     simp [execOp, ho, hx, hy, hg, binOp, Op.stringOp, beq_toListBytes, bne]
   . split at he
     . rename_i hsz
       cases he
       refine Out.pure hI (x := .string (i ++ j)) ?_ (lit_rv rfl) trivial
       have hn : ¬ ((i.size + j.size : Nat) : Int) > IntKind.i64.max := by
         have : IntKind.i64.max = 9223372036854775807 := by decide
         rw [this]
         unfold maxL at hsz
         omega
       simp only [execOp, ho, hx, hy, Sem.run_bind, hg, Result.andThen_ok, binOp, Op.stringOp, if_neg hn, Sem.run_pure]
     . cases he
 . rename_i az bs h1 h2
   rw [h1] at hx; rw [h2] at hy
   obtain ⟨cu, hxa, hxr⟩ := hx
   obtain ⟨cw, hya, hyr⟩ := hy
   cases heq : eqs t with
   | none => simp [heq] at he
   | some ks =>
     simp only [heq, Option.bind_some] at he
     obtain ⟨hk, hgt, fs, hfs⟩ := hE t _ heq
     have hg : (eqGuard op t x y (.agg cu) (.agg cw)).run P W = .ok () W := run_eqGuard_agg W op t x y cu cw hgt
     have run : ∀ r, eqCells ks az bs = some r -> (Op.equalIn 10000 t (.agg cu) (.agg cw)).run P W = .ok r W := fun r hr => by
       have hv := eqCells_vals hxr hyr hr
       refine run_equalIn_ty 8 t ks hk 10000 (by omega) cu.toList cw.toList _ _ W r ?_ ?_ hv
       . unfold asTy; rw [hfs]
       . unfold asTy; rw [hfs]
     split at he
     . cases hr : eqCells ks az bs with
       | none => simp [hr] at he
       | some r =>
         simp only [hr, Option.map_some] at he
         cases he
         refine Out.pure hI (x := .bool r) ?_ (lit_rv rfl) trivial
         simp only [execOp, ho, hxa, hya, Sem.run_bind, hg, Result.andThen_ok, run_eql_struct, run r hr, Sem.run_pure]
     . cases hr : eqCells ks az bs with
       | none => simp [hr] at he
       | some r =>
         simp only [hr, Option.map_some] at he
         cases he
         refine Out.pure hI (x := .bool (!r)) ?_ (lit_rv rfl) trivial
         simp only [execOp, ho, hxa, hya, Sem.run_bind, hg, Result.andThen_ok, run_neq_struct, run r hr, Sem.run_pure]
     . cases he
 . rename_i t1 ag cs h1 h2
   rw [h1] at hx; rw [h2] at hy
   obtain ⟨v1, hxv, _⟩ := rv_ifc hx
   have hyv : a.eval y = .nilIface := rv_lit hy
   cases hty : Γ t with
   | none => simp [hty] at he
   | some ty =>
     simp only [hty, Option.bind_some] at he
     have hg : (eqGuard op t x y (.iface t1 v1) .nilIface).run P W = .ok () W := by unfold eqGuard; cases op <;> rfl
     have hrun : ∀ b, ty.sh = .ifc b -> (Op.equalIn 10000 t (.iface t1 v1) .nilIface).run P W = .ok false W := fun b hs => by
       obtain ⟨ms, hms, _⟩ := und_ifc (hΓ t ty hty) hs
       unfold Op.equalIn
       simp only [Sem.run_bind, run_underlying hms, Result.andThen_ok]
       rfl
     split at he
     . rename_i b hsh
       cases he
       refine Out.pure hI (x := .bool false) ?_ (lit_rv rfl) trivial
       simp [execOp, ho, hxv, hyv, hg, binOp, Op.equal, Op.maxDepth, hrun _ hsh]
     . rename_i b hsh
       cases he
       refine Out.pure hI (x := .bool true) ?_ (lit_rv rfl) trivial
       simp [execOp, ho, hxv, hyv, hg, binOp, Op.equal, Op.maxDepth, hrun _ hsh]
     . cases he
 . rename_i h1 h2
   rw [h1] at hx; rw [h2] at hy
   have hxv : a.eval x = .nilIface := rv_lit hx
   have hyv : a.eval y = .nilIface := rv_lit hy
   cases hty : Γ t with
   | none => simp [hty] at he
   | some ty =>
     simp only [hty, Option.bind_some] at he
     have key : ∀ e, ty.sh = .ifc e -> (e || nilOp y) = true -> (∀ op', (eqGuard op' t x y .nilIface .nilIface).run P W = .ok () W) /\ (Op.equalIn 10000 t .nilIface .nilIface).run P W = .ok true W := fun e hs hc => by
       obtain ⟨ms, hms, hem⟩ := und_ifc (hΓ t ty hty) hs
       refine ⟨fun op' => ?_, ?_⟩
       . cases hn : nilOp y with
         | true =>
           have : ∃ v, y = .const v := by cases y <;> first | exact ⟨_, rfl⟩ | (simp [nilOp] at hn)
           obtain ⟨v, rfl⟩ := this
           unfold eqGuard
           cases op' <;> first | rfl | (cases x <;> rfl)
         | false =>
           rw [hn, Bool.or_false] at hc
           subst hc
           have hq : (Op.eqGuardIn Op.maxDepth t .nilIface .nilIface).run P W = .ok false W := by
             unfold Op.maxDepth Op.eqGuardIn
             simp only [Sem.run_bind, run_underlying hms, Result.andThen_ok, <- hem]
             rfl
           unfold eqGuard
           cases op' <;> first | rfl | (cases x <;> cases y <;> first | rfl | (simp [hq]; done))
       . unfold Op.equalIn
         simp only [Sem.run_bind, run_underlying hms, Result.andThen_ok]
         rfl
     split at he
     . rename_i hsh
       split at he <;> cases he
       obtain ⟨hg, hrun⟩ := key _ hsh (by assumption)
       refine Out.pure hI (x := .bool true) ?_ (lit_rv rfl) trivial
       simp [execOp, ho, hxv, hyv, hg, binOp, Op.equal, Op.maxDepth, hrun]
     . rename_i hsh
       split at he <;> cases he
       obtain ⟨hg, hrun⟩ := key _ hsh (by assumption)
       refine Out.pure hI (x := .bool false) ?_ (lit_rv rfl) trivial
       simp [execOp, ho, hxv, hyv, hg, binOp, Op.equal, Op.maxDepth, hrun]
     . cases he
 . split at he
   . rename_i hnl
     cases hty : Γ t with
     | none => simp [hty] at he
     | some ty =>
       simp only [hty, Option.bind_some] at he
       have hyv : a.eval y = .slice none 0 0 := by
         unfold isNilLit at hnl
         split at hnl
         . rename_i h2; rw [h2] at hy; exact rv_lit hy
         . cases hnl
       have hnv : ∀ r, nilV (evF st.fr x) = some r -> ∃ ao n c, a.eval x = .slice ao n c /\ ao.isNone = r := fun r hr => by
         unfold nilV at hr
         split at hr
         . rename_i p n c h2
           rw [h2] at hx
           cases hr
           have e := rv_lit hx
           have hf : flatV (.slice p n c) = true := lit_flat hx
           simp only [flatV, Bool.and_eq_true] at hf
           exact ⟨p, n, c, e, hf.1.1⟩
         . rename_i id off len sz h2
           rw [h2] at hx
           split at hr
           . cases hr
             rcases hx.2 with ⟨_, h0, _⟩ | ⟨_, o', cap, h, _⟩
             . omega
             . exact ⟨_, _, _, h, rfl⟩
           . cases hr
         . rename_i sz e0 es h2
           rw [h2] at hx
           cases hr
           generalize a.eval x = u at hx
           cases hx with
           | sl _ _ ao cap vs _ _ _ hm _ =>
             obtain ⟨a0, ha0, _⟩ := hm 0 e0 rfl
             exact ⟨ao, _, _, rfl, by rw [ha0]; rfl⟩
         . cases hr
       have hnu : ∀ (v : V) (e : Eff), (match evF st.fr x with | .d (.sl _ []) => some (V.d .ub, Eff.none) | _ => none) = some (v, e) -> ∃ ao n c, a.eval x = .slice ao n c /\ v = .d .ub /\ e = .none := fun v e hr => by
         split at hr
         . rename_i sz h2
           rw [h2] at hx
           cases hr
           generalize a.eval x = u at hx
           cases hx with
           | sl _ _ ao cap vs _ _ _ hm _ => exact ⟨ao, _, _, rfl, rfl, rfl⟩
         . cases hr
       have hrun : ∀ (el : TypeId) (ao : Option Addr) (n c : Nat), ty.sh = .slice el -> (Op.equalIn 10000 t (.slice ao n c) (.slice none 0 0)).run P W = .ok ao.isNone W := fun el ao n c hs => by
         unfold Op.equalIn
         simp only [Sem.run_bind, run_underlying (und_slice (hΓ t ty hty) hs), Result.andThen_ok]
         cases ao <;> rfl
       have hg : ∀ (ao : Option Addr) (n c : Nat), (eqGuard op t x y (.slice ao n c) (.slice none 0 0)).run P W = .ok () W := fun ao n c => guard_plain op t x y _ _ W rfl (by simp)
       split at he
       . rename_i el hsh
         unfold nilR at he
         cases hr : nilV (evF st.fr x) with
         | none =>
           simp only [hr] at he
           obtain ⟨ao, n, c, hxv, rfl, rfl⟩ := hnu v e he
           refine Out.pure hI (x := .bool ao.isNone) ?_ (.ub _) trivial
           simp [execOp, ho, hxv, hyv, hg, binOp, Op.equal, Op.maxDepth, hrun el ao n c hsh]
         | some r =>
           simp only [hr] at he
           cases he
           obtain ⟨ao, n, c, hxv, hao⟩ := hnv r hr
           refine Out.pure hI (x := .bool r) ?_ (lit_rv rfl) trivial
           simp [execOp, ho, hxv, hyv, hg, binOp, Op.equal, Op.maxDepth, hrun el ao n c hsh, hao]
       . rename_i el hsh
         unfold nilR at he
         cases hr : nilV (evF st.fr x) with
         | none =>
           simp only [hr] at he
           obtain ⟨ao, n, c, hxv, rfl, rfl⟩ := hnu v e he
           refine Out.pure hI (x := .bool (!ao.isNone)) ?_ (.ub _) trivial
           simp [execOp, ho, hxv, hyv, hg, binOp, Op.equal, Op.maxDepth, hrun el ao n c hsh]
         | some r =>
           simp only [hr] at he
           cases he
           obtain ⟨ao, n, c, hxv, hao⟩ := hnv r hr
           refine Out.pure hI (x := .bool (!r)) ?_ (lit_rv rfl) trivial
           simp [execOp, ho, hxv, hyv, hg, binOp, Op.equal, Op.maxDepth, hrun el ao n c hsh, hao]
       . cases he
   . cases he
end Go.Psl
namespace Go.Psl
variable {P : Program} {Γ : Tys} {eqs : Eqs} {E : Ent} {U U' : Nat -> Prop} {G : Gh} {st : St} {a : Act} {W : World}
theorem move_out (hI : Inv E U G st a W) {o : Oper} {x : Operand} (ho : o.op = .move x \/ o.op = .assign x) : Out P E U st a W o (evF st.fr x) .none := by
 obtain ⟨hx, hw⟩ := hI.op x
 refine Out.pure hI (x := a.eval x) ?_ hx hw
 rcases ho with ho | ho <;> simp [execOp, ho]
theorem unF_out (hI : Inv E U G st a W) {o : Oper} {op : UnOp} {t : TypeId} {x : Operand} (ho : o.op = .unOp op t x) {v : V} {e : Eff} (he : unF op (evF st.fr x) = some (v, e)) : Out P E U st a W o v e := by
 obtain ⟨hx, _⟩ := hI.op x
 unfold unF at he
 split at he
 . rename_i b h1
   cases he; rw [h1] at hx
   refine Out.pure hI (x := .bool (!b)) ?_ (lit_rv rfl) trivial
   simp [execOp, ho, rv_bool hx, Op.unary]
 . rename_i k n h1
   cases he; rw [h1] at hx
   refine Out.pure hI (x := .int k (k.wrap (-n))) ?_ (lit_rv rfl) trivial
   simp [execOp, ho, rv_int hx, Op.unary, Op.intArith]
 . cases he
theorem pickV_rel {c : Bool} {x y : V} {u w : Value} (hx : RV G W x u) (hy : RV G W y w) : RV G W (pickV c x y) (if c then u else w) := by
 unfold pickV
 split
 . rename_i b1 b2
   have h1 := rv_bool hx; have h2 := rv_bool hy
   subst h1; subst h2
   cases c <;> exact lit_rv rfl
 . cases c
   . exact hy
   . exact hx
theorem pickV_ok {c : Bool} {x y : V} (hx : AV U anyD x) (hy : AV U anyD y) : AV U anyD (pickV c x y) := by
 unfold pickV
 split
 . trivial
 . cases c
   . exact hy
   . exact hx
theorem pickF_out (hI : Inv E U G st a W) {o : Oper} {c x y : Operand} (ho : o.op = .pick c x y) {v : V} {e : Eff} (he : pickF (evF st.fr c) (evF st.fr x) (evF st.fr y) = some (v, e)) : Out P E U st a W o v e := by
 obtain ⟨hc, _⟩ := hI.op c
 obtain ⟨hx, hxw⟩ := hI.op x
 obtain ⟨hy, hyw⟩ := hI.op y
 unfold pickF at he
 split at he
 . rename_i b h1
   cases he; rw [h1] at hc
   refine Out.pure hI (x := if b then a.eval x else a.eval y) ?_ (pickV_rel hx hy) (pickV_ok hxw hyw)
   simp [execOp, ho, rv_bool hc, asBool]
 . cases he
theorem extrF_out (hI : Inv E U G st a W) {o : Oper} {x : Operand} {i : Nat} (ho : o.op = .extract x i) {v : V} {e : Eff} (he : extrF (evF st.fr x) i = some (v, e)) : Out P E U st a W o v e := by
 obtain ⟨hx, hxw⟩ := hI.op x
 unfold extrF at he
 split at he
 . rename_i vs h1
   cases hi : vs[i]? with
   | none => simp [hi] at he
   | some u =>
     simp only [hi, Option.map_some] at he
     cases he
     rw [h1] at hx hxw
     obtain ⟨cv, hxa, hr⟩ := hx
     obtain ⟨w, hw, hrw⟩ := hr.get hi
     refine Out.pure hI (x := w) ?_ (R2.rv hrw) (R2.av hrw (hxw _ (List.mem_of_getElem? hi)))
     rw [Array.getElem?_toList] at hw
     simp [execOp, ho, hxa, Instr.extract, hw]
 . cases he
theorem rd_sl {sz : Nat} {es : List (List D)} {x : Value} (h : RV G W (.d (.sl sz es)) x) : ∃ ao cap, x = .slice ao es.length cap /\ es.length <= cap /\ es.length <= maxL /\ (∀ e ∈ es, e.length = sz) /\
   ∃ vs : Nat -> Nat -> Value, (∀ (i : Nat) e, es[i]? = some e -> ∃ ad, ao = some ad /\ G.Im ad.block /\ ∀ (j : Nat) y, e[j]? = some y -> W.cell? (ad.add (i * sz + j)) = some (vs i j)) /\
     (∀ (i : Nat) e, es[i]? = some e -> ∀ (j : Nat) y, e[j]? = some y -> RD G.Im W y (vs i j)) := by
 have h' : RD G.Im W (.sl sz es) x := h
 cases h' with
 | sl _ _ ao cap vs hsz' hlen hcap hm hr => exact ⟨ao, cap, rfl, hcap, hlen, hsz', vs, hm, hr⟩
theorem lenF_out (hΓ : GOk P Γ) (hI : Inv E U G st a W) {o : Oper} {c : Call} {x : Operand} {t : TypeId} (ho : o.op = .call c) (hc : c.callee = .builtin .len) (ha : c.args.toList = [x]) (ht : c.argTypes.toList = [t]) {v : V} {e : Eff}
   (he : lenF Γ t (evF st.fr x) = some (v, e)) : Out P E U st a W o v e := by
 obtain ⟨hx, _⟩ := hI.op x
 have hrun : ∀ z, (Builtin.len_ #[t] o.type #[a.eval x]).run P W = .ok z W -> (execOp a.eval o).run P W = .ok (.value z) W := fun z hz => by
   have h1 : c.args = #[x] := Array.ext' (by simpa using ha)
   have h2 : c.argTypes = #[t] := Array.ext' (by simpa using ht)
   simp [execOp, ho, resolve, hc, invoke, builtin, h1, h2, hz]
 unfold lenF at he
 cases hty : Γ t with
 | none => simp [hty] at he
 | some ty =>
   simp only [hty, Option.bind_some] at he
   have hT := hΓ t ty hty
   split at he <;> first | (cases he; done) | skip
   . rename_i el sz es hsh h1
     cases he
     rw [h1] at hx
     obtain ⟨ao, cap, hxa, _⟩ := rd_sl hx
     rw [hxa] at hrun
     refine Out.pure hI (hrun (.int .i64 es.length) ?_) (lit_rv rfl) trivial
     simp [Builtin.len_, run_underlying (und_slice hT hsh), goInt]
   . rename_i el id off len sz hsh h1
     cases he
     rw [h1] at hx
     obtain ⟨_, ⟨_, h0, hxa⟩ | ⟨_, o', cap, hxa, _⟩⟩ := hx
     . rw [hxa] at hrun
       refine Out.pure hI (hrun (.int .i64 len) ?_) (lit_rv rfl) trivial
       simp [Builtin.len_, run_underlying (und_slice hT hsh), goInt, h0]
     . rw [hxa] at hrun
       refine Out.pure hI (hrun (.int .i64 len) ?_) (lit_rv rfl) trivial
       simp [Builtin.len_, run_underlying (und_slice hT hsh), goInt]
   . rename_i el u n c' hsh h1
     cases he
     rw [h1] at hx
     have hfl := lit_flat hx
     have hxa := rv_lit hx
     simp only [flatV, Bool.and_eq_true, beq_iff_eq, Option.isNone_iff_eq_none] at hfl
     obtain ⟨⟨rfl, rfl⟩, rfl⟩ := hfl
     rw [hxa] at hrun
     refine Out.pure hI (hrun (.int .i64 0) ?_) (lit_rv rfl) trivial
     simp [Builtin.len_, run_underlying (und_slice hT hsh), goInt]
   . rename_i s hsh h1
     cases he
     rw [h1] at hx
     rw [rv_lit hx] at hrun
     refine Out.pure hI (hrun (.int .i64 s.size) ?_) (lit_rv rfl) trivial
     simp [Builtin.len_, run_underlying (und_str hT hsh), goInt]
theorem max2_int (k k' : IntKind) (x y : Int) (w : World) : (Builtin.max2 (.int k x) (.int k' y)).run P w = .ok (.int k (max x y)) w := by
 simp only [Builtin.max2, Sem.run_pure]
 congr 2
 split <;> omega
theorem min2_int (k k' : IntKind) (x y : Int) (w : World) : (Builtin.min2 (.int k x) (.int k' y)).run P w = .ok (.int k (min x y)) w := by
 simp only [Builtin.min2, Sem.run_pure]
 congr 2
 split <;> omega
theorem maxR_run {G : Gh} {W : World} {k : IntKind} : ∀ (vs : List V) (xs : List Value) (m out : Int), All2 (RV G W) vs xs -> maxR k m vs = some out -> (xs.foldlM Builtin.max2 (Value.int k m)).run P W = .ok (.int k out) W
 | [], [], m, out, _, h => by
   cases h; simp
 | .d (.lit (.int k' x)) :: vs, y :: xs, m, out, ⟨h1, h2⟩, h => by
   simp only [maxR] at h
   split at h
   . rename_i hk; subst hk
     have ih := maxR_run vs xs (max m x) out h2 h
     rw [rv_int h1, List.foldlM_cons]
     simp [max2_int, ih]
   . cases h
theorem maxF_out (hI : Inv E U G st a W) {o : Oper} {c : Call} (ho : o.op = .call c) (hc : c.callee = .builtin .max) {v : V} {e : Eff} (he : maxF (capL st.fr c.args.toList) = some (v, e)) : Out P E U st a W o v e := by
 obtain ⟨hr, _⟩ := capL_rel hI c.args.toList
 have hrun : ∀ z, (Builtin.max_ c.argTypes o.type (c.args.map a.eval)).run P W = .ok z W -> (execOp a.eval o).run P W = .ok (.value z) W := fun z hz => by
   simp [execOp, ho, resolve, hc, invoke, builtin, hz]
 have hl : (c.args.map a.eval).toList = c.args.toList.map a.eval := by simp
 generalize capL st.fr c.args.toList = vs at hr he
 unfold Builtin.max_ at hrun
 rw [hl] at hrun
 generalize c.args.toList.map a.eval = xs at hr hrun
 unfold maxF at he
 split at he
 . rename_i k x r
   match xs, hr with
   | y :: xs, ⟨h1, h2⟩ =>
     cases hm : maxR k x r with
     | none => rw [hm] at he; cases he
     | some m =>
       rw [hm] at he; cases he
       refine Out.pure hI (hrun (.int k m) ?_) (lit_rv rfl) trivial
       rw [rv_int h1]
       exact maxR_run r xs x m h2 hm
 . cases he
theorem minR_run {G : Gh} {W : World} {k : IntKind} : ∀ (vs : List V) (xs : List Value) (m out : Int), All2 (RV G W) vs xs -> minR k m vs = some out -> (xs.foldlM Builtin.min2 (Value.int k m)).run P W = .ok (.int k out) W
 | [], [], m, out, _, h => by
   cases h; simp
 | .d (.lit (.int k' x)) :: vs, y :: xs, m, out, ⟨h1, h2⟩, h => by
   simp only [minR] at h
   split at h
   . rename_i hk; subst hk
     have ih := minR_run vs xs (min m x) out h2 h
     rw [rv_int h1, List.foldlM_cons]
     simp [min2_int, ih]
   . cases h
theorem minF_out (hI : Inv E U G st a W) {o : Oper} {c : Call} (ho : o.op = .call c) (hc : c.callee = .builtin .min) {v : V} {e : Eff} (he : minF (capL st.fr c.args.toList) = some (v, e)) : Out P E U st a W o v e := by
 obtain ⟨hr, _⟩ := capL_rel hI c.args.toList
 have hrun : ∀ z, (Builtin.min_ c.argTypes o.type (c.args.map a.eval)).run P W = .ok z W -> (execOp a.eval o).run P W = .ok (.value z) W := fun z hz => by
   simp [execOp, ho, resolve, hc, invoke, builtin, hz]
 have hl : (c.args.map a.eval).toList = c.args.toList.map a.eval := by simp
 generalize capL st.fr c.args.toList = vs at hr he
 unfold Builtin.min_ at hrun
 rw [hl] at hrun
 generalize c.args.toList.map a.eval = xs at hr hrun
 unfold minF at he
 split at he
 . rename_i k x r
   match xs, hr with
   | y :: xs, ⟨h1, h2⟩ =>
     cases hm : minR k x r with
     | none => rw [hm] at he; cases he
     | some m =>
       rw [hm] at he; cases he
       refine Out.pure hI (hrun (.int k m) ?_) (lit_rv rfl) trivial
       rw [rv_int h1]
       exact minR_run r xs x m h2 hm
 . cases he
theorem nilF_out (hI : Inv E U G st a W) {o : Oper} {x : Operand} (ho : o.op = .nilCheck x) {v : V} {e : Eff} (he : nilF (evF st.fr x) = some (v, e)) : Out P E U st a W o v e := by
 obtain ⟨hx, hw⟩ := hI.op x
 unfold nilF at he
 split at he
 . rename_i id off h1
   cases he
   rw [h1] at hx hw
   refine Out.pure hI (x := a.eval x) ?_ hx hw
   generalize hz : a.eval x = z at hx
   obtain ⟨q, rfl⟩ : ∃ q, z = .pointer (some q) := by cases hx <;> exact ⟨_, by assumption⟩
   simp [execOp, ho, hz]
 . rename_i cs h1
   cases he
   rw [h1] at hx hw
   refine Out.pure hI (x := a.eval x) ?_ hx hw
   generalize hz : a.eval x = z at hx
   obtain ⟨q, rfl⟩ : ∃ q, z = .pointer (some q) := by cases hx <;> exact ⟨_, rfl⟩
   simp [execOp, ho, hz]
 . cases he
theorem dataL_eq : ∀ {cs : List V} {ds : List D}, dataL cs = some ds -> cs = ds.map .d
 | [], ds, h => by simp [dataL] at h; subst h; rfl
 | .d x :: r, ds, h => by
   simp only [dataL, Option.map_eq_some_iff] at h
   obtain ⟨es, he, rfl⟩ := h
   rw [dataL_eq he]; rfl
 | .junk :: _, _, h | .lp _ _ :: _, _, h | .ls _ _ _ _ :: _, _, h | .cl _ _ :: _, _, h | .yl _ :: _, _, h | .lr _ _ _ _ _ _ :: _, _, h | .agg _ :: _, _, h | .tup _ :: _, _, h => by simp [dataL] at h
theorem sh_und {t : TypeId} {y : Ty} (h : TyOk P t y) (h1 : ∀ e, y.sh ≠ .ifc e) (h2 : y.sh ≠ .other) : ∃ d, P.underlying t = some d /\ ∀ ms, d ≠ .interface ms := by
 obtain ⟨d, hd, ho⟩ := h.und
 refine ⟨d, hd, fun ms e => ?_⟩
 subst e
 unfold ShOk at ho
 split at ho <;> first | (rename_i hh; exact h1 _ hh) | (rename_i hh; exact h2 hh) | (simp_all; done) | exact ho.elim | skip
theorem ifcF_out (hΓ : GOk P Γ) (hI : Inv E U G st a W) {o : Oper} {t : TypeId} {x : Operand} (ho : o.op = .makeInterface t x) {v : V} {e : Eff} (he : ifcF Γ t (evF st.fr x) = some (v, e)) : Out P E U st a W o v e := by
 obtain ⟨hx, hw⟩ := hI.op x
 unfold ifcF at he
 cases hty : Γ t with
 | none => simp [hty] at he
 | some ty =>
   simp only [hty, Option.bind_some] at he
   have fin : (∃ d, P.underlying t = some d /\ ∀ ms, d ≠ .interface ms) -> (match evF st.fr x with
       | .agg cs => (dataL cs).map fun ds => (V.d (.ifc t true ds), Eff.none)
       | .d x => some (.d (.ifc t false [x]), .none)
       | _ => none) = some (v, e) -> Out P E U st a W o v e := fun ⟨d, hd, hn⟩ he => by
     have run : (execOp a.eval o).run P W = .ok (.value (.iface t (a.eval x))) W := by
       have : (Instr.makeInterface t (a.eval x)).run P W = .ok (.iface t (a.eval x)) W := by
         unfold Instr.makeInterface
         simp only [Sem.run_bind, run_underlying hd, Result.andThen_ok]
         cases d <;> first | rfl | exact absurd rfl (hn _)
       simp [execOp, ho, this]
     split at he
     . rename_i cs h1
       cases hds : dataL cs with
       | none => simp [hds] at he
       | some ds =>
         simp only [hds, Option.map_some] at he
         cases he
         rw [h1] at hx
         obtain ⟨cv, hcv, hr⟩ := hx
         refine Out.pure hI (x := .iface t (a.eval x)) run ?_ trivial
         rw [hcv]
         rw [dataL_eq hds] at hr
         have hr' := All2.map_left.1 hr
         refine RD.ifc t ds cv (by have := hr'.length; simpa using this.symm) fun j y z hy hz => ?_
         obtain ⟨z', hz', hrz⟩ := hr'.get hy
         rw [Array.getElem?_toList, hz] at hz'
         cases hz'; exact hrz
     . rename_i y h1
       cases he
       rw [h1] at hx
       exact Out.pure hI (x := .iface t (a.eval x)) run (RD.ifc1 t y _ hx) trivial
     . cases he
   split at he
   . cases he
   . cases he
   . rename_i h1 h2
     exact fin (sh_und (hΓ t ty hty) (fun e he => h1 e he) h2) he
theorem assF_out (hΓ : GOk P Γ) (hI : Inv E U G st a W) {o : Oper} {s t : TypeId} {x : Operand} (ho : o.op = .typeAssert x s t false) {v : V} {e : Eff} (he : assF Γ t (evF st.fr x) = some (v, e)) : Out P E U st a W o v e := by
 obtain ⟨hx, hw⟩ := hI.op x
 unfold assF at he
 cases hty : Γ t with
 | none => simp [hty] at he
 | some ty =>
   simp only [hty, Option.bind_some] at he
   split at he
   . cases he
   . cases he
   . rename_i h1 h2
     obtain ⟨d, hd, hn⟩ := sh_und (hΓ t ty hty) (fun e he => h1 e he) h2
     split at he
     . rename_i t' ag cs hq
       split at he
       . rename_i htt
         subst htt
         rw [hq] at hx
         obtain ⟨u, hxv, hu⟩ := rv_ifc hx
         have run : (execOp a.eval o).run P W = .ok (.value u) W := by
           have : (Instr.typeAssert (a.eval x) s t' false).run P W = .ok u W := by
             unfold Instr.typeAssert
             simp only [Sem.run_bind, run_underlying hd, Result.andThen_ok, hxv]
             cases d <;> first | (simp; done) | exact absurd rfl (hn _)
           simp [execOp, ho, this]
         rcases hu with ⟨rfl, cv, rfl, hr⟩ | ⟨rfl, c, rfl, hr⟩
         . simp only [outF, Option.map_some] at he
           cases he
           refine Out.pure hI (x := .agg cv) run ⟨cv, rfl, hr.mono fun y hy z h => ?_⟩ (fun y hy => ?_)
           . obtain ⟨c, _, rfl⟩ := List.mem_map.1 hy; exact h
           . obtain ⟨c, _, rfl⟩ := List.mem_map.1 hy; trivial
         . simp only [outF, Option.map_some] at he
           cases he
           exact Out.pure hI (x := u) run hr trivial
       . cases he
     . cases he
theorem indexV_out (hΓ : GOk P Γ) (hI : Inv E U G st a W) {o : Oper} {t : TypeId} {x i : Operand} (ho : o.op = .index t x i) {v : V} {e : Eff} (he : indexV Γ t (evF st.fr x) (evF st.fr i) = some (v, e)) :
   Out P E U st a W o v e := by
 obtain ⟨hx, hxw⟩ := hI.op x
 obtain ⟨hi, _⟩ := hI.op i
 unfold indexV at he
 cases hty : Γ t with
 | none => simp [hty] at he
 | some ty =>
   simp only [hty, Option.bind_some] at he
   have hT := hΓ t ty hty
   split at he
   . rename_i k n hin
     rw [hin] at hi
     have hie := rv_int hi
     split at he
     . rename_i m el cs hsh h1
       cases hel : Γ el with
       | none => simp [hel] at he
       | some ye =>
         simp only [hel, Option.bind_some] at he
         split at he
         . rename_i hc
           obtain ⟨h0, hm, hl⟩ := hc
           cases he
           rw [h1] at hx hxw
           obtain ⟨cv, hxa, hr⟩ := hx
           have hlen := hr.length
           simp only [Array.length_toList] at hlen
           obtain ⟨u, hu, huv⟩ := run_part (hΓ el ye hel) W cv (n.toNat * ye.size) (by omega)
           have hmem : ∀ c ∈ (cs.drop (n.toNat * ye.size)).take ye.size, A1 U anyD c := fun c hc => hxw c (List.mem_of_mem_drop (List.mem_of_mem_take hc))
           have hr2 := (hr.drop (n.toNat * ye.size)).take ye.size
           refine Out.pure hI (x := u) ?_ (mk_rel hr2 huv) ?_
           . simp only [execOp, ho, Instr.index, hie, hxa, asIntOf, Sem.run_bind, Sem.run_pure, Result.andThen_ok, run_underlying (und_array hT hsh), h0, hm, and_self, if_true, (hΓ el ye hel).sizeOf, hu]
           . rcases huv with ⟨h, _⟩ | ⟨hag, h1⟩
             . exact mk_ok hmem fun h' => by rw [h] at h'; cases h'
             . rw [h1] at hr2
               generalize (cs.drop (n.toNat * ye.size)).take ye.size = l at hr2 hmem
               match l, hr2 with
               | [c], hr2 =>
                 simp only [mkV, hag]
                 exact R2.av (R1.r2 hr2.1) (R1.a2 hr2.1 (hmem c (by simp)))
               | [], hr2 => exact hr2.elim
               | _ :: _ :: _, hr2 => exact hr2.2.elim
         . cases he
     . rename_i s hsh h1
       split at he
       . rename_i h0
         cases hb : s[n.toNat]? with
         | none => simp [hb] at he
         | some b =>
           simp only [hb, Option.map_some] at he
           cases he
           rw [h1] at hx
           refine Out.pure hI (x := .int .u8 b.toNat) ?_ (lit_rv rfl) trivial
           simp only [execOp, ho, Instr.index, hie, rv_lit hx, asIntOf, Sem.run_bind, Sem.run_pure, Result.andThen_ok, run_underlying (und_str hT hsh), h0, if_true, hb]
       . cases he
     . cases he
   . cases he
theorem litsOf_eq : ∀ {cs : List V} {vs : List Value}, litsOf cs = some vs -> cs = vs.map (fun v => .d (.lit v)) /\ vs.all flat0 = true
 | [], vs, h => by cases h; exact ⟨rfl, rfl⟩
 | .d (.lit v) :: r, vs, h => by
   simp only [litsOf] at h
   split at h
   . rename_i hv
     cases hr : litsOf r with
     | none => rw [hr] at h; cases h
     | some ws =>
       rw [hr] at h
       cases h
       obtain ⟨h1, h2⟩ := litsOf_eq hr
       exact ⟨by rw [h1]; rfl, by simp [hv, h2]⟩
   . cases h
theorem flat0_flat {v : Value} (h : flat0 v = true) : flatV v = true := by
 cases v <;> first | exact h | (simp [flat0] at h)
theorem bndF_out (hI : Inv E U G st a W) {o : Oper} {g : FuncId} {first caps : Array Operand} (ho : o.op = .makeFunc (.func g) first caps) {x : Operand} (hf : first.toList = [x]) {v : V} {e : Eff} (he : bndF g (evF st.fr x) caps.toList.length = some (v, e)) : Out P E U st a W o v e := by
 unfold bndF at he
 split at he
 . rename_i h0
   split at he
   . rename_i cs hv
     cases hl : litsOf cs with
     | none => rw [hl] at he; cases he
     | some vs =>
       rw [hl] at he
       cases he
       obtain ⟨h1, h2⟩ := litsOf_eq hl
       obtain ⟨hx, _⟩ := hI.op x
       rw [hv, h1] at hx
       obtain ⟨cv, hxa, hr⟩ := hx
       have hcv : cv.toList = vs := by
         have h3 : All2 (fun (p : Value) (q : Value) => q = p) vs cv.toList := (All2.map_left.1 hr).mono fun p _ q hq => rv_lit (R2.rv (R1.r2 hq))
         clear hr hxa h1 h2 hl hv
         generalize cv.toList = ws at h3
         induction vs generalizing ws with
         | nil => cases ws with
           | nil => rfl
           | cons => exact h3.elim
         | cons p r ih => cases ws with
           | nil => exact h3.elim
           | cons q s => obtain ⟨rfl, h4⟩ := h3; rw [ih s h4]
       have hca : cv = vs.toArray := by rw [<- hcv]
       refine Out.pure hI (x := .func (.func g) #[.agg vs.toArray] #[]) ?_ (lit_rv ?_) trivial
       . have e1 : first = #[x] := by rw [<- Array.toArray_toList (xs := first), hf]
         have e2 : caps = #[] := by
           have : caps.toList = [] := List.eq_nil_of_length_eq_zero h0
           rw [<- Array.toArray_toList (xs := caps), this]
         simp [execOp, ho, Instr.makeFunc, e1, e2, hxa, hca]
       . show ((#[] : Array Value).toList.isEmpty && vs.toArray.toList.all flat0) = true
         simpa using h2
   . cases he
 . cases he
theorem makeFunc_out (hI : Inv E U G st a W) {o : Oper} {g : FuncId} {first caps : Array Operand} (ho : o.op = .makeFunc (.func g) first caps) (h0 : first.size = 0) (hc : (capL st.fr caps.toList).all V.cap = true) : Out P E U st a W o (.cl g (capL st.fr caps.toList)) .none := by
 obtain ⟨hr, hw⟩ := capL_rel hI caps.toList
 refine Out.pure hI (x := .func (.func g) #[] (caps.map a.eval)) ?_ ⟨caps.map a.eval, rfl, ?_⟩ ?_
 . have : first = #[] := Array.eq_empty_of_size_eq_zero h0
   simp [execOp, ho, Instr.makeFunc, this]
 . rw [Array.toList_map]
   refine hr.mono fun v hv x hx => ?_
   have := List.all_eq_true.1 hc v hv
   cases v <;> first | (simp [V.cap] at this; done) | exact hx
 . intro v hv
   have := List.all_eq_true.1 hc v hv
   have h2 := hw v hv
   cases v <;> first | (simp [V.cap] at this; done) | exact h2
end Go.Psl
namespace Go.Psl
variable {P : Program} {Γ : Tys} {eqs : Eqs} {E : Ent} {U U' : Nat -> Prop} {G : Gh} {st : St} {a : Act} {W : World}
theorem flatten_get {α : Type} {sz : Nat} (h0 : 0 < sz) : ∀ (es : List (List α)), (∀ e ∈ es, e.length = sz) -> ∀ i, es.flatten[i]? = (es[i / sz]?).bind fun e => e[i % sz]?
 | [], _, i => by simp
 | e :: es, h, i => by
   have he := h e (by simp)
   rw [List.flatten_cons]
   by_cases hi : i < sz
   . rw [List.getElem?_append_left (by omega), Nat.div_eq_of_lt hi, Nat.mod_eq_of_lt hi]; rfl
   . rw [List.getElem?_append_right (by omega), he, flatten_get h0 es (fun x hx => h x (by simp [hx]))]
     have e1 : i / sz = (i - sz) / sz + 1 := Nat.div_eq_sub_div h0 (by omega)
     have e2 : i % sz = (i - sz) % sz := by rw [<- Nat.mod_eq_sub_mod (by omega)]
     rw [e1, e2]; rfl
theorem flatten_len {α : Type} {sz : Nat} : ∀ (es : List (List α)), (∀ e ∈ es, e.length = sz) -> es.flatten.length = es.length * sz
 | [], _ => by simp
 | e :: es, h => by
   rw [List.flatten_cons, List.length_append, flatten_len es (fun x hx => h x (by simp [hx])), h e (by simp), List.length_cons, Nat.add_mul]; omega
theorem buildSlice_out (hΓ : GOk P Γ) (hI : Inv E U G st a W) {o : Oper} {t : TypeId} {n : Nat} {ps : Array (Nat × Operand)} (ho : o.op = .buildSlice t n ps) {b : Nat} (hb : ¬ U b) (hU : ∀ i, U i -> U' i) (hb' : U' b) {v : V} {e : Eff}
   (he : buildSliceF Γ b t n (opdL st.fr ps.toList) = some (v, e)) : Out P E U' st a W o v e := by
 obtain ⟨hrel, hok⟩ := opdL_rel hI ps.toList
 unfold buildSliceF at he
 cases hty : Γ t with
 | none => simp [hty] at he
 | some ty =>
   simp only [hty, Option.bind_some] at he
   split at he
   . rename_i el hsh
     cases hel : Γ el with
     | none => simp [hel] at he
     | some ye =>
       simp only [hel, Option.bind_some] at he
       split at he
       . rename_i hsz
         obtain ⟨h24, hpos⟩ := hsz
         cases hf : fillV (fun i => some (i * ye.size, ye.size)) (repl n (ye.zero.map cV)) (opdL st.fr ps.toList) with
         | none => simp [hf] at he
         | some cs =>
           simp only [hf, Option.map_some] at he
           cases he
           have hT := hΓ t ty hty
           have hTe := hΓ el ye hel
           obtain ⟨z, hz, hzc⟩ := hTe.zeroValue W
           have hzl : z.cells.size = ye.size := by rw [<- Array.length_toList, hzc, hTe.zl]
           have hd := und_slice hT hsh
           have hxs : (ps.map fun (i, x) => (i, a.eval x)).toList = ps.toList.map fun (i, x) => (i, a.eval x) := by simp
           have hrepl : All2 (R1 G W) (repl n (ye.zero.map cV)) ((Array.range (n * ye.size)).map (z.cells[· % z.cells.size]!)).toList := by
             refine All2.of_get ?_ fun i x y hx hy => ?_
             . unfold repl
               rw [flatten_len (sz := ye.size) _ (fun e he => by rw [(List.eq_of_mem_replicate he)]; simp [hTe.zl])]
               simp
             . unfold repl at hx
               rw [flatten_get hpos _ (fun e he => by rw [(List.eq_of_mem_replicate he)]; simp [hTe.zl])] at hx
               simp only [Array.toList_map, List.getElem?_map, Array.toList_range] at hy
               by_cases hi : i < n * ye.size
               . rw [List.getElem?_range hi] at hy
                 simp only [Option.map_some, Option.some.injEq] at hy
                 have h1 : i / ye.size < n := by rw [Nat.div_lt_iff_lt_mul hpos]; exact hi
                 rw [List.getElem?_replicate, if_pos h1] at hx
                 simp only [Option.bind_some, List.getElem?_map] at hx
                 have hm : i % ye.size < ye.size := Nat.mod_lt _ hpos
                 obtain ⟨w0, hw0⟩ : ∃ w0, z.cells[i % ye.size]? = some w0 := ⟨z.cells[i % ye.size]'(by rw [hzl]; exact hm), Array.getElem?_eq_getElem _⟩
                 have hzi : ye.zero[i % ye.size]? = some w0 := by rw [<- hzc, Array.getElem?_toList]; exact hw0
                 rw [hzi] at hx
                 simp only [Option.map_some, Option.some.injEq] at hx
                 subst hx; subst hy
                 have hw1 : z.cells[i % z.cells.size]! = w0 := by rw [hzl]; simp [getElem!_def, hw0]
                 rw [hw1]
                 exact RD.lit _ (List.all_eq_true.1 hTe.zf _ (List.mem_of_getElem? hzi))
               . rw [List.getElem?_eq_none (by simp; omega)] at hy; cases hy
           obtain ⟨cv', h6, h7⟩ := fill_rel (place := fun i => some (i * ye.size, ye.size)) (fun i p hp => hp) hrel hrepl hf
           have hall : (repl n (ye.zero.map cV)).all V.isCell = true := by
             simp only [repl, List.all_eq_true, List.mem_flatten]
             rintro x ⟨l, hl, hx⟩
             rw [List.eq_of_mem_replicate hl] at hx
             exact List.all_eq_true.1 (zero_all ye.zero) x hx
           have hokz : ∀ x ∈ repl n (ye.zero.map cV), A1 U anyD x := by
             simp only [repl, List.mem_flatten]
             rintro x ⟨l, hl, hx⟩
             rw [List.eq_of_mem_replicate hl] at hx
             exact zero_ok _ x hx
           have hl7 := h7.length
           have hlen : cs.length = n * ye.size := by
             have : ∀ {ps : List (Nat × V)} {cells cs : List V}, fillV (fun i => some (i * ye.size, ye.size)) cells ps = some cs -> cs.length = cells.length := by
               intro ps
               induction ps with
               | nil => intro cells cs h; cases h; rfl
               | cons p ps ih =>
                 intro cells cs h
                 simp only [fillV] at h
                 split at h
                 . rename_i hc
                   rw [ih h]; simp [splice]; omega
                 . cases h
             rw [this hf]
             unfold repl
             rw [flatten_len (sz := ye.size) _ (fun e he => by rw [(List.eq_of_mem_replicate he)]; simp [hTe.zl])]
             simp
           obtain ⟨G', hI', h1, h2, h3, _⟩ := hI.alloc (T := el) hb hU hb' (cs := cs) (c := cv') (W1 := W) rfl rfl rfl rfl (by rw [hl7]; simp) (by rw [hl7, List.take_of_length_le (by simp)]; exact h7)
             (fill_all (q := V.isCell) hall (fun p _ h => h) hf) (fill_mem (q := A1 U anyD) hokz (fun p hp => cells_ok (hok p hp)) hf)
           refine ⟨_, .slice (some ⟨W.heap.size, 0, none⟩) n n, _, G', ?_, .inl rfl, hI', ⟨?_, .inr ⟨h3, 0, n, by rw [h1], Nat.le_refl _, fun _ => ⟨rfl, ?_⟩⟩⟩, hb'⟩
           . rw [<- hxs] at h6
             simp only [execOp, ho, Instr.buildSlice, Sem.run_bind, run_underlying hd, Result.andThen_ok, hTe.sizeOf]
             rw [if_neg (by omega)]
             by_cases h0 : n * ye.size = 0
             . rw [h0] at h6
               have hr0 : ((Array.range 0).map ((#[] : Array Value)[· % (#[] : Array Value).size]!)) = ((Array.range 0).map (z.cells[· % z.cells.size]!)) := by simp
               simp only [h0, if_true, Sem.run_bind, Sem.run_pure, Result.andThen_ok]
               rw [hr0, h6]
               rfl
             . simp only [h0, if_false, Sem.run_bind, hz, Sem.run_pure, Result.andThen_ok]
               rw [h6]
               rfl
           . have : n * 1 <= n * ye.size := Nat.mul_le_mul_left _ hpos
             unfold maxL; omega
           . rw [h2, <- hlen, <- Array.length_toList, <- hl7]; omega
       . cases he
   . cases he
end Go.Psl
namespace Go.Psl
variable {P : Program} {Γ : Tys} {eqs : Eqs} {E : Ent} {U U' : Nat -> Prop} {G : Gh} {st : St} {a : Act} {W : World}
theorem Inv.drop (hI : Inv E U G st a W) (id : Nat) : Inv E U G ⟨st.fr, upd st.H id none, st.nx⟩ a W := by
 have hs : ∀ i cs, upd st.H id none i = some cs -> i ≠ id /\ st.H i = some cs := fun i cs h => by
   simp only [upd_at] at h
   split at h
   . cases h
   . rename_i e; exact ⟨e, h⟩
 have hs' : ∀ i, (upd st.H id none i).isSome = true -> (st.H i).isSome = true := fun i h => by
   obtain ⟨cs, hc⟩ := Option.isSome_iff_exists.1 h
   rw [(hs i cs hc).2]; rfl
 exact { hI with hp := fun i cs h => hI.hp i cs (hs i cs h).2, wh := fun i cs h => hI.wh i cs (hs i cs h).2, dom := fun i h => hI.dom i (hs' i h), inj := fun i j hi hj => hI.inj i j (hs' i hi) (hs' j hj), own := fun i hi => hI.own i (hs' i hi), stab := fun i h hi => hI.stab i h (hs' i hi) }
theorem Inv.rename (hI : Inv E U G st a W) {id b : Nat} {cs : List V} (hh : st.H id = some cs) (hph : G.ph id = false /\ G.lo id = false) (hb : ¬ U b) (hU : ∀ i, U i -> U' i) (hb' : U' b) :
   ∃ G', Inv E U' G' ⟨st.fr, upd (upd st.H id none) b (some cs), st.nx⟩ a W /\ G'.β b = G.β id /\ G'.bs b = G.bs id /\ (G'.ph b = false /\ G'.lo b = false) /\ Chg U G W G' W := by
 let G' : Gh := { β := upd G.β b (G.β id), bs := upd G.bs b (G.bs id), ph := upd G.ph b false, lo := upd G.lo b false, Im := G.Im }
 have hne : ∀ i, U i -> i ≠ b := fun i hi e => hb (e ▸ hi)
 have hchg : Chg U G W G' W := ⟨fun i hi => by simp [G', upd, hne i hi], fun k hk => ⟨hk, rfl⟩⟩
 have hlive : (st.H id).isSome = true := by rw [hh]; rfl
 have hidb : id ≠ b := hne id (hI.dom id hlive)
 have hs : ∀ i x, upd (upd st.H id none) b (some cs) i = some x -> (i = b /\ x = cs) \/ (i ≠ b /\ i ≠ id /\ st.H i = some x) := fun i x h => by
   simp only [upd_at] at h
   split at h
   . rename_i e; cases h; exact .inl ⟨e, rfl⟩
   . rename_i e
     split at h
     . cases h
     . rename_i e'; exact .inr ⟨e, e', h⟩
 have hs' : ∀ i, (upd (upd st.H id none) b (some cs) i).isSome = true -> i = b \/ (i ≠ b /\ i ≠ id /\ (st.H i).isSome = true) := fun i h => by
   obtain ⟨x, hx⟩ := Option.isSome_iff_exists.1 h
   rcases hs i x hx with ⟨h, _⟩ | ⟨h1, h2, h3⟩
   . exact .inl h
   . exact .inr ⟨h1, h2, by rw [h3]; rfl⟩
 refine ⟨G', ?_, by simp [G', upd], by simp [G', upd], by simp [G', upd], hchg⟩
 refine { fr := fun t => hchg.rv (hI.wf t) (hI.fr t), wf := fun t => AV.mono hU (fun _ h => h) (hI.wf t), hp := ?_, wh := ?_, dom := ?_, inj := ?_, own := ?_, im := hI.im, im0 := hI.im0, keep := hI.keep, stab := ?_, sU := fun i hs => hU _ (hI.sU i hs), nt := hI.nt, df := hI.df.imp fun ds h => ⟨h.1, h.2.same (fun _ _ _ => rfl) (fun _ _ _ h => h)⟩, gl := hI.gl.mono hchg.im }
 . intro i x h
   rcases hs i x h with ⟨rfl, rfl⟩ | ⟨h1, h2, h3⟩
   . obtain ⟨hn, c, T, e1, e2, e3, e4, e5⟩ := (hI.hp id _ hh).read hph
     refine .inr (.inl ⟨by simp [G', upd], by simp [G', upd], by simpa [G', upd] using hn, c, T, by simpa [G', upd] using e1, by simpa [G', upd] using e2, e3, hchg.all1 (all_a1 e4 (hI.wh id _ hh)) e4, e5⟩)
   . exact hchg.hb (hI.dom i (by rw [h3]; rfl)) (hI.wh i x h3) (hI.hp i x h3) (fun _ => rfl) (fun h _ => h)
 . intro i x h y hy
   rcases hs i x h with ⟨rfl, rfl⟩ | ⟨h1, h2, h3⟩
   . exact AC.mono hU (fun _ h => h) (hI.wh id _ hh y hy)
   . exact AC.mono hU (fun _ h => h) (hI.wh i x h3 y hy)
 . intro i h
   rcases hs' i h with rfl | ⟨_, _, h⟩
   . exact hb'
   . exact hU _ (hI.dom i h)
 . intro i j hi hj hpi hpj he
   rcases hs' i hi with ei | ⟨ei, ei', hi'⟩ <;> rcases hs' j hj with ej | ⟨ej, ej', hj'⟩
   . rw [ei, ej]
   . simp only [G', upd, if_pos ei, if_neg ej] at he hpj
     exact absurd (hI.inj id j hlive hj' hph.1 hpj he) (fun h => ej' h.symm)
   . simp only [G', upd, if_pos ej, if_neg ei] at he hpi
     exact absurd (hI.inj i id hi' hlive hpi hph.1 he) ei'
   . simp only [G', upd, if_neg ei, if_neg ej] at he hpi hpj
     exact hI.inj i j hi' hj' hpi hpj he
 . intro i hi hp
   rcases hs' i hi with ei | ⟨ei, ei', hi'⟩
   . simp only [G', upd, if_pos ei]; exact hI.own id hlive hph.1
   . simp only [G', upd, if_neg ei] at hp ⊢; exact hI.own i hi' hp
 . intro i h hi
   rcases hs' i hi with ei | ⟨ei, ei', hi'⟩
   . exact absurd (ei ▸ hI.sU _ h) hb
   . simp only [G', upd, if_neg ei]; exact hI.stab i h hi'
theorem Inv.phantom (hI : Inv E U G st a W) {b : Nat} (hb : ¬ U b) (hU : ∀ i, U i -> U' i) (hb' : U' b) :
   ∃ G', Inv E U' G' ⟨st.fr, upd st.H b (some []), st.nx⟩ a W /\ G'.ph b = true /\ Chg U G W G' W := by
 let G' : Gh := { β := G.β, bs := G.bs, ph := upd G.ph b true, lo := upd G.lo b false, Im := G.Im }
 have hne : ∀ i, U i -> i ≠ b := fun i hi e => hb (e ▸ hi)
 have hchg : Chg U G W G' W := ⟨fun i hi => by simp [G', upd, hne i hi], fun k hk => ⟨hk, rfl⟩⟩
 have hs : ∀ i x, upd st.H b (some []) i = some x -> (i = b /\ x = []) \/ (i ≠ b /\ st.H i = some x) := fun i x h => by
   simp only [upd_at] at h
   split at h
   . rename_i e; cases h; exact .inl ⟨e, rfl⟩
   . rename_i e; exact .inr ⟨e, h⟩
 have hs' : ∀ i, (upd st.H b (some []) i).isSome = true -> i = b \/ (i ≠ b /\ (st.H i).isSome = true) := fun i h => by
   obtain ⟨x, hx⟩ := Option.isSome_iff_exists.1 h
   rcases hs i x hx with ⟨h, _⟩ | ⟨h1, h3⟩
   . exact .inl h
   . exact .inr ⟨h1, by rw [h3]; rfl⟩
 refine ⟨G', ?_, by simp [G', upd], hchg⟩
 refine { fr := fun t => hchg.rv (hI.wf t) (hI.fr t), wf := fun t => AV.mono hU (fun _ h => h) (hI.wf t), hp := ?_, wh := ?_, dom := ?_, inj := ?_, own := ?_, im := hI.im, im0 := hI.im0, keep := hI.keep, stab := ?_, sU := fun i hs => hU _ (hI.sU i hs), nt := hI.nt, df := hI.df.imp fun ds h => ⟨h.1, h.2.same (fun _ _ _ => rfl) (fun _ _ _ h => h)⟩, gl := hI.gl.mono hchg.im }
 . intro i x h
   rcases hs i x h with ⟨rfl, rfl⟩ | ⟨h1, h3⟩
   . exact .inl ⟨by simp [G', upd], rfl⟩
   . exact hchg.hb (hI.dom i (by rw [h3]; rfl)) (hI.wh i x h3) (hI.hp i x h3) (fun _ => rfl) (fun h _ => h)
 . intro i x h y hy
   rcases hs i x h with ⟨rfl, rfl⟩ | ⟨h1, h3⟩
   . cases hy
   . exact AC.mono hU (fun _ h => h) (hI.wh i x h3 y hy)
 . intro i h
   rcases hs' i h with rfl | ⟨_, h⟩
   . exact hb'
   . exact hU _ (hI.dom i h)
 . intro i j hi hj hpi hpj he
   rcases hs' i hi with ei | ⟨ei, hi'⟩
   . simp [G', upd, if_pos ei] at hpi
   . rcases hs' j hj with ej | ⟨ej, hj'⟩
     . simp [G', upd, if_pos ej] at hpj
     . simp only [G', upd, if_neg ei, if_neg ej] at he hpi hpj
       exact hI.inj i j hi' hj' hpi hpj he
 . intro i hi hp
   rcases hs' i hi with ei | ⟨ei, hi'⟩
   . simp [G', upd, if_pos ei] at hp
   . simp only [G', upd, if_neg ei] at hp ⊢; exact hI.own i hi' hp
 . intro i h hi
   rcases hs' i hi with ei | ⟨ei, hi'⟩
   . exact absurd (ei ▸ hI.sU _ h) hb
   . simp only [G', upd, if_neg ei]; exact hI.stab i h hi'
theorem src_cells (hI : Inv E U G st a W) {sz : Nat} (hsz : 0 < sz) {x : V} {u : Value} (hx : RV G W x u) (hxw : AV U anyD x) {m : Nat} {cs : List V} (hc : cellsOf st.H sz x = some (m, cs)) :
   ∃ ao cap xs, u = .slice ao m cap /\ xs.length = m * sz /\ All2 (R1 G W) cs xs /\ (∀ c ∈ cs, A1 U anyD c) /\ (∀ (j : Nat) y, xs[j]? = some y -> ∃ ad, ao = some ad /\ W.cell? (ad.add j) = some y) /\ m <= maxL := by
 unfold cellsOf at hc
 split at hc
 . rename_i u' n c
   cases hc
   have hfl := lit_flat hx
   have hxa := rv_lit hx
   simp only [flatV, Bool.and_eq_true, beq_iff_eq, Option.isNone_iff_eq_none] at hfl
   obtain ⟨⟨rfl, rfl⟩, rfl⟩ := hfl
   exact ⟨none, 0, [], hxa, by simp, trivial, by simp, by simp, by simp [maxL]⟩
 . rename_i sz' es
   split at hc
   . rename_i he
     subst he; cases hc
     obtain ⟨ao, cap, hxa, hcap, hml, hes, vs, hm, hr⟩ := rd_sl hx
     have hfl := flatten_len es hes
     refine ⟨ao, cap, (List.range (es.length * sz)).map fun i => vs (i / sz) (i % sz), hxa, by simp, ?_, ?_, ?_, hml⟩
     . refine All2.map_left.2 (All2.of_get (by simp [hfl]) fun i y z hy hz => ?_)
       rw [flatten_get hsz es hes] at hy
       cases he : es[i / sz]? with
       | none => simp [he] at hy
       | some e =>
         simp only [he, Option.bind_some] at hy
         have hlt : i < es.length * sz := by
           have := (List.getElem?_eq_some_iff.1 hz).1
           simpa using this
         simp only [List.getElem?_map, List.getElem?_range hlt, Option.map_some, Option.some.injEq] at hz
         subst hz
         exact hr _ _ he _ _ hy
     . intro c hc; simp only [List.mem_map] at hc; obtain ⟨y, _, rfl⟩ := hc; trivial
     . intro j y hy
       have hlt : j < es.length * sz := by
         have := (List.getElem?_eq_some_iff.1 hy).1
         simpa using this
       simp only [List.getElem?_map, List.getElem?_range hlt, Option.map_some, Option.some.injEq] at hy
       subst hy
       have h1 : j / sz < es.length := by rw [Nat.div_lt_iff_lt_mul hsz]; exact hlt
       have he := List.getElem?_eq_getElem h1
       have hel := hes _ (List.getElem_mem h1)
       have hmod := Nat.mod_lt j hsz
       obtain ⟨ad, hao, _, hcell⟩ := hm _ _ he
       refine ⟨ad, hao, ?_⟩
       have := hcell (j % sz) _ (List.getElem?_eq_getElem (by omega))
       rwa [Nat.div_add_mod' j sz] at this
   . cases hc
 . rename_i id off len sz'
   split at hc
   . rename_i he
     subst he
     cases hh : st.H id with
     | none => simp [hh] at hc
     | some hs =>
       simp only [hh, Option.bind_some] at hc
       split at hc
       . rename_i hl
         cases hc
         obtain ⟨hml, ⟨hph, h0, hxa⟩ | ⟨hph, o', cap, hxa, hcap, hoff⟩⟩ := hx
         . subst h0
           exact ⟨none, 0, [], hxa, by simp, by simp [All2], by simp, by simp, by simp [maxL]⟩
         . obtain ⟨xs, h1, h2, h3⟩ := (hI.hp id hs hh).cells hph off (m * sz) hl
           refine ⟨some ⟨G.β id, o', none⟩, cap, xs, hxa, h1, h3, all_a1 h3 (fun c hc => hI.wh id hs hh c (List.mem_of_mem_drop (List.mem_of_mem_take hc))), fun j y hy => ⟨_, rfl, ?_⟩, hml⟩
           by_cases h0 : 0 < cap
           . obtain ⟨rfl, _⟩ := hoff h0
             exact h2 j y hy
           . have : m = 0 := by omega
             subst this
             have := (List.getElem?_eq_some_iff.1 hy).1
             simp [h1] at this
       . cases hc
   . cases hc
 . cases hc
end Go.Psl
namespace Go.Psl
variable {P : Program} {Γ : Tys} {eqs : Eqs} {E : Ent} {U U' : Nat -> Prop} {G : Gh} {st : St} {a : Act} {W : World}
theorem run_app_none {t ty e : TypeId} {y : Ty} (ht : P.underlying t = some (.slice e)) (hy : TyOk P e y) (w : World) (x : Value) (ao : Option Addr) (cap : Nat) (hx : x = .slice ao 0 cap) :
   (Builtin.append_ #[t, t] ty #[.slice none 0 0, x]).run P w = .ok (.slice none 0 0) w := by
 subst hx
 cases ao <;> simp [Builtin.append_, run_underlying ht, hy.sizeOf, Builtin.lenOf, Builtin.firstCells, loadCells, loadCellsFrom]
theorem run_first {size m : Nat} {ao : Option Addr} {cap : Nat} {xs : List Value} (w : World) (hl : xs.length = m * size) (hc : ∀ (j : Nat) y, xs[j]? = some y -> ∃ ad, ao = some ad /\ w.cell? (ad.add j) = some y) :
   (Builtin.firstCells size m (.slice ao m cap)).run P w = .ok xs.toArray w := by
 cases ao with
 | none =>
   have : xs = [] := by
     cases xs with
     | nil => rfl
     | cons x xs => obtain ⟨_, h, _⟩ := hc 0 x rfl; cases h
   subst this
   simp [Builtin.firstCells]
 | some ad =>
   exact run_firstCells_some w size m ad m cap xs hl fun j v hv => by
     obtain ⟨_, h, h2⟩ := hc j v hv
     cases h; exact h2
theorem run_app_room {t ty e : TypeId} {y : Ty} (ht : P.underlying t = some (.slice e)) (hy : TyOk P e y) (w : World) (g o n cap : Nat) (c : Array Value) (T : TypeId) (hg : RowO w.heap[g]? c T)
   (m : Nat) (ao : Option Addr) (cx : Nat) (xs : List Value) (hl : xs.length = m * y.size) (hc : ∀ (j : Nat) y, xs[j]? = some y -> ∃ ad, ao = some ad /\ w.cell? (ad.add j) = some y) (h1 : ∀ v ∈ xs, v.oneCell' = true)
   (hroom : n + m <= cap) (hfit : o + n * y.size + xs.length <= c.size) :
   (Builtin.append_ #[t, t] ty #[.slice (some ⟨g, o, none⟩) n cap, .slice ao m cx]).run P w =
     .ok (.slice (some ⟨g, o, none⟩) (n + m) cap) (w.setRow g (c.toList.take (o + n * y.size) ++ xs ++ c.toList.drop (o + n * y.size + xs.length)).toArray) := by
 have hf := run_first (P := P) (cap := cx) w hl hc
 have hst := run_storeCells_q P g (o + n * y.size) T xs 0 c w hg (by simpa using hfit) h1
 simp only [Nat.add_zero] at hst
 simp [Builtin.append_, run_underlying ht, hy.sizeOf, Builtin.lenOf, hroom, hf, add_plain, hst]
theorem run_app_grow {t ty e : TypeId} {y : Ty} (ht : P.underlying t = some (.slice e)) (hy : TyOk P e y) (w : World) (bo : Option Addr) (n cap : Nat) (os : List Value) (hlo : os.length = n * y.size) (hco : ∀ (j : Nat) z, os[j]? = some z -> ∃ ad, bo = some ad /\ w.cell? (ad.add j) = some z)
   (m : Nat) (ao : Option Addr) (cx : Nat) (xs : List Value) (hl : xs.length = m * y.size) (hc : ∀ (j : Nat) z, xs[j]? = some z -> ∃ ad, ao = some ad /\ w.cell? (ad.add j) = some z)
   (hg : cap < n + m) (h63 : n + m <= maxL) (hb : (n + m) * y.bytes <= maxA) :
   ∃ (z : List Value) (newCap : Nat), n + m <= newCap /\ z.length = (newCap - (n + m)) * y.size /\ (Builtin.append_ #[t, t] ty #[.slice bo n cap, .slice ao m cx]).run P w = .ok (.slice (some ⟨w.heap.size, 0, none⟩) (n + m) newCap) (w.drew.alloc (.cells (os.toArray ++ xs.toArray ++ z.toArray) e)) := by
 obtain ⟨i, zv, hi, hs, hby, hz, hzc⟩ := hy.info
 have hzs : zv.cells.size = y.size := by rw [<- Array.length_toList, hzc, hy.zl]
 have hn : ¬ (n + m <= cap) := by omega
 have h63' : ¬ (9223372036854775807 < ((n : Int) + (m : Int))) := by unfold maxL at h63; omega
 have hfit := growslice_fits hg hb
 have hfit' : ¬ (281474976710656 < Builtin.nextslicecap (n + m) cap * i.bytes) := by rw [hby]; omega
 have hf1 := run_first (P := P) (cap := cx) w.drew hl (fun j v hv => by obtain ⟨ad, h1, h2⟩ := hc j v hv; exact ⟨ad, h1, by simpa using h2⟩)
 have hf2 := run_first (P := P) (cap := cap) w.drew hlo (fun j v hv => by obtain ⟨ad, h1, h2⟩ := hco j v hv; exact ⟨ad, h1, by simpa using h2⟩)
 refine ⟨(Builtin.zeroCells zv.cells (grownCap w (n + m) cap e - (n + m))).toList, grownCap w (n + m) cap e, grownCap_ge w (n + m) cap e, by simp [size_zeroCells, hzs], ?_⟩
 have hzr : (zeroValue e).run P w.drew = .ok zv w.drew := by simp [zeroValue, typeInfo, hi, hz]
 have hsz : (sizeOf e).run P w = .ok i.size w := by simp [sizeOf, typeInfo, hi]
 rw [<- hs] at hf1 hf2
 simp only [Array.toArray_toList]
 simp [Builtin.append_, run_underlying ht, hsz, typeInfo, hi, Builtin.lenOf, hn, h63', hfit', Question.forced, hf1, hf2, hz, zeroValue, newRow, grownCap]
 congr 2
 apply Array.ext'
 simp [List.append_assoc]
theorem Inv.trunc (hI : Inv E U G st a W) {id : Nat} {cs : List V} (hh : st.H id = some cs) (hlo : G.lo id = false) (n : Nat) : Inv E U G ⟨st.fr, upd st.H id (some (cs.take n)), st.nx⟩ a W := by
 have hs : ∀ i x, upd st.H id (some (cs.take n)) i = some x -> (i = id /\ x = cs.take n) \/ (i ≠ id /\ st.H i = some x) := fun i x h => by
   simp only [upd_at] at h
   split at h
   . rename_i e; cases h; exact .inl ⟨e, rfl⟩
   . rename_i e; exact .inr ⟨e, h⟩
 have hs' : ∀ i, (upd st.H id (some (cs.take n)) i).isSome = true -> (st.H i).isSome = true := fun i h => by
   obtain ⟨x, hx⟩ := Option.isSome_iff_exists.1 h
   rcases hs i x hx with ⟨rfl, _⟩ | ⟨_, h3⟩
   . rw [hh]; rfl
   . rw [h3]; rfl
 refine { hI with hp := fun i x h => ?_, wh := fun i x h => ?_, dom := fun i h => hI.dom i (hs' i h), inj := fun i j hi hj => hI.inj i j (hs' i hi) (hs' j hj), own := fun i hi => hI.own i (hs' i hi), stab := fun i h hi => hI.stab i h (hs' i hi) }
 . rcases hs i x h with ⟨rfl, rfl⟩ | ⟨_, h3⟩
   . rcases hI.hp i cs hh with ⟨h1, h2⟩ | ⟨h1, h0, h2, c, T, h3, h4, h5, h6, h7⟩ | ⟨_, h0, _⟩
     . exact .inl ⟨h1, by rw [h2]; simp⟩
     rotate_left
     . rw [hlo] at h0; cases h0
     . refine .inr (.inl ⟨h1, h0, h2, c, T, h3, h4, by simp; omega, ?_, List.all_eq_true.2 fun y hy => List.all_eq_true.1 h7 y (List.mem_of_mem_take hy)⟩)
       have := h6.take n
       rw [List.take_take] at this
       simpa [List.length_take] using this
   . exact hI.hp i x h3
 . rcases hs i x h with ⟨rfl, rfl⟩ | ⟨_, h3⟩
   . exact fun y hy => hI.wh i cs hh y (List.mem_of_mem_take hy)
   . exact hI.wh i x h3
theorem run_app_zero {t ty e : TypeId} {y : Ty} (ht : P.underlying t = some (.slice e)) (hy : TyOk P e y) (w : World) (ad : Addr) (n cap : Nat) (hn : n <= cap) (ao : Option Addr) (cx : Nat) :
   (Builtin.append_ #[t, t] ty #[.slice (some ad) n cap, .slice ao 0 cx]).run P w = .ok (.slice (some ad) n cap) w := by
 cases ao <;> simp [Builtin.append_, run_underlying ht, hy.sizeOf, Builtin.lenOf, hn, Builtin.firstCells, loadCells, loadCellsFrom, storeCells]
theorem app_out (hΓ : GOk P Γ) (hI : Inv E U G st a W) {o : Oper} {c : Call} {t : TypeId} {s x : Operand} (ho : o.op = .call c) (hc : c.callee = .builtin .append) (hca : c.args.toList = [s, x]) (hct : c.argTypes.toList = [t, t]) {b : Nat} (hb : ¬ U b) (hU : ∀ i, U i -> U' i) (hb' : U' b) {v : V} {e : Eff}
   (he : appF Γ st.H b t (evF st.fr s) (evF st.fr x) = some (v, e)) : Out P E U' st a W o v e := by
 obtain ⟨hs, hsw⟩ := hI.op s
 obtain ⟨hx, hxw⟩ := hI.op x
 have hrun : ∀ z W', (Builtin.append_ #[t, t] o.type #[a.eval s, a.eval x]).run P W = .ok z W' -> (execOp a.eval o).run P W = .ok (.value z) W' := fun z W' hz => by
   have h1 : c.args = #[s, x] := Array.ext' (by simpa using hca)
   have h2 : c.argTypes = #[t, t] := Array.ext' (by simpa using hct)
   simp [execOp, ho, resolve, hc, invoke, builtin, h1, h2, hz]
 unfold appF at he
 cases hty : Γ t with
 | none => simp [hty] at he
 | some ty =>
   simp only [hty, Option.bind_some] at he
   split at he <;> first | (cases he; done) | skip
   rename_i el hsh
   cases hel : Γ el with
   | none => simp [hel] at he
   | some ye =>
     simp only [hel, Option.bind_some] at he
     split at he
     . cases he
     rename_i hcond
     have hpos : 0 < ye.size := by omega
     have hsame : sameId (evF st.fr s) (evF st.fr x) = false := by
       cases h : sameId (evF st.fr s) (evF st.fr x)
       . rfl
       . exact absurd (.inr h) hcond
     have ht := und_slice (hΓ t ty hty) hsh
     have hye := hΓ el ye hel
     cases hcl : cellsOf st.H ye.size (evF st.fr x) with
     | none => simp [hcl] at he
     | some p =>
       obtain ⟨m, cs⟩ := p
       simp only [hcl, Option.bind_some] at he
       obtain ⟨ao, capx, xs, hxa, hxl, hxr, hxok, hxc, _⟩ := src_cells hI hpos hx hxw hcl
       split at he
       rotate_left
       . cases he
       rename_i hall
       have h1 := all_oneCell hxr hall
       have hcsl := hxr.length
       have fromNil : a.eval s = .slice none 0 0 -> m * ye.bytes <= maxA -> m <= maxL -> ∃ n z W' G', (execOp a.eval o).run P W = .ok n W' /\ (n = .value z \/ (n = .skip /\ z = undef)) /\ Inv E U' G' ⟨st.fr, upd st.H b (some cs), st.nx⟩ a W' /\ RV G' W' (.ls b 0 m ye.size) z := fun hsa hmb hml => by
         rw [hsa, hxa] at hrun
         by_cases hm : m = 0
         . subst hm
           have hcs : cs = [] := List.eq_nil_of_length_eq_zero (by rw [hcsl, hxl]; simp)
           subst hcs
           obtain ⟨G', hI', hph, _⟩ := hI.phantom hb hU hb'
           exact ⟨_, .slice none 0 0, W, G', hrun _ _ (run_app_none ht hye W _ ao capx rfl), .inl rfl, hI', by simp [maxL], .inl ⟨hph, rfl, rfl⟩⟩
         . obtain ⟨z, nc, hnc, hzl, hr⟩ := run_app_grow (P := P) (ty := o.type) ht hye W none 0 0 [] (by simp) (by simp) m ao capx xs hxl hxc (by omega) (by omega) (by simpa using hmb)
           simp only [Nat.zero_add] at hr hnc hzl
           obtain ⟨G', hI', e1, e2, e3, _⟩ := hI.alloc (W1 := W.drew) (T := el) hb hU hb' (cs := cs) (c := (#[] ++ xs.toArray ++ z.toArray)) rfl rfl rfl rfl (by simp; omega) (by simpa [hcsl] using hxr) hall hxok
           refine ⟨_, _, _, G', hrun _ _ hr, .inl rfl, hI', hml, .inr ⟨e3, 0, nc, by rw [e1], hnc, fun _ => ⟨rfl, ?_⟩⟩⟩
           rw [e2]
           have e4 : nc * ye.size = m * ye.size + (nc - m) * ye.size := by rw [<- Nat.add_mul]; congr 1; omega
           simp only [Array.size_append, List.size_toArray, hzl, hxl]
           simp
           omega
       split at he
       . rename_i u n cc hsv
         split at he
         . rename_i hbd
           cases he
           have hfl := lit_flat (hsv ▸ hs)
           have hsa := rv_lit (hsv ▸ hs)
           simp only [flatV, Bool.and_eq_true, beq_iff_eq, Option.isNone_iff_eq_none] at hfl
           obtain ⟨⟨rfl, rfl⟩, rfl⟩ := hfl
           obtain ⟨n, z, W', G', q1, q2, q3, q4⟩ := fromNil hsa hbd.1 hbd.2
           exact ⟨n, z, W', G', q1, q2, q3, q4, hb'⟩
         . cases he
       . rename_i id len sz hsv
         split at he
         rotate_left
         . cases he
         rename_i hsz
         subst hsz
         cases hh : st.H id with
         | none => simp [hh] at he
         | some hs0 =>
           simp only [hh, Option.bind_some] at he
           split at he
           rotate_left
           . cases he
           rename_i hbd
           obtain ⟨hfit, hbb, hml⟩ := hbd
           cases he
           rw [hsv] at hs hsw
           have hidb : id ≠ b := fun e => hb (e ▸ hsw)
           obtain ⟨hlm, ⟨hph, h0, hsa⟩ | ⟨hph, o', cap, hsa, hcap, hoff⟩⟩ := hs
           . subst h0
             obtain ⟨n, z, W', G', q1, q2, q3, q4⟩ := fromNil hsa (by simpa using hbb) (by simpa using hml)
             refine ⟨n, z, W', G', q1, q2, ?_, by simpa using q4, hb'⟩
             have := q3.drop id
             have e : upd (upd st.H id none) b (some (hs0.take (0 * ye.size) ++ cs)) = upd (upd st.H b (some cs)) id none := by
               funext i
               simp only [upd, Nat.zero_mul, List.take_zero, List.nil_append]
               by_cases h1 : i = b <;> by_cases h2 : i = id <;> simp_all
             show Inv E U' G' ⟨st.fr, upd (upd st.H id none) b (some (hs0.take (0 * ye.size) ++ cs)), st.nx⟩ a W'
             rw [e]; exact this
           . obtain ⟨hnim, cb, T, hg, hbs, hcl0, hcr, hca0⟩ := (hI.hp id hs0 hh).read hph
             have hold : All2 (R1 G W) (hs0.take (len * ye.size)) (cb.toList.take (len * ye.size)) := by
               have := hcr.take (len * ye.size)
               rwa [List.take_take, Nat.min_eq_left hfit] at this
             have hallnew : (hs0.take (len * ye.size) ++ cs).all V.isCell = true := by
               simp only [List.all_append, Bool.and_eq_true]
               exact ⟨List.all_eq_true.2 fun y hy => List.all_eq_true.1 hca0 y (List.mem_of_mem_take hy), hall⟩
             have hoknew : ∀ y ∈ hs0.take (len * ye.size) ++ cs, A1 U anyD y := fun y hy => by
               rcases List.mem_append.1 hy with hy | hy
               . exact all_a1 hcr (hI.wh id hs0 hh) y (List.mem_of_mem_take hy)
               . exact hxok y hy
             have hlen : (hs0.take (len * ye.size) ++ cs).length = (len + m) * ye.size := by
               simp [Nat.add_mul]; omega
             rw [hsa, hxa] at hrun
             by_cases hm0 : m = 0
             . subst hm0
               have hcs : cs = [] := List.eq_nil_of_length_eq_zero (by rw [hcsl, hxl]; simp)
               subst hcs
               have h2 := hI.trunc hh hph.2 (len * ye.size)
               obtain ⟨G', hI', e1, e2, e3, hchg⟩ := h2.rename (cs := hs0.take (len * ye.size)) (b := b) (id := id) (by simp [upd]) hph hb hU hb'
               refine ⟨_, .slice (some ⟨G.β id, o', none⟩) len cap, W, G', hrun _ _ (run_app_zero ht hye W _ len cap hcap ao capx), .inl rfl, ?_, ⟨by simpa using hml, .inr ⟨e3, o', cap, by rw [e1]; rfl, by simpa using hcap, fun h0 => ?_⟩⟩, hb'⟩
               . have e : upd (upd (upd st.H id (some (hs0.take (len * ye.size)))) id none) b (some (hs0.take (len * ye.size))) = upd (upd st.H id none) b (some (hs0.take (len * ye.size) ++ [])) := by
                   funext i; simp only [upd, List.append_nil]; by_cases h1 : i = b <;> by_cases h2 : i = id <;> simp_all
                 have := hI'; rw [e] at this; exact this
               . rw [e2]; exact hoff h0
             by_cases hroom : len + m <= cap
             . obtain ⟨rfl, hb2⟩ := hoff (by omega)
               have hmul : (len + m) * ye.size <= cap * ye.size := Nat.mul_le_mul_right _ hroom
               have hmul2 : (len + m) * ye.size = len * ye.size + m * ye.size := Nat.add_mul _ _ _
               have hr := run_app_room (P := P) (ty := o.type) ht hye W (G.β id) 0 len cap cb T hg m ao capx xs hxl hxc h1 hroom (by omega)
               obtain ⟨h2, _⟩ := hI.put hh hph (cs := hs0.take (len * ye.size) ++ cs) (hg.set (d := (cb.toList.take (0 + len * ye.size) ++ xs ++ cb.toList.drop (0 + len * ye.size + xs.length)).toArray) (by simp; omega)) (fun k hk => setRow_other W _ k _ hk) (by simp) rfl rfl rfl
                 (by simp; omega) (by rw [hlen]; simp; omega) (by
                   rw [hlen, hmul2, <- hxl]
                   have : (cb.toList.take (0 + len * ye.size) ++ xs ++ cb.toList.drop (0 + len * ye.size + xs.length)).toArray.toList.take (len * ye.size + xs.length) = cb.toList.take (len * ye.size) ++ xs := by
                     simp only [Nat.zero_add]
                     rw [List.take_append, List.take_of_length_le (by simp; omega)]
                     simp only [List.length_append, List.length_take, Array.length_toList]
                     rw [show len * ye.size + xs.length - (min (len * ye.size) cb.size + xs.length) = 0 by omega]
                     simp
                   rw [this]
                   exact hold.append hxr) hallnew hoknew
               obtain ⟨G', hI', e1, e2, e3, hchg⟩ := h2.rename (cs := hs0.take (len * ye.size) ++ cs) (b := b) (id := id) (by simp [upd]) hph hb hU hb'
               refine ⟨_, _, _, G', hrun _ _ hr, .inl rfl, ?_, ⟨hml, .inr ⟨e3, 0, cap, by rw [e1], hroom, fun _ => ⟨rfl, by rw [e2]; omega⟩⟩⟩, hb'⟩
               have e : upd (upd (upd st.H id (some (hs0.take (len * ye.size) ++ cs))) id none) b (some (hs0.take (len * ye.size) ++ cs)) = upd (upd st.H id none) b (some (hs0.take (len * ye.size) ++ cs)) := by
                 funext i; simp only [upd]; by_cases h1 : i = b <;> by_cases h2 : i = id <;> simp_all
               have := hI'; rw [e] at this; exact this
             . have hco : ∀ (j : Nat) z, (cb.toList.take (len * ye.size))[j]? = some z -> ∃ ad, (some ⟨G.β id, o', none⟩ : Option Addr) = some ad /\ W.cell? (ad.add j) = some z := fun j z hz => by
                 refine ⟨_, rfl, ?_⟩
                 rw [List.getElem?_take] at hz
                 split at hz
                 . rename_i hj
                   have hlp : 0 < cap := by
                     rcases Nat.eq_zero_or_pos len with h0 | h0
                     . subst h0; simp at hj
                     . omega
                   obtain ⟨rfl, _⟩ := hoff hlp
                   rw [add_plain]
                   obtain ⟨fz, hg1, _⟩ := hg
                   simp only [World.cell?, hg1, Nat.zero_add]
                   simpa using hz
                 . cases hz
               obtain ⟨z, nc, hnc, hzl, hr⟩ := run_app_grow (P := P) (ty := o.type) ht hye W (some ⟨G.β id, o', none⟩) len cap (cb.toList.take (len * ye.size)) (by simp; omega) hco m ao capx xs hxl hxc (by omega) hml hbb
               have hmul2 : (len + m) * ye.size = len * ye.size + m * ye.size := Nat.add_mul _ _ _
               obtain ⟨G', hI', e1, e2, e3, _⟩ := hI.alloc (W1 := W.drew) (T := el) hb hU hb' (cs := hs0.take (len * ye.size) ++ cs) (c := ((cb.toList.take (len * ye.size)).toArray ++ xs.toArray ++ z.toArray)) rfl rfl rfl rfl (by rw [hlen]; simp; omega) (by
                   rw [hlen, hmul2, <- hxl]
                   have : ((cb.toList.take (len * ye.size)).toArray ++ xs.toArray ++ z.toArray).toList.take (len * ye.size + xs.length) = cb.toList.take (len * ye.size) ++ xs := by
                     simp only [Array.toList_append]
                     rw [List.take_append, List.take_of_length_le (by simp; omega)]
                     simp only [List.length_append, List.length_take, Array.length_toList]
                     rw [show len * ye.size + xs.length - (min (len * ye.size) cb.size + xs.length) = 0 by omega]
                     simp
                   rw [this]
                   exact hold.append hxr) hallnew hoknew
               have h3 := hI'.drop id
               refine ⟨_, _, _, G', hrun _ _ hr, .inl rfl, ?_, ⟨hml, .inr ⟨e3, 0, nc, by rw [e1], hnc, fun _ => ⟨rfl, ?_⟩⟩⟩, hb'⟩
               . have e : upd (upd st.H b (some (hs0.take (len * ye.size) ++ cs))) id none = upd (upd st.H id none) b (some (hs0.take (len * ye.size) ++ cs)) := by
                   funext i; simp only [upd]; by_cases h1 : i = b <;> by_cases h2 : i = id <;> simp_all
                 have := h3
                 simp only at this
                 rw [e] at this; exact this
               . rw [e2]
                 have e4 : nc * ye.size = (len + m) * ye.size + (nc - (len + m)) * ye.size := by rw [<- Nat.add_mul]; congr 1; omega
                 simp only [Array.size_append, List.size_toArray, hzl, hxl, List.length_take, Array.length_toList]
                 omega
       . cases he
end Go.Psl
namespace Go.Psl
variable {P : Program} {Γ : Tys} {eqs : Eqs} {E : Ent} {U U' : Nat -> Prop} {G : Gh} {st : St} {a : Act} {W : World}
theorem tup_nil : RV G W (.tup []) undef := ⟨#[], rfl, trivial⟩
theorem repl_len {n : Nat} {zs : List V} : (repl n zs).length = n * zs.length := by
 unfold repl
 rw [flatten_len (sz := zs.length) _ (fun e he => by rw [(List.eq_of_mem_replicate he)])]
 simp
theorem repl_mem {n : Nat} {zs : List V} {x : V} (h : x ∈ repl n zs) : x ∈ zs := by
 simp only [repl, List.mem_flatten] at h
 obtain ⟨l, hl, hx⟩ := h
 rwa [List.eq_of_mem_replicate hl] at hx
theorem repl_rel {n : Nat} {el : TypeId} {ye : Ty} (hTe : TyOk P el ye) (hpos : 0 < ye.size) {z : Value} (hzc : z.cells.toList = ye.zero) : All2 (R1 G W) (repl n (ye.zero.map cV)) (Builtin.zeroCells z.cells n).toList := by
 have hzl : z.cells.size = ye.size := by rw [<- Array.length_toList, hzc, hTe.zl]
 have hsz0 : (Builtin.zeroCells z.cells n).size = n * ye.size := by simp [Builtin.zeroCells, hzl]
 refine All2.of_get ?_ fun i x y hx hy => ?_
 . rw [repl_len]; simp [hTe.zl, hsz0]
 . have hi : i < n * ye.size := by
     have := (List.getElem?_eq_some_iff.1 hy).1
     rw [Array.length_toList, hsz0] at this
     exact this
   unfold repl at hx
   rw [flatten_get hpos _ (fun e he => by rw [(List.eq_of_mem_replicate he)]; simp [hTe.zl])] at hx
   have h1 : i / ye.size < n := by rw [Nat.div_lt_iff_lt_mul hpos]; exact hi
   rw [List.getElem?_replicate, if_pos h1] at hx
   simp only [Option.bind_some, List.getElem?_map] at hx
   have hm : i % ye.size < ye.size := Nat.mod_lt _ hpos
   obtain ⟨w0, hw0⟩ : ∃ w0, z.cells[i % ye.size]? = some w0 := ⟨z.cells[i % ye.size]'(by rw [hzl]; exact hm), Array.getElem?_eq_getElem _⟩
   have hzi : ye.zero[i % ye.size]? = some w0 := by rw [<- hzc, Array.getElem?_toList]; exact hw0
   rw [hzi] at hx
   simp only [Option.map_some, Option.some.injEq] at hx
   subst hx
   have hy2 : y = w0 := by
     have hlt : i < n * z.cells.size := by rw [hzl]; exact hi
     simp [Builtin.zeroCells, getElem!_def, hzl] at hy
     obtain ⟨k, hk, hy⟩ := hy
     rw [List.getElem?_range (by rw [hzl] at hlt; exact hlt)] at hk
     cases hk
     rw [hw0] at hy
     exact hy.symm
   subst hy2
   exact RD.lit _ (List.all_eq_true.1 hTe.zf _ (List.mem_of_getElem? hzi))
theorem clear_out (hΓ : GOk P Γ) (hI : Inv E U G st a W) {o : Oper} {c : Call} {x : Operand} {t : TypeId} (ho : o.op = .call c) (hc : c.callee = .builtin .clear) (ha : c.args.toList = [x]) (ht : c.argTypes.toList = [t]) {v : V} {e : Eff}
   (he : clearF Γ st.H t (evF st.fr x) = some (v, e)) : Out P E U st a W o v e := by
 obtain ⟨hx, _⟩ := hI.op x
 have hrun : ∀ W', (Builtin.clear_ #[t] o.type #[a.eval x]).run P W = .ok undef W' -> (execOp a.eval o).run P W = .ok (.value undef) W' := fun W' hz => by
   have h1 : c.args = #[x] := Array.ext' (by simpa using ha)
   have h2 : c.argTypes = #[t] := Array.ext' (by simpa using ht)
   simp [execOp, ho, resolve, hc, invoke, builtin, h1, h2, hz]
 unfold clearF at he
 cases hty : Γ t with
 | none => simp [hty] at he
 | some ty =>
   simp only [hty, Option.bind_some] at he
   have hT := hΓ t ty hty
   split at he <;> first | (cases he; done) | skip
   rename_i el hsh
   cases hel : Γ el with
   | none => simp [hel] at he
   | some ye =>
     simp only [hel, Option.bind_some] at he
     have hTe := hΓ el ye hel
     split at he
     . rename_i h1
       cases he
       rw [h1] at hx
       have hxa := rv_lit hx
       rw [hxa] at hrun
       refine Out.pure hI (hrun W ?_) tup_nil (fun _ h => by cases h)
       simp [Builtin.clear_, run_underlying (und_slice hT hsh)]
       rfl
     . rename_i id off len sz h1
       rw [h1] at hx
       split at he
       . rename_i h0
         cases he
         refine Out.pure hI (hrun W ?_) tup_nil (fun _ h => by cases h)
         subst h0
         rcases hx.2 with ⟨_, _, hxa⟩ | ⟨_, o', cap, hxa, _⟩ <;> rw [hxa]
         . simp [Builtin.clear_, run_underlying (und_slice hT hsh)]; rfl
         . simp [Builtin.clear_, run_underlying (und_slice hT hsh)]; rfl
       . rename_i h0
         split at he
         . rename_i hs
           obtain ⟨hsz, hpos⟩ := hs
           cases hh : st.H id with
           | none => simp [hh] at he
           | some cs =>
             simp only [hh, Option.bind_some] at he
             split at he
             . rename_i hle
               cases he
               rcases hx.2 with ⟨_, h, _⟩ | ⟨hph, o', cap, hxa, hcap, ho'⟩
               . exact absurd h h0
               obtain ⟨rfl, hbd⟩ := ho' (by omega)
               obtain ⟨hnim, c, T, hb, hbs, hcl, hcr, hca⟩ := (hI.hp id cs hh).read hph
               obtain ⟨z, hz, hzc⟩ := hTe.zeroValue W
               have hrel : All2 (R1 G W) (repl len (ye.zero.map cV)) (Builtin.zeroCells z.cells len).toList := repl_rel hTe (by omega) hzc
               have hlen := hrel.length
               have hlr : (repl len (ye.zero.map cV)).length = len * sz := by rw [repl_len, List.length_map, hTe.zl, hsz]
               have hone : ∀ x ∈ (Builtin.zeroCells z.cells len).toList, x.oneCell' = true := all_oneCell hrel (List.all_eq_true.2 fun x hx => List.all_eq_true.1 (zero_all ye.zero) x (repl_mem hx))
               have hst := run_storeCells_q P (G.β id) o' T (Builtin.zeroCells z.cells len).toList 0 c W hb (by omega) hone
               obtain ⟨hI', hchg⟩ := hI.put hh hph (cs := splice cs o' (repl len (ye.zero.map cV))) (c := (c.toList.take o' ++ (Builtin.zeroCells z.cells len).toList ++ c.toList.drop (o' + (Builtin.zeroCells z.cells len).toList.length)).toArray) (T := T)
                 (W' := W.setRow (G.β id) (c.toList.take o' ++ (Builtin.zeroCells z.cells len).toList ++ c.toList.drop (o' + (Builtin.zeroCells z.cells len).toList.length)).toArray)
                 (hb.set (by simp at *; omega)) (fun k hk => setRow_other W _ k _ hk) (by simp) rfl rfl rfl
                 (by simp at *; omega) (by simp [splice] at *; omega)
                 (by simpa using splice_rel hcr (by simpa using hcl) hrel o' (by omega)) (splice_all o' hca (List.all_eq_true.2 fun x hx => List.all_eq_true.1 (zero_all ye.zero) x (repl_mem hx))) (splice_mem o' (all_a1 hcr (hI.wh id cs hh)) (fun x hx => zero_ok _ x (repl_mem hx)))
               refine ⟨.value undef, undef, _, G, hrun _ ?_, .inl rfl, hI', tup_nil, fun _ h => by cases h⟩
               rw [hxa]
               simp only [Nat.add_zero] at hst
               obtain ⟨len', rfl⟩ : ∃ l, len = l + 1 := ⟨len - 1, by omega⟩
               generalize (c.toList.take o' ++ (Builtin.zeroCells z.cells (len' + 1)).toList ++ c.toList.drop (o' + (Builtin.zeroCells z.cells (len' + 1)).toList.length)).toArray = cc at hst ⊢
               simp [Builtin.clear_, run_underlying (und_slice hT hsh), hz]
               rw [hst]
               rfl
             . cases he
         . cases he
     . cases he
end Go.Psl
