/- Own lemmas, used by the last text. Conditions: those that each theorem states. -/
import Derived.Lib.ConvBytes
import Derived.Test.YtcmmbjblncfhbaaGreatDoorOaab
set_option maxRecDepth 200000
set_option maxHeartbeats 8000000
namespace Go.Psl
variable {P : Program} {Γ : Tys} {eqs : Eqs} {E : Ent} {U U' : Nat -> Prop} {G : Gh} {st : St} {a : Act} {W : World}
theorem capF_out (hΓ : GOk P Γ) (hI : Inv E U G st a W) {o : Oper} {c : Call} {x : Operand} {t : TypeId} (ho : o.op = .call c) (hc : c.callee = .builtin .cap) (ha : c.args.toList = [x]) (ht : c.argTypes.toList = [t]) {v : V} {e : Eff}
   (he : capF Γ t (evF st.fr x) = some (v, e)) : Out P E U st a W o v e := by
 obtain ⟨hx, _⟩ := hI.op x
 have hrun : ∀ z, (Builtin.cap_ #[t] o.type #[a.eval x]).run P W = .ok z W -> (execOp a.eval o).run P W = .ok (.value z) W := fun z hz => by
   have h1 : c.args = #[x] := Array.ext' (by simpa using ha)
   have h2 : c.argTypes = #[t] := Array.ext' (by simpa using ht)
   simp [execOp, ho, resolve, hc, invoke, builtin, h1, h2, hz]
 unfold capF at he
 cases hty : Γ t with
 | none => simp [hty] at he
 | some ty =>
   simp only [hty, Option.bind_some] at he
   have hT := hΓ t ty hty
   split at he <;> first | (cases he; done) | skip
   rename_i el u n cc hsh h1
   cases he
   rw [h1] at hx
   have hfl := lit_flat hx
   have hxa := rv_lit hx
   simp only [flatV, Bool.and_eq_true, beq_iff_eq, Option.isNone_iff_eq_none] at hfl
   obtain ⟨⟨rfl, rfl⟩, rfl⟩ := hfl
   rw [hxa] at hrun
   refine Out.pure hI (hrun (.int .i64 0) ?_) (lit_rv rfl) trivial
   simp [Builtin.cap_, run_underlying (und_slice hT hsh), goInt]
theorem run_zer {t t' ty e : TypeId} {y : Ty} {k k' : IntKind} (ht : P.underlying t = some (.slice e)) (ht' : P.underlying t' = some (.int k')) (hy : TyOk P e y) (w : World) (n : Nat) (hn : 0 < n) (hpos : 0 < y.size) (h63 : n <= maxL) (hb : n * y.bytes <= maxA) :
   ∃ (zv : Value) (newCap : Nat), zv.cells.toList = y.zero /\ n <= newCap /\ (Builtin.append_ #[t, t'] ty #[.slice none 0 0, .int k n]).run P w = .ok (.slice (some ⟨w.heap.size, 0, none⟩) n newCap) (w.drew.alloc (.cells (Builtin.zeroCells zv.cells n ++ Builtin.zeroCells zv.cells (newCap - n)) e)) := by
 obtain ⟨i, zv, hi, hs, hby, hz, hzc⟩ := hy.info
 have hwr : IntKind.i64.wrap (n : Int) = n := by
   have : ∀ m : Int, m = (n : Int) % 18446744073709551616 -> (if m >= 9223372036854775808 then m - 18446744073709551616 else m) = (n : Int) := fun m hm => by unfold maxL at h63; split <;> omega
   simpa [IntKind.wrap, IntKind.bits, IntKind.signed] using this _ rfl
 have h1 : ¬ ((n : Int) < 0) := by omega
 have h2 : ¬ (281474976710656 < (n : Int) * (i.bytes : Int)) := by
   rw [hby]; unfold maxA at hb
   have : (n : Int) * (y.bytes : Int) = ((n * y.bytes : Nat) : Int) := by simp
   rw [this]; omega
 have h3 : ¬ (n <= 0) := by omega
 have hnle : ¬ ((n : Int) <= 0) := by omega
 have h63' : ¬ (9223372036854775807 < (n : Int)) := by unfold maxL at h63; omega
 have hfit := growslice_fits (need := n) (old := 0) (by omega) hb
 have hfit' : ¬ (281474976710656 < Builtin.nextslicecap n 0 * i.bytes) := by rw [hby]; omega
 refine ⟨zv, grownCap w n 0 e, hzc, grownCap_ge w n 0 e, ?_⟩
 have hsz : (sizeOf e).run P w = .ok i.size w := by simp [sizeOf, typeInfo, hi]
 have hsz0 : ¬ n * i.size = 0 := by rw [hs]; exact Nat.ne_of_gt (Nat.mul_pos hn hpos)
 have hn0 : ¬ n = 0 := by omega
 have hs0 : ¬ i.size = 0 := by omega
 simp [Builtin.append_, asInt, asIntOf, Builtin.firstCells, hsz0, hn0, run_underlying ht, run_underlying ht', hsz, typeInfo, hi, Builtin.lenOf, hwr, h1, h2, h63', hfit', Question.forced, hz, zeroValue, newRow, grownCap]
theorem run_zer0 {t t' ty e : TypeId} {y : Ty} {k k' : IntKind} (ht : P.underlying t = some (.slice e)) (ht' : P.underlying t' = some (.int k')) (hy : TyOk P e y) (w : World) :
   (Builtin.append_ #[t, t'] ty #[.slice none 0 0, .int k 0]).run P w = .ok (.slice none 0 0) w := by
 obtain ⟨i, zv, hi, hs, hby, hz, hzc⟩ := hy.info
 have hwr : IntKind.i64.wrap 0 = 0 := by decide
 have hsz : (sizeOf e).run P w = .ok i.size w := by simp [sizeOf, typeInfo, hi]
 simp [Builtin.append_, asInt, asIntOf, run_underlying ht, run_underlying ht', hsz, typeInfo, hi, hwr]
theorem zerF_out (hΓ : GOk P Γ) (hI : Inv E U G st a W) {o : Oper} {c : Call} {t t' : TypeId} {s x : Operand} (ho : o.op = .call c) (hc : c.callee = .builtin .append) (hca : c.args.toList = [s, x]) (hct : c.argTypes.toList = [t, t']) {b : Nat} (hb : ¬ U b) (hU : ∀ i, U i -> U' i) (hb' : U' b) {v : V} {e : Eff}
   (he : zerF Γ b t t' (evF st.fr s) (evF st.fr x) = some (v, e)) : Out P E U' st a W o v e := by
 obtain ⟨hs, hsw⟩ := hI.op s
 obtain ⟨hx, hxw⟩ := hI.op x
 have hrun : ∀ z W', (Builtin.append_ #[t, t'] o.type #[a.eval s, a.eval x]).run P W = .ok z W' -> (execOp a.eval o).run P W = .ok (.value z) W' := fun z W' hz => by
   have h1 : c.args = #[s, x] := Array.ext' (by simpa using hca)
   have h2 : c.argTypes = #[t, t'] := Array.ext' (by simpa using hct)
   simp [execOp, ho, resolve, hc, invoke, builtin, h1, h2, hz]
 unfold zerF at he
 cases hty : Γ t with
 | none => simp [hty] at he
 | some ty =>
   simp only [hty, Option.bind_some] at he
   split at he <;> first | (cases he; done) | skip
   rename_i el hsh
   cases hel : Γ el with
   | none => simp [hel] at he
   | some ye =>
     simp only [hel, Option.bind_some] at he
     cases hti : Γ t' with
     | none => simp [hti] at he
     | some ti =>
       simp only [hti, Option.bind_some] at he
       split at he <;> first | (cases he; done) | skip
       rename_i k' u nn cc kk n hshi h1 h2
       split at he
       rotate_left
       . cases he
       rename_i hcond
       obtain ⟨hpos, hn0, hmb, hml⟩ := hcond
       cases he
       rw [h1] at hs
       rw [h2] at hx
       have hfl := lit_flat hs
       have hsa := rv_lit hs
       have hxa := rv_lit hx
       simp only [flatV, Bool.and_eq_true, beq_iff_eq, Option.isNone_iff_eq_none] at hfl
       obtain ⟨⟨rfl, rfl⟩, rfl⟩ := hfl
       have ht := und_slice (hΓ t ty hty) hsh
       have ht' := und_int (hΓ t' ti hti) hshi
       have hye := hΓ el ye hel
       rw [hsa, hxa] at hrun
       obtain ⟨m, rfl⟩ : ∃ m : Nat, n = m := ⟨n.toNat, by omega⟩
       simp only [Int.toNat_natCast] at hmb hml ⊢
       by_cases hm : m = 0
       . subst hm
         obtain ⟨G', hI', hph, _⟩ := hI.phantom hb hU hb'
         refine ⟨_, .slice none 0 0, W, G', hrun _ _ (run_zer0 ht ht' hye W), .inl rfl, ?_, ⟨by simp [maxL], .inl ⟨hph, rfl, rfl⟩⟩, hb'⟩
         have e0 : repl 0 (ye.zero.map cV) = [] := rfl
         rw [e0]
         exact hI'
       . obtain ⟨zv, nc, hzc, hnc, hr⟩ := run_zer (k := kk) (ty := o.type) ht ht' hye W m (by omega) hpos hml hmb
         have hrel : All2 (R1 G W) (repl m (ye.zero.map cV)) (Builtin.zeroCells zv.cells m).toList := repl_rel hye hpos hzc
         have hzl : zv.cells.size = ye.size := by rw [<- Array.length_toList, hzc, hye.zl]
         have hsz0 : (Builtin.zeroCells zv.cells m).size = m * ye.size := by simp [Builtin.zeroCells, hzl]
         have hsz1 : (Builtin.zeroCells zv.cells (nc - m)).size = (nc - m) * ye.size := by simp [Builtin.zeroCells, hzl]
         have hz0 : (Builtin.zeroCells zv.cells m).toList.length = m * ye.size := by rw [Array.length_toList]; exact hsz0
         have hrl : (repl m (ye.zero.map cV)).length = m * ye.size := by rw [repl_len]; simp [hye.zl]
         have hall : (repl m (ye.zero.map cV)).all V.isCell = true := List.all_eq_true.2 fun x hx => List.all_eq_true.1 (zero_all ye.zero) x (repl_mem hx)
         have hok : ∀ y ∈ repl m (ye.zero.map cV), A1 U anyD y := fun y hy => by
           have := repl_mem hy
           obtain ⟨z, _, rfl⟩ := List.mem_map.1 this
           exact trivial
         obtain ⟨G', hI', e1, e2, e3, _⟩ := hI.alloc (W1 := W.drew) (T := el) hb hU hb' (cs := repl m (ye.zero.map cV)) (c := Builtin.zeroCells zv.cells m ++ Builtin.zeroCells zv.cells (nc - m)) rfl rfl rfl rfl (by rw [hrl, Array.size_append, hsz0]; omega) (by
           rw [Array.toList_append, List.take_append, List.take_of_length_le (by rw [hz0, hrl]; omega)]
           rw [show (repl m (ye.zero.map cV)).length - (Builtin.zeroCells zv.cells m).toList.length = 0 by rw [hz0, hrl]; omega]
           simpa using hrel) hall hok
         refine ⟨_, _, _, G', hrun _ _ hr, .inl rfl, hI', ⟨hml, .inr ⟨e3, 0, nc, by rw [e1], hnc, fun _ => ⟨rfl, ?_⟩⟩⟩, hb'⟩
         rw [e2, Array.size_append, hsz0, hsz1]
         have e4 : nc * ye.size = m * ye.size + (nc - m) * ye.size := by rw [<- Nat.add_mul]; congr 1; omega
         omega
end Go.Psl
namespace Go.Psl
variable {P : Program} {Γ : Tys} {eqs : Eqs} {E : Ent} {U U' : Nat -> Prop} {G : Gh} {st : St} {a : Act} {W : World}
theorem wrapL {n : Int} (h0 : 0 <= n) (h1 : n <= maxL) : IntKind.i64.wrap n = n := by
 have : ∀ m : Int, m = n % 18446744073709551616 -> (if m >= 9223372036854775808 then m - 18446744073709551616 else m) = n := fun m hm => by unfold maxL at h1; split <;> omega
 simpa [IntKind.wrap, IntKind.bits, IntKind.signed] using this _ rfl
theorem run_mks {t e : TypeId} {y : Ty} {k k' : IntKind} (ht : P.underlying t = some (.slice e)) (hy : TyOk P e y) (w : World) (n m : Nat) (hnm : n <= m) (h63 : m <= maxL) (hb : m * y.bytes <= maxA) :
   ∃ (zv : Value), zv.cells.toList = y.zero /\ (Instr.makeSlice t (.int k n) (.int k' m)).run P w = .ok (.slice (some ⟨w.heap.size, 0, none⟩) n m) (w.alloc (.cells ((Array.range (m * y.size)).map (zv.cells[· % zv.cells.size]!)) e)) := by
 obtain ⟨i, zv, hi, hs, hby, hz, hzc⟩ := hy.info
 have hwn := wrapL (n := (n : Int)) (by omega) (by omega)
 have hwm := wrapL (n := (m : Int)) (by omega) (by omega)
 have hsz : (sizeOf e).run P w = .ok i.size w := by simp [sizeOf, typeInfo, hi]
 have h2 : ¬ (281474976710656 < (i.bytes : Int) * (m : Int)) := by
   rw [hby]; unfold maxA at hb
   have : (y.bytes : Int) * (m : Int) = ((m * y.bytes : Nat) : Int) := by simp [Int.mul_comm]
   rw [this]; omega
 have h3 : ¬ ((m : Int) < 0) := by omega
 have h4 : ¬ ((n : Int) < 0) := by omega
 have h5 : ¬ ((m : Int) < (n : Int)) := by omega
 have hroom : ¬ (roomBytes < m * i.bytes) := by
   rw [hby]; unfold maxA at hb; unfold roomBytes; omega
 refine ⟨zv, hzc, ?_⟩
 have hzv : (zeroValue e).run P w = .ok zv w := by simp [zeroValue, typeInfo, hi, hz]
 by_cases h0 : m * i.size = 0
 . have h0' : m * y.size = 0 := by rw [<- hs]; exact h0
   simp [Instr.makeSlice, asInt, asIntOf, run_underlying ht, typeInfo, hi, hwn, hwm, h2, h3, h4, h5, hsz, h0, h0', newRow, askRoom]
   have hr0 : ∀ g : Nat -> Value, (Array.range 0).map g = #[] := fun g => Array.ext' (by simp)
   rw [hr0, hr0]
 . simp [Instr.makeSlice, asInt, asIntOf, run_underlying ht, typeInfo, hi, hwn, hwm, h2, h3, h4, h5, hsz, h0, hzv, newRow, askRoom]
   rw [hs]
theorem mks_out (hΓ : GOk P Γ) (hI : Inv E U G st a W) {o : Oper} {t : TypeId} {l c : Operand} (ho : o.op = .makeSlice t l c) {b : Nat} (hb : ¬ U b) (hU : ∀ i, U i -> U' i) (hb' : U' b) {v : V} {e : Eff}
   (he : mksF Γ b t (evF st.fr l) (evF st.fr c) = some (v, e)) : Out P E U' st a W o v e := by
 obtain ⟨hl, _⟩ := hI.op l
 obtain ⟨hc, _⟩ := hI.op c
 unfold mksF at he
 cases hty : Γ t with
 | none => simp [hty] at he
 | some ty =>
   simp only [hty, Option.bind_some] at he
   split at he <;> first | (cases he; done) | skip
   rename_i el hsh
   cases hel : Γ el with
   | none => simp [hel] at he
   | some ye =>
     simp only [hel, Option.bind_some] at he
     split at he <;> first | (cases he; done) | skip
     rename_i k n k' m h1 h2
     split at he
     rotate_left
     . cases he
     rename_i hcond
     obtain ⟨hpos, hn0, hnm, hmb, hml⟩ := hcond
     cases he
     rw [h1] at hl
     rw [h2] at hc
     have hla := rv_lit hl
     have hca := rv_lit hc
     have ht := und_slice (hΓ t ty hty) hsh
     have hye := hΓ el ye hel
     obtain ⟨n, rfl⟩ : ∃ q : Nat, n = q := ⟨n.toNat, by omega⟩
     obtain ⟨m, rfl⟩ : ∃ q : Nat, m = q := ⟨m.toNat, by omega⟩
     simp only [Int.toNat_natCast] at hmb ⊢
     obtain ⟨zv, hzc, hr⟩ := run_mks (k := k) (k' := k') ht hye W n m (by omega) (by omega) hmb
     have hzl : zv.cells.size = ye.size := by rw [<- Array.length_toList, hzc, hye.zl]
     have hrl : (repl n (ye.zero.map cV)).length = n * ye.size := by rw [repl_len]; simp [hye.zl]
     have hrel : All2 (R1 G W) (repl n (ye.zero.map cV)) (Builtin.zeroCells zv.cells n).toList := repl_rel hye hpos hzc
     have hcs : ((Array.range (m * ye.size)).map (zv.cells[· % zv.cells.size]!)).size = m * ye.size := by simp
     have hle : n * ye.size <= m * ye.size := Nat.mul_le_mul_right _ (by omega)
     have htake : ((Array.range (m * ye.size)).map (zv.cells[· % zv.cells.size]!)).toList.take (n * ye.size) = (Builtin.zeroCells zv.cells n).toList := by
       simp only [Builtin.zeroCells, Array.toList_map, Array.toList_range, hzl, <- List.map_take, List.take_range, Nat.min_eq_left hle]
     have hall : (repl n (ye.zero.map cV)).all V.isCell = true := List.all_eq_true.2 fun x hx => List.all_eq_true.1 (zero_all ye.zero) x (repl_mem hx)
     have hok : ∀ y ∈ repl n (ye.zero.map cV), A1 U anyD y := fun y hy => by
       have := repl_mem hy
       obtain ⟨z, _, rfl⟩ := List.mem_map.1 this
       exact trivial
     obtain ⟨G', hI', e1, e2, e3, _⟩ := hI.alloc (W1 := W) (T := el) hb hU hb' (cs := repl n (ye.zero.map cV)) (c := (Array.range (m * ye.size)).map (zv.cells[· % zv.cells.size]!)) rfl rfl rfl rfl (by rw [hrl, hcs]; exact hle) (by rw [hrl, htake]; exact hrel) hall hok
     refine ⟨_, _, _, G', ?_, .inl rfl, hI', ⟨by omega, .inr ⟨e3, 0, m, by rw [e1], by omega, fun _ => ⟨rfl, ?_⟩⟩⟩, hb'⟩
     . simp only [execOp, ho, hla, hca, hr, Sem.run_bind, Result.andThen_ok]
       rfl
     . rw [e2, hcs]; omega
end Go.Psl
namespace Go.Psl
variable {P : Program} {Γ : Tys} {eqs : Eqs} {E : Ent} {U U' : Nat -> Prop} {G : Gh} {st : St} {a : Act} {W : World}
theorem und_map {t k e : TypeId} {y : Ty} (h : TyOk P t y) (hs : y.sh = .map k e) : P.underlying t = some (.map k e) := by
 obtain ⟨d, hd, hk⟩ := h.und
 unfold ShOk at hk
 rw [hs] at hk
 cases d <;> simp_all
def keyD (d : TypeDesc) (key : Value) : Prop := (∃ k k' n, d = .int k /\ key = .int k' n) \/ (∃ s, d = .string /\ key = .string s) \/ ∃ b, d = .bool /\ key = .bool b
theorem keyS_und {t : TypeId} {y : Ty} (h : TyOk P t y) {key : Value} (hk : keyS y.sh key = true) : ∃ d, P.underlying t = some d /\ keyD d key := by
 obtain ⟨d, hd, hs⟩ := h.und
 refine ⟨d, hd, ?_⟩
 unfold keyS at hk
 unfold ShOk at hs
 split at hk
 . rename_i h1; rw [h1] at hs
   cases d <;> simp at hs
   exact .inl ⟨_, _, _, rfl, rfl⟩
 . rename_i h1; rw [h1] at hs
   cases d <;> simp at hs
   exact .inr (.inl ⟨_, rfl, rfl⟩)
 . rename_i h1; rw [h1] at hs
   cases d <;> simp at hs
   exact .inr (.inr ⟨_, rfl, rfl⟩)
 . cases hk
theorem run_checkKey {t : TypeId} {d : TypeDesc} {key : Value} (hd : P.underlying t = some d) (hk : keyD d key) (b : Bool) (w : World) : (Instr.checkKey b 10000 t key).run P w = .ok () w := by
 generalize hn : (10000 : Nat) = n
 obtain ⟨m, rfl⟩ : ∃ m, n = m + 1 := ⟨9999, hn.symm⟩
 rcases hk with ⟨k, k', n, rfl, rfl⟩ | ⟨s, rfl, rfl⟩ | ⟨b, rfl, rfl⟩ <;> simp [Instr.checkKey, run_underlying hd]
theorem sameNow_eq {d : TypeDesc} {key x : Value} (hk : keyD d key) (hx : keyC x = true) : Instr.sameNow d key x = keyEq key x := by
 rcases hk with ⟨k, k', n, rfl, rfl⟩ | ⟨s, rfl, rfl⟩ | ⟨b, rfl, rfl⟩ <;> cases x <;> first | rfl | (simp [keyC] at hx; done)
structure KeyK (P : Program) (kt : TypeId) (key : Value) : Prop where
 chk : ∀ b w, (Instr.checkKey b 10000 kt key).run P w = .ok () w
 bits : Instr.sameBits 10000 key key = true
 c : keyC key = true
 find : ∀ {Im : Nat -> Prop} {W : World} {es : List (Value × Bool × List D)} {ms : List MapEntry} {r : Option Nat} (w : World), MRel Im W es ms -> findM key es 0 = some r ->
   (r = none /\ (Instr.findKey kt key ms).run P w = .ok none w) \/ ∃ j e m, r = some j /\ es[j]? = some e /\ ms[j]? = some m /\ keyEq key e.1 = some true /\ m.key = e.1 /\ MVal Im W e.2.1 e.2.2 m.val /\ (Instr.findKey kt key ms).run P w = .ok (some (j, m.val)) w
theorem findNow_of {d : TypeDesc} {key : Value} (hk : keyD d key) {Im : Nat -> Prop} : ∀ {es : List (Value × Bool × List D)} {ms : List MapEntry} {i : Nat} {r : Option Nat}, MRel Im W es ms -> findM key es i = some r ->
   (r = none /\ Instr.findNow d key ms i = some none) \/ ∃ j e m, r = some (i + j) /\ es[j]? = some e /\ ms[j]? = some m /\ keyEq key e.1 = some true /\ m.key = e.1 /\ MVal Im W e.2.1 e.2.2 m.val /\ Instr.findNow d key ms i = some (some (i + j, m.val))
 | [], [], i, r, _, h => by simp [findM] at h; subst h; exact .inl ⟨rfl, rfl⟩
 | [], _ :: _, _, _, hm, _ => hm.elim
 | _ :: _, [], _, _, hm, _ => hm.elim
 | e :: es, m :: ms, i, r, hm, h => by
   obtain ⟨⟨h1, h2, h3⟩, hr⟩ := hm
   have hs : Instr.sameNow d key m.key = keyEq key e.1 := by rw [h1]; exact sameNow_eq hk h2
   unfold findM at h
   unfold Instr.findNow
   rw [hs]
   cases hq : keyEq key e.1 with
   | none => rw [hq] at h; cases h
   | some b =>
     rw [hq] at h
     cases b with
     | true =>
       simp at h
       exact .inr ⟨0, e, m, by simp [h], rfl, rfl, hq, h1, h3, by simp⟩
     | false =>
       simp only at h ⊢
       rcases findNow_of hk hr h with ⟨a1, a2⟩ | ⟨j, e', m', a1, a2, a3, a4, a5, a6, a7⟩
       . exact .inl ⟨a1, a2⟩
       . exact .inr ⟨j + 1, e', m', by rw [a1]; congr 1; omega, by simpa using a2, by simpa using a3, a4, a5, a6, by rw [a7]; congr 3; omega⟩
theorem run_findKey {t : TypeId} {d : TypeDesc} {key : Value} (hd : P.underlying t = some d) {ms : List MapEntry} {r : Option (Nat × Value)} (h : Instr.findNow d key ms 0 = some r) (w : World) : (Instr.findKey t key ms).run P w = .ok r w := by
 simp [Instr.findKey, run_underlying hd, h]
theorem bytes_beq {x y : ByteArray} (h : (x == y) = true) : x = y := by
 cases x; cases y
 have : (_ == _) = true := h
 congr
 exact eq_of_beq this
theorem bytes_refl (x : ByteArray) : (x == x) = true := by
 obtain ⟨d⟩ := x
 have : (d == d) = true := beq_self_eq_true d
 exact this
theorem keyEq0_same {x key : Value} (h : keyEq0 key x = some true) : x = key := by
 cases x <;> cases key <;> simp [keyEq0] at h ⊢
 . exact h.symm
 . exact ⟨h.1.symm, h.2.symm⟩
 . exact (bytes_beq h).symm
theorem keyEqs_same : ∀ {ks xs : List Value}, keyEqs ks xs = some true -> xs = ks
 | [], [], _ => rfl
 | k :: ks, x :: xs, h => by
   simp only [keyEqs] at h
   cases h1 : keyEq0 k x with
   | none => simp [h1] at h
   | some r =>
     simp only [h1, Option.bind_some] at h
     cases h2 : keyEqs ks xs with
     | none => simp [h2] at h
     | some q =>
       simp only [h2, Option.map_some, Option.some.injEq, Bool.and_eq_true] at h
       obtain ⟨rfl, rfl⟩ := h
       rw [keyEq0_same h1, keyEqs_same h2]
 | [], _ :: _, h => by simp [keyEqs] at h
 | _ :: _, [], h => by simp [keyEqs] at h
theorem keyEq_same {x key : Value} (h : keyEq key x = some true) : x = key := by
 cases x <;> cases key <;> simp [keyEq] at h ⊢
 . exact h.symm
 . exact ⟨h.1.symm, h.2.symm⟩
 . exact (bytes_beq h).symm
 . exact Array.ext' (keyEqs_same h)
theorem sameBits_self {d : TypeDesc} {key : Value} (hk : keyD d key) : Instr.sameBits 10000 key key = true := by
 rcases hk with ⟨k, k', n, rfl, rfl⟩ | ⟨s, rfl, rfl⟩ | ⟨b, rfl, rfl⟩ <;> first | (simp [Instr.sameBits]; done) | (unfold Instr.sameBits; exact bytes_refl _)
theorem KeyK.of_lit {kt : TypeId} {d : TypeDesc} {key : Value} (hd : P.underlying kt = some d) (hk : keyD d key) : KeyK P kt key := by
 refine ⟨fun b w => run_checkKey hd hk b w, sameBits_self hk, by rcases hk with ⟨k, k', n, rfl, rfl⟩ | ⟨s, rfl, rfl⟩ | ⟨b, rfl, rfl⟩ <;> rfl, fun w hm hf => ?_⟩
 rcases findNow_of hk hm hf with ⟨h1, h2⟩ | ⟨j, e, m, h1, h2, h3, h4, h5, h6, h7⟩
 . exact .inl ⟨h1, run_findKey hd h2 w⟩
 . rw [Nat.zero_add] at h1 h7
   exact .inr ⟨j, e, m, h1, h2, h3, h4, h5, h6, run_findKey hd h7 w⟩
theorem kinds_len : ∀ {ks : List CK} {vs : List Value}, kindsV ks vs = true -> vs.length = ks.length
 | [], [], _ => rfl
 | _ :: _, _ :: _, h => by
   simp only [kindsV, Bool.and_eq_true] at h
   simp [kinds_len h.2]
 | [], _ :: _, h => by simp [kindsV] at h
 | _ :: _, [], h => by simp [kindsV] at h
theorem keyEqs_vals : ∀ {ks : List CK} {az bs : List Value} {r : Bool}, kindsV ks az = true -> keyEqs az bs = some r -> eqVals ks az bs = some r
 | [], [], [], r, _, h => h
 | k :: ks, a :: az, b :: bs, r, hk, h => by
   simp only [kindsV, Bool.and_eq_true] at hk
   simp only [keyEqs] at h
   cases h1 : keyEq0 a b with
   | none => simp [h1] at h
   | some r1 =>
     simp only [h1, Option.bind_some] at h
     cases h2 : keyEqs az bs with
     | none => simp [h2] at h
     | some r2 =>
       simp only [h2, Option.map_some, Option.some.injEq] at h
       have e1 : eqVal k a b = some r1 := by
         have h0 := hk.1
         cases k <;> cases a <;> simp [kindV] at h0 <;> cases b <;> simp [keyEq0] at h1 <;> simpa [eqVal] using h1
       simp only [eqVals, e1, keyEqs_vals hk.2 h2, Option.bind_some, Option.map_some, h]
 | [], [], _ :: _, _, _, h => by simp [keyEqs] at h
 | [], _ :: _, _, _, hk, _ => by simp [kindsV] at hk
 | _ :: _, [], _, _, hk, _ => by simp [kindsV] at hk
 | _ :: _, _ :: _, [], _, _, h => by simp [keyEqs] at h
theorem sameBits_lit {k : CK} {v : Value} (h : kindV k v = true) (n : Nat) : Instr.sameBits n v v = true := by
 cases k <;> cases v <;> simp [kindV] at h
 . cases n <;> simp [Instr.sameBits]
 . cases n <;> simp [Instr.sameBits]
 . cases n <;> (unfold Instr.sameBits; exact bytes_refl _)
theorem sameBits_lits (n : Nat) : ∀ {ks : List CK} {vs : List Value}, kindsV ks vs = true -> ((vs.zip vs).all fun (x, y) => Instr.sameBits n x y) = true
 | [], [], _ => rfl
 | k :: ks, v :: vs, h => by
   simp only [kindsV, Bool.and_eq_true] at h
   simp only [List.zip_cons_cons, List.all_cons, sameBits_lit h.1, Bool.true_and]
   exact sameBits_lits n h.2
 | [], _ :: _, h => by simp [kindsV] at h
 | _ :: _, [], h => by simp [kindsV] at h
theorem run_checkKey_ks (em : Bool) (w : World) : ∀ (n : Nat) (t : TypeId) (ks : List CK), tyKinds P n t = some ks -> ∀ (m : Nat), n <= m -> ∀ (cu : List Value) (u : Value), asTy P t cu u -> cu.length = ks.length -> (Instr.checkKey em m t u).run P w = .ok () w
 | 0, _, _, h, _, _, _, _, _, _ => by simp [tyKinds] at h
 | n + 1, t, ks, h, m, hm, cu, u, hu, hl => by
   obtain ⟨m, rfl⟩ : ∃ d', m = d' + 1 := ⟨m - 1, by omega⟩
   unfold tyKinds at h
   unfold asTy at hu
   cases hd : P.underlying t with
   | none => simp [hd] at h
   | some ds =>
     rw [hd] at h hu
     cases ds <;> simp only [reduceCtorEq] at h
     case bool => simp [Instr.checkKey, run_underlying hd]
     case int k => simp [Instr.checkKey, run_underlying hd]
     case string => simp [Instr.checkKey, run_underlying hd]
     case struct fs =>
       simp only at hu
       subst hu
       split at h
       . rename_i hst
         simp only [Bool.and_eq_true, Bool.not_eq_true'] at hst
         cases hk : fkinds (tyKinds P n) fs.toList with
         | none => simp [hk] at h
         | some ks' =>
           simp only [hk, Option.bind_some] at h
           split at h
           . cases h
             rw [Instr.checkKey]
             simp only [Sem.run_bind, run_underlying hd, Result.andThen_ok]
             rw [<- Array.forIn_toList]
             have key : ∀ (L : List Field) (off : Nat) (ks : List CK), lay (tyKinds P n) off L = true -> fkinds (tyKinds P n) L = some ks -> off + ks.length <= cu.length -> (forIn (m := Sem) L PUnit.unit fun f _ =>
                 if f.name ≠ "_" then do
                   let x <- part f.type cu.toArray f.offset
                   Instr.checkKey em m f.type x
                   pure (ForInStep.yield PUnit.unit)
                 else pure (ForInStep.yield PUnit.unit)).run P w = .ok PUnit.unit w := by
               intro L
               induction L with
               | nil => intro off ks _ _ _; simp
               | cons f L ih =>
                 intro off ks hl hk hx
                 simp only [lay, Bool.and_eq_true, beq_iff_eq, bne_iff_ne, ne_eq] at hl
                 obtain ⟨⟨h1, h2⟩, h3⟩ := hl
                 simp only [fkinds] at hk
                 cases hk1 : tyKinds P n f.type with
                 | none => simp [hk1] at hk
                 | some k1 =>
                   simp only [hk1, Option.bind_some] at hk
                   cases hk2 : fkinds (tyKinds P n) L with
                   | none => simp [hk2] at hk
                   | some k2 =>
                     simp only [hk2, Option.map_some] at hk
                     cases hk
                     simp only [List.length_append] at hx
                     obtain ⟨v, hv, hav⟩ := run_part_ty hk1 w cu.toArray f.offset (by simp; omega)
                     have hc := run_checkKey_ks em w n f.type k1 hk1 m (by omega) _ v hav (by simp; omega)
                     simp only [hk1, Option.map_some, Option.getD_some] at h3
                     have := ih (off + k1.length) k2 h3 hk2 (by omega)
                     simp only [List.forIn_cons, Sem.run_bind, h2, ne_eq, not_false_eq_true, if_true, Result.andThen_ok, hv, hc, Sem.run_pure]
                     exact this
             rw [key fs.toList 0 ks hst.2 hk (by omega)]
             rfl
           . cases h
       . cases h
theorem findAsking_of {kt : TypeId} {key : Value} (heq : ∀ (x : Value) (b : Bool) (w : World), keyEq key x = some b -> (Op.equal kt key x).run P w = .ok b w) {Im : Nat -> Prop} {W : World} (w : World) : ∀ {es : List (Value × Bool × List D)} {ms : List MapEntry} {i : Nat} {r : Option Nat}, MRel Im W es ms -> findM key es i = some r ->
   (r = none /\ (Instr.findAsking kt key ms i).run P w = .ok none w) \/ ∃ j e m, r = some (i + j) /\ es[j]? = some e /\ ms[j]? = some m /\ keyEq key e.1 = some true /\ m.key = e.1 /\ MVal Im W e.2.1 e.2.2 m.val /\ (Instr.findAsking kt key ms i).run P w = .ok (some (i + j, m.val)) w
 | [], [], i, r, _, h => by simp [findM] at h; subst h; exact .inl ⟨rfl, by simp [Instr.findAsking]⟩
 | [], _ :: _, _, _, hm, _ => hm.elim
 | _ :: _, [], _, _, hm, _ => hm.elim
 | e :: es, m :: ms, i, r, hm, h => by
   obtain ⟨⟨h1, h2, h3⟩, hr⟩ := hm
   unfold findM at h
   cases hq : keyEq key e.1 with
   | none => rw [hq] at h; cases h
   | some b =>
     rw [hq] at h
     have hrun := heq e.1 b w hq
     rw [<- h1] at hrun
     cases b with
     | true =>
       simp at h
       exact .inr ⟨0, e, m, by simp [h], rfl, rfl, hq, h1, h3, by simp [Instr.findAsking, hrun]⟩
     | false =>
       simp only at h
       rcases findAsking_of heq w hr h with ⟨a1, a2⟩ | ⟨j, e', m', a1, a2, a3, a4, a5, a6, a7⟩
       . exact .inl ⟨a1, by simp [Instr.findAsking, hrun, a2]⟩
       . exact .inr ⟨j + 1, e', m', by rw [a1]; congr 1; omega, by simpa using a2, by simpa using a3, a4, a5, a6, by simp [Instr.findAsking, hrun, a7]; omega⟩
theorem KeyK.of_struct (hE : EqOk P eqs) {kt : TypeId} {key : Value} (hk : keyT eqs kt key = true) : KeyK P kt key := by
 unfold keyT at hk
 split at hk
 . rename_i a
   cases hks : eqs kt with
   | none => rw [hks] at hk; cases hk
   | some ks =>
     rw [hks] at hk
     simp only at hk
     obtain ⟨h1, _, fs, h3⟩ := hE kt ks hks
     have hlen := kinds_len hk
     have has : ∀ x : Array Value, asTy P kt x.toList (.agg x) := fun x => by unfold asTy; rw [h3]
     have heq : ∀ (x : Value) (b : Bool) (w : World), keyEq (.agg a) x = some b -> (Op.equal kt (.agg a) x).run P w = .ok b w := fun x b w h => by
       cases x <;> simp [keyEq] at h
       rename_i c
       have he := keyEqs_vals hk h
       unfold Op.equal
       exact run_equalIn_ty 8 kt ks h1 _ (by decide) a.toList c.toList _ _ w b (has a) (has c) he
     refine ⟨fun em w => run_checkKey_ks em w 8 kt ks h1 10000 (by decide) a.toList _ (has a) hlen, ?_, rfl, fun {Im W es ms r} w hm hf => ?_⟩
     . generalize hn : (10000 : Nat) = n
       obtain ⟨m, rfl⟩ : ∃ m, n = m + 1 := ⟨9999, hn.symm⟩
       unfold Instr.sameBits
       rw [Bool.and_eq_true]
       exact ⟨by simp, sameBits_lits m hk⟩
     . have hq := findAsking_of heq w hm hf
       have hrun : (Instr.findKey kt (.agg a) ms).run P w = (Instr.findAsking kt (.agg a) ms 0).run P w := by
         cases ms with
         | nil => simp [Instr.findKey, run_underlying h3, Instr.findNow, Instr.findAsking]
         | cons m ms => simp [Instr.findKey, run_underlying h3, Instr.findNow, Instr.sameNow]
       rcases hq with ⟨q1, q2⟩ | ⟨j, e, m, q1, q2, q3, q4, q5, q6, q7⟩
       . exact .inl ⟨q1, by rw [hrun]; exact q2⟩
       . rw [Nat.zero_add] at q1 q7
         exact .inr ⟨j, e, m, q1, q2, q3, q4, q5, q6, by rw [hrun]; exact q7⟩
 . cases hk
theorem litL_rel {U : Nat -> Prop} : ∀ {cs : List V} {vs xs : List Value}, litL cs = some vs -> All2 (R1 G W) cs xs -> xs = vs
 | [], vs, [], h, _ => by cases h; rfl
 | [], _, _ :: _, _, hr => hr.elim
 | c :: cs, vs, x :: xs, h, hr => by
   unfold litL at h
   split at h
   . rename_i heq; cases heq
   . rename_i v r heq
     cases heq
     obtain ⟨vs', h1, rfl⟩ := Option.map_eq_some_iff.1 h
     rw [litL_rel (U := U) h1 hr.2, rv_lit (G := G) (W := W) hr.1]
   . cases h
 | _ :: _, _, [], _, hr => hr.elim
theorem mapAt_rel (hΓ : GOk P Γ) (hE : EqOk P eqs) (hI : Inv E U G st a W) {t : TypeId} {m k : Operand} {id : Nat} {es : List (Value × Bool × List D)} {key : Value} {r : Option Nat} {et : TypeId} (h : mapAt Γ eqs st.H t (evF st.fr m) (evF st.fr k) = some (id, es, key, r, et)) :
   ∃ kt ms ck old, P.underlying t = some (.map kt et) /\ KeyK P kt key /\ a.eval m = .map (some (G.β id)) /\ a.eval k = key /\ st.H id = some old /\ old = mapC es /\ G.ph id = false /\ G.lo id = true /\ G.bs id = 1 /\ ¬ G.Im (G.β id) /\ W.heap[G.β id]? = some (.map ms ck) /\ MRel G.Im W es ms.toList /\ findM key es 0 = some r := by
 obtain ⟨hm, _⟩ := hI.op m
 obtain ⟨hk, _⟩ := hI.op k
 unfold mapAt at h
 cases hty : Γ t with
 | none => simp [hty] at h
 | some y =>
   simp only [hty, Option.bind_some] at h
   split at h <;> first | (cases h; done) | skip
   rename_i kt et' hsh
   cases hkt : Γ kt with
   | none => simp [hkt] at h
   | some yk =>
     simp only [hkt, Option.bind_some] at h
     cases hid : mapId (evF st.fr m) with
     | none => simp [hid] at h
     | some i =>
       simp only [hid, Option.bind_some] at h
       cases hH : st.H i with
       | none => simp [hH] at h
       | some cs =>
         simp only [hH, Option.bind_some] at h
         cases hme : mapsOf cs with
         | none => simp [hme] at h
         | some es' =>
           simp only [hme, Option.bind_some] at h
           cases hlk : litK (evF st.fr k) with
           | none => simp [hlk] at h
           | some key' =>
             simp only [hlk, Option.bind_some] at h
             split at h
             rotate_left
             . cases h
             rename_i hks
             cases hf : findM key' es' 0 with
             | none => simp [hf] at h
             | some r' =>
               simp only [hf, Option.map_some, Option.some.injEq, Prod.mk.injEq] at h
               obtain ⟨rfl, rfl, rfl, rfl, rfl⟩ := h
               have hmv : evF st.fr m = .yl i := by
                 unfold mapId at hid; split at hid
                 . rename_i e; rw [e]; cases hid; rfl
                 . cases hid
               rw [hmv] at hm
               have hke : a.eval k = key' := by
                 unfold litK at hlk; split at hlk
                 . rename_i e; rw [e] at hk; cases hlk; exact rv_lit hk
                 . rename_i e
                   rw [e] at hk
                   obtain ⟨vs, h1, rfl⟩ := Option.map_eq_some_iff.1 hlk
                   obtain ⟨cv, e2, hc⟩ := hk
                   rw [e2, <- litL_rel (U := U) h1 hc]
                 . cases hlk
               have hkd : KeyK P kt key' := by
                 rw [Bool.or_eq_true] at hks
                 rcases hks with hks | hks
                 . obtain ⟨d, hd, hkd⟩ := keyS_und (hΓ kt yk hkt) hks
                   exact KeyK.of_lit hd hkd
                 . exact KeyK.of_struct hE hks
               have hB := hI.hp i cs hH
               rcases hB with ⟨h1, h2⟩ | ⟨h1, h0, h2, c, T, h3, h4, h5, h6, h7⟩ | ⟨h1, h0, h2, ⟨hz, fr, nt, ps, pa, pb, jmp, rec, h3, h4, h5⟩ | ⟨hz, es2, ms, ck, h3, h4, h5⟩ | ⟨hz, bx, bp, bv, h3, h4, h5, h6, h7⟩⟩
               . subst h2; simp [mapsOf] at hme
               . unfold mapsOf at hme
                 split at hme
                 . simp [V.isCell] at h7
                 . cases hme
               . subst h3; simp [mapsOf] at hme
               . subst h3
                 simp only [mapC, mapB, mapsOf, Option.some.injEq] at hme
                 subst hme
                 have hmm : a.eval m = .map (some (G.β i)) := by
                   rcases hm with ⟨h, _⟩ | ⟨_, h⟩ | ⟨h, _⟩ | ⟨h, _⟩
                   . omega
                   . exact h
                   . omega
                   . omega
                 exact ⟨kt, ms, ck, _, und_map (hΓ t y hty) hsh, hkd, hmm, hke, hH, rfl, h1, h0, hz, h2, h4, h5, hf⟩
               . subst h3
                 exfalso
                 cases bx <;> simp [V.isCell] at h7 <;> simp [mapsOf] at hme
theorem run_getObj_mp {r : Nat} {ms : Array MapEntry} {ck : Nat} (h : W.heap[r]? = some (.map ms ck)) : (getObj r).run P W = .ok (.map ms ck) W := by simp [getObj, Sem.run, h]
theorem run_setObj_mp {r : Nat} {ms : Array MapEntry} {ck : Nat} (o : Obj) (h : W.heap[r]? = some (.map ms ck)) : (setObj r o).run P W = .ok () (W.putObj r o) := by simp [setObj, Sem.run, h, World.putObj]
theorem makeMap_out (hI : Inv E U G st a W) {o : Oper} {t : TypeId} (ho : o.op = .makeMap t none) {b : Nat} (hb : ¬ U b) (hU : ∀ i, U i -> U' i) (hb' : U' b) : Out P E U' st a W o (.yl b) (.new b (mapC [])) := by
 let G' : Gh := { β := upd G.β b W.heap.size, bs := upd G.bs b 1, ph := upd G.ph b false, lo := upd G.lo b true, Im := G.Im }
 let W' : World := W.alloc (.map #[] 0)
 have hne : ∀ i, U i -> i ≠ b := fun i hi e => hb (e ▸ hi)
 have hnew : W'.heap[W.heap.size]? = some (.map #[] 0) := by
   show (W.heap.push _)[_]? = _
   simp
 have hold : ∀ k, k < W.heap.size -> W'.heap[k]? = W.heap[k]? := fun k hk => by
   show (W.heap.push _)[_]? = _
   rw [Array.getElem?_push, if_neg (by omega)]
 have hsz : W'.heap.size = W.heap.size + 1 := by
   show (W.heap.push _).size = _
   simp
 have hchg : Chg U G W G' W' := ⟨fun i hi => by simp [G', upd, hne i hi], fun k hk => ⟨hk, hold k (hI.im k hk).1⟩⟩
 have hlt : ∀ i cs', st.H i = some cs' -> G.ph i = false -> G.β i < W.heap.size := fun i cs' hs hp => (hI.hp i cs' hs).lt hp
 have hdf : ∃ ds, a.defers = marksOf ds ++ E.dx /\ Marks E G' W' ds := by
   obtain ⟨ds, h1, h2⟩ := hI.df
   exact ⟨ds, h1, h2.same (fun D _ hd => hold D (Array.getElem?_eq_some_iff.1 hd).1) (fun _ _ _ h => h)⟩
 have hsome : ∀ i, (upd st.H b (some (mapC [])) i).isSome = true -> i = b \/ (i ≠ b /\ (st.H i).isSome = true) := fun i hi => by
   by_cases e : i = b
   . exact .inl e
   . simp only [upd_at, if_neg e] at hi; exact .inr ⟨e, hi⟩
 refine ⟨.value (.map (some W.heap.size)), _, W', G', ?_, .inl rfl, ?_, .inr (.inl ⟨by simp [G', upd], by simp [G', upd]⟩), hb'⟩
 . simp only [execOp, ho, Option.map_none, Sem.run_bind, show (Instr.makeMap t none).run P W = .ok (.map (some W.heap.size)) W' from rfl, Result.andThen_ok]
   rfl
 refine { fr := fun t => hchg.rv (hI.wf t) (hI.fr t), wf := fun t => AV.mono hU (fun _ h => h) (hI.wf t), hp := ?_, wh := ?_, dom := ?_, inj := ?_, own := ?_, im := ?_, im0 := hI.im0, keep := ?_, stab := ?_, sU := fun i hs => hU _ (hI.sU i hs), nt := hI.nt, df := hdf, gl := hI.gl.mono hchg.im }
 . intro id cs' h
   simp only [Hp.app, upd_at] at h
   split at h
   . rename_i e; subst e; cases h
     refine .inr (.inr ⟨by simp [G', upd], by simp [G', upd], ?_, .inr (.inl ⟨by simp [G', upd], [], #[], 0, rfl, by simp only [G', upd, if_true]; exact hnew, trivial⟩)⟩)
     simp only [G', upd, if_true]
     exact fun hx => absurd (hI.im _ hx).1 (Nat.lt_irrefl _)
   . have hu := hI.dom id (by rw [h]; rfl)
     exact hchg.hb hu (hI.wh id cs' h) (hI.hp id cs' h) (fun hp => hold _ (hlt id cs' h hp)) (fun hx _ => hx)
 . intro id cs' h x hx
   simp only [Hp.app, upd_at] at h
   split at h
   . cases h
     simp only [mapC, List.mem_cons, List.not_mem_nil, or_false] at hx
     rcases hx with rfl | rfl
     . exact fun t => by unfold mapFr; simp; trivial
     . trivial
   . exact AC.mono hU (fun _ h => h) (hI.wh id cs' h x hx)
 . intro id h
   rcases hsome id h with rfl | ⟨_, h⟩
   . exact hb'
   . exact hU _ (hI.dom id h)
 . intro i j hi hj hpi hpj he
   rcases hsome i hi with ei | ⟨ei, hi'⟩ <;> rcases hsome j hj with ej | ⟨ej, hj'⟩
   . rw [ei, ej]
   . simp only [G', upd, if_pos ei, if_neg ej] at he hpj
     obtain ⟨cs', hs⟩ := Option.isSome_iff_exists.1 hj'
     have := hlt j cs' hs hpj
     omega
   . simp only [G', upd, if_pos ej, if_neg ei] at he hpi
     obtain ⟨cs', hs⟩ := Option.isSome_iff_exists.1 hi'
     have := hlt i cs' hs hpi
     omega
   . simp only [G', upd, if_neg ei, if_neg ej] at he hpi hpj
     exact hI.inj i j hi' hj' hpi hpj he
 . intro i hi hp
   rcases hsome i hi with rfl | ⟨ei, hi⟩
   . simp only [G', upd, if_true]
     exact .inl hI.keep.size
   . simp only [G', upd, if_neg ei] at hp ⊢
     exact hI.own i hi hp
 . intro k hk
   have := hI.im k hk
   exact ⟨by rw [hsz]; omega, this.2⟩
 . exact ⟨hI.keep.os, hI.keep.tape, hI.keep.output, hI.keep.drawn, by rw [hsz]; have := hI.keep.size; omega, fun k hk hm => (hold k (by have := hI.keep.size; omega)).trans (hI.keep.block k hk hm)⟩
 . intro i hs hi
   rcases hsome i hi with rfl | ⟨ei, hi⟩
   . exact absurd (hI.sU _ hs) hb
   . simp only [G', upd, if_neg ei]
     exact hI.stab i hs hi
theorem makeBld_out (hΓ : GOk P Γ) (hI : Inv E U G st a W) {o : Oper} {y : Ty} (hty : Γ bldT = some y) (hz0 : y.zero = [.pointer none, .slice none 0 0]) (ho : o.op = .alloc bldT) {b : Nat} (hb : ¬ U b) (hU : ∀ i, U i -> U' i) (hb' : U' b) : Out P E U' st a W o (.yl b) (.new b [.d (.lit (.slice none 0 0)), .d (.lit (.int .i64 0))]) := by
 obtain ⟨z, hz, hzc⟩ := (hΓ bldT y hty).zeroValue W
 have hzz : z.cells = #[.pointer none, .slice none 0 0] := by rw [<- Array.toList_inj, hzc, hz0]
 let G' : Gh := { β := upd G.β b W.heap.size, bs := upd G.bs b 2, ph := upd G.ph b false, lo := upd G.lo b true, Im := G.Im }
 let W' : World := W.alloc (.cells #[.pointer none, .slice none 0 0] bldT)
 have hne : ∀ i, U i -> i ≠ b := fun i hi e => hb (e ▸ hi)
 have hnew : W'.heap[W.heap.size]? = some (.cells #[.pointer none, .slice none 0 0] bldT (0, 0)) := by
   show (W.heap.push _)[_]? = _
   simp
 have hold : ∀ k, k < W.heap.size -> W'.heap[k]? = W.heap[k]? := fun k hk => by
   show (W.heap.push _)[_]? = _
   rw [Array.getElem?_push, if_neg (by omega)]
 have hsz : W'.heap.size = W.heap.size + 1 := by
   show (W.heap.push _).size = _
   simp
 have hchg : Chg U G W G' W' := ⟨fun i hi => by simp [G', upd, hne i hi], fun k hk => ⟨hk, hold k (hI.im k hk).1⟩⟩
 have hlt : ∀ i cs', st.H i = some cs' -> G.ph i = false -> G.β i < W.heap.size := fun i cs' hs hp => (hI.hp i cs' hs).lt hp
 have hdf : ∃ ds, a.defers = marksOf ds ++ E.dx /\ Marks E G' W' ds := by
   obtain ⟨ds, h1, h2⟩ := hI.df
   exact ⟨ds, h1, h2.same (fun D _ hd => hold D (Array.getElem?_eq_some_iff.1 hd).1) (fun _ _ _ h => h)⟩
 have hsome : ∀ i, (upd st.H b (some [.d (.lit (.slice none 0 0)), .d (.lit (.int .i64 0))]) i).isSome = true -> i = b \/ (i ≠ b /\ (st.H i).isSome = true) := fun i hi => by
   by_cases e : i = b
   . exact .inl e
   . simp only [upd_at, if_neg e] at hi; exact .inr ⟨e, hi⟩
 refine ⟨.value (.pointer (some ⟨W.heap.size, 0, none⟩)), _, W', G', ?_, .inl rfl, ?_, .inr (.inr (.inl ⟨by simp [G', upd], by simp [G', upd], by simp [G', upd]⟩)), hb'⟩
 . simp [execOp, ho, Instr.alloc, hz, newVar, newRow, hzz]
   rfl
 refine { fr := fun t => hchg.rv (hI.wf t) (hI.fr t), wf := fun t => AV.mono hU (fun _ h => h) (hI.wf t), hp := ?_, wh := ?_, dom := ?_, inj := ?_, own := ?_, im := ?_, im0 := hI.im0, keep := ?_, stab := ?_, sU := fun i hs => hU _ (hI.sU i hs), nt := hI.nt, df := hdf, gl := hI.gl.mono hchg.im }
 . intro id cs' h
   simp only [Hp.app, upd_at] at h
   split at h
   . rename_i e; subst e; cases h
     refine .inr (.inr ⟨by simp [G', upd], by simp [G', upd], ?_, .inr (.inr ⟨by simp [G', upd], .d (.lit (.slice none 0 0)), ⟨.int .i64 0, #[.pointer none, .slice none 0 0], bldT, (0, 0)⟩, .slice none 0 0, rfl, by simp only [G', upd, if_true]; exact hnew, .inl ⟨by simp [G', upd], rfl, rfl, _, _, _, 0, rfl, .inl rfl, rfl, rfl⟩, RD.lit _ rfl, rfl⟩)⟩)
     simp only [G', upd, if_true]
     exact fun hx => absurd (hI.im _ hx).1 (Nat.lt_irrefl _)
   . have hu := hI.dom id (by rw [h]; rfl)
     exact hchg.hb hu (hI.wh id cs' h) (hI.hp id cs' h) (fun hp => hold _ (hlt id cs' h hp)) (fun hx _ => hx)
 . intro id cs' h x hx
   simp only [Hp.app, upd_at] at h
   split at h
   . cases h
     simp only [List.mem_cons, List.not_mem_nil, or_false] at hx
     rcases hx with rfl | rfl <;> trivial
   . exact AC.mono hU (fun _ h => h) (hI.wh id cs' h x hx)
 . intro id h
   rcases hsome id h with rfl | ⟨_, h⟩
   . exact hb'
   . exact hU _ (hI.dom id h)
 . intro i j hi hj hpi hpj he
   rcases hsome i hi with ei | ⟨ei, hi'⟩ <;> rcases hsome j hj with ej | ⟨ej, hj'⟩
   . rw [ei, ej]
   . simp only [G', upd, if_pos ei, if_neg ej] at he hpj
     obtain ⟨cs', hs⟩ := Option.isSome_iff_exists.1 hj'
     have := hlt j cs' hs hpj
     omega
   . simp only [G', upd, if_pos ej, if_neg ei] at he hpi
     obtain ⟨cs', hs⟩ := Option.isSome_iff_exists.1 hi'
     have := hlt i cs' hs hpi
     omega
   . simp only [G', upd, if_neg ei, if_neg ej] at he hpi hpj
     exact hI.inj i j hi' hj' hpi hpj he
 . intro i hi hp
   rcases hsome i hi with rfl | ⟨ei, hi⟩
   . simp only [G', upd, if_true]
     exact .inl hI.keep.size
   . simp only [G', upd, if_neg ei] at hp ⊢
     exact hI.own i hi hp
 . intro k hk
   have := hI.im k hk
   exact ⟨by rw [hsz]; omega, this.2⟩
 . exact ⟨hI.keep.os, hI.keep.tape, hI.keep.output, hI.keep.drawn, by rw [hsz]; have := hI.keep.size; omega, fun k hk hm => (hold k (by have := hI.keep.size; omega)).trans (hI.keep.block k hk hm)⟩
 . intro i hs hi
   rcases hsome i hi with rfl | ⟨ei, hi⟩
   . exact absurd (hI.sU _ hs) hb
   . simp only [G', upd, if_neg ei]
     exact hI.stab i hs hi
theorem allocF_out (hΓ : GOk P Γ) (hI : Inv E U G st a W) {o : Oper} {t : TypeId} (ho : o.op = .alloc t) {b : Nat} (hb : ¬ U b) (hU : ∀ i, U i -> U' i) (hb' : U' b) {v : V} {e : Eff}
   (he : allocF Γ b t = some (v, e)) : Out P E U' st a W o v e := by
 unfold allocF at he
 by_cases ht : t = bldT
 . subst ht
   cases hty : Γ bldT with
   | none => simp [hty] at he
   | some y =>
     simp only [hty, Option.bind_some, beq_self_eq_true, if_true] at he
     split at he
     . rename_i hz
       cases he
       refine makeBld_out hΓ hI hty ?_ ho hb hU hb'
       unfold bldZ at hz
       split at hz
       . assumption
       . cases hz
     . cases he
 . have : (t == bldT) = false := by simpa using ht
   simp only [this, Bool.false_eq_true, if_false] at he
   exact alloc_out hΓ hI ho hb hU hb' he
theorem dataV_rel {v : V} {x : Value} (h : RV G W v x) {ag : Bool} {ds : List D} (hd : dataV v = some (ag, ds)) : MVal G.Im W ag ds x := by
 unfold dataV at hd
 split at hd
 . cases hd; exact ⟨_, rfl, h⟩
 . rename_i cs
   obtain ⟨ds', h1, h2⟩ := Option.map_eq_some_iff.1 hd
   cases h2
   obtain ⟨cv, rfl, hc⟩ := h
   refine ⟨cv, rfl, ?_⟩
   have : ∀ {cs : List V} {ds : List D} {vs : List Value}, dataL cs = some ds -> All2 (R1 G W) cs vs -> All2 (RD G.Im W) ds vs := by
     intro cs
     induction cs with
     | nil => intro ds vs h hr; cases h; cases vs with | nil => trivial | cons a b => exact hr.elim
     | cons c cs ih =>
       intro ds vs h hr
       cases c <;> simp [dataL] at h
       obtain ⟨ds', e, rfl⟩ := h
       cases vs with
       | nil => exact hr.elim
       | cons v vs => exact ⟨hr.1, ih e hr.2⟩
   exact this h1 hc
 . cases hd
theorem Inv.putMap (hI : Inv E U G st a W) {b : Nat} {old : List V} (hold : st.H b = some old) (hph : G.ph b = false) (hlo : G.lo b = true) (hbs : G.bs b = 1) (hnim : ¬ G.Im (G.β b)) {ms ms' : Array MapEntry} {ck ck' : Nat} (hh : W.heap[G.β b]? = some (.map ms ck)) {es : List (Value × Bool × List D)} (hr : MRel G.Im W es ms'.toList) :
   Inv E U G ⟨st.fr, upd st.H b (some (mapC es)), st.nx⟩ a (W.putObj (G.β b) (.map ms' ck')) /\ Chg U G W G (W.putObj (G.β b) (.map ms' ck')) := by
 have hlive : (st.H b).isSome = true := by rw [hold]; rfl
 have hlt := (Array.getElem?_eq_some_iff.1 hh).1
 have hsame : ∀ j, j ≠ G.β b -> (W.putObj (G.β b) (.map ms' ck')).heap[j]? = W.heap[j]? := fun j hj => World.putObj_heap_other hj
 have hchg : Chg U G W G (W.putObj (G.β b) (.map ms' ck')) := ⟨fun i _ => ⟨rfl, rfl, rfl, rfl⟩, fun j hj => ⟨hj, hsame j (fun e => hnim (by rw [<- e]; exact hj))⟩⟩
 have hsome : ∀ i, (upd st.H b (some (mapC es)) i).isSome = true -> (st.H i).isSome = true := fun i hi => by
   by_cases e : i = b
   . subst e; exact hlive
   . simpa only [upd_at, if_neg e] using hi
 refine ⟨?_, hchg⟩
 refine { fr := fun t => hchg.rv (hI.wf t) (hI.fr t), wf := hI.wf, hp := ?_, wh := ?_, dom := fun i hi => hI.dom i (hsome i hi), inj := fun i j hi hj => hI.inj i j (hsome i hi) (hsome j hj), own := fun i hi => hI.own i (hsome i hi), im := fun b hb => ⟨by rw [World.putObj_size]; exact (hI.im b hb).1, (hI.im b hb).2⟩, im0 := hI.im0, keep := ?_, stab := fun i hs hi => hI.stab i hs (hsome i hi), sU := hI.sU, nt := hI.nt, df := ?_, gl := hI.gl.mono hchg.im }
 . intro id cs' h
   simp only [upd_at] at h
   split at h
   . rename_i e; subst e; cases h
     exact .inr (.inr ⟨hph, hlo, hnim, .inr (.inl ⟨hbs, es, ms', ck', rfl, World.putObj_heap_same hlt, hr.mono hchg.im⟩)⟩)
   . rename_i e
     have hlv : (st.H id).isSome = true := by rw [h]; rfl
     exact hchg.hb (hI.dom id hlv) (hI.wh id cs' h) (hI.hp id cs' h) (fun hp => hsame _ (fun e' => e (hI.inj id b hlv hlive hp hph e'))) (fun hx _ => hx)
 . intro id cs' h x hx
   simp only [upd_at] at h
   split at h
   . cases h
     simp only [mapC, List.mem_cons, List.not_mem_nil, or_false] at hx
     rcases hx with rfl | rfl
     . intro t
       unfold mapFr
       split
       . intro c hc
         obtain ⟨x, _, rfl⟩ := List.mem_map.1 hc
         trivial
       . trivial
     . trivial
   . exact hI.wh id cs' h x hx
 . refine ⟨hI.keep.os, hI.keep.tape, hI.keep.output, hI.keep.drawn, by rw [World.putObj_size]; exact hI.keep.size, fun j hj hm => (hsame j fun e => ?_).trans (hI.keep.block j hj hm)⟩
   rcases hI.own b hlive hph with h | h
   . omega
   . exact hm (e ▸ h)
 . obtain ⟨ds, h1, h2⟩ := hI.df
   exact ⟨ds, h1, h2.same (fun D _ hd => hsame D (fun e => by rw [e, hh] at hd; cases hd)) (fun _ _ _ h => h)⟩
theorem putM_out (hΓ : GOk P Γ) (hE : EqOk P eqs) (hI : Inv E U G st a W) {o : Oper} {t : TypeId} {m k x : Operand} (ho : o.op = .mapUpdate t m k x \/ o.op = .insert t m k x) {v : V} {e : Eff}
   (he : putM Γ eqs st.H t (evF st.fr m) (evF st.fr k) (evF st.fr x) = some (v, e)) : Out P E U st a W o v e := by
 unfold putM at he
 cases hp : mapAt Γ eqs st.H t (evF st.fr m) (evF st.fr k) with
 | none => simp [hp] at he
 | some p =>
   obtain ⟨id, es, key, r, et⟩ := p
   simp only [hp, Option.bind_some] at he
   cases hdv : dataV (evF st.fr x) with
   | none => simp [hdv] at he
   | some d =>
     obtain ⟨ag, ds⟩ := d
     simp only [hdv, Option.map_some, Option.some.injEq] at he
     obtain ⟨kt, ms, ck, old, h1, h3, h4, h5, h6, h7, h8, h9, h10, h11, h12, h13, h14⟩ := mapAt_rel hΓ hE hI hp
     have hv := dataV_rel (hI.op x).1 hdv
     have hck := h3.chk false W
     have hkc := h3.c
     have hexec : ∀ W', (Instr.mapUpdate t (a.eval m) (a.eval k) (a.eval x)).run P W = .ok () W' -> (execOp a.eval o).run P W = .ok .skip W' := fun W' hz => by
       rcases ho with ho | ho <;> simp only [execOp, ho, Sem.run_bind, hz, Result.andThen_ok] <;> rfl
     have hset : ∀ (ob : Obj), (setObj (G.β id) ob).run P W = .ok () (W.putObj (G.β id) ob) := fun ob => run_setObj_mp ob h12
     rcases h3.find W h13 h14 with ⟨hr, hf⟩ | ⟨j, e0, m0, hr, a2, a3, a4, a5, a6, hf⟩
     . subst hr
       cases he
       obtain ⟨hI', hc⟩ := hI.putMap h6 h8 h9 h10 h11 h12 (ms' := ms.push { key, val := a.eval x, born := ck }) (ck' := ck + 1) (es := es ++ [(key, ag, ds)]) (by
         rw [Array.toList_push]
         exact h13.append ⟨⟨rfl, hkc, hv⟩, trivial⟩)
       refine ⟨.skip, undef, _, G, hexec _ ?_, .inr ⟨rfl, rfl⟩, hI', trivial, trivial⟩
       rw [h4, h5]
       simp only [Instr.mapUpdate, Sem.run_bind, run_underlying h1, run_getObj_mp h12, Result.andThen_ok, hck, hf, hset]
     . subst hr
       simp only at he hf
       cases he
       have hjl := (List.getElem?_eq_some_iff.1 a3).1
       have hkey : ((ms[j]?).map (·.key)).getD key = key := by
         have : ms[j]? = some m0 := by rw [<- Array.getElem?_toList]; exact a3
         rw [this]
         simp only [Option.map_some, Option.getD_some]
         rw [a5]; exact keyEq_same a4
       obtain ⟨hI', hc⟩ := hI.putMap h6 h8 h9 h10 h11 h12 (ms' := ms.modify j fun q => { q with key, val := a.eval x }) (ck' := ck) (es := es.set j (key, ag, ds)) (by
         rw [Array.toList_modify]
         refine All2.of_get ?_ fun i u w hu hw => ?_
         . simp [h13.length]
         . by_cases hij : j = i
           . subst hij
             rw [List.getElem?_set_self (by rw [h13.length]; exact hjl)] at hu
             cases hu
             rw [List.getElem?_modify, a3] at hw
             simp at hw; subst hw
             exact ⟨rfl, hkc, hv⟩
           . rw [List.getElem?_set_ne hij] at hu
             rw [List.getElem?_modify] at hw
             obtain ⟨w2, hw2, hrr⟩ := h13.get hu
             rw [hw2] at hw
             simp [hij] at hw
             subst hw
             exact hrr)
       refine ⟨.skip, undef, _, G, hexec _ ?_, .inr ⟨rfl, rfl⟩, hI', trivial, trivial⟩
       rw [h4, h5]
       simp only [Instr.mapUpdate, Sem.run_bind, run_underlying h1, run_getObj_mp h12, Result.andThen_ok, hck, hf, hkey, Instr.keyThatStays, h3.bits, if_true, Sem.run_pure, hset]
theorem zeroM_rel {t : TypeId} {y : Ty} (h : TyOk P t y) {z : Value} (hz : (Go.zeroValue t).run P W = .ok z W) : R2 G W (mkV y.agg (y.zero.map cV)) z /\ A2 U anyD (mkV y.agg (y.zero.map cV)) := by
 obtain ⟨i, z', hi, hs, _, hz', hc⟩ := h.info
 have e : z = z' := by
   have : (Go.zeroValue t).run P W = .ok z' W := by simp [Go.zeroValue, Go.typeInfo, hi, hz']
   rw [this] at hz; cases hz; rfl
 subst e
 have ha := h.za i z hi hz'
 have hf := List.all_eq_true.1 h.zf
 cases hag : y.agg with
 | true =>
   rw [hag] at ha
   cases z <;> first | (cases ha; done) | skip
   rename_i cs
   have hc : cs.toList = y.zero := hc
   refine ⟨⟨cs, rfl, ?_⟩, ?_⟩
   . rw [hc]
     exact All2.map_left.2 (All2.of_get rfl fun i a b ha hb => by
       rw [ha] at hb; cases hb
       exact RD.lit _ (hf _ (List.mem_of_getElem? ha)))
   . intro c hcm
     obtain ⟨x, _, rfl⟩ := List.mem_map.1 hcm
     trivial
 | false =>
   rw [hag] at ha
   have hz1 : y.zero = [z] := by
     rw [<- hc]
     cases z <;> first | (cases ha; done) | rfl
   rw [hz1] at hf ⊢
   exact ⟨RD.lit _ (hf z (by simp)), trivial⟩
theorem valM_rel {e : Value × Bool × List D} {x : Value} (h : MVal G.Im W e.2.1 e.2.2 x) {v : V} (hv : valM e = some v) : R2 G W v x /\ A2 U anyD v := by
 unfold valM at hv
 unfold MVal at h
 cases hag : e.2.1 with
 | true =>
   rw [hag] at h hv
   cases hv
   obtain ⟨cv, rfl, hc⟩ := h
   refine ⟨⟨cv, rfl, All2.map_left.2 hc⟩, ?_⟩
   intro c hcm
   obtain ⟨x, _, rfl⟩ := List.mem_map.1 hcm
   trivial
 | false =>
   rw [hag] at h hv
   obtain ⟨c, e1, hr⟩ := h
   rw [e1] at hv
   cases hv
   exact ⟨hr, trivial⟩
theorem look_out (hΓ : GOk P Γ) (hE : EqOk P eqs) (hI : Inv E U G st a W) {o : Oper} {t : TypeId} {m k : Operand} {ok : Bool} (ho : o.op = .lookup t m k ok) {v : V} {e : Eff}
   (he : lookF Γ eqs st.H t (evF st.fr m) (evF st.fr k) ok = some (v, e)) : Out P E U st a W o v e := by
 unfold lookF at he
 cases hp : mapAt Γ eqs st.H t (evF st.fr m) (evF st.fr k) with
 | none => simp [hp] at he
 | some p =>
   obtain ⟨id, es, key, r, et⟩ := p
   simp only [hp, Option.bind_some] at he
   cases hte : Γ et with
   | none => simp [hte] at he
   | some ye =>
     simp only [hte, Option.bind_some] at he
     obtain ⟨kt, ms, ck, old, h1, h3, h4, h5, h6, h7, h8, h9, h10, h11, h12, h13, h14⟩ := mapAt_rel hΓ hE hI hp
     have hck := fun b => h3.chk b W
     have hTe := hΓ et ye hte
     obtain ⟨z, hz, hzc⟩ := hTe.zeroValue W
     have hexec : ∀ z, (Instr.lookup t (a.eval m) (a.eval k) ok).run P W = .ok z W -> (execOp a.eval o).run P W = .ok (.value z) W := fun z hz => by
       simp only [execOp, ho, Sem.run_bind, hz, Result.andThen_ok]; rfl
     rcases h3.find W h13 h14 with ⟨hr, hf⟩ | ⟨j, e0, m0, hr, a2, a3, a4, a5, a6, hf⟩
     . subst hr
       cases he
       have hzr : R2 G W (mkV ye.agg (ye.zero.map cV)) z /\ A2 U anyD (mkV ye.agg (ye.zero.map cV)) := zeroM_rel hTe hz
       refine Out.pure hI (hexec (if ok then .tuple #[z, .bool false] else z) ?_) ?_ ?_
       . rw [h4, h5]
         simp only [Instr.lookup, Sem.run_bind, run_underlying h1, run_getObj_mp h12, Result.andThen_ok, hck, hf, hz, Sem.run_pure]
       . cases ok
         . exact hzr.1.rv
         . exact ⟨_, rfl, ⟨hzr.1, ⟨RD.lit _ rfl, trivial⟩⟩⟩
       . cases ok
         . exact hzr.1.av hzr.2
         . intro c hc
           simp only [List.mem_cons, List.not_mem_nil, or_false] at hc
           rcases hc with rfl | rfl
           . exact hzr.2
           . trivial
     . subst hr
       simp only [a2, Option.bind_some] at he hf
       cases hvm : valM e0 with
       | none => simp [hvm] at he
       | some u =>
         simp only [hvm, Option.map_some, Option.some.injEq] at he
         cases he
         have hu := valM_rel (G := G) (U := U) a6 hvm
         refine Out.pure hI (hexec (if ok then .tuple #[m0.val, .bool true] else m0.val) ?_) ?_ ?_
         . rw [h4, h5]
           simp only [Instr.lookup, Sem.run_bind, run_underlying h1, run_getObj_mp h12, Result.andThen_ok, hck, hf, Sem.run_pure]
         . cases ok
           . exact hu.1.rv
           . exact ⟨_, rfl, ⟨hu.1, ⟨RD.lit _ rfl, trivial⟩⟩⟩
         . cases ok
           . exact hu.1.av hu.2
           . intro c hc
             simp only [List.mem_cons, List.not_mem_nil, or_false] at hc
             rcases hc with rfl | rfl
             . exact hu.2
             . trivial
theorem bytesV_rel {cs : List V} {l : List UInt8} (h : bytesV cs = some l) : ∀ {xs : List Value}, All2 (R1 G W) cs xs -> xs = (l.map fun b => (b.toNat : Int)).map (Value.int .u8) := by
 induction cs generalizing l with
 | nil =>
   intro xs hr
   cases h
   cases xs with
   | nil => rfl
   | cons x r => exact hr.elim
 | cons v r ih =>
   intro xs hr
   cases xs with
   | nil => exact hr.elim
   | cons x xr =>
     obtain ⟨h1, h2⟩ := hr
     simp only [bytesV] at h
     cases hb : byteV v with
     | none => simp [hb] at h
     | some b =>
       simp only [hb, Option.bind_some] at h
       obtain ⟨l', hl', rfl⟩ := Option.map_eq_some_iff.1 h
       unfold byteV at hb
       split at hb
       . rename_i n
         split at hb
         . rename_i hn
           cases hb
           have hx : x = .int .u8 n := rv_int h1.r2.rv
           subst hx
           rw [ih hl' h2]
           simp only [List.map_cons]
           have : ((UInt8.ofNat n.toNat).toNat : Int) = n := by
             rw [UInt8.toNat_ofNat']
             omega
           rw [this]
         . cases hb
       . cases hb
theorem foldl_push (l : List UInt8) : ∀ s : ByteArray, (l.map fun b => (b.toNat : Int)).foldl (fun r n => r.push (UInt8.ofNat n.toNat)) s = ⟨(s.data.toList ++ l).toArray⟩ := by
 induction l with
 | nil => intro s; simp
 | cons b l ih =>
   intro s
   simp only [List.map_cons, List.foldl_cons]
   rw [ih]
   congr 1
   simp [ByteArray.push]
theorem cellsOf_bytes (hI : Inv E U G st a W) {v : V} {x : Value} (hx : RV G W v x) {n : Nat} {cs : List V} (h : cellsOf st.H 1 v = some (n, cs)) :
   ∃ a0 cap xs, x = .slice a0 n cap /\ xs.length = n /\ ((a0 = none /\ xs = []) \/ ∃ ad, a0 = some ad /\ ∀ (j : Nat) y, xs[j]? = some y -> W.cell? (ad.add j) = some y) /\ All2 (R1 G W) cs xs := by
 unfold cellsOf at h
 split at h
 . rename_i p q r
   cases h
   have := rv_lit hx
   subst this
   have hf : flatV (.slice p q r) = true := by
     have hx' : RD G.Im W (.lit (.slice p q r)) (.slice p q r) := hx
     cases hx' with
     | lit _ h => exact h
   simp [flatV] at hf
   obtain ⟨⟨rfl, rfl⟩, rfl⟩ := hf
   exact ⟨none, 0, [], rfl, rfl, .inl ⟨rfl, rfl⟩, trivial⟩
 . rename_i sz' es
   split at h
   . rename_i hsz
     subst hsz
     cases h
     have hx' : RD G.Im W (.sl 1 es) x := hx
     cases hx' with
     | sl _ _ ao cap vs hs hl hcap hm hr =>
       refine ⟨ao, cap, (List.range es.length).map (fun i => vs i 0), rfl, by simp, ?_, ?_⟩
       . by_cases he : es.length = 0
         . cases ao with
           | none => exact .inl ⟨rfl, by simp [he]⟩
           | some ad => exact .inr ⟨ad, rfl, fun j y hy => by simp [he] at hy⟩
         . have h0 : es[0]? = some es[0] := List.getElem?_eq_getElem (by omega)
           obtain ⟨ad, ha, _⟩ := hm 0 _ h0
           refine .inr ⟨ad, ha, fun j y hy => ?_⟩
           rw [List.getElem?_map] at hy
           by_cases hj : j < es.length
           . rw [List.getElem?_range hj] at hy
             simp only [Option.map_some, Option.some.injEq] at hy
             obtain ⟨ad', ha', _, hc⟩ := hm j _ (List.getElem?_eq_getElem hj)
             rw [ha] at ha'; cases ha'
             have he1 := hs es[j] (List.getElem_mem hj)
             have hc0 := hc 0 (es[j])[0] (List.getElem?_eq_getElem (by omega))
             simp only [Nat.mul_one, Nat.add_zero] at hc0
             rw [hc0, hy]
           . rw [List.getElem?_eq_none (by simpa using hj)] at hy
             cases hy
       . refine All2.map_left.2 (All2.of_get ?_ fun i y z hy hz => ?_)
         . rw [flatten_len (sz := 1) es hs]; simp
         . rw [List.getElem?_map] at hz
           have hfl := flatten_len (sz := 1) es hs
           have hi : i < es.length := by have := (List.getElem?_eq_some_iff.1 hy).1; omega
           rw [List.getElem?_range hi] at hz
           simp only [Option.map_some, Option.some.injEq] at hz
           have he1 := hs es[i] (List.getElem_mem hi)
           have hyy : (es[i])[0]? = some y := by
             have := flatten_get (sz := 1) (by omega) es hs i
             rw [this] at hy
             simpa [Nat.div_one, Nat.mod_one, List.getElem?_eq_getElem hi] using hy
           rw [<- hz]
           exact hr i _ (List.getElem?_eq_getElem hi) 0 y hyy
   . cases h
 . rename_i id off len sz'
   split at h
   . rename_i hsz
     subst hsz
     cases hh : st.H id with
     | none => simp [hh] at h
     | some c0 =>
       simp only [hh, Option.bind_some] at h
       split at h
       . rename_i hn
         cases h
         simp only [Nat.mul_one] at hn ⊢
         obtain ⟨hml, ⟨hph, h0, rfl⟩ | ⟨hph, o', cap, rfl, hcap, hoff⟩⟩ := hx
         . subst h0
           exact ⟨none, 0, [], rfl, rfl, .inl ⟨rfl, rfl⟩, by simp [All2]⟩
         . by_cases hl0 : n = 0
           . subst hl0
             exact ⟨_, cap, [], rfl, rfl, .inr ⟨_, rfl, fun j y hy => by simp at hy⟩, by simp [All2]⟩
           . obtain ⟨rfl, _⟩ := hoff (by omega)
             obtain ⟨xs, h1, h2, h3⟩ := (hI.hp id c0 hh).cells hph o' n hn
             exact ⟨_, cap, xs, rfl, h1, .inr ⟨_, rfl, h2⟩, h3⟩
       . cases h
   . cases h
 . cases h
theorem bytF_out (hΓ : GOk P Γ) (hI : Inv E U G st a W) {o : Oper} {s t el : TypeId} {x : Operand} (ho : o.op = .convert s t x) {ys ty : Ty} (hs : Γ s = some ys) (hty : Γ t = some ty) (hsh : ty.sh = .slice el) {b : Nat} (hb : ¬ U b) (hU : ∀ i, U i -> U' i) (hb' : U' b) {v : V} {e : Eff}
   (he : bytF Γ b ys.sh el (evF st.fr x) = some (v, e)) : Out P E U' st a W o v e := by
 obtain ⟨hx, _⟩ := hI.op x
 unfold bytF at he
 split at he <;> first | (cases he; done) | skip
 rename_i z hz
 split at he <;> first | (cases he; done) | skip
 rename_i hss
 cases hel : Γ el with
 | none => simp [hel] at he
 | some ye =>
   simp only [hel, Option.bind_some] at he
   split at he
   rotate_left
   . cases he
   rename_i hc
   obtain ⟨hu8, hml⟩ := hc
   cases he
   rw [hz] at hx
   have hxa := rv_lit hx
   have hd0 := und_str (hΓ s ys hs) hss
   have hd1 := und_slice (hΓ t ty hty) hsh
   have hd2 : P.underlying el = some (.int .u8) := by
     unfold isU8 at hu8
     split at hu8
     . rename_i h8; exact und_int (hΓ el ye hel) h8
     . cases hu8
   have hr := Lib.run_convert_string_bytes (P := P) W s t el z hd0 hd1 hd2
   have hcs : (Lib.bytesCells W el z).toList = (z.data.toList.map fun q => Value.int .u8 q.toNat) ++ (Array.replicate (grownCap W z.size 0 el - z.size) (Value.int .u8 0)).toList := by
     simp [Lib.bytesCells]
   have hzl : z.data.toList.length = z.size := Array.length_toList
   have hge := grownCap_ge W z.size 0 el
   have hsz : (Lib.bytesCells W el z).size = grownCap W z.size 0 el := by
     rw [<- Array.length_toList, hcs]
     simp only [List.length_append, List.length_map, hzl, Array.length_toList, Array.size_replicate]
     omega
   have hll : (z.data.toList.map u8V).length = z.size := by rw [List.length_map, hzl]
   have htk : (Lib.bytesCells W el z).toList.take (z.data.toList.map u8V).length = z.data.toList.map fun q => Value.int .u8 q.toNat := by
     rw [hll, hcs, List.take_left' (by rw [List.length_map, hzl])]
   have hrel : ∀ G W', All2 (R1 G W') (z.data.toList.map u8V) ((Lib.bytesCells W el z).toList.take (z.data.toList.map u8V).length) := fun G W' => by
     rw [htk]
     refine All2.map_left.2 (All2.of_get (by simp) fun i p q hp hq => ?_)
     rw [List.getElem?_map, hp] at hq
     simp only [Option.map_some, Option.some.injEq] at hq
     subst hq
     exact RD.lit _ rfl
   have hall : (z.data.toList.map u8V).all V.isCell = true := List.all_eq_true.2 fun y hy => by
     obtain ⟨q, _, rfl⟩ := List.mem_map.1 hy
     rfl
   have hok : ∀ U : Nat -> Prop, ∀ y ∈ z.data.toList.map u8V, A1 U anyD y := fun U y hy => by
     obtain ⟨q, _, rfl⟩ := List.mem_map.1 hy
     exact trivial
   obtain ⟨G', hI1, e1, e2, e3, _⟩ := hI.alloc (W1 := W.drew) (T := el) hb hU hb' (cs := z.data.toList.map u8V) (c := Lib.bytesCells W el z) rfl rfl rfl rfl (by rw [hll, hsz]; exact hge) (hrel G W) hall (hok U)
   have hsz2 : (W.drew.alloc (.cells (Lib.bytesCells W el z) el)).heap.size = W.heap.size + 1 := by
     show (W.heap.push _).size = _
     simp
   have hnew : RowO (Lib.bytesWorld W el z).heap[G'.β b]? (Lib.bytesCells W el z) el := by
     rw [e1]
     exact ⟨_, Lib.bytesWorld_at_new W el z, .inr (Nat.le_refl _)⟩
   obtain ⟨hI2, _⟩ := hI1.put (b := b) (old := z.data.toList.map u8V) (cs := z.data.toList.map u8V) (c := Lib.bytesCells W el z) (T := el) (W' := Lib.bytesWorld W el z) (by simp [upd]) e3 hnew
     (fun k hk => by
       rw [e1] at hk
       rcases Nat.lt_trichotomy k W.heap.size with h | h | h
       . rw [Lib.bytesWorld_at_old W el z k h]
         show _ = (W.heap.push _)[k]?
         rw [Array.getElem?_push, if_neg (by omega)]
       . exact absurd h hk
       . rw [Array.getElem?_eq_none (by rw [Lib.bytesWorld_size]; omega), Array.getElem?_eq_none (by rw [hsz2]; omega)])
     (by rw [Lib.bytesWorld_size, hsz2]) (by simp [Lib.bytesWorld, World.freeze]) (by simp [Lib.bytesWorld, World.freeze]) (by simp [Lib.bytesWorld, World.freeze]) (by rw [e2]) (by rw [hll, hsz]; exact hge) (hrel _ _) hall (hok U')
   refine ⟨.value (.slice (some ⟨W.heap.size, 0, none⟩) z.size (grownCap W z.size 0 el)), .slice (some ⟨W.heap.size, 0, none⟩) z.size (grownCap W z.size 0 el), Lib.bytesWorld W el z, G', ?_, .inl rfl, ?_, ⟨hml, .inr ⟨e3, 0, grownCap W z.size 0 el, ?_, hge, fun _ => ⟨rfl, ?_⟩⟩⟩, hb'⟩
   . simp only [execOp, ho, hxa, Sem.run_bind, hr, Result.andThen_ok]
     rfl
   . have e : upd (upd st.H b (some (z.data.toList.map u8V))) b (some (z.data.toList.map u8V)) = upd st.H b (some (z.data.toList.map u8V)) := by
       funext i
       simp only [upd]
       split <;> rfl
     rw [e] at hI2
     exact hI2
   . rw [e1]
   . rw [e2, hsz]; omega
theorem convF_out (hΓ : GOk P Γ) (hI : Inv E U G st a W) {o : Oper} {s t : TypeId} {x : Operand} (ho : o.op = .convert s t x) {b : Nat} (hb : ¬ U b) (hU : ∀ i, U i -> U' i) (hb' : U' b) {v : V} {e : Eff} (he : convF Γ st.H b s t (evF st.fr x) = some (v, e)) : Out P E U' st a W o v e := by
 obtain ⟨hx, _⟩ := hI.op x
 unfold convF at he
 cases hs : Γ s with
 | none => simp [hs] at he
 | some ys =>
   simp only [hs, Option.bind_some] at he
   cases hty : Γ t with
   | none => simp [hty] at he
   | some ty =>
     simp only [hty, Option.bind_some] at he
     split at he
     . rename_i k hsh
       split at he
       . rename_i k' n h1
         cases he; rw [h1] at hx
         obtain ⟨d, hd, _⟩ := (hΓ s ys hs).und
         have hd2 := und_int (hΓ t ty hty) hsh
         refine (Out.pure hI (x := .int k (k.wrap n)) ?_ (lit_rv rfl) trivial : Out P E U st a W o _ _).mono hU
         simp [execOp, ho, rv_int hx, convert, run_underlying hd, run_underlying hd2, Conv.intToInt]
       . cases he
     . rename_i hsh
       unfold strF at he
       split at he
       . rename_i el hss
         cases hel : Γ el with
         | none => simp [hel] at he
         | some ye =>
           simp only [hel, Option.bind_some] at he
           split at he
           . rename_i hu8
             cases hcl : cellsOf st.H 1 (evF st.fr x) with
             | none => simp [hcl] at he
             | some p =>
               obtain ⟨n, cs⟩ := p
               simp only [hcl, Option.bind_some] at he
               cases hbv : bytesV cs with
               | none => simp [hbv] at he
               | some l =>
                 simp only [hbv, Option.map_some, Option.some.injEq] at he
                 cases he
                 have hd0 := und_slice (hΓ s ys hs) hss
                 have hd1 : P.underlying el = some (.int .u8) := by
                   unfold isU8 at hu8
                   split at hu8
                   . rename_i h8; exact und_int (hΓ el ye hel) h8
                   . cases hu8
                 have hd2 := und_str (hΓ t ty hty) hsh
                 obtain ⟨a0, cap, xs, hxe, hxl, hload, hxr⟩ := cellsOf_bytes hI hx hcl
                 refine (Out.pure hI (x := .string ⟨l.toArray⟩) ?_ (lit_rv rfl) trivial : Out P E U st a W o _ _).mono hU
                 have hxs : xs = (l.map fun b => (b.toNat : Int)).map (Value.int .u8) := bytesV_rel hbv hxr
                 rw [<- hxl] at hxe
                 simp only [execOp, ho, hxe, Sem.run_bind]
                 rw [run_convert_bytes_string W s t el a0 _ _ hd0 hd1 hd2]
                 cases a0 with
                 | none =>
                   rcases hload with ⟨_, hload⟩ | ⟨ad, ha, _⟩
                   . rw [hload] at hxs
                     have : l = [] := by
                       have := congrArg List.length hxs
                       exact List.eq_nil_of_length_eq_zero (by simpa using this.symm)
                     subst this
                     simp [Conv.bytesToString]
                     rfl
                   . cases ha
                 | some ad =>
                   have hld : (loadCells ad xs.length).run P W = .ok ((l.map fun b => (b.toNat : Int)).map (Value.int .u8)).toArray W := by
                     rcases hload with ⟨ha, _⟩ | ⟨ad', ha, hload⟩
                     . cases ha
                     . cases ha
                       rw [run_loadCells_list (P := P) W ad xs hload, hxs]
                   rw [run_bytesToString W ad _ _ _ hld, foldl_push]
                   simp
           . cases he
       . cases he
     . rename_i el hsh
       exact bytF_out hΓ hI ho hs hty hsh hb hU hb' he
     . cases he
end Go.Psl
namespace Go.Psl
variable {P : Program} {Γ : Tys} {eqs : Eqs} {E : Ent} {U U' : Nat -> Prop} {G : Gh} {st : St} {a : Act} {W : World}
theorem eval_out (hΓ : GOk P Γ) (hE : EqOk P eqs) (hI : Inv E U G st a W) {o : Oper} {b : Nat} (hb : ¬ U b) (hU : ∀ i, U i -> U' i) (hb' : U' b) {v : V} {e : Eff} (he : evalOp Γ eqs st.H b st.fr o.op = some (v, e)) : Out P E U' st a W o v e := by
 unfold evalOp at he
 split at he
 . rename_i x ho; cases he; exact (move_out hI (.inl ho)).mono hU
 . rename_i x ho; cases he; exact (move_out hI (.inr ho)).mono hU
 . rename_i ho; exact (pickF_out hI ho he).mono hU
 . rename_i ho; exact allocF_out hΓ hI ho hb hU hb' he
 . rename_i ho; exact box_out hI ho hb hU hb' he
 . rename_i ho; exact (build_out hΓ hI ho he).mono hU
 . rename_i ho; exact buildSlice_out hΓ hI ho hb hU hb' he
 . rename_i ho; exact mks_out hΓ hI ho hb hU hb' he
 . rename_i ho; cases he; exact makeMap_out hI ho hb hU hb'
 . rename_i ho; exact (putM_out hΓ hE hI (.inl ho) he).mono hU
 . rename_i ho; exact (putM_out hΓ hE hI (.inr ho) he).mono hU
 . rename_i ho; exact (look_out hΓ hE hI ho he).mono hU
 . rename_i ho; exact (load_out hΓ hI ho he).mono hU
 . rename_i ho; exact (store_out hΓ hI ho he).mono hU
 . rename_i ho; exact (binF_out hΓ hE hI ho he).mono hU
 . rename_i ho; exact (unF_out hI ho he).mono hU
 . rename_i ho; exact (nilF_out hI ho he).mono hU
 . rename_i ho; exact (ifcF_out hΓ hI ho he).mono hU
 . rename_i ho; exact (assF_out hΓ hI ho he).mono hU
 . rename_i ho; exact convF_out hΓ hI ho hb hU hb' he
 . rename_i ho; exact (extrF_out hI ho he).mono hU
 . rename_i ho; exact (field_out hΓ hI ho he).mono hU
 . rename_i ho; exact (fieldV_out hΓ hI ho he).mono hU
 . rename_i ho; exact (index_out hΓ hI ho he).mono hU
 . rename_i ho; exact (indexV_out hΓ hI ho he).mono hU
 . rename_i ho; exact (slice_out hΓ hI ho he).mono hU
 . rename_i ho
   unfold mkAny at he
   split at he
   . rename_i hf
     unfold mkFuncF at he
     split at he
     . rename_i hc; cases he; exact (makeFunc_out hI ho (by rw [<- Array.length_toList, hf]; rfl) hc.2).mono hU
     . cases he
   . rename_i hf
     exact (bndF_out hI ho hf he).mono hU
   . cases he
 . rename_i c ho
   split at he
   . rename_i hc
     split at he
     . rename_i h1 h2; exact (lenF_out hΓ hI ho hc h1 h2 he).mono hU
     . cases he
   . rename_i hc; exact (maxF_out hI ho hc he).mono hU
   . rename_i hc; exact (minF_out hI ho hc he).mono hU
   . rename_i hc
     split at he
     . rename_i h1 h2
       split at he
       . rename_i ht; subst ht; exact app_out hΓ hI ho hc h1 h2 hb hU hb' he
       . exact zerF_out hΓ hI ho hc h1 h2 hb hU hb' he
     . cases he
   . rename_i hc
     split at he
     . rename_i h1 h2; exact (capF_out hΓ hI ho hc h1 h2 he).mono hU
     . cases he
   . rename_i hc
     split at he
     . rename_i h1 h2; exact (clear_out hΓ hI ho hc h1 h2 he).mono hU
     . cases he
   . cases he
 . cases he
theorem Inv.slot (hI : Inv E U G st a W) {v : V} {x : Value} (hv : RV G W v x) (ha : AV U anyD v) (dst : Option Nat) (hd : ∀ d, dst = some d -> d < E.nt) : Inv E U G ⟨frPut st.fr dst v, st.H, st.nx⟩ (a.put dst x) W := by
 cases dst with
 | none => exact { hI with }
 | some d =>
   have hlt : d < a.tmps.size := Nat.lt_of_lt_of_le (hd d rfl) hI.nt
   have hget : ∀ t, (a.put (some d) x).tmps.getD t undef = if t = d then x else a.tmps.getD t undef := fun t => by
     simp only [Act.put, Array.getD_eq_getD_getElem?, Array.getElem?_setIfInBounds]
     by_cases h : d = t
     . subst h; simp [hlt]
     . simp [h, Ne.symm h]
   refine { hI with fr := fun t => ?_, wf := fun t => ?_, nt := by simpa [Act.put] using hI.nt, df := by simpa [Act.put] using hI.df }
   . rw [hget]
     simp only [frPut, upd_at]
     split
     . exact hv
     . exact hI.fr t
   . simp only [frPut, upd_at]
     split
     . exact ha
     . exact hI.wf t
theorem Inv.drew (hI : Inv E U G st a W) : Inv E U G st a { W with drawn := W.drawn + 1 } := by
 have hchg : Chg U G W G { W with drawn := W.drawn + 1 } := ⟨fun i _ => ⟨rfl, rfl, rfl, rfl⟩, fun k hk => ⟨hk, rfl⟩⟩
 refine { hI with fr := fun t => hchg.rv (hI.wf t) (hI.fr t), hp := fun id cs h => hchg.hb (hI.dom id (by rw [h]; rfl)) (hI.wh id cs h) (hI.hp id cs h) (fun _ => rfl) (fun h _ => h), im := fun b hb => hI.im b hb, keep := ⟨hI.keep.os, hI.keep.tape, hI.keep.output, (by first | exact Nat.le_refl _ | exact Nat.le_succ_of_le hI.keep.drawn), hI.keep.size, hI.keep.block⟩, df := hI.df.imp fun ds h => ⟨h.1, h.2.same (fun _ _ _ => rfl) (fun _ _ _ h => h)⟩ }
def lk {α : Type} : List (Nat × α) -> Nat -> Option α
 | [], _ => none
 | p :: r, i => if i = p.1 then some p.2 else lk r i
def litD : D -> Prop := fun x => ∃ v, x = .lit v
def InH (H : Hp) (i : Nat) : Prop := (H i).isSome = true
structure PreH (G : Gh) (W : World) (Hin : Hp) (ks : List Nat) : Prop where
 hb : ∀ i cs, Hin i = some cs -> HB G W i cs
 inj : ∀ i j, InH Hin i -> InH Hin j -> G.ph i = false -> G.ph j = false -> G.β i = G.β j -> i = j
 st : ∀ i ∈ ks, InH Hin i /\ G.ph i = false
inductive Res where
 | ret (v : V)
 | pan (v : V)
def Res.v : Res -> V
 | .ret v => v
 | .pan v => v
def resRel (G : Gh) (W : World) : Res -> Ending -> Prop
 | .ret r, .returned v => RV G W r v
 | .pan r, .panicked ch => ∃ x, ch = [{ v := x, recovered := false }] /\ RV G W r x
 | _, _ => False
def lentB (G : Gh) (Hin : Hp) (b : Nat) : Prop := ∃ i, InH Hin i /\ G.ph i = false /\ G.β i = b
structure Post (G : Gh) (W : World) (Hin : Hp) (ks : List Nat) (res : Res) (H1 : Hp) (e : Ending) (W' : World) (G' : Gh) : Prop where
 os : W'.os = W.os
 tape : W'.tape = W.tape
 output : W'.output = W.output
 drawn : dr W <= dr W'
 size : W.heap.size <= W'.heap.size
 block : ∀ b, b < W.heap.size -> ¬ lentB G Hin b -> W'.heap[b]? = W.heap[b]?
 im : ∀ b, G'.Im b -> b < W'.heap.size /\ (G.Im b \/ W.heap.size <= b \/ lentB G Hin b)
 im0 : ∀ b, G.Im b -> G'.Im b
 rv : resRel G' W' res e
 wf : AV (InH H1) anyD res.v
 hb : ∀ i cs, H1 i = some cs -> HB G' W' i cs /\ (G'.ph i = false -> W.heap.size <= G'.β i \/ lentB G Hin (G'.β i)) /\ ∀ c ∈ cs, AC (InH H1) anyD c
 inj : ∀ i j, InH H1 i -> InH H1 j -> G'.ph i = false -> G'.ph j = false -> G'.β i = G'.β j -> i = j
 st : ∀ i ∈ ks, InH H1 i -> G'.β i = G.β i /\ G'.bs i = G.bs i /\ G'.ph i = false /\ G'.lo i = G.lo i
def isFn (P : Program) (f : FuncId) : Prop := ∃ fn, P.funcs[f]? = some fn /\ fn.body.isSome = true /\ (fn.name == "runtime.NumGoroutine") = false
def Cm (P : Program) (f : FuncId) (args : List V) (Hin : Hp) (ks : List Nat) (res : Res) (H1 : Hp) : Prop :=
 isFn P f /\ ∀ (G : Gh) (W : World) (xs : Array Value), GW G.Im W -> All2 (R2 G W) args xs.toList -> PreH G W Hin ks ->
   Calls P f xs W fun e W' => ∃ G', Post G W Hin ks res H1 e W' G'
abbrev Ct (P : Program) (f : FuncId) (args : List V) (r : V) (H1 : List (Nat × List V)) : Prop := Cm P f args (fun _ => none) [] (.ret r) (lk H1)
def Bor0 (H : Hp) : V -> V -> Prop
 | .d x, .d y => x = y \/ (x = .lit (.slice none 0 0) /\ ∃ sz, y = .sl sz [])
 | .ls id off len sz, .d (.sl sz' es) => sz' = sz /\ es.length = len /\ (∀ e ∈ es, e.length = sz) /\ ∃ cs, H id = some cs /\ (cs.drop off).take (len * sz) = es.flatten.map .d
 | .lp id off, .d (.ref ds) => ∃ cs, H id = some cs /\ (cs.drop off).take ds.length = ds.map .d
 | .cl f caps, .d (.fn g ds) => f = g /\ caps = ds.map .d
 | .lp id off, .lp id' off' => id = id' /\ off = off'
 | .ls id off len sz, .ls id' off' len' sz' => id = id' /\ off = off' /\ len = len' /\ sz = sz'
 | .yl id, .yl id' => id = id'
 | _, _ => False
def Bor1 (H : Hp) : V -> V -> Prop
 | .cl f caps, .cl g caps' => f = g /\ caps = caps'
 | .cl f caps, .d (.fn g ds) => f = g /\ All2 (Bor0 H) caps (ds.map .d)
 | x, y => Bor0 H x y
def Bor (H : Hp) : V -> V -> Prop
 | .agg cs, .agg ds => All2 (Bor1 H) cs ds
 | x, y => Bor1 H x y
def Closed (v : V) : Prop := A2 (fun _ => False) anyD v
def renC (ρ : Nat -> Nat) : V -> V
 | .lr fr nt ps pa pb jmp => .lr (fun t => ren ρ (fr t)) nt ps pa pb jmp
 | v => ren1 ρ v
def sg (ks : List Nat) (base : Nat) (j : Nat) : Nat := if j ∈ ks then j else base + j
def heapM (H : Hp) (base : Nat) (Hin : Hp) (ks : List Nat) (H1 : Hp) : Hp := fun id =>
 if id ∈ ks then (H1 id).map (·.map (renC (sg ks base)))
 else if (Hin id).isSome then none
 else if base <= id then (if id - base ∈ ks then H id else match H1 (id - base) with | some cs => some (cs.map (renC (sg ks base))) | none => H id)
 else H id
theorem isCell_ren {ρ : Nat -> Nat} {v : V} (h : V.isCell v = true) : V.isCell (ren1 ρ v) = true := by
 cases v <;> first | (simp [V.isCell] at h; done) | rfl
theorem renC_cell {ρ : Nat -> Nat} {v : V} (h : V.isCell v = true) : renC ρ v = ren1 ρ v := by
 cases v <;> first | (simp [V.isCell] at h; done) | rfl
theorem A0.ren {p : Nat -> Prop} {q : D -> Prop} {ρ : Nat -> Nat} {p' : Nat -> Prop} (hp : ∀ i, p i -> p' (ρ i)) {v : V} (h : A0 p q v) : A0 p' anyD (ren0 ρ v) := by
 cases v <;> first | exact hp _ h | exact False.elim h | trivial
theorem A1.ren {p : Nat -> Prop} {q : D -> Prop} {ρ : Nat -> Nat} {p' : Nat -> Prop} (hp : ∀ i, p i -> p' (ρ i)) {v : V} (h : A1 p q v) : A1 p' anyD (ren1 ρ v) := by
 cases v with
 | cl f caps => intro c hc; simp only [List.mem_map] at hc; obtain ⟨y, hy, rfl⟩ := hc; exact A0.ren hp (h y hy)
 | lp id off => exact hp _ h
 | ls id off len sz => exact hp _ h
 | yl id => exact hp _ h
 | lr => exact False.elim h
 | _ => trivial
theorem A2.ren {p : Nat -> Prop} {q : D -> Prop} {ρ : Nat -> Nat} {p' : Nat -> Prop} (hp : ∀ i, p i -> p' (ρ i)) {v : V} (h : A2 p q v) : A2 p' anyD (ren2 ρ v) := by
 cases v with
 | agg cs => intro c hc; simp only [List.mem_map] at hc; obtain ⟨y, hy, rfl⟩ := hc; exact A1.ren hp (h y hy)
 | cl f caps => exact A1.ren (v := .cl f caps) hp h
 | lp id off => exact hp _ h
 | ls id off len sz => exact hp _ h
 | yl id => exact hp _ h
 | lr => exact False.elim h
 | _ => trivial
theorem AV.ren {p : Nat -> Prop} {q : D -> Prop} {ρ : Nat -> Nat} {p' : Nat -> Prop} (hp : ∀ i, p i -> p' (ρ i)) {v : V} (h : AV p q v) : AV p' anyD (Psl.ren ρ v) := by
 cases v with
 | tup cs => intro c hc; simp only [List.mem_map] at hc; obtain ⟨y, hy, rfl⟩ := hc; exact A2.ren hp (h y hy)
 | agg cs => exact A2.ren (v := .agg cs) hp h
 | cl f caps => exact A1.ren (v := .cl f caps) hp h
 | lp id off => exact hp _ h
 | ls id off len sz => exact hp _ h
 | yl id => exact hp _ h
 | lr => exact False.elim h
 | _ => trivial
theorem AC.ren {p : Nat -> Prop} {q : D -> Prop} {ρ : Nat -> Nat} {p' : Nat -> Prop} (hp : ∀ i, p i -> p' (ρ i)) {v : V} (h : AC p q v) : AC p' anyD (renC ρ v) := by
 cases v with
 | lr fr nt ps pa pb jmp => exact fun t => AV.ren hp (h t)
 | _ => simp only [AC] at h; exact (A1.ren hp h).ac
theorem renC_map {ρ : Nat -> Nat} {es : List (Value × Bool × List D)} : renC ρ (mapB es) = mapB es := by
 show V.lr _ _ _ _ _ _ = V.lr _ _ _ _ _ _
 congr 1
 funext t
 exact ren_mapFr
theorem Into.hb {p : Nat -> Prop} {q : D -> Prop} {ρ : Nat -> Nat} {G' : Gh} (h : Into p q ρ G W G' W) {i : Nat} {cs : List V} (hi : p i) (ha : ∀ c ∈ cs, AC p q c) (hb : HB G W i cs) (him : G.ph i = false -> ¬ G'.Im (G.β i)) : HB G' W (ρ i) (cs.map (renC ρ)) := by
 obtain ⟨e1, e2, e3, e4⟩ := h.id i hi
 rcases hb with ⟨h1, h2⟩ | ⟨h1, h0, h2, c, T, h3, h4, h5, h6, h7⟩ | ⟨h1, h0, h2, ⟨hz, fr, nt, ps, pa, pb, jmp, rec, h3, h4, h5⟩ | ⟨hz, es, ms, ck, h3, h4, h5⟩ | ⟨hz, bx, bp, bv, h3, h4, h5, h6, h7⟩⟩
 . exact .inl ⟨by rw [e3]; exact h1, by rw [h2]; rfl⟩
 . have hmap : cs.map (renC ρ) = cs.map (ren1 ρ) := List.map_congr_left fun c hc => renC_cell (List.all_eq_true.1 h7 c hc)
   rw [hmap]
   refine .inr (.inl ⟨by rw [e3]; exact h1, by rw [e4]; exact h0, by rw [e1]; exact him h1, c, T, by rw [e1]; exact h3, by rw [e2]; exact h4, by simpa using h5, ?_, ?_⟩)
   . rw [List.length_map]
     exact Into.all (fun v x => h.r1) (all_a1 h6 ha) h6
   . rw [List.all_map, List.all_eq_true]
     intro c hc
     exact isCell_ren (List.all_eq_true.1 h7 c hc)
 . refine .inr (.inr ⟨by rw [e3]; exact h1, by rw [e4]; exact h0, by rw [e1]; exact him h1, .inl ⟨by rw [e2]; exact hz, fun t => ren ρ (fr t), nt, ps, pa, pb, jmp, rec, by rw [h3]; rfl, by rw [e1]; exact h4, ?_⟩⟩)
   obtain ⟨q1, q2, q3, q4, q5, q6⟩ := h5
   have hfr := ha (.lr fr nt ps pa pb jmp) (by rw [h3]; simp)
   exact ⟨q1, q2, q3, q4, fun t => h.rv (hfr t) (q5 t), q6⟩
 . refine .inr (.inr ⟨by rw [e3]; exact h1, by rw [e4]; exact h0, by rw [e1]; exact him h1, .inr (.inl ⟨by rw [e2]; exact hz, es, ms, ck, by rw [h3]; exact congrArg (fun x => [x, V.d (.lit (.bool true))]) renC_map, by rw [e1]; exact h4, h5.into h ?_⟩)⟩)
   exact ha (mapB es) (by rw [h3]; simp [mapC])
 . exact .inr (.inr ⟨by rw [e3]; exact h1, by rw [e4]; exact h0, by rw [e1]; exact him h1, .inr (.inr ⟨by rw [e2]; exact hz, ren1 ρ bx, bp, bv, by rw [h3]; show [renC ρ bx, _] = _; rw [renC_cell h7]; rfl, by rw [e1]; exact h4, by rw [e1, e2]; exact h5, h.r1 (h6.ac (ha bx (by rw [h3]; simp))) h6, isCell_ren h7⟩)⟩)
def renR (ρ : Nat -> Nat) : Res -> Res
 | .ret v => .ret (ren ρ v)
 | .pan v => .pan (ren ρ v)
def flatRes (res : Res) (H1 : Hp) : Prop := AV (InH H1) litD res.v /\ ∀ i cs, H1 i = some cs -> ∀ c ∈ cs, AC (InH H1) litD c
def lent (G : Gh) (st : St) (Hin : Hp) (b : Nat) : Prop := G.Im b \/ ∃ i, InH st.H i /\ ¬ InH Hin i /\ G.ph i = false /\ G.β i = b
theorem resRel.into {p : Nat -> Prop} {q : D -> Prop} {ρ : Nat -> Nat} {G' : Gh} (h : Into p q ρ G W G' W) {res : Res} {e : Ending} (ha : AV p q res.v) (hr : resRel G W res e) : resRel G' W (renR ρ res) e := by
 cases res with
 | ret r => cases e with
   | returned v => exact h.rv ha hr
   | _ => exact hr.elim
 | pan r => cases e with
   | panicked ch => obtain ⟨x, hx, hr⟩ := hr; exact ⟨x, hx, h.rv ha hr⟩
   | _ => exact hr.elim
theorem Inv.call (hI : Inv E U G st a W) {base : Nat} (hb : ∀ j, j < 1048576 -> ¬ U (base + j)) (hU : ∀ i, U i -> U' i) (hb' : ∀ j, j < 1048576 -> U' (base + j)) {Im : Nat -> Prop} {W' : World} {e : Ending} {G' : Gh} {Hin : Hp} {ks : List Nat} {res : Res} {H1 : Hp}
   (hin : ∀ i cs, Hin i = some cs -> st.H i = some cs) (hlt : ∀ i, InH H1 i -> i ∉ ks -> i < 1048576) (hks : ∀ i ∈ ks, InH Hin i) (hstk : ∀ i ∈ ks, G.ph i = false)
   (hp : Post { G with Im := Im } W Hin ks res H1 e W' G')
   (hcase : (∀ b, Im b ↔ G.Im b) \/ ((∀ b, Im b ↔ lent G st Hin b) /\ flatRes res H1)) :
   ∃ G'', Inv E U' G'' ⟨st.fr, heapM st.H base Hin ks H1, st.nx⟩ a W' /\ resRel G'' W' (renR (sg ks base) res) e /\ AV U' anyD (renR (sg ks base) res).v /\ Chg U G W G'' W' := by
 have hIn : ∀ i, InH Hin i -> InH st.H i := fun i hi => by
   obtain ⟨cs, hcs⟩ := Option.isSome_iff_exists.1 hi
   show (st.H i).isSome = true
   rw [hin i cs hcs]; rfl
 have hlB : ∀ b, lentB { G with Im := Im } Hin b ↔ lentB G Hin b := fun b => Iff.rfl
 have hoth : ∀ i, InH st.H i -> ¬ InH Hin i -> G.ph i = false -> ¬ lentB G Hin (G.β i) := fun i hi hn hph ⟨j, hj, hpj, he⟩ => by
   have := hI.inj j i (hIn j hj) hi hpj hph he
   subst this
   exact hn hj
 have hltW : ∀ i, InH st.H i -> G.ph i = false -> G.β i < W.heap.size := fun i hi hp => by
   obtain ⟨cs, hcs⟩ := Option.isSome_iff_exists.1 hi
   exact (hI.hp i cs hcs).lt hp
 have hnim : ∀ i, InH st.H i -> G.ph i = false -> ¬ G.Im (G.β i) := fun i hi hp => by
   obtain ⟨cs, hcs⟩ := Option.isSome_iff_exists.1 hi
   exact (hI.hp i cs hcs).nim hp
 obtain ⟨q, IM, hq, hqr, hqc, hImG, hImN⟩ : ∃ (q : D -> Prop) (IM : Nat -> Prop), (∀ x u, q x -> RD G'.Im W' x u -> RD IM W' x u) /\ AV (InH H1) q res.v /\ (∀ i cs, H1 i = some cs -> ∀ c ∈ cs, AC (InH H1) q c) /\ (∀ b, G.Im b -> IM b) /\
     (∀ b, IM b -> b < W'.heap.size /\ (G.Im b \/ W.heap.size <= b \/ lentB G Hin b) /\ ∀ i, InH H1 i -> G'.ph i = false -> G'.β i = b -> ¬ IM b) := by
   rcases hcase with hc | ⟨hc, h1, h2⟩
   . refine ⟨anyD, G'.Im, fun _ _ _ h => h, hp.wf, fun i cs h => (hp.hb i cs h).2.2, fun b hb => hp.im0 b ((hc b).2 hb), fun b hb => ?_⟩
     obtain ⟨h1, h2⟩ := hp.im b hb
     refine ⟨h1, h2.imp (fun h => (hc b).1 h) id, fun i hi hph he => ?_⟩
     obtain ⟨cs, hcs⟩ := Option.isSome_iff_exists.1 hi
     subst he
     exact (hp.hb i cs hcs).1.nim hph
   . refine ⟨litD, G.Im, fun x u hx hr => ?_, h1, h2, fun _ h => h, fun b hb => ?_⟩
     . obtain ⟨w, rfl⟩ := hx
       cases hr with
       | lit _ hf => exact .lit _ hf
     . have h3 := (hI.im b hb).1
       refine ⟨Nat.lt_of_lt_of_le h3 hp.size, .inl hb, fun i hi hph he => ?_⟩
       obtain ⟨cs, hcs⟩ := Option.isSome_iff_exists.1 hi
       rcases (hp.hb i cs hcs).2.1 hph with h | ⟨j, hj, hpj, hbj⟩
       . omega
       . exact absurd hb (by rw [<- he, <- hbj]; exact hnim j (hIn j hj) hpj)
 let G'' : Gh := { β := fun i => if base <= i /\ i < base + 1048576 then G'.β (i - base) else G.β i, bs := fun i => if base <= i /\ i < base + 1048576 then G'.bs (i - base) else G.bs i, ph := fun i => if base <= i /\ i < base + 1048576 then G'.ph (i - base) else G.ph i, lo := fun i => if base <= i /\ i < base + 1048576 then G'.lo (i - base) else G.lo i, Im := IM }
 have hold : ∀ i, U i -> ¬ (base <= i /\ i < base + 1048576) := fun i hi h => hb (i - base) (by omega) (by rw [show base + (i - base) = i by omega]; exact hi)
 have hksU : ∀ i ∈ ks, U i := fun i hi => hI.dom i (hIn i (hks i hi))
 have hinto : Into (InH H1) q (sg ks base) G' W' G'' W' := ⟨fun i hi => by
   unfold sg
   by_cases hk : i ∈ ks
   . obtain ⟨e1, e2, e3, e4⟩ := hp.st i hk hi
     have hn := hold i (hksU i hk)
     have hphG : G.ph i = false := by
       obtain ⟨cs, hcs⟩ := Option.isSome_iff_exists.1 (hIn i (hks i hk))
       by_cases hh : G.ph i = true
       . exfalso
         have := hstk i hk
         rw [this] at hh; cases hh
       . simpa using hh
     simp only [if_pos hk, G'', if_neg hn]
     exact ⟨e1.symm, e2.symm, by rw [e3]; exact hphG, e4.symm⟩
   . have := hlt i hi hk
     have h : base <= base + i /\ base + i < base + 1048576 := by omega
     simp only [if_neg hk, G'', if_pos h, show base + i - base = i by omega, and_self], fun x u hx hr => hq x u hx hr⟩
 have hchg : Chg U G W G'' W' := ⟨fun i hi => by simp only [G'', if_neg (hold i hi), and_self], fun b hb => ⟨hImG b hb, hp.block b (hI.im b hb).1 (fun ⟨j, hj, hpj, he⟩ => hnim j (hIn j hj) hpj (by rw [he]; exact hb))⟩⟩
 have hH : ∀ i x, heapM st.H base Hin ks H1 i = some x -> (∃ j cs, i = sg ks base j /\ H1 j = some cs /\ x = cs.map (renC (sg ks base))) \/ (st.H i = some x /\ ¬ InH Hin i /\ i ∉ ks) := fun i x h => by
   unfold heapM at h
   by_cases hk : i ∈ ks
   . rw [if_pos hk] at h
     simp only [Option.map_eq_some_iff] at h
     obtain ⟨cs, h1, rfl⟩ := h
     exact .inl ⟨i, cs, by simp [sg, hk], h1, rfl⟩
   . rw [if_neg hk] at h
     by_cases hh : InH Hin i
     . rw [if_pos (show (Hin i).isSome = true from hh)] at h; cases h
     . rw [if_neg (show ¬ (Hin i).isSome = true from hh)] at h
       split at h
       . rename_i hbi
         split at h
         . exact .inr ⟨h, hh, hk⟩
         . rename_i hkb
           split at h
           . rename_i cs hcs
             cases h
             exact .inl ⟨i - base, cs, by simp [sg, hkb]; omega, hcs, rfl⟩
           . exact .inr ⟨h, hh, hk⟩
       . exact .inr ⟨h, hh, hk⟩
 have hH' : ∀ i, InH (heapM st.H base Hin ks H1) i -> (∃ j, i = sg ks base j /\ InH H1 j) \/ (InH st.H i /\ ¬ InH Hin i /\ ¬ (base <= i /\ i < base + 1048576)) := fun i h => by
   obtain ⟨x, hx⟩ := Option.isSome_iff_exists.1 h
   rcases hH i x hx with ⟨j, cs, h1, h2, _⟩ | ⟨h1, h2, _⟩
   . exact .inl ⟨j, h1, by show (H1 j).isSome = true; rw [h2]; rfl⟩
   . have : InH st.H i := by show (st.H i).isSome = true; rw [h1]; rfl
     exact .inr ⟨this, h2, hold i (hI.dom i this)⟩
 have hnew := hinto.id
 have hsgU : ∀ j, InH H1 j -> U' (sg ks base j) := fun j hj => by
   unfold sg
   split
   . rename_i hk; exact hU _ (hksU j hk)
   . rename_i hk; exact hb' j (hlt j hj hk)
 have hsginj : ∀ i j, InH H1 i -> InH H1 j -> sg ks base i = sg ks base j -> i = j := fun i j hi hj he => by
   unfold sg at he
   by_cases hki : i ∈ ks <;> by_cases hkj : j ∈ ks
   . simpa [hki, hkj] using he
   . simp only [if_pos hki, if_neg hkj] at he
     exact absurd (hksU i hki) (by rw [he]; exact hb j (hlt j hj hkj))
   . simp only [if_pos hkj, if_neg hki] at he
     exact absurd (hksU j hkj) (by rw [<- he]; exact hb i (hlt i hi hki))
   . simp only [if_neg hki, if_neg hkj] at he; omega
 refine ⟨G'', ?_, hp.rv.into hinto hqr, ?_, hchg⟩
 rotate_left
 . cases res with
   | ret r => exact AV.ren (fun i hi => hsgU i hi) hqr
   | pan r => exact AV.ren (fun i hi => hsgU i hi) hqr
 refine { fr := fun t => hchg.rv (hI.wf t) (hI.fr t), wf := fun t => AV.mono hU (fun _ h => h) (hI.wf t), hp := ?_, wh := ?_, dom := ?_, inj := ?_, own := ?_, im := ?_, im0 := fun b hb => hImG b (hI.im0 b hb), keep := ?_, stab := ?_, sU := fun i hs => hU _ (hI.sU i hs), nt := hI.nt, df := ?_, gl := hI.gl.mono hchg.im }
 . intro i x h
   rcases hH i x h with ⟨j, cs, rfl, h2, rfl⟩ | ⟨h1, h2, _⟩
   . have hpj : InH H1 j := by show (H1 j).isSome = true; rw [h2]; rfl
     exact hinto.hb hpj (hqc j cs h2) (hp.hb j cs h2).1 (fun hph hIM => (hImN _ hIM).2.2 j hpj hph rfl hIM)
   . have hi : InH st.H i := by show (st.H i).isSome = true; rw [h1]; rfl
     refine hchg.hb (hI.dom i hi) (hI.wh i x h1) (hI.hp i x h1) (fun hph => hp.block _ (hltW i hi hph) (hoth i hi h2 hph)) (fun hx hph => ?_)
     rcases (hImN _ hx).2.1 with h | h | h
     . exact h
     . have := hltW i hi hph; omega
     . exact absurd h (hoth i hi h2 hph)
 . intro i x h y hy
   rcases hH i x h with ⟨j, cs, rfl, h2, rfl⟩ | ⟨h1, h2, _⟩
   . simp only [List.mem_map] at hy
     obtain ⟨z, hz, rfl⟩ := hy
     exact (hqc j cs h2 z hz).ren hsgU
   . exact AC.mono hU (fun _ h => h) (hI.wh i x h1 y hy)
 . intro i h
   rcases hH' i h with ⟨j, rfl, hj⟩ | ⟨h1, _⟩
   . exact hsgU j hj
   . exact hU _ (hI.dom i h1)
 . intro i j hi hj hpi hpj he
   rcases hH' i hi with ⟨i', rfl, hi'⟩ | ⟨hi1, hi2, hi3⟩ <;> rcases hH' j hj with ⟨j', rfl, hj'⟩ | ⟨hj1, hj2, hj3⟩
   . rw [(hnew i' hi').2.2.1] at hpi
     rw [(hnew j' hj').2.2.1] at hpj
     rw [(hnew i' hi').1, (hnew j' hj').1] at he
     rw [hp.inj i' j' hi' hj' hpi hpj he]
   . rw [(hnew i' hi').2.2.1] at hpi
     rw [(hnew i' hi').1] at he
     simp only [G'', if_neg hj3] at he hpj
     obtain ⟨cs, hcs⟩ := Option.isSome_iff_exists.1 hi'
     rcases (hp.hb i' cs hcs).2.1 hpi with h1 | h1
     . have h2 := hltW j hj1 hpj; omega
     . rw [he] at h1; exact absurd h1 (hoth j hj1 hj2 hpj)
   . rw [(hnew j' hj').2.2.1] at hpj
     rw [(hnew j' hj').1] at he
     simp only [G'', if_neg hi3] at he hpi
     obtain ⟨cs, hcs⟩ := Option.isSome_iff_exists.1 hj'
     rcases (hp.hb j' cs hcs).2.1 hpj with h1 | h1
     . have h2 := hltW i hi1 hpi; omega
     . rw [<- he] at h1; exact absurd h1 (hoth i hi1 hi2 hpi)
   . simp only [G'', if_neg hi3, if_neg hj3] at he hpi hpj
     exact hI.inj i j hi1 hj1 hpi hpj he
 . intro i hi hph
   rcases hH' i hi with ⟨j, rfl, hj⟩ | ⟨h1, _, h2⟩
   . rw [(hnew j hj).2.2.1] at hph
     rw [(hnew j hj).1]
     obtain ⟨cs, hcs⟩ := Option.isSome_iff_exists.1 hj
     rcases (hp.hb j cs hcs).2.1 hph with h1 | ⟨k, hk, hpk, hbk⟩
     . have := hI.keep.size
       exact .inl (by omega)
     . rw [<- hbk]; exact hI.own k (hIn k hk) hpk
   . simp only [G'', if_neg h2] at hph ⊢
     exact hI.own i h1 hph
 . intro b hb
   obtain ⟨h1, h2, _⟩ := hImN b hb
   refine ⟨h1, ?_⟩
   rcases h2 with h | h | ⟨k, hk, hpk, hbk⟩
   . exact (hI.im b h).2
   . exact .inr (.inl (Nat.le_trans hI.keep.size h))
   . rw [<- hbk]; exact .inr (hI.own k (hIn k hk) hpk)
 . refine ⟨hp.os.trans hI.keep.os, hp.tape.trans hI.keep.tape, hp.output.trans hI.keep.output, Nat.le_trans hI.keep.drawn hp.drawn, Nat.le_trans hI.keep.size hp.size, fun b hb hm => (hp.block b (Nat.lt_of_lt_of_le hb hI.keep.size) fun ⟨k, hk, hpk, hbk⟩ => ?_).trans (hI.keep.block b hb hm)⟩
   rcases hI.own k (hIn k hk) hpk with h | h
   . simp only at hbk; omega
   . exact hm (hbk ▸ h)
 . intro i hs hi
   rcases hH' i hi with ⟨j, hij, hj⟩ | ⟨h1, _, h2⟩
   . have hUi := hI.sU _ hs
     unfold sg at hij
     split at hij
     . rename_i hk
       subst hij
       simp only [G'', if_neg (hold i hUi)]
       exact hI.stab i hs (hIn i (hks i hk))
     . rename_i hk
       exact absurd hUi (by rw [hij]; exact hb j (hlt j hj hk))
   . simp only [G'', if_neg h2]
     exact hI.stab i hs h1
 . obtain ⟨ds, h1, h2⟩ := hI.df
   refine ⟨ds, h1, h2.same (fun D hD hd => hp.block D (Array.getElem?_eq_some_iff.1 hd).1 fun ⟨k, hk, hpk, hbk⟩ => ?_) (fun D hD hd hx => ?_)⟩
   . simp only at hbk
     obtain ⟨cs, hcs⟩ := Option.isSome_iff_exists.1 (hIn k hk)
     rcases hI.hp k cs hcs with ⟨h, _⟩ | ⟨_, _, _, c, T, ⟨fz, h, _⟩, _⟩ | ⟨_, _, _, ⟨_, fr, nt, ps, pa, pb, jmp, rec, _, h, _⟩ | ⟨_, es, ms, ck, _, h, _⟩ | ⟨_, bx, bp, bv, _, h, _⟩⟩
     . simp only at hpk; rw [hpk] at h; cases h
     . rw [hbk, hd] at h; cases h
     . rw [hbk, hd] at h; cases h
     . rw [hbk, hd] at h; cases h
     . rw [hbk, hd] at h; cases h
   . rcases (hImN _ hx).2.1 with h | h | ⟨k, hk, hpk, hbk⟩
     . exact h
     . have := (Array.getElem?_eq_some_iff.1 hd).1; omega
     . obtain ⟨cs, hcs⟩ := Option.isSome_iff_exists.1 (hIn k hk)
       rcases hI.hp k cs hcs with ⟨h, _⟩ | ⟨_, _, _, c, T, ⟨fz, h, _⟩, _⟩ | ⟨_, _, _, ⟨_, fr, nt, ps, pa, pb, jmp, rec, _, h, _⟩ | ⟨_, es, ms, ck, _, h, _⟩ | ⟨_, bx, bp, bv, _, h, _⟩⟩
       . rw [hpk] at h; cases h
       . rw [hbk, hd] at h; cases h
       . rw [hbk, hd] at h; cases h
       . rw [hbk, hd] at h; cases h
       . rw [hbk, hd] at h; cases h
end Go.Psl
