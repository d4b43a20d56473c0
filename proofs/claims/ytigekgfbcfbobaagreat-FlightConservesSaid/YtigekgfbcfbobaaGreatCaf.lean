/- Own lemmas and contracts of functions, used by the last text of this claim for the given statement. Conditions: those that each theorem states. -/
import Derived.Deep.Slices
import Derived.Lib.SmallJoins
import Derived.OpenShut
import Derived.ProofKit
import Derived.Test.YtigekgfbcfbobaaGreatCaa
import Derived.Test.YtigekgfbcfbobaaGreatCae
import Derived.Test.YtigekgfbcfbobaaGreatProg
namespace Go.Psl
variable {Γ : Tys} {eqs : Eqs} {H : Hp} {t : TypeId} {b : Nat}
theorem loadF_ref {cs : List D} : loadF Γ H t (.d (.ref cs)) = (Γ t).bind fun y => if y.size <= cs.length then some (mkV y.agg ((cs.take y.size).map .d), .none) else none := nrfl rfl
theorem loadF_lp {id off : Nat} : loadF Γ H t (.lp id off) = (Γ t).bind fun y => (H id).bind fun cells => if off + y.size <= cells.length then some (mkV y.agg ((cells.drop off).take y.size), .none) else none := nrfl rfl
theorem mkV_agg {cs : List V} : mkV true cs = .agg cs := nrfl rfl
theorem mkV_one {c : V} {cs : List V} : mkV false (c :: cs) = c := nrfl rfl
theorem storeF_lp {id off : Nat} {v : V} : storeF Γ H t (.lp id off) v = (Γ t).bind fun y => (H id).bind fun cells => if v.cells.length = y.size /\ off + y.size <= cells.length /\ v.cells.all V.isCell = true then some (.junk, .put id (splice cells off v.cells)) else none := nrfl rfl
theorem cells_agg {cs : List V} : V.cells (.agg cs) = cs := nrfl rfl
theorem cells_d {x : D} : V.cells (.d x) = [.d x] := nrfl rfl
theorem cells_lp {i o : Nat} : V.cells (.lp i o) = [.lp i o] := nrfl rfl
theorem cells_ls {i o l z : Nat} : V.cells (.ls i o l z) = [.ls i o l z] := nrfl rfl
theorem cells_cl {f : FuncId} {c : List V} : V.cells (.cl f c) = [.cl f c] := nrfl rfl
theorem isCell_d {x : D} : V.isCell (.d x) = true := nrfl rfl
theorem isCell_lp {i o : Nat} : V.isCell (.lp i o) = true := nrfl rfl
theorem isCell_ls {i o l z : Nat} : V.isCell (.ls i o l z) = true := nrfl rfl
theorem isCell_cl {f : FuncId} {c : List V} : V.isCell (.cl f c) = true := nrfl rfl
theorem opdL_nil {f : Nat -> V} : opdL f [] = [] := nrfl rfl
theorem opdL_cons {f : Nat -> V} {i : Nat} {x : Operand} {r : List (Nat × Operand)} : opdL f ((i, x) :: r) = (i, evF f x) :: opdL f r := nrfl rfl
theorem capL_nil {f : Nat -> V} : capL f [] = [] := nrfl rfl
theorem capL_cons {f : Nat -> V} {x : Operand} {r : List Operand} : capL f (x :: r) = evF f x :: capL f r := nrfl rfl
theorem evF_tmp {f : Nat -> V} {t : Nat} : evF f (.tmp t) = f t := nrfl rfl
theorem evF_const {f : Nat -> V} {v : Value} : evF f (.const v) = evC v := nrfl rfl
theorem evF_func {f : Nat -> V} {g : FuncId} : evF f (.func g) = .d (.fn g []) := nrfl rfl
theorem callee_fn {g : FuncId} {cs : List D} : calleeOf (.d (.fn g cs)) = some (g, cs.map .d) := nrfl rfl
theorem callee_cl {g : FuncId} {cs : List V} : calleeOf (.cl g cs) = some (g, cs) := nrfl rfl
theorem cells_yl {i : Nat} : V.cells (.yl i) = [.yl i] := nrfl rfl
theorem isCell_yl {i : Nat} : V.isCell (.yl i) = true := nrfl rfl
theorem fieldF_ref {cs : List D} {i : Nat} : fieldF Γ t (.d (.ref cs)) i = (Γ t).bind fun y => match y.sh with
 | .struct fs => fs[i]?.bind fun p => (Γ p.2).bind fun yf => if yf.size = 0 then none else some (.d (.ref (cs.drop p.1)), .none)
 | _ => none := nrfl rfl
theorem fieldF_lp {id off i : Nat} : fieldF Γ t (.lp id off) i = (Γ t).bind fun y => match y.sh with
 | .struct fs => fs[i]?.bind fun p => (Γ p.2).bind fun yf => if yf.size = 0 then none else some (.lp id (off + p.1), .none)
 | _ => none := nrfl rfl
theorem lenF_sl {sz : Nat} {es : List (List D)} : lenF Γ t (.d (.sl sz es)) = (Γ t).bind fun y => match y.sh with | .slice _ => some (.d (.lit (.int .i64 es.length)), .none) | _ => none := by
 unfold lenF; congr; funext y; cases y.sh <;> rfl
theorem lenF_ls {i o l z : Nat} : lenF Γ t (.ls i o l z) = (Γ t).bind fun y => match y.sh with | .slice _ => some (.d (.lit (.int .i64 l)), .none) | _ => none := by
 unfold lenF; congr; funext y; cases y.sh <;> rfl
theorem lenF_nil {a : Option Addr} {n c : Nat} : lenF Γ t (.d (.lit (.slice a n c))) = (Γ t).bind fun y => match y.sh with | .slice _ => some (.d (.lit (.int .i64 0)), .none) | _ => none := by
 unfold lenF; congr; funext y; cases y.sh <;> rfl
theorem binF_int {o : BinOp} {k k' : IntKind} {x y : Int} : binF Γ eqs o t (.d (.lit (.int k x))) (.d (.lit (.int k' y))) = (binI o k k' x y).map fun v => (.d (.lit v), .none) := nrfl rfl
theorem binF_bool {o : BinOp} {x y : Bool} : binF Γ eqs o t (.d (.lit (.bool x))) (.d (.lit (.bool y))) = (Γ t).bind fun z => match z.sh, o with
   | .bool, .eql => some (.d (.lit (.bool (x == y))), .none)
   | .bool, .neq => some (.d (.lit (.bool (x != y))), .none)
   | _, _ => none := nrfl rfl
theorem binF_agg {o : BinOp} {x y : List V} : binF Γ eqs o t (.agg x) (.agg y) = (eqs t).bind fun ks => match o with
   | .eql => (eqCells ks x y).map fun r => (.d (.lit (.bool r)), .none)
   | .neq => (eqCells ks x y).map fun r => (.d (.lit (.bool (!r))), .none)
   | _ => none := nrfl rfl
section
variable {k : IntKind} {x y : Int}
theorem binI_add : binI .add k k x y = some (.int k (k.wrap (x + y))) := by simp [binI]
theorem binI_sub : binI .sub k k x y = some (.int k (k.wrap (x - y))) := by simp [binI]
theorem binI_mul : binI .mul k k x y = some (.int k (k.wrap (x * y))) := by simp [binI]
theorem binI_quo : binI .quo k k x y = if y = 0 then none else some (.int k (k.wrap (x.tdiv y))) := by simp [binI]
theorem binI_rem : binI .rem k k x y = if y = 0 then none else some (.int k (x.tmod y)) := by simp [binI]
theorem beq_dec {x y : Int} : (x == y) = decide (x = y) := by by_cases h : x = y <;> simp [h]
theorem bne_dec {x y : Int} : (x != y) = !decide (x = y) := by by_cases h : x = y <;> simp [h]
theorem binI_eql : binI .eql k k x y = some (.bool (decide (x = y))) := by simp [binI, beq_dec]
theorem binI_neq : binI .neq k k x y = some (.bool (!decide (x = y))) := by simp [binI, bne_dec]
theorem binI_lss : binI .lss k k x y = some (.bool (decide (x < y))) := by simp [binI]
theorem binI_leq : binI .leq k k x y = some (.bool (decide (x <= y))) := by simp [binI]
theorem binI_gtr : binI .gtr k k x y = some (.bool (decide (y < x))) := by simp [binI]
theorem binI_geq : binI .geq k k x y = some (.bool (decide (y <= x))) := by simp [binI]
end
section
variable {k k' : IntKind} {x y : Int}
theorem binI_shl : binI .shl k k' x y = if 0 <= y /\ y <= k.bits then some (.int k (k.wrap (x * 2 ^ y.toNat))) else none := nrfl rfl
theorem binI_shr : binI .shr k k' x y = if 0 <= y /\ y <= k.bits then some (.int k (x / 2 ^ y.toNat)) else none := nrfl rfl
theorem binI_and : binI .and k k x y = some (.int k (bits .and k x y)) := by simp [binI]
theorem binI_or : binI .or k k x y = some (.int k (bits .or k x y)) := by simp [binI]
theorem binI_xor : binI .xor k k x y = some (.int k (bits .xor k x y)) := by simp [binI]
theorem bits_u64 : IntKind.bits .u64 = 64 := nrfl rfl
theorem bits_i64 : IntKind.bits .i64 = 64 := nrfl rfl
end
theorem unF_not {x : Bool} : unF .not (.d (.lit (.bool x))) = some (.d (.lit (.bool (!x))), .none) := nrfl rfl
theorem unF_neg {k : IntKind} {x : Int} : unF .neg (.d (.lit (.int k x))) = some (.d (.lit (.int k (k.wrap (-x)))), .none) := nrfl rfl
theorem pickF_bool {c : Bool} {x y : Bool} : pickF (.d (.lit (.bool c))) (.d (.lit (.bool x))) (.d (.lit (.bool y))) = some (.d (.lit (.bool (if c then x else y))), .none) := nrfl rfl
theorem pickF_true {x y : V} : pickF (.d (.lit (.bool true))) x y = some (x, .none) := by
 have : pickV true x y = x := by unfold pickV; split <;> rfl
 show some (pickV true x y, Eff.none) = _
 rw [this]
theorem pickF_false {x y : V} : pickF (.d (.lit (.bool false))) x y = some (y, .none) := by
 have : pickV false x y = y := by unfold pickV; split <;> rfl
 show some (pickV false x y, Eff.none) = _
 rw [this]
theorem gV_bool {x : Bool} : gV (.d (.lit (.bool x))) = some (some x) := nrfl rfl
theorem gV_undef : gV (.tup []) = some none := nrfl rfl
theorem extrF_tup {vs : List V} {i : Nat} : extrF (.tup vs) i = vs[i]?.map fun v => (v, .none) := nrfl rfl
theorem boxF_eq {v : V} : boxF b v = if v.cells.all V.isCell then some (.lp b 0, .new b v.cells) else none := nrfl rfl
theorem allocF_eq : allocF Γ b t = (Γ t).bind fun y => some (.lp b 0, .new b (y.zero.map cV)) := nrfl rfl
theorem cV_eq {v : Value} : cV v = .d (.lit v) := nrfl rfl
theorem some_beq {x y : Bool} : ((some x : Option Bool) == some y) = (x == y) := nrfl rfl
theorem none_beq {y : Bool} : ((none : Option Bool) == some y) = false := nrfl rfl
theorem argF_nil {k t : Nat} : argF k [] t = .tup [] := nrfl rfl
theorem argF_cons {k t : Nat} {a : V} {r : List V} : argF k (a :: r) t = if t = k then a else argF (k + 1) r t := nrfl rfl
theorem slots_nil {t : Nat} : slots [] t = .junk := nrfl rfl
theorem slots_cons {k t : Nat} {a : V} {r : List (Nat × V)} : slots ((k, a) :: r) t = if t = k then a else slots r t := by
 simp only [slots, lk]; split <;> rfl
theorem lk_nil {α : Type} {t : Nat} : lk ([] : List (Nat × α)) t = none := nrfl rfl
theorem lk_cons {α : Type} {k t : Nat} {a : α} {r : List (Nat × α)} : lk ((k, a) :: r) t = if t = k then some a else lk r t := nrfl rfl
section
variable {ρ : Nat -> Option Nat}
theorem All2_nil {α β : Type} {R : α -> β -> Prop} : All2 R [] [] = True := nrfl rfl
theorem All2_cons {α β : Type} {R : α -> β -> Prop} {a : α} {b : β} {az : List α} {bs : List β} : All2 R (a :: az) (b :: bs) = (R a b /\ All2 R az bs) := nrfl rfl
theorem W0_d {v : V} {x : D} : W0 ρ v (.d x) = (v = .d x) := nrfl rfl
theorem W1_d {v : V} {x : D} : W1 ρ v (.d x) = (v = .d x) := nrfl rfl
theorem W2_d {v : V} {x : D} : W2 ρ v (.d x) = (v = .d x) := nrfl rfl
theorem WV_d {v : V} {x : D} : WV ρ v (.d x) = (v = .d x) := nrfl rfl
theorem W0_junk {v : V} : W0 ρ v .junk = True := nrfl rfl
theorem W1_junk {v : V} : W1 ρ v .junk = True := nrfl rfl
theorem W2_junk {v : V} : W2 ρ v .junk = True := nrfl rfl
theorem WV_junk {v : V} : WV ρ v .junk = True := nrfl rfl
theorem W0_lp {i j o o' : Nat} : W0 ρ (.lp j o) (.lp i o') = (ρ i = some j /\ o = o') := by
 simp only [W0, V.lp.injEq, eq_iff_iff]
 constructor
 . rintro ⟨j', h1, rfl, rfl⟩; exact ⟨h1, rfl⟩
 . rintro ⟨h1, rfl⟩; exact ⟨j, h1, rfl, rfl⟩
theorem W1_lp {i j o o' : Nat} : W1 ρ (.lp j o) (.lp i o') = (ρ i = some j /\ o = o') := W0_lp
theorem W2_lp {i j o o' : Nat} : W2 ρ (.lp j o) (.lp i o') = (ρ i = some j /\ o = o') := W0_lp
theorem WV_lp {i j o o' : Nat} : WV ρ (.lp j o) (.lp i o') = (ρ i = some j /\ o = o') := W0_lp
theorem W0_ls {i j o o' l l' z z' : Nat} : W0 ρ (.ls j o l z) (.ls i o' l' z') = (ρ i = some j /\ o = o' /\ l = l' /\ z = z') := by
 simp only [W0, eq_iff_iff]
 cases ρ i with
 | none => simp
 | some k => simp [eq_comm]
theorem W1_ls {i j o o' l l' z z' : Nat} : W1 ρ (.ls j o l z) (.ls i o' l' z') = (ρ i = some j /\ o = o' /\ l = l' /\ z = z') := W0_ls
theorem W2_ls {i j o o' l l' z z' : Nat} : W2 ρ (.ls j o l z) (.ls i o' l' z') = (ρ i = some j /\ o = o' /\ l = l' /\ z = z') := W0_ls
theorem WV_ls {i j o o' l l' z z' : Nat} : WV ρ (.ls j o l z) (.ls i o' l' z') = (ρ i = some j /\ o = o' /\ l = l' /\ z = z') := W0_ls
theorem W0_nils {i o l z : Nat} : W0 ρ (.d (.lit (.slice none 0 0))) (.ls i o l z) = (ρ i = none /\ l = 0) := by
 simp only [W0, eq_iff_iff]
 cases ρ i with
 | none => simp
 | some k => simp
theorem W1_nils {i o l z : Nat} : W1 ρ (.d (.lit (.slice none 0 0))) (.ls i o l z) = (ρ i = none /\ l = 0) := W0_nils
theorem W2_nils {i o l z : Nat} : W2 ρ (.d (.lit (.slice none 0 0))) (.ls i o l z) = (ρ i = none /\ l = 0) := W0_nils
theorem WV_nils {i o l z : Nat} : WV ρ (.d (.lit (.slice none 0 0))) (.ls i o l z) = (ρ i = none /\ l = 0) := W0_nils
theorem W2_agg {az bs : List V} : W2 ρ (.agg az) (.agg bs) = All2 (W1 ρ) az bs := by simp [W2]
theorem WV_agg {az bs : List V} : WV ρ (.agg az) (.agg bs) = All2 (W1 ρ) az bs := by simp [WV, W2]
theorem WV_tup {az bs : List V} : WV ρ (.tup az) (.tup bs) = All2 (W2 ρ) az bs := by simp [WV]
theorem SlotsOk_nil {f : Nat -> V} : SlotsOk ρ f [] = True := nrfl rfl
theorem SlotsOk_cons {f : Nat -> V} {t : Nat} {v : V} {r : List (Nat × V)} : SlotsOk ρ f ((t, v) :: r) = (WV ρ (f t) v /\ SlotsOk ρ f r) := nrfl rfl
theorem HpOk_nil : HpOk ρ H [] = True := nrfl rfl
theorem HpOk_cons {i : Nat} {cs : List V} {r : List (Nat × List V)} : HpOk ρ H ((i, cs) :: r) = ((match ρ i with | some j => (∃ cs', H j = some cs' /\ All2 (WC ρ) cs' cs) /\ cellsOk cs | none => cs = []) /\ HpOk ρ H r) := nrfl rfl
theorem cellsOk_nil : cellsOk [] = True := by simp [cellsOk]
theorem cellsOk_cons {c : V} {cs : List V} (h : V.isCell c = true) : cellsOk (c :: cs) = (cs.all V.isCell = true) := by
 simp only [cellsOk, List.all_cons, h, Bool.true_and, eq_iff_iff, or_iff_left_iff_imp]
 rintro ⟨fr, nt, ps, pa, pb, jmp, e⟩
 cases e; cases h
theorem WC_d {v : V} {x : D} : WC ρ v (.d x) = (v = .d x) := nrfl rfl
theorem WC_lp {i j o o' : Nat} : WC ρ (.lp j o) (.lp i o') = (ρ i = some j /\ o = o') := W0_lp
theorem WC_ls {i j o o' l l' z z' : Nat} : WC ρ (.ls j o l z) (.ls i o' l' z') = (ρ i = some j /\ o = o' /\ l = l' /\ z = z') := W0_ls
theorem WC_nils {i o l z : Nat} : WC ρ (.d (.lit (.slice none 0 0))) (.ls i o l z) = (ρ i = none /\ l = 0) := W0_nils
theorem W1_cl {f g : FuncId} {cs ds : List V} : W1 ρ (.cl f cs) (.cl g ds) = (f = g /\ All2 (W0 ρ) cs ds) := by
 simp only [W1, V.cl.injEq, eq_iff_iff]
 constructor
 . rintro ⟨c, ⟨rfl, rfl⟩, h⟩; exact ⟨rfl, h⟩
 . rintro ⟨rfl, h⟩; exact ⟨cs, ⟨rfl, rfl⟩, h⟩
theorem WC_cl {f g : FuncId} {cs ds : List V} : WC ρ (.cl f cs) (.cl g ds) = (f = g /\ All2 (W0 ρ) cs ds) := W1_cl
theorem W2_cl {f g : FuncId} {cs ds : List V} : W2 ρ (.cl f cs) (.cl g ds) = (f = g /\ All2 (W0 ρ) cs ds) := W1_cl
theorem WV_cl {f g : FuncId} {cs ds : List V} : WV ρ (.cl f cs) (.cl g ds) = (f = g /\ All2 (W0 ρ) cs ds) := W1_cl
theorem W0_yl {i j : Nat} : W0 ρ (.yl j) (.yl i) = (ρ i = some j) := by
 simp only [W0, V.yl.injEq, eq_iff_iff]
 constructor
 . rintro ⟨k, h1, rfl⟩; exact h1
 . intro h; exact ⟨j, h, rfl⟩
theorem W1_yl {i j : Nat} : W1 ρ (.yl j) (.yl i) = (ρ i = some j) := W0_yl
theorem W2_yl {i j : Nat} : W2 ρ (.yl j) (.yl i) = (ρ i = some j) := W0_yl
theorem WV_yl {i j : Nat} : WV ρ (.yl j) (.yl i) = (ρ i = some j) := W0_yl
theorem WC_lr {v : V} {fr : Nat -> V} {nt : Nat} {ps : List Nat} {pa pb : PC} {jmp : LSt} : WC ρ v (.lr fr nt ps pa pb jmp) = (v = .lr fr nt ps pa pb jmp /\ ∀ t, AV (fun i => ρ i = some i) anyD (fr t)) := nrfl rfl
theorem StabL_nil {h : Hp} : StabL ρ H h [] = True := nrfl rfl
theorem StabL_cons {h : Hp} {i : Nat} {r : List Nat} : StabL ρ H h (i :: r) = (((h i).isSome = true -> ρ i = some i /\ (H i).isSome = true) /\ StabL ρ H h r) := nrfl rfl
theorem StabW_nil {h : Hp} {n : Nat} : StabW ρ H h n [] = True := nrfl rfl
theorem StabW_cons {h : Hp} {i n : Nat} {r : List Nat} : StabW ρ H h n (i :: r) = (i < n /\ ((h i).isSome = true -> ρ i = some i /\ (H i).isSome = true) /\ StabW ρ H h n r) := nrfl rfl
theorem RhoInj_nil : RhoInj ρ [] = True := nrfl rfl
theorem RhoInj_cons {i : Nat} {cs : List V} {r : List (Nat × List V)} : RhoInj ρ ((i, cs) :: r) = ((∀ q ∈ r, ρ q.1 = none \/ ρ q.1 ≠ ρ i \/ q.1 = i) /\ RhoInj ρ r) := nrfl rfl
end
section
variable {p : Nat -> Prop}
theorem AV_d {x : D} : AV p anyD (.d x) = True := nrfl rfl
theorem A2_d {x : D} : A2 p anyD (.d x) = True := nrfl rfl
theorem A1_d {x : D} : A1 p anyD (.d x) = True := nrfl rfl
theorem A0_d {x : D} : A0 p anyD (.d x) = True := nrfl rfl
theorem AV_lp {i o : Nat} : AV p anyD (.lp i o) = p i := nrfl rfl
theorem A2_lp {i o : Nat} : A2 p anyD (.lp i o) = p i := nrfl rfl
theorem A1_lp {i o : Nat} : A1 p anyD (.lp i o) = p i := nrfl rfl
theorem A0_lp {i o : Nat} : A0 p anyD (.lp i o) = p i := nrfl rfl
theorem AV_ls {i o l z : Nat} : AV p anyD (.ls i o l z) = p i := nrfl rfl
theorem A2_ls {i o l z : Nat} : A2 p anyD (.ls i o l z) = p i := nrfl rfl
theorem A1_ls {i o l z : Nat} : A1 p anyD (.ls i o l z) = p i := nrfl rfl
theorem A0_ls {i o l z : Nat} : A0 p anyD (.ls i o l z) = p i := nrfl rfl
theorem AV_agg {cs : List V} : AV p anyD (.agg cs) = ∀ c ∈ cs, A1 p anyD c := nrfl rfl
theorem A2_agg {cs : List V} : A2 p anyD (.agg cs) = ∀ c ∈ cs, A1 p anyD c := nrfl rfl
theorem AV_tup {cs : List V} : AV p anyD (.tup cs) = ∀ c ∈ cs, A2 p anyD c := nrfl rfl
theorem AV_cl {f : FuncId} {cs : List V} : AV p anyD (.cl f cs) = ∀ c ∈ cs, A0 p anyD c := nrfl rfl
theorem A2_cl {f : FuncId} {cs : List V} : A2 p anyD (.cl f cs) = ∀ c ∈ cs, A0 p anyD c := nrfl rfl
theorem A1_cl {f : FuncId} {cs : List V} : A1 p anyD (.cl f cs) = ∀ c ∈ cs, A0 p anyD c := nrfl rfl
theorem SlotsIds_nil {n : Nat} : SlotsIds n [] = True := nrfl rfl
theorem SlotsIds_cons {n t : Nat} {v : V} {r : List (Nat × V)} : SlotsIds n ((t, v) :: r) = (AV (· < n) anyD v /\ SlotsIds n r) := nrfl rfl
theorem HpIds_nil {n : Nat} : HpIds n [] = True := nrfl rfl
theorem HpIds_cons {n i : Nat} {cs : List V} {r : List (Nat × List V)} : HpIds n ((i, cs) :: r) = (i < n /\ (∀ c ∈ cs, AC (· < n) anyD c) /\ HpIds n r) := nrfl rfl
theorem AC_d {x : D} : AC p anyD (.d x) = True := nrfl rfl
theorem AC_lp {i o : Nat} : AC p anyD (.lp i o) = p i := nrfl rfl
theorem AC_ls {i o l z : Nat} : AC p anyD (.ls i o l z) = p i := nrfl rfl
theorem AC_yl {i : Nat} : AC p anyD (.yl i) = p i := nrfl rfl
theorem AC_cl {f : FuncId} {cs : List V} : AC p anyD (.cl f cs) = ∀ c ∈ cs, A0 p anyD c := nrfl rfl
theorem AC_lr {fr : Nat -> V} {nt : Nat} {ps : List Nat} {pa pb : PC} {jmp : LSt} : AC p anyD (.lr fr nt ps pa pb jmp) = ∀ t, AV p anyD (fr t) := nrfl rfl
theorem A0_yl {i : Nat} : A0 p anyD (.yl i) = p i := nrfl rfl
theorem A1_yl {i : Nat} : A1 p anyD (.yl i) = p i := nrfl rfl
theorem A2_yl {i : Nat} : A2 p anyD (.yl i) = p i := nrfl rfl
theorem AV_yl {i : Nat} : AV p anyD (.yl i) = p i := nrfl rfl
theorem Closed_d {x : D} : Closed (.d x) = True := nrfl rfl
theorem Closed_agg {cs : List V} : Closed (.agg cs) = ∀ c ∈ cs, A1 (fun _ => False) anyD c := nrfl rfl
theorem InB_eq {H1 : List (Nat × List V)} {i : Nat} : InB H1 i = ((lk H1 i).isSome = true) := nrfl rfl
end
theorem resL_nil {f : Nat -> V} : resL Γ H f [] = some [] := nrfl rfl
theorem resL_tmp {f : Nat -> V} {t : Nat} {r : List ResultVar} : resL Γ H f (.tmp t :: r) = (resL Γ H f r).map (f t :: ·) := nrfl rfl
theorem resL_cell {f : Nat -> V} {a T : Nat} {r : List ResultVar} : resL Γ H f (.cell a T :: r) = (loadF Γ H T (f a)).bind fun p => (resL Γ H f r).map (p.1 :: ·) := nrfl rfl
theorem pack_one {v : V} : pack [v] = v := nrfl rfl
theorem pack_two {v w : V} {r : List V} : pack (v :: w :: r) = .tup (v :: w :: r) := nrfl rfl
theorem isTup_d {x : D} : V.isTup (.d x) = false := nrfl rfl
theorem isTup_lp {i o : Nat} : V.isTup (.lp i o) = false := nrfl rfl
theorem isTup_ls {i o l z : Nat} : V.isTup (.ls i o l z) = false := nrfl rfl
theorem isTup_agg {cs : List V} : V.isTup (.agg cs) = false := nrfl rfl
theorem isTup_cl {f : FuncId} {cs : List V} : V.isTup (.cl f cs) = false := nrfl rfl
theorem wrap64 {x : Int} (h1 : -9223372036854775808 <= x) (h2 : x <= 9223372036854775807) : IntKind.wrap .i64 x = x := by
 have : ∀ m : Int, m = x % 18446744073709551616 -> (if m >= 9223372036854775808 then m - 18446744073709551616 else m) = x := fun m hm => by split <;> omega
 simpa [IntKind.wrap, IntKind.bits, IntKind.signed] using this _ rfl
theorem wrapu64 {x : Int} (h1 : 0 <= x) (h2 : x <= 18446744073709551615) : IntKind.wrap .u64 x = x := by
 have : x % 18446744073709551616 = x := by omega
 simpa [IntKind.wrap, IntKind.bits, IntKind.signed] using this
theorem ren_d {ρ : Nat -> Nat} {x : D} : ren ρ (.d x) = .d x := nrfl rfl
theorem ren_lp {ρ : Nat -> Nat} {i o : Nat} : ren ρ (.lp i o) = .lp (ρ i) o := nrfl rfl
theorem ren_ls {ρ : Nat -> Nat} {i o l z : Nat} : ren ρ (.ls i o l z) = .ls (ρ i) o l z := nrfl rfl
theorem ren_agg {ρ : Nat -> Nat} {cs : List V} : ren ρ (.agg cs) = .agg (cs.map (ren1 ρ)) := nrfl rfl
theorem ren_tup {ρ : Nat -> Nat} {cs : List V} : ren ρ (.tup cs) = .tup (cs.map (ren2 ρ)) := nrfl rfl
theorem ren2_d {ρ : Nat -> Nat} {x : D} : ren2 ρ (.d x) = .d x := nrfl rfl
theorem ren2_ls {ρ : Nat -> Nat} {i o l z : Nat} : ren2 ρ (.ls i o l z) = .ls (ρ i) o l z := nrfl rfl
theorem ren2_lp {ρ : Nat -> Nat} {i o : Nat} : ren2 ρ (.lp i o) = .lp (ρ i) o := nrfl rfl
theorem ren2_agg {ρ : Nat -> Nat} {cs : List V} : ren2 ρ (.agg cs) = .agg (cs.map (ren1 ρ)) := nrfl rfl
theorem ren1_d {ρ : Nat -> Nat} {x : D} : ren1 ρ (.d x) = .d x := nrfl rfl
theorem ren1_ls {ρ : Nat -> Nat} {i o l z : Nat} : ren1 ρ (.ls i o l z) = .ls (ρ i) o l z := nrfl rfl
theorem ren1_lp {ρ : Nat -> Nat} {i o : Nat} : ren1 ρ (.lp i o) = .lp (ρ i) o := nrfl rfl
theorem addH_nil {base : Nat} : addH H base [] = H := nrfl rfl
theorem addH_cons {base i : Nat} {cs : List V} {r : List (Nat × List V)} : addH H base ((i, cs) :: r) = upd (addH H base r) (base + i) (some (cs.map (renC (base + ·)))) := nrfl rfl
theorem idsLt_nil {n : Nat} : idsLt n [] = True := nrfl rfl
theorem idsLt_cons {n i : Nat} {cs : List V} {r : List (Nat × List V)} : idsLt n ((i, cs) :: r) = (i < n /\ idsLt n r) := nrfl rfl
theorem Bor_d {x y : D} : Bor H (.d x) (.d y) = (x = y \/ (x = .lit (.slice none 0 0) /\ ∃ sz, y = .sl sz [])) := nrfl rfl
theorem Bor1_d {x y : D} : Bor1 H (.d x) (.d y) = (x = y \/ (x = .lit (.slice none 0 0) /\ ∃ sz, y = .sl sz [])) := nrfl rfl
theorem Bor_agg {az bs : List V} : Bor H (.agg az) (.agg bs) = All2 (Bor1 H) az bs := nrfl rfl
theorem Bor_ls {i o l z z' : Nat} {es : List (List D)} : Bor H (.ls i o l z) (.d (.sl z' es)) = (z' = z /\ es.length = l /\ (∀ e ∈ es, e.length = z) /\ ∃ cs, H i = some cs /\ (cs.drop o).take (l * z) = es.flatten.map .d) := nrfl rfl
theorem Bor1_ls {i o l z z' : Nat} {es : List (List D)} : Bor1 H (.ls i o l z) (.d (.sl z' es)) = (z' = z /\ es.length = l /\ (∀ e ∈ es, e.length = z) /\ ∃ cs, H i = some cs /\ (cs.drop o).take (l * z) = es.flatten.map .d) := nrfl rfl
theorem Bor_lp {i o : Nat} {ds : List D} : Bor H (.lp i o) (.d (.ref ds)) = ∃ cs, H i = some cs /\ (cs.drop o).take ds.length = ds.map .d := nrfl rfl
theorem Bor_clfn {f g : FuncId} {caps : List V} {ds : List D} : Bor H (.cl f caps) (.d (.fn g ds)) = (f = g /\ All2 (Bor0 H) caps (ds.map .d)) := nrfl rfl
theorem Bor0_lp {i o : Nat} {ds : List D} : Bor0 H (.lp i o) (.d (.ref ds)) = ∃ cs, H i = some cs /\ (cs.drop o).take ds.length = ds.map .d := nrfl rfl
theorem Bor0_d {x y : D} : Bor0 H (.d x) (.d y) = (x = y \/ (x = .lit (.slice none 0 0) /\ ∃ sz, y = .sl sz [])) := nrfl rfl
theorem Bor_lplp {i o i' o' : Nat} : Bor H (.lp i o) (.lp i' o') = (i = i' /\ o = o') := nrfl rfl
theorem Bor_lsls {i o l z i' o' l' z' : Nat} : Bor H (.ls i o l z) (.ls i' o' l' z') = (i = i' /\ o = o' /\ l = l' /\ z = z') := nrfl rfl
theorem Bor_yl {i i' : Nat} : Bor H (.yl i) (.yl i') = (i = i') := nrfl rfl
theorem Bor_cl {f g : FuncId} {cs ds : List V} : Bor H (.cl f cs) (.cl g ds) = (f = g /\ cs = ds) := nrfl rfl
theorem noH_at {i : Nat} : noH i = none := nrfl rfl
theorem renC_d {ρ : Nat -> Nat} {x : D} : renC ρ (.d x) = .d x := nrfl rfl
theorem renC_ls {ρ : Nat -> Nat} {i o l z : Nat} : renC ρ (.ls i o l z) = .ls (ρ i) o l z := nrfl rfl
theorem renC_lp {ρ : Nat -> Nat} {i o : Nat} : renC ρ (.lp i o) = .lp (ρ i) o := nrfl rfl
theorem renC_cl {ρ : Nat -> Nat} {f : FuncId} {cs : List V} : renC ρ (.cl f cs) = .cl f (cs.map (ren0 ρ)) := nrfl rfl
theorem ren0_d {ρ : Nat -> Nat} {x : D} : ren0 ρ (.d x) = .d x := nrfl rfl
theorem ren0_ls {ρ : Nat -> Nat} {i o l z : Nat} : ren0 ρ (.ls i o l z) = .ls (ρ i) o l z := nrfl rfl
theorem ren0_lp {ρ : Nat -> Nat} {i o : Nat} : ren0 ρ (.lp i o) = .lp (ρ i) o := nrfl rfl
theorem ren_cl {ρ : Nat -> Nat} {f : FuncId} {cs : List V} : ren ρ (.cl f cs) = .cl f (cs.map (ren0 ρ)) := nrfl rfl
theorem sg_eq {ks : List Nat} {b j : Nat} : sg ks b j = if j ∈ ks then j else b + j := nrfl rfl
theorem HinOk_nil : HinOk H [] = True := nrfl rfl
theorem HinOk_cons {p : Nat × List V} {r : List (Nat × List V)} : HinOk H (p :: r) = (H p.1 = some p.2 /\ HinOk H r) := nrfl rfl
theorem delL_nil : delL H [] = H := nrfl rfl
theorem delL_cons {p : Nat × List V} {r : List (Nat × List V)} : delL H (p :: r) = upd (delL H r) p.1 none := nrfl rfl
theorem addM_nil {ks : List Nat} {b : Nat} : addM H ks b [] = H := nrfl rfl
theorem addM_cons {ks : List Nat} {b : Nat} {p : Nat × List V} {r : List (Nat × List V)} : addM H ks b (p :: r) = upd (addM H ks b r) (sg ks b p.1) (some (p.2.map (renC (sg ks b)))) := nrfl rfl
theorem ksOk_nil {b : Nat} {L L1 : List (Nat × List V)} : ksOk b L L1 [] = True := nrfl rfl
theorem ksOk_cons {b i : Nat} {L L1 : List (Nat × List V)} {r : List Nat} : ksOk b L L1 (i :: r) = (i < b /\ (lk L1 i).isSome = true /\ (∃ cs, lk L i = some cs /\ cs ≠ []) /\ ksOk b L L1 r) := nrfl rfl
theorem afterC_ret {r : V} {ρ : Nat -> Nat} {Ho : Hp} {Kc Kx : V -> Hp -> Prop} : afterC (.ret r) ρ Ho Kc Kx = Kc (ren ρ r) Ho := nrfl rfl
theorem afterC_pan {r : V} {ρ : Nat -> Nat} {Ho : Hp} {Kc Kx : V -> Hp -> Prop} : afterC (.pan r) ρ Ho Kc Kx = Kx (ren ρ r) Ho := nrfl rfl
theorem lkIn_nil {b : Nat} : (∀ i, InH (lk ([] : List (Nat × List V))) i -> i < b) = True := by simp [InH, lk]
theorem lkIn_cons {b : Nat} {p : Nat × List V} {r : List (Nat × List V)} : (∀ i, InH (lk (p :: r)) i -> i < b) = (p.1 < b /\ ∀ i, InH (lk r) i -> i < b) := by
 simp only [InH, lk, eq_iff_iff]
 constructor
 . intro h
   refine ⟨h p.1 (by simp), fun i hi => h i ?_⟩
   split
   . rfl
   . exact hi
 . rintro ⟨h1, h2⟩ i hi
   split at hi
   . rename_i e; rw [e]; exact h1
   . exact h2 i hi
theorem buildF_eq {ps : List (Nat × V)} : buildF Γ t ps = (Γ t).bind fun y => match y.sh with
 | .struct fs => if fs.all (fun p => (Γ p.2).isSome) then (fillV (fieldsOf Γ fs) (y.zero.map cV) ps).map fun cs => (.agg cs, .none) else none
 | .array _ e => (Γ e).bind fun ye => (fillV (fun i => some (i * ye.size, ye.size)) (y.zero.map cV) ps).map fun cs => (.agg cs, .none)
 | _ => none := nrfl rfl
theorem buildSliceF_eq {n : Nat} {ps : List (Nat × V)} : buildSliceF Γ b t n ps = (Γ t).bind fun y => match y.sh with
 | .slice e => (Γ e).bind fun ye => if n * ye.size <= 16777216 /\ 0 < ye.size then (fillV (fun i => some (i * ye.size, ye.size)) (repl n (ye.zero.map cV)) ps).map fun cs => (.ls b 0 n ye.size, .new b cs) else none
 | _ => none := nrfl rfl
theorem fillV_nil {fs : Nat -> Option (Nat × Nat)} {cells : List V} : fillV fs cells [] = some cells := nrfl rfl
theorem fillV_cons {fs : Nat -> Option (Nat × Nat)} {cells : List V} {i : Nat} {v : V} {r : List (Nat × V)} : fillV fs cells ((i, v) :: r) = match fs i with
   | none => none
   | some (off, size) => if v.cells.length = size /\ off + size <= cells.length /\ v.cells.all V.isCell = true then fillV fs (splice cells off v.cells) r else none := nrfl rfl
theorem fieldsOf_eq {fs : List (Nat × TypeId)} {i : Nat} : fieldsOf Γ fs i = fs[i]?.bind fun p => (Γ p.2).map fun y => (p.1, y.size) := nrfl rfl
theorem indexF_sl {sz : Nat} {es : List (List D)} {k : IntKind} {n : Int} : indexF Γ t (.d (.sl sz es)) (.d (.lit (.int k n))) = (Γ t).bind fun y => match y.sh with
 | .slice e => (Γ e).bind fun ye => if 0 <= n /\ ye.size = sz then es[n.toNat]?.map fun c => (.d (.ref c), .none) else none
 | _ => none := by
 unfold indexF; congr; funext y; cases y.sh <;> first | rfl | (simp; done) | (rename_i n e; cases Γ e <;> rfl)
theorem indexF_ls {i o l z : Nat} {k : IntKind} {n : Int} : indexF Γ t (.ls i o l z) (.d (.lit (.int k n))) = (Γ t).bind fun y => match y.sh with
 | .slice e => (Γ e).bind fun ye => if 0 <= n /\ n < l /\ ye.size = z then some (.lp i (o + n.toNat * z), .none) else none
 | _ => none := by
 unfold indexF; congr; funext y; cases y.sh <;> first | rfl | (simp; done) | (rename_i n e; cases Γ e <;> rfl)
theorem sliceF_sl {sz : Nat} {es : List (List D)} {lo hi : Option V} : sliceF Γ H t (.d (.sl sz es)) lo hi = (Γ t).bind fun y => match y.sh with
 | .slice e => (Γ e).bind fun ye => if ye.size = sz then (loHi es.length lo hi).map fun p => (.d (.sl sz ((es.take p.2).drop p.1)), .none) else none
 | _ => none := by
 unfold sliceF; congr; funext y; cases y.sh <;> first | rfl | (simp; done) | (rename_i n e; cases Γ e <;> rfl)
theorem sliceF_ls {i o l z : Nat} {lo hi : Option V} : sliceF Γ H t (.ls i o l z) lo hi = (Γ t).bind fun y => match y.sh with
 | .slice e => (Γ e).bind fun ye => if ye.size = z then (loHi l lo hi).map fun p => (.ls i (o + p.1 * z) (p.2 - p.1) z, .none) else none
 | _ => none := by
 unfold sliceF; congr; funext y; cases y.sh <;> first | rfl | (simp; done) | (rename_i n e; cases Γ e <;> rfl)
theorem indexV_str {s : ByteArray} {k : IntKind} {n : Int} : indexV Γ t (.d (.lit (.string s))) (.d (.lit (.int k n))) = (Γ t).bind fun y => match y.sh with
 | .str => if 0 <= n then s[n.toNat]?.map fun b => (.d (.lit (.int .u8 b.toNat)), .none) else none
 | _ => none := by
 unfold indexV; congr; funext y; cases y.sh <;> first | rfl | (simp; done)
theorem indexV_agg {cs : List V} {k : IntKind} {n : Int} : indexV Γ t (.agg cs) (.d (.lit (.int k n))) = (Γ t).bind fun y => match y.sh with
 | .array m e => (Γ e).bind fun ye => if 0 <= n /\ n < m /\ n.toNat * ye.size + ye.size <= cs.length then some (mkV ye.agg ((cs.drop (n.toNat * ye.size)).take ye.size), .none) else none
 | _ => none := by
 unfold indexV; congr; funext y; cases y.sh <;> first | rfl | (simp; done)
theorem indexF_lp {i o : Nat} {k : IntKind} {n : Int} : indexF Γ t (.lp i o) (.d (.lit (.int k n))) = (Γ t).bind fun y => match y.sh with
 | .array m e => (Γ e).bind fun ye => if 0 <= n /\ n < m then some (.lp i (o + n.toNat * ye.size), .none) else none
 | _ => none := by
 unfold indexF; congr; funext y; cases y.sh <;> first | rfl | (simp; done) | (rename_i e; cases Γ e <;> rfl)
theorem indexF_ref {cs : List D} {k : IntKind} {n : Int} : indexF Γ t (.d (.ref cs)) (.d (.lit (.int k n))) = (Γ t).bind fun y => match y.sh with
 | .array m e => (Γ e).bind fun ye => if 0 <= n /\ n < m then some (.d (.ref (cs.drop (n.toNat * ye.size))), .none) else none
 | _ => none := by
 unfold indexF; congr; funext y; cases y.sh <;> first | rfl | (simp; done) | (rename_i e; cases Γ e <;> rfl)
theorem sliceF_lp {i o : Nat} {lo hi : Option V} : sliceF Γ H t (.lp i o) lo hi = (Γ t).bind fun y => match y.sh with
 | .array m e => (Γ e).bind fun ye => (H i).bind fun cs => if o + m * ye.size <= cs.length /\ m <= maxL then (loHi m lo hi).map fun p => (.ls i (o + p.1 * ye.size) (p.2 - p.1) ye.size, .none) else none
 | _ => none := by
 unfold sliceF; congr; funext y; cases y.sh <;> first | rfl | (simp; done) | (rename_i e; cases Γ e <;> rfl)
theorem sliceF_nil {a : Option Addr} {n c : Nat} {lo hi : Option V} : sliceF Γ H t (.d (.lit (.slice a n c))) lo hi = (Γ t).bind fun y => match y.sh with
 | .slice e => (Γ e).bind fun _ => (loHi 0 lo hi).map fun _ => (.d (.lit (.slice none 0 0)), .none)
 | _ => none := by
 unfold sliceF; congr; funext y; cases y.sh <;> first | rfl | (simp; done) | (rename_i n e; cases Γ e <;> rfl)
theorem sliceF_str {s : ByteArray} {lo hi : Option V} : sliceF Γ H t (.d (.lit (.string s))) lo hi = (Γ t).bind fun y => match y.sh with
 | .str => (loHi s.size lo hi).map fun p => (.d (.lit (.string (s.extract p.1 p.2))), .none)
 | _ => none := by
 unfold sliceF; congr; funext y; cases y.sh <;> first | rfl | (simp; done) | (rename_i e; cases Γ e <;> rfl) | (rename_i n e; cases Γ e <;> rfl)
theorem lenF_str {s : ByteArray} : lenF Γ t (.d (.lit (.string s))) = (Γ t).bind fun y => match y.sh with | .str => some (.d (.lit (.int .i64 s.size)), .none) | _ => none := by
 unfold lenF; congr; funext y; cases y.sh <;> rfl
theorem binF_str {o : BinOp} {a b : ByteArray} : binF Γ eqs o t (.d (.lit (.string a))) (.d (.lit (.string b))) = match o with
   | .eql => some (.d (.lit (.bool (a == b))), .none)
   | .neq => some (.d (.lit (.bool (a != b))), .none)
   | _ => none := nrfl rfl
theorem binF_nil_ls {o : BinOp} {i of l z : Nat} : binF Γ eqs o t (.ls i of l z) (.d (.lit (.slice none 0 0))) = (Γ t).bind fun y => match y.sh, o with
   | .slice _, .eql => if 0 < l then some (.d (.lit (.bool false)), .none) else none
   | .slice _, .neq => if 0 < l then some (.d (.lit (.bool true)), .none) else none
   | _, _ => none := by
 unfold binF
 simp only [show isNilLit (.d (.lit (.slice none 0 0))) = true from rfl, if_true]
 congr; funext y; split <;> simp_all [nilR, nilV, cV] <;> (by_cases h : 0 < l <;> simp [h])
theorem binF_nil_sl {o : BinOp} {z : Nat} {e : List D} {es : List (List D)} : binF Γ eqs o t (.d (.sl z (e :: es))) (.d (.lit (.slice none 0 0))) = (Γ t).bind fun y => match y.sh, o with
   | .slice _, .eql => some (.d (.lit (.bool false)), .none)
   | .slice _, .neq => some (.d (.lit (.bool true)), .none)
   | _, _ => none := by
 unfold binF
 simp only [show isNilLit (.d (.lit (.slice none 0 0))) = true from rfl, if_true]
 first | rfl | (congr; funext y; split <;> simp_all [nilR, nilV, cV])
theorem binF_nil_e {o : BinOp} {z : Nat} : binF Γ eqs o t (.d (.sl z [])) (.d (.lit (.slice none 0 0))) = (Γ t).bind fun y => match y.sh, o with
   | .slice _, .eql => some (.d .ub, .none)
   | .slice _, .neq => some (.d .ub, .none)
   | _, _ => none := by
 unfold binF
 simp only [show isNilLit (.d (.lit (.slice none 0 0))) = true from rfl, if_true]
 first | rfl | (congr; funext y; split <;> simp_all [nilR, nilV, cV])
theorem binF_nil_nil {o : BinOp} : binF Γ eqs o t (.d (.lit (.slice none 0 0))) (.d (.lit (.slice none 0 0))) = (Γ t).bind fun y => match y.sh, o with
   | .slice _, .eql => some (.d (.lit (.bool true)), .none)
   | .slice _, .neq => some (.d (.lit (.bool false)), .none)
   | _, _ => none := by
 unfold binF
 simp only [show isNilLit (.d (.lit (.slice none 0 0))) = true from rfl, if_true]
 first | rfl | (congr; funext y; split <;> simp_all [nilR, nilV, cV])
theorem clearF_ls {i o l z : Nat} : clearF Γ H t (.ls i o l z) = (Γ t).bind fun y => match y.sh with
 | .slice e => (Γ e).bind fun ye => if l = 0 then some (.tup [], .none) else if z = ye.size /\ 0 < z then (H i).bind fun cs => if o + l * z <= cs.length then some (.tup [], .put i (splice cs o (repl l (ye.zero.map cV)))) else none else none
 | _ => none := by
 unfold clearF; congr
theorem maxL_eq : maxL = 9223372036854775807 := nrfl rfl
theorem maxA_eq : maxA = 140737488355328 := nrfl rfl
theorem eqCell_int {k : IntKind} {a b : Int} : eqCell .int (.d (.lit (.int k a))) (.d (.lit (.int k b))) = some (decide (a = b)) := by simp [eqCell, beq_dec]
theorem eqCell_bool {a b : Bool} : eqCell .bool (.d (.lit (.bool a))) (.d (.lit (.bool b))) = some (a == b) := nrfl rfl
theorem eqCell_str {a b : ByteArray} : eqCell .str (.d (.lit (.string a))) (.d (.lit (.string b))) = some (a == b) := nrfl rfl
theorem eqCells_nil : eqCells [] [] [] = some true := nrfl rfl
theorem eqCells_cons {k : CK} {ks : List CK} {a b : V} {az bs : List V} : eqCells (k :: ks) (a :: az) (b :: bs) = (eqCell k a b).bind fun r => (eqCells ks az bs).map fun s => r && s := nrfl rfl
theorem fieldV_agg {cs : List V} {i : Nat} : fieldV Γ t (.agg cs) i = (Γ t).bind fun y => match y.sh with
 | .struct fs => fs[i]?.bind fun p => (Γ p.2).bind fun yf => if p.1 + yf.size <= cs.length then some (mkV yf.agg ((cs.drop p.1).take yf.size), .none) else none
 | _ => none := nrfl rfl
theorem convF_int {s : TypeId} {k : IntKind} {n : Int} : convF Γ s t (.d (.lit (.int k n))) = (Γ s).bind fun _ => (Γ t).bind fun y => match y.sh with
 | .int k' => some (.d (.lit (.int k' (k'.wrap n))), .none)
 | _ => none := by
 unfold convF; congr; funext _; congr; funext y; cases y.sh <;> rfl
theorem maxF_int {k : IntKind} {x : Int} {r : List V} : maxF (.d (.lit (.int k x)) :: r) = (maxR k x r).map fun m => (.d (.lit (.int k m)), .none) := nrfl rfl
theorem minF_int {k : IntKind} {x : Int} {r : List V} : minF (.d (.lit (.int k x)) :: r) = (minR k x r).map fun m => (.d (.lit (.int k m)), .none) := nrfl rfl
theorem maxR_nil {k : IntKind} {m : Int} : maxR k m [] = some m := nrfl rfl
theorem minR_nil {k : IntKind} {m : Int} : minR k m [] = some m := nrfl rfl
theorem maxR_cons {k : IntKind} {m x : Int} {r : List V} : maxR k m (.d (.lit (.int k x)) :: r) = maxR k (max m x) r := by simp [maxR]
theorem minR_cons {k : IntKind} {m x : Int} {r : List V} : minR k m (.d (.lit (.int k x)) :: r) = minR k (min m x) r := by simp [minR]
theorem ifcF_agg {t : TypeId} {cs : List V} : ifcF Γ t (.agg cs) = (Γ t).bind fun y => match y.sh with | .ifc _ => none | .other => none | _ => (dataL cs).map fun ds => (.d (.ifc t true ds), .none) := nrfl rfl
theorem ifcF_d {t : TypeId} {x : D} : ifcF Γ t (.d x) = (Γ t).bind fun y => match y.sh with | .ifc _ => none | .other => none | _ => some (.d (.ifc t false [x]), .none) := nrfl rfl
theorem dataL_nil : dataL [] = some [] := nrfl rfl
theorem dataL_d {x : D} {r : List V} : dataL (.d x :: r) = (dataL r).map (x :: ·) := nrfl rfl
theorem outF_true {cs : List D} : outF cs true = some (.agg (cs.map .d)) := nrfl rfl
theorem outF_false {c : D} : outF [c] false = some (.d c) := nrfl rfl
theorem assF_ifc {t t' : TypeId} {ag : Bool} {cs : List D} : assF Γ t (.d (.ifc t' ag cs)) = (Γ t).bind fun y => match y.sh with | .ifc _ => none | .other => none | _ => if t' = t then (outF cs ag).map fun v => (v, .none) else none := nrfl rfl
theorem binF_ifc_nil {op : BinOp} {t t' : TypeId} {ag : Bool} {cs : List D} : binF Γ eqs op t (.d (.ifc t' ag cs)) (.d (.lit .nilIface)) = (Γ t).bind fun y => match y.sh, op with | .ifc _, .eql => some (.d (.lit (.bool false)), .none) | .ifc _, .neq => some (.d (.lit (.bool true)), .none) | _, _ => none := nrfl rfl
theorem binF_nilI {op : BinOp} {t : TypeId} : binF Γ eqs op t (.d (.lit .nilIface)) (.d (.lit .nilIface)) = (Γ t).bind fun y => match y.sh, op with | .ifc true, .eql => some (.d (.lit (.bool true)), .none) | .ifc true, .neq => some (.d (.lit (.bool false)), .none) | _, _ => none := nrfl rfl
theorem nilF_lp {id off : Nat} : nilF (.lp id off) = some (.lp id off, .none) := nrfl rfl
theorem nilF_ref {cs : List D} : nilF (.d (.ref cs)) = some (.d (.ref cs), .none) := nrfl rfl
theorem mkFuncF_eq {g : FuncId} {n : Nat} {caps : List V} : mkFuncF g n caps = if n = 0 /\ caps.all V.cap = true then some (.cl g caps, .none) else none := nrfl rfl
theorem cap_d {x : D} : V.cap (.d x) = true := nrfl rfl
theorem cap_lp {i o : Nat} : V.cap (.lp i o) = true := nrfl rfl
theorem cap_ls {i o l z : Nat} : V.cap (.ls i o l z) = true := nrfl rfl
theorem loHi_eq {n : Nat} {lo hi : Option V} : loHi n lo hi = (hiOf n hi).bind fun h => (loOf h lo).bind fun l => some (l, h) := nrfl rfl
theorem hiOf_none {n : Nat} : hiOf n none = some n := nrfl rfl
theorem hiOf_int {n : Nat} {k : IntKind} {h : Int} : hiOf n (some (.d (.lit (.int k h)))) = if 0 <= h /\ h <= n then some h.toNat else none := nrfl rfl
theorem loOf_none {n : Nat} : loOf n none = some 0 := nrfl rfl
theorem loOf_int {n : Nat} {k : IntKind} {h : Int} : loOf n (some (.d (.lit (.int k h)))) = if 0 <= h /\ h <= n then some h.toNat else none := nrfl rfl
section
variable {p : Nat -> Prop} {v : Value}
theorem AV_lit : AV p litD (.d (.lit v)) = True := by simp [AV, A2, A1, A0, litD]
theorem A2_lit : A2 p litD (.d (.lit v)) = True := by simp [A2, A1, A0, litD]
theorem A1_lit : A1 p litD (.d (.lit v)) = True := by simp [A1, A0, litD]
theorem AVl_ls {i o l z : Nat} : AV p litD (.ls i o l z) = p i := nrfl rfl
theorem A2l_ls {i o l z : Nat} : A2 p litD (.ls i o l z) = p i := nrfl rfl
theorem A1l_ls {i o l z : Nat} : A1 p litD (.ls i o l z) = p i := nrfl rfl
theorem AVl_agg {cs : List V} : AV p litD (.agg cs) = ∀ c ∈ cs, A1 p litD c := nrfl rfl
theorem A2l_agg {cs : List V} : A2 p litD (.agg cs) = ∀ c ∈ cs, A1 p litD c := nrfl rfl
theorem AVl_tup {cs : List V} : AV p litD (.tup cs) = ∀ c ∈ cs, A2 p litD c := nrfl rfl
theorem ACl_lit : AC p litD (.d (.lit v)) = True := by simp [AC, A1, A0, litD]
theorem ACl_ls {i o l z : Nat} : AC p litD (.ls i o l z) = p i := nrfl rfl
theorem ACl_lp {i o : Nat} : AC p litD (.lp i o) = p i := nrfl rfl
def flatL (p : Nat -> Prop) : List (Nat × List V) -> Prop
 | [] => True
 | x :: r => (∀ c ∈ x.2, AC p litD c) /\ flatL p r
theorem flatL_nil : flatL p [] = True := nrfl rfl
theorem flatL_cons {x : Nat × List V} {r : List (Nat × List V)} : flatL p (x :: r) = ((∀ c ∈ x.2, AC p litD c) /\ flatL p r) := nrfl rfl
theorem flatL_at : ∀ {L : List (Nat × List V)}, flatL p L -> ∀ i cs, lk L i = some cs -> ∀ c ∈ cs, AC p litD c
 | [], _, i, cs, h => by simp [lk] at h
 | x :: r, hf, i, cs, h => by
   simp only [lk] at h
   split at h
   . cases h; exact hf.1
   . exact flatL_at hf.2 i cs h
theorem flatRes_of {r : Res} {L : List (Nat × List V)} (h1 : AV (InH (lk L)) litD r.v) (h2 : flatL (InH (lk L)) L) : flatRes r (lk L) := ⟨h1, flatL_at h2⟩
theorem InH_eq {h : Hp} {i : Nat} : InH h i = ((h i).isSome = true) := nrfl rfl
theorem resV_ret {r : V} : Res.v (.ret r) = r := nrfl rfl
theorem resV_pan {r : V} : Res.v (.pan r) = r := nrfl rfl
end
section
variable {P : Program}
theorem ACall.mk {m : CM} {Hr H : Hp} {b : Nat} {g : FuncId} {az : List V} {Kc Kx : V -> Hp -> Prop} (args : List V) (r : V) (H1 : List (Nat × List V)) (hf : Ct P g args r H1) (hb : All2 (Bor Hr) az args) (hi : idsLt 1048576 H1) (hc : All2 (Bor noH) az args \/ (AV (InH (lk H1)) litD r /\ flatL (InH (lk H1)) H1)) (hk : Kc (ren (b + ·) r) (addH H b H1)) : ACall P m Hr H b g az Kc Kx :=
 ACall.mk0 args r H1 hf hb hi (hc.imp id fun h => flatRes_of h.1 h.2) hk
theorem ACall.mkM {H : Hp} {b : Nat} {g : FuncId} {az : List V} {Kc Kx : V -> Hp -> Prop} (args : List V) (L : List (Nat × List V)) (ks : List Nat) (res : Res) (L1 : List (Nat × List V)) (hf : Cm P g args (lk L) ks res (lk L1)) (hin : HinOk H L) (hi : idsLt 1048576 L1) (hks : ksOk b L L1 ks) (hL : ∀ i, InH (lk L) i -> i < b)
   (hb : All2 (Bor noH) az args \/ (All2 (Bor (delL H L)) az args /\ AV (InH (lk L1)) litD res.v /\ flatL (InH (lk L1)) L1)) (hk : afterC res (sg ks b) (addM (delL H L) ks b L1) Kc Kx) : ACall P none H H b g az Kc Kx :=
 ACall.mkM0 args L ks res L1 hf hin hi hks hL (hb.imp id fun h => ⟨h.1, flatRes_of h.2.1 h.2.2⟩) hk
end
def retR (ρ : Nat -> Option Nat) (ks : List Nat) (r : V) (H : Hp) (H1 : List (Nat × List V)) : Option (List V) -> Prop
 | some vs => vs.all (fun v => !v.isTup) = true /\ WV ρ (pack vs) r /\ HpOk ρ H H1 /\ RhoInj ρ H1 /\ StabL ρ H (lk H1) ks
 | none => False
theorem retM_some {ρ : Nat -> Option Nat} {ks : List Nat} {r : V} {H1 : List (Nat × List V)} {vs : List V} : retR ρ ks r H H1 (some vs) = (vs.all (fun v => !v.isTup) = true /\ WV ρ (pack vs) r /\ HpOk ρ H H1 /\ RhoInj ρ H1 /\ StabL ρ H (lk H1) ks) := nrfl rfl
theorem RetOk.by (ρ : Nat -> Option Nat) {fn : Func} {ks : List Nat} {r : V} {H1 : List (Nat × List V)} {st : St} (h : retR ρ ks r st.H H1 (resL Γ st.H st.fr fn.results.toList)) : RetM Γ fn ks r H1 st := by
 cases hr : resL Γ st.H st.fr fn.results.toList with
 | none => rw [hr] at h; exact h.elim
 | some vs => rw [hr] at h; exact ⟨vs, ρ, hr, h⟩
attribute [simp] rQ_eq rr_nil rr_guard rg_true rg_false rr_move rr_assign rr_pick rr_alloc rr_box rr_build rr_buildSlice rr_load rr_store rr_bin rr_un rr_conv rr_extract rr_fieldAddr rr_field rr_indexAddr rr_index rr_slice rr_makeFunc rr_len rr_nilCheck rr_makeI rr_assert rr_max rr_min rr_append rr_clear rr_cap rr_zer capF_lit zerF_lit rr_call
 goE_none goE_new goE_put goE_mov callR_fn callR_cl callR_yl aK_eq xQ_eq xK_eq frPut_some frPut_none
 de_nil de_dead de_live zQ_eq dd_nil dd_guard dg_true dg_false dd_move dd_assign dd_pick dd_alloc dd_box dd_build dd_buildSlice dd_load dd_bin dd_un dd_conv dd_extract dd_fieldAddr dd_field dd_indexAddr dd_index dd_slice dd_makeFunc dd_len dd_nilCheck dd_makeI dd_max dd_min dd_call goD_none goD_new goD_put goD_mov dd_append dd_store seen_nil seen_cons Hcl_at
 bsK_eq pw_reg pw_draw pw_seq pw_block pw_exit pw_ret pw_skip pw_cond cR_true cR_false cR_ub seqQ_normal seqQ_ret seqQ_exit blkQ_normal blkQ_ret blkQ_exit retQ_ret retQ_normal retQ_pan seqQ_pan blkQ_pan pw_rangeF exC_exit exC_ret exC_pan
 loadF_ref loadF_lp mkV_agg mkV_one storeF_lp cells_agg cells_d cells_lp cells_ls cells_cl isCell_d isCell_lp isCell_ls isCell_cl opdL_nil opdL_cons capL_nil capL_cons evF_tmp evF_const evF_func callee_fn callee_cl upd_at fieldF_ref fieldF_lp lenF_sl lenF_ls lenF_nil
 binF_int binF_bool binF_agg binI_add binI_sub binI_mul binI_quo binI_rem binI_eql binI_neq binI_lss binI_leq binI_gtr binI_geq binI_shl binI_shr binI_and binI_or binI_xor bits_u64 bits_i64 unF_not unF_neg pickF_bool pickF_true pickF_false gV_bool gV_undef extrF_tup boxF_eq allocF_eq cV_eq some_beq none_beq
 AV_lit A2_lit A1_lit AVl_ls A2l_ls A1l_ls AVl_agg A2l_agg AVl_tup ACl_lit ACl_ls ACl_lp flatL_nil flatL_cons InH_eq resV_ret resV_pan
 retM_some
 eqCell_int eqCell_bool eqCell_str eqCells_nil eqCells_cons indexV_str indexV_agg indexF_lp indexF_ref sliceF_lp sliceF_nil sliceF_str lenF_str binF_nil_ls binF_nil_sl binF_nil_e binF_nil_nil clearF_ls binF_str maxL_eq maxA_eq indexF_sl indexF_ls sliceF_sl sliceF_ls fieldV_agg convF_int maxF_int minF_int maxR_nil minR_nil maxR_cons minR_cons nilF_lp nilF_ref ifcF_agg ifcF_d dataL_nil dataL_d outF_true outF_false assF_ifc binF_ifc_nil binF_nilI mkFuncF_eq cap_d cap_lp cap_ls loHi_eq hiOf_none hiOf_int loOf_none loOf_int
 argF_nil argF_cons slots_nil slots_cons lk_nil lk_cons All2_nil All2_cons W0_d W1_d W2_d WV_d W0_junk W1_junk W2_junk WV_junk W0_lp W1_lp W2_lp WV_lp W0_ls W1_ls W2_ls WV_ls W0_nils W1_nils W2_nils WV_nils W2_agg WV_agg WV_tup SlotsOk_nil SlotsOk_cons HpOk_nil HpOk_cons RhoInj_nil RhoInj_cons
 AV_d A2_d A1_d A0_d AV_lp A2_lp A1_lp A0_lp AV_ls A2_ls A1_ls A0_ls AV_agg A2_agg AV_tup AV_cl A2_cl A1_cl SlotsIds_nil SlotsIds_cons HpIds_nil HpIds_cons Closed_d Closed_agg InB_eq
 resL_nil resL_tmp resL_cell pack_one pack_two isTup_d isTup_lp isTup_ls isTup_agg isTup_cl WC_d WC_lp WC_ls WC_nils W1_cl WC_cl W2_cl WV_cl W0_yl W1_yl W2_yl WV_yl WC_lr StabL_nil StabL_cons StabW_nil StabW_cons AC_d AC_lp AC_ls AC_yl AC_cl AC_lr A0_yl A1_yl A2_yl AV_yl cellsOk_nil cellsOk_cons cells_yl isCell_yl ren_d ren_lp ren_ls ren_agg ren_tup ren2_d ren2_ls ren2_lp ren2_agg ren1_d ren1_ls ren1_lp addH_nil addH_cons idsLt_nil idsLt_cons Bor_d Bor1_d Bor_agg Bor_lp Bor_lplp Bor_lsls Bor_yl Bor_cl Bor_clfn Bor0_lp Bor0_d noH_at renC_d renC_ls renC_lp renC_cl ren0_d ren0_ls ren0_lp ren_cl sg_eq HinOk_nil HinOk_cons delL_nil delL_cons addM_nil addM_cons ksOk_nil ksOk_cons afterC_ret afterC_pan lkIn_nil lkIn_cons
 buildF_eq buildSliceF_eq fillV_nil fillV_cons fieldsOf_eq
 evC_int evC_bool evC_string evC_nils evC_nilp evC_nilF evC_nilI evC_nilm
section
variable {P : Program} {m : CM} {Hr H : Hp} {b : Nat} {g : FuncId} {az : List V} {Kc Kx : V -> Hp -> Prop} {args : List V} {r : V} {H1 : List (Nat × List V)}
theorem CLa (hf : Ct P g args r H1) (hk : Kc (ren (b + ·) r) (addH H b H1)) (hb : All2 (Bor Hr) az args := by first | (simp; done) | simp [Bor_ls, Bor1_ls]) (hi : idsLt 1048576 H1 := by simp) (hc : All2 (Bor noH) az args \/ (AV (InH (lk H1)) litD r /\ flatL (InH (lk H1)) H1) := by first | (left; simp; done) | (right; simp; done)) : ACall P m Hr H b g az Kc Kx :=
 ACall.mk args r H1 hf hb hi hc hk
theorem CLb (hf : Ct P g args r H1) (hb : All2 (Bor Hr) az args) (hk : Kc (ren (b + ·) r) (addH H b H1)) (hi : idsLt 1048576 H1 := by simp) (hc : All2 (Bor noH) az args \/ (AV (InH (lk H1)) litD r /\ flatL (InH (lk H1)) H1) := by first | (left; simp; done) | (right; simp; done)) : ACall P m Hr H b g az Kc Kx :=
 ACall.mk args r H1 hf hb hi hc hk
theorem CLr (hf : Ct P g args r H1) (hb : All2 (Bor Hr) az args /\ idsLt 1048576 H1) (hc : All2 (Bor noH) az args \/ (AV (InH (lk H1)) litD r /\ flatL (InH (lk H1)) H1)) (hk : Kc (ren (b + ·) r) (addH H b H1)) : ACall P m Hr H b g az Kc Kx :=
 ACall.mk args r H1 hf hb.1 hb.2 hc hk
end
end Go.Psl
namespace Go.Psl
theorem wrapu_mod (x : Int) : IntKind.wrap .u64 x = x % 18446744073709551616 := by simp [IntKind.wrap, IntKind.bits, IntKind.signed]
theorem ofInt_toNat {x : Int} (h0 : 0 <= x) (h1 : x < 18446744073709551616) : (BitVec.ofInt 64 x).toNat = x.toNat := by
 rw [BitVec.toNat_ofInt]
 have : x % ((2 ^ 64 : Nat) : Int) = x := Int.emod_eq_of_lt h0 (by simpa using h1)
 rw [this]
theorem ofInt_toNat' {x : Int} (h0 : 0 <= x) (h1 : x < 18446744073709551616) : (BitVec.ofInt IntKind.u64.bits x).toNat = x.toNat := ofInt_toNat h0 h1
theorem and_mask {x : Int} (h0 : 0 <= x) (h1 : x < 18446744073709551616) : bits .and .u64 x 4294967295 = x % 4294967296 := by
 show IntKind.wrap .u64 _ = _
 simp only [BitVec.toNat_and, ofInt_toNat' h0 h1]
 have e : (BitVec.ofInt IntKind.u64.bits 4294967295).toNat = 2 ^ 32 - 1 := by decide
 rw [e, Nat.and_two_pow_sub_one_eq_mod, wrapu_mod]
 omega
theorem or_add {a b : Int} (s : Nat) (ha : 0 <= a) (hb : 0 <= b) (hb2 : b < 2 ^ s) (h : a * 2 ^ s + b < 18446744073709551616) : bits .or .u64 (a * 2 ^ s) b = a * 2 ^ s + b := by
 have hp : (0 : Int) <= a * 2 ^ s := Int.mul_nonneg ha (Int.pow_nonneg (by decide))
 show IntKind.wrap .u64 _ = _
 simp only [BitVec.toNat_or, ofInt_toNat' hp (by omega), ofInt_toNat' hb (by omega)]
 obtain ⟨a', rfl⟩ := Int.eq_ofNat_of_zero_le ha
 obtain ⟨b', rfl⟩ := Int.eq_ofNat_of_zero_le hb
 have hlt : b' < 2 ^ s := by exact_mod_cast hb2
 have e : ((a' : Int) * 2 ^ s).toNat = 2 ^ s * a' := by
   rw [show ((a' : Int) * 2 ^ s) = ((2 ^ s * a' : Nat) : Int) by push_cast; rw [Int.mul_comm]]
   rfl
 rw [e, Int.toNat_natCast, <- Nat.two_pow_add_eq_or_of_lt hlt, wrapu_mod]
 have e2 : ((a' : Int) * 2 ^ s) = ((2 ^ s * a' : Nat) : Int) := by push_cast; rw [Int.mul_comm]
 rw [e2] at h ⊢
 omega
theorem digit_step {u v q r y1 y0 : Int} (_hy1 : 2147483648 <= y1) (_hy1' : y1 < 4294967296) (_hy0 : 0 <= y0) (_hy0' : y0 < 4294967296) (hu0 : 0 <= u) (hu : u < y1 * 4294967296 + y0) (hv0 : 0 <= v) (hv : v < 4294967296) (hq : (u * 4294967296 + v) / (y1 * 4294967296 + y0) <= q) (hr : q * y1 + r = u) (hc : 4294967296 <= q \/ 4294967296 * r + v < q * y0) :
   (u * 4294967296 + v) / (y1 * 4294967296 + y0) <= q - 1 := by
 have hD : 0 < y1 * 4294967296 + y0 := by omega
 have hlt : (u * 4294967296 + v) / (y1 * 4294967296 + y0) < q := by
   rcases hc with hc | hc
   . have h1 : (u * 4294967296 + v) / (y1 * 4294967296 + y0) < 4294967296 := by
       rw [Int.ediv_lt_iff_lt_mul hD]; omega
     omega
   . rw [Int.ediv_lt_iff_lt_mul hD]
     have : q * (y1 * 4294967296 + y0) = (q * y1) * 4294967296 + q * y0 := by
       rw [Int.mul_add, Int.mul_assoc]
     omega
 omega
theorem digit_done {u v q r y1 y0 : Int} (hy1 : 2147483648 <= y1) (_hy0 : 0 <= y0) (_hy0' : y0 < 4294967296) (hq : (u * 4294967296 + v) / (y1 * 4294967296 + y0) <= q) (hr : q * y1 + r = u) (hc : q * y0 <= 4294967296 * r + v) :
   q = (u * 4294967296 + v) / (y1 * 4294967296 + y0) := by
 have hD : 0 < y1 * 4294967296 + y0 := by omega
 refine Int.le_antisymm ?_ hq
 rw [Int.le_ediv_iff_mul_le hD]
 have : q * (y1 * 4294967296 + y0) = (q * y1) * 4294967296 + q * y0 := by
   rw [Int.mul_add, Int.mul_assoc]
 omega
theorem digit_break {u v q r y1 y0 : Int} (hy1 : 2147483648 <= y1) (hy0 : 0 <= y0) (hy0' : y0 < 4294967296) (hq0 : 0 <= q) (hu : u < y1 * 4294967296 + y0) (hv0 : 0 <= v) (hr : q * y1 + r = u) (hc : 4294967296 <= r) : q * y0 <= 4294967296 * r + v := by
 have h1 : q * y1 < 4294967296 * y1 := by omega
 have h2 : q < 4294967296 := Int.lt_of_mul_lt_mul_right h1 (by omega)
 have h3 : q * y0 <= 4294967296 * y0 := Int.mul_le_mul_of_nonneg_right (by omega) hy0
 omega
open Go.ChangeShapes Go.WideShapes Go.ChangeAt Go.RowKit
variable {P : Program} {H : Type} {enc : TypeId × Value -> H}
def rowedTs (P : Program) (ts : List TypeId) : Bool := ts.all fun t => P.readableRec t && decide (t < P.types.size)
theorem trodAll_stay (hl : laidOutB P = true) {W W' : World} (hb : Below W.heap.size W W') {sp : Nat -> Bool} : ∀ {ts : List TypeId} {vs : List Value} {ds : List (DataW H)} {ps : List MemPlace}, rowedTs P ts = true ->
   DataW.TrodAll enc P W 0 (fun _ => true) true ts vs ds ps -> (∀ p ∈ ps, p.block < W.heap.size) -> (∀ p ∈ ps, sp p.block = true) -> DataW.TrodAll enc P W' 0 sp true ts vs ds ps
 | [], [], [], ps, _, h, _, _ => h
 | t :: ts, v :: vs, d :: ds, ps, hr, h, h1, h2 => by
   obtain ⟨p, q, h3, h4, rfl⟩ := h
   simp only [rowedTs, List.all_cons, Bool.and_eq_true, decide_eq_true_eq] at hr
   exact ⟨p, q, WideElems.Trod_stays hl hr.1.1 hr.1.2 h3 (fun x hx => hb.same (h1 x (by simp [hx]))) (fun x hx => h2 x (by simp [hx])),
     trodAll_stay hl hb (by simpa [rowedTs] using hr.2) h4 (fun x hx => h1 x (by simp [hx])) (fun x hx => h2 x (by simp [hx])), rfl⟩
 | [], _ :: _, _, _, _, h, _, _ => h.elim
 | [], [], _ :: _, _, _, h, _, _ => h.elim
 | _ :: _, [], _, _, _, h, _, _ => h.elim
 | _ :: _, _ :: _, [], _, _, h, _, _ => h.elim
def LawOk (P : Program) (f : FuncId) (args : Array Value) (W : World) : Prop := Calls P f args W fun e W' => e = .returned (.bool true) /\ Below W.heap.size W W'
theorem LawOk.of_ct {f : FuncId} {az : List V} {xs : Array Value} {W : World} {G : Gh} (h : Ct P f az (.d (.lit (.bool true))) []) (hG : ∀ b, G.Im b -> b < W.heap.size) (ha : All2 (R2 G W) az xs.toList) : LawOk P f xs W := by
 refine Calls.mono (h.2 G W xs hG ha ⟨fun _ _ h => by simp at h, fun _ _ h => by simp [InH] at h, fun _ h => by simp at h⟩) fun e W' ⟨G', hp⟩ => ?_
 have hv := hp.rv
 have hb : Below W.heap.size W W' := ⟨hp.os, hp.tape, hp.output, hp.size, fun b hb => hp.block b hb fun ⟨_, h, _⟩ => by simp [InH] at h⟩
 cases e with
 | returned v =>
   have hv : v = .bool true := rv_lit hv
   subst hv
   exact ⟨rfl, hb⟩
 | _ => exact hv.elim
theorem law_post (hl : laidOutB P = true) {f : Func} {s : ChangeSpec} {apart fresh handsOn again : Bool} {W W' : World} {args : Array Value} {ds : List (DataW H)} {before : List MemPlace} {tb : TypeId}
   (hvars : s.vars = []) (hW : DataW.Whole enc P f.params.toList s.vars apart W args.toList ds [] before) (hr : rowedTs P f.params.toList = true) (hres : f.resultTypes = #[tb]) (htb : P.underlying tb = some .bool)
   (hfn : s.fn H (ds ++ []) = { results := [.lit (.bool true)], args := ds }) (hb : Below W.heap.size W W') : s.post enc P f apart fresh handsOn again W args (.bool true) W' := by
 have hlt := hW.lt
 have hW' := hW
 obtain ⟨p, q, hA, hV, rfl, hz, hn⟩ := hW'
 have hq : q = [] := by
   rw [hvars] at hV
   exact (trodVars_none hV).2
 subst hq
 rw [List.append_nil] at hlt hz hn hW
 have hargs : ∀ sp : Nat -> Bool, (∀ x ∈ p, sp x.block = true) -> DataW.TrodAll enc P W' 0 sp true f.params.toList args.toList (s.fn H (ds ++ [])).args p := fun sp hsp => by
   rw [hfn]
   exact trodAll_stay hl hb hr hA hlt hsp
 have hress : ∀ (b : Nat) (sp : Nat -> Bool) (hd : Bool), DataW.TrodAll enc P W' b sp hd f.resultTypes.toList ((Value.bool true).resultList f.resultTypes.size) (s.fn H (ds ++ [])).results [] := fun _ _ _ => by
   rw [hfn, hres]
   exact trodAll_mk1 (shut_bool htb true)
 have hvs : ∀ sp : Nat -> Bool, DataW.TrodVars enc P W' sp s.vars (s.fn H (ds ++ [])).vars [] := fun _ => by
   rw [hfn, hvars]; rfl
 have hold : ∀ x ∈ p, (fun b => decide (b < W.heap.size)) x.block = true := fun x hx => by simpa using hlt x hx
 refine ⟨ds, [], p, [], p, [], hW, hress _ _ _, hargs _ hold, hvs _, hb.frame _, fun _ => ?_⟩
 refine ⟨ok_one hres rfl (okWide_bool_mk htb true), DataW.lit (Lit.bool true) :: ds, (s.fn H (ds ++ [])).vars, p, ⟨p, [], ?_, hvs _, by simp, fun b off hp => ?_, fun ha => hn ha⟩, fun x hx _ => hx⟩
 . rw [hres]
   have := hargs (fun _ => true) (fun _ _ => rfl)
   rw [hfn] at this
   exact ⟨[], p, shut_bool htb true, this, rfl⟩
 . rw [hb.frozen (p := ⟨b, off, none⟩) (hlt _ hp)]
   exact hz b off hp
end Go.Psl
namespace Go.Psl
open Go.ChangeShapes Go.WideShapes
section
variable {P : Program} {W : World}
abbrev InW (W : World) (b : Nat) : Prop := b < W.heap.size
def ShL (S : TypeId -> List D -> Prop) : List TypeId -> List D -> Prop
 | [], ds => ds = []
 | t :: ts, ds => ∃ a b, ds = a ++ b /\ S t a /\ ShL S ts b
def Sh' (P : Program) : Nat -> TypeId -> List D -> Prop
 | 0, _, _ => False
 | n + 1, t, ds => match P.underlying t with
   | some .bool => ∃ b, ds = [.lit (.bool b)]
   | some (.int k) => ∃ i, ds = [.lit (.int k i)] /\ (Lit.int k i).wf = true
   | some .string => ∃ s : ByteArray, ds = [.lit (.string s)] /\ s.size <= maxLen
   | some (.slice e) => ∃ es, ds = [.sl (P.cellsOf e) es] /\ es.length <= maxL /\ ∀ x ∈ es, Sh' P n e x
   | some (.struct fs) => ShL (Sh' P n) (fs.toList.map (·.type)) ds
   | some (.array k e) => ShL (Sh' P n) (List.replicate k e) ds
   | _ => False
def contig (P : Program) : Nat -> List Field -> Option Nat
 | o, [] => some o
 | o, f :: fs => if f.offset = o then contig P (o + P.cellsOf f.type) fs else none
def plainB (P : Program) : Nat -> TypeId -> Bool
 | 0, _ => false
 | n + 1, t => match P.underlying t with
   | some .bool => true
   | some (.int _) => true
   | some .string => true
   | some (.slice e) => decide (0 < P.cellsOf e) && plainB P n e
   | some (.struct fs) => (contig P 0 fs.toList == some (P.cellsOf t)) && fs.toList.all fun f => plainB P n f.type
   | some (.array k e) => decide (k * P.cellsOf e = P.cellsOf t) && plainB P n e
   | _ => false
theorem rd_cell {H : Type} {_enc : TypeId × Value -> H} {base : Nat} {a : Addr} {n : Nat} {cs : List Value} (hn : 0 < n) (h : W.cells? base a n = some cs) : InW W a.block /\ cs.length = n /\ ∀ j, j < n -> W.cell? (a.add j) = cs[j]? := by
 obtain ⟨_, h2, h3⟩ := World.cells?_some h
 refine ⟨?_, h2, h3⟩
 have h4 := h3 0 hn
 rw [List.getElem?_eq_getElem (by omega)] at h4
 have hbl : (a.add 0).block = a.block := by unfold Addr.add; split <;> rfl
 unfold World.cell? at h4
 rw [hbl] at h4
 unfold InW
 refine Nat.not_le.1 fun hle => ?_
 rw [Array.getElem?_eq_none hle] at h4
 cases h4
theorem all2_append {α β : Type} {R : α -> β -> Prop} : ∀ {az as' : List α} {bs bs' : List β}, All2 R az bs -> All2 R as' bs' -> All2 R (az ++ as') (bs ++ bs')
 | [], _, [], _, _, h => h
 | _ :: _, _, _ :: _, _, h, h' => ⟨h.1, all2_append h.2 h'⟩
theorem read_fields {S : TypeId -> List D -> Prop} {T : TypeId -> List Value -> Prop} {cs : List Value} (hrec : ∀ t cs', T t cs' -> ∃ ds, S t ds /\ All2 (RD (InW W) W) ds cs') :
   ∀ (fs : List Field) (o m : Nat), contig P o fs = some m -> m = cs.length -> (∀ f ∈ fs, T f.type ((cs.drop f.offset).take (P.cellsOf f.type))) -> o <= m -> ∃ ds, ShL S (fs.map (·.type)) ds /\ All2 (RD (InW W) W) ds (cs.drop o)
 | [], o, m, hc, hm, _, _ => by
   simp only [contig, Option.some.injEq] at hc
   subst hc
   exact ⟨[], rfl, by rw [hm, List.drop_length]; trivial⟩
 | f :: fs, o, m, hc, hm, hT, ho => by
   unfold contig at hc
   split at hc
   . rename_i hof
     have hle : o + P.cellsOf f.type <= m := by
       clear hT ho hm
       generalize o + P.cellsOf f.type = q at hc
       clear hof
       induction fs generalizing q with
       | nil => simp only [contig, Option.some.injEq] at hc; omega
       | cons g gs ih =>
         unfold contig at hc
         split at hc
         . have := ih _ hc; omega
         . cases hc
     obtain ⟨ds, h1, h2⟩ := read_fields hrec fs _ m hc hm (fun g hg => hT g (by simp [hg])) hle
     have hf := hT f (by simp)
     rw [hof] at hf
     obtain ⟨d0, h3, h4⟩ := hrec _ _ hf
     refine ⟨d0 ++ ds, ⟨d0, ds, rfl, h3, h1⟩, ?_⟩
     have e : cs.drop o = (cs.drop o).take (P.cellsOf f.type) ++ cs.drop (o + P.cellsOf f.type) := by
       rw [<- List.drop_drop, List.take_append_drop]
     rw [e]
     exact all2_append h4 h2
   . cases hc
theorem read_elems {S : TypeId -> List D -> Prop} {T : TypeId -> List Value -> Prop} {e : TypeId} {cs : List Value} (hrec : ∀ t cs', T t cs' -> ∃ ds, S t ds /\ All2 (RD (InW W) W) ds cs') (z : Nat) :
   ∀ (k o : Nat), o + k * z = cs.length -> (∀ i, i < k -> T e ((cs.drop (o + i * z)).take z)) -> ∃ ds, ShL S (List.replicate k e) ds /\ All2 (RD (InW W) W) ds (cs.drop o)
 | 0, o, h, _ => ⟨[], rfl, by rw [show o = cs.length by omega, List.drop_length]; trivial⟩
 | k + 1, o, h, hT => by
   have hk : (k + 1) * z = k * z + z := Nat.succ_mul _ _
   obtain ⟨ds, h1, h2⟩ := read_elems (cs := cs) (e := e) hrec z k (o + z) (by omega) (fun i hi => by
     have := hT (i + 1) (by omega)
     rw [Nat.succ_mul] at this
     rw [show o + z + i * z = o + (i * z + z) by omega]
     exact this)
   have hf := hT 0 (by omega)
   rw [Nat.zero_mul, Nat.add_zero] at hf
   obtain ⟨d0, h3, h4⟩ := hrec _ _ hf
   refine ⟨d0 ++ ds, ⟨d0, ds, rfl, h3, h1⟩, ?_⟩
   have e : cs.drop o = (cs.drop o).take z ++ cs.drop (o + z) := by rw [<- List.drop_drop, List.take_append_drop]
   rw [e]
   exact all2_append h4 h2
theorem read_plain {H : Type} {enc : TypeId × Value -> H} {base : Nat} {sp : Nat -> Bool} {held : Bool} : ∀ (n : Nat) (t : TypeId), plainB P n t = true -> ∀ (m : Nat) (cs : List Value) (x : DataW H × List MemPlace), DataW.trod enc P W base sp held m t cs = some x -> ∃ ds, Sh' P n t ds /\ All2 (RD (InW W) W) ds cs
 | 0, _, h => by cases h
 | n + 1, t, h => fun m cs x hx => by
   have ih := read_plain (enc := enc) (base := base) (sp := sp) (held := held) n
   unfold plainB at h
   unfold Sh'
   split at h
   . rename_i hu
     obtain ⟨b, rfl, _⟩ := DataW.trod_bool hu hx
     exact ⟨_, ⟨b, rfl⟩, .lit _ rfl, trivial⟩
   . rename_i k hu
     obtain ⟨i, rfl, _, hw⟩ := DataW.trod_int hu hx
     exact ⟨_, ⟨i, rfl, hw⟩, .lit _ rfl, trivial⟩
   . rename_i hu
     obtain ⟨s, rfl, _, hw⟩ := DataW.trod_string hu hx
     exact ⟨_, ⟨s, rfl, hw⟩, .lit _ rfl, trivial⟩
   . rename_i e hu
     simp only [Bool.and_eq_true, decide_eq_true_eq] at h
     rcases Go.Deep.open_slice hu hx with ⟨rfl, _⟩ | ⟨a, len, cap, q, m', D0, Pl, rfl, _, hl, hm, hq, _, hel⟩
     . exact ⟨_, ⟨[], rfl, by simp, by simp⟩, RD.sl _ [] none 0 (fun _ _ => undef) (by simp) (by simp) (by simp) (by simp) (by simp), trivial⟩
     . have hlq : len <= q := by rw [hq]; split <;> omega
       obtain ⟨F, hF⟩ := Go.Deep.choose_lt (α := List D × List Value) (n := len) (p := fun i y => W.cells? base (a.add (i * P.cellsOf e)) (P.cellsOf e) = some y.2 /\ Sh' P n e y.1 /\ All2 (RD (InW W) W) y.1 y.2) (fun i hi => by
         obtain ⟨cs', h1, h2⟩ := hel i (by omega)
         obtain ⟨ds, h3, h4⟩ := ih e h.2 _ _ _ h2
         exact ⟨(ds, cs'), h1, h3, h4⟩)
       have hlen : ∀ i, i < len -> (F i).1.length = P.cellsOf e := fun i hi => by
         obtain ⟨h1, _, h3⟩ := hF i hi
         rw [h3.length, (rd_cell (_enc := enc) h.1 h1).2.1]
       refine ⟨_, ⟨(List.range len).map fun i => (F i).1, rfl, ?_, ?_⟩, ?_, trivial⟩
       . simp; unfold maxLen at hm; omega
       . intro y hy
         simp only [List.mem_map, List.mem_range] at hy
         obtain ⟨i, hi, rfl⟩ := hy
         exact (hF i hi).2.1
       . have key := RD.sl (Im := InW W) (W := W) (P.cellsOf e) ((List.range len).map fun i => (F i).1) (some a) cap (fun i j => ((F i).2)[j]?.getD undef) ?_ ?_ ?_ ?_ ?_
         . simpa using key
         . intro y hy
           simp only [List.mem_map, List.mem_range] at hy
           obtain ⟨i, hi, rfl⟩ := hy
           exact hlen i hi
         . simp; unfold maxLen at hm; omega
         . simpa using hl
         . intro i y hy
           have hi : i < len := by
             have := (List.getElem?_eq_some_iff.1 hy).1
             simpa using this
           have hy' : (F i).1 = y := by simpa [hi] using hy
           obtain ⟨h1, _, h3⟩ := hF i hi
           obtain ⟨c1, c2, c3⟩ := rd_cell (_enc := enc) h.1 h1
           have hbl : (a.add (i * P.cellsOf e)).block = a.block := by unfold Addr.add; split <;> rfl
           refine ⟨a, rfl, by rw [hbl] at c1; exact c1, fun j z hz => ?_⟩
           have hj : j < P.cellsOf e := by
             have := (List.getElem?_eq_some_iff.1 hz).1
             rw [<- hy', hlen i hi] at this
             exact this
           rw [<- Go.Deep.add_add, c3 j hj, List.getElem?_eq_getElem (by omega)]
           simp
         . intro i y hy j z hz
           have hi : i < len := by
             have := (List.getElem?_eq_some_iff.1 hy).1
             simpa using this
           have hy' : (F i).1 = y := by simpa [hi] using hy
           obtain ⟨h1, _, h3⟩ := hF i hi
           subst hy'
           obtain ⟨u, hu2, hr⟩ := h3.get hz
           rw [hu2]
           exact hr
   . rename_i fs hu
     simp only [Bool.and_eq_true, beq_iff_eq, List.all_eq_true] at h
     obtain ⟨xs, m', _, _, hcl, hxl, hel⟩ := DataW.trod_struct hu hx
     have := read_fields (P := P) (W := W) (S := Sh' P n) (T := fun t cs' => plainB P n t = true /\ ∃ m x, DataW.trod enc P W base sp held m t cs' = some x) (cs := cs) (fun t cs' ⟨h1, m, x, h2⟩ => ih t h1 m cs' x h2) fs.toList 0 _ h.1 hcl.symm (fun f hf => by
       refine ⟨h.2 f hf, m', ?_⟩
       obtain ⟨i, hi, rfl⟩ := List.mem_iff_getElem.1 hf
       have h1 := hel i fs[i] (by simp at hi ⊢)
       have h2 : i < xs.length := by simp at hi; omega
       rw [List.getElem?_eq_getElem h2] at h1
       exact ⟨_, h1⟩) (Nat.zero_le _)
     simpa using this
   . rename_i k e hu
     simp only [Bool.and_eq_true, decide_eq_true_eq] at h
     obtain ⟨xs, m', _, _, hcl, hxl, hel⟩ := DataW.trod_array hu hx
     have := read_elems (W := W) (S := Sh' P n) (T := fun t cs' => plainB P n t = true /\ ∃ m x, DataW.trod enc P W base sp held m t cs' = some x) (e := e) (cs := cs) (fun t cs' ⟨h1, m, x, h2⟩ => ih t h1 m cs' x h2) (P.cellsOf e) k 0 (by omega) (fun i hi => by
       refine ⟨h.2, m', ?_⟩
       have h1 := hel i hi
       rw [List.getElem?_eq_getElem (by omega)] at h1
       rw [Nat.zero_add]
       exact ⟨_, h1⟩)
     simpa using this
   . cases h
end
end Go.Psl
namespace Go.Psl
def foldL : PC -> List PC -> PC × List PC
 | .seq a b, ls => let x := foldL a ls; let y := foldL b x.2; (.seq x.1 y.1, y.2)
 | .cond c a b, ls => let x := foldL a ls; let y := foldL b x.2; (.cond c x.1 y.1, y.2)
 | .block i a, ls => let x := foldL a ls; (.block i x.1, x.2)
 | .loop _, l :: ls => (.loop l, ls)
 | .rangeF f ps _ _, a :: b :: ls => (.rangeF f ps a b, ls)
 | x, ls => (x, ls)
def loopsOf : PC -> List PC
 | .seq a b => loopsOf a ++ loopsOf b
 | .cond _ a b => loopsOf a ++ loopsOf b
 | .block _ a => loopsOf a
 | .loop a => loopsOf a ++ [a]
 | .rangeF _ _ a b => loopsOf a ++ [a] ++ loopsOf b ++ [b]
 | _ => []
def bodyOf (f : Func) : PC := match f.body.bind (comp f.ntmps) with | some p => p | none => .skip
def G (f : Func) (ls : List PC) : PC := (foldL (bodyOf f) ls).1
def K (f : Func) (k : Nat) (ls : List PC) : PC := (foldL ((loopsOf (bodyOf f)).getD k .skip) ls).1
abbrev Rd {α : Type} (x : α) := {y : α // x = y}
end Go.Psl
namespace Go.Proofs.Tryz
open Go.Psl
set_option maxRecDepth 100000
def p3 : PC := (⟨_, by conv => lhs; reduce⟩ : Rd (G f3 [])).1
theorem c3 : f3.body.bind (comp f3.ntmps) = some p3 := by kernel_rfl
def p4 : PC := (⟨_, by conv => lhs; reduce⟩ : Rd (G f4 [])).1
theorem c4 : f4.body.bind (comp f4.ntmps) = some p4 := by kernel_rfl
def p5l0 : PC := (⟨_, by conv => lhs; reduce⟩ : Rd (K f5 0 [])).1
def p5l1 : PC := (⟨_, by conv => lhs; reduce⟩ : Rd (K f5 1 [])).1
def p5 : PC := (⟨_, by conv => lhs; reduce⟩ : Rd (fun a b => G f5 [a, b])).1 p5l0 p5l1
theorem c5 : f5.body.bind (comp f5.ntmps) = some p5 := by kernel_rfl
def p6l0 : PC := (⟨_, by conv => lhs; reduce⟩ : Rd (K f6 0 [])).1
def p6 : PC := (⟨_, by conv => lhs; reduce⟩ : Rd (fun a => G f6 [a])).1 p6l0
theorem c6 : f6.body.bind (comp f6.ntmps) = some p6 := by kernel_rfl
def p7l0 : PC := (⟨_, by conv => lhs; reduce⟩ : Rd (K f7 0 [])).1
def p7l1 : PC := (⟨_, by conv => lhs; reduce⟩ : Rd (fun a => K f7 1 [a])).1 p7l0
def p7 : PC := (⟨_, by conv => lhs; reduce⟩ : Rd (fun a => G f7 [a])).1 p7l1
theorem c7 : f7.body.bind (comp f7.ntmps) = some p7 := by kernel_rfl
def p8l0 : PC := (⟨_, by conv => lhs; reduce⟩ : Rd (K f8 0 [])).1
def p8 : PC := (⟨_, by conv => lhs; reduce⟩ : Rd (fun a => G f8 [a])).1 p8l0
theorem c8 : f8.body.bind (comp f8.ntmps) = some p8 := by kernel_rfl
def p9l0 : PC := (⟨_, by conv => lhs; reduce⟩ : Rd (K f9 0 [])).1
def p9 : PC := (⟨_, by conv => lhs; reduce⟩ : Rd (fun a => G f9 [a])).1 p9l0
theorem c9 : f9.body.bind (comp f9.ntmps) = some p9 := by kernel_rfl
def p10l0 : PC := (⟨_, by conv => lhs; reduce⟩ : Rd (K f10 0 [])).1
def p10l1 : PC := (⟨_, by conv => lhs; reduce⟩ : Rd (K f10 1 [])).1
def p10l2 : PC := (⟨_, by conv => lhs; reduce⟩ : Rd (fun a => K f10 2 [a])).1 p10l1
def p10l3 : PC := (⟨_, by conv => lhs; reduce⟩ : Rd (fun a b => K f10 3 [a, b])).1 p10l0 p10l2
def p10l4 : PC := (⟨_, by conv => lhs; reduce⟩ : Rd (fun a => K f10 4 [a])).1 p10l3
def p10 : PC := (⟨_, by conv => lhs; reduce⟩ : Rd (fun a => G f10 [a])).1 p10l4
theorem c10 : f10.body.bind (comp f10.ntmps) = some p10 := by kernel_rfl
def p11 : PC := (⟨_, by conv => lhs; reduce⟩ : Rd (G f11 [])).1
theorem c11 : f11.body.bind (comp f11.ntmps) = some p11 := by kernel_rfl
def p18 : PC := (⟨_, by conv => lhs; reduce⟩ : Rd (G f18 [])).1
theorem c18 : f18.body.bind (comp f18.ntmps) = some p18 := by kernel_rfl
def p19 : PC := (⟨_, by conv => lhs; reduce⟩ : Rd (G f19 [])).1
theorem c19 : f19.body.bind (comp f19.ntmps) = some p19 := by kernel_rfl
def p21 : PC := (⟨_, by conv => lhs; reduce⟩ : Rd (G f21 [])).1
theorem c21 : f21.body.bind (comp f21.ntmps) = some p21 := by kernel_rfl
def p29 : PC := (⟨_, by conv => lhs; reduce⟩ : Rd (G f29 [])).1
theorem c29 : f29.body.bind (comp f29.ntmps) = some p29 := by kernel_rfl
def p32 : PC := (⟨_, by conv => lhs; reduce⟩ : Rd (G f32 [])).1
theorem c32 : f32.body.bind (comp f32.ntmps) = some p32 := by kernel_rfl
def p34 : PC := (⟨_, by conv => lhs; reduce⟩ : Rd (G f34 [])).1
theorem c34 : f34.body.bind (comp f34.ntmps) = some p34 := by kernel_rfl
def p36 : PC := (⟨_, by conv => lhs; reduce⟩ : Rd (G f36 [])).1
theorem c36 : f36.body.bind (comp f36.ntmps) = some p36 := by kernel_rfl
def p38l0 : PC := (⟨_, by conv => lhs; reduce⟩ : Rd (K f38 0 [])).1
def p38 : PC := (⟨_, by conv => lhs; reduce⟩ : Rd (fun a => G f38 [a])).1 p38l0
theorem c38 : f38.body.bind (comp f38.ntmps) = some p38 := by kernel_rfl
def p39l0 : PC := (⟨_, by conv => lhs; reduce⟩ : Rd (K f39 0 [])).1
def p39 : PC := (⟨_, by conv => lhs; reduce⟩ : Rd (fun a => G f39 [a])).1 p39l0
theorem c39 : f39.body.bind (comp f39.ntmps) = some p39 := by kernel_rfl
def p45 : PC := (⟨_, by conv => lhs; reduce⟩ : Rd (G f45 [])).1
theorem c45 : f45.body.bind (comp f45.ntmps) = some p45 := by kernel_rfl
def p48 : PC := (⟨_, by conv => lhs; reduce⟩ : Rd (G f48 [])).1
theorem c48 : f48.body.bind (comp f48.ntmps) = some p48 := by kernel_rfl
def p50l0 : PC := (⟨_, by conv => lhs; reduce⟩ : Rd (K f50 0 [])).1
def p50 : PC := (⟨_, by conv => lhs; reduce⟩ : Rd (fun a => G f50 [a])).1 p50l0
theorem c50 : f50.body.bind (comp f50.ntmps) = some p50 := by kernel_rfl
def p51 : PC := (⟨_, by conv => lhs; reduce⟩ : Rd (G f51 [])).1
theorem c51 : f51.body.bind (comp f51.ntmps) = some p51 := by kernel_rfl
def p53l0 : PC := (⟨_, by conv => lhs; reduce⟩ : Rd (K f53 0 [])).1
def p53l1 : PC := (⟨_, by conv => lhs; reduce⟩ : Rd (K f53 1 [])).1
def p53 : PC := (⟨_, by conv => lhs; reduce⟩ : Rd (fun a b => G f53 [a, b])).1 p53l0 p53l1
theorem c53 : f53.body.bind (comp f53.ntmps) = some p53 := by kernel_rfl
def p55l0 : PC := (⟨_, by conv => lhs; reduce⟩ : Rd (K f55 0 [])).1
def p55 : PC := (⟨_, by conv => lhs; reduce⟩ : Rd (fun a => G f55 [a])).1 p55l0
theorem c55 : f55.body.bind (comp f55.ntmps) = some p55 := by kernel_rfl
def p56 : PC := (⟨_, by conv => lhs; reduce⟩ : Rd (G f56 [])).1
theorem c56 : f56.body.bind (comp f56.ntmps) = some p56 := by kernel_rfl
def p58 : PC := (⟨_, by conv => lhs; reduce⟩ : Rd (G f58 [])).1
theorem c58 : f58.body.bind (comp f58.ntmps) = some p58 := by kernel_rfl
def p59 : PC := (⟨_, by conv => lhs; reduce⟩ : Rd (G f59 [])).1
theorem c59 : f59.body.bind (comp f59.ntmps) = some p59 := by kernel_rfl
def p60l0 : PC := (⟨_, by conv => lhs; reduce⟩ : Rd (K f60 0 [])).1
def p60 : PC := (⟨_, by conv => lhs; reduce⟩ : Rd (fun a => G f60 [a])).1 p60l0
theorem c60 : f60.body.bind (comp f60.ntmps) = some p60 := by kernel_rfl
def p64 : PC := (⟨_, by conv => lhs; reduce⟩ : Rd (G f64 [])).1
theorem c64 : f64.body.bind (comp f64.ntmps) = some p64 := by kernel_rfl
def p65 : PC := (⟨_, by conv => lhs; reduce⟩ : Rd (G f65 [])).1
theorem c65 : f65.body.bind (comp f65.ntmps) = some p65 := by kernel_rfl
def p66 : PC := (⟨_, by conv => lhs; reduce⟩ : Rd (G f66 [])).1
theorem c66 : f66.body.bind (comp f66.ntmps) = some p66 := by kernel_rfl
def p67 : PC := (⟨_, by conv => lhs; reduce⟩ : Rd (G f67 [])).1
theorem c67 : f67.body.bind (comp f67.ntmps) = some p67 := by kernel_rfl
def p69l0 : PC := (⟨_, by conv => lhs; reduce⟩ : Rd (K f69 0 [])).1
def p69 : PC := (⟨_, by conv => lhs; reduce⟩ : Rd (fun a => G f69 [a])).1 p69l0
theorem c69 : f69.body.bind (comp f69.ntmps) = some p69 := by kernel_rfl
def p70l0 : PC := (⟨_, by conv => lhs; reduce⟩ : Rd (K f70 0 [])).1
def p70 : PC := (⟨_, by conv => lhs; reduce⟩ : Rd (fun a => G f70 [a])).1 p70l0
theorem c70 : f70.body.bind (comp f70.ntmps) = some p70 := by kernel_rfl
def p77l0 : PC := (⟨_, by conv => lhs; reduce⟩ : Rd (K f77 0 [])).1
def p77 : PC := (⟨_, by conv => lhs; reduce⟩ : Rd (fun a => G f77 [a])).1 p77l0
theorem c77 : f77.body.bind (comp f77.ntmps) = some p77 := by kernel_rfl
def p81 : PC := (⟨_, by conv => lhs; reduce⟩ : Rd (G f81 [])).1
theorem c81 : f81.body.bind (comp f81.ntmps) = some p81 := by kernel_rfl
def p84 : PC := (⟨_, by conv => lhs; reduce⟩ : Rd (G f84 [])).1
theorem c84 : f84.body.bind (comp f84.ntmps) = some p84 := by kernel_rfl
def p85l0 : PC := (⟨_, by conv => lhs; reduce⟩ : Rd (K f85 0 [])).1
def p85 : PC := (⟨_, by conv => lhs; reduce⟩ : Rd (fun a => G f85 [a])).1 p85l0
theorem c85 : f85.body.bind (comp f85.ntmps) = some p85 := by kernel_rfl
def p88l0 : PC := (⟨_, by conv => lhs; reduce⟩ : Rd (K f88 0 [])).1
def p88l1 : PC := (⟨_, by conv => lhs; reduce⟩ : Rd (K f88 1 [])).1
def p88l2 : PC := (⟨_, by conv => lhs; reduce⟩ : Rd (fun a b => K f88 2 [a, b])).1 p88l0 p88l1
def p88 : PC := (⟨_, by conv => lhs; reduce⟩ : Rd (fun a => G f88 [a])).1 p88l2
theorem c88 : f88.body.bind (comp f88.ntmps) = some p88 := by kernel_rfl
def p89l0 : PC := (⟨_, by conv => lhs; reduce⟩ : Rd (K f89 0 [])).1
def p89 : PC := (⟨_, by conv => lhs; reduce⟩ : Rd (fun a => G f89 [a])).1 p89l0
theorem c89 : f89.body.bind (comp f89.ntmps) = some p89 := by kernel_rfl
def p90 : PC := (⟨_, by conv => lhs; reduce⟩ : Rd (G f90 [])).1
theorem c90 : f90.body.bind (comp f90.ntmps) = some p90 := by kernel_rfl
def p91 : PC := (⟨_, by conv => lhs; reduce⟩ : Rd (G f91 [])).1
theorem c91 : f91.body.bind (comp f91.ntmps) = some p91 := by kernel_rfl
def p92 : PC := (⟨_, by conv => lhs; reduce⟩ : Rd (G f92 [])).1
theorem c92 : f92.body.bind (comp f92.ntmps) = some p92 := by kernel_rfl
def p94 : PC := (⟨_, by conv => lhs; reduce⟩ : Rd (G f94 [])).1
theorem c94 : f94.body.bind (comp f94.ntmps) = some p94 := by kernel_rfl
def p95l0 : PC := (⟨_, by conv => lhs; reduce⟩ : Rd (K f95 0 [])).1
def p95 : PC := (⟨_, by conv => lhs; reduce⟩ : Rd (fun a => G f95 [a])).1 p95l0
theorem c95 : f95.body.bind (comp f95.ntmps) = some p95 := by kernel_rfl
def p96 : PC := (⟨_, by conv => lhs; reduce⟩ : Rd (G f96 [])).1
theorem c96 : f96.body.bind (comp f96.ntmps) = some p96 := by kernel_rfl
def p98 : PC := (⟨_, by conv => lhs; reduce⟩ : Rd (G f98 [])).1
theorem c98 : f98.body.bind (comp f98.ntmps) = some p98 := by kernel_rfl
def p99 : PC := (⟨_, by conv => lhs; reduce⟩ : Rd (G f99 [])).1
theorem c99 : f99.body.bind (comp f99.ntmps) = some p99 := by kernel_rfl
def p103l0 : PC := (⟨_, by conv => lhs; reduce⟩ : Rd (K f103 0 [])).1
def p103l1 : PC := (⟨_, by conv => lhs; reduce⟩ : Rd (K f103 1 [])).1
def p103 : PC := (⟨_, by conv => lhs; reduce⟩ : Rd (fun a b => G f103 [a, b])).1 p103l0 p103l1
theorem c103 : f103.body.bind (comp f103.ntmps) = some p103 := by kernel_rfl
def p104 : PC := (⟨_, by conv => lhs; reduce⟩ : Rd (G f104 [])).1
theorem c104 : f104.body.bind (comp f104.ntmps) = some p104 := by kernel_rfl
def p105 : PC := (⟨_, by conv => lhs; reduce⟩ : Rd (G f105 [])).1
theorem c105 : f105.body.bind (comp f105.ntmps) = some p105 := by kernel_rfl
def p106 : PC := (⟨_, by conv => lhs; reduce⟩ : Rd (G f106 [])).1
theorem c106 : f106.body.bind (comp f106.ntmps) = some p106 := by kernel_rfl
def p107 : PC := (⟨_, by conv => lhs; reduce⟩ : Rd (G f107 [])).1
theorem c107 : f107.body.bind (comp f107.ntmps) = some p107 := by kernel_rfl
def p108 : PC := (⟨_, by conv => lhs; reduce⟩ : Rd (G f108 [])).1
theorem c108 : f108.body.bind (comp f108.ntmps) = some p108 := by kernel_rfl
def p109l0 : PC := (⟨_, by conv => lhs; reduce⟩ : Rd (K f109 0 [])).1
def p109 : PC := (⟨_, by conv => lhs; reduce⟩ : Rd (fun a => G f109 [a])).1 p109l0
theorem c109 : f109.body.bind (comp f109.ntmps) = some p109 := by kernel_rfl
def p110 : PC := (⟨_, by conv => lhs; reduce⟩ : Rd (G f110 [])).1
theorem c110 : f110.body.bind (comp f110.ntmps) = some p110 := by kernel_rfl
def p111 : PC := (⟨_, by conv => lhs; reduce⟩ : Rd (G f111 [])).1
theorem c111 : f111.body.bind (comp f111.ntmps) = some p111 := by kernel_rfl
def p112l0 : PC := (⟨_, by conv => lhs; reduce⟩ : Rd (K f112 0 [])).1
def p112 : PC := (⟨_, by conv => lhs; reduce⟩ : Rd (fun a => G f112 [a])).1 p112l0
theorem c112 : f112.body.bind (comp f112.ntmps) = some p112 := by kernel_rfl
def p113 : PC := (⟨_, by conv => lhs; reduce⟩ : Rd (G f113 [])).1
theorem c113 : f113.body.bind (comp f113.ntmps) = some p113 := by kernel_rfl
def p114 : PC := (⟨_, by conv => lhs; reduce⟩ : Rd (G f114 [])).1
theorem c114 : f114.body.bind (comp f114.ntmps) = some p114 := by kernel_rfl
def p115 : PC := (⟨_, by conv => lhs; reduce⟩ : Rd (G f115 [])).1
theorem c115 : f115.body.bind (comp f115.ntmps) = some p115 := by kernel_rfl
def p116 : PC := (⟨_, by conv => lhs; reduce⟩ : Rd (G f116 [])).1
theorem c116 : f116.body.bind (comp f116.ntmps) = some p116 := by kernel_rfl
def p117l0 : PC := (⟨_, by conv => lhs; reduce⟩ : Rd (K f117 0 [])).1
def p117 : PC := (⟨_, by conv => lhs; reduce⟩ : Rd (fun a => G f117 [a])).1 p117l0
theorem c117 : f117.body.bind (comp f117.ntmps) = some p117 := by kernel_rfl
def p118 : PC := (⟨_, by conv => lhs; reduce⟩ : Rd (G f118 [])).1
theorem c118 : f118.body.bind (comp f118.ntmps) = some p118 := by kernel_rfl
def p119 : PC := (⟨_, by conv => lhs; reduce⟩ : Rd (G f119 [])).1
theorem c119 : f119.body.bind (comp f119.ntmps) = some p119 := by kernel_rfl
def p120 : PC := (⟨_, by conv => lhs; reduce⟩ : Rd (G f120 [])).1
theorem c120 : f120.body.bind (comp f120.ntmps) = some p120 := by kernel_rfl
def p121 : PC := (⟨_, by conv => lhs; reduce⟩ : Rd (G f121 [])).1
theorem c121 : f121.body.bind (comp f121.ntmps) = some p121 := by kernel_rfl
def p122l0 : PC := (⟨_, by conv => lhs; reduce⟩ : Rd (K f122 0 [])).1
def p122 : PC := (⟨_, by conv => lhs; reduce⟩ : Rd (fun a => G f122 [a])).1 p122l0
theorem c122 : f122.body.bind (comp f122.ntmps) = some p122 := by kernel_rfl
def p123 : PC := (⟨_, by conv => lhs; reduce⟩ : Rd (G f123 [])).1
theorem c123 : f123.body.bind (comp f123.ntmps) = some p123 := by kernel_rfl
def p124l0 : PC := (⟨_, by conv => lhs; reduce⟩ : Rd (K f124 0 [])).1
def p124 : PC := (⟨_, by conv => lhs; reduce⟩ : Rd (fun a => G f124 [a])).1 p124l0
theorem c124 : f124.body.bind (comp f124.ntmps) = some p124 := by kernel_rfl
def p125l0 : PC := (⟨_, by conv => lhs; reduce⟩ : Rd (K f125 0 [])).1
def p125 : PC := (⟨_, by conv => lhs; reduce⟩ : Rd (fun a => G f125 [a])).1 p125l0
theorem c125 : f125.body.bind (comp f125.ntmps) = some p125 := by kernel_rfl
def p126l0 : PC := (⟨_, by conv => lhs; reduce⟩ : Rd (K f126 0 [])).1
def p126l1 : PC := (⟨_, by conv => lhs; reduce⟩ : Rd (K f126 1 [])).1
def p126 : PC := (⟨_, by conv => lhs; reduce⟩ : Rd (fun a b => G f126 [a, b])).1 p126l0 p126l1
theorem c126 : f126.body.bind (comp f126.ntmps) = some p126 := by kernel_rfl
def p127 : PC := (⟨_, by conv => lhs; reduce⟩ : Rd (G f127 [])).1
theorem c127 : f127.body.bind (comp f127.ntmps) = some p127 := by kernel_rfl
def p128 : PC := (⟨_, by conv => lhs; reduce⟩ : Rd (G f128 [])).1
theorem c128 : f128.body.bind (comp f128.ntmps) = some p128 := by kernel_rfl
def p129 : PC := (⟨_, by conv => lhs; reduce⟩ : Rd (G f129 [])).1
theorem c129 : f129.body.bind (comp f129.ntmps) = some p129 := by kernel_rfl
def p133l0 : PC := (⟨_, by conv => lhs; reduce⟩ : Rd (K f133 0 [])).1
def p133l1 : PC := (⟨_, by conv => lhs; reduce⟩ : Rd (fun a => K f133 1 [a])).1 p133l0
def p133 : PC := (⟨_, by conv => lhs; reduce⟩ : Rd (fun a => G f133 [a])).1 p133l1
theorem c133 : f133.body.bind (comp f133.ntmps) = some p133 := by kernel_rfl
def p136 : PC := (⟨_, by conv => lhs; reduce⟩ : Rd (G f136 [])).1
theorem c136 : f136.body.bind (comp f136.ntmps) = some p136 := by kernel_rfl
def p137 : PC := (⟨_, by conv => lhs; reduce⟩ : Rd (G f137 [])).1
theorem c137 : f137.body.bind (comp f137.ntmps) = some p137 := by kernel_rfl
def p144 : PC := (⟨_, by conv => lhs; reduce⟩ : Rd (G f144 [])).1
theorem c144 : f144.body.bind (comp f144.ntmps) = some p144 := by kernel_rfl
def p155 : PC := (⟨_, by conv => lhs; reduce⟩ : Rd (G f155 [])).1
theorem c155 : f155.body.bind (comp f155.ntmps) = some p155 := by kernel_rfl
def p156 : PC := (⟨_, by conv => lhs; reduce⟩ : Rd (G f156 [])).1
theorem c156 : f156.body.bind (comp f156.ntmps) = some p156 := by kernel_rfl
def p157l0 : PC := (⟨_, by conv => lhs; reduce⟩ : Rd (K f157 0 [])).1
def p157 : PC := (⟨_, by conv => lhs; reduce⟩ : Rd (fun a => G f157 [a])).1 p157l0
theorem c157 : f157.body.bind (comp f157.ntmps) = some p157 := by kernel_rfl
def p158 : PC := (⟨_, by conv => lhs; reduce⟩ : Rd (G f158 [])).1
theorem c158 : f158.body.bind (comp f158.ntmps) = some p158 := by kernel_rfl
def p159l0 : PC := (⟨_, by conv => lhs; reduce⟩ : Rd (K f159 0 [])).1
def p159 : PC := (⟨_, by conv => lhs; reduce⟩ : Rd (fun a => G f159 [a])).1 p159l0
theorem c159 : f159.body.bind (comp f159.ntmps) = some p159 := by kernel_rfl
def p160l0 : PC := (⟨_, by conv => lhs; reduce⟩ : Rd (K f160 0 [])).1
def p160 : PC := (⟨_, by conv => lhs; reduce⟩ : Rd (fun a => G f160 [a])).1 p160l0
theorem c160 : f160.body.bind (comp f160.ntmps) = some p160 := by kernel_rfl
def p161 : PC := (⟨_, by conv => lhs; reduce⟩ : Rd (G f161 [])).1
theorem c161 : f161.body.bind (comp f161.ntmps) = some p161 := by kernel_rfl
def p162 : PC := (⟨_, by conv => lhs; reduce⟩ : Rd (G f162 [])).1
theorem c162 : f162.body.bind (comp f162.ntmps) = some p162 := by kernel_rfl
def p163l0 : PC := (⟨_, by conv => lhs; reduce⟩ : Rd (K f163 0 [])).1
def p163 : PC := (⟨_, by conv => lhs; reduce⟩ : Rd (fun a => G f163 [a])).1 p163l0
theorem c163 : f163.body.bind (comp f163.ntmps) = some p163 := by kernel_rfl
def p164 : PC := (⟨_, by conv => lhs; reduce⟩ : Rd (G f164 [])).1
theorem c164 : f164.body.bind (comp f164.ntmps) = some p164 := by kernel_rfl
def p165 : PC := (⟨_, by conv => lhs; reduce⟩ : Rd (G f165 [])).1
theorem c165 : f165.body.bind (comp f165.ntmps) = some p165 := by kernel_rfl
def p166 : PC := (⟨_, by conv => lhs; reduce⟩ : Rd (G f166 [])).1
theorem c166 : f166.body.bind (comp f166.ntmps) = some p166 := by kernel_rfl
def p167l0 : PC := (⟨_, by conv => lhs; reduce⟩ : Rd (K f167 0 [])).1
def p167 : PC := (⟨_, by conv => lhs; reduce⟩ : Rd (fun a => G f167 [a])).1 p167l0
theorem c167 : f167.body.bind (comp f167.ntmps) = some p167 := by kernel_rfl
def p168 : PC := (⟨_, by conv => lhs; reduce⟩ : Rd (G f168 [])).1
theorem c168 : f168.body.bind (comp f168.ntmps) = some p168 := by kernel_rfl
def p170l0 : PC := (⟨_, by conv => lhs; reduce⟩ : Rd (K f170 0 [])).1
def p170 : PC := (⟨_, by conv => lhs; reduce⟩ : Rd (fun a => G f170 [a])).1 p170l0
theorem c170 : f170.body.bind (comp f170.ntmps) = some p170 := by kernel_rfl
def p171 : PC := (⟨_, by conv => lhs; reduce⟩ : Rd (G f171 [])).1
theorem c171 : f171.body.bind (comp f171.ntmps) = some p171 := by kernel_rfl
def p173l0 : PC := (⟨_, by conv => lhs; reduce⟩ : Rd (K f173 0 [])).1
def p173 : PC := (⟨_, by conv => lhs; reduce⟩ : Rd (fun a => G f173 [a])).1 p173l0
theorem c173 : f173.body.bind (comp f173.ntmps) = some p173 := by kernel_rfl
def p175l0 : PC := (⟨_, by conv => lhs; reduce⟩ : Rd (K f175 0 [])).1
def p175 : PC := (⟨_, by conv => lhs; reduce⟩ : Rd (fun a => G f175 [a])).1 p175l0
theorem c175 : f175.body.bind (comp f175.ntmps) = some p175 := by kernel_rfl
def p176 : PC := (⟨_, by conv => lhs; reduce⟩ : Rd (G f176 [])).1
theorem c176 : f176.body.bind (comp f176.ntmps) = some p176 := by kernel_rfl
def p177l0 : PC := (⟨_, by conv => lhs; reduce⟩ : Rd (K f177 0 [])).1
def p177 : PC := (⟨_, by conv => lhs; reduce⟩ : Rd (fun a => G f177 [a])).1 p177l0
theorem c177 : f177.body.bind (comp f177.ntmps) = some p177 := by kernel_rfl
def p178l0 : PC := (⟨_, by conv => lhs; reduce⟩ : Rd (K f178 0 [])).1
def p178 : PC := (⟨_, by conv => lhs; reduce⟩ : Rd (fun a => G f178 [a])).1 p178l0
theorem c178 : f178.body.bind (comp f178.ntmps) = some p178 := by kernel_rfl
def p179 : PC := (⟨_, by conv => lhs; reduce⟩ : Rd (G f179 [])).1
theorem c179 : f179.body.bind (comp f179.ntmps) = some p179 := by kernel_rfl
def p180l0 : PC := (⟨_, by conv => lhs; reduce⟩ : Rd (K f180 0 [])).1
def p180 : PC := (⟨_, by conv => lhs; reduce⟩ : Rd (fun a => G f180 [a])).1 p180l0
theorem c180 : f180.body.bind (comp f180.ntmps) = some p180 := by kernel_rfl
def p181 : PC := (⟨_, by conv => lhs; reduce⟩ : Rd (G f181 [])).1
theorem c181 : f181.body.bind (comp f181.ntmps) = some p181 := by kernel_rfl
def p182l0 : PC := (⟨_, by conv => lhs; reduce⟩ : Rd (K f182 0 [])).1
def p182 : PC := (⟨_, by conv => lhs; reduce⟩ : Rd (fun a => G f182 [a])).1 p182l0
theorem c182 : f182.body.bind (comp f182.ntmps) = some p182 := by kernel_rfl
def p183 : PC := (⟨_, by conv => lhs; reduce⟩ : Rd (G f183 [])).1
theorem c183 : f183.body.bind (comp f183.ntmps) = some p183 := by kernel_rfl
def p184 : PC := (⟨_, by conv => lhs; reduce⟩ : Rd (G f184 [])).1
theorem c184 : f184.body.bind (comp f184.ntmps) = some p184 := by kernel_rfl
def p185 : PC := (⟨_, by conv => lhs; reduce⟩ : Rd (G f185 [])).1
theorem c185 : f185.body.bind (comp f185.ntmps) = some p185 := by kernel_rfl
def p186 : PC := (⟨_, by conv => lhs; reduce⟩ : Rd (G f186 [])).1
theorem c186 : f186.body.bind (comp f186.ntmps) = some p186 := by kernel_rfl
def p187l0 : PC := (⟨_, by conv => lhs; reduce⟩ : Rd (K f187 0 [])).1
def p187 : PC := (⟨_, by conv => lhs; reduce⟩ : Rd (fun a => G f187 [a])).1 p187l0
theorem c187 : f187.body.bind (comp f187.ntmps) = some p187 := by kernel_rfl
def p188 : PC := (⟨_, by conv => lhs; reduce⟩ : Rd (G f188 [])).1
theorem c188 : f188.body.bind (comp f188.ntmps) = some p188 := by kernel_rfl
def p189 : PC := (⟨_, by conv => lhs; reduce⟩ : Rd (G f189 [])).1
theorem c189 : f189.body.bind (comp f189.ntmps) = some p189 := by kernel_rfl
def p190 : PC := (⟨_, by conv => lhs; reduce⟩ : Rd (G f190 [])).1
theorem c190 : f190.body.bind (comp f190.ntmps) = some p190 := by kernel_rfl
def p191 : PC := (⟨_, by conv => lhs; reduce⟩ : Rd (G f191 [])).1
theorem c191 : f191.body.bind (comp f191.ntmps) = some p191 := by kernel_rfl
def p192 : PC := (⟨_, by conv => lhs; reduce⟩ : Rd (G f192 [])).1
theorem c192 : f192.body.bind (comp f192.ntmps) = some p192 := by kernel_rfl
def p193 : PC := (⟨_, by conv => lhs; reduce⟩ : Rd (G f193 [])).1
theorem c193 : f193.body.bind (comp f193.ntmps) = some p193 := by kernel_rfl
def p194 : PC := (⟨_, by conv => lhs; reduce⟩ : Rd (G f194 [])).1
theorem c194 : f194.body.bind (comp f194.ntmps) = some p194 := by kernel_rfl
def p195 : PC := (⟨_, by conv => lhs; reduce⟩ : Rd (G f195 [])).1
theorem c195 : f195.body.bind (comp f195.ntmps) = some p195 := by kernel_rfl
def p199 : PC := (⟨_, by conv => lhs; reduce⟩ : Rd (G f199 [])).1
theorem c199 : f199.body.bind (comp f199.ntmps) = some p199 := by kernel_rfl
def p200 : PC := (⟨_, by conv => lhs; reduce⟩ : Rd (G f200 [])).1
theorem c200 : f200.body.bind (comp f200.ntmps) = some p200 := by kernel_rfl
def p203l0 : PC := (⟨_, by conv => lhs; reduce⟩ : Rd (K f203 0 [])).1
def p203l1 : PC := (⟨_, by conv => lhs; reduce⟩ : Rd (fun a => K f203 1 [a])).1 p203l0
def p203 : PC := (⟨_, by conv => lhs; reduce⟩ : Rd (fun a => G f203 [a])).1 p203l1
theorem c203 : f203.body.bind (comp f203.ntmps) = some p203 := by kernel_rfl
def p204 : PC := (⟨_, by conv => lhs; reduce⟩ : Rd (G f204 [])).1
theorem c204 : f204.body.bind (comp f204.ntmps) = some p204 := by kernel_rfl
def p205l0 : PC := (⟨_, by conv => lhs; reduce⟩ : Rd (K f205 0 [])).1
def p205l1 : PC := (⟨_, by conv => lhs; reduce⟩ : Rd (fun a => K f205 1 [a])).1 p205l0
def p205 : PC := (⟨_, by conv => lhs; reduce⟩ : Rd (fun a => G f205 [a])).1 p205l1
theorem c205 : f205.body.bind (comp f205.ntmps) = some p205 := by kernel_rfl
def p219l0 : PC := (⟨_, by conv => lhs; reduce⟩ : Rd (K f219 0 [])).1
def p219 : PC := (⟨_, by conv => lhs; reduce⟩ : Rd (fun a => G f219 [a])).1 p219l0
theorem c219 : f219.body.bind (comp f219.ntmps) = some p219 := by kernel_rfl
def p220 : PC := (⟨_, by conv => lhs; reduce⟩ : Rd (G f220 [])).1
theorem c220 : f220.body.bind (comp f220.ntmps) = some p220 := by kernel_rfl
def p222 : PC := (⟨_, by conv => lhs; reduce⟩ : Rd (G f222 [])).1
theorem c222 : f222.body.bind (comp f222.ntmps) = some p222 := by kernel_rfl
def p223l0 : PC := (⟨_, by conv => lhs; reduce⟩ : Rd (K f223 0 [])).1
def p223l1 : PC := (⟨_, by conv => lhs; reduce⟩ : Rd (fun a => K f223 1 [a])).1 p223l0
def p223 : PC := (⟨_, by conv => lhs; reduce⟩ : Rd (fun a => G f223 [a])).1 p223l1
theorem c223 : f223.body.bind (comp f223.ntmps) = some p223 := by kernel_rfl
def p224l0 : PC := (⟨_, by conv => lhs; reduce⟩ : Rd (K f224 0 [])).1
def p224l1 : PC := (⟨_, by conv => lhs; reduce⟩ : Rd (fun a => K f224 1 [a])).1 p224l0
def p224 : PC := (⟨_, by conv => lhs; reduce⟩ : Rd (fun a => G f224 [a])).1 p224l1
theorem c224 : f224.body.bind (comp f224.ntmps) = some p224 := by kernel_rfl
def p225l0 : PC := (⟨_, by conv => lhs; reduce⟩ : Rd (K f225 0 [])).1
def p225 : PC := (⟨_, by conv => lhs; reduce⟩ : Rd (fun a => G f225 [a])).1 p225l0
theorem c225 : f225.body.bind (comp f225.ntmps) = some p225 := by kernel_rfl
def p235 : PC := (⟨_, by conv => lhs; reduce⟩ : Rd (G f235 [])).1
theorem c235 : f235.body.bind (comp f235.ntmps) = some p235 := by kernel_rfl
def p236l0 : PC := (⟨_, by conv => lhs; reduce⟩ : Rd (K f236 0 [])).1
def p236 : PC := (⟨_, by conv => lhs; reduce⟩ : Rd (fun a => G f236 [a])).1 p236l0
theorem c236 : f236.body.bind (comp f236.ntmps) = some p236 := by kernel_rfl
def p237 : PC := (⟨_, by conv => lhs; reduce⟩ : Rd (G f237 [])).1
theorem c237 : f237.body.bind (comp f237.ntmps) = some p237 := by kernel_rfl
def p238 : PC := (⟨_, by conv => lhs; reduce⟩ : Rd (G f238 [])).1
theorem c238 : f238.body.bind (comp f238.ntmps) = some p238 := by kernel_rfl
def p239 : PC := (⟨_, by conv => lhs; reduce⟩ : Rd (G f239 [])).1
theorem c239 : f239.body.bind (comp f239.ntmps) = some p239 := by kernel_rfl
def p240 : PC := (⟨_, by conv => lhs; reduce⟩ : Rd (G f240 [])).1
theorem c240 : f240.body.bind (comp f240.ntmps) = some p240 := by kernel_rfl
def p241l0 : PC := (⟨_, by conv => lhs; reduce⟩ : Rd (K f241 0 [])).1
def p241 : PC := (⟨_, by conv => lhs; reduce⟩ : Rd (fun a => G f241 [a])).1 p241l0
theorem c241 : f241.body.bind (comp f241.ntmps) = some p241 := by kernel_rfl
def p242 : PC := (⟨_, by conv => lhs; reduce⟩ : Rd (G f242 [])).1
theorem c242 : f242.body.bind (comp f242.ntmps) = some p242 := by kernel_rfl
def p243 : PC := (⟨_, by conv => lhs; reduce⟩ : Rd (G f243 [])).1
theorem c243 : f243.body.bind (comp f243.ntmps) = some p243 := by kernel_rfl
def p244 : PC := (⟨_, by conv => lhs; reduce⟩ : Rd (G f244 [])).1
theorem c244 : f244.body.bind (comp f244.ntmps) = some p244 := by kernel_rfl
def p245l0 : PC := (⟨_, by conv => lhs; reduce⟩ : Rd (K f245 0 [])).1
def p245l1 : PC := (⟨_, by conv => lhs; reduce⟩ : Rd (fun a => K f245 1 [a])).1 p245l0
def p245 : PC := (⟨_, by conv => lhs; reduce⟩ : Rd (fun a => G f245 [a])).1 p245l1
theorem c245 : f245.body.bind (comp f245.ntmps) = some p245 := by kernel_rfl
def p246 : PC := (⟨_, by conv => lhs; reduce⟩ : Rd (G f246 [])).1
theorem c246 : f246.body.bind (comp f246.ntmps) = some p246 := by kernel_rfl
def p254l0 : PC := (⟨_, by conv => lhs; reduce⟩ : Rd (K f254 0 [])).1
def p254 : PC := (⟨_, by conv => lhs; reduce⟩ : Rd (fun a => G f254 [a])).1 p254l0
theorem c254 : f254.body.bind (comp f254.ntmps) = some p254 := by kernel_rfl
def p255l0 : PC := (⟨_, by conv => lhs; reduce⟩ : Rd (K f255 0 [])).1
def p255 : PC := (⟨_, by conv => lhs; reduce⟩ : Rd (fun a => G f255 [a])).1 p255l0
theorem c255 : f255.body.bind (comp f255.ntmps) = some p255 := by kernel_rfl
def p256 : PC := (⟨_, by conv => lhs; reduce⟩ : Rd (G f256 [])).1
theorem c256 : f256.body.bind (comp f256.ntmps) = some p256 := by kernel_rfl
def p257 : PC := (⟨_, by conv => lhs; reduce⟩ : Rd (G f257 [])).1
theorem c257 : f257.body.bind (comp f257.ntmps) = some p257 := by kernel_rfl
def p258l0 : PC := (⟨_, by conv => lhs; reduce⟩ : Rd (K f258 0 [])).1
def p258 : PC := (⟨_, by conv => lhs; reduce⟩ : Rd (fun a => G f258 [a])).1 p258l0
theorem c258 : f258.body.bind (comp f258.ntmps) = some p258 := by kernel_rfl
def p259 : PC := (⟨_, by conv => lhs; reduce⟩ : Rd (G f259 [])).1
theorem c259 : f259.body.bind (comp f259.ntmps) = some p259 := by kernel_rfl
def p260 : PC := (⟨_, by conv => lhs; reduce⟩ : Rd (G f260 [])).1
theorem c260 : f260.body.bind (comp f260.ntmps) = some p260 := by kernel_rfl
def p271l0 : PC := (⟨_, by conv => lhs; reduce⟩ : Rd (K f271 0 [])).1
def p271 : PC := (⟨_, by conv => lhs; reduce⟩ : Rd (fun a => G f271 [a])).1 p271l0
theorem c271 : f271.body.bind (comp f271.ntmps) = some p271 := by kernel_rfl
def p272 : PC := (⟨_, by conv => lhs; reduce⟩ : Rd (G f272 [])).1
theorem c272 : f272.body.bind (comp f272.ntmps) = some p272 := by kernel_rfl
def p276 : PC := (⟨_, by conv => lhs; reduce⟩ : Rd (G f276 [])).1
theorem c276 : f276.body.bind (comp f276.ntmps) = some p276 := by kernel_rfl
def p277 : PC := (⟨_, by conv => lhs; reduce⟩ : Rd (G f277 [])).1
theorem c277 : f277.body.bind (comp f277.ntmps) = some p277 := by kernel_rfl
def p286 : PC := (⟨_, by conv => lhs; reduce⟩ : Rd (G f286 [])).1
theorem c286 : f286.body.bind (comp f286.ntmps) = some p286 := by kernel_rfl
def p287 : PC := (⟨_, by conv => lhs; reduce⟩ : Rd (G f287 [])).1
theorem c287 : f287.body.bind (comp f287.ntmps) = some p287 := by kernel_rfl
def p300 : PC := (⟨_, by conv => lhs; reduce⟩ : Rd (G f300 [])).1
def p301 : PC := (⟨_, by conv => lhs; reduce⟩ : Rd (G f301 [])).1
theorem c301 : f301.body.bind (comp f301.ntmps) = some p301 := by kernel_rfl
def p302 : PC := (⟨_, by conv => lhs; reduce⟩ : Rd (G f302 [])).1
theorem c302 : f302.body.bind (comp f302.ntmps) = some p302 := by kernel_rfl
def p305 : PC := (⟨_, by conv => lhs; reduce⟩ : Rd (G f305 [])).1
theorem c305 : f305.body.bind (comp f305.ntmps) = some p305 := by kernel_rfl
def p306 : PC := (⟨_, by conv => lhs; reduce⟩ : Rd (G f306 [])).1
theorem c306 : f306.body.bind (comp f306.ntmps) = some p306 := by kernel_rfl
def p307l0 : PC := (⟨_, by conv => lhs; reduce⟩ : Rd (K f307 0 [])).1
def p307l1 : PC := (⟨_, by conv => lhs; reduce⟩ : Rd (K f307 1 [])).1
def p307 : PC := (⟨_, by conv => lhs; reduce⟩ : Rd (fun a b => G f307 [a, b])).1 p307l0 p307l1
theorem c307 : f307.body.bind (comp f307.ntmps) = some p307 := by kernel_rfl
def p317 : PC := (⟨_, by conv => lhs; reduce⟩ : Rd (G f317 [])).1
theorem c317 : f317.body.bind (comp f317.ntmps) = some p317 := by kernel_rfl
end Go.Proofs.Tryz
