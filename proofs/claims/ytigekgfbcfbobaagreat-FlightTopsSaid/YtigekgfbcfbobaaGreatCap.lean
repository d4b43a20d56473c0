/- Own lemmas and contracts of functions, used by the last text of this claim for the given statement. Conditions: those that each theorem states. -/
import Derived.Shelf.SlSortCmp.NoneTotal
import Derived.Test.YtigekgfbcfbobaaGreatCag
import Derived.Test.YtigekgfbcfbobaaGreatCah
import Derived.Test.YtigekgfbcfbobaaGreatCaj
import Derived.Test.YtigekgfbcfbobaaGreatCak
import Derived.Test.YtigekgfbcfbobaaGreatCan
import Derived.Test.YtigekgfbcfbobaaGreatCao
import Derived.Test.YtigekgfbcfbobaaGreatProg
namespace Go.Psl
open Go.Shelf Go.RowKit Go.Lib Go.Sort
variable {P : Program} {ρ : Ren} {α : Type} [Inhabited α]
theorem grow_of {W W' : World} (hos : W'.os = W.os) (hta : W'.tape = W.tape) (hou : W'.output = W.output) (hdr : W.drawn <= W'.drawn) (hsz : W.heap.size <= W'.heap.size) (hb : ∀ b, b < W.heap.size -> W'.heap[b]? = W.heap[b]?) :
   ∃ q os', W' = grow (W.drewN q) os' := by
 refine ⟨W'.drawn - W.drawn, W'.heap.extract W.heap.size W'.heap.size, ?_⟩
 obtain ⟨h, t, d, o, u⟩ := W
 obtain ⟨h', t', d', o', u'⟩ := W'
 simp only at hos hta hou hdr hsz hb
 subst hos hta hou
 simp only [grow, World.drewN]
 congr 1
 . apply Array.ext_getElem?
   intro i
   by_cases hi : i < h.size
   . rw [Array.getElem?_append_left hi, hb i hi]
   . rw [Array.getElem?_append_right (by omega), Array.getElem?_extract]
     split
     . congr 1; omega
     . rw [Array.getElem?_eq_none (by omega)]
 . omega
theorem flat_at {enc : α -> List Value} {k : Nat} (h0 : 0 < k) (hk : ∀ x, (enc x).length = k) (l : List α) (j : Nat) (hj : j < l.length * k) : (l.flatMap enc)[j]? = some (flatK enc k l.toArray)[j]! := by
 rw [get_flatK _ _ _ _ (by simpa using hj), List.flatMap_def, flatten_get h0 _ (fun e he => by obtain ⟨x, _, rfl⟩ := List.mem_map.1 he; exact hk x)]
 have h1 : j / k < l.length := by rw [Nat.div_lt_iff_lt_mul h0]; exact hj
 have hm : j % k < k := Nat.mod_lt _ h0
 rw [List.getElem?_map, List.getElem?_eq_getElem h1]
 simp only [Option.map_some, Option.bind_some]
 have e1 : l.toArray[j / k]! = l[j / k] := by rw [getElem!_pos _ _ (by simpa using h1)]; simp
 rw [e1, List.getElem?_eq_getElem (by rw [hk]; exact hm), getElem!_pos _ _ (by rw [hk]; exact hm)]
omit [Inhabited α] in
theorem flat_len {enc : α -> List Value} {k : Nat} (hk : ∀ x, (enc x).length = k) (l : List α) : (l.flatMap enc).length = l.length * k := by
 rw [List.flatMap_def, flatten_len (sz := k) _ (fun e he => by obtain ⟨x, _, rfl⟩ := List.mem_map.1 he; exact hk x), List.length_map]
theorem cV_rel {G : Gh} {W : World} {vs : List Value} (h : ∀ v ∈ vs, flatV v = true) : All2 (R1 G W) (vs.map cV) vs := by
 induction vs with
 | nil => trivial
 | cons v vs ih => exact ⟨RD.lit v (h v (by simp)), ih fun x hx => h x (by simp [hx])⟩
theorem cmpLays_of {g : Nat} {enc : α -> List Value} {k : Nat} {cf : α -> α -> Int} (hflat : ∀ x, ∀ v ∈ enc x, flatV v = true) (hcmp : ∀ x y, Ct P g [.agg ((enc x).map cV), .agg ((enc y).map cV)] (.d (.lit (.int .i64 (cf x y)))) []) (blk off size : Nat) (w : World) : Go.Proofs.CmpLays P g #[] enc k cf blk off size w := by
 intro m os dk _ x y
 refine ((hcmp x y).2 ⟨fun _ => 0, fun _ => 0, fun _ => true, fun _ => true, fun _ => False⟩ _ #[.agg (enc x).toArray, .agg (enc y).toArray] (fun _ h => h.elim) ⟨⟨_, rfl, cV_rel (hflat x)⟩, ⟨_, rfl, cV_rel (hflat y)⟩, trivial⟩ ⟨nofun, fun i _ h => by simp [InH] at h, nofun⟩).mono fun e W' ⟨G', hp⟩ => ?_
 refine ⟨?_, grow_of hp.os hp.tape hp.output hp.drawn hp.size fun b hb => hp.block b hb fun ⟨_, h, _⟩ => by simp [InH] at h⟩
 cases e with
 | returned v => rw [rv_int hp.rv]
 | _ => exact hp.rv.elim
theorem sortFunc_cm (L : Go.Proofs.SlLaysF0.n6 P ρ) (hf : isFn P (ρ.f 6)) (k : Nat) (h0 : 0 < k) (aE : ∀ w, (isAgg (ρ.t 24)).run P w = .ok true w) (zE : ∀ w, (Go.sizeOf (ρ.t 24)).run P w = .ok k w) (enc : α -> List Value) (hk : ∀ x, (enc x).length = k) (hflat : ∀ x, ∀ v ∈ enc x, flatV v = true) (cf : α -> α -> Int) (hO : SWO (Go.Proofs.ltOf cf)) (hT : ∀ x y, (Go.Proofs.ltOf cf) x y = false -> (Go.Proofs.ltOf cf) y x = false -> x = y)
   (g : Nat) (eg : ∀ args w, (callFunc g args).run P w = .ok (.enter g args) w) (hcmp : ∀ x y, Ct P g [.agg ((enc x).map cV), .agg ((enc y).map cV)] (.d (.lit (.int .i64 (cf x y)))) []) (l : List α) (hl0 : 0 < l.length) (hsz : l.length < 4611686018427387904) :
   Cm P (ρ.f 6) [.ls 0 0 l.length k, .d (.fn g [])] (lk [(0, (l.flatMap enc).map cV)]) [0] (.ret (.tup [])) (lk [(0, ((l.mergeSort fun x y => !(Go.Proofs.ltOf cf) y x).flatMap enc).map cV)]) := by
 refine ⟨hf, fun G W xs hGW hargs hpre => ?_⟩
 obtain ⟨v1, v2, rfl⟩ : ∃ v1 v2, xs = #[v1, v2] := by
   have := hargs.length
   obtain ⟨xs⟩ := xs
   match xs, this with
   | [a, b], _ => exact ⟨a, b, rfl⟩
   | [], h => simp at h
   | [_], h => simp at h
   | _ :: _ :: _ :: _, h => simp at h
 obtain ⟨h1, h2, _⟩ := hargs
 obtain ⟨hIn, hph⟩ := hpre.st 0 (by simp)
 obtain ⟨hml, ⟨_, h, _⟩ | ⟨hphl, o, cap, rfl, hcap, ho⟩⟩ := h1
 . omega
 obtain ⟨rfl, hbs0⟩ := ho (by omega)
 obtain ⟨cv, rfl, hcv⟩ : ∃ cv, v2 = .func (.func g) #[] cv /\ cv.size = 0 := by
   cases h2 with
   | fn _ _ cv hl _ => exact ⟨cv, rfl, hl⟩
 obtain rfl : cv = #[] := Array.eq_empty_of_size_eq_zero hcv
 have hHB := hpre.hb 0 _ rfl
 obtain ⟨hnim, c, T, hb, hbs, hcl, hcr, hca⟩ := hHB.read hphl
 have hblk : G.β 0 < W.heap.size := (Array.getElem?_eq_some_iff.1 hb).1
 have hfl := flat_len hk l
 rw [List.length_map, hfl] at hcl hcr
 have hcell : ∀ j, j < l.length * k -> c[j]? = some (flatK enc k l.toArray)[j]! := fun j hj => by
   have h3 := flat_at h0 hk l j hj
   have h4 : ((l.flatMap enc).map cV)[j]? = some (cV (flatK enc k l.toArray)[j]!) := by rw [List.getElem?_map, h3]; rfl
   obtain ⟨x, hx, hr⟩ := hcr.get h4
   rw [List.getElem?_take, if_pos hj, Array.getElem?_toList] at hx
   rw [hx, rv_lit hr.r2.rv]
 have hH : HoldsK enc k W (G.β 0) 0 l.toArray := fun j hj => by
   have hj' : j < l.length * k := by simpa using hj
   refine ⟨?_, ?_⟩
   . unfold World.cell?
     simp only [Nat.zero_add, hb, Option.isSome_none, Bool.false_eq_true, if_false]
     exact hcell j hj'
   . unfold World.frozen?
     simp [hb]
 have h1c : ∀ x, ∀ v ∈ enc x, v.oneCell' = true := fun x v hv => RD.oneCell (Im := fun _ => True) (W := W) (RD.lit v (hflat x v hv))
 have key := Go.Proofs.AnyQ.slices_SortFunc_total L k aE zE enc hk h1c cf hO g #[] (G.β 0) 0 cap l.toArray W eg (cmpLays_of hflat hcmp _ _ _ _) hH hblk (by simpa using hsz) hT
 have hperm : (l.mergeSort fun x y => !(Go.Proofs.ltOf cf) y x).length = l.length := List.length_mergeSort _
 generalize (l.mergeSort fun x y => !(Go.Proofs.ltOf cf) y x) = l' at key hperm ⊢
 have key' : Calls P (ρ.f 6) #[.slice (some ⟨G.β 0, 0, none⟩) l.length cap, .func (.func g) #[] #[]] W fun e w' => e = .returned (.tuple #[]) /\ ∃ n os, w' = Go.Proofs.sortWorldK enc k W (G.β 0) 0 n l'.toArray os := by simpa using key
 refine key'.mono fun e W' ⟨he, n, os, hW'⟩ => ?_
 subst he
 have hlent : ∀ b, lentB G (lk [(0, (l.flatMap enc).map cV)]) b -> b = G.β 0 := fun b ⟨i, hi, _, hbi⟩ => by
   have : i = 0 := by simp only [InH, lk] at hi; split at hi; assumption; cases hi
   rw [<- hbi, this]
 have hlent0 : lentB G (lk [(0, (l.flatMap enc).map cV)]) (G.β 0) := ⟨0, hIn, hph, rfl⟩
 have hheap : ∀ b, b < W.heap.size -> W'.heap[b]? = if b = G.β 0 then some (.cells (putCells id 0 (flatK enc k l'.toArray) c) T (0, 0)) else W.heap[b]? := fun b hlt => by
   rw [hW']
   show ((putRow id (Sort.ahead W n) (G.β 0) 0 (flatK enc k l'.toArray)).heap ++ os)[b]? = _
   rw [Array.getElem?_append_left (by simpa using hlt)]
   show (W.heap.modify (G.β 0) _)[b]? = _
   rw [Array.getElem?_modify]
   by_cases e : b = G.β 0
   . subst e
     simp [hb, onCells]
   . rw [if_neg (fun h => e h.symm), if_neg e]
 have hsz' : W.heap.size <= W'.heap.size := by rw [hW']; exact Go.Proofs.size_sortWorldK_c enc k W (G.β 0) 0 n l'.toArray os
 refine ⟨G, ⟨by rw [hW']; rfl, by rw [hW']; rfl, by rw [hW']; rfl, by rw [hW']; exact Nat.le_add_right _ _, hsz', fun b hlt hn => ?_, fun b hb => ⟨Nat.lt_of_lt_of_le (hGW b hb) hsz', .inl hb⟩, fun _ h => h, ⟨#[], rfl, trivial⟩, fun _ h => (by cases h), fun i cs hi => ?_, fun i j hi hj _ _ _ => ?_, fun i hi _ => ⟨rfl, rfl, (hpre.st i hi).2, rfl⟩⟩⟩
 . rw [hheap b hlt, if_neg (fun e : b = G.β 0 => hn (by rw [e]; exact hlent0))]
 . have hi0 : i = 0 /\ cs = (l'.flatMap enc).map cV := by
     simp only [lk] at hi
     split at hi
     . rename_i e; cases hi; exact ⟨e, rfl⟩
     . cases hi
   obtain ⟨rfl, rfl⟩ := hi0
   have hfl' := flat_len hk l'
   refine ⟨.inr (.inl ⟨hphl.1, hphl.2, hnim, _, T, by rw [hheap _ hblk, if_pos rfl], by simp [putCells, hbs], by simp [putCells, hfl', hperm]; exact hcl, ?_, ?_⟩), fun _ => .inr hlent0, fun x hx => ?_⟩
   . refine All2.of_get ?_ fun j x y hx hy => ?_
     . simp [putCells, hfl', hperm]; omega
     . have hj : j < l'.length * k := by
         have := (List.getElem?_eq_some_iff.1 hx).1
         simpa [hfl'] using this
       rw [List.getElem?_map, flat_at h0 hk l' j hj] at hx
       cases hx
       rw [List.getElem?_take, List.length_map, hfl', if_pos hj, Array.getElem?_toList] at hy
       have hjc : j < c.size := by rw [hperm] at hj; omega
       simp only [putCells, Array.getElem?_mapIdx, Array.getElem?_eq_getElem hjc, Option.map_some, Nat.zero_le, true_and, Nat.zero_add, size_flatK, List.size_toArray, hj, if_true, Option.some.injEq, Nat.sub_zero, id] at hy
       subst hy
       have hm := flat_at h0 hk l' j hj
       have hmem := List.mem_of_getElem? hm
       obtain ⟨a, _, ha⟩ := List.mem_flatMap.1 hmem
       exact RD.lit _ (hflat a _ ha)
   . simp only [List.all_map, List.all_eq_true]
     intro v _; rfl
   . obtain ⟨v, _, rfl⟩ := List.mem_map.1 hx
     trivial
 . have e1 : i = 0 := by simp only [InH, lk] at hi; split at hi; assumption; cases hi
   have e2 : j = 0 := by simp only [InH, lk] at hj; split at hj; assumption; cases hj
   rw [e1, e2]
end Go.Psl
namespace Go.Proofs
def Tryz.sortL_ren : Go.Shelf.Ren := ⟨fun | 6 => 221 | 15 => 270 | 14 => 269 | 28 => 300 | 29 => 301 | 20 => 292 | 21 => 293 | 22 => 294 | 23 => 295 | 24 => 296 | 25 => 297 | 26 => 298 | 27 => 299 | 46 => 312 | 47 => 313 | 48 => 314 | 49 => 315 | 50 => 316 | 57 => 318 | n => n, fun | 22 => 55 | 24 => 122 | 25 => 275 | 3 => 3 | 39 => 222 | 0 => 0 | 53 => 339 | 55 => 341 | 4 => 4 | 46 => 333 | 45 => 332 | 50 => 266 | 5 => 5 | 9 => 9 | 66 => 348 | 70 => 352 | 76 => 356 | 77 => 50 | n => n, fun | n => n⟩
theorem Tryz.sortL : Go.Proofs.SlLaysF0.n6 Tryz.prog Tryz.sortL_ren := {
 mixed := by kernel_rfl,
 f6 := ⟨Tryz.f221.name, by decide, Tryz.func221.trans (congrArg some (by kernel_rfl))⟩,
 f14 := ⟨Tryz.f269.name, by decide, Tryz.func269.trans (congrArg some (by kernel_rfl))⟩,
 f15 := Tryz.func270.trans (congrArg some (by kernel_rfl)),
 f20 := ⟨Tryz.f292.name, by decide, Tryz.func292.trans (congrArg some (by kernel_rfl))⟩,
 f21 := ⟨Tryz.f293.name, by decide, Tryz.func293.trans (congrArg some (by kernel_rfl))⟩,
 f22 := ⟨Tryz.f294.name, by decide, Tryz.func294.trans (congrArg some (by kernel_rfl))⟩,
 f23 := ⟨Tryz.f295.name, by decide, Tryz.func295.trans (congrArg some (by kernel_rfl))⟩,
 f24 := ⟨Tryz.f296.name, by decide, Tryz.func296.trans (congrArg some (by kernel_rfl))⟩,
 f25 := ⟨Tryz.f297.name, by decide, Tryz.func297.trans (congrArg some (by kernel_rfl))⟩,
 f26 := ⟨Tryz.f298.name, by decide, Tryz.func298.trans (congrArg some (by kernel_rfl))⟩,
 f27 := ⟨Tryz.f299.name, by decide, Tryz.func299.trans (congrArg some (by kernel_rfl))⟩,
 f28 := Tryz.func300.trans (congrArg some (by kernel_rfl)),
 f29 := Tryz.func301.trans (congrArg some (by kernel_rfl)),
 f46 := ⟨Tryz.f312.name, by decide, Tryz.func312.trans (congrArg some (by kernel_rfl))⟩,
 f47 := Tryz.func313.trans (congrArg some (by kernel_rfl)),
 f48 := Tryz.func314.trans (congrArg some (by kernel_rfl)),
 f49 := ⟨Tryz.f315.name, by decide, Tryz.func315.trans (congrArg some (by kernel_rfl))⟩,
 f50 := ⟨Tryz.f316.name, by decide, Tryz.func316.trans (congrArg some (by kernel_rfl))⟩,
 f57 := ⟨Tryz.f318.name, by decide, Tryz.func318.trans (congrArg some (by kernel_rfl))⟩,
 t0 := Tryz.underlying0,
 a0 := Tryz.isAgg0,
 z0 := Tryz.sizeOf0,
 v0 := Tryz.zeroValue0,
 t3 := Tryz.underlying3,
 a3 := Tryz.isAgg3,
 z3 := Tryz.sizeOf3,
 v3 := Tryz.zeroValue3,
 t4 := Tryz.underlying4,
 a4 := Tryz.isAgg4,
 z4 := Tryz.sizeOf4,
 v4 := Tryz.zeroValue4,
 t5 := Tryz.underlying5,
 a5 := Tryz.isAgg5,
 z5 := Tryz.sizeOf5,
 v5 := Tryz.zeroValue5,
 t9 := Tryz.underlying9,
 a9 := Tryz.isAgg9,
 z9 := Tryz.sizeOf9,
 v9 := Tryz.zeroValue9,
 t22 := Tryz.underlying55,
 a22 := Tryz.isAgg55,
 z22 := Tryz.sizeOf55,
 v22 := Tryz.zeroValue55,
 t25 := Tryz.underlying275,
 a25 := Tryz.isAgg275,
 z25 := Tryz.sizeOf275,
 v25 := Tryz.zeroValue275,
 t39 := Tryz.underlying222,
 a39 := Tryz.isAgg222,
 z39 := Tryz.sizeOf222,
 v39 := Tryz.zeroValue222,
 t45 := Tryz.underlying332,
 a45 := Tryz.isAgg332,
 z45 := Tryz.sizeOf332,
 v45 := Tryz.zeroValue332,
 t46 := Tryz.underlying333,
 a46 := Tryz.isAgg333,
 z46 := Tryz.sizeOf333,
 v46 := Tryz.zeroValue333,
 t50 := Tryz.underlying266,
 a50 := Tryz.isAgg266,
 z50 := Tryz.sizeOf266,
 v50 := Tryz.zeroValue266,
 t53 := Tryz.underlying339,
 a53 := Tryz.isAgg339,
 z53 := Tryz.sizeOf339,
 v53 := Tryz.zeroValue339,
 t55 := Tryz.underlying341,
 a55 := Tryz.isAgg341,
 z55 := Tryz.sizeOf341,
 v55 := Tryz.zeroValue341,
 t66 := Tryz.underlying348,
 a66 := Tryz.isAgg348,
 z66 := Tryz.sizeOf348,
 v66 := Tryz.zeroValue348,
 t70 := Tryz.underlying352,
 a70 := Tryz.isAgg352,
 z70 := Tryz.sizeOf352,
 v70 := Tryz.zeroValue352,
 t76 := Tryz.underlying356,
 a76 := Tryz.isAgg356,
 z76 := Tryz.sizeOf356,
 v76 := Tryz.zeroValue356,
 t77 := Tryz.underlying50,
 a77 := Tryz.isAgg50,
 z77 := Tryz.sizeOf50,
 v77 := Tryz.zeroValue50 }
end Go.Proofs
namespace Go.Proofs.Tryz
open Go.Psl
def encC (p : Int × Int) : List Value := [.int .i64 p.1, .int .i64 p.2]
theorem enc_cells (l : List (Int × Int)) : (l.flatMap encC).map cV = cellsI l := by
 induction l with
 | nil => rfl
 | cons a l ih =>
   rw [List.flatMap_cons, List.map_append, ih]
   rfl
theorem ltOf_order (x y : Int × Int) : Go.Proofs.ltOf orderS x y = true ↔ Go.Geo.lt x y := by
 unfold Go.Proofs.ltOf; rw [decide_eq_true_eq, order_lt]
theorem ltOf_order' (x y : Int × Int) : Go.Proofs.ltOf orderS x y = false ↔ ¬ Go.Geo.lt x y := by
 rw [<- ltOf_order]; simp
theorem swo_order : Go.Sort.SWO (Go.Proofs.ltOf orderS) where
 irrefl x := by rw [ltOf_order']; exact Go.Geo.lt_irr x
 trans x y z h1 h2 := by rw [ltOf_order] at *; exact Go.Geo.lt_trans h1 h2
 ntrans x y z h1 h2 := by rw [ltOf_order'] at *; unfold Go.Geo.lt at *; omega
theorem sortOk : SortOk := fun l h1 h2 => by
 have hcmp : ∀ x y : Int × Int, Ct prog 222 [.agg ((encC x).map cV), .agg ((encC y).map cV)] (.d (.lit (.int .i64 (orderS x y)))) [] := fun x y => fn222 x y
 have h := sortFunc_cm Tryz.sortL ⟨_, func221, by kernel_rfl, by decide⟩ 2 (by omega) Tryz.isAgg122 Tryz.sizeOf122 encC (fun _ => rfl) (fun x v hv => by simp [encC] at hv; rcases hv with rfl | rfl <;> rfl) orderS swo_order
   (fun x y a b => by
     rw [ltOf_order'] at a b
     rcases Go.Geo.lt_tri x y with h | h | h
     . exact absurd h a
     . exact h
     . exact absurd h b) 222 (Go.Proofs.enters_of func222 (by kernel_rfl) rfl) hcmp l h1 (by omega)
 rw [enc_cells, enc_cells] at h
 exact h
def inS (s : Int × Int) (n : Int) : Bool := decide (s.1 <= n) && decide (n <= s.2)
end Go.Proofs.Tryz
namespace Go.Proofs.YtigekgfbcfbobaaGreat
open Go.Joins Go.ChangeShapes Go.WideShapes Go.ChangeAt Go.RowKit Go.Psl
set_option maxRecDepth 100000
theorem word_arg {H : Type} {enc : TypeId × Value -> H} {W : World} {base : Nat} {v : Value} {d : DataW H} {p : List MemPlace} (hval : Value.okWide Tryz.prog W .any base 125 v) (h : DataW.Trod enc Tryz.prog W 0 (fun _ => true) true 125 v d p) : ∃ a : {i : Int // 0 <= i /\ i < 65536}, R2 (GW W) W (.d (.lit (.int .u16 a.1))) v := by
 obtain ⟨a, rfl, _, _, ha⟩ := open_int Tryz.underlying125 hval h
 refine ⟨⟨a, ?_⟩, .lit _ rfl⟩
 have h1 : IntKind.u16.min = 0 := rfl
 have h2 : IntKind.u16.max = 65535 := rfl
 simp [Lit.wf] at ha
 omega
end Go.Proofs.YtigekgfbcfbobaaGreat
namespace Go.Proofs.Tryz
open Go.Psl
open Go.Air
def fitsB (k : Sky) (s : Shp) (h : Int) : Bool := decide ((atA k.s s.hl h).2 = 0) && allFit s (atA k.s s.hl h).1
structure TopI (k : Sky) (s : Shp) (h : Int) : Prop where
 lo : s.hh <= h
 hi : h <= lastH k.s
 fit : ∀ x, s.hh <= x -> x <= h -> fitsB k s x = true
 next : h = lastH k.s \/ fitsB k s (h + 1) = false
theorem top_law {k : Sky} {s : Shp} (ha : askS k s = 0) (he : (atA k.s s.hl s.hh).2 = 0) :
   ((topA k s).2 = 6 /\ (topA k s).1 = 0 /\ fitsB k s s.hh = false) \/ ((topA k s).2 = 0 /\ TopI k s (topA k s).1) := by
 obtain ⟨k1, k2⟩ := ask_zero ha
 have ho := at_ok he
 have hlen := ho.ok.len
 obtain ⟨z, hz⟩ : ∃ z, k.s[k.s.length - 1]? = some z := ⟨_, List.getElem?_eq_getElem (by omega)⟩
 have hzh := ho.inb.2 z hz
 have elast : lastH k.s = z.h := by unfold lastH; rw [hz]
 obtain ⟨n, hn⟩ : ∃ n : Nat, (z.h - s.hh + 1).toNat = n := ⟨_, rfl⟩
 have hnI : (n : Int) = z.h - s.hh + 1 := by omega
 obtain ⟨r, hr⟩ : ∃ r, topR k s n = r := ⟨_, rfl⟩
 have e : topA k s = if r = 0 then (0, 6) else (s.hh + r - 1, 0) := by unfold topA; rw [if_pos ha, if_pos he, elast, hn, hr]
 have hinn : ∀ i : Nat, i < n -> AtOk k.s s.hl (s.hh + i) := fun i hi => at_make ho.ok ho.fit (by have := ho.ab; omega) ho.ina ⟨fun w hw => by have := ho.inb.1 w hw; omega, fun w hw => by rw [hz] at hw; cases hw; omega⟩
 have hle : r <= n := by rw [<- hr]; exact fstP_le _ _
 have hfB : ∀ i : Nat, i < n -> fitsB k s (s.hh + i) = allFit s (atA k.s s.hl (s.hh + i)).1 := fun i hi => by
   have : (atA k.s s.hl (s.hh + i)).2 = 0 := by rw [(hinn i hi).eq]
   unfold fitsB; rw [decide_eq_true this, Bool.true_and]
 have hnot : r < n -> fitsB k s (s.hh + r) = false := fun hlt => by
   rw [hfB r hlt]
   have := fstP_at (n := n) (p := fun i => !allFit s (atA k.s s.hl (s.hh + i)).1) (by unfold topR at hr; rw [hr]; omega)
   unfold topR at hr
   rw [hr] at this
   simpa using this
 have hyes : ∀ i, i < r -> fitsB k s (s.hh + i) = true := fun i hi => by
   rw [hfB i (by omega)]
   have := fstP_in (n := n) (p := fun i => !allFit s (atA k.s s.hl (s.hh + i)).1) (i := i) (by unfold topR at hr; rw [hr]; exact hi)
   simpa using this
 rw [e]
 by_cases hr0 : r = 0
 . rw [if_pos hr0]
   refine .inl ⟨rfl, rfl, ?_⟩
   have := hnot (by omega)
   rw [hr0] at this
   simpa using this
 . rw [if_neg hr0]
   refine .inr ⟨rfl, by simp only; omega, by rw [elast]; simp only; omega, fun x h1 h2 => ?_, ?_⟩
   . simp only at h2
     have := hyes (x - s.hh).toNat (by omega)
     rw [show s.hh + ((x - s.hh).toNat : Int) = x by omega] at this
     exact this
   . rw [elast]
     by_cases hlt : r < n
     . right
       have := hnot hlt
       rw [show s.hh + (r : Int) - 1 + 1 = s.hh + r by omega]
       exact this
     . left; simp only; omega
theorem top_err {k : Sky} {s : Shp} (h : ¬ (askS k s = 0 /\ (atA k.s s.hl s.hh).2 = 0)) : (topA k s).1 = 0 /\ ¬ (topA k s).2 = 0 /\ ((topA k s).2 = askS k s \/ (topA k s).2 = (atA k.s s.hl s.hh).2) := by
 unfold topA
 by_cases ha : askS k s = 0
 . rw [if_pos ha]
   by_cases he : (atA k.s s.hl s.hh).2 = 0
   . exact absurd ⟨ha, he⟩ h
   . rw [if_neg he]; exact ⟨rfl, he, .inr rfl⟩
 . rw [if_neg ha]; exact ⟨rfl, ha, .inl rfl⟩
theorem at_err {k : Sky} {s : Shp} (h : askS k s = 0) {a b : Int} : (atA k.s a b).2 = 0 \/ (atA k.s a b).2 = 2 \/ (atA k.s a b).2 = 10 := by
 obtain ⟨k1, _⟩ := ask_zero h
 unfold okSky at k1
 simp only [Bool.and_eq_true, decide_eq_true_eq] at k1
 have hs : okSnd k.s = true := by
   have := k1.1
   unfold setS at this
   split at this
   . assumption
   . simp at this
 unfold atA
 rw [if_pos hs]
 split
 . split
   . split
     . rw [if_pos k1.1]; exact .inl rfl
     . exact .inr (.inl rfl)
   . exact .inr (.inl rfl)
 . exact .inr (.inr rfl)
theorem top_err6 {k : Sky} {s : Shp} (h : ¬ (askS k s = 0 /\ (atA k.s s.hl s.hh).2 = 0)) : ¬ (topA k s).2 = 6 := by
 obtain ⟨h1, h2, h3⟩ := top_err h
 by_cases ha : askS k s = 0
 . have := at_err ha (a := s.hl) (b := s.hh)
   rcases h3 with h3 | h3 <;> omega
 . rcases h3 with h3 | h3
   . rw [h3]
     unfold askS
     split
     . split <;> simp
     . simp
   . unfold topA at h2 h3 ⊢
     rw [if_neg ha] at h2 h3 ⊢
     unfold askS
     simp only
     split
     . split <;> simp
     . simp
set_option maxRecDepth 50000
set_option maxHeartbeats 8000000
theorem fn61 (k : Sky) (s : Shp) (h : Int) (h1 : k.s.length <= 1000000) (hs : okShp s = true) : Ct prog 61 [vi h, .d (.ref [levsD k.s, galsD k.w]), .d (.ref (shpR s))] (vb (fitsB k s h)) [] := by
 have sp := fn51 s.hl h
 have cA := fn56 k.s s.hl h h1
 have sB := okShp_B hs
 unfold fitsB
 unfold atV at cA
 by_cases he : (atA k.s s.hl h).2 = 0
 . have hA := at_air (at_ok he)
   rw [he] at cA
   rw [decide_eq_true he, Bool.true_and]
   generalize (atA k.s s.hl h).1 = A at *
   obtain ⟨R, hR⟩ : ∃ R, allFit s A = R := ⟨_, rfl⟩
   rw [hR]
   refine CB func61 c61 (by simp [ntmps61]) fun E hE => ?_
   simp [p61]
   refine pw_drawW [(12, 12582912)] (by kernel_rfl) ?_
   simp [inC, Nat.testBit]
   refine CLa (sp) ?_
   simp [inC, Nat.testBit]
   refine CLa (cA) ?_
   simp [splice, inC, Nat.testBit]
   refine pw_loop (α := Nat) (fun i => ⟨slots [(5, .lp 0 0), (26, .d (cellsD s.gas.cs)), (27, vi s.gas.cs.length), (28, vi i)], lk [(0, [vi A.pl, vi A.ph, vi A.tl, vi A.th])], 1⟩) (fun i => i <= s.gas.cs.length /\ ∀ j c, j < i -> s.gas.cs[j]? = some c -> fitV c A = 1) (fun i => s.gas.cs.length - i) 0 ?_ ?_ ?_
   . exact ⟨by omega, fun j c h => absurd h (by omega)⟩
   . refine Weak.mk hE (lk [(0, 12582912)]) _ _ _ ?_ ?_ ?_ ?_ ?_ <;> simp
   . rintro i ⟨hi, hall⟩
     by_cases hic : i < s.gas.cs.length
     . obtain ⟨c, hc⟩ : ∃ c, s.gas.cs[i]? = some c := ⟨_, List.getElem?_eq_getElem hic⟩
       have hiI : (i : Int) < s.gas.cs.length := by omega
       have hn := sB.n
       have hz : IntKind.wrap .i64 ((i : Int) + 1) = ((i + 1 : Nat) : Int) := by rw [wrap64 (by omega) (by omega)]; omega
       have cF := fn58 c A (sB.c c (List.mem_of_getElem? hc)) hA
       by_cases hf : fitV c A = 1
       . rw [hf] at cF
         simp [p61l0, hiI, hc, splice]
         refine CLa (cF) ?_
         simp [hz]
         refine ⟨i + 1, ⟨by omega, fun j c' hj hc' => ?_⟩, by omega, ?_⟩
         . by_cases e : j = i
           . subst e; rw [hc] at hc'; cases hc'; exact hf
           . exact hall j c' (by omega) hc'
         . refine Weak.mk hE (lk [(0, 0)]) _ _ _ ?_ ?_ ?_ ?_ ?_ <;> simp
       . have e : R = false := by
           rw [<- hR]; unfold allFit
           rw [List.all_eq_false]
           exact ⟨c, List.mem_of_getElem? hc, by simpa using hf⟩
         subst e
         generalize fitV c A = fv at *
         simp [p61l0, hiI, hc, splice]
         refine CLa (cF) ?_
         simp [hf]
         refine RetOk.by (fun _ => none) ?_
         simp [results61]
     . have hiI : ¬ (i : Int) < s.gas.cs.length := by omega
       have e : R = true := by
         rw [<- hR]; unfold allFit
         rw [List.all_eq_true]
         intro c hc
         obtain ⟨j, hj⟩ := List.getElem?_of_mem hc
         have := (List.getElem?_eq_some_iff.1 hj).1
         simpa using hall j c (by omega) hj
       subst e
       simp [p61l0, hiI]
       refine RetOk.by (fun _ => none) ?_
       simp [results61]
 . rw [decide_eq_false he, Bool.false_and]
   generalize (atA k.s s.hl h).2 = er at *
   generalize (atA k.s s.hl h).1 = A at *
   refine CB func61 c61 (by simp [ntmps61]) fun E hE => ?_
   simp [p61]
   refine pw_drawW [(12, 12582912)] (by kernel_rfl) ?_
   simp [inC, Nat.testBit]
   refine CLa (sp) ?_
   simp [inC, Nat.testBit]
   refine CLa (cA) ?_
   simp [splice, inC, Nat.testBit, he]
   refine RetOk.by (fun _ => none) ?_
   simp [results61]
theorem fn12 (hS : SortOk) (k : Sky) (s : Shp) (n : Int) (hn : 0 <= n /\ n < 65536) : Ct prog 12 [skyV k, shpV s (.d (cellsD s.gas.cs)), .d (.lit (.int .u16 n))] (vb true) [] := by
 have d0 := fn48 hS
 have d1 := fn18 k
 have d2 := fn19 s
 cases hg : (decide (24 < k.s.length) || decide (24 < k.w.length))
 case true =>
   rw [hg] at d1
   refine CB func12 c12 (by simp [ntmps12]) fun E hE => ?_
   simp [p12]
   refine CLa (d0) ?_
   simp
   refine CLa (d1) ?_
   simp
   refine RetOk.by (fun _ => none) ?_
   simp [results12]
 rw [hg] at d1
 simp only [Bool.or_eq_false_iff, decide_eq_false_iff_not] at hg
 cases hs : decide (20 < s.gas.cs.length)
 case true =>
   rw [hs] at d2
   refine CB func12 c12 (by simp [ntmps12]) fun E hE => ?_
   simp [p12]
   refine CLa (d0) ?_
   simp
   refine CLa (d1) ?_
   simp
   refine CLa (d2) ?_
   simp
   refine RetOk.by (fun _ => none) ?_
   simp [results12]
 rw [hs] at d2
 simp only [decide_eq_false_iff_not] at hs
 have d3 := fn25 k s (by omega) (by omega) (by omega)
 by_cases hok : askS k s = 0 /\ (atA k.s s.hl s.hh).2 = 0
 . obtain ⟨k1, k2⟩ := ask_zero hok.1
   have hlen := (sky_len k1).len
   have cl := fun h => fn61 k s h (by omega) k2
   have sB := okShp_B k2
   have hh := sB.h
   have hl0 : ¬ k.s = [] := by intro e; rw [e] at hlen; simp at hlen
   rcases top_law hok.1 hok.2 with ⟨q1, q2, q3⟩ | ⟨q1, q2⟩
   . rw [q1, q2] at d3
     have c1 := cl s.hh
     rw [q3] at c1
     refine CB func12 c12 (by simp [ntmps12]) fun E hE => ?_
     simp [p12]
     refine CLa (d0) ?_
     simp
     refine CLa (d1) ?_
     simp
     refine CLa (d2) ?_
     simp
     refine CLa (d3) ?_
     simp
     simp [hl0]
     refine CLa (c1) ?_
     simp
     refine RetOk.by (fun _ => none) ?_
     simp [results12]
   . rw [q1] at d3
     generalize (topA k s).1 = h at *
     obtain ⟨p1, p2, p3, p4⟩ := q2
     obtain ⟨z, hz⟩ : ∃ z, k.s[k.s.length - 1]? = some z := ⟨_, List.getElem?_eq_getElem (by omega)⟩
     have elast : lastH k.s = z.h := by unfold lastH; rw [hz]
     rw [elast] at p2 p4
     have hzb := (sky_len k1).at' z (List.mem_of_getElem? hz)
     obtain ⟨m, hm⟩ : ∃ m : Nat, m = k.s.length - 1 := ⟨_, rfl⟩
     have hz' : k.s[m]? = some z := by rw [hm]; exact hz
     have hw : IntKind.wrap .i64 ((k.s.length : Int) - 1) = (m : Int) := by rw [wrap64 (by omega) (by omega)]; omega
     have hI : (m : Int) < k.s.length := by omega
     have b1 : ¬ h < s.hh := by omega
     have b2 : ¬ z.h < h := by omega
     have w0 : IntKind.wrap .i64 n = n := wrap64 (by omega) (by omega)
     have w1 : IntKind.wrap .i64 (h - s.hh) = h - s.hh := wrap64 (by omega) (by omega)
     have w2 : IntKind.wrap .i64 (h - s.hh + 1) = h - s.hh + 1 := wrap64 (by omega) (by omega)
     have r1 : n.tmod (h - s.hh + 1) = n % (h - s.hh + 1) := Int.tmod_eq_emod_of_nonneg hn.1
     have r2 := Int.emod_nonneg n (show h - s.hh + 1 ≠ 0 by omega)
     have r3 := Int.emod_lt_of_pos n (show 0 < h - s.hh + 1 by omega)
     obtain ⟨X, hX⟩ : ∃ X, n % (h - s.hh + 1) = X := ⟨_, rfl⟩
     rw [hX] at r1 r2 r3
     have w3 : IntKind.wrap .i64 X = X := wrap64 (by omega) (by omega)
     have w4 : IntKind.wrap .i64 (s.hh + X) = s.hh + X := wrap64 (by omega) (by omega)
     have w5 : IntKind.wrap .i64 (h + 1) = h + 1 := wrap64 (by omega) (by omega)
     have nz : ¬ h - s.hh + 1 = 0 := by omega
     have c1 := cl h
     have c2 := cl (s.hh + X)
     have c3 := cl (h + 1)
     rw [p3 h (by omega) (by omega)] at c1
     rw [p3 (s.hh + X) (by omega) (by omega)] at c2
     by_cases hlast : h = z.h
     . refine CB func12 c12 (by simp [ntmps12]) fun E hE => ?_
       simp [p12]
       refine CLa (d0) ?_
       simp
       refine CLa (d1) ?_
       simp
       refine CLa (d2) ?_
       simp
       refine CLa (d3) ?_
       simp
       simp [hl0, hw, hz', b1, b2, inC, Nat.testBit]
       refine CLa (c1) ?_
       simp [inC, Nat.testBit, w0, w1, w2, r1, w4, nz]
       refine CLa (c2) ?_
       simp [hlast]
       refine RetOk.by (fun _ => none) ?_
       simp [results12]
     . have p4' : fitsB k s (h + 1) = false := by rcases p4 with p4 | p4; exact absurd p4 hlast; exact p4
       rw [p4'] at c3
       refine CB func12 c12 (by simp [ntmps12]) fun E hE => ?_
       simp [p12]
       refine CLa (d0) ?_
       simp
       refine CLa (d1) ?_
       simp
       refine CLa (d2) ?_
       simp
       refine CLa (d3) ?_
       simp
       simp [hl0, hw, hz', b1, b2, inC, Nat.testBit]
       refine CLa (c1) ?_
       simp [inC, Nat.testBit, w0, w1, w2, r1, w4, nz]
       refine CLa (c2) ?_
       simp [hlast, w5]
       refine CLa (c3) ?_
       simp
       refine RetOk.by (fun _ => none) ?_
       simp [results12]
 . obtain ⟨q1, q2, _⟩ := top_err hok
   have q3 := top_err6 hok
   rw [q1] at d3
   generalize (topA k s).2 = er at *
   refine CB func12 c12 (by simp [ntmps12]) fun E hE => ?_
   simp [p12]
   refine CLa (d0) ?_
   simp
   refine CLa (d1) ?_
   simp
   refine CLa (d2) ?_
   simp
   refine CLa (d3) ?_
   simp
   simp [q2, q3]
   refine RetOk.by (fun _ => none) ?_
   simp [results12]
end Go.Proofs.Tryz
