/- Own lemmas, used by the last text. Conditions: those that each theorem states. -/
import Derived.Below
import Derived.Deep.DeepHandedRow
import Derived.JoinedCond
import Derived.LaidLaws
import Derived.Lib.ItoaNum
import Derived.Lib.Join
import Derived.Lib.LaidTab
import Derived.Shelf.Strconv.Itoa3
import Derived.Shelf.Strings.BuilderF
import Derived.Shelf.Strings.OnBuilder
import Derived.Shelf.Vars
import Derived.Test.YtcaecmiedjnacaaDoorKaae
import Derived.Test.YtcaecmiedjnacaaDoorKaaf
import Derived.Test.YtcaecmiedjnacaaDoorKaag
import Derived.Test.YtcaecmiedjnacaaDoorProg
import Derived.Test.YtcaecmiedjnacaaDoorRows
set_option maxRecDepth 200000
set_option maxHeartbeats 8000000
namespace Go.Proofs.YtcaecmiedjnacaaDoor
open Go.Joins Go.ChangeShapes Go.WideShapes Go.ChangeAt Go.RowKit Go.Psl Go.Log
theorem Tryd.own : ownKnob Tryd.prog.godebug = none := by kernel_rfl
theorem Tryd.laidOut : laidOutB Tryd.prog = true := by kernel_rfl
theorem all_map {α β : Type} {f : α -> β} : ∀ {es : List β}, (∀ x ∈ es, ∃ k, x = f k) -> ∃ t : List α, es = t.map f
 | [], _ => ⟨[], rfl⟩
 | e :: es, h => by
   obtain ⟨k, hk⟩ := h e (by simp)
   obtain ⟨t, ht⟩ := all_map (f := f) (es := es) fun x hx => h x (by simp [hx])
   exact ⟨k :: t, by rw [ht, hk]; rfl⟩
theorem all2_d {G : Gh} {W : World} : ∀ {ds : List D} {cv : List Value}, All2 (RD G.Im W) ds cv -> All2 (R1 G W) (ds.map V.d) cv
 | [], [], _ => trivial
 | _ :: _, _ :: _, h => ⟨h.1, all2_d h.2⟩
abbrev GA (W : World) : Gh := ⟨fun _ => 0, fun _ => 0, fun _ => true, fun _ => true, InW W⟩
theorem struct_arg {H : Type} {enc : TypeId × Value -> H} {W : World} {base : Nat} {v : Value} {d : DataW H} {p : List MemPlace} {t : TypeId} {fs : Array Field} {n : Nat} (hu : Tryd.prog.underlying t = some (.struct fs)) (hp : plainB Tryd.prog n t = true)
   (hval : Value.okWide Tryd.prog W .any base t v) (h : DataW.Trod enc Tryd.prog W 0 (fun _ => true) true t v d p) : ∃ ds : List D, Sh' Tryd.prog n t ds /\ R2 (GA W) W (.agg (ds.map .d)) v := by
 obtain ⟨m, hm⟩ := h
 obtain ⟨cs, rfl, _⟩ := okWide_struct hu hval
 obtain ⟨ds, h1, h2⟩ := read_plain n t hp m _ _ hm
 exact ⟨ds, h1, _, rfl, all2_d h2⟩
theorem sh_int {n : Nat} {ds : List D} (h : Sh' Tryd.prog (n + 1) 3 ds) : ∃ i : Int, ds = [.lit (.int .i64 i)] := by
 simp only [Sh', Tryd.underlying3] at h
 obtain ⟨i, h, _⟩ := h
 exact ⟨i, h⟩
theorem sh_text {n : Nat} {ds : List D} (h : Sh' Tryd.prog (n + 1) 9 ds) : ∃ l : By, ds = [Tryd.dS l] := by
 simp only [Sh', Tryd.underlying9] at h
 obtain ⟨s, h, _⟩ := h
 exact ⟨s.data.toList, by rw [h, <- bs_data s, bs_toList]⟩
theorem cells3 : Tryd.prog.cellsOf 3 = 1 := by kernel_rfl
theorem sh_ints {n : Nat} {ds : List D} (h : Sh' Tryd.prog (n + 2) 33 ds) : ∃ t : List (Int), ds = [.sl 1 (t.map Tryd.intL)] := by
 rw [Sh', Tryd.underlying33] at h
 obtain ⟨es, rfl, _, h⟩ := h
 obtain ⟨t, rfl⟩ := all_map (f := Tryd.intL) fun x hx => sh_int (h x hx)
 exact ⟨t, by rw [cells3]⟩
theorem sh_entry {n : Nat} {ds : List D} (h : Sh' Tryd.prog (n + 3) 35 ds) : ∃ k : Etr, ds = Tryd.entL k := by
 rw [Sh', Tryd.underlying35] at h
 obtain ⟨a, r, rfl, h1, b, r2, rfl, h2, c, r3, rfl, h3, d, r4, rfl, h4, rfl⟩ := h
 obtain ⟨i1, rfl⟩ := sh_int h1
 obtain ⟨i2, rfl⟩ := sh_text h2
 obtain ⟨i3, rfl⟩ := sh_ints h3
 obtain ⟨i4, rfl⟩ := sh_text h4
 exact ⟨⟨i1, i2, i3, i4⟩, rfl⟩
theorem cells35 : Tryd.prog.cellsOf 35 = 4 := by kernel_rfl
theorem sh_entrys {n : Nat} {ds : List D} (h : Sh' Tryd.prog (n + 4) 22 ds) : ∃ t : List (Etr), ds = [.sl 4 (t.map Tryd.entL)] := by
 rw [Sh', Tryd.underlying22] at h
 obtain ⟨es, rfl, _, h⟩ := h
 obtain ⟨t, rfl⟩ := all_map (f := Tryd.entL) fun x hx => sh_entry (h x hx)
 exact ⟨t, by rw [cells35]⟩
theorem sh_log {n : Nat} {ds : List D} (h : Sh' Tryd.prog (n + 5) 24 ds) : ∃ k : Lg, ds = [Tryd.dS k.s, Tryd.entsD k.es] := by
 rw [Sh', Tryd.underlying24] at h
 obtain ⟨a, r, rfl, h1, b, r2, rfl, h2, rfl⟩ := h
 obtain ⟨i1, rfl⟩ := sh_text h1
 obtain ⟨i2, rfl⟩ := sh_entrys h2
 exact ⟨⟨i1, i2⟩, rfl⟩
theorem log_arg {H : Type} {enc : TypeId × Value -> H} {W : World} {base : Nat} {v : Value} {d : DataW H} {p : List MemPlace} (hval : Value.okWide Tryd.prog W .any base 24 v) (h : DataW.Trod enc Tryd.prog W 0 (fun _ => true) true 24 v d p) :
   ∃ k : Lg, R2 (GA W) W (Tryd.logV k) v := by
 obtain ⟨ds, h1, h2⟩ := struct_arg (n := 5) Tryd.underlying24 (by kernel_rfl) hval h
 obtain ⟨k, hk⟩ := sh_log h1
 cases hk
 exact ⟨k, h2⟩
def litV : DataW Unit -> Value
 | .lit (.int k x) => .int k x
 | _ => .bool false
def rowV : DataW Unit -> List Value
 | .agg ps => ps.map litV
 | d => [litV d]
def valsOf : DataW Unit -> Array Value
 | .agg ps => (ps.flatMap rowV).toArray
 | _ => #[]
def putV (d : DataW Unit) : Obj -> Obj
 | .cells _ t frozen => .cells (valsOf d) t frozen
 | o => o
noncomputable def laidWorld (laid : List (Nat × DataW Unit)) (os : Os) : World :=
 { World.holding Tryd.prog os ⟨#[], #[], []⟩ with heap := laid.foldl (fun h x => h.modify x.1 (putV x.2)) (World.holding Tryd.prog os ⟨#[], #[], []⟩).heap }
theorem var_of_laid {W : World} {name : String} {k : IntKind} {zs : List Int} {g : Nat} {t e : TypeId} {n : Nat}
   (hg : Tryd.prog.globalNamed name = some g) (hty : (Tryd.prog.globals[g]?).map (·.type) = some t) (ht : Tryd.prog.underlying t = some (.array n e)) (he : Tryd.prog.underlying e = some (.int k)) (hce : Tryd.prog.cellsOf e = 1) (hct : Tryd.prog.cellsOf t = n) :
   ∀ {laid : List (String × DataW Unit)} {ps : List MemPlace}, (name, Lib.tabData k zs) ∈ laid -> DataW.LaidVars Tryd.prog W laid ps -> W.var? Tryd.prog name = some (zs.map fun z => Value.int k z).toArray
 | [], _, hm, _ => by cases hm
 | (n', d) :: r, ps, hm, h => by
   obtain ⟨g', t', cs, fuel, p, q, hg', ht', hvar, hd, hr, _⟩ := h
   rcases List.mem_cons.1 hm with hm | hm
   . cases hm
     obtain rfl := Option.some.inj (hg.symm.trans hg')
     obtain rfl := Option.some.inj (hty.symm.trans ht')
     rw [hvar, <- Lib.cells_of_tab ht he hce hct hd]
   . exact var_of_laid hg hty ht he hce hct hm hr
theorem tabW_of_var {W : World} {name : String} {g : Nat} {c : Array Value} (hg : Tryd.prog.globalNamed name = some g) (h : W.var? Tryd.prog name = some c) : tabW W g c := by
 unfold World.var? at h
 rw [hg] at h
 simp only [Option.bind_some] at h
 split at h
 . rename_i cs t fz hh
   cases h
   exact ⟨t, fz, hh⟩
 . cases h
theorem tabW_of_shaped {w : World} {g : Nat} {t : TypeId} {zero : Array Value} {k : IntKind}
   (h : w.ShapedOpen Tryd.prog) (hg : g < Tryd.prog.globals.size)
   (h0 : ((begin Tryd.prog (fun _ _ => 0) default).world.heap[g]?).bind Obj.row? = some (zero, t)) (hz : zero.size = 1)
   (hb : Tryd.prog.buildable t = true) (hc : Tryd.prog.cellTypes Tryd.prog.depth t = some [t]) (hu : Tryd.prog.underlying t = some (.int k)) : ∃ m, tabW w g #[.int k m] := by
 obtain ⟨m, hm⟩ := cell_of_shapedOpen_int h hg h0 hz hb hc hu
 obtain ⟨cs, hh, hs, _⟩ := h.1 g zero t hg h0
 refine ⟨m, t, (0, 0), ?_⟩
 rw [hh]
 have h1 : cs[0]? = some (.int k m) := by
   simpa [World.cell?, hh] using hm
 have h2 : cs = #[.int k m] := by
   obtain ⟨l⟩ := cs
   rw [hz] at hs
   match l, hs with
   | [a], _ => simp at h1; rw [h1]
 rw [h2]
theorem pow_laid {W : World} {laid : List (String × DataW Unit)} (hm : ("internal/strconv.uint64pow10", Lib.tabData .u64 Lib.pow10Tab) ∈ laid) (h : laidMet Tryd.prog laid W) : globAt W gPow := by
 obtain ⟨ps, hv, _⟩ := h
 have h1 := var_of_laid (g := gPow) (t := (Tryd.prog.globals[gPow]?.map (·.type)).getD 0) (n := 20) (by kernel_rfl) (by kernel_rfl) (by kernel_rfl) (e := (Tryd.prog.globals[gPow]?.map fun _ => 99).getD 0) (by kernel_rfl) (by kernel_rfl) (by kernel_rfl) hm hv
 have h2 := tabW_of_var (g := gPow) (by kernel_rfl) h1
 have h3 : globAt W gPow = tabW W gPow ((List.range 20).map fun i => Value.int .u64 ((10 ^ i : Nat) : Int)).toArray := by simp [globAt, gPow, gMax, gSyn, gRng]
 rw [h3]
 unfold Lib.pow10Tab at h2
 rw [List.map_map] at h2
 exact h2
theorem max_laid {W : World} (h : W.ShapedOpen Tryd.prog) : globAt W gMax := by
 have h1 := tabW_of_shaped (zero := #[.int .i64 0]) (t := 3) (g := gMax) h (of_decide_eq_true (by kernel_rfl)) (by kernel_rfl) rfl (by kernel_rfl) (by kernel_rfl) Tryd.underlying3
 have h2 : globAt W gMax = ∃ m, tabW W gMax #[.int .i64 m] := by simp [globAt]
 rw [h2]
 exact h1
theorem GA_of {W : World} (h : globW W) : Go.Psl.GW (GA W).Im W := ⟨fun _ h => h, W, h, fun _ hk => ⟨hk, rfl⟩⟩
end Go.Proofs.YtcaecmiedjnacaaDoor
namespace Go.Psl
open Go.RowKit
variable {P : Program}
theorem lit_args {G : Gh} {W : World} : ∀ {vs0 : List Value} {xs : List Value}, All2 (R2 G W) (vs0.map cV) xs -> xs = vs0
 | [], [], _ => rfl
 | a :: as0, x :: xs, h => by
   have h1 : x = a := rv_lit (R2.rv h.1)
   rw [h1, lit_args h.2]
 | [], _ :: _, h => h.elim
 | _ :: _, [], h => h.elim
def GlobN (W : World) : Prop := ∃ Wr : World, globW Wr /\ ∀ k, k < Wr.heap.size -> W.heap[k]? = Wr.heap[k]?
theorem GW.globN {Im : Nat -> Prop} {W : World} (h : GW Im W) : GlobN W := by
 obtain ⟨_, Wr, h1, h2⟩ := h
 exact ⟨Wr, h1, fun k hk => (h2 k hk).2⟩
theorem Cm.ofBelow {f : FuncId} {vs0 : List Value} {r : V} {v : Value} (hf : isFn P f) (hr : ∀ G W, RV G W r v) (hw : AV (fun _ => False) anyD r)
   (h : ∀ W, GlobN W -> Calls P f vs0.toArray W fun e W' => e = .returned v /\ Below W.heap.size W W') : Ct P f (vs0.map cV) r [] := by
 refine ⟨hf, fun G W xs hGW hargs hpre => ?_⟩
 have hx := lit_args hargs
 obtain ⟨xs⟩ := xs
 simp only at hx
 subst hx
 refine Calls.mono (h W hGW.globN) fun e W' ⟨he, hb⟩ => ?_
 subst he
 refine ⟨{ G with Im := G.Im }, ⟨hb.os, hb.tape, hb.output, Nat.le_refl _, hb.size, fun b hb' _ => hb.block b hb', fun b hb' => ⟨Nat.lt_of_lt_of_le (hGW.1 b hb') hb.size, .inl hb'⟩, fun _ h => h, hr _ _, AV.mono (fun _ h => h.elim) (fun _ h => h) hw, ?_, ?_, ?_⟩⟩
 . intro i cs h; cases h
 . intro i j h; simp [InH, lk] at h
 . intro i h; cases h
theorem Cm.ofLit {f : FuncId} {vs0 : List Value} {v : Value} (hf : isFn P f) (hv : flatV v = true)
   (h : ∀ W, GlobN W -> Calls P f vs0.toArray W fun e W' => e = .returned v /\ Below W.heap.size W W') : Ct P f (vs0.map cV) (cV v) [] :=
 Cm.ofBelow hf (fun _ _ => RD.lit v hv) trivial h
end Go.Psl
namespace Go.Proofs
def Tryd.itoaL_ren : Go.Shelf.Ren := ⟨fun | 171 => 37 | 243 => 55 | 246 => 67 | 283 => 74 | 284 => 75 | 285 => 76 | 286 => 77 | 129 => 84 | 317 => 83 | 318 => 85 | 319 => 86 | 320 => 87 | 337 => 92 | 338 => 93 | n => n, fun | 3 => 3 | 9 => 9 | 2 => 2 | 4 => 4 | 171 => 98 | 0 => 0 | 53 => 99 | 37 => 49 | 5 => 5 | 173 => 102 | 212 => 108 | 51 => 109 | 20 => 20 | 213 => 110 | 46 => 97 | 232 => 120 | 233 => 121 | n => n, fun | 17 => 0 | 18 => 4 | 19 => 5 | n => n⟩
theorem Tryd.itoaL : Go.Proofs.LaysM.n171 Tryd.prog Tryd.itoaL_ren := {
 mixed := by kernel_rfl,
 f129 := Tryd.func84.trans (congrArg some (by kernel_rfl)),
 f171 := Tryd.func37.trans (congrArg some (by kernel_rfl)),
 f243 := Tryd.func55.trans (congrArg some (by kernel_rfl)),
 f246 := Tryd.func67.trans (congrArg some (by kernel_rfl)),
 f283 := Tryd.func74.trans (congrArg some (by kernel_rfl)),
 f284 := Tryd.func75.trans (congrArg some (by kernel_rfl)),
 f285 := Tryd.func76.trans (congrArg some (by kernel_rfl)),
 f286 := Tryd.func77.trans (congrArg some (by kernel_rfl)),
 f317 := Tryd.func83.trans (congrArg some (by kernel_rfl)),
 f318 := Tryd.func85.trans (congrArg some (by kernel_rfl)),
 f319 := Tryd.func86.trans (congrArg some (by kernel_rfl)),
 f320 := Tryd.func87.trans (congrArg some (by kernel_rfl)),
 f337 := Tryd.func92.trans (congrArg some (by kernel_rfl)),
 f338 := Tryd.func93.trans (congrArg some (by kernel_rfl)),
 t0 := Tryd.underlying0,
 a0 := Tryd.isAgg0,
 z0 := Tryd.sizeOf0,
 v0 := Tryd.zeroValue0,
 t2 := Tryd.underlying2,
 a2 := Tryd.isAgg2,
 z2 := Tryd.sizeOf2,
 v2 := Tryd.zeroValue2,
 t3 := Tryd.underlying3,
 a3 := Tryd.isAgg3,
 z3 := Tryd.sizeOf3,
 v3 := Tryd.zeroValue3,
 t4 := Tryd.underlying4,
 a4 := Tryd.isAgg4,
 z4 := Tryd.sizeOf4,
 v4 := Tryd.zeroValue4,
 t5 := Tryd.underlying5,
 a5 := Tryd.isAgg5,
 z5 := Tryd.sizeOf5,
 v5 := Tryd.zeroValue5,
 t9 := Tryd.underlying9,
 a9 := Tryd.isAgg9,
 z9 := Tryd.sizeOf9,
 v9 := Tryd.zeroValue9,
 t20 := Tryd.underlying20,
 a20 := Tryd.isAgg20,
 z20 := Tryd.sizeOf20,
 v20 := Tryd.zeroValue20,
 t37 := Tryd.underlying49,
 a37 := Tryd.isAgg49,
 z37 := Tryd.sizeOf49,
 v37 := Tryd.zeroValue49,
 t46 := Tryd.underlying97,
 a46 := Tryd.isAgg97,
 z46 := Tryd.sizeOf97,
 v46 := Tryd.zeroValue97,
 t51 := Tryd.underlying109,
 a51 := Tryd.isAgg109,
 z51 := Tryd.sizeOf109,
 v51 := Tryd.zeroValue109,
 t53 := Tryd.underlying99,
 a53 := Tryd.isAgg99,
 z53 := Tryd.sizeOf99,
 v53 := Tryd.zeroValue99,
 t171 := Tryd.underlying98,
 a171 := Tryd.isAgg98,
 z171 := Tryd.sizeOf98,
 v171 := Tryd.zeroValue98,
 t173 := Tryd.underlying102,
 a173 := Tryd.isAgg102,
 z173 := Tryd.sizeOf102,
 v173 := Tryd.zeroValue102,
 t212 := Tryd.underlying108,
 a212 := Tryd.isAgg108,
 z212 := Tryd.sizeOf108,
 v212 := Tryd.zeroValue108,
 t213 := Tryd.underlying110,
 a213 := Tryd.isAgg110,
 z213 := Tryd.sizeOf110,
 t232 := Tryd.underlying120,
 a232 := Tryd.isAgg120,
 z232 := Tryd.sizeOf120,
 v232 := Tryd.zeroValue120,
 t233 := Tryd.underlying121,
 a233 := Tryd.isAgg121,
 z233 := Tryd.sizeOf121,
 v233 := Tryd.zeroValue121,
 g17 := by kernel_rfl,
 g18 := by kernel_rfl,
 g19 := by kernel_rfl,
 i0 := by kernel_rfl,
 i2 := by kernel_rfl,
 i3 := by kernel_rfl,
 i4 := by kernel_rfl,
 i5 := by kernel_rfl,
 i9 := by kernel_rfl,
 i20 := by kernel_rfl,
 i37 := by kernel_rfl,
 i46 := by kernel_rfl,
 i51 := by kernel_rfl,
 i53 := by kernel_rfl,
 i171 := by kernel_rfl,
 i173 := by kernel_rfl,
 i212 := by kernel_rfl,
 i232 := by kernel_rfl,
 i233 := by kernel_rfl,
 m17 := by kernel_rfl,
 m18 := by kernel_rfl,
 m19 := by kernel_rfl }
def Tryd.joinL_ren : Go.Shelf.Ren := ⟨fun | 156 => 38 | 165 => 56 | 166 => 19 | 169 => 22 | 240 => 36 | 241 => 68 | 276 => 54 | 277 => 78 | n => n, fun | 31 => 67 | 9 => 9 | 3 => 3 | 4 => 4 | 0 => 0 | 20 => 20 | 72 => 51 | 76 => 54 | 70 => 48 | 37 => 49 | 75 => 53 | 127 => 69 | 164 => 80 | 5 => 5 | 80 => 58 | n => n, fun | n => n⟩
theorem Tryd.joinL : Go.Proofs.Lays.n156 Tryd.prog Tryd.joinL_ren := {
 mixed := by kernel_rfl,
 f156 := Tryd.func38.trans (congrArg some (by kernel_rfl)),
 f165 := Tryd.func56.trans (congrArg some (by kernel_rfl)),
 f166 := Tryd.func19.trans (congrArg some (by kernel_rfl)),
 f169 := Tryd.func22.trans (congrArg some (by kernel_rfl)),
 f240 := Tryd.func36.trans (congrArg some (by kernel_rfl)),
 f241 := Tryd.func68.trans (congrArg some (by kernel_rfl)),
 f276 := Tryd.func54.trans (congrArg some (by kernel_rfl)),
 f277 := Tryd.func78.trans (congrArg some (by kernel_rfl)),
 t0 := Tryd.underlying0,
 a0 := Tryd.isAgg0,
 z0 := Tryd.sizeOf0,
 v0 := Tryd.zeroValue0,
 t3 := Tryd.underlying3,
 a3 := Tryd.isAgg3,
 z3 := Tryd.sizeOf3,
 v3 := Tryd.zeroValue3,
 t4 := Tryd.underlying4,
 a4 := Tryd.isAgg4,
 z4 := Tryd.sizeOf4,
 v4 := Tryd.zeroValue4,
 t9 := Tryd.underlying9,
 a9 := Tryd.isAgg9,
 z9 := Tryd.sizeOf9,
 v9 := Tryd.zeroValue9,
 t20 := Tryd.underlying20,
 a20 := Tryd.isAgg20,
 z20 := Tryd.sizeOf20,
 v20 := Tryd.zeroValue20,
 t31 := Tryd.underlying67,
 a31 := Tryd.isAgg67,
 z31 := Tryd.sizeOf67,
 v31 := Tryd.zeroValue67,
 t37 := Tryd.underlying49,
 a37 := Tryd.isAgg49,
 z37 := Tryd.sizeOf49,
 v37 := Tryd.zeroValue49,
 t70 := Tryd.underlying48,
 a70 := Tryd.isAgg48,
 z70 := Tryd.sizeOf48,
 v70 := Tryd.zeroValue48,
 t72 := Tryd.underlying51,
 a72 := Tryd.isAgg51,
 z72 := Tryd.sizeOf51,
 v72 := Tryd.zeroValue51,
 t75 := Tryd.underlying53,
 a75 := Tryd.isAgg53,
 z75 := Tryd.sizeOf53,
 v75 := Tryd.zeroValue53,
 t76 := Tryd.underlying54,
 a76 := Tryd.isAgg54,
 z76 := Tryd.sizeOf54,
 v76 := Tryd.zeroValue54,
 t127 := Tryd.underlying69,
 a127 := Tryd.isAgg69,
 z127 := Tryd.sizeOf69,
 v127 := Tryd.zeroValue69,
 t164 := Tryd.underlying80,
 a164 := Tryd.isAgg80,
 z164 := Tryd.sizeOf80,
 v164 := Tryd.zeroValue80 }
def Tryd.wstrL_ren : Go.Shelf.Ren := ⟨fun | 166 => 19 | 240 => 36 | 276 => 54 | n => n, fun | 70 => 48 | 9 => 9 | 3 => 3 | 75 => 53 | 0 => 0 | 72 => 51 | 37 => 49 | 4 => 4 | 164 => 80 | 80 => 58 | 5 => 5 | n => n, fun | n => n⟩
theorem Tryd.wstrL : Go.Proofs.Lays.n166 Tryd.prog Tryd.wstrL_ren := {
 mixed := by kernel_rfl,
 f166 := Tryd.func19.trans (congrArg some (by kernel_rfl)),
 f240 := Tryd.func36.trans (congrArg some (by kernel_rfl)),
 f276 := Tryd.func54.trans (congrArg some (by kernel_rfl)),
 t0 := Tryd.underlying0,
 a0 := Tryd.isAgg0,
 z0 := Tryd.sizeOf0,
 v0 := Tryd.zeroValue0,
 t3 := Tryd.underlying3,
 a3 := Tryd.isAgg3,
 z3 := Tryd.sizeOf3,
 v3 := Tryd.zeroValue3,
 t4 := Tryd.underlying4,
 a4 := Tryd.isAgg4,
 z4 := Tryd.sizeOf4,
 v4 := Tryd.zeroValue4,
 t9 := Tryd.underlying9,
 a9 := Tryd.isAgg9,
 z9 := Tryd.sizeOf9,
 v9 := Tryd.zeroValue9,
 t20 := Tryd.underlying20,
 a20 := Tryd.isAgg20,
 z20 := Tryd.sizeOf20,
 v20 := Tryd.zeroValue20,
 t37 := Tryd.underlying49,
 a37 := Tryd.isAgg49,
 z37 := Tryd.sizeOf49,
 v37 := Tryd.zeroValue49,
 t70 := Tryd.underlying48,
 a70 := Tryd.isAgg48,
 z70 := Tryd.sizeOf48,
 v70 := Tryd.zeroValue48,
 t72 := Tryd.underlying51,
 a72 := Tryd.isAgg51,
 z72 := Tryd.sizeOf51,
 v72 := Tryd.zeroValue51,
 t75 := Tryd.underlying53,
 a75 := Tryd.isAgg53,
 z75 := Tryd.sizeOf53,
 v75 := Tryd.zeroValue53,
 t164 := Tryd.underlying80,
 a164 := Tryd.isAgg80,
 z164 := Tryd.sizeOf80,
 v164 := Tryd.zeroValue80 }
def Tryd.bstrL_ren : Go.Shelf.Ren := ⟨fun | 169 => 22 | n => n, fun | 70 => 48 | 9 => 9 | 0 => 0 | 72 => 51 | 37 => 49 | 127 => 69 | 3 => 3 | 5 => 5 | n => n, fun | n => n⟩
theorem Tryd.bstrL : Go.Proofs.Lays.n169 Tryd.prog Tryd.bstrL_ren := {
 mixed := by kernel_rfl,
 f169 := Tryd.func22.trans (congrArg some (by kernel_rfl)),
 t0 := Tryd.underlying0,
 a0 := Tryd.isAgg0,
 z0 := Tryd.sizeOf0,
 v0 := Tryd.zeroValue0,
 t3 := Tryd.underlying3,
 a3 := Tryd.isAgg3,
 z3 := Tryd.sizeOf3,
 v3 := Tryd.zeroValue3,
 t9 := Tryd.underlying9,
 a9 := Tryd.isAgg9,
 z9 := Tryd.sizeOf9,
 v9 := Tryd.zeroValue9,
 t37 := Tryd.underlying49,
 a37 := Tryd.isAgg49,
 z37 := Tryd.sizeOf49,
 v37 := Tryd.zeroValue49,
 t70 := Tryd.underlying48,
 a70 := Tryd.isAgg48,
 z70 := Tryd.sizeOf48,
 v70 := Tryd.zeroValue48,
 t72 := Tryd.underlying51,
 a72 := Tryd.isAgg51,
 z72 := Tryd.sizeOf51,
 v72 := Tryd.zeroValue51,
 t127 := Tryd.underlying69,
 a127 := Tryd.isAgg69,
 z127 := Tryd.sizeOf69,
 v127 := Tryd.zeroValue69 }
theorem Tryd.bldX : Builder.Extra Tryd.prog Tryd.wstrL_ren := {
 sizeBuilder := by kernel_rfl, liesBuilder := by kernel_rfl, t5 := Tryd.underlying5, a5 := Tryd.isAgg5, z5 := Tryd.sizeOf5, v5 := Tryd.zeroValue5, infoByte := by kernel_rfl, cellsByte := by kernel_rfl, sizeByte := by kernel_rfl, neB5 := by decide }
theorem Tryd.bldXj : Builder.Extra Tryd.prog Tryd.joinL_ren := {
 sizeBuilder := by kernel_rfl, liesBuilder := by kernel_rfl, t5 := Tryd.underlying5, a5 := Tryd.isAgg5, z5 := Tryd.sizeOf5, v5 := Tryd.zeroValue5, infoByte := by kernel_rfl, cellsByte := by kernel_rfl, sizeByte := by kernel_rfl, neB5 := by decide }
theorem Tryd.bldXb : Builder.Extra Tryd.prog Tryd.bstrL_ren := {
 sizeBuilder := by kernel_rfl, liesBuilder := by kernel_rfl, t5 := Tryd.underlying5, a5 := Tryd.isAgg5, z5 := Tryd.sizeOf5, v5 := Tryd.zeroValue5, infoByte := by kernel_rfl, cellsByte := by kernel_rfl, sizeByte := by kernel_rfl, neB5 := by decide }
end Go.Proofs
namespace Go.Proofs.Tryd
open Go.Psl
open Go.Log
open Go.RowKit
open Go.Sort
theorem tab_of {W Wr : World} {g : Nat} {c : Array Value} (h : tabW Wr g c) (h2 : ∀ k, k < Wr.heap.size -> W.heap[k]? = Wr.heap[k]?) : tabW W g c := by
 obtain ⟨T, fz, hb⟩ := h
 exact ⟨T, fz, (h2 g (Array.getElem?_eq_some_iff.1 hb).1).trans hb⟩
theorem tab_var {W : World} {g : Nat} {c : Array Value} (h : tabW W g c) {name : String} (hn : prog.globalNamed name = some g) : W.var? prog name = some c := by
 obtain ⟨T, fz, hb⟩ := h
 simp [World.var?, hn, hb]
theorem globPow {W : World} (h : GlobN W) : Go.Lib.TabIs prog W "internal/strconv.uint64pow10" .u64 Go.Lib.pow10Tab := by
 obtain ⟨Wr, h1, h2⟩ := h
 have := h1 gPow (by decide)
 have h3 : tabW Wr gPow ((List.range 20).map fun i => Value.int .u64 ((10 ^ i : Nat) : Int)).toArray := by
   simpa [globAt, gPow, gMax, gSyn, gRng] using this
 have h4 := tab_var (tab_of h3 h2) (name := "internal/strconv.uint64pow10") itoaL.m17
 unfold Go.Lib.TabIs
 rw [h4]
 simp [Go.Lib.pow10Tab]
theorem grow_below {W : World} {k : Nat} {os : Array Obj} : Below W.heap.size W (grow (W.drewN k) os) := by
 refine ⟨rfl, rfl, rfl, ?_, fun b hb => ?_⟩
 . show W.heap.size <= (W.heap ++ os).size
   simp
 . show (W.heap ++ os)[b]? = _
   rw [Array.getElem?_append_left hb]
theorem fn37 (n : Int) (h0 : -9223372036854775808 <= n) (h1 : n <= 9223372036854775807) : Ct prog 37 [vi n] (vS (Go.Lib.itoa n)) [] :=
 Cm.ofLit (vs0 := [.int .i64 n]) (v := .string (bs (Go.Lib.itoa n))) ⟨_, func37, by kernel_rfl, by decide⟩ rfl fun W hW =>
   Calls.mono (Go.Proofs.Any.strconv_Itoa itoaL n h0 h1 W (globPow hW)) fun e W' ⟨he, k, os, hw⟩ => ⟨he, by rw [hw]; exact grow_below⟩
end Go.Proofs.Tryd
namespace Go.Psl
open Go.Proofs Go.Shelf Go.RowKit Go.Lib
variable {P : Program} {ρ : Ren}
theorem run_put (w : World) (t u ty e : TypeId) (i : TypeInfo) (ht : P.underlying t = some (.slice e)) (hu : P.underlying u = some .string) (hi : P.info? e = some i) (hz : i.zero = some (.int .u8 0))
   (hsize : i.size = 1) (hby : i.bytes = 1) (v : Value) (n : Nat) (xs : List Value) (hown : w.ownsRowF 0 e 1 v n xs) (s : ByteArray) (h0 : 0 < s.size) (hbytes : n + s.size <= 140737488355328) :
   ∃ v' w', (Builtin.append_ #[t, u] ty #[v, .string s]).run P w = .ok v' w' /\ w'.ownsRowF 0 e 1 v' (n + s.size) (xs ++ strCells s) /\ w.grownBy w' v.ownBlock /\ ∃ g cap, v' = .slice (some ⟨g, 0, none⟩) (n + s.size) cap /\ (some g = v.ownBlock \/ w.heap.size <= g) := by
 have h63 : n + s.size <= maxLen := by unfold maxLen; omega
 have hxl : xs.length = n := by simpa using hown.1
 obtain ⟨v', w', hr, h2, h3, _⟩ := run_append_own_stringF (P := P) w 0 t u ty e i ht hu hi hz hsize hby v n xs hown s h63 hbytes (Nat.zero_le _)
 refine ⟨v', w', hr, h2, h3, ?_⟩
 rcases hown.2 with ⟨rfl, rfl⟩ | ⟨g, cap, cur, fz, rfl, _, hg, hfz, hnc, hcm, hcs, htake⟩
 . have hx : xs = [] := List.eq_nil_of_length_eq_zero hxl
   subst hx
   obtain ⟨v2, w2, hr2, h5, _⟩ := run_append_own_stringF (P := P) w w.heap.size t u ty e i ht hu hi hz hsize hby (.slice none 0 0) 0 [] (World.ownsRowF_nil w _ e 1) s h63 hbytes (Nat.le_refl _)
   rw [hr2] at hr
   cases hr
   rcases h5.2 with ⟨_, h⟩ | ⟨g, cap, cur, fz, hv, hb, _⟩
   . omega
   . exact ⟨g, cap, hv, .inr hb⟩
 . by_cases hroom : n + s.size <= cap
   . have hcs' : cur.size = cap := by simpa using hcs
     have hr2 := run_append_room_stringF (P := P) w t u ty e i ht hu hi hsize g n cap cur fz hg (by simpa using hfz) s hroom (by omega)
     rw [hr2] at hr
     cases hr
     exact ⟨g, cap, rfl, .inl rfl⟩
   . have holds : ∀ j u, xs[j]? = some u -> w.cell? ((⟨g, 0, none⟩ : Addr).add j) = some u := hown.cells (g := g) rfl
     have hr2 := run_append_grow_string (P := P) w t u ty e i (.int .u8 0) ht hu hi hz ⟨g, 0, none⟩ n cap xs (by rw [hsize]; simpa using hxl) holds s (by omega) (by omega) (by rw [hby]; exact growslice_fits (by omega) (by omega))
     rw [hr2] at hr
     cases hr
     exact ⟨_, _, rfl, .inr (Nat.le_refl _)⟩
theorem wpList_put {ops : Array Oper} {rest : List Oper} {o : Oper} {a : Act} {Q : Exit -> Act -> World -> Prop} (w : World) (hgd : o.guard = none) (sl x : Operand) (t u : TypeId)
   (ho : o.op = .call { callee := .builtin .append, args := #[sl, x], argTypes := #[t, u] })
   (e : TypeId) (i : TypeInfo) (ht : P.underlying t = some (.slice e)) (hu : P.underlying u = some .string) (hi : P.info? e = some i) (hz : i.zero = some (.int .u8 0))
   (hsize : i.size = 1) (hby : i.bytes = 1) (v : Value) (n : Nat) (xs : List Value) (hs : a.eval sl = v) (hown : w.ownsRowF 0 e 1 v n xs) (s : ByteArray) (hx : a.eval x = .string s) (h0 : 0 < s.size) (hbytes : n + s.size <= 140737488355328)
   (h : ∀ v' w', w'.ownsRowF 0 e 1 v' (n + s.size) (xs ++ strCells s) -> w.grownBy w' v.ownBlock -> (∃ g cap, v' = .slice (some ⟨g, 0, none⟩) (n + s.size) cap /\ (some g = v.ownBlock \/ w.heap.size <= g)) -> wpList P ops Q rest (a.put o.dst v') w') : wpList P ops Q (o :: rest) a w := by
 refine wpList_plain hgd fun K hK => ?_
 obtain ⟨v', w', hr, h2, h3, h4⟩ := run_put (P := P) w t u o.type e i ht hu hi hz hsize hby v n xs hown s h0 hbytes
 unfold Oper.wp execOp
 simp only [ho, resolve, invoke, builtin, Sem.run_bind, Sem.run_pure, Result.andThen_ok, List.map_toArray, List.map_cons, List.map_nil, hs, hx, hr]
 exact hK _ _ (h v' w' h2 h3 h4)
structure Wrote (T e : TypeId) (b : Nat) (v : Value) (n : Nat) (bs : List Value) (s : ByteArray) (w w' : World) : Prop where
 os : w'.os = w.os
 tape : w'.tape = w.tape
 output : w'.output = w.output
 size : w.heap.size <= w'.heap.size
 at' : ∃ g cap, w'.heap[b]? = some (.cells #[.pointer (some ⟨b, 0, none⟩), .slice (some ⟨g, 0, none⟩) (n + s.size) cap] T (0, 0)) /\ w'.ownsRowF 0 e 1 (.slice (some ⟨g, 0, none⟩) (n + s.size) cap) (n + s.size) (bs ++ strCells s) /\ g ≠ b /\ (some g = v.ownBlock \/ w.heap.size <= g)
 block : ∀ k, k < w.heap.size -> k ≠ b -> some k ≠ v.ownBlock -> w'.heap[k]? = w.heap[k]?
theorem wstr_calls (L : Lays.n166 P ρ) (X : Builder.Extra P ρ) (b : Nat) (p v : Value) (n : Nat) (bs : List Value) (s : ByteArray) (w : World) (hb : w.heap[b]? = some (.cells #[p, v] (ρ.t 72) (0, 0))) (hp : p = .pointer none \/ p = .pointer (some ⟨b, 0, none⟩))
   (hown : w.ownsRowF 0 (ρ.t 5) 1 v n bs) (hne : v.ownBlock ≠ some b) (h0 : 0 < s.size) (hlen : n + s.size <= 140737488355328) :
   Calls P (ρ.f 166) #[.pointer (some ⟨b, 0, none⟩), .string s] w fun e w' => e = .returned (.tuple #[.int .i64 s.size, .nilIface]) /\ Wrote (ρ.t 72) (ρ.t 5) b v n bs s w w' := by
 obtain ⟨i0, hi, hz0, hz1, hz2⟩ := info_parts X.infoByte
 have mixed := L.mixed
 have t72 := L.t72; have a72 := L.a72; have z72 := L.z72; have v72 := L.v72; have u72 := run_underlying L.t72
 have t70 := L.t70; have a70 := L.a70; have z70 := L.z70; have v70 := L.v70; have u70 := run_underlying L.t70
 have t37 := L.t37; have a37 := L.a37; have z37 := L.z37; have v37 := L.v37; have u37 := run_underlying L.t37
 have t3 := L.t3; have a3 := L.a3; have z3 := L.z3; have v3 := L.v3; have u3 := run_underlying L.t3
 have t9 := L.t9; have a9 := L.a9; have z9 := L.z9; have v9 := L.v9; have u9 := run_underlying L.t9
 have t4 := L.t4; have a4 := L.a4; have z4 := L.z4; have v4 := L.v4; have u4 := run_underlying L.t4
 have t164 := L.t164; have a164 := L.a164; have z164 := L.z164; have v164 := L.v164; have u164 := run_underlying L.t164
 have t5 := X.t5; have a5 := X.a5; have z5 := X.z5; have v5 := X.v5; have u5 := run_underlying X.t5
 have hlt : b < w.heap.size := (Array.getElem?_eq_some_iff.1 hb).1
 have e240 : ∀ args w, (callFunc (ρ.f 240) args).run P w = .ok (.enter (ρ.f 240) args) w := enters_of L.f240 (by kernel_rfl) rfl
 have cc : Calls P (ρ.f 240) #[.pointer (some ⟨b, 0, none⟩)] w fun e w' => e = .returned (.tuple #[]) /\ w'.heap[b]? = some (.cells #[.pointer (some ⟨b, 0, none⟩), v] (ρ.t 72) (0, 0)) /\ (∀ k, k ≠ b -> w'.heap[k]? = w.heap[k]?) /\ w'.heap.size = w.heap.size /\ w'.os = w.os /\ w'.tape = w.tape /\ w'.output = w.output := by
   rcases hp with rfl | rfl
   . refine (Any.Builder_copyCheck_fresh { L with } X.toX72 b w (by rw [cell_of_heap hb]; rfl) (by simp [World.shape?, hb]) (frozen_of_heap hb 0)).mono ?_
     rintro e w' ⟨rfl, rfl⟩
     have hs : w.setCell ⟨b, 0, none⟩ (.pointer (some ⟨b, 0, none⟩)) = w.setRow b (#[.pointer none, v].setIfInBounds 0 (.pointer (some ⟨b, 0, none⟩))) := setCell_eq_setRow w b 0 _ _ _ _ hb
     rw [hs]
     exact ⟨rfl, setRow_heap w b _ _ _ _ hb, fun k hk => setRow_other w b k _ hk, by simp, rfl, rfl, rfl⟩
   . refine (Any.Builder_copyCheck_used { L with } X.toX72 b w (by rw [cell_of_heap hb]; rfl)).mono ?_
     rintro e w' ⟨rfl, rfl⟩
     exact ⟨rfl, hb, fun _ _ => rfl, rfl, rfl, rfl, rfl⟩
 go_enter L.f166, Body.n166_ntmps ρ
 go_wp2_with (go_at_fn (ρ.f 240); refine cc.mono ?_)
 rintro e w1 ⟨rfl, hb1, hk1, hsz1, ho1, ht1, hu1⟩
 have hown1 : w1.ownsRowF 0 (ρ.t 5) 1 v n bs := by
   refine ⟨hown.1, hown.2.imp id ?_⟩
   rintro ⟨g, cap, cur, fz, rfl, q1, q2, q3⟩
   exact ⟨g, cap, cur, fz, rfl, q1, (hk1 g (fun e => hne (by rw [<- e]; rfl))).trans q2, q3⟩
 have c0 : w1.cell? ⟨b, 0, none⟩ = some (.pointer (some ⟨b, 0, none⟩)) := by rw [cell_of_heap hb1]; rfl
 have c1 : w1.cell? ⟨b, 1, none⟩ = some v := by rw [cell_of_heap hb1]; rfl
 go_wp2_with (at_builtin; refine wpList_put _ rfl _ _ (ρ.t 37) (ρ.t 9) rfl (ρ.t 5) i0 L.t37 L.t9 hi hz0 hz1 hz2 _ _ _ rfl hown1 s rfl h0 hlen ?_)
 rintro v' w2 hown' hgrow g cap rfl hg
 have hb2 : w2.heap[b]? = some (.cells #[.pointer (some ⟨b, 0, none⟩), v] (ρ.t 72) (0, 0)) := by
   rw [hgrow.block b (by omega) (fun e => hne e.symm)]
   exact hb1
 have hgb : g ≠ b := by
   rintro rfl
   rcases hg with hg | hg
   . exact hne hg.symm
   . omega
 have d0 : w2.cell? ⟨b, 0, none⟩ = some (.pointer (some ⟨b, 0, none⟩)) := by rw [cell_of_heap hb2]; rfl
 have d1 : w2.cell? ⟨b, 1, none⟩ = some v := by rw [cell_of_heap hb2]; rfl
 have f1 : w2.frozen? ⟨b, 1, none⟩ = false := frozen_of_heap hb2 1
 go_wp2
 go_ret2
 have hs : w2.setCell ⟨b, 1, none⟩ (.slice (some ⟨g, 0, none⟩) (n + s.size) cap) = w2.setRow b (#[.pointer (some ⟨b, 0, none⟩), v].setIfInBounds 1 (.slice (some ⟨g, 0, none⟩) (n + s.size) cap)) := setCell_eq_setRow w2 b 1 _ _ _ _ hb2
 refine ⟨rfl, ?_⟩
 rw [hs]
 refine ⟨hgrow.os.trans ho1, hgrow.tape.trans ht1, hgrow.output.trans hu1, ?_, ⟨g, cap, setRow_heap w2 b _ _ _ _ hb2, ?_, hgb, ?_⟩, fun k hk hkb hkv => ?_⟩
 . have := hgrow.size
   simp
   omega
 . refine ⟨hown'.1, hown'.2.imp id ?_⟩
   rintro ⟨g', cap', cur, fz, q0, q1, q2, q3⟩
   cases q0
   exact ⟨g, cap, cur, fz, rfl, q1, (setRow_other w2 b g _ hgb).trans q2, q3⟩
 . exact hg.imp id fun h => by omega
 . rw [setRow_other w2 b k _ hkb, hgrow.block k (by omega) hkv, hk1 k hkb]
theorem bld_row {G : Gh} {W : World} {x : V} {n : Int} (h : HB G W 0 [x, .d (.lit (.int .i64 n))]) (hx : V.isCell x = true) {u : Value} (hr : R2 G W (.yl 0) u) : G.ph 0 = false /\ G.lo 0 = true /\ G.bs 0 = 2 /\ ¬ G.Im (G.β 0) /\ u = .pointer (some ⟨G.β 0, 0, none⟩) /\
   ∃ p v a cap, ∃ k : Nat, W.heap[G.β 0]? = some (.cells #[p, v] bldT (0, 0)) /\ (p = .pointer none \/ p = .pointer (some ⟨G.β 0, 0, none⟩)) /\ v = .slice a k cap /\ (k : Int) = n /\ R1 G W x v := by
 rcases h with ⟨_, h2⟩ | ⟨_, h0, _, c, T, h3, h4, h5, _⟩ | ⟨h1, h0, h2, ⟨hz, fr, nt, ps, pa, pb, jmp, rec, h3, _⟩ | ⟨hz, es, ms, ck, h3, _⟩ | ⟨hz, bx, bp, bv, h3, h4, h5, h6, h7⟩⟩
 . cases h2
 . have hl2 : 2 <= c.size := h5
   rcases hr with ⟨hz, _⟩ | ⟨hz, _⟩ | ⟨_, hl, _⟩ | ⟨_, hl, _⟩
   . omega
   . omega
   . rw [h0] at hl; cases hl
   . rw [h0] at hl; cases hl
 . cases h3
 . simp only [mapC, List.cons.injEq, and_true] at h3
   rw [h3.1] at hx
   cases hx
 . simp only [List.cons.injEq, V.d.injEq, D.lit.injEq, and_true] at h3
   obtain ⟨rfl, hm⟩ := h3
   rcases h5 with ⟨k2, hT, hfz, p, a, cap, n', hc, hp, hv, hm'⟩ | ⟨_, _, _, _, hm', _⟩
   . rw [<- hm] at hm'
     cases hm'
     rw [hc, hT, hfz] at h4
     refine ⟨h1, h0, k2, h2, ?_, p, bv, a, cap, n', h4, hp, hv, rfl, h6⟩
     rcases hr with ⟨hz', _⟩ | ⟨hz', _⟩ | ⟨_, _, hu⟩ | ⟨hz', _⟩
     . omega
     . omega
     . exact hu
     . omega
   . rw [<- hm] at hm'
     cases hm'
theorem bld_bytes {G : Gh} {W : World} {t : ByteArray} (h : HB G W 1 [.d (.lit (.string t)), .d (.lit (.bool false))]) {u : Value} (hr : R1 G W (.yl 1) u) : G.ph 1 = false /\ G.lo 1 = true /\ 3 <= G.bs 1 /\ ¬ G.Im (G.β 1) /\
   ∃ n cur, ∃ fz : Nat × Nat, u = .slice (some ⟨G.β 1, 0, none⟩) n (G.bs 1 - 3) /\ W.heap[G.β 1]? = some (.cells cur bytT fz) /\ cur.size = G.bs 1 - 3 /\ fz.2 <= t.size /\ t.size <= cur.size /\ cur.size <= maxL /\ cur.toList.take t.size = strCells t := by
 rcases h with ⟨_, h2⟩ | ⟨_, h0, _, c, T, h3, h4, h5, _⟩ | ⟨h1, h0, h2, ⟨hz, fr, nt, ps, pa, pb, jmp, rec, h3, _⟩ | ⟨hz, es, ms, ck, h3, _⟩ | ⟨hz, bx, bp, bv, h3, h4, h5, h6, h7⟩⟩
 . cases h2
 . have hl2 : 2 <= c.size := h5
   rcases hr with ⟨hz, _⟩ | ⟨hz, _⟩ | ⟨_, hl, _⟩ | ⟨_, hl, _⟩
   . omega
   . omega
   . rw [h0] at hl; cases hl
   . rw [h0] at hl; cases hl
 . cases h3
 . simp [mapC] at h3
 . simp only [List.cons.injEq, V.d.injEq, D.lit.injEq, and_true] at h3
   obtain ⟨rfl, hm⟩ := h3
   have hv : bv = .string t := by cases h6; rfl
   subst hv
   rcases h5 with ⟨_, _, _, _, _, _, _, _, _, _, hm'⟩ | ⟨k3, hT, s, hs, _, q1, q2, q3, q4, q5⟩
   . rw [<- hm] at hm'
     cases hm'
   . cases hs
     rw [hT] at h4
     rcases hr with ⟨hz', _⟩ | ⟨hz', _⟩ | ⟨hz', _⟩ | ⟨_, _, n, hu⟩
     . omega
     . omega
     . omega
     . exact ⟨h1, h0, k3, h2, n, bp.c, bp.fz, hu, h4, q1, q2, q3, q4, q5⟩
def bldL (t : ByteArray) : List (Nat × List V) := [(0, [.yl 1, .d (.lit (.int .i64 t.size))]), (1, [.d (.lit (.string t)), .d (.lit (.bool false))])]
theorem owns_bytes {e : TypeId} {v : Value} {t : ByteArray} {W : World} {g cap : Nat} (h : W.ownsRowF 0 e 1 v t.size (strCells t)) (hv : v = .slice (some ⟨g, 0, none⟩) t.size cap) (_ : 0 < t.size) :
   ∃ cur, ∃ fz : Nat × Nat, W.heap[g]? = some (.cells cur e fz) /\ cur.size = cap /\ fz.2 <= t.size /\ t.size <= cur.size /\ cur.size <= maxL /\ cur.toList.take t.size = strCells t := by
 rcases h.2 with ⟨hn, _⟩ | ⟨g', cap', cur, fz, hv', _, hb, hfz, hnc, hcm, hcs, ht⟩
 . rw [hv] at hn; cases hn
 . rw [hv] at hv'
   cases hv'
   simp only [Nat.mul_one] at hfz hcs ht
   refine ⟨cur, fz, hb, hcs, hfz, by omega, ?_, ht⟩
   have : maxLen <= maxL := by decide
   omega
theorem wstr_post {G : Gh} {W W' : World} {L : List (Nat × List V)} {v : Value} {t s : ByteArray} (hGW : GW G.Im W) (h0 : 0 < s.size) (hL0 : InH (lk L) 0) (hph : G.ph 0 = false) (hlo : G.lo 0 = true) (hbs : G.bs 0 = 2) (hnim : ¬ G.Im (G.β 0))
   (hv : ∀ k, v.ownBlock = some k -> lentB G (lk L) k /\ ¬ G.Im k) (hw : Wrote bldT bytT (G.β 0) v t.size (strCells t) s W W') :
   ∃ G', Post G W (lk L) [0] (.ret (.tup [.d (.lit (.int .i64 s.size)), .d (.lit .nilIface)])) (lk (bldL (t ++ s))) (.returned (.tuple #[.int .i64 s.size, .nilIface])) W' G' := by
 obtain ⟨g, cap, hb, hown, hgb, hg⟩ := hw.at'
 have hsz : (t ++ s).size = t.size + s.size := ByteArray.size_append
 have hcat : strCells t ++ strCells s = strCells (t ++ s) := by simp [strCells, ByteArray.data_append]
 rw [hcat, <- hsz] at hown
 rw [<- hsz] at hb
 obtain ⟨cur, fz, q1, q2, q3, q4, q5, q6⟩ := owns_bytes hown rfl (by omega)
 have hl0 : lentB G (lk L) (G.β 0) := ⟨0, hL0, hph, rfl⟩
 have hgn : ¬ G.Im g := by
   rcases hg with h | h
   . exact (hv g h.symm).2
   . exact fun hx => absurd (hGW.1 g hx) (by omega)
 have hgl : W.heap.size <= g \/ lentB G (lk L) g := hg.elim (fun h => .inr (hv g h.symm).1) .inl
 refine ⟨{ β := fun i => if i = 0 then G.β 0 else g, bs := fun i => if i = 0 then 2 else cap + 3, ph := fun _ => false, lo := fun _ => true, Im := G.Im }, ⟨hw.os, hw.tape, hw.output, Nat.le_refl _, hw.size, fun b hb' hn => hw.block b hb' (fun e => hn (by rw [e]; exact hl0)) (fun e => hn (hv b e.symm).1), fun b hb' => ⟨Nat.lt_of_lt_of_le (hGW.1 b hb') hw.size, .inl hb'⟩, fun _ h => h, ⟨_, rfl, RD.lit _ rfl, RD.lit _ rfl, trivial⟩, fun c hc => ?_, ?_, ?_, ?_⟩⟩
 . simp only [List.mem_cons, List.not_mem_nil, or_false] at hc
   rcases hc with rfl | rfl <;> trivial
 . intro i cs hi
   simp only [bldL, lk] at hi
   split at hi
   . rename_i e
     subst e
     cases hi
     refine ⟨.inr (.inr ⟨rfl, rfl, hnim, .inr (.inr ⟨Nat.le_refl _, .yl 1, ⟨.int .i64 (t ++ s).size, _, _, _⟩, _, rfl, hb, .inl ⟨rfl, rfl, rfl, _, _, _, (t ++ s).size, rfl, .inr rfl, rfl, rfl⟩, .inr (.inr (.inr ⟨by simp, rfl, _, by simp; rfl⟩)), rfl⟩)⟩), fun _ => .inr hl0, fun c hc => ?_⟩
     simp only [List.mem_cons, List.not_mem_nil, or_false] at hc
     rcases hc with rfl | rfl
     . show InH _ 1
       rfl
     . trivial
   . split at hi
     . rename_i e
       subst e
       cases hi
       refine ⟨.inr (.inr ⟨rfl, rfl, hgn, .inr (.inr ⟨by simp, .d (.lit (.string (t ++ s))), ⟨.bool false, cur, bytT, fz⟩, .string (t ++ s), rfl, q1, .inr ⟨by simp, rfl, _, rfl, rfl, by simpa using q2, q3, q4, q5, q6⟩, RD.lit _ rfl, rfl⟩)⟩), fun _ => by simpa using hgl, fun c hc => ?_⟩
       simp only [List.mem_cons, List.not_mem_nil, or_false] at hc
       rcases hc with rfl | rfl <;> trivial
     . cases hi
 . intro i j hi hj _ _ he
   have hij : ∀ i, InH (lk (bldL (t ++ s))) i -> i = 0 \/ i = 1 := fun i hi => by
     simp only [InH, bldL, lk] at hi
     split at hi
     . exact .inl ‹_›
     . split at hi
       . exact .inr ‹_›
       . cases hi
   rcases hij i hi with rfl | rfl <;> rcases hij j hj with rfl | rfl
   . rfl
   . simp at he; exact absurd he.symm hgb
   . simp at he; exact absurd he hgb
   . rfl
 . intro i hi _
   simp only [List.mem_cons, List.not_mem_nil, or_false] at hi
   subst hi
   exact ⟨rfl, hbs.symm, rfl, hlo.symm⟩
theorem two_args {G : Gh} {W : World} {a b : V} {xs : Array Value} (h : All2 (R2 G W) [a, b] xs.toList) : ∃ u v, xs = #[u, v] /\ R2 G W a u /\ R2 G W b v := by
 obtain ⟨xs⟩ := xs
 match xs, h with
 | [u, v], h => exact ⟨u, v, rfl, h.1, h.2.1⟩
 | [], h => exact h.elim
 | [_], h => exact h.2.elim
 | _ :: _ :: _ :: _, h => exact h.2.2.elim
theorem wstr_first (L : Lays.n166 P ρ) (X : Builder.Extra P ρ) (hT : ρ.t 72 = bldT) (hB : ρ.t 5 = bytT) (hf : isFn P (ρ.f 166)) (s : ByteArray) (h0 : 0 < s.size) (hlen : s.size <= 140737488355328) :
   Cm P (ρ.f 166) [.yl 0, .d (.lit (.string s))] (lk [(0, [.d (.lit (.slice none 0 0)), .d (.lit (.int .i64 0))])]) [0] (.ret (.tup [.d (.lit (.int .i64 s.size)), .d (.lit .nilIface)])) (lk (bldL s)) := by
 refine ⟨hf, fun G W xs hGW hargs hpre => ?_⟩
 obtain ⟨u, v0, rfl, hu, hs⟩ := two_args hargs
 have := rv_lit hs.rv
 subst this
 obtain ⟨q1, q2, q3, q4, rfl, p, v, a, cap, k, hb, hp, hv, hk, hr⟩ := bld_row (hpre.hb 0 _ rfl) rfl hu
 have hvn : v = .slice none 0 0 := rv_lit hr.r2.rv
 subst hvn
 have key := wstr_calls (P := P) L X (G.β 0) p (.slice none 0 0) 0 [] s W (by rw [hT]; exact hb) hp (World.ownsRowF_nil W 0 _ 1) (by simp [Value.ownBlock]) h0 (by omega)
 refine Calls.mono key fun e W' ⟨he, hw⟩ => ?_
 subst he
 rw [hT, hB] at hw
 have := wstr_post (G := G) (L := [(0, [.d (.lit (.slice none 0 0)), .d (.lit (.int .i64 0))])]) (t := ByteArray.empty) hGW h0 (by simp [InH, lk]) q1 q2 q3 q4 (fun k hk => by simp [Value.ownBlock] at hk) hw
 have e0 : ByteArray.empty ++ s = s := ByteArray.ext (by rw [ByteArray.data_append]; exact Array.empty_append)
 rw [e0] at this
 exact this
theorem wstr_next (L : Lays.n166 P ρ) (X : Builder.Extra P ρ) (hT : ρ.t 72 = bldT) (hB : ρ.t 5 = bytT) (hf : isFn P (ρ.f 166)) (t s : ByteArray) (h0 : 0 < s.size) (hlen : t.size + s.size <= 140737488355328) :
   Cm P (ρ.f 166) [.yl 0, .d (.lit (.string s))] (lk (bldL t)) [0] (.ret (.tup [.d (.lit (.int .i64 s.size)), .d (.lit .nilIface)])) (lk (bldL (t ++ s))) := by
 refine ⟨hf, fun G W xs hGW hargs hpre => ?_⟩
 obtain ⟨u, v0, rfl, hu, hs⟩ := two_args hargs
 have := rv_lit hs.rv
 subst this
 obtain ⟨q1, q2, q3, q4, rfl, p, v, a, cap, k, hb, hp, hv, hk, hr⟩ := bld_row (hpre.hb 0 _ rfl) rfl hu
 obtain ⟨r1, r2, r3, r4, n, cur, fz, hv2, hg, c1, c2, c3, c4, c5⟩ := bld_bytes (hpre.hb 1 _ rfl) hr
 have hkt : k = t.size := by omega
 rw [hv] at hv2
 obtain ⟨rfl, rfl, rfl⟩ : a = some ⟨G.β 1, 0, none⟩ /\ k = n /\ cap = G.bs 1 - 3 := by
   cases hv2
   exact ⟨rfl, rfl, rfl⟩
 subst hkt
 subst hv
 have hne : G.β 1 ≠ G.β 0 := fun e => by
   have := hpre.inj 1 0 (by simp [InH, bldL, lk]) (by simp [InH, bldL]) r1 q1 e
   omega
 have hmx : maxL <= maxLen := by decide
 have key := wstr_calls (P := P) L X (G.β 0) p (.slice (some ⟨G.β 1, 0, none⟩) t.size (G.bs 1 - 3)) t.size (strCells t) s W (by rw [hT]; exact hb) hp ⟨by rw [strCells_length]; omega, .inr ⟨G.β 1, G.bs 1 - 3, cur, fz, rfl, Nat.zero_le _, by rw [hB]; exact hg, by omega, by omega, by omega, by omega, by rw [Nat.mul_one]; exact c5⟩⟩ (by simp [Value.ownBlock]; exact hne) h0 hlen
 refine Calls.mono key fun e W' ⟨he, hw⟩ => ?_
 subst he
 rw [hT, hB] at hw
 refine wstr_post (G := G) hGW h0 (by simp [InH, bldL]) q1 q2 q3 q4 (fun k hk => ?_) hw
 simp [Value.ownBlock] at hk
 subst hk
 exact ⟨⟨1, by simp [InH, bldL, lk], r1, rfl⟩, r4⟩
theorem freeze_other (w : World) (g n k : Nat) (h : k ≠ g) : (w.freeze ⟨g, 0, none⟩ n).heap[k]? = w.heap[k]? := by
 unfold World.freeze
 split
 . rfl
 . simp only [Array.getElem?_modify, if_neg (Ne.symm h)]
theorem freeze_rest (w : World) (g n : Nat) : (w.freeze ⟨g, 0, none⟩ n).heap.size = w.heap.size /\ (w.freeze ⟨g, 0, none⟩ n).os = w.os /\ (w.freeze ⟨g, 0, none⟩ n).tape = w.tape /\ (w.freeze ⟨g, 0, none⟩ n).output = w.output := by
 unfold World.freeze
 split <;> simp
theorem bstr_calls (L : Lays.n169 P ρ) (X : Builder.Extra P ρ) (b g cap : Nat) (p : Value) (l : List UInt8) (cur : Array Value) (fz : Nat × Nat) (w : World) (hbk : w.heap[b]? = some (.cells #[p, .slice (some ⟨g, 0, none⟩) l.length cap] (ρ.t 72) (0, 0)))
   (hg : w.heap[g]? = some (.cells cur (ρ.t 5) fz)) (hcs : cur.size = cap) (hnc : l.length <= cap) (hcm : cap <= maxLen) (htake : cur.toList.take l.length = byteCells l) (h0 : l ≠ []) :
   Calls P (ρ.f 169) #[.pointer (some ⟨b, 0, none⟩)] w fun e w' => e = .returned (.string ⟨l.toArray⟩) /\ (∀ k, k ≠ g -> w'.heap[k]? = w.heap[k]?) /\ w'.heap.size = w.heap.size /\ w'.os = w.os /\ w'.tape = w.tape /\ w'.output = w.output := by
 have hl0 : l.length ≠ 0 := by simpa using h0
 have c1 : w.drew.cell? ⟨b, 1, none⟩ = some (.slice (some ⟨g, 0, none⟩) l.length cap) := by
   have : w.drew.heap[b]? = some (.cells #[p, .slice (some ⟨g, 0, none⟩) l.length cap] (ρ.t 72) (0, 0)) := hbk
   rw [cell_of_heap this]; rfl
 have hSD : (Builtin.unsafeSliceData_ #[(ρ.t 37)] (ρ.t 127) #[.slice (some ⟨g, 0, none⟩) l.length cap]).run P w.drew = .ok (.pointer (some ⟨g, 0, none⟩)) w.drew :=
   run_unsafeSliceData_row _ _ _ _ _ _ (by omega)
 have hUS : (Builtin.unsafeString_ #[(ρ.t 127), (ρ.t 3)] (ρ.t 9) #[.pointer (some ⟨g, 0, none⟩), .int .i64 l.length]).run P w.drew = .ok (.string ⟨l.toArray⟩) (w.drew.freeze ⟨g, 0, none⟩ l.length) := by
   have hg' : w.drew.heap[g]? = some (.cells cur (ρ.t 5) fz) := hg
   refine run_unsafeString_row w.drew (ρ.t 127) (ρ.t 3) (ρ.t 9) (ρ.t 5) L.t127 X.cellsByte g cur.size (by simp [World.shape?, hg']) l h0 (by omega) (by unfold maxLen at hcm; omega) ?_
   intro j x hx
   have h1 : (byteCells l)[j]? = some (.int .u8 x.toNat) := by simp [byteCells, hx]
   rw [<- htake, List.getElem?_take] at h1
   split at h1
   . rw [add_plain]
     simp only [World.cell?, hg', Nat.zero_add]
     simpa using h1
   . cases h1
 have hk : ∀ k, k ≠ g -> (w.drew.freeze ⟨g, 0, none⟩ l.length).heap[k]? = w.heap[k]? := fun k hk => freeze_other w.drew g _ k hk
 have hr := freeze_rest w.drew g l.length
 have mixed := L.mixed
 have t72 := L.t72; have a72 := L.a72; have z72 := L.z72; have v72 := L.v72; have u72 := run_underlying L.t72
 have t70 := L.t70; have a70 := L.a70; have z70 := L.z70; have v70 := L.v70; have u70 := run_underlying L.t70
 have t37 := L.t37; have a37 := L.a37; have z37 := L.z37; have v37 := L.v37; have u37 := run_underlying L.t37
 have t127 := L.t127; have a127 := L.a127; have z127 := L.z127; have v127 := L.v127; have u127 := run_underlying L.t127
 have t3 := L.t3; have a3 := L.a3; have z3 := L.z3; have v3 := L.v3; have u3 := run_underlying L.t3
 have t9 := L.t9; have a9 := L.a9; have z9 := L.z9; have v9 := L.v9; have u9 := run_underlying L.t9
 have t5 := X.t5; have a5 := X.a5; have z5 := X.z5; have v5 := X.v5; have u5 := run_underlying X.t5
 go_enter L.f169, Body.n169_ntmps ρ
 go_wp2
 go_region_o
 all_goals (go_wp2; go_ret; exact ⟨rfl, hk, hr⟩)
theorem bstr_cm (L : Lays.n169 P ρ) (X : Builder.Extra P ρ) (hT : ρ.t 72 = bldT) (hB : ρ.t 5 = bytT) (hf : isFn P (ρ.f 169)) (t : ByteArray) (h0 : 0 < t.size) :
   Cm P (ρ.f 169) [.yl 0] (lk (bldL t)) [] (.ret (.d (.lit (.string t)))) (lk []) := by
 refine ⟨hf, fun G W xs hGW hargs hpre => ?_⟩
 obtain ⟨u, rfl, hu⟩ : ∃ u, xs = #[u] /\ R2 G W (.yl 0) u := by
   obtain ⟨xs⟩ := xs
   match xs, hargs with
   | [u], h => exact ⟨u, rfl, h.1⟩
   | [], h => exact h.elim
   | _ :: _ :: _, h => exact h.2.elim
 obtain ⟨q1, q2, q3, q4, rfl, p, v, a, cap, k, hb, hp, hv, hk, hr⟩ := bld_row (hpre.hb 0 _ rfl) rfl hu
 obtain ⟨r1, r2, r3, r4, n, cur, fz, hv2, hg, c1, c2, c3, c4, c5⟩ := bld_bytes (hpre.hb 1 _ rfl) hr
 have hkt : k = t.size := by omega
 rw [hv] at hv2
 obtain ⟨rfl, rfl, rfl⟩ : a = some ⟨G.β 1, 0, none⟩ /\ k = n /\ cap = G.bs 1 - 3 := by
   cases hv2
   exact ⟨rfl, rfl, rfl⟩
 subst hkt
 subst hv
 have hmx : maxL <= maxLen := by decide
 have hts : t.size = t.data.toList.length := by rw [Array.length_toList]; rfl
 have key := bstr_calls (P := P) L X (G.β 0) (G.β 1) (G.bs 1 - 3) p t.data.toList cur fz W (by rw [hT, <- hts]; exact hb) (by rw [hB]; exact hg) c1 (by omega) (by omega) (by rw [<- hts]; exact c5) (by
   intro e; rw [e] at hts; rw [List.length_nil] at hts; omega)
 refine Calls.mono key fun e W' ⟨he, hk, hsz, ho, hta, hou⟩ => ?_
 subst he
 refine ⟨G, ⟨ho, hta, hou, Nat.le_refl _, by omega, fun b hb' hn => hk b fun e => hn ⟨1, by simp [InH, bldL, lk], r1, e.symm⟩, fun b hb' => ⟨by have := hGW.1 b hb'; omega, .inl hb'⟩, fun _ h => h, ?_, trivial, fun i cs h => (by cases h), fun i j h => (by simp [InH, lk] at h), fun i h => (by cases h)⟩⟩
 have : (⟨t.data.toList.toArray⟩ : ByteArray) = t := by cases t; simp
 rw [this]
 exact RD.lit _ rfl
end Go.Psl
namespace Go.Proofs.Tryd
open Go.Psl
open Go.Log
open Go.RowKit
abbrev strsV (l : List By) : List V := l.map fun x => vS x
theorem fn38 (k : Nat) (xs : List By) (sep : By) (h0 : xs ≠ []) (hN : xs.length <= 1000000) (hlen : (Go.Lib.join xs sep).length <= 140737488355328) : Cm prog 38 [.ls k 0 xs.length 1, vS sep] (lk [(k, strsV xs)]) [] (.ret (vS (Go.Lib.join xs sep))) (lk []) := by
 refine ⟨⟨_, func38, by kernel_rfl, by decide⟩, fun G W as0 hGW hargs hpre => ?_⟩
 obtain ⟨u, v0, rfl, hu, hs⟩ := two_args hargs
 have := rv_lit hs.rv
 subst this
 have hx0 : 0 < xs.length := List.length_pos_iff.2 h0
 obtain ⟨_, ⟨_, h, _⟩ | ⟨hph, o, cap, rfl, hcap, ho⟩⟩ := hu
 . omega
 obtain ⟨rfl, _⟩ := ho (by omega)
 obtain ⟨hnim, c, T, hb, hbs, hcl, hcr, _⟩ := (hpre.hb k (strsV xs) (by simp [lk])).read hph
 have hcell : ∀ (j : Nat) (x : ByteArray), (xs.map bs)[j]? = some x -> W.cell? ⟨G.β k, 0 + j, none⟩ = some (.string x) := fun j x hx => by
   rw [List.getElem?_map] at hx
   cases hj : xs[j]? with
   | none => rw [hj] at hx; cases hx
   | some y =>
     rw [hj] at hx
     cases hx
     have hy : (strsV xs)[j]? = some (vS y) := by simp [strsV, hj]
     obtain ⟨z, hz, hr⟩ := hcr.get hy
     rw [List.getElem?_take] at hz
     split at hz
     . have := rv_lit hr.r2.rv
       subst this
       simp only [World.cell?, hb, Nat.zero_add]
       simpa using hz
     . cases hz
 have hmap : (xs.map bs).map (·.data.toList) = xs := by
   rw [List.map_map]
   conv => rhs; rw [<- List.map_id xs]
   exact List.map_congr_left fun x _ => bs_toList x
 have key := Go.Proofs.Any.strings_Join joinL bldXj (G.β k) 0 cap (xs.map bs) (bs sep) W hcell (Array.getElem?_eq_some_iff.1 hb).1 (by simpa using (by omega : xs.length <= 140737488355328)) (by simpa using hcap) (by rw [hmap, bs_toList]; exact hlen)
 rw [hmap, bs_toList, List.length_map] at key
 refine Calls.mono key fun e W' ⟨he, hbw⟩ => ?_
 subst he
 exact ⟨G, ⟨hbw.os, hbw.tape, hbw.output, Nat.le_refl _, hbw.size, fun b hb' _ => hbw.block b hb', fun b hb' => ⟨Nat.lt_of_lt_of_le (hGW.1 b hb') hbw.size, .inl hb'⟩, fun _ h => h, RD.lit _ rfl, trivial, fun i cs h => (by cases h), fun i j h => (by simp [InH, lk] at h), fun i h => (by cases h)⟩⟩
theorem fn19a (s : By) (h0 : 0 < s.length) (hlen : s.length <= 1000000000) : Cm prog 19 [.yl 0, vS s] (lk [(0, [.d (.lit (.slice none 0 0)), vi 0])]) [0] (.ret (.tup [vi s.length, .d (.lit .nilIface)])) (lk (bldL (bs s))) := by
 have := wstr_first wstrL bldX rfl rfl ⟨_, func19, by kernel_rfl, by decide⟩ (bs s) (by rw [bs_size]; exact h0) (by simp only [bs_size]; omega)
 simp only [bs_size] at this
 exact this
theorem fn19b (t s : By) (h0 : 0 < s.length) (hlen : t.length + s.length <= 1000000000) : Cm prog 19 [.yl 0, vS s] (lk (bldL (bs t))) [0] (.ret (.tup [vi s.length, .d (.lit .nilIface)])) (lk (bldL (bs (t ++ s)))) := by
 have := wstr_next wstrL bldX rfl rfl ⟨_, func19, by kernel_rfl, by decide⟩ (bs t) (bs s) (by rw [bs_size]; exact h0) (by simp only [bs_size]; omega)
 simp only [bs_size, bs_append] at this
 exact this
theorem fn22 (t : By) (h0 : 0 < t.length) : Cm prog 22 [.yl 0] (lk (bldL (bs t))) [] (.ret (vS t)) (lk []) :=
 bstr_cm bstrL bldXb rfl rfl ⟨_, func22, by kernel_rfl, by decide⟩ (bs t) (by rw [bs_size]; exact h0)
def sgB (a b i : Nat) : Nat := if i = 0 then a else if i = 1 then b else a + b + i
theorem sgB_inj {a b : Nat} (h : a ≠ b) : ∀ i j, i < 2 -> j < 2 -> sgB a b i = sgB a b j -> i = j := by
 intro i j hi hj he
 unfold sgB at he
 (repeat' split at he) <;> omega
end Go.Proofs.Tryd
namespace Go.Log
def sumS : By -> Int -> Int
 | [], c => c
 | b :: r, c => sumS r ((c * 31 + (b.toNat : Int)) % 673)
theorem u8_lt (b : UInt8) : (b.toNat : Int) < 256 := by have := b.toNat_lt; omega
theorem sumS_bd : ∀ (s : By) (c : Int), 0 <= c -> c <= 1000000 -> 0 <= sumS s c /\ sumS s c <= 1000000
 | [], c, h0, h1 => ⟨h0, h1⟩
 | b :: r, c, h0, h1 => by
   unfold sumS
   exact sumS_bd r _ (Int.emod_nonneg _ (by decide)) (by have := Int.emod_lt_of_pos (c * 31 + (b.toNat : Int)) (show (0 : Int) < 673 by decide); omega)
theorem sumS_lt (s : By) (c : Int) (h0 : 0 <= c) (h1 : c < 673) : 0 <= sumS s c /\ sumS s c < 673 := by
 induction s generalizing c with
 | nil => exact ⟨h0, h1⟩
 | cons b r ih =>
   unfold sumS
   exact ih _ (Int.emod_nonneg _ (by decide)) (Int.emod_lt_of_pos _ (by decide))
theorem sumS_snoc (s : By) (b : UInt8) (c : Int) : sumS (s ++ [b]) c = (sumS s c * 31 + (b.toNat : Int)) % 673 := by
 induction s generalizing c with
 | nil => rfl
 | cons a r ih => simp only [List.cons_append, sumS, ih]
theorem sumS_take {s : By} {i : Nat} {b : UInt8} (h : s[i]? = some b) (c : Int) : sumS (s.take (i + 1)) c = (sumS (s.take i) c * 31 + (b.toNat : Int)) % 673 := by
 rw [List.take_add_one, h]
 exact sumS_snoc _ _ _
def numS (n : Int) : By := Go.Lib.itoa n
def headS (s : By) (n : Int) : By := [76, 79, 71, 32] ++ s ++ [32] ++ numS n
def partsS (x : Etr) : List By := [numS x.t, x.w] ++ x.a.map numS ++ (if x.n = [] then [] else [[59], x.n])
def bodyS (x : Etr) : By := Go.Lib.join (partsS x) [32]
def letS (c : Int) : By := [UInt8.ofNat (97 + c / 26).toNat, UInt8.ofNat (97 + c % 26).toNat]
def lineS (b : By) (c : Int) : By := b ++ [32] ++ letS c ++ [10]
def chkS : Int -> List Etr -> Int
 | c, [] => c
 | c, x :: r => chkS (sumS (bodyS x) c) r
def linesS : Int -> List Etr -> By
 | _, [] => []
 | c, x :: r => lineS (bodyS x) (sumS (bodyS x) c) ++ linesS (sumS (bodyS x) c) r
def textS (l : Lg) : By := lineS (headS l.s l.es.length) (sumS (headS l.s l.es.length) 0) ++ linesS (sumS (headS l.s l.es.length) 0) l.es
theorem chkS_take {es : List Etr} : ∀ {c : Int} {i : Nat} {x : Etr}, es[i]? = some x -> chkS c (es.take (i + 1)) = sumS (bodyS x) (chkS c (es.take i)) := by
 induction es with
 | nil => intro c i x h; simp at h
 | cons y r ih =>
   intro c i x h
   cases i with
   | zero => simp at h; subst h; simp [chkS]
   | succ j =>
     simp at h
     simp only [List.take_succ_cons, chkS]
     exact ih h
theorem linesS_take {es : List Etr} : ∀ {c : Int} {i : Nat} {x : Etr}, es[i]? = some x -> linesS c (es.take (i + 1)) = linesS c (es.take i) ++ lineS (bodyS x) (sumS (bodyS x) (chkS c (es.take i))) := by
 induction es with
 | nil => intro c i x h; simp at h
 | cons y r ih =>
   intro c i x h
   cases i with
   | zero => simp at h; subst h; simp [linesS, chkS]
   | succ j =>
     simp at h
     simp only [List.take_succ_cons, linesS, chkS, List.append_assoc]
     rw [ih h]
theorem chkS_lt : ∀ (es : List Etr) (c : Int), 0 <= c -> c < 673 -> 0 <= chkS c es /\ chkS c es < 673
 | [], c, h0, h1 => ⟨h0, h1⟩
 | x :: r, c, h0, h1 => by
   have := sumS_lt (bodyS x) c h0 h1
   exact chkS_lt r _ this.1 this.2
theorem nDigits_le : ∀ (k u : Nat), u < 10 ^ (k + 1) -> Go.Lib.nDigits u <= k + 1
 | 0, u, h => by rw [Go.Lib.nDigits_small (by simpa using h)]; omega
 | k + 1, u, h => by
   by_cases hu : u < 10
   . rw [Go.Lib.nDigits_small hu]; omega
   . rw [Go.Lib.nDigits_big hu]
     have := nDigits_le k (u / 10) (by rw [Nat.div_lt_iff_lt_mul (by decide)]; rw [Nat.pow_succ] at h; omega)
     omega
theorem numS_len (n : Int) (h0 : -10000000000 < n) (h1 : n < 10000000000) : (numS n).length <= 11 := by
 unfold numS Go.Lib.itoa
 split
 . simp only [List.length_cons, Go.Lib.decDigits_length]
   have := nDigits_le 9 n.natAbs (by omega)
   omega
 . rw [Go.Lib.decDigits_length]
   have := nDigits_le 9 n.toNat (by omega)
   omega
theorem joinTail_len (sep : By) (m : Nat) : ∀ (r : List By), (∀ x ∈ r, x.length <= m) -> (Go.Lib.joinTail sep r).length <= r.length * (sep.length + m)
 | [], _ => by simp [Go.Lib.joinTail]
 | x :: r, h => by
   have h1 := h x (by simp)
   have ih := joinTail_len sep m r fun y hy => h y (by simp [hy])
   simp only [Go.Lib.joinTail, List.map_cons, List.flatten_cons, List.length_append, List.length_cons] at ih ⊢
   rw [Nat.add_mul]
   omega
theorem join_len (sep : By) (m : Nat) (xs : List By) (h : ∀ x ∈ xs, x.length <= m) : (Go.Lib.join xs sep).length <= xs.length * (sep.length + m) := by
 cases xs with
 | nil => simp [Go.Lib.join, List.intercalate]
 | cons x r =>
   rw [Go.Lib.join_cons]
   have h1 := h x (by simp)
   have ih := joinTail_len sep m r fun y hy => h y (by simp [hy])
   simp only [List.length_append, List.length_cons]
   rw [Nat.add_mul]
   omega
theorem entS_parts {x : Etr} (h : entS x = true) : (∀ y ∈ partsS x, y.length <= 40) /\ (partsS x).length <= 10 := by
 simp only [entS, wordS, madeS, betw, Bool.and_eq_true, decide_eq_true_eq] at h
 obtain ⟨⟨⟨⟨⟨ht0, ht1⟩, _, hw0, hw1⟩, ha⟩, hag⟩, hn⟩ := h
 have hnl : x.n.length <= 40 := by
   simp only [noteS, madeS, betw, Bool.or_eq_true, Bool.and_eq_true, decide_eq_true_eq] at hn
   rcases hn with hn | ⟨_, _, _, hn⟩
   . rw [hn]; simp
   . omega
 constructor
 . intro y hy
   simp only [partsS, List.mem_append, List.mem_cons, List.not_mem_nil, or_false, List.mem_map] at hy
   rcases hy with ((rfl | rfl) | ⟨n, hn', rfl⟩) | hy
   . have := numS_len x.t (by omega) (by omega); omega
   . omega
   . have := List.all_eq_true.1 hag n hn'
     simp only [argB, betw, Bool.and_eq_true, decide_eq_true_eq] at this
     have := numS_len n (by omega) (by omega); omega
   . split at hy
     . cases hy
     . simp only [List.mem_cons, List.not_mem_nil, or_false] at hy
       rcases hy with rfl | rfl
       . simp
       . exact hnl
 . simp only [partsS, List.length_append, List.length_cons, List.length_nil, List.length_map]
   split <;> simp <;> omega
theorem body_len {x : Etr} (h : entS x = true) : (bodyS x).length <= 410 := by
 obtain ⟨h1, h2⟩ := entS_parts h
 have := join_len [32] 40 (partsS x) h1
 unfold bodyS
 simp only [List.length_cons, List.length_nil] at this
 omega
theorem line_len (b : By) (c : Int) : (lineS b c).length = b.length + 4 := by simp [lineS, letS]
theorem lines_len : ∀ (es : List Etr) (c : Int), (∀ x ∈ es, entS x = true) -> (linesS c es).length <= es.length * 414
 | [], _, _ => by simp [linesS]
 | x :: r, c, h => by
   have h1 := body_len (h x (by simp))
   have ih := lines_len r (sumS (bodyS x) c) fun y hy => h y (by simp [hy])
   simp only [linesS, List.length_append, line_len, List.length_cons]
   omega
theorem ordS_ents {es : List Etr} {last : Int} (h : ordS last es = true) : ∀ x ∈ es, entS x = true := by
 intro x hx
 obtain ⟨i, hi⟩ := List.getElem?_of_mem hx
 exact (ordS_drop h hi).1
end Go.Log
namespace Go.Proofs.Tryd
open Go.Psl
open Go.Log
theorem w_u8 (b : UInt8) : IntKind.wrap .i64 (b.toNat : Int) = (b.toNat : Int) := by have := u8_lt b; rw [wrap64 (by omega) (by omega)]
theorem fn35 (s : By) (c : Int) (h0 : 0 <= c) (h1 : c <= 1000000) (hl : s.length <= 1000000000) : Ct prog 35 [vS s, vi c] (vi (sumS s c)) [] := by
 refine CB func35 c35 fun E hE => ?_
 simp [p35]
 refine pw_loop (α := Nat) (fun i => ⟨slots [(0, vS s), (1, vi (sumS (s.take i) c)), (7, vi s.length), (8, vi i)], lk [], 0⟩) (fun i => i <= s.length) (fun i => s.length - i) 0 ?_ ?_ ?_
 . omega
 . refine Weak.mk hE (lk []) _ _ _ ?_ ?_ ?_ ?_ ?_ <;> simp [sumS]
 . intro i hi
   have hz := @wz i (by omega)
   by_cases h : i < s.length
   . obtain ⟨b, hb⟩ := gE h
     have hI : (i : Int) < s.length := by omega
     have hbd := sumS_bd (s.take i) c h0 h1
     have hb8 := u8_lt b
     have hw1 : IntKind.wrap .i64 (sumS (s.take i) c * 31) = sumS (s.take i) c * 31 := wrap64 (by omega) (by omega)
     have hw2 : IntKind.wrap .i64 (sumS (s.take i) c * 31 + (b.toNat : Int)) = sumS (s.take i) c * 31 + (b.toNat : Int) := wrap64 (by omega) (by omega)
     have hrem : (sumS (s.take i) c * 31 + (b.toNat : Int)).tmod 673 = sumS (s.take (i + 1)) c := by
       rw [sumS_take hb, Int.tmod_eq_emod_of_nonneg (by omega)]
     simp [p35l0, hI, hb, w_u8, hw1, hw2, hz, hrem]
     refine ⟨i + 1, by omega, by omega, ?_⟩
     exact WK hE (lk [])
   . have hI : ¬ (i : Int) < s.length := by omega
     have e : s.take i = s := List.take_of_length_le (by omega)
     simp [p35l0, hI]
     apply RZ
     simp [results35, e]
theorem fn20 (s : By) (n : Int) (hs : s.length <= 1000000) (h0 : -10000000000 < n) (h1 : n < 10000000000) : Ct prog 20 [vS s, vi n] (vS (headS s n)) [] := by
 have hl := numS_len n h0 h1
 have c1 := fn37 n (by omega) (by omega)
 change Ct prog _ _ (vS (numS n)) _ at c1
 have b1 : 4 + s.length <= 9223372036854775807 := by omega
 have b2 : s.length + 1 + 1 + 1 + 1 + 1 <= 9223372036854775807 := by omega
 have b3 : s.length + 1 + 1 + 1 + 1 + 1 + (numS n).length <= 9223372036854775807 := by omega
 refine CB func20 c20 fun E hE => ?_
 simp [p20, b1, b2]
 refine CLa c1 ?_
 simp [b3]
 apply RZ
 simp [results20, headS]
theorem numE {x : Etr} (h : entS x = true) : 0 <= x.t /\ x.t <= 1000000 /\ x.a.length <= 6 /\ ∀ n ∈ x.a, -1000000000 <= n /\ n <= 1000000000 := by
 simp only [entS, betw, Bool.and_eq_true, decide_eq_true_eq] at h
 refine ⟨h.1.1.1.1.1, h.1.1.1.1.2, h.1.1.2, fun n hn => ?_⟩
 have := List.all_eq_true.1 h.1.2 n hn
 simpa [argB, betw] using this
abbrev strL (x : By) : List D := [dS x]
theorem hfs : ∀ x : By, (strL x).length = 1 := fun _ => rfl
theorem strsV_eq (l : List By) : strsV l = fcel strL l := by
 induction l with
 | nil => rfl
 | cons a l ih => rw [fcel_cons, <- ih]; rfl
def bodyL (x : Etr) (i : Nat) : List By := [numS x.t, x.w] ++ (x.a.take i).map numS
theorem bodyL_zero (x : Etr) : fcel strL (bodyL x 0) = [vS (numS x.t), vS x.w] := by simp [bodyL, fcel]
theorem bodyL_succ {x : Etr} {i : Nat} {n : Int} (h : x.a[i]? = some n) : bodyL x (i + 1) = bodyL x i ++ [numS n] := by
 simp [bodyL, List.take_add_one, h]
theorem bodyL_len {x : Etr} {i : Nat} (h : i <= x.a.length) : (bodyL x i).length = i + 2 := by
 simp [bodyL]; omega
theorem body_none {x : Etr} (h : x.n = []) : partsS x = bodyL x x.a.length := by simp [partsS, bodyL, h]
theorem body_some {x : Etr} (h : ¬ x.n = []) : partsS x = bodyL x x.a.length ++ [[59], x.n] := by simp [partsS, bodyL, h]
theorem fn38f (k : Nat) (xs : List By) (sep : By) (n : Nat) (hn : xs.length = n) (h0 : 0 < n) (hN : n <= 1000000) (hlen : (Go.Lib.join xs sep).length <= 1000000000) : Cm prog 38 [.ls k 0 n 1, vS sep] (lk [(k, fcel strL xs)]) [] (.ret (vS (Go.Lib.join xs sep))) (lk []) := by
 have h := fn38 k xs sep (fun e => by rw [e] at hn; simp at hn; omega) (by omega) (by omega)
 rw [strsV_eq, hn] at h
 exact h
theorem fn21 (x : Etr) (hx : entS x = true) : Ct prog 21 [entV x] (vS (bodyS x)) [] := by
 obtain ⟨t0, t1, hal, hag⟩ := numE hx
 obtain ⟨hp1, hp2⟩ := entS_parts hx
 have hjl : (bodyS x).length <= 410 := body_len hx
 have c1 := fn37 x.t (by omega) (by omega)
 change Ct prog _ _ (vS (numS x.t)) _ at c1
 refine CB func21 c21 fun E hE => ?_
 simp [p21, inC, Nat.testBit]
 refine CLa c1 ?_
 simp [splice, repl]
 refine pw_loop (α := Nat) (fun i => ⟨slots [(1, .lp 0 0), (3, .ls 1 0 (i + 2) 1), (13, .d (intsD x.a)), (14, vi x.a.length), (15, vi i)], lk [(0, [vi x.t, vS x.w, .d (intsD x.a), vS x.n]), (1, fcel strL (bodyL x i))], 2⟩) (fun i => i <= x.a.length) (fun i => x.a.length - i) 0 ?_ ?_ ?_
 . omega
 . rw [bodyL_zero]
   exact WK hE (lk [(0, 0), (1, 7340032)])
 . intro i hi
   have hsl := fcel_len hfs (bodyL x i)
   have hwh := fcel_whole hfs (bodyL x i)
   rw [bodyL_len hi, Nat.mul_one] at hsl hwh
   by_cases h : i < x.a.length
   . obtain ⟨n, hn⟩ := gE h
     have hz := @wz i (by omega)
     have hI : (i : Int) < x.a.length := by omega
     obtain ⟨g0, g1⟩ := hag n (List.mem_of_getElem? hn)
     have c2 := fn37 n (by omega) (by omega)
     change Ct prog _ _ (vS (numS n)) _ at c2
     have n1 : (i + 2 + 1) * 16 <= 140737488355328 := by omega
     have n2 : i + 2 + 1 <= 9223372036854775807 := by omega
     simp [p21l0, hI, hn]
     refine CLa c2 ?_
     simp [splice, repl, hz, hsl, hwh, n1, n2]
     refine ⟨i + 1, by omega, by omega, ?_⟩
     rw [bodyL_succ hn, fcel_one]
     refine Weak.mk hE (lk [(0, 0), (1, 8388610)]) _ _ _ ?_ ?_ ?_ ?_ ?_ <;> simp [(show i + 2 + 1 = i + 1 + 2 by omega)]
   . have hI : ¬ (i : Int) < x.a.length := by omega
     have e : i = x.a.length := by omega
     subst e
     by_cases hnn : x.n = []
     . have c3 := fn38f 1 (bodyL x x.a.length) [32] (x.a.length + 2) (bodyL_len hi) (by omega) (by omega) (by rw [<- body_none hnn]; show (bodyS x).length <= _; omega)
       change Cm prog _ _ _ _ (.ret (vS (Go.Lib.join (bodyL x x.a.length) [32]))) _ at c3
       have hb : Go.Lib.join (bodyL x x.a.length) [32] = bodyS x := by rw [<- body_none hnn]; rfl
       rw [hb] at c3
       simp [p21l0, hI, hnn]
       refine CRs c3 (by simp) ?_
       simp
       apply RZ
       simp [results21]
     . have n1 : (x.a.length + 2 + 2) * 16 <= 140737488355328 := by omega
       have n2 : x.a.length + 2 + 2 <= 9223372036854775807 := by omega
       have ef : fcel strL (bodyL x x.a.length) ++ [vS [59], vS x.n] = fcel strL (partsS x) := by rw [body_some hnn, <- fcel_app]; rfl
       have c3 := fn38f 8388610 (partsS x) [32] (x.a.length + 2 + 2) (by rw [body_some hnn, List.length_append, bodyL_len hi]; rfl) (by omega) (by omega) (by show (bodyS x).length <= _; omega)
       change Cm prog _ _ _ _ (.ret (vS (bodyS x))) _ at c3
       rw [<- ef] at c3
       simp [p21l0, hI, hnn, splice, repl, hsl, hwh, n1, n2]
       refine CRs c3 (by simp) ?_
       simp
       apply RZ
       simp [results21]
theorem wrapu8 {x : Int} (h1 : 0 <= x) (h2 : x < 256) : IntKind.wrap .u8 x = x := by
 have : x % 256 = x := by omega
 simpa [IntKind.wrap, IntKind.bits, IntKind.signed] using this
theorem fn34 (b : By) (c : Int) (h0 : 0 <= c) (h1 : c < 673) (hl : b.length <= 1000000) : Cm prog 34 [vS b, .lp 0 0] (lk [(0, [vi c])]) [0] (.ret (vS (lineS b (sumS b c)))) (lk [(0, [vi (sumS b c)])]) := by
 have c1 := fn35 b c h0 (by omega) (by omega)
 obtain ⟨s0, s1⟩ := sumS_lt b c h0 h1
 generalize hs : sumS b c = s at *
 have q1 : s.tdiv 26 = s / 26 := Int.tdiv_eq_ediv_of_nonneg s0
 have q2 : s.tmod 26 = s % 26 := Int.tmod_eq_emod_of_nonneg s0
 have d1 : 0 <= s / 26 /\ s / 26 < 26 := by omega
 have d2 : 0 <= s % 26 /\ s % 26 < 26 := by omega
 have w1 : IntKind.wrap .i64 (s / 26) = s / 26 := wrap64 (by omega) (by omega)
 have w2 : IntKind.wrap .u8 (s / 26) = s / 26 := wrapu8 (by omega) (by omega)
 have w3 : IntKind.wrap .u8 (97 + s / 26) = 97 + s / 26 := wrapu8 (by omega) (by omega)
 have w4 : IntKind.wrap .u8 (s % 26) = s % 26 := wrapu8 (by omega) (by omega)
 have w5 : IntKind.wrap .u8 (97 + s % 26) = 97 + s % 26 := wrapu8 (by omega) (by omega)
 have k1 : (0 : Int) <= 97 + s / 26 /\ 97 + s / 26 < 256 := by omega
 have k2 : (0 : Int) <= 97 + s % 26 /\ 97 + s % 26 < 256 := by omega
 have b1 : b.length + 1 <= 9223372036854775807 := by omega
 have b2 : b.length + 1 + 1 + 1 <= 9223372036854775807 := by omega
 have b3 : b.length + 1 + 1 + 1 + 1 <= 9223372036854775807 := by omega
 refine CM 1 func34 c34 fun E hs hE => ?_
 simp [p34]
 refine CLa c1 ?_
 simp [splice, repl, q1, q2, w1, w2, w3, w4, w5, k1, k2, b1, b2, b3]
 refine RetOk.by (lk [(0, 0)]) ?_
 simp [results34, lineS, letS]
theorem fn18 : Ct prog 18 [] (.cl 34 [.lp 0 0]) [(0, [vi 0])] := by
 refine CB func18 c18 fun E hE => ?_
 simp [p18, splice]
 refine RetOk.by (lk [(0, 1048576)]) ?_
 simp [results18]
theorem bld_at1 (a b : Nat) (hab : a ≠ b) (s : By) (h0 : 0 < s.length) (hlen : s.length <= 1000000000) : Cm prog 19 [.yl a, vS s] (lk [(a, [.d (.lit (.slice none 0 0)), vi 0])]) [a] (.ret (.tup [vi s.length, .d (.lit .nilIface)])) (lk [(a, [.yl b, vi s.length]), (b, [vS s, vb false])]) := by
 have := (fn19a s h0 hlen).rename (sgB a b) 2 (sgB_inj hab) (by simp [idsLt]) (by simp [idsLt, bldL]) (by simp)
 simpa [renL, bldL, renR, renC, ren1, ren0, ren2, ren, sgB] using this
theorem bld_at2 (a b : Nat) (hab : a ≠ b) (t s : By) (h0 : 0 < s.length) (hlen : t.length + s.length <= 1000000000) : Cm prog 19 [.yl a, vS s] (lk [(a, [.yl b, vi t.length]), (b, [vS t, vb false])]) [a] (.ret (.tup [vi s.length, .d (.lit .nilIface)])) (lk [(a, [.yl b, vi (t ++ s).length]), (b, [vS (t ++ s), vb false])]) := by
 have := (fn19b t s h0 hlen).rename (sgB a b) 2 (sgB_inj hab) (by simp [idsLt, bldL]) (by simp [idsLt, bldL]) (by simp)
 simpa [renL, bldL, renR, renC, ren1, ren0, ren2, ren, sgB] using this
theorem bld_text (a b : Nat) (hab : a ≠ b) (t : By) (h0 : 0 < t.length) : Cm prog 22 [.yl a] (lk [(a, [.yl b, vi t.length]), (b, [vS t, vb false])]) [] (.ret (vS t)) (lk []) := by
 have := (fn22 t h0).rename (sgB a b) 2 (sgB_inj hab) (by simp [idsLt, bldL]) (by simp [idsLt]) (by simp)
 simpa [renL, bldL, renR, renC, ren1, ren0, ren2, ren, sgB] using this
theorem seal_at (k : Nat) (b : By) (c : Int) (h0 : 0 <= c) (h1 : c < 673) (hl : b.length <= 1000000) : Cm prog 34 [vS b, .lp k 0] (lk [(k, [vi c])]) [k] (.ret (vS (lineS b (sumS b c)))) (lk [(k, [vi (sumS b c)])]) := by
 have := (fn34 b c h0 h1 hl).rename (fun _ => k) 1 (by omega) (by simp) (by simp) (by simp)
 simpa [renL, renR, renC, ren1, ren0, ren2, ren] using this
theorem fn10no (l : Lg) (hs : SizedL l) (h : okLg l = false) : Ct prog 10 [logV l] (.tup [vS [], vi 90]) [] := by
 have c1 := fn12 l hs
 rw [h] at c1
 refine CB func10 c10 fun E hE => ?_
 simp [p10]
 refine CLa c1 ?_
 simp
 apply RZ
 simp [results10]
theorem okLg_all {l : Lg} (h : okLg l = true) : shipS l.s = true /\ l.es.length <= 200 /\ ordS 0 l.es = true := by
 simp only [okLg, Bool.and_eq_true, decide_eq_true_eq] at h
 exact ⟨h.1.1, h.1.2, h.2⟩
theorem ship_len {s : By} (h : shipS s = true) : 1 <= s.length /\ s.length <= 8 := by
 simp only [shipS, madeS, betw, Bool.and_eq_true, decide_eq_true_eq] at h
 omega
theorem head_len (s : By) (n : Int) : (headS s n).length = s.length + 5 + (numS n).length := by simp [headS]; omega
def chK (l : Lg) (i : Nat) : Int := chkS (sumS (headS l.s l.es.length) 0) (l.es.take i)
def txK (l : Lg) (i : Nat) : By := lineS (headS l.s l.es.length) (sumS (headS l.s l.es.length) 0) ++ linesS (sumS (headS l.s l.es.length) 0) (l.es.take i)
theorem txK_zero (l : Lg) : txK l 0 = lineS (headS l.s l.es.length) (sumS (headS l.s l.es.length) 0) := by simp [txK, linesS]
theorem chK_zero (l : Lg) : chK l 0 = sumS (headS l.s l.es.length) 0 := by simp [chK, chkS]
theorem txK_all {l : Lg} {i : Nat} (h : l.es.length <= i) : txK l i = textS l := by unfold txK textS; rw [List.take_of_length_le h]
theorem txK_len {l : Lg} (h : okLg l = true) (i : Nat) : 1 <= (txK l i).length /\ (txK l i).length <= 100000 := by
 obtain ⟨h1, h2, h3⟩ := okLg_all h
 have q1 := ship_len h1
 have q2 := numS_len l.es.length (by omega) (by omega)
 have q3 := head_len l.s l.es.length
 have q4 := lines_len (l.es.take i) (sumS (headS l.s l.es.length) 0) fun x hx => ordS_ents h3 x (List.mem_of_mem_take hx)
 have q5 : (l.es.take i).length <= 200 := by simp; omega
 unfold txK
 rw [List.length_append, line_len]
 omega
theorem fn10ok (l : Lg) (hs : SizedL l) (h : okLg l = true) : Ct prog 10 [logV l] (.tup [vS (textS l), vi 0]) [] := by
 have c1 := fn12 l hs
 rw [h] at c1
 obtain ⟨h1, h2, h3⟩ := okLg_all h
 have q1 := ship_len h1
 have q2 := numS_len l.es.length (by omega) (by omega)
 have q3 := head_len l.s l.es.length
 have c2 := fn20 l.s l.es.length (by omega) (by omega) (by omega)
 refine CB func10 c10 fun E hE => ?_
 simp [p10]
 refine CLa c1 ?_
 simp
 refine CLa fn18 ?_
 simp
 refine CLa c2 ?_
 simp
 have hhl : (headS l.s l.es.length).length <= 30 := by omega
 have hs0 := sumS_lt (headS l.s l.es.length) 0 (by omega) (by omega)
 have hT := txK_len h
 refine CRs (seal_at 8388608 (headS l.s l.es.length) 0 (by omega) (by omega) (by omega)) (by simp) ?_
 simp
 refine CRs (bld_at1 10485760 1 (by omega) (lineS (headS l.s l.es.length) (sumS (headS l.s l.es.length) 0)) (by rw [line_len]; omega) (by rw [line_len]; omega)) (by simp) ?_
 simp
 refine pw_loop (α := Nat) (fun i => ⟨slots [(5, .cl 34 [.lp 0 0]), (6, .yl 1), (25, .d (entsD l.es)), (26, vi l.es.length), (27, vi i)], lk [(0, [vi (chK l i)]), (1, [.yl 2, vi (txK l i).length]), (2, [vS (txK l i), vb false])], 3⟩) (fun i => i <= l.es.length) (fun i => l.es.length - i) 0 ?_ ?_ ?_
 . omega
 . rw [chK_zero, txK_zero]
   exact WK hE (lk [(0, 8388608), (1, 10485760), (2, 19922945)])
 . intro i hi
   have hT2 := hT i
   by_cases hi2 : i < l.es.length
   . obtain ⟨x, hx⟩ := gE hi2
     have hz := @wz i (by omega)
     have hI : (i : Int) < l.es.length := by omega
     have hxe := ordS_ents h3 x (List.mem_of_getElem? hx)
     have hbl := body_len hxe
     have hc := chkS_lt (l.es.take i) _ hs0.1 hs0.2
     have e1 : sumS (bodyS x) (chK l i) = chK l (i + 1) := by unfold chK; rw [chkS_take hx]
     have e2 : txK l i ++ lineS (bodyS x) (chK l (i + 1)) = txK l (i + 1) := by
       rw [<- e1]
       unfold txK chK
       rw [linesS_take hx, List.append_assoc]
     have hT3 := hT (i + 1)
     have d1 := seal_at 0 (bodyS x) (chK l i) hc.1 hc.2 (by omega)
     rw [e1] at d1
     have d2 := bld_at2 1 2 (by omega) (txK l i) (lineS (bodyS x) (chK l (i + 1))) (by rw [line_len]; omega) (by rw [line_len]; omega)
     rw [e2] at d2
     simp [p10l0, hI, hx, splice]
     refine CLa (fn21 x hxe) ?_
     simp
     refine CRs d1 (by simp) ?_
     simp
     refine CRs d2 (by simp) ?_
     simp [hz]
     refine ⟨i + 1, by omega, by omega, ?_⟩
     exact WK hE (lk [(0, 0), (1, 1), (2, 9437189)])
   . have hI : ¬ (i : Int) < l.es.length := by omega
     have d1 := bld_text 1 2 (by omega) (txK l i) (by omega)
     rw [txK_all (show l.es.length <= i by omega)] at d1 ⊢
     simp [p10l0, hI]
     refine CRs d1 (by simp) ?_
     simp
     apply RZ
     simp [results10]
theorem num_neg {n : Int} (h : n < 0) : numS n = 45 :: numS (-n) := by
 unfold numS Go.Lib.itoa
 rw [if_pos h, if_neg (by omega)]
 congr 2
 omega
theorem num_one {n : Int} (h0 : 0 <= n) (h1 : n < 10) : numS n = [UInt8.ofNat (48 + n).toNat] := by
 unfold numS Go.Lib.itoa
 rw [if_neg (by omega), Go.Lib.decDigits_one (by omega)]
 congr 2
 omega
theorem num_two {n : Int} (h : 10 <= n) : numS n = numS (n / 10) ++ numS (n % 10) := by
 rw [num_one (n := n % 10) (by omega) (by omega)]
 unfold numS Go.Lib.itoa
 rw [if_neg (by omega), if_neg (by omega), Go.Lib.decDigits, dif_neg (by omega)]
 congr 2
 . congr 1; omega
 . congr 1; omega
theorem num_len13 (n : Int) (h0 : -100000000000000 < n) (h1 : n < 100000000000000) : (numS n).length <= 15 := by
 unfold numS Go.Lib.itoa
 split
 . simp only [List.length_cons, Go.Lib.decDigits_length]
   have := nDigits_le 13 n.natAbs (by omega)
   omega
 . rw [Go.Lib.decDigits_length]
   have := nDigits_le 13 n.toNat (by omega)
   omega
theorem number_nn (m : Nat) : ∀ n : Int, 0 <= n -> n.toNat <= m -> n < 100000000000000 -> Ct prog 39 [vi n] (vS (numS n)) [] := by
 induction m using Nat.strongRecOn with
 | _ m ih =>
   intro n h0 h1 h2
   have hn0 : ¬ n < 0 := by omega
   by_cases h : n < 10
   . have w1 : IntKind.wrap .i64 (48 + n) = 48 + n := wrap64 (by omega) (by omega)
     have w2 : IntKind.wrap .u8 (48 + n) = 48 + n := wrapu8 (by omega) (by omega)
     have k1 : (0 : Int) <= 48 + n /\ 48 + n < 256 := by omega
     refine CB func39 c39 fun E hE => ?_
     simp [p39, hn0, h, w1, w2, k1, splice, repl]
     apply RZ
     simp [results39, num_one h0 h]
   . have q1 : n.tdiv 10 = n / 10 := Int.tdiv_eq_ediv_of_nonneg h0
     have q2 : n.tmod 10 = n % 10 := Int.tmod_eq_emod_of_nonneg h0
     have w1 : IntKind.wrap .i64 (n / 10) = n / 10 := wrap64 (by omega) (by omega)
     have c1 := ih (n / 10).toNat (by omega) (n / 10) (by omega) (by omega) (by omega)
     have c2 := ih (n % 10).toNat (by omega) (n % 10) (by omega) (by omega) (by omega)
     have l1 := num_len13 (n / 10) (by omega) (by omega)
     have l2 := num_len13 (n % 10) (by omega) (by omega)
     have b1 : (numS (n / 10)).length + (numS (n % 10)).length <= 9223372036854775807 := by omega
     refine CB func39 c39 fun E hE => ?_
     simp [p39, hn0, h, q1, w1]
     refine CLa c1 ?_
     simp [q2]
     refine CLa c2 ?_
     simp [b1]
     apply RZ
     simp [results39, num_two (n := n) (by omega)]
theorem fn39 (n : Int) (h0 : -100000000000000 < n) (h1 : n < 100000000000000) : Ct prog 39 [vi n] (vS (numS n)) [] := by
 by_cases h : n < 0
 . have c1 := number_nn _ (-n) (by omega) (Nat.le_refl _) (by omega)
   have w1 : IntKind.wrap .i64 (-n) = -n := wrap64 (by omega) (by omega)
   have l1 := num_len13 (-n) (by omega) (by omega)
   have b1 : 1 + (numS (-n)).length <= 9223372036854775807 := by omega
   have b2 : (numS (-n)).length + 1 <= 9223372036854775807 := by omega
   refine CB func39 c39 fun E hE => ?_
   simp [p39, h, w1]
   refine CLa c1 ?_
   simp [b1]
   apply RZ
   simp [results39, num_neg h]
 . exact number_nn _ n (by omega) (Nat.le_refl _) h1
theorem fn24 (s : By) (c : Int) (h0 : 0 <= c) (h1 : c <= 1000000) (hl : s.length <= 1000000000) : Ct prog 24 [vS s, vi c] (vi (sumS s c)) [] := by
 refine CB func24 c24 fun E hE => ?_
 simp [p24]
 refine pw_loop (α := Nat) (fun i => ⟨slots [(0, vS s), (5, vi (sumS (s.take i) c)), (6, vi i)], lk [], 0⟩) (fun i => i <= s.length) (fun i => s.length - i) 0 ?_ ?_ ?_
 . omega
 . refine Weak.mk hE (lk []) _ _ _ ?_ ?_ ?_ ?_ ?_ <;> simp [sumS]
 . intro i hi
   have hz := @wz i (by omega)
   by_cases h : i < s.length
   . obtain ⟨b, hb⟩ := gE h
     have hI : (i : Int) < s.length := by omega
     have hbd := sumS_bd (s.take i) c h0 h1
     have hb8 := u8_lt b
     have hw1 : IntKind.wrap .i64 (sumS (s.take i) c * 31) = sumS (s.take i) c * 31 := wrap64 (by omega) (by omega)
     have hw2 : IntKind.wrap .i64 (sumS (s.take i) c * 31 + (b.toNat : Int)) = sumS (s.take i) c * 31 + (b.toNat : Int) := wrap64 (by omega) (by omega)
     have hrem : (sumS (s.take i) c * 31 + (b.toNat : Int)).tmod 673 = sumS (s.take (i + 1)) c := by
       rw [sumS_take hb, Int.tmod_eq_emod_of_nonneg (by omega)]
     simp [p24l0, hI, hb, w_u8, hw1, hw2, hz, hrem]
     refine ⟨i + 1, by omega, by omega, ?_⟩
     exact WK hE (lk [])
   . have hI : ¬ (i : Int) < s.length := by omega
     have e : s.take i = s := List.take_of_length_le (by omega)
     simp [p24l0, hI]
     apply RZ
     simp [results24, e]
theorem fn25 (s : Int) (s0 : 0 <= s) (s1 : s < 673) : Ct prog 25 [vi s] (vS (letS s)) [] := by
 have q1 : s.tdiv 26 = s / 26 := Int.tdiv_eq_ediv_of_nonneg s0
 have q2 : s.tmod 26 = s % 26 := Int.tmod_eq_emod_of_nonneg s0
 have d1 : 0 <= s / 26 /\ s / 26 < 26 := by omega
 have d2 : 0 <= s % 26 /\ s % 26 < 26 := by omega
 have w1 : IntKind.wrap .i64 (s / 26) = s / 26 := wrap64 (by omega) (by omega)
 have w2 : IntKind.wrap .i64 (97 + s / 26) = 97 + s / 26 := wrap64 (by omega) (by omega)
 have w3 : IntKind.wrap .u8 (97 + s / 26) = 97 + s / 26 := wrapu8 (by omega) (by omega)
 have w4 : IntKind.wrap .i64 (97 + s % 26) = 97 + s % 26 := wrap64 (by omega) (by omega)
 have w5 : IntKind.wrap .u8 (97 + s % 26) = 97 + s % 26 := wrapu8 (by omega) (by omega)
 have k1 : (0 : Int) <= 97 + s / 26 /\ 97 + s / 26 < 256 := by omega
 have k2 : (0 : Int) <= 97 + s % 26 /\ 97 + s % 26 < 256 := by omega
 refine CB func25 c25 fun E hE => ?_
 simp [p25, splice, repl, q1, q2, w1, w2, w3, w4, w5, k1, k2]
 apply RZ
 simp [results25, letS]
theorem fn23 (s : By) (n : Int) (hs : s.length <= 1000000) (h0 : -10000000000 < n) (h1 : n < 10000000000) : Ct prog 23 [vS s, vi n] (vS (headS s n)) [] := by
 have hl := numS_len n h0 h1
 have c1 := fn39 n (by omega) (by omega)
 have b1 : 4 + s.length <= 9223372036854775807 := by omega
 have b2 : s.length + 1 + 1 + 1 + 1 + 1 <= 9223372036854775807 := by omega
 have b3 : s.length + 1 + 1 + 1 + 1 + 1 + (numS n).length <= 9223372036854775807 := by omega
 have b4 : s.length + 1 + 1 + 1 + 1 <= 9223372036854775807 := by omega
 refine CB func23 c23 fun E hE => ?_
 simp [p23, b1, b2]
 refine CLa c1 ?_
 simp [b3]
 apply RZ
 simp [results23, headS]
theorem join_app {sep : By} {l r : List By} (h : l ≠ []) : Go.Lib.join (l ++ r) sep = Go.Lib.join l sep ++ Go.Lib.joinTail sep r := by
 obtain ⟨x, t, rfl⟩ := List.exists_cons_of_ne_nil h
 rw [List.cons_append, Go.Lib.join_cons, Go.Lib.join_cons]
 simp [Go.Lib.joinTail]
theorem bodyL_ne (x : Etr) (i : Nat) : bodyL x i ≠ [] := by simp [bodyL]
theorem bodyP_zero (x : Etr) : Go.Lib.join (bodyL x 0) [32] = numS x.t ++ 32 :: x.w := by
 simp [bodyL, Go.Lib.join_cons, Go.Lib.joinTail]
theorem bodyP_succ {x : Etr} {i : Nat} {n : Int} (h : x.a[i]? = some n) : Go.Lib.join (bodyL x (i + 1)) [32] = Go.Lib.join (bodyL x i) [32] ++ 32 :: numS n := by
 rw [bodyL_succ h, join_app (bodyL_ne x i)]
 simp [Go.Lib.joinTail]
theorem bodyP_note {x : Etr} (h : ¬ x.n = []) : bodyS x = Go.Lib.join (bodyL x x.a.length) [32] ++ 32 :: 59 :: 32 :: x.n := by
 unfold bodyS
 rw [body_some h, join_app (bodyL_ne x _)]
 simp [Go.Lib.joinTail]
theorem bodyP_none {x : Etr} (h : x.n = []) : bodyS x = Go.Lib.join (bodyL x x.a.length) [32] := by
 unfold bodyS
 rw [body_none h]
theorem bodyP_len {x : Etr} (h : entS x = true) {i : Nat} (hi : i <= x.a.length) : (Go.Lib.join (bodyL x i) [32]).length <= 410 := by
 obtain ⟨h1, h2⟩ := entS_parts h
 have hm : ∀ y ∈ bodyL x i, y.length <= 40 := fun y hy => h1 y (by
   simp only [bodyL, partsS, List.mem_append, List.mem_cons, List.not_mem_nil, or_false, List.mem_map] at hy ⊢
   rcases hy with hy | ⟨n, hn, rfl⟩
   . exact .inl (.inl hy)
   . exact .inl (.inr ⟨n, List.mem_of_mem_take hn, rfl⟩))
 have := join_len [32] 40 (bodyL x i) hm
 rw [bodyL_len hi] at this
 have hal : x.a.length <= 6 := (numE h).2.2.1
 simp only [List.length_cons, List.length_nil] at this
 omega
theorem fn26 (x : Etr) (hx : entS x = true) : Ct prog 26 [entV x] (vS (bodyS x)) [] := by
 obtain ⟨t0, t1, hal, hag⟩ := numE hx
 have hjl : (bodyS x).length <= 410 := body_len hx
 have hwl : x.w.length <= 40 := (entS_parts hx).1 _ (by simp [partsS])
 have hll := num_len13 x.t (by omega) (by omega)
 have c1 := fn39 x.t (by omega) (by omega)
 have b1 : (numS x.t).length + 1 <= 9223372036854775807 := by omega
 have b2 : (numS x.t).length + 1 + x.w.length <= 9223372036854775807 := by omega
 have b3 : (numS x.t).length + (x.w.length + 1) <= 9223372036854775807 := by omega
 refine CB func26 c26 fun E hE => ?_
 simp [p26, inC, Nat.testBit]
 refine CLa c1 ?_
 simp [b1, b2, inC, Nat.testBit]
 refine pw_loop (α := Nat) (fun i => ⟨slots [(1, .lp 0 0), (3, vS (Go.Lib.join (bodyL x i) [32])), (4, vi i)], lk [(0, [vi x.t, vS x.w, .d (intsD x.a), vS x.n])], 1⟩) (fun i => i <= x.a.length) (fun i => x.a.length - i) 0 ?_ ?_ ?_
 . omega
 . rw [bodyP_zero]
   exact WK hE (lk [(0, 0)])
 . intro i hi
   have hpl := bodyP_len hx hi
   by_cases h : i < x.a.length
   . obtain ⟨n, hn⟩ := gE h
     have hz := @wz i (by omega)
     have hI : (i : Int) < x.a.length := by omega
     obtain ⟨g0, g1⟩ := hag n (List.mem_of_getElem? hn)
     have hnl := num_len13 n (by omega) (by omega)
     have c2 := fn39 n (by omega) (by omega)
     have b4 : (numS n).length + 1 <= 9223372036854775807 := by omega
     have b5 : 1 + (numS n).length <= 9223372036854775807 := by omega
     have b6 : (Go.Lib.join (bodyL x i) [32]).length + ((numS n).length + 1) <= 9223372036854775807 := by omega
     simp [p26l0, hI, hn]
     refine CLa c2 ?_
     simp [hz, b5, b6]
     refine ⟨i + 1, by omega, by omega, ?_⟩
     rw [bodyP_succ hn]
     exact WK hE (lk [(0, 0)])
   . have hI : ¬ (i : Int) < x.a.length := by omega
     have e : i = x.a.length := by omega
     subst e
     by_cases hnn : x.n = []
     . simp [p26l0, hI, hnn]
       apply RZ
       simp [results26, bodyP_none hnn]
     . have hnl : x.n.length <= 40 := (entS_parts hx).1 _ (by simp [partsS, hnn])
       have b4 : x.n.length + 1 + 1 + 1 <= 9223372036854775807 := by omega
       have b5 : 3 + x.n.length <= 9223372036854775807 := by omega
       have b6 : (Go.Lib.join (bodyL x x.a.length) [32]).length + (x.n.length + 1 + 1 + 1) <= 9223372036854775807 := by omega
       simp [p26l0, hI, hnn, b5, b6]
       apply RZ
       simp [results26, bodyP_note hnn]
theorem letS_len (c : Int) : (letS c).length = 2 := rfl
theorem lineS_eq (b : By) (c : Int) : lineS b c = b ++ 32 :: (letS c ++ [10]) := by simp [lineS]
theorem fn11no (l : Lg) (hs : SizedL l) (h : okLg l = false) : Ct prog 11 [logV l] (.tup [vS [], vi 90]) [] := by
 have c1 := fn13 l hs
 rw [h] at c1
 refine CB func11 c11 fun E hE => ?_
 simp [p11]
 refine CLa c1 ?_
 simp
 apply RZ
 simp [results11]
theorem fn11ok (l : Lg) (hs : SizedL l) (h : okLg l = true) : Ct prog 11 [logV l] (.tup [vS (textS l), vi 0]) [] := by
 have c1 := fn13 l hs
 rw [h] at c1
 obtain ⟨h1, h2, h3⟩ := okLg_all h
 have q1 := ship_len h1
 have q2 := numS_len l.es.length (by omega) (by omega)
 have q3 := head_len l.s l.es.length
 have c2 := fn23 l.s l.es.length (by omega) (by omega) (by omega)
 have hhl : (headS l.s l.es.length).length <= 30 := by omega
 have hs0 := sumS_lt (headS l.s l.es.length) 0 (by omega) (by omega)
 have hT := txK_len h
 have c3 := fn24 (headS l.s l.es.length) 0 (by omega) (by omega) (by omega)
 have c4 := fn25 _ hs0.1 hs0.2
 have b1 : (headS l.s l.es.length).length + 1 <= 9223372036854775807 := by omega
 have b2 : (headS l.s l.es.length).length + ((letS (sumS (headS l.s l.es.length) 0)).length + 1) <= 9223372036854775807 := by rw [letS_len]; omega
 have b3 : (headS l.s l.es.length).length + ((letS (sumS (headS l.s l.es.length) 0)).length + 1 + 1) <= 9223372036854775807 := by rw [letS_len]; omega
 have b2' : (headS l.s l.es.length).length + 1 + (letS (sumS (headS l.s l.es.length) 0)).length <= 9223372036854775807 := by rw [letS_len]; omega
 have b3' : (headS l.s l.es.length).length + ((letS (sumS (headS l.s l.es.length) 0)).length + 1) + 1 <= 9223372036854775807 := by rw [letS_len]; omega
 refine CB func11 c11 fun E hE => ?_
 simp [p11]
 refine CLa c1 ?_
 simp
 refine CLa c2 ?_
 simp
 refine CLa c3 ?_
 simp [b1]
 refine CLa c4 ?_
 simp [b2', b3']
 refine pw_loop (α := Nat) (fun i => ⟨slots [(1, .lp 0 0), (6, vi (chK l i)), (7, vS (txK l i)), (8, vi i)], lk [(0, [vS l.s, .d (entsD l.es)])], 1⟩) (fun i => i <= l.es.length) (fun i => l.es.length - i) 0 ?_ ?_ ?_
 . omega
 . rw [chK_zero, txK_zero, lineS_eq]
   exact WK hE (lk [(0, 0)])
 . intro i hi
   have hT2 := hT i
   by_cases hi2 : i < l.es.length
   . obtain ⟨x, hx⟩ := gE hi2
     have hz := @wz i (by omega)
     have hI : (i : Int) < l.es.length := by omega
     have hxe := ordS_ents h3 x (List.mem_of_getElem? hx)
     have hbl := body_len hxe
     have hc := chkS_lt (l.es.take i) _ hs0.1 hs0.2
     have e1 : sumS (bodyS x) (chK l i) = chK l (i + 1) := by unfold chK; rw [chkS_take hx]
     have e2 : txK l i ++ lineS (bodyS x) (chK l (i + 1)) = txK l (i + 1) := by
       rw [<- e1]
       unfold txK chK
       rw [linesS_take hx, List.append_assoc]
     have hT3 := hT (i + 1)
     have d1 := fn24 (bodyS x) (chK l i) hc.1 (by have := hc.2; unfold chK; omega) (by omega)
     have hc1 := sumS_lt (bodyS x) (chK l i) hc.1 hc.2
     rw [e1] at d1 hc1
     have d2 := fn25 _ hc1.1 hc1.2
     have b4 : (bodyS x).length + 1 <= 9223372036854775807 := by omega
     have b5 : (bodyS x).length + ((letS (chK l (i + 1))).length + 1) <= 9223372036854775807 := by rw [letS_len]; omega
     have b6 : (bodyS x).length + ((letS (chK l (i + 1))).length + 1 + 1) <= 9223372036854775807 := by rw [letS_len]; omega
     have b7 : (txK l i).length + ((bodyS x).length + ((letS (chK l (i + 1))).length + 1 + 1)) <= 9223372036854775807 := by rw [letS_len]; omega
     have b5' : (bodyS x).length + 1 + (letS (chK l (i + 1))).length <= 9223372036854775807 := by rw [letS_len]; omega
     have b6' : (bodyS x).length + ((letS (chK l (i + 1))).length + 1) + 1 <= 9223372036854775807 := by rw [letS_len]; omega
     rw [lineS_eq] at e2
     simp [p11l0, hI, hx]
     refine CLa (fn26 x hxe) ?_
     simp
     refine CLa d1 ?_
     simp [b4]
     refine CLa d2 ?_
     simp [hz, b7, b5', b6']
     refine ⟨i + 1, by omega, by omega, ?_⟩
     rw [<- e2]
     exact WK hE (lk [(0, 0)])
   . have hI : ¬ (i : Int) < l.es.length := by omega
     simp [p11l0, hI]
     apply RZ
     simp [results11, txK_all (show l.es.length <= i by omega)]
end Go.Proofs.Tryd
namespace Go.Psl
variable {P : Program} {E : Ent}
theorem Weak.trans {a b c : St} (h : Weak P E a b) (g : Weak P E b c) : Weak P E a c := fun G x W hI => by
 obtain ⟨G', h'⟩ := h G x W hI
 exact g G' x W h'
def FzE (H : Hp) (v c : V) : Prop := c = .junk \/ v = c \/ Fz H v c
def FzK (H : Hp) (v c : V) : Prop := v = c \/ FzC H v c
def hpOf (H : Hp) (ids : List Nat) : Hp := fun i => if i ∈ ids then H i else none
theorem FzK.one {G : Gh} {W : World} {H : Hp} (hB : ∀ id cs, H id = some cs -> HB G W id cs) (hin : Into (fun _ => True) anyD (fun i => i) G W { G with Im := fzIm G H } W) {v c : V} {x : Value} (h : FzK H v c) (ha : A1 (fun _ => True) anyD v) (hx : R1 G W v x) : R1 { G with Im := fzIm G H } W c x := by
 rcases h with rfl | ⟨y, rfl, hy⟩
 . exact hin.s1 ha hx
 . exact R0.r1 (fz0 hB hy (R2.rv (R1.r2 hx)))
theorem Weak.frz (ids : List Nat) {f g : Nat -> V} {H h : Hp} {n : Nat} (_ : ∀ i ∈ ids, ¬ E.stab i) (hf : ∀ t, FzE (hpOf H ids) (f t) (g t)) (hh : ∀ i cs', h i = some cs' -> i ∉ ids /\ ∃ cs, H i = some cs /\ All2 (FzK (hpOf H ids)) cs cs') : Weak P E ⟨f, H, n⟩ ⟨g, h, n⟩ := by
 intro G a W hI
 have hF : ∀ id cs, hpOf H ids id = some cs -> id ∈ ids /\ H id = some cs := fun id cs e => by
   unfold hpOf at e; split at e
   . rename_i hi; exact ⟨hi, e⟩
   . cases e
 have hB : ∀ id cs, hpOf H ids id = some cs -> HB G W id cs := fun id cs e => hI.hp id cs (hF id cs e).2
 have hin : Into (fun _ => True) anyD (fun i => i) G W { G with Im := fzIm G (hpOf H ids) } W := ⟨fun i _ => ⟨rfl, rfl, rfl, rfl⟩, fun x v _ hx => RD.mono hx fun b hb => ⟨.inl hb, rfl⟩⟩
 have hno : ∀ id cs cs', h id = some cs' -> H id = some cs -> G.ph id = false -> ¬ G.Im (G.β id) -> ¬ fzIm G (hpOf H ids) (G.β id) := by
   rintro id cs cs' h1 h2 hp h3 (h4 | ⟨i, hi, hpi, he⟩)
   . exact h3 h4
   . obtain ⟨x, hx⟩ := Option.isSome_iff_exists.1 hi
     obtain ⟨h5, h6⟩ := hF i x hx
     have : i = id := hI.inj i id (by show (H i).isSome = true; rw [h6]; rfl) (by show (H id).isSome = true; rw [h2]; rfl) hpi hp he
     subst this
     exact (hh i cs' h1).1 h5
 refine ⟨{ G with Im := fzIm G (hpOf H ids) }, { fr := fun t => ?_, wf := fun t => ?_, hp := fun id cs' hid => ?_, wh := fun id cs' hid => ?_, dom := fun id hid => ?_, inj := fun i j h1 h2 => ?_, own := fun i h1 => ?_, im := fun b hb => ?_, im0 := fun b hb => .inl (hI.im0 b hb), keep := hI.keep, stab := fun i h1 h2 => ?_, sU := hI.sU, nt := hI.nt, df := ?_, gl := hI.gl.mono fun b hb => ⟨.inl hb, rfl⟩ }⟩
 . have h1 := hI.fr t
   have h2 := hI.wf t
   rcases hf t with h3 | h3 | h3
   . show RV _ W (g t) _
     rw [h3]; trivial
   . show RV _ W (g t) _
     rw [<- h3]
     exact hin.sv (AV.mono (fun _ _ => trivial) (fun _ h => h) h2) h1
   . exact fz_rel hB h3 h1
 . rcases hf t with h3 | h3 | h3
   . show AV _ _ (g t)
     rw [h3]; trivial
   . show AV _ _ (g t)
     rw [<- h3]; exact hI.wf t
   . exact AV.mono (fun _ h => h.elim) (fun _ h => h) (fz_wf h3)
 . obtain ⟨h1, cs, h2, h3⟩ := hh id cs' hid
   have hl := h3.length
   rcases hI.hp id cs h2 with ⟨h5, h6⟩ | ⟨h5, h0, h6, c, T, h7, h8, h9, h10, h11⟩ | ⟨h5, h0, h6, ⟨hz, fr, nt, ps, pa, pb, jmp, rec, h7, h8, h9⟩ | ⟨hz, es, ms, ck, h7, h8, h9⟩ | ⟨hz, bx, bp, bv, h7, h8, h9, h10, h11⟩⟩
   . subst h6
     have : cs' = [] := by cases cs' with | nil => rfl | cons a l => exact h3.elim
     exact .inl ⟨h5, this⟩
   . refine .inr (.inl ⟨h5, h0, hno id cs cs' hid h2 h5 h6, c, T, h7, h8, by omega, ?_, ?_⟩)
     . rw [<- hl]
       refine All2.of_get (by rw [<- hl]; exact h10.length) fun i y z hy hz => ?_
       obtain ⟨w, hw, hwy⟩ := h3.get2 hy
       obtain ⟨u, hu, hwu⟩ := h10.get hw
       rw [hz] at hu; cases hu
       exact hwy.one hB hin (R1.ac hwu (AC.mono (fun _ _ => trivial) (fun _ h => h) (hI.wh id cs h2 _ (List.mem_of_getElem? hw)))) hwu
     . refine List.all_eq_true.2 fun y hy => ?_
       obtain ⟨i, hi⟩ := List.getElem?_of_mem hy
       obtain ⟨w, hw, hwy⟩ := h3.get2 hi
       rcases hwy with rfl | ⟨d, rfl, _⟩
       . exact List.all_eq_true.1 h11 _ (List.mem_of_getElem? hw)
       . rfl
   . subst h7
     match cs', h3 with
     | [c0], h3 =>
       rcases h3.1 with h4 | ⟨y, rfl, hy⟩
       . subst h4
         obtain ⟨q1, q2, q3, q4, q5, q6⟩ := h9
         refine .inr (.inr ⟨h5, h0, hno id _ _ hid h2 h5 h6, .inl ⟨hz, fr, nt, ps, pa, pb, jmp, rec, rfl, h8, q1, q2, q3, q4, fun t => ?_, q6⟩⟩)
         have q7 : AC _ anyD (V.lr fr nt ps pa pb jmp) := hI.wh id _ h2 _ (by simp)
         exact hin.sv (AV.mono (fun _ _ => trivial) (fun _ h => h) (q7 t)) (q5 t)
       . exact (show False from hy).elim
     | [], h3 => exact h3.elim
     | _ :: _ :: _, h3 => exact h3.2.elim
   . subst h7
     match cs', h3 with
     | [c0, c1], h3 =>
       obtain ⟨h31, h32, _⟩ := h3
       have e0 : c0 = mapB es := by
         rcases h31 with h4 | ⟨y, rfl, hy⟩
         . exact h4.symm
         . exact (show False from hy).elim
       have e1 : c1 = .d (.lit (.bool true)) := by
         rcases h32 with h4 | ⟨y, rfl, hy⟩
         . exact h4.symm
         . rcases hy with rfl | ⟨hy, _⟩
           . rfl
           . cases hy
       rw [e0, e1]
       exact .inr (.inr ⟨h5, h0, hno id _ _ hid h2 h5 h6, .inr (.inl ⟨hz, es, ms, ck, rfl, h8, h9.mono fun b hb => ⟨.inl hb, rfl⟩⟩)⟩)
     | [], h3 => exact h3.elim
     | [_], h3 => exact h3.2.elim
     | _ :: _ :: _ :: _, h3 => exact h3.2.2.elim
   . subst h7
     match cs', h3 with
     | [c0, c1], h3 =>
       obtain ⟨h31, h32, _⟩ := h3
       have e1 : c1 = .d (.lit bp.m) := by
         rcases h32 with h4 | ⟨y, rfl, hy⟩
         . exact h4.symm
         . rcases hy with rfl | ⟨hy, _⟩
           . rfl
           . exact absurd (D.lit.inj hy) h9.m_ne
       rw [e1]
       have hcc : V.isCell c0 = true := by
         rcases h31 with rfl | ⟨d, rfl, _⟩
         . exact h11
         . rfl
       exact .inr (.inr ⟨h5, h0, hno id _ _ hid h2 h5 h6, .inr (.inr ⟨hz, c0, bp, bv, rfl, h8, h9, h31.one hB hin (R1.ac h10 (AC.mono (fun _ _ => trivial) (fun _ h => h) (hI.wh id _ h2 bx (by simp)))) h10, hcc⟩)⟩)
     | [], h3 => exact h3.elim
     | [_], h3 => exact h3.2.elim
     | _ :: _ :: _ :: _, h3 => exact h3.2.2.elim
 . obtain ⟨h1, cs, h2, h3⟩ := hh id cs' hid
   intro c hc
   obtain ⟨i, hi⟩ := List.getElem?_of_mem hc
   obtain ⟨w, hw, hwy⟩ := h3.get2 hi
   rcases hwy with rfl | ⟨d, rfl, _⟩
   . exact hI.wh id cs h2 _ (List.mem_of_getElem? hw)
   . trivial
 . obtain ⟨cs', hc⟩ := Option.isSome_iff_exists.1 hid
   obtain ⟨h1, cs, h2, h3⟩ := hh id cs' hc
   exact hI.dom id (by show (H id).isSome = true; rw [h2]; rfl)
 . obtain ⟨x, hx⟩ := Option.isSome_iff_exists.1 h1
   obtain ⟨y, hy⟩ := Option.isSome_iff_exists.1 h2
   obtain ⟨_, cs, e1, _⟩ := hh i x hx
   obtain ⟨_, ds, e2, _⟩ := hh j y hy
   exact hI.inj i j (by show (H i).isSome = true; rw [e1]; rfl) (by show (H j).isSome = true; rw [e2]; rfl)
 . obtain ⟨x, hx⟩ := Option.isSome_iff_exists.1 h1
   obtain ⟨_, cs, e1, _⟩ := hh i x hx
   exact hI.own i (by show (H i).isSome = true; rw [e1]; rfl)
 . rcases hb with hb | ⟨i, hi, hp, rfl⟩
   . exact hI.im b hb
   . obtain ⟨x, hx⟩ := Option.isSome_iff_exists.1 hi
     obtain ⟨h5, h6⟩ := hF i x hx
     exact ⟨(hI.hp i x h6).lt hp, .inr (hI.own i (by show (H i).isSome = true; rw [h6]; rfl) hp)⟩
 . obtain ⟨x, hx⟩ := Option.isSome_iff_exists.1 h2
   obtain ⟨_, cs, e1, _⟩ := hh i x hx
   exact hI.stab i h1 (by show (H i).isSome = true; rw [e1]; rfl)
 . obtain ⟨ds, h1, h2⟩ := hI.df
   refine ⟨ds, h1, h2.nodup, fun D hD => ?_, h2.nm⟩
   obtain ⟨h3, h4, h5⟩ := h2.at' D hD
   refine ⟨h3, h4, ?_⟩
   rintro (h6 | ⟨i, hi, hp, rfl⟩)
   . exact h5 h6
   . obtain ⟨x, hx⟩ := Option.isSome_iff_exists.1 hi
     exact (hI.hp i x (hF i x hx).2).kind hp h3
theorem Weak.frzR (ids : List Nat) {f : Nat -> V} {m : List (Nat × V)} {H : Hp} {h : List (Nat × List V)} {n : Nat} (hs : ∀ i, ¬ E.stab i) (hf : ∀ p ∈ m, FzE (hpOf H ids) (f p.1) p.2) (hh : ∀ p ∈ h, p.1 ∉ ids /\ ∃ cs, H p.1 = some cs /\ All2 (FzK (hpOf H ids)) cs p.2) : Weak P E ⟨f, H, n⟩ ⟨slots m, lk h, n⟩ := by
 refine Weak.frz ids (fun i _ => hs i) (fun t => ?_) fun i cs' hi => ?_
 . show FzE _ _ ((lk m t).getD .junk)
   cases h1 : lk m t with
   | none => exact .inl rfl
   | some v =>
     have : ∃ p ∈ m, p.1 = t /\ p.2 = v := by
       clear hf
       induction m with
       | nil => simp [lk] at h1
       | cons p r ih =>
         simp only [lk] at h1
         split at h1
         . rename_i e; exact ⟨p, by simp, e.symm, Option.some.inj h1⟩
         . obtain ⟨q, hq, e⟩ := ih h1; exact ⟨q, by simp [hq], e⟩
     obtain ⟨p, hp, rfl, rfl⟩ := this
     exact hf p hp
 . have : ∃ p ∈ h, p.1 = i /\ p.2 = cs' := by
     clear hh
     induction h with
     | nil => simp [lk] at hi
     | cons p r ih =>
       simp only [lk] at hi
       split at hi
       . rename_i e; exact ⟨p, by simp, e.symm, Option.some.inj hi⟩
       . obtain ⟨q, hq, e⟩ := ih hi; exact ⟨q, by simp [hq], e⟩
   obtain ⟨p, hp, rfl, rfl⟩ := this
   exact hh p hp
end Go.Psl
namespace Go.Proofs.Tryd
open Go.Psl
open Go.Log
theorem hfe4 : ∀ x : Etr, (entL x).length = 4 := fun _ => rfl
theorem hfi1 : ∀ x : Int, (intL x).length = 1 := fun _ => rfl
theorem all2_refl {α : Type} {R : α -> α -> Prop} (h : ∀ a, R a a) : ∀ l : List α, All2 R l l
 | [] => trivial
 | a :: l => ⟨h a, all2_refl h l⟩
theorem all2_put {R : V -> V -> Prop} (h : ∀ a, R a a) {v c : V} (hv : R v c) : ∀ {cs : List V} {o : Nat}, cs[o]? = some c -> All2 R (cs.take o ++ v :: cs.drop (o + 1)) cs
 | [], o, hc => by simp at hc
 | a :: cs, 0, hc => by
   simp at hc
   subst hc
   exact ⟨hv, all2_refl h cs⟩
 | a :: cs, o + 1, hc => ⟨h a, all2_put h hv (cs := cs) (o := o) (by simpa using hc)⟩
theorem fn6 (l : Lg) (hl : l.es.length <= 1000000) (ha : ∀ x ∈ l.es, x.a.length <= 1000000) : Ct prog 6 [logV l] (.agg [vS l.s, .ls 0 0 l.es.length 4]) [(0, fcel entL l.es)] := by
 have hres : ∀ (E : List (Nat × List V)), E = [(0, fcel entL l.es)] -> ResIds (.agg [vS l.s, .ls 0 0 l.es.length 4]) E := fun E hE => by
   subst hE
   refine ⟨by simp, ?_⟩
   intro q hq c hc
   simp only [List.mem_cons, List.not_mem_nil, or_false] at hq
   subst hq
   obtain ⟨d, _, rfl⟩ := List.mem_map.1 (show c ∈ List.map V.d (List.map entL l.es).flatten from hc)
   trivial
 refine Ct.by gok eok mixed func6 c6 rfl (by simp [ntmps6]) (by simp) (hres _ rfl) fun E hE => ?_
 by_cases h0 : l.es = []
 . have e1 : entsD l.es = .sl 4 [] := by rw [h0]; rfl
   have e2 : fcel entL l.es = [] := by rw [h0]; rfl
   have e3 : l.es.length = 0 := by rw [h0]; rfl
   have eV : logV l = .agg [vS l.s, .d (.sl 4 [])] := by rw [<- e1]
   rw [eV]
   simp [p6, repl]
   refine pw_loop (α := Nat) (fun i => ⟨slots [(1, .lp 0 0), (2, .lp 1 0), (3, .ls 2 0 l.es.length 4), (4, vi i)], lk [(0, [vS l.s, .d (entsD l.es)]), (1, [vS [], .d (.lit (.slice none 0 0))]), (2, fcel entL l.es)], 3⟩) (fun i => i <= l.es.length) (fun i => l.es.length - i) 0 ?_ ?_ ?_
   . omega
   . refine Weak.mk hE (lk [(0, 0), (1, 1048576), (2, 5242880)]) _ _ _ ?_ ?_ ?_ ?_ ?_ <;> simp [e1, e2, e3]
   . intro i hi
     have hz := @wz i (by omega)
     by_cases h : i < l.es.length
     . obtain ⟨x, hx⟩ := gE h
       have hI : (i : Int) < l.es.length := by omega
       have hsl := fcel_len hfe4 l.es
       have s0 : i * 4 + 2 + 1 <= l.es.length * 4 := by omega
       have t10 : List.take 1 (List.drop (i * 4 + 2) (fcel entL l.es)) = [.d (intsD x.a)] := fcel_sub hfe4 (x := x) (j := 2) (k := 1) hx (by omega)
       have hcell : (fcel entL l.es)[i * 4 + 2]? = some (.d (intsD x.a)) := fcel_cellat hfe4 (x := x) (j := 2) hx rfl
       have hxa := ha x (List.mem_of_getElem? hx)
       by_cases ha0 : x.a = []
       . rw [show intsD x.a = .sl 1 [] by rw [ha0]; rfl] at t10 hcell
         simp [p6l0, hI, splice, repl, hsl, s0, t10, hz]
         refine ⟨i + 1, by omega, by omega, ?_⟩
         refine Weak.trans (Weak.frzR [12582915] (m := [(1, .lp 0 0), (2, .lp 1 0), (3, .ls 2 0 l.es.length 4), (4, vi (i + 1 : Nat))]) (h := [(0, [vS l.s, .d (entsD l.es)]), (1, [vS [], .d (.lit (.slice none 0 0))]), (2, fcel entL l.es)]) hE ?_ ?_) ?_
         . intro p hp
           simp only [List.mem_cons, List.not_mem_nil, or_false] at hp
           rcases hp with rfl | rfl | rfl | rfl
           . exact .inr (.inl (by simp))
           . exact .inr (.inl (by simp))
           . exact .inr (.inl (by simp))
           . exact .inr (.inl (by simp))
         . intro p hp
           simp only [List.mem_cons, List.not_mem_nil, or_false] at hp
           rcases hp with rfl | rfl | rfl
           . exact ⟨by simp, _, by simp, all2_refl (fun _ => .inl rfl) _⟩
           . exact ⟨by simp, _, by simp, all2_refl (fun _ => .inl rfl) _⟩
           . refine ⟨by simp, (fcel entL l.es).take (i * 4 + 2) ++ .ls 12582915 0 0 1 :: (fcel entL l.es).drop (i * 4 + 2 + 1), by simp, all2_put (fun _ => .inl rfl) (.inr ⟨_, rfl, ?_⟩) hcell⟩
             exact ⟨rfl, rfl, by simp, [], by simp [hpOf], by simp⟩
         . exact WK hE (lk [(0, 0), (1, 1), (2, 2)])
       . obtain ⟨b, u, e⟩ := List.exists_cons_of_ne_nil ha0
         have hmx2 : (u.length + 1) * 8 <= 140737488355328 /\ u.length + 1 <= 9223372036854775807 := by rw [e] at hxa; simp at hxa; omega
         have ee2 : intsD x.a = .sl 1 (intL b :: u.map intL) := by rw [e]; rfl
         have ef2 : (u.map (List.map V.d ∘ intL)).flatten = fcel intL u := by simp [fcel, List.map_flatten]
         have hcl2 : (∀ x ∈ fcel intL u, x.isCell = true) = True := eq_true fcel_cell
         rw [ee2] at t10 hcell
         simp [p6l0, hI, splice, repl, hsl, s0, t10, hz, ef2, hcl2, hmx2]
         have efa : V.d (di b) :: fcel intL u = fcel intL x.a := by rw [e, fcel_cons]; rfl
         have hxl : x.a.length = u.length + 1 := by rw [e]; simp
         rw [<- ee2] at hcell
         rw [efa, <- hxl]
         refine ⟨i + 1, by omega, by omega, ?_⟩
         refine Weak.trans (Weak.frzR [12582915] (m := [(1, .lp 0 0), (2, .lp 1 0), (3, .ls 2 0 l.es.length 4), (4, vi (i + 1 : Nat))]) (h := [(0, [vS l.s, .d (entsD l.es)]), (1, [vS [], .d (.lit (.slice none 0 0))]), (2, fcel entL l.es)]) hE ?_ ?_) ?_
         . intro p hp
           simp only [List.mem_cons, List.not_mem_nil, or_false] at hp
           rcases hp with rfl | rfl | rfl | rfl
           . exact .inr (.inl (by simp))
           . exact .inr (.inl (by simp))
           . exact .inr (.inl (by simp))
           . exact .inr (.inl (by simp))
         . intro p hp
           simp only [List.mem_cons, List.not_mem_nil, or_false] at hp
           rcases hp with rfl | rfl | rfl
           . exact ⟨by simp, _, by simp, all2_refl (fun _ => .inl rfl) _⟩
           . exact ⟨by simp, _, by simp, all2_refl (fun _ => .inl rfl) _⟩
           . refine ⟨by simp, (fcel entL l.es).take (i * 4 + 2) ++ .ls 12582915 0 x.a.length 1 :: (fcel entL l.es).drop (i * 4 + 2 + 1), by simp, all2_put (fun _ => .inl rfl) (.inr ⟨_, rfl, ?_⟩) hcell⟩
             exact bor_fcel (f := intL) hfi1 (l := x.a) (by simp [hpOf])
         . exact WK hE (lk [(0, 0), (1, 1), (2, 2)])
     . have hI : ¬ (i : Int) < l.es.length := by omega
       have ei : i = l.es.length := by omega
       simp [p6l0, hI, splice]
       refine RetOk.by (lk [(0, 2)]) ?_
       simp [results6]
 . obtain ⟨a, t, e⟩ := List.exists_cons_of_ne_nil h0
   have hmx : (t.length + 1) * 64 <= 140737488355328 /\ t.length + 1 <= 9223372036854775807 := by rw [e] at hl; simp at hl; omega
   have ee : entsD l.es = .sl 4 (entL a :: t.map entL) := by rw [e]; rfl
   have ef : (t.map (List.map V.d ∘ entL)).flatten = fcel entL t := by simp [fcel, List.map_flatten]
   have hcl : (∀ x ∈ fcel entL t, x.isCell = true) = True := eq_true fcel_cell
   have eln : l.es.length = t.length + 1 := by rw [e]; simp
   have eV : logV l = .agg [vS l.s, .d (.sl 4 (entL a :: t.map entL))] := by rw [<- ee]
   rw [eV]
   simp [p6, repl, ef, hcl, hmx]
   have efl : fcel entL l.es = V.d (di a.t) :: vS a.w :: V.d (intsD a.a) :: vS a.n :: fcel entL t := by rw [e, fcel_cons]; rfl
   rw [<- efl]
   refine pw_loop (α := Nat) (fun i => ⟨slots [(1, .lp 0 0), (2, .lp 1 0), (3, .ls 2 0 l.es.length 4), (4, vi i)], lk [(0, [vS l.s, .d (entsD l.es)]), (1, [vS [], .d (.lit (.slice none 0 0))]), (2, fcel entL l.es)], 3⟩) (fun i => i <= l.es.length) (fun i => l.es.length - i) 0 ?_ ?_ ?_
   . omega
   . refine Weak.mk hE (lk [(0, 0), (1, 1048576), (2, 5242880)]) _ _ _ ?_ ?_ ?_ ?_ ?_ <;> simp [e, fcel_cons, hcl]
   . intro i hi
     have hz := @wz i (by omega)
     by_cases h : i < l.es.length
     . obtain ⟨x, hx⟩ := gE h
       have hI : (i : Int) < l.es.length := by omega
       have hsl := fcel_len hfe4 l.es
       have s0 : i * 4 + 2 + 1 <= l.es.length * 4 := by omega
       have t10 : List.take 1 (List.drop (i * 4 + 2) (fcel entL l.es)) = [.d (intsD x.a)] := fcel_sub hfe4 (x := x) (j := 2) (k := 1) hx (by omega)
       have hcell : (fcel entL l.es)[i * 4 + 2]? = some (.d (intsD x.a)) := fcel_cellat hfe4 (x := x) (j := 2) hx rfl
       have hxa := ha x (List.mem_of_getElem? hx)
       by_cases ha0 : x.a = []
       . rw [show intsD x.a = .sl 1 [] by rw [ha0]; rfl] at t10 hcell
         simp [p6l0, hI, splice, repl, hsl, s0, t10, hz]
         refine ⟨i + 1, by omega, by omega, ?_⟩
         refine Weak.trans (Weak.frzR [12582915] (m := [(1, .lp 0 0), (2, .lp 1 0), (3, .ls 2 0 l.es.length 4), (4, vi (i + 1 : Nat))]) (h := [(0, [vS l.s, .d (entsD l.es)]), (1, [vS [], .d (.lit (.slice none 0 0))]), (2, fcel entL l.es)]) hE ?_ ?_) ?_
         . intro p hp
           simp only [List.mem_cons, List.not_mem_nil, or_false] at hp
           rcases hp with rfl | rfl | rfl | rfl
           . exact .inr (.inl (by simp))
           . exact .inr (.inl (by simp))
           . exact .inr (.inl (by simp))
           . exact .inr (.inl (by simp))
         . intro p hp
           simp only [List.mem_cons, List.not_mem_nil, or_false] at hp
           rcases hp with rfl | rfl | rfl
           . exact ⟨by simp, _, by simp, all2_refl (fun _ => .inl rfl) _⟩
           . exact ⟨by simp, _, by simp, all2_refl (fun _ => .inl rfl) _⟩
           . refine ⟨by simp, (fcel entL l.es).take (i * 4 + 2) ++ .ls 12582915 0 0 1 :: (fcel entL l.es).drop (i * 4 + 2 + 1), by simp, all2_put (fun _ => .inl rfl) (.inr ⟨_, rfl, ?_⟩) hcell⟩
             exact ⟨rfl, rfl, by simp, [], by simp [hpOf], by simp⟩
         . exact WK hE (lk [(0, 0), (1, 1), (2, 2)])
       . obtain ⟨b, u, e⟩ := List.exists_cons_of_ne_nil ha0
         have hmx2 : (u.length + 1) * 8 <= 140737488355328 /\ u.length + 1 <= 9223372036854775807 := by rw [e] at hxa; simp at hxa; omega
         have ee2 : intsD x.a = .sl 1 (intL b :: u.map intL) := by rw [e]; rfl
         have ef2 : (u.map (List.map V.d ∘ intL)).flatten = fcel intL u := by simp [fcel, List.map_flatten]
         have hcl2 : (∀ x ∈ fcel intL u, x.isCell = true) = True := eq_true fcel_cell
         rw [ee2] at t10 hcell
         simp [p6l0, hI, splice, repl, hsl, s0, t10, hz, ef2, hcl2, hmx2]
         have efa : V.d (di b) :: fcel intL u = fcel intL x.a := by rw [e, fcel_cons]; rfl
         have hxl : x.a.length = u.length + 1 := by rw [e]; simp
         rw [<- ee2] at hcell
         rw [efa, <- hxl]
         refine ⟨i + 1, by omega, by omega, ?_⟩
         refine Weak.trans (Weak.frzR [12582915] (m := [(1, .lp 0 0), (2, .lp 1 0), (3, .ls 2 0 l.es.length 4), (4, vi (i + 1 : Nat))]) (h := [(0, [vS l.s, .d (entsD l.es)]), (1, [vS [], .d (.lit (.slice none 0 0))]), (2, fcel entL l.es)]) hE ?_ ?_) ?_
         . intro p hp
           simp only [List.mem_cons, List.not_mem_nil, or_false] at hp
           rcases hp with rfl | rfl | rfl | rfl
           . exact .inr (.inl (by simp))
           . exact .inr (.inl (by simp))
           . exact .inr (.inl (by simp))
           . exact .inr (.inl (by simp))
         . intro p hp
           simp only [List.mem_cons, List.not_mem_nil, or_false] at hp
           rcases hp with rfl | rfl | rfl
           . exact ⟨by simp, _, by simp, all2_refl (fun _ => .inl rfl) _⟩
           . exact ⟨by simp, _, by simp, all2_refl (fun _ => .inl rfl) _⟩
           . refine ⟨by simp, (fcel entL l.es).take (i * 4 + 2) ++ .ls 12582915 0 x.a.length 1 :: (fcel entL l.es).drop (i * 4 + 2 + 1), by simp, all2_put (fun _ => .inl rfl) (.inr ⟨_, rfl, ?_⟩) hcell⟩
             exact bor_fcel (f := intL) hfi1 (l := x.a) (by simp [hpOf])
         . exact WK hE (lk [(0, 0), (1, 1), (2, 2)])
     . have hI : ¬ (i : Int) < l.es.length := by omega
       have ei : i = l.es.length := by omega
       simp [p6l0, hI, splice]
       refine RetOk.by (lk [(0, 2)]) ?_
       simp [results6]
theorem twinL_f (l : Lg) (hs : SizedL l) : Ct prog 6 [logV l] (logV l) [] := by
 refine Cm.freeze (fn6 l hs.n fun x hx => (hs.e x hx).2.1) ?_
 exact ⟨⟨_, rfl, .inl rfl⟩, ⟨_, rfl, bor_fcel (f := entL) hfe4 (l := l.es) (by simp)⟩, trivial⟩
theorem fn4 (l : Lg) : Ct prog 4 [logV l] (vb true) [] := by
 have d1 := fn5 l
 cases hg : grL l
 case true =>
   rw [hg] at d1
   refine CB func4 c4 fun E hE => ?_
   simp [p4]
   refine CLa d1 ?_
   simp
   apply RZ
   simp [results4]
 rw [hg] at d1
 have hs : SizedL l := grL_sized hg
 have d2 := twinL_f l hs
 have d5 := fn12 l hs
 have d6 := fn13 l hs
 have d7 := fn9 l hs
 cases ho : okLg l
 . have d3 := fn10no l hs ho
   have d4 := fn11no l hs ho
   rw [ho] at d5 d6
   refine CB func4 c4 fun E hE => ?_
   simp [p4]
   refine CLa d1 ?_
   simp
   refine CLa d2 ?_
   simp [splice]
   refine CLa d3 ?_
   simp
   refine CLa d4 ?_
   simp [inC, Nat.testBit]
   refine CLa d5 ?_
   simp [inC, Nat.testBit]
   refine CLa d6 ?_
   simp [inC, Nat.testBit]
   refine CLa d7 ?_
   simp
   apply RZ
   simp [results4]
 . have d3 := fn10ok l hs ho
   have d4 := fn11ok l hs ho
   rw [ho] at d5 d6
   refine CB func4 c4 fun E hE => ?_
   simp [p4]
   refine CLa d1 ?_
   simp
   refine CLa d2 ?_
   simp [splice]
   refine CLa d3 ?_
   simp
   refine CLa d4 ?_
   simp [inC, Nat.testBit]
   refine CLa d5 ?_
   simp [inC, Nat.testBit]
   refine CLa d6 ?_
   simp [inC, Nat.testBit]
   refine CLa d7 ?_
   simp
   apply RZ
   simp [results4]
end Go.Proofs.Tryd
