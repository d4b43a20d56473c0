/- Own lemmas, used by the last text. Conditions: those that each theorem states. -/
import Derived.Below
import Derived.Deep.DeepHandedRow
import Derived.JoinedCond
import Derived.LaidLaws
import Derived.Lib.ItoaNum
import Derived.Lib.LaidTab
import Derived.Lib.LaidU8
import Derived.Shelf.Small.Strs
import Derived.Shelf.Strconv.ErrVarAll
import Derived.Shelf.Strconv.Itoa3
import Derived.Shelf.Strings.BuilderF
import Derived.Shelf.Strings.Cut
import Derived.Shelf.Strings.FieldsAny
import Derived.Shelf.Strings.OnBuilder
import Derived.Shelf.Strings.Prefix
import Derived.Shelf.Strings.Repeat
import Derived.Shelf.Strings.SplitShaped
import Derived.Shelf.Vars
import Derived.Test.YtcaecmiedjnacaaGreatDoorKiaf
import Derived.Test.YtcaecmiedjnacaaGreatDoorKiag
import Derived.Test.YtcaecmiedjnacaaGreatDoorProg
import Derived.Test.YtcaecmiedjnacaaGreatDoorRows
set_option maxRecDepth 200000
set_option maxHeartbeats 8000000
namespace Go.Psl
variable {P : Program} {Γ : Tys} {eqs : Eqs} {E : Ent}
def CX (ks xs : List Nat) (c : V) : Prop := match c with
 | .lr fr _ _ _ _ _ => ∀ t, AV (· ∈ ks) anyD (fr t)
 | c => W1 (rid (ks ++ xs)) c c
structure KeepX (ks xs : List Nat) (L : List (Nat × List V)) : Prop where
 names : L.map (·.1) = ks ++ xs
 nd : (ks ++ xs).Nodup
 cells : ∀ p ∈ L, p.2 ≠ [] /\ cellsOk p.2 /\ ∀ c ∈ p.2, CX ks xs c
section
variable {ks xs xs1 : List Nat} {L L1 : List (Nat × List V)}
theorem KeepX.lk (h : KeepX ks xs L) {p : Nat × List V} (hp : p ∈ L) : Go.Psl.lk L p.1 = some p.2 := lk_nd (by rw [h.names]; exact h.nd) p hp
theorem KeepX.mem (h : KeepX ks xs L) {p : Nat × List V} (hp : p ∈ L) : p.1 ∈ ks ++ xs := by rw [<- h.names]; exact List.mem_map.2 ⟨p, hp, rfl⟩
theorem KeepX.isIn (h : KeepX ks xs L) {i : Nat} : (Go.Psl.lk L i).isSome = true ↔ i ∈ ks ++ xs := by
 constructor
 . intro hi
   obtain ⟨x, hx⟩ := Option.isSome_iff_exists.1 hi
   exact h.mem (p := (i, x)) (lk_mem' hx)
 . intro hi
   rw [<- h.names] at hi
   obtain ⟨p, hp, rfl⟩ := List.mem_map.1 hi
   rw [h.lk hp]; rfl
theorem W1_rid {c : V} (h : W1 (rid ks) c c) : A1 (· ∈ ks) anyD c := by
 cases c with
 | cl f cs =>
   obtain ⟨cs', e, h2⟩ := h
   cases e
   exact fun c hc => (W0_rid (all2_same h2 c hc)).1
 | junk => exact trivial
 | d x => exact trivial
 | lp i o => exact (W0_rid (c := .lp i o) h).1
 | ls i o l z => exact (W0_rid (c := .ls i o l z) h).1
 | yl i => exact (W0_rid (c := .yl i) h).1
 | lr => exact False.elim h
 | agg cs => exact False.elim h
 | tup cs => exact False.elim h
theorem CX_ac {c : V} (h : CX ks xs c) : AC (· ∈ ks ++ xs) anyD c := by
 cases c with
 | lr fr nt ps pa pb jmp => exact fun t => AV.mono (fun i hi => List.mem_append_left _ hi) (fun _ h => h) (h t)
 | cl f cs => exact W1_rid (c := .cl f cs) h
 | junk => exact trivial
 | d x => exact trivial
 | lp i o => exact W1_rid (c := .lp i o) h
 | ls i o l z => exact W1_rid (c := .ls i o l z) h
 | yl i => exact W1_rid (c := .yl i) h
 | agg cs => exact False.elim h
 | tup cs => exact False.elim h
theorem KeepX.ids (h : KeepX ks xs L) {n : Nat} (hn : ∀ i ∈ ks ++ xs, i < n) : HpIds n L := by
 have key : ∀ M : List (Nat × List V), (∀ p ∈ M, p ∈ L) -> HpIds n M := by
   intro M
   induction M with
   | nil => intro _; trivial
   | cons p r ih =>
     intro hM
     have hp := hM p (by simp)
     exact ⟨hn _ (h.mem hp), fun c hc => AC.mono hn (fun _ h => h) (CX_ac ((h.cells p hp).2.2 c hc)), ih fun q hq => hM q (List.mem_cons_of_mem _ hq)⟩
 exact key L fun _ h => h
theorem CX_rid {c : V} (h : CX ks xs c) : WC (rid (ks ++ xs)) c c := by
 cases c with
 | lr fr nt ps pa pb jmp => exact ⟨rfl, fun t => AV.mono (fun i hi => rid_in (List.mem_append_left _ hi)) (fun _ h => h) (h t)⟩
 | cl f cs => exact h
 | junk => exact h
 | d x => exact h
 | lp i o => exact h
 | ls i o l z => exact h
 | yl i => exact h
 | agg cs => exact h
 | tup cs => exact h
theorem KeepX.same (h : KeepX ks xs L) : KeepOk (ks ++ xs) L := ⟨h.names, h.nd, fun p hp => ⟨(h.cells p hp).1, (h.cells p hp).2.1, fun c hc => CX_rid ((h.cells p hp).2.2 c hc)⟩⟩
end
end Go.Psl
namespace Go.Proofs.Tryz
open Go.Psl
open Go.Log
theorem u8_ne {b c : UInt8} (h : ¬ b = c) : ¬ (b.toNat : Int) = c.toNat := fun e => h (UInt8.toNat_inj.1 (by omega))
theorem fn102 (n lo hi : Int) : Ct prog 102 [vi n, vi lo, vi hi] (vb (betw n lo hi)) [] := by
 by_cases h1 : lo <= n
 . by_cases h2 : n <= hi
   . refine CB func102 c102 fun E hE => ?_
     simp [p102, h1, h2]
     apply RZ
     simp [results102, betw, h1, h2]
   . refine CB func102 c102 fun E hE => ?_
     simp [p102, h1, h2]
     apply RZ
     simp [results102, betw, h1, h2]
 . refine CB func102 c102 fun E hE => ?_
   simp [p102, h1]
   apply RZ
   simp [results102, betw, h1]
theorem fn126 (b : UInt8) : Ct prog 126 [vu b] (vb (betw (b.toNat : Int) 65 90)) [] := by
 by_cases h1 : 65 <= (b.toNat : Int)
 . by_cases h2 : (b.toNat : Int) <= 90
   . refine CB func126 c126 fun E hE => ?_
     simp [p126, h1, h2]
     apply RZ
     simp [results126, betw, h1, h2]
   . refine CB func126 c126 fun E hE => ?_
     simp [p126, h1, h2]
     apply RZ
     simp [results126, betw, h1, h2]
 . refine CB func126 c126 fun E hE => ?_
   simp [p126, h1]
   apply RZ
   simp [results126, betw, h1]
theorem fn121 (b : UInt8) : Ct prog 121 [vu b] (vb (betw (b.toNat : Int) 48 57)) [] := by
 by_cases h1 : 48 <= (b.toNat : Int)
 . by_cases h2 : (b.toNat : Int) <= 57
   . refine CB func121 c121 fun E hE => ?_
     simp [p121, h1, h2]
     apply RZ
     simp [results121, betw, h1, h2]
   . refine CB func121 c121 fun E hE => ?_
     simp [p121, h1, h2]
     apply RZ
     simp [results121, betw, h1, h2]
 . refine CB func121 c121 fun E hE => ?_
   simp [p121, h1]
   apply RZ
   simp [results121, betw, h1]
theorem fn100 (b : UInt8) : Ct prog 100 [vu b] (vb (betw (b.toNat : Int) 97 122)) [] := by
 by_cases h1 : 97 <= (b.toNat : Int)
 . by_cases h2 : (b.toNat : Int) <= 122
   . refine CB func100 c100 fun E hE => ?_
     simp [p100, h1, h2]
     apply RZ
     simp [results100, betw, h1, h2]
   . refine CB func100 c100 fun E hE => ?_
     simp [p100, h1, h2]
     apply RZ
     simp [results100, betw, h1, h2]
 . refine CB func100 c100 fun E hE => ?_
   simp [p100, h1]
   apply RZ
   simp [results100, betw, h1]
def wdF (d : Bool) (i : Nat) (b : UInt8) : Bool := upB b || (d && decide (0 < i) && dgB b)
theorem wdF_true : wdF true = shipF := by funext i b; simp [wdF, shipF]
theorem fn71 (s : By) (d : Bool) (hl : s.length <= 1000000) : Ct prog 71 [vS s, vb d] (vb (madeS s 8 (wdF d))) [] := by
 have c1 := fn102 s.length 1 8
 by_cases h0 : betw s.length 1 8 = false
 . rw [h0] at c1
   refine CB func71 c71 fun E hE => ?_
   simp [p71]
   refine CLa c1 ?_
   simp
   apply RZ
   simp [results71, madeS, h0]
 simp only [Bool.not_eq_false] at h0
 rw [h0] at c1
 refine CB func71 c71 fun E hE => ?_
 simp [p71]
 refine CLa c1 ?_
 simp
 refine pw_loop (α := Nat) (fun i => ⟨slots [(0, vS s), (1, vb d), (5, vi i)], lk [], 0⟩) (fun i => i <= s.length /\ ∀ j, j < i -> (s[j]?).all (wdF d j) = true) (fun i => s.length - i) 0 ?_ ?_ ?_
 . exact ⟨by omega, fun j hj => by omega⟩
 . exact WK hE (lk [])
 . rintro i ⟨hi, hg3⟩
   have hz := @wz i (by omega)
   by_cases h : i < s.length
   . obtain ⟨b, hb⟩ := gE h
     have hI : (i : Int) < s.length := by omega
     have c2 := fn126 b
     have c3 := fn121 b
     change Ct prog _ _ (vb (upB b)) _ at c2
     change Ct prog _ _ (vb (dgB b)) _ at c3
     have hgo : wdF d i b = true -> i + 1 <= s.length /\ ∀ j, j < i + 1 -> (s[j]?).all (wdF d j) = true := fun hq => ⟨by omega, fun j hj => by
       by_cases e : j = i
       . subst e; rw [hb]; simp [hq]
       . exact hg3 j (by omega)⟩
     by_cases hu : upB b = true
     . rw [hu] at c2
       simp [p71l0, hI, hb]
       refine CLa c2 ?_
       simp [hz]
       refine ⟨i + 1, hgo (by simp [wdF, hu]), by omega, ?_⟩
       exact WK hE (lk [])
     simp only [Bool.not_eq_true] at hu
     rw [hu] at c2
     cases d with
     | false =>
       simp [p71l0, hI, hb]
       refine CLa c2 ?_
       simp
       apply RZ
       simp [results71, madeS, fitA_bad hb (show wdF false i b = false by simp [wdF, hu])]
     | true =>
       by_cases hi0 : 0 < i
       . have hi0' : (0 : Int) < i := by omega
         by_cases hd : dgB b = true
         . rw [hd] at c3
           simp [p71l0, hI, hb]
           refine CLa c2 ?_
           simp [hi0, hb]
           refine CLa c3 ?_
           simp [hz]
           refine ⟨i + 1, hgo (by simp [wdF, hi0, hd]), by omega, ?_⟩
           exact WK hE (lk [])
         . simp only [Bool.not_eq_true] at hd
           rw [hd] at c3
           simp [p71l0, hI, hb]
           refine CLa c2 ?_
           simp [hi0, hb]
           refine CLa c3 ?_
           simp
           apply RZ
           simp [results71, madeS, fitA_bad hb (show wdF true i b = false by simp [wdF, hu, hd])]
       . simp [p71l0, hI, hb]
         refine CLa c2 ?_
         simp [hi0]
         apply RZ
         simp [results71, madeS, fitA_bad hb (show wdF true i b = false by simp [wdF, hu, hi0])]
   . have hI : ¬ (i : Int) < s.length := by omega
     simp [p71l0, hI]
     apply RZ
     simp [results71, madeS, h0, fitA_ok fun j hj => hg3 j (by omega)]
end Go.Proofs.Tryz
namespace Go.Proofs.YtcaecmiedjnacaaGreatDoor
open Go.Joins Go.ChangeShapes Go.WideShapes Go.ChangeAt Go.RowKit Go.Psl Go.Log
theorem Tryz.own : ownKnob Tryz.prog.godebug = none := by kernel_rfl
theorem Tryz.laidOut : laidOutB Tryz.prog = true := by kernel_rfl
theorem all_map {α β : Type} {f : α -> β} : ∀ {es : List β}, (∀ x ∈ es, ∃ k, x = f k) -> ∃ t : List α, es = t.map f
 | [], _ => ⟨[], rfl⟩
 | e :: es, h => by
   obtain ⟨k, hk⟩ := h e (by simp)
   obtain ⟨t, ht⟩ := all_map (f := f) (es := es) fun x hx => h x (by simp [hx])
   exact ⟨k :: t, by rw [ht, hk]; rfl⟩
theorem all2_d {G : Gh} {W : World} : ∀ {ds : List D} {cv : List Value}, All2 (RD G.Im W) ds cv -> All2 (R1 G W) (ds.map V.d) cv
 | [], [], _ => trivial
 | _ :: _, _ :: _, h => ⟨h.1, all2_d h.2⟩
abbrev GA (W : World) : Gh := ⟨fun _ => 0, fun _ => 0, fun _ => true, fun _ => true, InW W⟩
theorem struct_arg {H : Type} {enc : TypeId × Value -> H} {W : World} {base : Nat} {v : Value} {d : DataW H} {p : List MemPlace} {t : TypeId} {fs : Array Field} {n : Nat} (hu : Tryz.prog.underlying t = some (.struct fs)) (hp : plainB Tryz.prog n t = true)
   (hval : Value.okWide Tryz.prog W .any base t v) (h : DataW.Trod enc Tryz.prog W 0 (fun _ => true) true t v d p) : ∃ ds : List D, Sh' Tryz.prog n t ds /\ R2 (GA W) W (.agg (ds.map .d)) v := by
 obtain ⟨m, hm⟩ := h
 obtain ⟨cs, rfl, _⟩ := okWide_struct hu hval
 obtain ⟨ds, h1, h2⟩ := read_plain n t hp m _ _ hm
 exact ⟨ds, h1, _, rfl, all2_d h2⟩
theorem sh_int {n : Nat} {ds : List D} (h : Sh' Tryz.prog (n + 1) 3 ds) : ∃ i : Int, ds = [.lit (.int .i64 i)] := by
 simp only [Sh', Tryz.underlying3] at h
 obtain ⟨i, h, _⟩ := h
 exact ⟨i, h⟩
theorem sh_text {n : Nat} {ds : List D} (h : Sh' Tryz.prog (n + 1) 9 ds) : ∃ l : By, ds = [Tryz.dS l] := by
 simp only [Sh', Tryz.underlying9] at h
 obtain ⟨s, h, _⟩ := h
 exact ⟨s.data.toList, by rw [h, <- bs_data s, bs_toList]⟩
theorem text_arg {H : Type} {enc : TypeId × Value -> H} {W : World} {base : Nat} {v : Value} {d : DataW H} {p : List MemPlace} (hval : Value.okWide Tryz.prog W .any base 9 v) (h : DataW.Trod enc Tryz.prog W 0 (fun _ => true) true 9 v d p) :
   ∃ k : By, R2 (GA W) W (Tryz.vS k) v := by
 obtain ⟨s, rfl⟩ := okWide_string Tryz.underlying9 hval
 have e : Tryz.vS s.data.toList = .d (.lit (.string s)) := by show V.d (.lit (.string (bs s.data.toList))) = _; rw [bs_data]
 exact ⟨s.data.toList, by rw [e]; exact .lit _ rfl⟩
def litV : DataW Unit -> Value
 | .lit (.int k x) => .int k x
 | _ => .bool false
def rowV : DataW Unit -> List Value
 | .agg ps => ps.map litV
 | d => [litV d]
def valsOf : DataW Unit -> Array Value
 | .agg ps => (ps.flatMap rowV).toArray
 | _ => #[]
def putV (d : DataW Unit) : Obj -> Obj
 | .cells _ t frozen => .cells (valsOf d) t frozen
 | o => o
noncomputable def laidWorld (laid : List (Nat × DataW Unit)) (os : Os) : World :=
 { World.holding Tryz.prog os ⟨#[], #[], []⟩ with heap := laid.foldl (fun h x => h.modify x.1 (putV x.2)) (World.holding Tryz.prog os ⟨#[], #[], []⟩).heap }
theorem var_of_laid {W : World} {name : String} {k : IntKind} {zs : List Int} {g : Nat} {t e : TypeId} {n : Nat}
   (hg : Tryz.prog.globalNamed name = some g) (hty : (Tryz.prog.globals[g]?).map (·.type) = some t) (ht : Tryz.prog.underlying t = some (.array n e)) (he : Tryz.prog.underlying e = some (.int k)) (hce : Tryz.prog.cellsOf e = 1) (hct : Tryz.prog.cellsOf t = n) :
   ∀ {laid : List (String × DataW Unit)} {ps : List MemPlace}, (name, Lib.tabData k zs) ∈ laid -> DataW.LaidVars Tryz.prog W laid ps -> W.var? Tryz.prog name = some (zs.map fun z => Value.int k z).toArray
 | [], _, hm, _ => by cases hm
 | (n', d) :: r, ps, hm, h => by
   obtain ⟨g', t', cs, fuel, p, q, hg', ht', hvar, hd, hr, _⟩ := h
   rcases List.mem_cons.1 hm with hm | hm
   . cases hm
     obtain rfl := Option.some.inj (hg.symm.trans hg')
     obtain rfl := Option.some.inj (hty.symm.trans ht')
     rw [hvar, <- Lib.cells_of_tab ht he hce hct hd]
   . exact var_of_laid hg hty ht he hce hct hm hr
theorem tabW_of_var {W : World} {name : String} {g : Nat} {c : Array Value} (hg : Tryz.prog.globalNamed name = some g) (h : W.var? Tryz.prog name = some c) : tabW W g c := by
 unfold World.var? at h
 rw [hg] at h
 simp only [Option.bind_some] at h
 split at h
 . rename_i cs t fz hh
   cases h
   exact ⟨t, fz, hh⟩
 . cases h
theorem tabW_of_shaped {w : World} {g : Nat} {t : TypeId} {zero : Array Value} {k : IntKind}
   (h : w.ShapedOpen Tryz.prog) (hg : g < Tryz.prog.globals.size)
   (h0 : ((begin Tryz.prog (fun _ _ => 0) default).world.heap[g]?).bind Obj.row? = some (zero, t)) (hz : zero.size = 1)
   (hb : Tryz.prog.buildable t = true) (hc : Tryz.prog.cellTypes Tryz.prog.depth t = some [t]) (hu : Tryz.prog.underlying t = some (.int k)) : ∃ m, tabW w g #[.int k m] := by
 obtain ⟨m, hm⟩ := cell_of_shapedOpen_int h hg h0 hz hb hc hu
 obtain ⟨cs, hh, hs, _⟩ := h.1 g zero t hg h0
 refine ⟨m, t, (0, 0), ?_⟩
 rw [hh]
 have h1 : cs[0]? = some (.int k m) := by
   simpa [World.cell?, hh] using hm
 have h2 : cs = #[.int k m] := by
   obtain ⟨l⟩ := cs
   rw [hz] at hs
   match l, hs with
   | [a], _ => simp at h1; rw [h1]
 rw [h2]
theorem pow_laid {W : World} {laid : List (String × DataW Unit)} (hm : ("internal/strconv.uint64pow10", Lib.tabData .u64 Lib.pow10Tab) ∈ laid) (h : laidMet Tryz.prog laid W) : globAt W gPow := by
 obtain ⟨ps, hv, _⟩ := h
 have h1 := var_of_laid (g := gPow) (t := (Tryz.prog.globals[gPow]?.map (·.type)).getD 0) (n := 20) (by kernel_rfl) (by kernel_rfl) (by kernel_rfl) (e := (Tryz.prog.globals[gPow]?.map fun _ => 228).getD 0) (by kernel_rfl) (by kernel_rfl) (by kernel_rfl) hm hv
 have h2 := tabW_of_var (g := gPow) (by kernel_rfl) h1
 have h3 : globAt W gPow = tabW W gPow ((List.range 20).map fun i => Value.int .u64 ((10 ^ i : Nat) : Int)).toArray := by simp [globAt, gPow, gMax, gSyn, gRng]
 rw [h3]
 unfold Lib.pow10Tab at h2
 rw [List.map_map] at h2
 exact h2
theorem max_laid {W : World} (h : W.ShapedOpen Tryz.prog) : globAt W gMax := by
 have h1 := tabW_of_shaped (zero := #[.int .i64 0]) (t := 3) (g := gMax) h (of_decide_eq_true (by kernel_rfl)) (by kernel_rfl) rfl (by kernel_rfl) (by kernel_rfl) Tryz.underlying3
 have h2 : globAt W gMax = ∃ m, tabW W gMax #[.int .i64 m] := by simp [globAt]
 rw [h2]
 exact h1
theorem iface_of_laid {W : World} {name nm : String} {d : DataW Unit} {g : Nat} {t : TypeId} {ms : Array (String × TypeId)}
   (hg : Tryz.prog.globalNamed name = some g) (hty : (Tryz.prog.globals[g]?).map (·.type) = some t) (ht : Tryz.prog.underlying t = some (.interface ms)) :
   ∀ {laid : List (String × DataW Unit)} {ps : List MemPlace}, (name, .iface nm d) ∈ laid -> DataW.LaidVars Tryz.prog W laid ps -> ∃ u v, W.var? Tryz.prog name = some #[.iface u v]
 | [], _, hm, _ => by cases hm
 | (n', d') :: r, ps, hm, h => by
   obtain ⟨g', t', cs, fuel, p, q, hg', ht', hvar, hd, hr, _⟩ := h
   rcases List.mem_cons.1 hm with hm | hm
   . cases hm
     obtain rfl := Option.some.inj (hg.symm.trans hg')
     obtain rfl := Option.some.inj (hty.symm.trans ht')
     obtain ⟨_, u, v, hcs, _, _⟩ := iface_of_trod ht hd
     refine ⟨u, v, ?_⟩
     rw [hvar, <- hcs]
   . exact iface_of_laid hg hty ht hm hr
theorem syn_laid {W : World} {laid : List (String × DataW Unit)} {nm : String} {d : DataW Unit} (hm : ("strconv.ErrSyntax", .iface nm d) ∈ laid) (h : laidMet Tryz.prog laid W) : globAt W gSyn := by
 obtain ⟨ps, hv, _⟩ := h
 obtain ⟨u, v, h1⟩ := iface_of_laid (g := gSyn) (t := 134) (by kernel_rfl) (by kernel_rfl) Tryz.underlying134 hm hv
 have h2 := tabW_of_var (g := gSyn) (by kernel_rfl) h1
 have h3 : globAt W gSyn = ∃ tp p, tabW W gSyn #[.iface tp p] := by simp [globAt, gMax, gSyn]
 rw [h3]
 exact ⟨u, v, h2⟩
theorem rng_laid {W : World} {laid : List (String × DataW Unit)} {nm : String} {d : DataW Unit} (hm : ("strconv.ErrRange", .iface nm d) ∈ laid) (h : laidMet Tryz.prog laid W) : globAt W gRng := by
 obtain ⟨ps, hv, _⟩ := h
 obtain ⟨u, v, h1⟩ := iface_of_laid (g := gRng) (t := 134) (by kernel_rfl) (by kernel_rfl) Tryz.underlying134 hm hv
 have h2 := tabW_of_var (g := gRng) (by kernel_rfl) h1
 have h3 : globAt W gRng = ∃ tp p, tabW W gRng #[.iface tp p] := by simp [globAt, gMax, gSyn, gRng]
 rw [h3]
 exact ⟨u, v, h2⟩
def errWorld (g u t : Nat) (text : List UInt8) (W : World) : World :=
 { W with heap := (W.heap.modify g fun | .cells _ t' fz => .cells #[.iface u (.pointer (some ⟨W.heap.size, 0, none⟩))] t' fz | o => o).push (.cells #[.string ⟨text.toArray⟩] t (0, 0)) }
theorem GA_of {W : World} (h : globW W) : Go.Psl.GW (GA W).Im W := ⟨fun _ h => h, W, h, fun _ hk => ⟨hk, rfl⟩⟩
end Go.Proofs.YtcaecmiedjnacaaGreatDoor
namespace Go.Psl
open Go.RowKit
variable {P : Program}
theorem lit_args {G : Gh} {W : World} : ∀ {vs0 : List Value} {xs : List Value}, All2 (R2 G W) (vs0.map cV) xs -> xs = vs0
 | [], [], _ => rfl
 | a :: as0, x :: xs, h => by
   have h1 : x = a := rv_lit (R2.rv h.1)
   rw [h1, lit_args h.2]
 | [], _ :: _, h => h.elim
 | _ :: _, [], h => h.elim
def GlobN (W : World) : Prop := ∃ Wr : World, globW Wr /\ ∀ k, k < Wr.heap.size -> W.heap[k]? = Wr.heap[k]?
theorem GW.globN {Im : Nat -> Prop} {W : World} (h : GW Im W) : GlobN W := by
 obtain ⟨_, Wr, h1, h2⟩ := h
 exact ⟨Wr, h1, fun k hk => (h2 k hk).2⟩
theorem Cm.ofBelow {f : FuncId} {vs0 : List Value} {r : V} {v : Value} (hf : isFn P f) (hr : ∀ G W, RV G W r v) (hw : AV (fun _ => False) anyD r)
   (h : ∀ W, GlobN W -> Calls P f vs0.toArray W fun e W' => e = .returned v /\ Below W.heap.size W W') : Ct P f (vs0.map cV) r [] := by
 refine ⟨hf, fun G W xs hGW hargs hpre => ?_⟩
 have hx := lit_args hargs
 obtain ⟨xs⟩ := xs
 simp only at hx
 subst hx
 refine Calls.mono (h W hGW.globN) fun e W' ⟨he, hb⟩ => ?_
 subst he
 refine ⟨{ G with Im := G.Im }, ⟨hb.os, hb.tape, hb.output, Nat.le_refl _, hb.size, fun b hb' _ => hb.block b hb', fun b hb' => ⟨Nat.lt_of_lt_of_le (hGW.1 b hb') hb.size, .inl hb'⟩, fun _ h => h, hr _ _, AV.mono (fun _ h => h.elim) (fun _ h => h) hw, ?_, ?_, ?_⟩⟩
 . intro i cs h; cases h
 . intro i j h; simp [InH, lk] at h
 . intro i h; cases h
theorem Cm.ofLit {f : FuncId} {vs0 : List Value} {v : Value} (hf : isFn P f) (hv : flatV v = true)
   (h : ∀ W, GlobN W -> Calls P f vs0.toArray W fun e W' => e = .returned v /\ Below W.heap.size W W') : Ct P f (vs0.map cV) (cV v) [] :=
 Cm.ofBelow hf (fun _ _ => RD.lit v hv) trivial h
theorem Cm.ofRow {f : FuncId} {vs0 : List Value} {vs : List Value} {T : TypeId} (hf : isFn P f) (hv : ∀ v ∈ vs, flatV v = true) (hl : vs.length <= maxL)
   (h : ∀ W, GlobN W -> Calls P f vs0.toArray W fun e W' => e = .returned (.slice (some ⟨W.heap.size, 0, none⟩) vs.length vs.length) /\ W' = W.alloc (.cells vs.toArray T)) : Ct P f (vs0.map cV) (.ls 0 0 vs.length 1) [(0, vs.map cV)] := by
 refine ⟨hf, fun G W xs hGW hargs hpre => ?_⟩
 have hx := lit_args hargs
 obtain ⟨xs⟩ := xs
 simp only at hx
 subst hx
 refine Calls.mono (h W hGW.globN) fun e W' ⟨he, hb⟩ => ?_
 subst he hb
 have hnew : (W.alloc (.cells vs.toArray T)).heap[W.heap.size]? = some (.cells vs.toArray T (0, 0)) := by
   show (W.heap.push _)[_]? = _
   simp
 have hold : ∀ k, k < W.heap.size -> (W.alloc (.cells vs.toArray T)).heap[k]? = W.heap[k]? := fun k hk => by
   show (W.heap.push _)[_]? = _
   rw [Array.getElem?_push, if_neg (by omega)]
 have hsz : (W.alloc (.cells vs.toArray T)).heap.size = W.heap.size + 1 := by
   show (W.heap.push _).size = _
   simp
 refine ⟨{ β := fun _ => W.heap.size, bs := fun _ => vs.length, ph := fun _ => false, lo := fun _ => false, Im := G.Im }, ⟨rfl, rfl, rfl, Nat.le_refl _, by omega, fun b hb' _ => hold b hb', fun b hb' => ⟨by have := hGW.1 b hb'; omega, .inl hb'⟩, fun _ h => h, ?_, ?_, ?_, ?_, ?_⟩⟩
 . exact ⟨hl, .inr ⟨⟨rfl, rfl⟩, 0, vs.length, rfl, Nat.le_refl _, fun _ => ⟨rfl, by simp⟩⟩⟩
 . show InH _ 0
   rfl
 . intro i cs hi
   have hi0 : i = 0 /\ cs = vs.map cV := by
     simp only [lk] at hi
     split at hi
     . rename_i e; cases hi; exact ⟨e, rfl⟩
     . cases hi
   obtain ⟨rfl, rfl⟩ := hi0
   refine ⟨.inr (.inl ⟨rfl, rfl, fun hx => absurd (hGW.1 _ hx) (Nat.lt_irrefl _), vs.toArray, T, .of hnew, by simp, by simp, ?_, ?_⟩), fun _ => .inl (Nat.le_refl _), fun c hc => ?_⟩
   . simp only [List.length_map]
     rw [List.take_of_length_le (by simp)]
     have : ∀ {vs : List Value} {G' : Gh} {W' : World}, (∀ v ∈ vs, flatV v = true) -> All2 (R1 G' W') (vs.map cV) vs := by
       intro vs
       induction vs with
       | nil => intros; trivial
       | cons v vs ih => intro G' W' h; exact ⟨RD.lit v (h v (by simp)), ih fun w hw => h w (by simp [hw])⟩
     exact this hv
   . simp only [List.all_map, List.all_eq_true]
     intro v _; rfl
   . obtain ⟨v, _, rfl⟩ := List.mem_map.1 hc
     trivial
 . intro i j hi hj _ _ _
   have e1 : i = 0 := by simp only [InH, lk] at hi; split at hi; assumption; cases hi
   have e2 : j = 0 := by simp only [InH, lk] at hj; split at hj; assumption; cases hj
   rw [e1, e2]
 . intro i h; cases h
end Go.Psl
namespace Go.Proofs
def Tryz.itoaL_ren : Go.Shelf.Ren := ⟨fun | 171 => 61 | 243 => 111 | 246 => 155 | 283 => 185 | 284 => 186 | 285 => 187 | 286 => 188 | 129 => 207 | 317 => 206 | 318 => 208 | 319 => 209 | 320 => 210 | 337 => 216 | 338 => 217 | n => n, fun | 3 => 3 | 9 => 9 | 2 => 2 | 4 => 4 | 171 => 227 | 0 => 0 | 53 => 228 | 37 => 61 | 5 => 5 | 173 => 231 | 212 => 259 | 51 => 208 | 20 => 20 | 213 => 260 | 46 => 196 | 232 => 273 | 233 => 274 | n => n, fun | 17 => 5 | 18 => 8 | 19 => 9 | n => n⟩
theorem Tryz.itoaL : Go.Proofs.LaysM.n171 Tryz.prog Tryz.itoaL_ren := {
 mixed := by kernel_rfl,
 f129 := Tryz.func207.trans (congrArg some (by kernel_rfl)),
 f171 := Tryz.func61.trans (congrArg some (by kernel_rfl)),
 f243 := Tryz.func111.trans (congrArg some (by kernel_rfl)),
 f246 := Tryz.func155.trans (congrArg some (by kernel_rfl)),
 f283 := Tryz.func185.trans (congrArg some (by kernel_rfl)),
 f284 := Tryz.func186.trans (congrArg some (by kernel_rfl)),
 f285 := Tryz.func187.trans (congrArg some (by kernel_rfl)),
 f286 := Tryz.func188.trans (congrArg some (by kernel_rfl)),
 f317 := Tryz.func206.trans (congrArg some (by kernel_rfl)),
 f318 := Tryz.func208.trans (congrArg some (by kernel_rfl)),
 f319 := Tryz.func209.trans (congrArg some (by kernel_rfl)),
 f320 := Tryz.func210.trans (congrArg some (by kernel_rfl)),
 f337 := Tryz.func216.trans (congrArg some (by kernel_rfl)),
 f338 := Tryz.func217.trans (congrArg some (by kernel_rfl)),
 t0 := Tryz.underlying0,
 a0 := Tryz.isAgg0,
 z0 := Tryz.sizeOf0,
 v0 := Tryz.zeroValue0,
 t2 := Tryz.underlying2,
 a2 := Tryz.isAgg2,
 z2 := Tryz.sizeOf2,
 v2 := Tryz.zeroValue2,
 t3 := Tryz.underlying3,
 a3 := Tryz.isAgg3,
 z3 := Tryz.sizeOf3,
 v3 := Tryz.zeroValue3,
 t4 := Tryz.underlying4,
 a4 := Tryz.isAgg4,
 z4 := Tryz.sizeOf4,
 v4 := Tryz.zeroValue4,
 t5 := Tryz.underlying5,
 a5 := Tryz.isAgg5,
 z5 := Tryz.sizeOf5,
 v5 := Tryz.zeroValue5,
 t9 := Tryz.underlying9,
 a9 := Tryz.isAgg9,
 z9 := Tryz.sizeOf9,
 v9 := Tryz.zeroValue9,
 t20 := Tryz.underlying20,
 a20 := Tryz.isAgg20,
 z20 := Tryz.sizeOf20,
 v20 := Tryz.zeroValue20,
 t37 := Tryz.underlying61,
 a37 := Tryz.isAgg61,
 z37 := Tryz.sizeOf61,
 v37 := Tryz.zeroValue61,
 t46 := Tryz.underlying196,
 a46 := Tryz.isAgg196,
 z46 := Tryz.sizeOf196,
 v46 := Tryz.zeroValue196,
 t51 := Tryz.underlying208,
 a51 := Tryz.isAgg208,
 z51 := Tryz.sizeOf208,
 v51 := Tryz.zeroValue208,
 t53 := Tryz.underlying228,
 a53 := Tryz.isAgg228,
 z53 := Tryz.sizeOf228,
 v53 := Tryz.zeroValue228,
 t171 := Tryz.underlying227,
 a171 := Tryz.isAgg227,
 z171 := Tryz.sizeOf227,
 v171 := Tryz.zeroValue227,
 t173 := Tryz.underlying231,
 a173 := Tryz.isAgg231,
 z173 := Tryz.sizeOf231,
 v173 := Tryz.zeroValue231,
 t212 := Tryz.underlying259,
 a212 := Tryz.isAgg259,
 z212 := Tryz.sizeOf259,
 v212 := Tryz.zeroValue259,
 t213 := Tryz.underlying260,
 a213 := Tryz.isAgg260,
 z213 := Tryz.sizeOf260,
 t232 := Tryz.underlying273,
 a232 := Tryz.isAgg273,
 z232 := Tryz.sizeOf273,
 v232 := Tryz.zeroValue273,
 t233 := Tryz.underlying274,
 a233 := Tryz.isAgg274,
 z233 := Tryz.sizeOf274,
 v233 := Tryz.zeroValue274,
 g17 := by kernel_rfl,
 g18 := by kernel_rfl,
 g19 := by kernel_rfl,
 i0 := by kernel_rfl,
 i2 := by kernel_rfl,
 i3 := by kernel_rfl,
 i4 := by kernel_rfl,
 i5 := by kernel_rfl,
 i9 := by kernel_rfl,
 i20 := by kernel_rfl,
 i37 := by kernel_rfl,
 i46 := by kernel_rfl,
 i51 := by kernel_rfl,
 i53 := by kernel_rfl,
 i171 := by kernel_rfl,
 i173 := by kernel_rfl,
 i212 := by kernel_rfl,
 i232 := by kernel_rfl,
 i233 := by kernel_rfl,
 m17 := by kernel_rfl,
 m18 := by kernel_rfl,
 m19 := by kernel_rfl }
def Tryz.splitL_ren : Go.Shelf.Ren := ⟨fun | 146 => 42 | 221 => 89 | 268 => 136 | 138 => 137 | 143 => 138 | 195 => 172 | 197 => 173 | 218 => 174 | 219 => 175 | 260 => 196 | 217 => 134 | 225 => 197 | 224 => 198 | 267 => 199 | 266 => 171 | 314 => 212 | n => n, fun | 9 => 9 | 31 => 95 | 3 => 3 | 4 => 4 | 0 => 0 | 105 => 218 | 21 => 21 | 5 => 5 | 46 => 196 | 119 => 168 | 139 => 266 | 138 => 265 | 146 => 233 | 51 => 208 | n => n, fun | 1 => 2 | 3 => 6 | 4 => 7 | n => n⟩
theorem Tryz.splitL : Go.Proofs.LaysM.n146 Tryz.prog Tryz.splitL_ren := {
 mixed := by kernel_rfl,
 f138 := Tryz.func137.trans (congrArg some (by kernel_rfl)),
 f143 := Tryz.func138.trans (congrArg some (by kernel_rfl)),
 f146 := Tryz.func42.trans (congrArg some (by kernel_rfl)),
 f195 := Tryz.func172.trans (congrArg some (by kernel_rfl)),
 f197 := Tryz.func173.trans (congrArg some (by kernel_rfl)),
 f217 := Tryz.func134.trans (congrArg some (by kernel_rfl)),
 f218 := Tryz.func174.trans (congrArg some (by kernel_rfl)),
 f219 := Tryz.func175.trans (congrArg some (by kernel_rfl)),
 f221 := Tryz.func89.trans (congrArg some (by kernel_rfl)),
 f224 := Tryz.func198.trans (congrArg some (by kernel_rfl)),
 f225 := Tryz.func197.trans (congrArg some (by kernel_rfl)),
 f260 := Tryz.func196.trans (congrArg some (by kernel_rfl)),
 f266 := Tryz.func171.trans (congrArg some (by kernel_rfl)),
 f267 := Tryz.func199.trans (congrArg some (by kernel_rfl)),
 f268 := Tryz.func136.trans (congrArg some (by kernel_rfl)),
 f314 := Tryz.func212.trans (congrArg some (by kernel_rfl)),
 t0 := Tryz.underlying0,
 a0 := Tryz.isAgg0,
 z0 := Tryz.sizeOf0,
 v0 := Tryz.zeroValue0,
 t3 := Tryz.underlying3,
 a3 := Tryz.isAgg3,
 z3 := Tryz.sizeOf3,
 v3 := Tryz.zeroValue3,
 t4 := Tryz.underlying4,
 a4 := Tryz.isAgg4,
 z4 := Tryz.sizeOf4,
 v4 := Tryz.zeroValue4,
 t5 := Tryz.underlying5,
 a5 := Tryz.isAgg5,
 z5 := Tryz.sizeOf5,
 v5 := Tryz.zeroValue5,
 t9 := Tryz.underlying9,
 a9 := Tryz.isAgg9,
 z9 := Tryz.sizeOf9,
 v9 := Tryz.zeroValue9,
 t21 := Tryz.underlying21,
 a21 := Tryz.isAgg21,
 z21 := Tryz.sizeOf21,
 v21 := Tryz.zeroValue21,
 t31 := Tryz.underlying95,
 a31 := Tryz.isAgg95,
 z31 := Tryz.sizeOf95,
 v31 := Tryz.zeroValue95,
 t46 := Tryz.underlying196,
 a46 := Tryz.isAgg196,
 z46 := Tryz.sizeOf196,
 v46 := Tryz.zeroValue196,
 t51 := Tryz.underlying208,
 a51 := Tryz.isAgg208,
 z51 := Tryz.sizeOf208,
 v51 := Tryz.zeroValue208,
 t105 := Tryz.underlying218,
 a105 := Tryz.isAgg218,
 z105 := Tryz.sizeOf218,
 v105 := Tryz.zeroValue218,
 t119 := Tryz.underlying168,
 a119 := Tryz.isAgg168,
 z119 := Tryz.sizeOf168,
 t138 := Tryz.underlying265,
 a138 := Tryz.isAgg265,
 z138 := Tryz.sizeOf265,
 v138 := Tryz.zeroValue265,
 t139 := Tryz.underlying266,
 a139 := Tryz.isAgg266,
 z139 := Tryz.sizeOf266,
 v139 := Tryz.zeroValue266,
 t146 := Tryz.underlying233,
 a146 := Tryz.isAgg233,
 z146 := Tryz.sizeOf233,
 v146 := Tryz.zeroValue233,
 g1 := by kernel_rfl,
 g3 := by kernel_rfl,
 g4 := by kernel_rfl,
 i0 := by kernel_rfl,
 i3 := by kernel_rfl,
 i4 := by kernel_rfl,
 i5 := by kernel_rfl,
 i9 := by kernel_rfl,
 i21 := by kernel_rfl,
 i31 := by kernel_rfl,
 i46 := by kernel_rfl,
 i51 := by kernel_rfl,
 i105 := by kernel_rfl,
 i138 := by kernel_rfl,
 i139 := by kernel_rfl,
 i146 := by kernel_rfl,
 m1 := by kernel_rfl,
 s1_3 := fun w h => Go.Proofs.cell_of_shapedOpen_int (zero := #[.int .i64 0]) (t := 3) h (of_decide_eq_true (by kernel_rfl)) (by kernel_rfl) rfl (by kernel_rfl) (by kernel_rfl) Tryz.underlying3,
 m3 := by kernel_rfl,
 m4 := by kernel_rfl }
def Tryz.wstrL_ren : Go.Shelf.Ren := ⟨fun | 166 => 76 | 240 => 129 | 276 => 167 | n => n, fun | 70 => 130 | 9 => 9 | 3 => 3 | 75 => 134 | 0 => 0 | 72 => 132 | 37 => 61 | 4 => 4 | 164 => 211 | 80 => 137 | 5 => 5 | n => n, fun | n => n⟩
theorem Tryz.wstrL : Go.Proofs.Lays.n166 Tryz.prog Tryz.wstrL_ren := {
 mixed := by kernel_rfl,
 f166 := Tryz.func76.trans (congrArg some (by kernel_rfl)),
 f240 := Tryz.func129.trans (congrArg some (by kernel_rfl)),
 f276 := Tryz.func167.trans (congrArg some (by kernel_rfl)),
 t0 := Tryz.underlying0,
 a0 := Tryz.isAgg0,
 z0 := Tryz.sizeOf0,
 v0 := Tryz.zeroValue0,
 t3 := Tryz.underlying3,
 a3 := Tryz.isAgg3,
 z3 := Tryz.sizeOf3,
 v3 := Tryz.zeroValue3,
 t4 := Tryz.underlying4,
 a4 := Tryz.isAgg4,
 z4 := Tryz.sizeOf4,
 v4 := Tryz.zeroValue4,
 t9 := Tryz.underlying9,
 a9 := Tryz.isAgg9,
 z9 := Tryz.sizeOf9,
 v9 := Tryz.zeroValue9,
 t20 := Tryz.underlying20,
 a20 := Tryz.isAgg20,
 z20 := Tryz.sizeOf20,
 v20 := Tryz.zeroValue20,
 t37 := Tryz.underlying61,
 a37 := Tryz.isAgg61,
 z37 := Tryz.sizeOf61,
 v37 := Tryz.zeroValue61,
 t70 := Tryz.underlying130,
 a70 := Tryz.isAgg130,
 z70 := Tryz.sizeOf130,
 v70 := Tryz.zeroValue130,
 t72 := Tryz.underlying132,
 a72 := Tryz.isAgg132,
 z72 := Tryz.sizeOf132,
 v72 := Tryz.zeroValue132,
 t75 := Tryz.underlying134,
 a75 := Tryz.isAgg134,
 z75 := Tryz.sizeOf134,
 v75 := Tryz.zeroValue134,
 t164 := Tryz.underlying211,
 a164 := Tryz.isAgg211,
 z164 := Tryz.sizeOf211,
 v164 := Tryz.zeroValue211 }
def Tryz.bstrL_ren : Go.Shelf.Ren := ⟨fun | 169 => 77 | n => n, fun | 70 => 130 | 9 => 9 | 0 => 0 | 72 => 132 | 37 => 61 | 127 => 174 | 3 => 3 | 5 => 5 | n => n, fun | n => n⟩
theorem Tryz.bstrL : Go.Proofs.Lays.n169 Tryz.prog Tryz.bstrL_ren := {
 mixed := by kernel_rfl,
 f169 := Tryz.func77.trans (congrArg some (by kernel_rfl)),
 t0 := Tryz.underlying0,
 a0 := Tryz.isAgg0,
 z0 := Tryz.sizeOf0,
 v0 := Tryz.zeroValue0,
 t3 := Tryz.underlying3,
 a3 := Tryz.isAgg3,
 z3 := Tryz.sizeOf3,
 v3 := Tryz.zeroValue3,
 t9 := Tryz.underlying9,
 a9 := Tryz.isAgg9,
 z9 := Tryz.sizeOf9,
 v9 := Tryz.zeroValue9,
 t37 := Tryz.underlying61,
 a37 := Tryz.isAgg61,
 z37 := Tryz.sizeOf61,
 v37 := Tryz.zeroValue61,
 t70 := Tryz.underlying130,
 a70 := Tryz.isAgg130,
 z70 := Tryz.sizeOf130,
 v70 := Tryz.zeroValue130,
 t72 := Tryz.underlying132,
 a72 := Tryz.isAgg132,
 z72 := Tryz.sizeOf132,
 v72 := Tryz.zeroValue132,
 t127 := Tryz.underlying174,
 a127 := Tryz.isAgg174,
 z127 := Tryz.sizeOf174,
 v127 := Tryz.zeroValue174 }
theorem Tryz.bldX : Builder.Extra Tryz.prog Tryz.wstrL_ren := {
 sizeBuilder := by kernel_rfl, liesBuilder := by kernel_rfl, t5 := Tryz.underlying5, a5 := Tryz.isAgg5, z5 := Tryz.sizeOf5, v5 := Tryz.zeroValue5, infoByte := by kernel_rfl, cellsByte := by kernel_rfl, sizeByte := by kernel_rfl, neB5 := by decide }
theorem Tryz.bldXb : Builder.Extra Tryz.prog Tryz.bstrL_ren := {
 sizeBuilder := by kernel_rfl, liesBuilder := by kernel_rfl, t5 := Tryz.underlying5, a5 := Tryz.isAgg5, z5 := Tryz.sizeOf5, v5 := Tryz.zeroValue5, infoByte := by kernel_rfl, cellsByte := by kernel_rfl, sizeByte := by kernel_rfl, neB5 := by decide }
def Tryz.atoiL_ren : Go.Shelf.Ren := ⟨fun | 172 => 90 | 244 => 139 | 245 => 140 | 247 => 176 | 279 => 177 | 280 => 178 | 281 => 179 | 282 => 180 | 287 => 200 | 316 => 201 | 171 => 61 | 205 => 202 | 321 => 213 | 322 => 214 | 243 => 111 | 246 => 155 | 283 => 185 | 284 => 186 | 285 => 187 | 286 => 188 | 129 => 207 | 317 => 206 | 318 => 208 | 319 => 209 | 320 => 210 | 337 => 216 | 338 => 217 | n => n, fun | 9 => 9 | 3 => 3 | 75 => 134 | 76 => 135 | 4 => 4 | 5 => 5 | 167 => 220 | 37 => 61 | 0 => 0 | 85 => 221 | 2 => 2 | 168 => 223 | 53 => 228 | 175 => 251 | 46 => 196 | 210 => 254 | 127 => 174 | 145 => 271 | 143 => 269 | 21 => 21 | 171 => 227 | 173 => 231 | 212 => 259 | 51 => 208 | 20 => 20 | 213 => 260 | 232 => 273 | 233 => 274 | 80 => 137 | n => n, fun | 15 => 3 | 16 => 4 | 17 => 5 | 18 => 8 | 19 => 9 | n => n⟩
theorem Tryz.atoiL : Go.Proofs.LaysC.n172 Tryz.prog Tryz.atoiL_ren := {
 mixed := by kernel_rfl,
 f129 := Tryz.func207.trans (congrArg some (by kernel_rfl)),
 f171 := Tryz.func61.trans (congrArg some (by kernel_rfl)),
 f172 := Tryz.func90.trans (congrArg some (by kernel_rfl)),
 f205 := Tryz.func202.trans (congrArg some (by kernel_rfl)),
 f243 := Tryz.func111.trans (congrArg some (by kernel_rfl)),
 f244 := Tryz.func139.trans (congrArg some (by kernel_rfl)),
 f245 := Tryz.func140.trans (congrArg some (by kernel_rfl)),
 f246 := Tryz.func155.trans (congrArg some (by kernel_rfl)),
 f247 := Tryz.func176.trans (congrArg some (by kernel_rfl)),
 f279 := Tryz.func177.trans (congrArg some (by kernel_rfl)),
 f280 := Tryz.func178.trans (congrArg some (by kernel_rfl)),
 f281 := Tryz.func179.trans (congrArg some (by kernel_rfl)),
 f282 := Tryz.func180.trans (congrArg some (by kernel_rfl)),
 f283 := Tryz.func185.trans (congrArg some (by kernel_rfl)),
 f284 := Tryz.func186.trans (congrArg some (by kernel_rfl)),
 f285 := Tryz.func187.trans (congrArg some (by kernel_rfl)),
 f286 := Tryz.func188.trans (congrArg some (by kernel_rfl)),
 f287 := Tryz.func200.trans (congrArg some (by kernel_rfl)),
 f316 := Tryz.func201.trans (congrArg some (by kernel_rfl)),
 f317 := Tryz.func206.trans (congrArg some (by kernel_rfl)),
 f318 := Tryz.func208.trans (congrArg some (by kernel_rfl)),
 f319 := Tryz.func209.trans (congrArg some (by kernel_rfl)),
 f320 := Tryz.func210.trans (congrArg some (by kernel_rfl)),
 f321 := Tryz.func213.trans (congrArg some (by kernel_rfl)),
 f322 := Tryz.func214.trans (congrArg some (by kernel_rfl)),
 f337 := Tryz.func216.trans (congrArg some (by kernel_rfl)),
 f338 := Tryz.func217.trans (congrArg some (by kernel_rfl)),
 t0 := Tryz.underlying0,
 a0 := Tryz.isAgg0,
 z0 := Tryz.sizeOf0,
 v0 := Tryz.zeroValue0,
 t2 := Tryz.underlying2,
 a2 := Tryz.isAgg2,
 z2 := Tryz.sizeOf2,
 v2 := Tryz.zeroValue2,
 t3 := Tryz.underlying3,
 a3 := Tryz.isAgg3,
 z3 := Tryz.sizeOf3,
 v3 := Tryz.zeroValue3,
 t4 := Tryz.underlying4,
 a4 := Tryz.isAgg4,
 z4 := Tryz.sizeOf4,
 v4 := Tryz.zeroValue4,
 t5 := Tryz.underlying5,
 a5 := Tryz.isAgg5,
 z5 := Tryz.sizeOf5,
 v5 := Tryz.zeroValue5,
 t9 := Tryz.underlying9,
 a9 := Tryz.isAgg9,
 z9 := Tryz.sizeOf9,
 v9 := Tryz.zeroValue9,
 t20 := Tryz.underlying20,
 a20 := Tryz.isAgg20,
 z20 := Tryz.sizeOf20,
 v20 := Tryz.zeroValue20,
 t21 := Tryz.underlying21,
 a21 := Tryz.isAgg21,
 z21 := Tryz.sizeOf21,
 v21 := Tryz.zeroValue21,
 t37 := Tryz.underlying61,
 a37 := Tryz.isAgg61,
 z37 := Tryz.sizeOf61,
 v37 := Tryz.zeroValue61,
 t46 := Tryz.underlying196,
 a46 := Tryz.isAgg196,
 z46 := Tryz.sizeOf196,
 v46 := Tryz.zeroValue196,
 t51 := Tryz.underlying208,
 a51 := Tryz.isAgg208,
 z51 := Tryz.sizeOf208,
 v51 := Tryz.zeroValue208,
 t53 := Tryz.underlying228,
 a53 := Tryz.isAgg228,
 z53 := Tryz.sizeOf228,
 v53 := Tryz.zeroValue228,
 t75 := Tryz.underlying134,
 a75 := Tryz.isAgg134,
 z75 := Tryz.sizeOf134,
 v75 := Tryz.zeroValue134,
 t76 := Tryz.underlying135,
 a76 := Tryz.isAgg135,
 z76 := Tryz.sizeOf135,
 v76 := Tryz.zeroValue135,
 t85 := Tryz.underlying221,
 a85 := Tryz.isAgg221,
 z85 := Tryz.sizeOf221,
 v85 := Tryz.zeroValue221,
 t127 := Tryz.underlying174,
 a127 := Tryz.isAgg174,
 z127 := Tryz.sizeOf174,
 v127 := Tryz.zeroValue174,
 t143 := Tryz.underlying269,
 a143 := Tryz.isAgg269,
 z143 := Tryz.sizeOf269,
 v143 := Tryz.zeroValue269,
 t145 := Tryz.underlying271,
 a145 := Tryz.isAgg271,
 z145 := Tryz.sizeOf271,
 v145 := Tryz.zeroValue271,
 t167 := Tryz.underlying220,
 a167 := Tryz.isAgg220,
 z167 := Tryz.sizeOf220,
 v167 := Tryz.zeroValue220,
 t168 := Tryz.underlying223,
 a168 := Tryz.isAgg223,
 z168 := Tryz.sizeOf223,
 v168 := Tryz.zeroValue223,
 t171 := Tryz.underlying227,
 a171 := Tryz.isAgg227,
 z171 := Tryz.sizeOf227,
 v171 := Tryz.zeroValue227,
 t173 := Tryz.underlying231,
 a173 := Tryz.isAgg231,
 z173 := Tryz.sizeOf231,
 v173 := Tryz.zeroValue231,
 t175 := Tryz.underlying251,
 a175 := Tryz.isAgg251,
 z175 := Tryz.sizeOf251,
 v175 := Tryz.zeroValue251,
 t210 := Tryz.underlying254,
 a210 := Tryz.isAgg254,
 z210 := Tryz.sizeOf254,
 v210 := Tryz.zeroValue254,
 t212 := Tryz.underlying259,
 a212 := Tryz.isAgg259,
 z212 := Tryz.sizeOf259,
 v212 := Tryz.zeroValue259,
 t213 := Tryz.underlying260,
 a213 := Tryz.isAgg260,
 z213 := Tryz.sizeOf260,
 t232 := Tryz.underlying273,
 a232 := Tryz.isAgg273,
 z232 := Tryz.sizeOf273,
 v232 := Tryz.zeroValue273,
 t233 := Tryz.underlying274,
 a233 := Tryz.isAgg274,
 z233 := Tryz.sizeOf274,
 v233 := Tryz.zeroValue274,
 g15 := by kernel_rfl,
 g16 := by kernel_rfl,
 g17 := by kernel_rfl,
 g18 := by kernel_rfl,
 g19 := by kernel_rfl,
 t80 := Tryz.underlying137,
 a80 := Tryz.isAgg137,
 z80 := Tryz.sizeOf137,
 v80 := Tryz.zeroValue137,
 i0 := by kernel_rfl,
 i2 := by kernel_rfl,
 i3 := by kernel_rfl,
 i4 := by kernel_rfl,
 i5 := by kernel_rfl,
 i9 := by kernel_rfl,
 i20 := by kernel_rfl,
 i21 := by kernel_rfl,
 i37 := by kernel_rfl,
 i46 := by kernel_rfl,
 i51 := by kernel_rfl,
 i53 := by kernel_rfl,
 i75 := by kernel_rfl,
 i76 := by kernel_rfl,
 i80 := by kernel_rfl,
 i85 := by kernel_rfl,
 i127 := by kernel_rfl,
 i143 := by kernel_rfl,
 i145 := by kernel_rfl,
 i167 := by kernel_rfl,
 i168 := by kernel_rfl,
 i171 := by kernel_rfl,
 i173 := by kernel_rfl,
 i175 := by kernel_rfl,
 i210 := by kernel_rfl,
 i212 := by kernel_rfl,
 i232 := by kernel_rfl,
 i233 := by kernel_rfl,
 m15 := by kernel_rfl,
 m16 := by kernel_rfl,
 m17 := by kernel_rfl,
 m18 := by kernel_rfl,
 m19 := by kernel_rfl,
 c0 := by kernel_rfl,
 c2 := by kernel_rfl,
 c3 := by kernel_rfl,
 c4 := by kernel_rfl,
 c5 := by kernel_rfl,
 c9 := by kernel_rfl,
 c20 := by kernel_rfl,
 c21 := by kernel_rfl,
 c37 := by kernel_rfl,
 c46 := by kernel_rfl,
 c51 := by kernel_rfl,
 c53 := by kernel_rfl,
 c75 := by kernel_rfl,
 c76 := by kernel_rfl,
 c80 := by kernel_rfl,
 c85 := by kernel_rfl,
 c127 := by kernel_rfl,
 c143 := by kernel_rfl,
 c145 := by kernel_rfl,
 c167 := by kernel_rfl,
 c168 := by kernel_rfl,
 c171 := by kernel_rfl,
 c173 := by kernel_rfl,
 c175 := by kernel_rfl,
 c210 := by kernel_rfl,
 c212 := by kernel_rfl,
 c213 := by kernel_rfl,
 c232 := by kernel_rfl,
 c233 := by kernel_rfl }
def Tryz.repL_ren : Go.Shelf.Ren := ⟨fun | 105 => 112 | 212 => 156 | 99 => 157 | 165 => 150 | 166 => 76 | 170 => 158 | 169 => 77 | 263 => 189 | 264 => 190 | 206 => 165 | 240 => 129 | 241 => 184 | 276 => 167 | 277 => 205 | n => n, fun | 9 => 9 | 3 => 3 | 4 => 4 | 20 => 20 | 0 => 0 | 46 => 196 | 109 => 197 | 5 => 5 | 72 => 132 | 76 => 135 | 51 => 208 | 146 => 233 | 53 => 228 | 148 => 235 | 70 => 130 | 37 => 61 | 75 => 134 | 127 => 174 | 164 => 211 | 80 => 137 | n => n, fun | n => n⟩
theorem Tryz.repL : Go.Proofs.Lays.n105 Tryz.prog Tryz.repL_ren := {
 mixed := by kernel_rfl,
 f99 := Tryz.func157.trans (congrArg some (by kernel_rfl)),
 f105 := Tryz.func112.trans (congrArg some (by kernel_rfl)),
 f165 := Tryz.func150.trans (congrArg some (by kernel_rfl)),
 f166 := Tryz.func76.trans (congrArg some (by kernel_rfl)),
 f169 := Tryz.func77.trans (congrArg some (by kernel_rfl)),
 f170 := Tryz.func158.trans (congrArg some (by kernel_rfl)),
 f206 := Tryz.func165.trans (congrArg some (by kernel_rfl)),
 f212 := Tryz.func156.trans (congrArg some (by kernel_rfl)),
 f240 := Tryz.func129.trans (congrArg some (by kernel_rfl)),
 f241 := Tryz.func184.trans (congrArg some (by kernel_rfl)),
 f263 := Tryz.func189.trans (congrArg some (by kernel_rfl)),
 f264 := Tryz.func190.trans (congrArg some (by kernel_rfl)),
 f276 := Tryz.func167.trans (congrArg some (by kernel_rfl)),
 f277 := Tryz.func205.trans (congrArg some (by kernel_rfl)),
 t0 := Tryz.underlying0,
 a0 := Tryz.isAgg0,
 z0 := Tryz.sizeOf0,
 v0 := Tryz.zeroValue0,
 t3 := Tryz.underlying3,
 a3 := Tryz.isAgg3,
 z3 := Tryz.sizeOf3,
 v3 := Tryz.zeroValue3,
 t4 := Tryz.underlying4,
 a4 := Tryz.isAgg4,
 z4 := Tryz.sizeOf4,
 v4 := Tryz.zeroValue4,
 t5 := Tryz.underlying5,
 a5 := Tryz.isAgg5,
 z5 := Tryz.sizeOf5,
 v5 := Tryz.zeroValue5,
 t9 := Tryz.underlying9,
 a9 := Tryz.isAgg9,
 z9 := Tryz.sizeOf9,
 v9 := Tryz.zeroValue9,
 t20 := Tryz.underlying20,
 a20 := Tryz.isAgg20,
 z20 := Tryz.sizeOf20,
 v20 := Tryz.zeroValue20,
 t37 := Tryz.underlying61,
 a37 := Tryz.isAgg61,
 z37 := Tryz.sizeOf61,
 v37 := Tryz.zeroValue61,
 t46 := Tryz.underlying196,
 a46 := Tryz.isAgg196,
 z46 := Tryz.sizeOf196,
 v46 := Tryz.zeroValue196,
 t51 := Tryz.underlying208,
 a51 := Tryz.isAgg208,
 z51 := Tryz.sizeOf208,
 v51 := Tryz.zeroValue208,
 t53 := Tryz.underlying228,
 a53 := Tryz.isAgg228,
 z53 := Tryz.sizeOf228,
 v53 := Tryz.zeroValue228,
 t70 := Tryz.underlying130,
 a70 := Tryz.isAgg130,
 z70 := Tryz.sizeOf130,
 v70 := Tryz.zeroValue130,
 t72 := Tryz.underlying132,
 a72 := Tryz.isAgg132,
 z72 := Tryz.sizeOf132,
 v72 := Tryz.zeroValue132,
 t75 := Tryz.underlying134,
 a75 := Tryz.isAgg134,
 z75 := Tryz.sizeOf134,
 v75 := Tryz.zeroValue134,
 t76 := Tryz.underlying135,
 a76 := Tryz.isAgg135,
 z76 := Tryz.sizeOf135,
 v76 := Tryz.zeroValue135,
 t109 := Tryz.underlying197,
 a109 := Tryz.isAgg197,
 z109 := Tryz.sizeOf197,
 v109 := Tryz.zeroValue197,
 t127 := Tryz.underlying174,
 a127 := Tryz.isAgg174,
 z127 := Tryz.sizeOf174,
 v127 := Tryz.zeroValue174,
 t146 := Tryz.underlying233,
 a146 := Tryz.isAgg233,
 z146 := Tryz.sizeOf233,
 v146 := Tryz.zeroValue233,
 t148 := Tryz.underlying235,
 a148 := Tryz.isAgg235,
 z148 := Tryz.sizeOf235,
 v148 := Tryz.zeroValue235,
 t164 := Tryz.underlying211,
 a164 := Tryz.isAgg211,
 z164 := Tryz.sizeOf211,
 v164 := Tryz.zeroValue211 }
def Tryz.fldL_ren : Go.Shelf.Ren := ⟨fun | 157 => 66 | 229 => 119 | 199 => 120 | 261 => 166 | 311 => 192 | 312 => 193 | n => n, fun | 9 => 9 | 31 => 95 | 3 => 3 | 5 => 5 | 4 => 4 | 119 => 168 | 0 => 0 | 40 => 170 | 152 => 205 | 21 => 21 | 154 => 207 | 51 => 208 | 141 => 210 | 196 => 241 | 193 => 238 | 198 => 243 | 49 => 60 | 194 => 239 | 201 => 246 | 226 => 262 | 46 => 196 | 227 => 263 | n => n, fun | 0 => 0 | 6 => 1 | n => n⟩
theorem Tryz.fldL : Go.Proofs.Lays.n157 Tryz.prog Tryz.fldL_ren := {
 mixed := by kernel_rfl,
 f157 := Tryz.func66.trans (congrArg some (by kernel_rfl)),
 f199 := Tryz.func120.trans (congrArg some (by kernel_rfl)),
 f229 := Tryz.func119.trans (congrArg some (by kernel_rfl)),
 f261 := Tryz.func166.trans (congrArg some (by kernel_rfl)),
 f311 := Tryz.func192.trans (congrArg some (by kernel_rfl)),
 f312 := Tryz.func193.trans (congrArg some (by kernel_rfl)),
 t0 := Tryz.underlying0,
 a0 := Tryz.isAgg0,
 z0 := Tryz.sizeOf0,
 v0 := Tryz.zeroValue0,
 t3 := Tryz.underlying3,
 a3 := Tryz.isAgg3,
 z3 := Tryz.sizeOf3,
 v3 := Tryz.zeroValue3,
 t4 := Tryz.underlying4,
 a4 := Tryz.isAgg4,
 z4 := Tryz.sizeOf4,
 v4 := Tryz.zeroValue4,
 t5 := Tryz.underlying5,
 a5 := Tryz.isAgg5,
 z5 := Tryz.sizeOf5,
 v5 := Tryz.zeroValue5,
 t9 := Tryz.underlying9,
 a9 := Tryz.isAgg9,
 z9 := Tryz.sizeOf9,
 v9 := Tryz.zeroValue9,
 t21 := Tryz.underlying21,
 a21 := Tryz.isAgg21,
 z21 := Tryz.sizeOf21,
 v21 := Tryz.zeroValue21,
 t31 := Tryz.underlying95,
 a31 := Tryz.isAgg95,
 z31 := Tryz.sizeOf95,
 v31 := Tryz.zeroValue95,
 t40 := Tryz.underlying170,
 a40 := Tryz.isAgg170,
 z40 := Tryz.sizeOf170,
 v40 := Tryz.zeroValue170,
 t46 := Tryz.underlying196,
 a46 := Tryz.isAgg196,
 z46 := Tryz.sizeOf196,
 v46 := Tryz.zeroValue196,
 t49 := Tryz.underlying60,
 a49 := Tryz.isAgg60,
 z49 := Tryz.sizeOf60,
 v49 := Tryz.zeroValue60,
 t51 := Tryz.underlying208,
 a51 := Tryz.isAgg208,
 z51 := Tryz.sizeOf208,
 v51 := Tryz.zeroValue208,
 t119 := Tryz.underlying168,
 a119 := Tryz.isAgg168,
 z119 := Tryz.sizeOf168,
 t141 := Tryz.underlying210,
 a141 := Tryz.isAgg210,
 z141 := Tryz.sizeOf210,
 v141 := Tryz.zeroValue210,
 t152 := Tryz.underlying205,
 a152 := Tryz.isAgg205,
 z152 := Tryz.sizeOf205,
 v152 := Tryz.zeroValue205,
 t154 := Tryz.underlying207,
 a154 := Tryz.isAgg207,
 z154 := Tryz.sizeOf207,
 v154 := Tryz.zeroValue207,
 t193 := Tryz.underlying238,
 a193 := Tryz.isAgg238,
 z193 := Tryz.sizeOf238,
 v193 := Tryz.zeroValue238,
 t194 := Tryz.underlying239,
 a194 := Tryz.isAgg239,
 z194 := Tryz.sizeOf239,
 v194 := Tryz.zeroValue239,
 t196 := Tryz.underlying241,
 a196 := Tryz.isAgg241,
 z196 := Tryz.sizeOf241,
 v196 := Tryz.zeroValue241,
 t198 := Tryz.underlying243,
 a198 := Tryz.isAgg243,
 z198 := Tryz.sizeOf243,
 v198 := Tryz.zeroValue243,
 t201 := Tryz.underlying246,
 a201 := Tryz.isAgg246,
 z201 := Tryz.sizeOf246,
 v201 := Tryz.zeroValue246,
 t226 := Tryz.underlying262,
 a226 := Tryz.isAgg262,
 z226 := Tryz.sizeOf262,
 v226 := Tryz.zeroValue262,
 t227 := Tryz.underlying263,
 a227 := Tryz.isAgg263,
 z227 := Tryz.sizeOf263,
 v227 := Tryz.zeroValue263,
 g0 := by kernel_rfl,
 g6 := by kernel_rfl }
def Tryz.tpfL_ren : Go.Shelf.Ren := ⟨fun | 101 => 65 | 208 => 118 | 206 => 165 | n => n, fun | 9 => 9 | 4 => 4 | 3 => 3 | n => n, fun | n => n⟩
theorem Tryz.tpfL : Go.Proofs.Lays.n101 Tryz.prog Tryz.tpfL_ren := {
 mixed := by kernel_rfl,
 f101 := Tryz.func65.trans (congrArg some (by kernel_rfl)),
 f206 := Tryz.func165.trans (congrArg some (by kernel_rfl)),
 f208 := Tryz.func118.trans (congrArg some (by kernel_rfl)),
 t3 := Tryz.underlying3,
 a3 := Tryz.isAgg3,
 z3 := Tryz.sizeOf3,
 v3 := Tryz.zeroValue3,
 t4 := Tryz.underlying4,
 a4 := Tryz.isAgg4,
 z4 := Tryz.sizeOf4,
 v4 := Tryz.zeroValue4,
 t9 := Tryz.underlying9,
 a9 := Tryz.isAgg9,
 z9 := Tryz.sizeOf9,
 v9 := Tryz.zeroValue9 }
theorem Tryz.bldXr : Builder.Extra Tryz.prog Tryz.repL_ren := {
 sizeBuilder := by kernel_rfl, liesBuilder := by kernel_rfl, t5 := Tryz.underlying5, a5 := Tryz.isAgg5, z5 := Tryz.sizeOf5, v5 := Tryz.zeroValue5, infoByte := by kernel_rfl, cellsByte := by kernel_rfl, sizeByte := by kernel_rfl, neB5 := by decide }
end Go.Proofs
namespace Go.Proofs.YtcaecmiedjnacaaGreatDoor
open Go.Joins Go.ChangeShapes Go.WideShapes Go.ChangeAt Go.RowKit Go.Psl Go.Log
theorem spc_data : (Rows.laid_strings_asciiSpace : DataW Unit) = Lib.tabData .u8 Lib.asciiSpaceTab := by kernel_rfl
theorem wht_data : (Rows.laid_unicode_White_Space : DataW Unit) = Lib.whiteData := by kernel_rfl
theorem spc_laid {W : World} {laid : List (String × DataW Unit)} (hm : ("strings.asciiSpace", Rows.laid_strings_asciiSpace) ∈ laid) (h : laidMet Tryz.prog laid W) : globAt W gSpc := by
 obtain ⟨ps, hv, _⟩ := h
 rw [spc_data] at hm
 have h1 := var_of_laid (g := gSpc) (t := (Tryz.prog.globals[gSpc]?.map (·.type)).getD 0) (n := 256) (by kernel_rfl) (by kernel_rfl) (by kernel_rfl) (e := (Tryz.prog.globals[gSpc]?.map fun _ => bytT).getD 0) (by kernel_rfl) (by kernel_rfl) (by kernel_rfl) hm hv
 have h2 := tabW_of_var (g := gSpc) (by kernel_rfl) h1
 have h3 : globAt W gSpc = tabW W gSpc ((List.range 256).map fun i => Value.int .u8 (if isSpB (UInt8.ofNat i) then 1 else 0)).toArray := by simp [globAt, gPow, gMax, gSyn, gRng, gSpc]
 rw [h3]
 unfold Lib.asciiSpaceTab at h2
 rw [List.map_map] at h2
 exact h2
theorem whtX : WhiteExtra Tryz.prog Tryz.fldL_ren := {
 n6 := by kernel_rfl, y6 := by kernel_rfl, c3 := by kernel_rfl, c49 := by kernel_rfl, c193 := by kernel_rfl, c194 := by kernel_rfl, c196 := by kernel_rfl, c198 := by kernel_rfl }
theorem wht_eq' : ∀ i, i < 21 -> ((Lib.whiteT.getD i 0 : Nat) : Int) = whtL.getD i 0 := by decide
theorem wht_laid {W : World} {laid : List (String × DataW Unit)} (hm : ("unicode.White_Space", Rows.laid_unicode_White_Space) ∈ laid) (h : laidMet Tryz.prog laid W) : globAt W gWht := by
 rw [wht_data] at hm
 have h1 : Lib.WhiteTab gWht W := whiteTab_of_reads { Tryz.fldL with } whtX (Lib.laidMet.reads h hm)
 have h3 : globAt W gWht = whtW W gWht := by simp [globAt, gPow, gMax, gSyn, gRng, gSpc, gWht]
 rw [h3]
 obtain ⟨T, oT, R, oR, q1, q2, q3, q4, q5⟩ := h1
 exact ⟨T, oT, R, oR, ⟨q1, q2, q3, q4⟩, fun i hi => by rw [<- wht_eq' i hi]; exact q5 i hi⟩
def whtWorld (g u t : Nat) (W : World) : World :=
 { W with heap := ((W.heap.modify g fun | .cells _ t' fz => .cells #[.pointer (some ⟨W.heap.size, 0, none⟩)] t' fz | o => o).push (.cells #[.slice (some ⟨W.heap.size + 1, 0, none⟩) 7 7, .slice none 0 0, .int .i64 2] t (0, 0))).push (.cells (whtL.map fun z => Value.int .u16 z).toArray u (0, 0)) }
def rowP (r : Nat × Nat) : List MemPlace := MemPlace.row ⟨r.1, 0, none⟩ r.2
theorem rowP_mem {r : Nat × Nat} {m : MemPlace} (h : m ∈ rowP r) : ∃ i, m = .cell r.1 i := by
 obtain ⟨i, _, rfl⟩ := List.mem_map.1 h
 exact ⟨_, rfl⟩
theorem rowP_nodup (r : Nat × Nat) : (rowP r).Nodup := by
 unfold rowP MemPlace.row
 refine List.Pairwise.map _ (fun a b h => ?_) List.nodup_range
 intro e
 injection e with _ e
 omega
theorem rows_nodup : ∀ rs : List (Nat × Nat), (rs.map (·.1)).Nodup -> (rs.flatMap rowP).Nodup
 | [], _ => List.nodup_nil
 | r :: rs, h => by
   rw [List.map_cons, List.nodup_cons] at h
   rw [List.flatMap_cons, List.nodup_append]
   refine ⟨rowP_nodup r, rows_nodup rs h.2, fun a ha b hb e => ?_⟩
   subst e
   obtain ⟨i, rfl⟩ := rowP_mem ha
   obtain ⟨q, hq, hb⟩ := List.mem_flatMap.1 hb
   obtain ⟨j, hj⟩ := rowP_mem hb
   injection hj with hj
   exact h.1 (by rw [hj]; exact List.mem_map.2 ⟨q, hq, rfl⟩)
theorem laidMet_rows {P : Program} {w : World} {l : List (String × DataW Unit)} (fuel : Nat) (rs : List (Nat × Nat)) (h : (DataW.laidRun P w fuel (l.map (·.1))).map (·.1) = some l)
   (hp : (DataW.laidRun P w fuel (l.map (·.1))).map (·.2) = some (rs.flatMap rowP)) (hn : (rs.map (·.1)).Nodup) (hb : laidRowsB P w (rs.flatMap rowP) = true) : laidMet P l w := by
 cases hx : DataW.laidRun P w fuel (l.map (·.1)) with
 | none => rw [hx] at h; cases h
 | some x =>
   obtain ⟨l', ps⟩ := x
   rw [hx] at h hp
   simp only [Option.map_some, Option.some.injEq] at h hp
   subst h hp
   exact laidMet_of_run fuel hx (decide_eq_true (rows_nodup rs hn)) hb
end Go.Proofs.YtcaecmiedjnacaaGreatDoor
namespace Go.Proofs.Tryz
open Go.Psl
open Go.Log
open Go.RowKit
open Go.Sort
theorem tab_of {W Wr : World} {g : Nat} {c : Array Value} (h : tabW Wr g c) (h2 : ∀ k, k < Wr.heap.size -> W.heap[k]? = Wr.heap[k]?) : tabW W g c := by
 obtain ⟨T, fz, hb⟩ := h
 exact ⟨T, fz, (h2 g (Array.getElem?_eq_some_iff.1 hb).1).trans hb⟩
theorem tab_var {W : World} {g : Nat} {c : Array Value} (h : tabW W g c) {name : String} (hn : prog.globalNamed name = some g) : W.var? prog name = some c := by
 obtain ⟨T, fz, hb⟩ := h
 simp [World.var?, hn, hb]
theorem tab_cell {W : World} {g : Nat} {v : Value} (h : tabW W g #[v]) : W.cell? ⟨g, 0, none⟩ = some v := by
 obtain ⟨T, fz, hb⟩ := h
 simp [World.cell?, hb]
theorem globPow {W : World} (h : GlobN W) : Go.Lib.TabIs prog W "internal/strconv.uint64pow10" .u64 Go.Lib.pow10Tab := by
 obtain ⟨Wr, h1, h2⟩ := h
 have := h1 gPow (by decide)
 have h3 : tabW Wr gPow ((List.range 20).map fun i => Value.int .u64 ((10 ^ i : Nat) : Int)).toArray := by
   simpa [globAt, gPow, gMax, gSyn, gRng] using this
 have h4 := tab_var (tab_of h3 h2) (name := "internal/strconv.uint64pow10") itoaL.m17
 unfold Go.Lib.TabIs
 rw [h4]
 simp [Go.Lib.pow10Tab]
theorem globMax {W : World} (h : GlobN W) : ∃ m, W.cell? ⟨gMax, 0, none⟩ = some (.int .i64 m) := by
 obtain ⟨Wr, h1, h2⟩ := h
 have := h1 gMax (by decide)
 obtain ⟨m, h3⟩ : ∃ m, tabW Wr gMax #[.int .i64 m] := by simpa [globAt] using this
 exact ⟨m, tab_cell (tab_of h3 h2)⟩
theorem grow_below {W : World} {k : Nat} {os : Array Obj} : Below W.heap.size W (grow (W.drewN k) os) := by
 refine ⟨rfl, rfl, rfl, ?_, fun b hb => ?_⟩
 . show W.heap.size <= (W.heap ++ os).size
   simp
 . show (W.heap ++ os)[b]? = _
   rw [Array.getElem?_append_left hb]
theorem fn61 (n : Int) (h0 : -9223372036854775808 <= n) (h1 : n <= 9223372036854775807) : Ct prog 61 [vi n] (vS (Go.Lib.itoa n)) [] :=
 Cm.ofLit (vs0 := [.int .i64 n]) (v := .string (bs (Go.Lib.itoa n))) ⟨_, func61, by kernel_rfl, by decide⟩ rfl fun W hW =>
   Calls.mono (Go.Proofs.Any.strconv_Itoa itoaL n h0 h1 W (globPow hW)) fun e W' ⟨he, k, os, hw⟩ => ⟨he, by rw [hw]; exact grow_below⟩
theorem fn42 (s sep : By) (hs : s.length < 4294967281) (h1 : 1 <= sep.length) : Ct prog 42 [vS s, vS sep] (.ls 0 0 (Go.Lib.splitB (bs sep) 0 (Go.Lib.countB (bs s) (bs sep)) (bs s)).length 1) [(0, (Go.Lib.splitB (bs sep) 0 (Go.Lib.countB (bs s) (bs sep)) (bs s)).map fun x => .d (.lit (.string x)))] := by
 have hlen := Go.Lib.splitB_all (bs sep) (by simpa using h1) 0 _ (bs s) rfl
 have hle := Go.Lib.countB_le (bs sep) (by simpa using h1) (bs s).size (bs s) (Nat.le_refl _)
 have key := Cm.ofRow (P := prog) (f := 42) (vs0 := [.string (bs s), .string (bs sep)]) (vs := (Go.Lib.splitB (bs sep) 0 (Go.Lib.countB (bs s) (bs sep)) (bs s)).map Value.string) (T := 9) ⟨_, func42, by kernel_rfl, by decide⟩ (by
   intro v hv; obtain ⟨x, _, rfl⟩ := List.mem_map.1 hv; rfl) (by
   rw [List.length_map, hlen]; simp at hle hs ⊢; omega) fun W hW => by
   obtain ⟨m, hm⟩ := globMax hW
   have h := Go.Proofs.Any.strings_Split { splitL with } splitL.i9 (bs s) (bs sep) m W (by simpa using hs) hm (by simpa using h1)
   rw [List.length_map, hlen]
   exact h
 rw [List.length_map, List.map_map] at key
 exact key
end Go.Proofs.Tryz
namespace Go.Psl
open Go.Proofs Go.Shelf Go.RowKit Go.Lib
variable {P : Program} {ρ : Ren}
theorem run_put (w : World) (t u ty e : TypeId) (i : TypeInfo) (ht : P.underlying t = some (.slice e)) (hu : P.underlying u = some .string) (hi : P.info? e = some i) (hz : i.zero = some (.int .u8 0))
   (hsize : i.size = 1) (hby : i.bytes = 1) (v : Value) (n : Nat) (xs : List Value) (hown : w.ownsRowF 0 e 1 v n xs) (s : ByteArray) (h0 : 0 < s.size) (hbytes : n + s.size <= 140737488355328) :
   ∃ v' w', (Builtin.append_ #[t, u] ty #[v, .string s]).run P w = .ok v' w' /\ w'.ownsRowF 0 e 1 v' (n + s.size) (xs ++ strCells s) /\ w.grownBy w' v.ownBlock /\ ∃ g cap, v' = .slice (some ⟨g, 0, none⟩) (n + s.size) cap /\ (some g = v.ownBlock \/ w.heap.size <= g) := by
 have h63 : n + s.size <= maxLen := by unfold maxLen; omega
 have hxl : xs.length = n := by simpa using hown.1
 obtain ⟨v', w', hr, h2, h3, _⟩ := run_append_own_stringF (P := P) w 0 t u ty e i ht hu hi hz hsize hby v n xs hown s h63 hbytes (Nat.zero_le _)
 refine ⟨v', w', hr, h2, h3, ?_⟩
 rcases hown.2 with ⟨rfl, rfl⟩ | ⟨g, cap, cur, fz, rfl, _, hg, hfz, hnc, hcm, hcs, htake⟩
 . have hx : xs = [] := List.eq_nil_of_length_eq_zero hxl
   subst hx
   obtain ⟨v2, w2, hr2, h5, _⟩ := run_append_own_stringF (P := P) w w.heap.size t u ty e i ht hu hi hz hsize hby (.slice none 0 0) 0 [] (World.ownsRowF_nil w _ e 1) s h63 hbytes (Nat.le_refl _)
   rw [hr2] at hr
   cases hr
   rcases h5.2 with ⟨_, h⟩ | ⟨g, cap, cur, fz, hv, hb, _⟩
   . omega
   . exact ⟨g, cap, hv, .inr hb⟩
 . by_cases hroom : n + s.size <= cap
   . have hcs' : cur.size = cap := by simpa using hcs
     have hr2 := run_append_room_stringF (P := P) w t u ty e i ht hu hi hsize g n cap cur fz hg (by simpa using hfz) s hroom (by omega)
     rw [hr2] at hr
     cases hr
     exact ⟨g, cap, rfl, .inl rfl⟩
   . have holds : ∀ j u, xs[j]? = some u -> w.cell? ((⟨g, 0, none⟩ : Addr).add j) = some u := hown.cells (g := g) rfl
     have hr2 := run_append_grow_string (P := P) w t u ty e i (.int .u8 0) ht hu hi hz ⟨g, 0, none⟩ n cap xs (by rw [hsize]; simpa using hxl) holds s (by omega) (by omega) (by rw [hby]; exact growslice_fits (by omega) (by omega))
     rw [hr2] at hr
     cases hr
     exact ⟨_, _, rfl, .inr (Nat.le_refl _)⟩
theorem wpList_put {ops : Array Oper} {rest : List Oper} {o : Oper} {a : Act} {Q : Exit -> Act -> World -> Prop} (w : World) (hgd : o.guard = none) (sl x : Operand) (t u : TypeId)
   (ho : o.op = .call { callee := .builtin .append, args := #[sl, x], argTypes := #[t, u] })
   (e : TypeId) (i : TypeInfo) (ht : P.underlying t = some (.slice e)) (hu : P.underlying u = some .string) (hi : P.info? e = some i) (hz : i.zero = some (.int .u8 0))
   (hsize : i.size = 1) (hby : i.bytes = 1) (v : Value) (n : Nat) (xs : List Value) (hs : a.eval sl = v) (hown : w.ownsRowF 0 e 1 v n xs) (s : ByteArray) (hx : a.eval x = .string s) (h0 : 0 < s.size) (hbytes : n + s.size <= 140737488355328)
   (h : ∀ v' w', w'.ownsRowF 0 e 1 v' (n + s.size) (xs ++ strCells s) -> w.grownBy w' v.ownBlock -> (∃ g cap, v' = .slice (some ⟨g, 0, none⟩) (n + s.size) cap /\ (some g = v.ownBlock \/ w.heap.size <= g)) -> wpList P ops Q rest (a.put o.dst v') w') : wpList P ops Q (o :: rest) a w := by
 refine wpList_plain hgd fun K hK => ?_
 obtain ⟨v', w', hr, h2, h3, h4⟩ := run_put (P := P) w t u o.type e i ht hu hi hz hsize hby v n xs hown s h0 hbytes
 unfold Oper.wp execOp
 simp only [ho, resolve, invoke, builtin, Sem.run_bind, Sem.run_pure, Result.andThen_ok, List.map_toArray, List.map_cons, List.map_nil, hs, hx, hr]
 exact hK _ _ (h v' w' h2 h3 h4)
structure Wrote (T e : TypeId) (b : Nat) (v : Value) (n : Nat) (bs : List Value) (s : ByteArray) (w w' : World) : Prop where
 os : w'.os = w.os
 tape : w'.tape = w.tape
 output : w'.output = w.output
 size : w.heap.size <= w'.heap.size
 at' : ∃ g cap, w'.heap[b]? = some (.cells #[.pointer (some ⟨b, 0, none⟩), .slice (some ⟨g, 0, none⟩) (n + s.size) cap] T (0, 0)) /\ w'.ownsRowF 0 e 1 (.slice (some ⟨g, 0, none⟩) (n + s.size) cap) (n + s.size) (bs ++ strCells s) /\ g ≠ b /\ (some g = v.ownBlock \/ w.heap.size <= g)
 block : ∀ k, k < w.heap.size -> k ≠ b -> some k ≠ v.ownBlock -> w'.heap[k]? = w.heap[k]?
theorem wstr_calls (L : Lays.n166 P ρ) (X : Builder.Extra P ρ) (b : Nat) (p v : Value) (n : Nat) (bs : List Value) (s : ByteArray) (w : World) (hb : w.heap[b]? = some (.cells #[p, v] (ρ.t 72) (0, 0))) (hp : p = .pointer none \/ p = .pointer (some ⟨b, 0, none⟩))
   (hown : w.ownsRowF 0 (ρ.t 5) 1 v n bs) (hne : v.ownBlock ≠ some b) (h0 : 0 < s.size) (hlen : n + s.size <= 140737488355328) :
   Calls P (ρ.f 166) #[.pointer (some ⟨b, 0, none⟩), .string s] w fun e w' => e = .returned (.tuple #[.int .i64 s.size, .nilIface]) /\ Wrote (ρ.t 72) (ρ.t 5) b v n bs s w w' := by
 obtain ⟨i0, hi, hz0, hz1, hz2⟩ := info_parts X.infoByte
 have mixed := L.mixed
 have t72 := L.t72; have a72 := L.a72; have z72 := L.z72; have v72 := L.v72; have u72 := run_underlying L.t72
 have t70 := L.t70; have a70 := L.a70; have z70 := L.z70; have v70 := L.v70; have u70 := run_underlying L.t70
 have t37 := L.t37; have a37 := L.a37; have z37 := L.z37; have v37 := L.v37; have u37 := run_underlying L.t37
 have t3 := L.t3; have a3 := L.a3; have z3 := L.z3; have v3 := L.v3; have u3 := run_underlying L.t3
 have t9 := L.t9; have a9 := L.a9; have z9 := L.z9; have v9 := L.v9; have u9 := run_underlying L.t9
 have t4 := L.t4; have a4 := L.a4; have z4 := L.z4; have v4 := L.v4; have u4 := run_underlying L.t4
 have t164 := L.t164; have a164 := L.a164; have z164 := L.z164; have v164 := L.v164; have u164 := run_underlying L.t164
 have t5 := X.t5; have a5 := X.a5; have z5 := X.z5; have v5 := X.v5; have u5 := run_underlying X.t5
 have hlt : b < w.heap.size := (Array.getElem?_eq_some_iff.1 hb).1
 have e240 : ∀ args w, (callFunc (ρ.f 240) args).run P w = .ok (.enter (ρ.f 240) args) w := enters_of L.f240 (by kernel_rfl) rfl
 have cc : Calls P (ρ.f 240) #[.pointer (some ⟨b, 0, none⟩)] w fun e w' => e = .returned (.tuple #[]) /\ w'.heap[b]? = some (.cells #[.pointer (some ⟨b, 0, none⟩), v] (ρ.t 72) (0, 0)) /\ (∀ k, k ≠ b -> w'.heap[k]? = w.heap[k]?) /\ w'.heap.size = w.heap.size /\ w'.os = w.os /\ w'.tape = w.tape /\ w'.output = w.output := by
   rcases hp with rfl | rfl
   . refine (Any.Builder_copyCheck_fresh { L with } X.toX72 b w (by rw [cell_of_heap hb]; rfl) (by simp [World.shape?, hb]) (frozen_of_heap hb 0)).mono ?_
     rintro e w' ⟨rfl, rfl⟩
     have hs : w.setCell ⟨b, 0, none⟩ (.pointer (some ⟨b, 0, none⟩)) = w.setRow b (#[.pointer none, v].setIfInBounds 0 (.pointer (some ⟨b, 0, none⟩))) := setCell_eq_setRow w b 0 _ _ _ _ hb
     rw [hs]
     exact ⟨rfl, setRow_heap w b _ _ _ _ hb, fun k hk => setRow_other w b k _ hk, by simp, rfl, rfl, rfl⟩
   . refine (Any.Builder_copyCheck_used { L with } X.toX72 b w (by rw [cell_of_heap hb]; rfl)).mono ?_
     rintro e w' ⟨rfl, rfl⟩
     exact ⟨rfl, hb, fun _ _ => rfl, rfl, rfl, rfl, rfl⟩
 go_enter L.f166, Body.n166_ntmps ρ
 go_wp2_with (go_at_fn (ρ.f 240); refine cc.mono ?_)
 rintro e w1 ⟨rfl, hb1, hk1, hsz1, ho1, ht1, hu1⟩
 have hown1 : w1.ownsRowF 0 (ρ.t 5) 1 v n bs := by
   refine ⟨hown.1, hown.2.imp id ?_⟩
   rintro ⟨g, cap, cur, fz, rfl, q1, q2, q3⟩
   exact ⟨g, cap, cur, fz, rfl, q1, (hk1 g (fun e => hne (by rw [<- e]; rfl))).trans q2, q3⟩
 have c0 : w1.cell? ⟨b, 0, none⟩ = some (.pointer (some ⟨b, 0, none⟩)) := by rw [cell_of_heap hb1]; rfl
 have c1 : w1.cell? ⟨b, 1, none⟩ = some v := by rw [cell_of_heap hb1]; rfl
 go_wp2_with (at_builtin; refine wpList_put _ rfl _ _ (ρ.t 37) (ρ.t 9) rfl (ρ.t 5) i0 L.t37 L.t9 hi hz0 hz1 hz2 _ _ _ rfl hown1 s rfl h0 hlen ?_)
 rintro v' w2 hown' hgrow g cap rfl hg
 have hb2 : w2.heap[b]? = some (.cells #[.pointer (some ⟨b, 0, none⟩), v] (ρ.t 72) (0, 0)) := by
   rw [hgrow.block b (by omega) (fun e => hne e.symm)]
   exact hb1
 have hgb : g ≠ b := by
   rintro rfl
   rcases hg with hg | hg
   . exact hne hg.symm
   . omega
 have d0 : w2.cell? ⟨b, 0, none⟩ = some (.pointer (some ⟨b, 0, none⟩)) := by rw [cell_of_heap hb2]; rfl
 have d1 : w2.cell? ⟨b, 1, none⟩ = some v := by rw [cell_of_heap hb2]; rfl
 have f1 : w2.frozen? ⟨b, 1, none⟩ = false := frozen_of_heap hb2 1
 go_wp2
 go_ret2
 have hs : w2.setCell ⟨b, 1, none⟩ (.slice (some ⟨g, 0, none⟩) (n + s.size) cap) = w2.setRow b (#[.pointer (some ⟨b, 0, none⟩), v].setIfInBounds 1 (.slice (some ⟨g, 0, none⟩) (n + s.size) cap)) := setCell_eq_setRow w2 b 1 _ _ _ _ hb2
 refine ⟨rfl, ?_⟩
 rw [hs]
 refine ⟨hgrow.os.trans ho1, hgrow.tape.trans ht1, hgrow.output.trans hu1, ?_, ⟨g, cap, setRow_heap w2 b _ _ _ _ hb2, ?_, hgb, ?_⟩, fun k hk hkb hkv => ?_⟩
 . have := hgrow.size
   simp
   omega
 . refine ⟨hown'.1, hown'.2.imp id ?_⟩
   rintro ⟨g', cap', cur, fz, q0, q1, q2, q3⟩
   cases q0
   exact ⟨g, cap, cur, fz, rfl, q1, (setRow_other w2 b g _ hgb).trans q2, q3⟩
 . exact hg.imp id fun h => by omega
 . rw [setRow_other w2 b k _ hkb, hgrow.block k (by omega) hkv, hk1 k hkb]
theorem bld_row {G : Gh} {W : World} {x : V} {n : Int} (h : HB G W 0 [x, .d (.lit (.int .i64 n))]) (hx : V.isCell x = true) {u : Value} (hr : R2 G W (.yl 0) u) : G.ph 0 = false /\ G.lo 0 = true /\ G.bs 0 = 2 /\ ¬ G.Im (G.β 0) /\ u = .pointer (some ⟨G.β 0, 0, none⟩) /\
   ∃ p v a cap, ∃ k : Nat, W.heap[G.β 0]? = some (.cells #[p, v] bldT (0, 0)) /\ (p = .pointer none \/ p = .pointer (some ⟨G.β 0, 0, none⟩)) /\ v = .slice a k cap /\ (k : Int) = n /\ R1 G W x v := by
 rcases h with ⟨_, h2⟩ | ⟨_, h0, _, c, T, h3, h4, h5, _⟩ | ⟨h1, h0, h2, ⟨hz, fr, nt, ps, pa, pb, jmp, rec, h3, _⟩ | ⟨hz, es, ms, ck, h3, _⟩ | ⟨hz, bx, bp, bv, h3, h4, h5, h6, h7⟩⟩
 . cases h2
 . have hl2 : 2 <= c.size := h5
   rcases hr with ⟨hz, _⟩ | ⟨hz, _⟩ | ⟨_, hl, _⟩ | ⟨_, hl, _⟩
   . omega
   . omega
   . rw [h0] at hl; cases hl
   . rw [h0] at hl; cases hl
 . cases h3
 . simp only [mapC, List.cons.injEq, and_true] at h3
   rw [h3.1] at hx
   cases hx
 . simp only [List.cons.injEq, V.d.injEq, D.lit.injEq, and_true] at h3
   obtain ⟨rfl, hm⟩ := h3
   rcases h5 with ⟨k2, hT, hfz, p, a, cap, n', hc, hp, hv, hm'⟩ | ⟨_, _, _, _, hm', _⟩
   . rw [<- hm] at hm'
     cases hm'
     rw [hc, hT, hfz] at h4
     refine ⟨h1, h0, k2, h2, ?_, p, bv, a, cap, n', h4, hp, hv, rfl, h6⟩
     rcases hr with ⟨hz', _⟩ | ⟨hz', _⟩ | ⟨_, _, hu⟩ | ⟨hz', _⟩
     . omega
     . omega
     . exact hu
     . omega
   . rw [<- hm] at hm'
     cases hm'
theorem bld_bytes {G : Gh} {W : World} {t : ByteArray} (h : HB G W 1 [.d (.lit (.string t)), .d (.lit (.bool false))]) {u : Value} (hr : R1 G W (.yl 1) u) : G.ph 1 = false /\ G.lo 1 = true /\ 3 <= G.bs 1 /\ ¬ G.Im (G.β 1) /\
   ∃ n cur, ∃ fz : Nat × Nat, u = .slice (some ⟨G.β 1, 0, none⟩) n (G.bs 1 - 3) /\ W.heap[G.β 1]? = some (.cells cur bytT fz) /\ cur.size = G.bs 1 - 3 /\ fz.2 <= t.size /\ t.size <= cur.size /\ cur.size <= maxL /\ cur.toList.take t.size = strCells t := by
 rcases h with ⟨_, h2⟩ | ⟨_, h0, _, c, T, h3, h4, h5, _⟩ | ⟨h1, h0, h2, ⟨hz, fr, nt, ps, pa, pb, jmp, rec, h3, _⟩ | ⟨hz, es, ms, ck, h3, _⟩ | ⟨hz, bx, bp, bv, h3, h4, h5, h6, h7⟩⟩
 . cases h2
 . have hl2 : 2 <= c.size := h5
   rcases hr with ⟨hz, _⟩ | ⟨hz, _⟩ | ⟨_, hl, _⟩ | ⟨_, hl, _⟩
   . omega
   . omega
   . rw [h0] at hl; cases hl
   . rw [h0] at hl; cases hl
 . cases h3
 . simp [mapC] at h3
 . simp only [List.cons.injEq, V.d.injEq, D.lit.injEq, and_true] at h3
   obtain ⟨rfl, hm⟩ := h3
   have hv : bv = .string t := by cases h6; rfl
   subst hv
   rcases h5 with ⟨_, _, _, _, _, _, _, _, _, _, hm'⟩ | ⟨k3, hT, s, hs, _, q1, q2, q3, q4, q5⟩
   . rw [<- hm] at hm'
     cases hm'
   . cases hs
     rw [hT] at h4
     rcases hr with ⟨hz', _⟩ | ⟨hz', _⟩ | ⟨hz', _⟩ | ⟨_, _, n, hu⟩
     . omega
     . omega
     . omega
     . exact ⟨h1, h0, k3, h2, n, bp.c, bp.fz, hu, h4, q1, q2, q3, q4, q5⟩
def bldL (t : ByteArray) : List (Nat × List V) := [(0, [.yl 1, .d (.lit (.int .i64 t.size))]), (1, [.d (.lit (.string t)), .d (.lit (.bool false))])]
theorem owns_bytes {e : TypeId} {v : Value} {t : ByteArray} {W : World} {g cap : Nat} (h : W.ownsRowF 0 e 1 v t.size (strCells t)) (hv : v = .slice (some ⟨g, 0, none⟩) t.size cap) (_ : 0 < t.size) :
   ∃ cur, ∃ fz : Nat × Nat, W.heap[g]? = some (.cells cur e fz) /\ cur.size = cap /\ fz.2 <= t.size /\ t.size <= cur.size /\ cur.size <= maxL /\ cur.toList.take t.size = strCells t := by
 rcases h.2 with ⟨hn, _⟩ | ⟨g', cap', cur, fz, hv', _, hb, hfz, hnc, hcm, hcs, ht⟩
 . rw [hv] at hn; cases hn
 . rw [hv] at hv'
   cases hv'
   simp only [Nat.mul_one] at hfz hcs ht
   refine ⟨cur, fz, hb, hcs, hfz, by omega, ?_, ht⟩
   have : maxLen <= maxL := by decide
   omega
theorem wstr_post {G : Gh} {W W' : World} {L : List (Nat × List V)} {v : Value} {t s : ByteArray} (hGW : GW G.Im W) (h0 : 0 < s.size) (hL0 : InH (lk L) 0) (hph : G.ph 0 = false) (hlo : G.lo 0 = true) (hbs : G.bs 0 = 2) (hnim : ¬ G.Im (G.β 0))
   (hv : ∀ k, v.ownBlock = some k -> lentB G (lk L) k /\ ¬ G.Im k) (hw : Wrote bldT bytT (G.β 0) v t.size (strCells t) s W W') :
   ∃ G', Post G W (lk L) [0] (.ret (.tup [.d (.lit (.int .i64 s.size)), .d (.lit .nilIface)])) (lk (bldL (t ++ s))) (.returned (.tuple #[.int .i64 s.size, .nilIface])) W' G' := by
 obtain ⟨g, cap, hb, hown, hgb, hg⟩ := hw.at'
 have hsz : (t ++ s).size = t.size + s.size := ByteArray.size_append
 have hcat : strCells t ++ strCells s = strCells (t ++ s) := by simp [strCells, ByteArray.data_append]
 rw [hcat, <- hsz] at hown
 rw [<- hsz] at hb
 obtain ⟨cur, fz, q1, q2, q3, q4, q5, q6⟩ := owns_bytes hown rfl (by omega)
 have hl0 : lentB G (lk L) (G.β 0) := ⟨0, hL0, hph, rfl⟩
 have hgn : ¬ G.Im g := by
   rcases hg with h | h
   . exact (hv g h.symm).2
   . exact fun hx => absurd (hGW.1 g hx) (by omega)
 have hgl : W.heap.size <= g \/ lentB G (lk L) g := hg.elim (fun h => .inr (hv g h.symm).1) .inl
 refine ⟨{ β := fun i => if i = 0 then G.β 0 else g, bs := fun i => if i = 0 then 2 else cap + 3, ph := fun _ => false, lo := fun _ => true, Im := G.Im }, ⟨hw.os, hw.tape, hw.output, Nat.le_refl _, hw.size, fun b hb' hn => hw.block b hb' (fun e => hn (by rw [e]; exact hl0)) (fun e => hn (hv b e.symm).1), fun b hb' => ⟨Nat.lt_of_lt_of_le (hGW.1 b hb') hw.size, .inl hb'⟩, fun _ h => h, ⟨_, rfl, RD.lit _ rfl, RD.lit _ rfl, trivial⟩, fun c hc => ?_, ?_, ?_, ?_⟩⟩
 . simp only [List.mem_cons, List.not_mem_nil, or_false] at hc
   rcases hc with rfl | rfl <;> trivial
 . intro i cs hi
   simp only [bldL, lk] at hi
   split at hi
   . rename_i e
     subst e
     cases hi
     refine ⟨.inr (.inr ⟨rfl, rfl, hnim, .inr (.inr ⟨Nat.le_refl _, .yl 1, ⟨.int .i64 (t ++ s).size, _, _, _⟩, _, rfl, hb, .inl ⟨rfl, rfl, rfl, _, _, _, (t ++ s).size, rfl, .inr rfl, rfl, rfl⟩, .inr (.inr (.inr ⟨by simp, rfl, _, by simp; rfl⟩)), rfl⟩)⟩), fun _ => .inr hl0, fun c hc => ?_⟩
     simp only [List.mem_cons, List.not_mem_nil, or_false] at hc
     rcases hc with rfl | rfl
     . show InH _ 1
       rfl
     . trivial
   . split at hi
     . rename_i e
       subst e
       cases hi
       refine ⟨.inr (.inr ⟨rfl, rfl, hgn, .inr (.inr ⟨by simp, .d (.lit (.string (t ++ s))), ⟨.bool false, cur, bytT, fz⟩, .string (t ++ s), rfl, q1, .inr ⟨by simp, rfl, _, rfl, rfl, by simpa using q2, q3, q4, q5, q6⟩, RD.lit _ rfl, rfl⟩)⟩), fun _ => by simpa using hgl, fun c hc => ?_⟩
       simp only [List.mem_cons, List.not_mem_nil, or_false] at hc
       rcases hc with rfl | rfl <;> trivial
     . cases hi
 . intro i j hi hj _ _ he
   have hij : ∀ i, InH (lk (bldL (t ++ s))) i -> i = 0 \/ i = 1 := fun i hi => by
     simp only [InH, bldL, lk] at hi
     split at hi
     . exact .inl ‹_›
     . split at hi
       . exact .inr ‹_›
       . cases hi
   rcases hij i hi with rfl | rfl <;> rcases hij j hj with rfl | rfl
   . rfl
   . simp at he; exact absurd he.symm hgb
   . simp at he; exact absurd he hgb
   . rfl
 . intro i hi _
   simp only [List.mem_cons, List.not_mem_nil, or_false] at hi
   subst hi
   exact ⟨rfl, hbs.symm, rfl, hlo.symm⟩
theorem two_args {G : Gh} {W : World} {a b : V} {xs : Array Value} (h : All2 (R2 G W) [a, b] xs.toList) : ∃ u v, xs = #[u, v] /\ R2 G W a u /\ R2 G W b v := by
 obtain ⟨xs⟩ := xs
 match xs, h with
 | [u, v], h => exact ⟨u, v, rfl, h.1, h.2.1⟩
 | [], h => exact h.elim
 | [_], h => exact h.2.elim
 | _ :: _ :: _ :: _, h => exact h.2.2.elim
theorem wstr_first (L : Lays.n166 P ρ) (X : Builder.Extra P ρ) (hT : ρ.t 72 = bldT) (hB : ρ.t 5 = bytT) (hf : isFn P (ρ.f 166)) (s : ByteArray) (h0 : 0 < s.size) (hlen : s.size <= 140737488355328) :
   Cm P (ρ.f 166) [.yl 0, .d (.lit (.string s))] (lk [(0, [.d (.lit (.slice none 0 0)), .d (.lit (.int .i64 0))])]) [0] (.ret (.tup [.d (.lit (.int .i64 s.size)), .d (.lit .nilIface)])) (lk (bldL s)) := by
 refine ⟨hf, fun G W xs hGW hargs hpre => ?_⟩
 obtain ⟨u, v0, rfl, hu, hs⟩ := two_args hargs
 have := rv_lit hs.rv
 subst this
 obtain ⟨q1, q2, q3, q4, rfl, p, v, a, cap, k, hb, hp, hv, hk, hr⟩ := bld_row (hpre.hb 0 _ rfl) rfl hu
 have hvn : v = .slice none 0 0 := rv_lit hr.r2.rv
 subst hvn
 have key := wstr_calls (P := P) L X (G.β 0) p (.slice none 0 0) 0 [] s W (by rw [hT]; exact hb) hp (World.ownsRowF_nil W 0 _ 1) (by simp [Value.ownBlock]) h0 (by omega)
 refine Calls.mono key fun e W' ⟨he, hw⟩ => ?_
 subst he
 rw [hT, hB] at hw
 have := wstr_post (G := G) (L := [(0, [.d (.lit (.slice none 0 0)), .d (.lit (.int .i64 0))])]) (t := ByteArray.empty) hGW h0 (by simp [InH, lk]) q1 q2 q3 q4 (fun k hk => by simp [Value.ownBlock] at hk) hw
 have e0 : ByteArray.empty ++ s = s := ByteArray.ext (by rw [ByteArray.data_append]; exact Array.empty_append)
 rw [e0] at this
 exact this
theorem wstr_next (L : Lays.n166 P ρ) (X : Builder.Extra P ρ) (hT : ρ.t 72 = bldT) (hB : ρ.t 5 = bytT) (hf : isFn P (ρ.f 166)) (t s : ByteArray) (h0 : 0 < s.size) (hlen : t.size + s.size <= 140737488355328) :
   Cm P (ρ.f 166) [.yl 0, .d (.lit (.string s))] (lk (bldL t)) [0] (.ret (.tup [.d (.lit (.int .i64 s.size)), .d (.lit .nilIface)])) (lk (bldL (t ++ s))) := by
 refine ⟨hf, fun G W xs hGW hargs hpre => ?_⟩
 obtain ⟨u, v0, rfl, hu, hs⟩ := two_args hargs
 have := rv_lit hs.rv
 subst this
 obtain ⟨q1, q2, q3, q4, rfl, p, v, a, cap, k, hb, hp, hv, hk, hr⟩ := bld_row (hpre.hb 0 _ rfl) rfl hu
 obtain ⟨r1, r2, r3, r4, n, cur, fz, hv2, hg, c1, c2, c3, c4, c5⟩ := bld_bytes (hpre.hb 1 _ rfl) hr
 have hkt : k = t.size := by omega
 rw [hv] at hv2
 obtain ⟨rfl, rfl, rfl⟩ : a = some ⟨G.β 1, 0, none⟩ /\ k = n /\ cap = G.bs 1 - 3 := by
   cases hv2
   exact ⟨rfl, rfl, rfl⟩
 subst hkt
 subst hv
 have hne : G.β 1 ≠ G.β 0 := fun e => by
   have := hpre.inj 1 0 (by simp [InH, bldL, lk]) (by simp [InH, bldL]) r1 q1 e
   omega
 have hmx : maxL <= maxLen := by decide
 have key := wstr_calls (P := P) L X (G.β 0) p (.slice (some ⟨G.β 1, 0, none⟩) t.size (G.bs 1 - 3)) t.size (strCells t) s W (by rw [hT]; exact hb) hp ⟨by rw [strCells_length]; omega, .inr ⟨G.β 1, G.bs 1 - 3, cur, fz, rfl, Nat.zero_le _, by rw [hB]; exact hg, by omega, by omega, by omega, by omega, by rw [Nat.mul_one]; exact c5⟩⟩ (by simp [Value.ownBlock]; exact hne) h0 hlen
 refine Calls.mono key fun e W' ⟨he, hw⟩ => ?_
 subst he
 rw [hT, hB] at hw
 refine wstr_post (G := G) hGW h0 (by simp [InH, bldL]) q1 q2 q3 q4 (fun k hk => ?_) hw
 simp [Value.ownBlock] at hk
 subst hk
 exact ⟨⟨1, by simp [InH, bldL, lk], r1, rfl⟩, r4⟩
theorem freeze_other (w : World) (g n k : Nat) (h : k ≠ g) : (w.freeze ⟨g, 0, none⟩ n).heap[k]? = w.heap[k]? := by
 unfold World.freeze
 split
 . rfl
 . simp only [Array.getElem?_modify, if_neg (Ne.symm h)]
theorem freeze_rest (w : World) (g n : Nat) : (w.freeze ⟨g, 0, none⟩ n).heap.size = w.heap.size /\ (w.freeze ⟨g, 0, none⟩ n).os = w.os /\ (w.freeze ⟨g, 0, none⟩ n).tape = w.tape /\ (w.freeze ⟨g, 0, none⟩ n).output = w.output := by
 unfold World.freeze
 split <;> simp
theorem bstr_calls (L : Lays.n169 P ρ) (X : Builder.Extra P ρ) (b g cap : Nat) (p : Value) (l : List UInt8) (cur : Array Value) (fz : Nat × Nat) (w : World) (hbk : w.heap[b]? = some (.cells #[p, .slice (some ⟨g, 0, none⟩) l.length cap] (ρ.t 72) (0, 0)))
   (hg : w.heap[g]? = some (.cells cur (ρ.t 5) fz)) (hcs : cur.size = cap) (hnc : l.length <= cap) (hcm : cap <= maxLen) (htake : cur.toList.take l.length = byteCells l) (h0 : l ≠ []) :
   Calls P (ρ.f 169) #[.pointer (some ⟨b, 0, none⟩)] w fun e w' => e = .returned (.string ⟨l.toArray⟩) /\ (∀ k, k ≠ g -> w'.heap[k]? = w.heap[k]?) /\ w'.heap.size = w.heap.size /\ w'.os = w.os /\ w'.tape = w.tape /\ w'.output = w.output := by
 have hl0 : l.length ≠ 0 := by simpa using h0
 have c1 : w.drew.cell? ⟨b, 1, none⟩ = some (.slice (some ⟨g, 0, none⟩) l.length cap) := by
   have : w.drew.heap[b]? = some (.cells #[p, .slice (some ⟨g, 0, none⟩) l.length cap] (ρ.t 72) (0, 0)) := hbk
   rw [cell_of_heap this]; rfl
 have hSD : (Builtin.unsafeSliceData_ #[(ρ.t 37)] (ρ.t 127) #[.slice (some ⟨g, 0, none⟩) l.length cap]).run P w.drew = .ok (.pointer (some ⟨g, 0, none⟩)) w.drew :=
   run_unsafeSliceData_row _ _ _ _ _ _ (by omega)
 have hUS : (Builtin.unsafeString_ #[(ρ.t 127), (ρ.t 3)] (ρ.t 9) #[.pointer (some ⟨g, 0, none⟩), .int .i64 l.length]).run P w.drew = .ok (.string ⟨l.toArray⟩) (w.drew.freeze ⟨g, 0, none⟩ l.length) := by
   have hg' : w.drew.heap[g]? = some (.cells cur (ρ.t 5) fz) := hg
   refine run_unsafeString_row w.drew (ρ.t 127) (ρ.t 3) (ρ.t 9) (ρ.t 5) L.t127 X.cellsByte g cur.size (by simp [World.shape?, hg']) l h0 (by omega) (by unfold maxLen at hcm; omega) ?_
   intro j x hx
   have h1 : (byteCells l)[j]? = some (.int .u8 x.toNat) := by simp [byteCells, hx]
   rw [<- htake, List.getElem?_take] at h1
   split at h1
   . rw [add_plain]
     simp only [World.cell?, hg', Nat.zero_add]
     simpa using h1
   . cases h1
 have hk : ∀ k, k ≠ g -> (w.drew.freeze ⟨g, 0, none⟩ l.length).heap[k]? = w.heap[k]? := fun k hk => freeze_other w.drew g _ k hk
 have hr := freeze_rest w.drew g l.length
 have mixed := L.mixed
 have t72 := L.t72; have a72 := L.a72; have z72 := L.z72; have v72 := L.v72; have u72 := run_underlying L.t72
 have t70 := L.t70; have a70 := L.a70; have z70 := L.z70; have v70 := L.v70; have u70 := run_underlying L.t70
 have t37 := L.t37; have a37 := L.a37; have z37 := L.z37; have v37 := L.v37; have u37 := run_underlying L.t37
 have t127 := L.t127; have a127 := L.a127; have z127 := L.z127; have v127 := L.v127; have u127 := run_underlying L.t127
 have t3 := L.t3; have a3 := L.a3; have z3 := L.z3; have v3 := L.v3; have u3 := run_underlying L.t3
 have t9 := L.t9; have a9 := L.a9; have z9 := L.z9; have v9 := L.v9; have u9 := run_underlying L.t9
 have t5 := X.t5; have a5 := X.a5; have z5 := X.z5; have v5 := X.v5; have u5 := run_underlying X.t5
 go_enter L.f169, Body.n169_ntmps ρ
 go_wp2
 go_region_o
 all_goals (go_wp2; go_ret; exact ⟨rfl, hk, hr⟩)
theorem bstr_cm (L : Lays.n169 P ρ) (X : Builder.Extra P ρ) (hT : ρ.t 72 = bldT) (hB : ρ.t 5 = bytT) (hf : isFn P (ρ.f 169)) (t : ByteArray) (h0 : 0 < t.size) :
   Cm P (ρ.f 169) [.yl 0] (lk (bldL t)) [] (.ret (.d (.lit (.string t)))) (lk []) := by
 refine ⟨hf, fun G W xs hGW hargs hpre => ?_⟩
 obtain ⟨u, rfl, hu⟩ : ∃ u, xs = #[u] /\ R2 G W (.yl 0) u := by
   obtain ⟨xs⟩ := xs
   match xs, hargs with
   | [u], h => exact ⟨u, rfl, h.1⟩
   | [], h => exact h.elim
   | _ :: _ :: _, h => exact h.2.elim
 obtain ⟨q1, q2, q3, q4, rfl, p, v, a, cap, k, hb, hp, hv, hk, hr⟩ := bld_row (hpre.hb 0 _ rfl) rfl hu
 obtain ⟨r1, r2, r3, r4, n, cur, fz, hv2, hg, c1, c2, c3, c4, c5⟩ := bld_bytes (hpre.hb 1 _ rfl) hr
 have hkt : k = t.size := by omega
 rw [hv] at hv2
 obtain ⟨rfl, rfl, rfl⟩ : a = some ⟨G.β 1, 0, none⟩ /\ k = n /\ cap = G.bs 1 - 3 := by
   cases hv2
   exact ⟨rfl, rfl, rfl⟩
 subst hkt
 subst hv
 have hmx : maxL <= maxLen := by decide
 have hts : t.size = t.data.toList.length := by rw [Array.length_toList]; rfl
 have key := bstr_calls (P := P) L X (G.β 0) (G.β 1) (G.bs 1 - 3) p t.data.toList cur fz W (by rw [hT, <- hts]; exact hb) (by rw [hB]; exact hg) c1 (by omega) (by omega) (by rw [<- hts]; exact c5) (by
   intro e; rw [e] at hts; rw [List.length_nil] at hts; omega)
 refine Calls.mono key fun e W' ⟨he, hk, hsz, ho, hta, hou⟩ => ?_
 subst he
 refine ⟨G, ⟨ho, hta, hou, Nat.le_refl _, by omega, fun b hb' hn => hk b fun e => hn ⟨1, by simp [InH, bldL, lk], r1, e.symm⟩, fun b hb' => ⟨by have := hGW.1 b hb'; omega, .inl hb'⟩, fun _ h => h, ?_, trivial, fun i cs h => (by cases h), fun i j h => (by simp [InH, lk] at h), fun i h => (by cases h)⟩⟩
 have : (⟨t.data.toList.toArray⟩ : ByteArray) = t := by cases t; simp
 rw [this]
 exact RD.lit _ rfl
end Go.Psl
