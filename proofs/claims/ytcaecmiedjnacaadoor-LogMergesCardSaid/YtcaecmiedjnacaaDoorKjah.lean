/- Own lemmas, used by the last text. Conditions: those that each theorem states. -/
import Derived.Deep.DeepHandedRow
import Derived.JoinedCond
import Derived.LaidLaws
import Derived.Lib.ItoaNum
import Derived.Lib.LaidTab
import Derived.Shelf.Vars
import Derived.Test.YtcaecmiedjnacaaDoorKjaf
import Derived.Test.YtcaecmiedjnacaaDoorKjag
import Derived.Test.YtcaecmiedjnacaaDoorRows
set_option maxRecDepth 200000
set_option maxHeartbeats 8000000
namespace Go.Proofs.Tryd
open Go.Psl
open Go.Log
def sizedE (x : Etr) : Prop := x.w.length <= 1000000 /\ x.a.length <= 1000000 /\ x.n.length <= 1000000
structure SizedL (l : Lg) : Prop where
 s : l.s.length <= 1000000
 n : l.es.length <= 1000000
 e : ∀ x ∈ l.es, sizedE x
theorem lastT_succ {es : List Etr} {i : Nat} {x : Etr} (h : es[i]? = some x) : lastT es (i + 1) = x.t := by simp [lastT, h]
theorem fn12 (l : Lg) (hs : SizedL l) : Ct prog 12 [logV l] (vi (if okLg l then 0 else 90)) [] := by
 have c1 := fn27 l.s hs.s
 have hn := hs.n
 by_cases h1 : shipS l.s = false
 . rw [h1] at c1
   refine CB func12 c12 fun E hE => ?_
   simp [p12]
   refine CLa c1 ?_
   simp
   apply RZ
   simp [results12, okLg, h1]
 simp only [Bool.not_eq_false] at h1
 rw [h1] at c1
 by_cases h2 : 200 < l.es.length
 . have h2' : (200 : Int) < l.es.length := by omega
   have h3 : ¬ l.es.length <= 200 := by omega
   refine CB func12 c12 fun E hE => ?_
   simp [p12]
   refine CLa c1 ?_
   simp [h2']
   apply RZ
   simp [results12, okLg, h1, h3]
 have h2' : ¬ (200 : Int) < l.es.length := by omega
 have h3 : l.es.length <= 200 := by omega
 refine CB func12 c12 fun E hE => ?_
 simp [p12]
 refine CLa c1 ?_
 simp [h2']
 refine pw_loop (α := Nat) (fun i => ⟨slots [(3, vi (lastT l.es i)), (17, .d (entsD l.es)), (18, vi l.es.length), (19, vi i)], lk [], 0⟩) (fun i => i <= l.es.length /\ ∀ j, j < i -> (l.es[j]?).all (fun x => entS x && decide (lastT l.es j <= x.t)) = true) (fun i => l.es.length - i) 0 ?_ ?_ ?_
 . exact ⟨by omega, fun j hj => by omega⟩
 . refine Weak.mk hE (lk []) _ _ _ ?_ ?_ ?_ ?_ ?_ <;> simp [lastT]
 . rintro i ⟨hi, hg3⟩
   have hz := @wz i (by omega)
   by_cases h : i < l.es.length
   . obtain ⟨x, hx⟩ := gE h
     have hI : (i : Int) < l.es.length := by omega
     obtain ⟨q1, q2, q3⟩ := hs.e x (List.mem_of_getElem? hx)
     have c2 := fn28 x q1 q2 q3
     by_cases h4 : entS x = true
     . rw [h4] at c2
       by_cases h5 : x.t < lastT l.es i
       . simp [p12l0, hI, hx, splice]
         refine CLa c2 ?_
         simp [h5]
         apply RZ
         simp [results12, okLg, ordS_bad hx (Or.inr h5)]
       . simp [p12l0, hI, hx, splice]
         refine CLa c2 ?_
         simp [h5, hz]
         refine ⟨i + 1, ⟨by omega, fun j hj => ?_⟩, by omega, ?_⟩
         . by_cases e : j = i
           . subst e; rw [hx]; simp [h4]; omega
           . exact hg3 j (by omega)
         . refine Weak.mk hE (lk []) _ _ _ ?_ ?_ ?_ ?_ ?_ <;> simp [lastT_succ hx]
     . simp only [Bool.not_eq_true] at h4
       rw [h4] at c2
       simp [p12l0, hI, hx, splice]
       refine CLa c2 ?_
       simp
       apply RZ
       simp [results12, okLg, ordS_bad hx (Or.inl h4)]
   . have hI : ¬ (i : Int) < l.es.length := by omega
     simp [p12l0, hI]
     apply RZ
     simp [results12, okLg, h1, h3, ordS_ok fun j hj => hg3 j (by omega)]
theorem fn13 (l : Lg) (hs : SizedL l) : Ct prog 13 [logV l] (vi (if okLg l then 0 else 90)) [] := by
 have c1 := fn29 l.s true hs.s
 rw [wdF_true] at c1
 change Ct prog _ _ (vb (shipS l.s)) _ at c1
 have hn := hs.n
 by_cases h1 : shipS l.s = false
 . rw [h1] at c1
   refine CB func13 c13 fun E hE => ?_
   simp [p13]
   refine CLa c1 ?_
   simp
   apply RZ
   simp [results13, okLg, h1]
 simp only [Bool.not_eq_false] at h1
 rw [h1] at c1
 by_cases h2 : 200 < l.es.length
 . have h2' : (200 : Int) < l.es.length := by omega
   have h3 : ¬ l.es.length <= 200 := by omega
   refine CB func13 c13 fun E hE => ?_
   simp [p13]
   refine CLa c1 ?_
   simp [h2']
   apply RZ
   simp [results13, okLg, h1, h3]
 have h2' : ¬ (200 : Int) < l.es.length := by omega
 have h3 : l.es.length <= 200 := by omega
 refine CB func13 c13 fun E hE => ?_
 simp [p13]
 refine CLa c1 ?_
 simp [h2']
 refine pw_loop (α := Nat) (fun i => ⟨slots [(1, .lp 0 0), (3, vi i)], lk [(0, [vS l.s, .d (entsD l.es)])], 1⟩) (fun i => i <= l.es.length /\ ∀ j, j < i -> (l.es[j]?).all (fun x => entS x && decide (lastT l.es j <= x.t)) = true) (fun i => l.es.length - i) 0 ?_ ?_ ?_
 . exact ⟨by omega, fun j hj => by omega⟩
 . exact WK hE (lk [(0, 0)])
 . rintro i ⟨hi, hg3⟩
   have hz := @wz i (by omega)
   by_cases h : i < l.es.length
   . obtain ⟨x, hx⟩ := gE h
     have hI : (i : Int) < l.es.length := by omega
     obtain ⟨q1, q2, q3⟩ := hs.e x (List.mem_of_getElem? hx)
     have c2 := fn30 x q1 q2 q3
     by_cases h4 : entS x = true
     . rw [h4] at c2
       by_cases hi0 : i = 0
       . subst hi0
         have hI0 : 0 < l.es.length := by omega
         have hz1 : IntKind.wrap .i64 1 = 1 := by decide
         have hx0 : l.es[0] = x := by rw [List.getElem?_eq_getElem hI0] at hx; exact Option.some.inj hx
         simp [p13l0, hI0, hx0, inC, Nat.testBit]
         refine CLa c2 ?_
         simp [hz1]
         refine ⟨1, ⟨by omega, fun j hj => ?_⟩, by omega, ?_⟩
         . obtain rfl : j = 0 := by omega
           rw [hx]
           have : 0 <= x.t := by
             simp only [entS, betw, Bool.and_eq_true, decide_eq_true_eq] at h4
             exact h4.1.1.1.1.1
           simp [h4, lastT, this]
         . exact WK hE (lk [(0, 0)])
       obtain ⟨p, hpi⟩ : ∃ p, i = p + 1 := ⟨i - 1, by omega⟩
       obtain ⟨y, hy⟩ : ∃ y, l.es[p]? = some y := ⟨_, List.getElem?_eq_getElem (by omega)⟩
       have hw : IntKind.wrap .i64 ((i : Int) - 1) = (p : Int) := by rw [wrap64 (by omega) (by omega)]; omega
       have hI2 : (p : Int) < l.es.length := by omega
       have hp : 0 < i := by omega
       have hl : lastT l.es i = y.t := by rw [hpi]; exact lastT_succ hy
       by_cases h5 : x.t < y.t
       . simp [p13l0, hI, hx, inC, Nat.testBit]
         refine CLa c2 ?_
         simp [hp, hx, hw, hy, h5, inC, Nat.testBit]
         apply RZ
         simp [results13, okLg, ordS_bad hx (Or.inr (by rw [hl]; exact h5))]
       . simp [p13l0, hI, hx, inC, Nat.testBit]
         refine CLa c2 ?_
         simp [hp, hx, hw, hy, h5, hz, inC, Nat.testBit]
         refine ⟨i + 1, ⟨by omega, fun j hj => ?_⟩, by omega, ?_⟩
         . by_cases e : j = i
           . subst e; rw [hx]; simp [h4, hl]; omega
           . exact hg3 j (by omega)
         . exact WK hE (lk [(0, 0)])
     . simp only [Bool.not_eq_true] at h4
       rw [h4] at c2
       simp [p13l0, hI, hx, inC, Nat.testBit]
       refine CLa c2 ?_
       simp
       apply RZ
       simp [results13, okLg, ordS_bad hx (Or.inl h4)]
   . have hI : ¬ (i : Int) < l.es.length := by omega
     simp [p13l0, hI]
     apply RZ
     simp [results13, okLg, h1, h3, ordS_ok fun j hj => hg3 j (by omega)]
theorem fn33 (l : List Int) (hl : l.length <= 1000000) : Ct prog 33 [.d (intsD l), .d (intsD l)] (vb true) [] := by
 refine CB func33 c33 fun E hE => ?_
 simp [p33]
 refine pw_loop (α := Nat) (fun i => ⟨slots [(0, .d (intsD l)), (1, .d (intsD l)), (5, vi i)], lk [], 0⟩) (fun i => i <= l.length) (fun i => l.length - i) 0 ?_ ?_ ?_
 . omega
 . exact WK hE (lk [])
 . intro i hi
   by_cases h : i < l.length
   . obtain ⟨x, hx⟩ := gE h
     have hz := @wz i (by omega)
     have hI : (i : Int) < l.length := by omega
     simp [p33l0, hI, hx, hz]
     refine ⟨i + 1, by omega, by omega, ?_⟩
     exact WK hE (lk [])
   . have hn : ¬ (i : Int) < l.length := by omega
     simp [p33l0, hn]
     apply RZ
     simp [results33]
theorem fn17 (x : Etr) (hl : x.a.length <= 1000000) : Ct prog 17 [entV x, entV x] (vb true) [] := by
 refine CB func17 c17 fun E hE => ?_
 simp [p17]
 refine CLa (fn33 x.a hl) ?_
 simp
 apply RZ
 simp [results17]
theorem fn9 (l : Lg) (hs : SizedL l) : Ct prog 9 [logV l, logV l] (vb true) [] := by
 have hn := hs.n
 refine CB func9 c9 fun E hE => ?_
 simp [p9]
 refine pw_loop (α := Nat) (fun i => ⟨slots [(2, .lp 0 0), (3, .lp 1 0), (5, vi i)], lk [(0, [vS l.s, .d (entsD l.es)]), (1, [vS l.s, .d (entsD l.es)])], 2⟩) (fun i => i <= l.es.length) (fun i => l.es.length - i) 0 ?_ ?_ ?_
 . omega
 . exact WK hE (lk [(0, 0), (1, 1048576)])
 . intro i hi
   by_cases h : i < l.es.length
   . obtain ⟨x, hx⟩ := gE h
     have hz := @wz i (by omega)
     have hI : (i : Int) < l.es.length := by omega
     simp [p9l0, hI, hx, inC, Nat.testBit]
     refine ACall.mk _ _ _ (fn17 x (hs.e x (List.mem_of_getElem? hx)).2.1) (by first | (simp; done) | simp [Bor_ls, Bor1_ls]) (by simp) (by first | (left; simp; done) | (right; simp; done)) ?_
     simp [hz]
     refine ⟨i + 1, by omega, by omega, ?_⟩
     exact WK hE (lk [(0, 0), (1, 1)])
   . have hn : ¬ (i : Int) < l.es.length := by omega
     simp [p9l0, hn]
     apply RZ
     simp [results9]
def grE (x : Etr) : Bool := decide (60 < x.w.length) || decide (60 < x.n.length) || decide (10 < x.a.length)
def grL (l : Lg) : Bool := decide (220 < l.es.length) || decide (60 < l.s.length) || l.es.any grE
theorem grL_sized {l : Lg} (h : grL l = false) : SizedL l := by
 simp only [grL, Bool.or_eq_false_iff, decide_eq_false_iff_not, List.any_eq_false] at h
 refine ⟨by omega, by omega, fun x hx => ?_⟩
 have := h.2 x hx
 simp only [grE, Bool.or_eq_true, decide_eq_true_eq, not_or] at this
 exact ⟨by omega, by omega, by omega⟩
theorem fn5 (l : Lg) : Ct prog 5 [logV l] (vb (grL l)) [] := by
 by_cases h1 : 220 < l.es.length
 . have h1' : (220 : Int) < l.es.length := by omega
   refine CB func5 c5 fun E hE => ?_
   simp [p5, h1']
   apply RZ
   simp [results5, grL, h1]
 have h1' : ¬ (220 : Int) < l.es.length := by omega
 by_cases h2 : 60 < l.s.length
 . have h2' : (60 : Int) < l.s.length := by omega
   refine CB func5 c5 fun E hE => ?_
   simp [p5, h1', h2']
   apply RZ
   simp [results5, grL, h2]
 have h2' : ¬ (60 : Int) < l.s.length := by omega
 refine CB func5 c5 fun E hE => ?_
 simp [p5, h1', h2']
 refine pw_loop (α := Nat) (fun i => ⟨slots [(1, .lp 0 0), (3, vi i)], lk [(0, [vS l.s, .d (entsD l.es)])], 1⟩) (fun i => i <= l.es.length /\ ∀ j, j < i -> (l.es[j]?).all (fun x => !grE x) = true) (fun i => l.es.length - i) 0 ?_ ?_ ?_
 . exact ⟨by omega, fun j hj => by omega⟩
 . exact WK hE (lk [(0, 0)])
 . rintro i ⟨hi, hg3⟩
   have hz := @wz i (by omega)
   by_cases h : i < l.es.length
   . obtain ⟨x, hx⟩ := gE h
     have hI : (i : Int) < l.es.length := by omega
     have hbad : grE x = true -> l.es.any grE = true := fun hg => List.any_eq_true.2 ⟨x, List.mem_of_getElem? hx, hg⟩
     by_cases g1 : 60 < x.w.length
     . have g1' : (60 : Int) < x.w.length := by omega
       simp [p5l0, hI, hx, g1', splice]
       apply RZ
       simp [results5, grL, hbad (by simp [grE, g1])]
     have g1' : ¬ (60 : Int) < x.w.length := by omega
     by_cases g2 : 60 < x.n.length
     . have g2' : (60 : Int) < x.n.length := by omega
       simp [p5l0, hI, hx, g1', g2', splice]
       apply RZ
       simp [results5, grL, hbad (by simp [grE, g2])]
     have g2' : ¬ (60 : Int) < x.n.length := by omega
     by_cases g3 : 10 < x.a.length
     . have g3' : (10 : Int) < x.a.length := by omega
       simp [p5l0, hI, hx, g1', g2', g3', splice]
       apply RZ
       simp [results5, grL, hbad (by simp [grE, g3])]
     have g3' : ¬ (10 : Int) < x.a.length := by omega
     simp [p5l0, hI, hx, g1', g2', g3', hz, splice]
     refine ⟨i + 1, ⟨by omega, fun j hj => ?_⟩, by omega, ?_⟩
     . by_cases e : j = i
       . subst e; rw [hx]; simp [grE, g1, g2, g3]
       . exact hg3 j (by omega)
     . exact WK hE (lk [(0, 0)])
   . have hI : ¬ (i : Int) < l.es.length := by omega
     have hall : l.es.any grE = false := by
       rw [List.any_eq_false]
       intro x hx
       obtain ⟨j, hj⟩ := List.getElem?_of_mem hx
       have := hg3 j (by have := (List.getElem?_eq_some_iff.1 hj).1; omega)
       rw [hj] at this
       simpa using this
     simp [p5l0, hI]
     apply RZ
     simp [results5, grL, h1, h2, hall]
end Go.Proofs.Tryd
namespace Go.Proofs.YtcaecmiedjnacaaDoor
open Go.Joins Go.ChangeShapes Go.WideShapes Go.ChangeAt Go.RowKit Go.Psl Go.Log
theorem Tryd.own : ownKnob Tryd.prog.godebug = none := by kernel_rfl
theorem Tryd.laidOut : laidOutB Tryd.prog = true := by kernel_rfl
theorem all_map {α β : Type} {f : α -> β} : ∀ {es : List β}, (∀ x ∈ es, ∃ k, x = f k) -> ∃ t : List α, es = t.map f
 | [], _ => ⟨[], rfl⟩
 | e :: es, h => by
   obtain ⟨k, hk⟩ := h e (by simp)
   obtain ⟨t, ht⟩ := all_map (f := f) (es := es) fun x hx => h x (by simp [hx])
   exact ⟨k :: t, by rw [ht, hk]; rfl⟩
theorem all2_d {G : Gh} {W : World} : ∀ {ds : List D} {cv : List Value}, All2 (RD G.Im W) ds cv -> All2 (R1 G W) (ds.map V.d) cv
 | [], [], _ => trivial
 | _ :: _, _ :: _, h => ⟨h.1, all2_d h.2⟩
abbrev GA (W : World) : Gh := ⟨fun _ => 0, fun _ => 0, fun _ => true, fun _ => true, InW W⟩
theorem struct_arg {H : Type} {enc : TypeId × Value -> H} {W : World} {base : Nat} {v : Value} {d : DataW H} {p : List MemPlace} {t : TypeId} {fs : Array Field} {n : Nat} (hu : Tryd.prog.underlying t = some (.struct fs)) (hp : plainB Tryd.prog n t = true)
   (hval : Value.okWide Tryd.prog W .any base t v) (h : DataW.Trod enc Tryd.prog W 0 (fun _ => true) true t v d p) : ∃ ds : List D, Sh' Tryd.prog n t ds /\ R2 (GA W) W (.agg (ds.map .d)) v := by
 obtain ⟨m, hm⟩ := h
 obtain ⟨cs, rfl, _⟩ := okWide_struct hu hval
 obtain ⟨ds, h1, h2⟩ := read_plain n t hp m _ _ hm
 exact ⟨ds, h1, _, rfl, all2_d h2⟩
theorem sh_int {n : Nat} {ds : List D} (h : Sh' Tryd.prog (n + 1) 3 ds) : ∃ i : Int, ds = [.lit (.int .i64 i)] := by
 simp only [Sh', Tryd.underlying3] at h
 obtain ⟨i, h, _⟩ := h
 exact ⟨i, h⟩
theorem sh_text {n : Nat} {ds : List D} (h : Sh' Tryd.prog (n + 1) 9 ds) : ∃ l : By, ds = [Tryd.dS l] := by
 simp only [Sh', Tryd.underlying9] at h
 obtain ⟨s, h, _⟩ := h
 exact ⟨s.data.toList, by rw [h, <- bs_data s, bs_toList]⟩
theorem cells3 : Tryd.prog.cellsOf 3 = 1 := by kernel_rfl
theorem sh_ints {n : Nat} {ds : List D} (h : Sh' Tryd.prog (n + 2) 33 ds) : ∃ t : List (Int), ds = [.sl 1 (t.map Tryd.intL)] := by
 rw [Sh', Tryd.underlying33] at h
 obtain ⟨es, rfl, _, h⟩ := h
 obtain ⟨t, rfl⟩ := all_map (f := Tryd.intL) fun x hx => sh_int (h x hx)
 exact ⟨t, by rw [cells3]⟩
theorem sh_entry {n : Nat} {ds : List D} (h : Sh' Tryd.prog (n + 3) 35 ds) : ∃ k : Etr, ds = Tryd.entL k := by
 rw [Sh', Tryd.underlying35] at h
 obtain ⟨a, r, rfl, h1, b, r2, rfl, h2, c, r3, rfl, h3, d, r4, rfl, h4, rfl⟩ := h
 obtain ⟨i1, rfl⟩ := sh_int h1
 obtain ⟨i2, rfl⟩ := sh_text h2
 obtain ⟨i3, rfl⟩ := sh_ints h3
 obtain ⟨i4, rfl⟩ := sh_text h4
 exact ⟨⟨i1, i2, i3, i4⟩, rfl⟩
theorem cells35 : Tryd.prog.cellsOf 35 = 4 := by kernel_rfl
theorem sh_entrys {n : Nat} {ds : List D} (h : Sh' Tryd.prog (n + 4) 22 ds) : ∃ t : List (Etr), ds = [.sl 4 (t.map Tryd.entL)] := by
 rw [Sh', Tryd.underlying22] at h
 obtain ⟨es, rfl, _, h⟩ := h
 obtain ⟨t, rfl⟩ := all_map (f := Tryd.entL) fun x hx => sh_entry (h x hx)
 exact ⟨t, by rw [cells35]⟩
theorem sh_log {n : Nat} {ds : List D} (h : Sh' Tryd.prog (n + 5) 24 ds) : ∃ k : Lg, ds = [Tryd.dS k.s, Tryd.entsD k.es] := by
 rw [Sh', Tryd.underlying24] at h
 obtain ⟨a, r, rfl, h1, b, r2, rfl, h2, rfl⟩ := h
 obtain ⟨i1, rfl⟩ := sh_text h1
 obtain ⟨i2, rfl⟩ := sh_entrys h2
 exact ⟨⟨i1, i2⟩, rfl⟩
theorem log_arg {H : Type} {enc : TypeId × Value -> H} {W : World} {base : Nat} {v : Value} {d : DataW H} {p : List MemPlace} (hval : Value.okWide Tryd.prog W .any base 24 v) (h : DataW.Trod enc Tryd.prog W 0 (fun _ => true) true 24 v d p) :
   ∃ k : Lg, R2 (GA W) W (Tryd.logV k) v := by
 obtain ⟨ds, h1, h2⟩ := struct_arg (n := 5) Tryd.underlying24 (by kernel_rfl) hval h
 obtain ⟨k, hk⟩ := sh_log h1
 cases hk
 exact ⟨k, h2⟩
def litV : DataW Unit -> Value
 | .lit (.int k x) => .int k x
 | _ => .bool false
def rowV : DataW Unit -> List Value
 | .agg ps => ps.map litV
 | d => [litV d]
def valsOf : DataW Unit -> Array Value
 | .agg ps => (ps.flatMap rowV).toArray
 | _ => #[]
def putV (d : DataW Unit) : Obj -> Obj
 | .cells _ t frozen => .cells (valsOf d) t frozen
 | o => o
noncomputable def laidWorld (laid : List (Nat × DataW Unit)) (os : Os) : World :=
 { World.holding Tryd.prog os ⟨#[], #[], []⟩ with heap := laid.foldl (fun h x => h.modify x.1 (putV x.2)) (World.holding Tryd.prog os ⟨#[], #[], []⟩).heap }
theorem tabW_of_shaped {w : World} {g : Nat} {t : TypeId} {zero : Array Value} {k : IntKind}
   (h : w.ShapedOpen Tryd.prog) (hg : g < Tryd.prog.globals.size)
   (h0 : ((begin Tryd.prog (fun _ _ => 0) default).world.heap[g]?).bind Obj.row? = some (zero, t)) (hz : zero.size = 1)
   (hb : Tryd.prog.buildable t = true) (hc : Tryd.prog.cellTypes Tryd.prog.depth t = some [t]) (hu : Tryd.prog.underlying t = some (.int k)) : ∃ m, tabW w g #[.int k m] := by
 obtain ⟨m, hm⟩ := cell_of_shapedOpen_int h hg h0 hz hb hc hu
 obtain ⟨cs, hh, hs, _⟩ := h.1 g zero t hg h0
 refine ⟨m, t, (0, 0), ?_⟩
 rw [hh]
 have h1 : cs[0]? = some (.int k m) := by
   simpa [World.cell?, hh] using hm
 have h2 : cs = #[.int k m] := by
   obtain ⟨l⟩ := cs
   rw [hz] at hs
   match l, hs with
   | [a], _ => simp at h1; rw [h1]
 rw [h2]
theorem max_laid {W : World} (h : W.ShapedOpen Tryd.prog) : globAt W gMax := by
 have h1 := tabW_of_shaped (zero := #[.int .i64 0]) (t := 3) (g := gMax) h (of_decide_eq_true (by kernel_rfl)) (by kernel_rfl) rfl (by kernel_rfl) (by kernel_rfl) Tryd.underlying3
 have h2 : globAt W gMax = ∃ m, tabW W gMax #[.int .i64 m] := by simp [globAt]
 rw [h2]
 exact h1
theorem GA_of {W : World} (h : globW W) : Go.Psl.GW (GA W).Im W := ⟨fun _ h => h, W, h, fun _ hk => ⟨hk, rfl⟩⟩
end Go.Proofs.YtcaecmiedjnacaaDoor
namespace Go.Proofs.Tryd
open Go.Psl
open Go.Log
def spD (l : List Etr) : List D := l.flatMap entL
abbrev cellsI (l : List Etr) : List V := (spD l).map .d
@[simp] theorem spD_len (l : List Etr) : (spD l).length = l.length * 4 := by
 induction l with
 | nil => rfl
 | cons a l ih => simp only [spD, List.flatMap_cons, List.length_append, List.length_cons, List.length_nil] at ih ⊢; omega
@[simp] theorem spD_nil : spD [] = [] := rfl
theorem spD_cons (p : Etr) (l : List Etr) : spD (p :: l) = di p.t :: dS p.w :: intsD p.a :: dS p.n :: spD l := rfl
theorem spD_at : ∀ {l : List Etr} {i : Nat} {p : Etr}, l[i]? = some p -> ((spD l).drop (i * 4)).take 4 = entL p
 | [], i, p, h => by simp at h
 | a :: l, 0, p, h => by simp at h; subst h; rfl
 | a :: l, i + 1, p, h => by
   simp at h
   rw [show (i + 1) * 4 = i * 4 + 1 + 1 + 1 + 1 by omega, spD_cons, List.drop_succ_cons, List.drop_succ_cons, List.drop_succ_cons, List.drop_succ_cons]
   exact spD_at h
theorem cells_at {l : List Etr} {i : Nat} {p : Etr} (h : l[i]? = some p) : List.take 4 (List.drop (i * 4) (List.map V.d (spD l))) = [vi p.t, vS p.w, .d (intsD p.a), vS p.n] := by
 rw [<- List.map_drop, <- List.map_take, spD_at h]; rfl
theorem spD_set : ∀ {l : List Etr} {i : Nat} (p : Etr), i < l.length -> (spD l).take (i * 4) ++ entL p ++ (spD l).drop (i * 4 + 4) = spD (l.set i p)
 | [], i, p, h => by simp at h
 | a :: l, 0, p, h => rfl
 | a :: l, i + 1, p, h => by
   have := spD_set (l := l) (i := i) p (by simpa using h)
   rw [show (i + 1) * 4 = i * 4 + 1 + 1 + 1 + 1 by omega, spD_cons, List.take_succ_cons, List.take_succ_cons, List.take_succ_cons, List.take_succ_cons, List.set_cons_succ, spD_cons, <- this]
   simp [List.drop_succ_cons]
theorem cells_set {l : List Etr} {i : Nat} (p : Etr) (h : i < l.length) : splice (List.map V.d (spD l)) (i * 4) [vi p.t, vS p.w, .d (intsD p.a), vS p.n] = List.map V.d (spD (l.set i p)) := by
 unfold splice
 rw [<- spD_set p h, List.map_append, List.map_append, List.map_take, List.map_drop]
 rfl
theorem spD_fcel (l : List Etr) : cellsI l = fcel entL l := by simp [cellsI, spD, fcel, List.flatMap]
end Go.Proofs.Tryd
namespace Go.Stb
variable {α β : Type}
def bsr (t : Nat -> Bool) : Nat -> Nat -> Nat -> Nat
 | 0, i, _ => i
 | n + 1, i, j => if i < j then (if t ((i + j) / 2) then bsr t n ((i + j) / 2 + 1) j else bsr t n i ((i + j) / 2)) else i
theorem bsr_spec (t : Nat -> Bool) (lo hi : Nat) : ∀ n i j, j - i <= n -> lo <= i -> i <= j -> j <= hi -> (lo < i -> t (i - 1) = true) -> (j < hi -> t j = false) -> lo <= bsr t n i j /\ bsr t n i j <= hi /\ (lo < bsr t n i j -> t (bsr t n i j - 1) = true) /\ (bsr t n i j < hi -> t (bsr t n i j) = false)
 | 0, i, j, hn, h1, h2, h3, h4, h5 => by
   have e : i = j := by omega
   subst e
   exact ⟨h1, h3, h4, h5⟩
 | n + 1, i, j, hn, h1, h2, h3, h4, h5 => by
   unfold bsr
   by_cases h : i < j
   . rw [if_pos h]
     cases ht : t ((i + j) / 2)
     . simp only [Bool.false_eq_true, if_false]
       exact bsr_spec t lo hi n i _ (by omega) h1 (by omega) (by omega) h4 (fun _ => ht)
     . simp only [if_true]
       exact bsr_spec t lo hi n _ j (by omega) (by omega) (by omega) h3 (fun _ => by simpa using ht) h5
   . rw [if_neg h]
     have e : i = j := by omega
     subst e
     exact ⟨h1, h3, h4, h5⟩
theorem bsr_more (t : Nat -> Bool) : ∀ n i j, j - i <= n -> bsr t n i j = bsr t (j - i) i j
 | 0, i, j, h => by have : j - i = 0 := by omega
                    rw [this]
 | n + 1, i, j, h => by
   by_cases hij : i < j
   . obtain ⟨k, hk⟩ : ∃ k, j - i = k + 1 := ⟨j - i - 1, by omega⟩
     rw [hk]
     unfold bsr
     rw [if_pos hij, if_pos hij]
     cases t ((i + j) / 2)
     . simp only [Bool.false_eq_true, if_false]
       rw [bsr_more t n i _ (by omega), bsr_more t k i _ (by omega)]
     . simp only [if_true]
       rw [bsr_more t n _ j (by omega), bsr_more t k _ j (by omega)]
   . have : j - i = 0 := by omega
     rw [this]
     unfold bsr
     rw [if_neg hij]
def srch (t : Nat -> Bool) (i j : Nat) : Nat := bsr t (j - i) i j
theorem srch_step (t : Nat -> Bool) {i j : Nat} (h : i < j) : srch t i j = if t ((i + j) / 2) then srch t ((i + j) / 2 + 1) j else srch t i ((i + j) / 2) := by
 unfold srch
 obtain ⟨k, hk⟩ : ∃ k, j - i = k + 1 := ⟨j - i - 1, by omega⟩
 rw [hk]
 conv => lhs; unfold bsr
 rw [if_pos h]
 cases t ((i + j) / 2)
 . simp only [Bool.false_eq_true, if_false]
   exact bsr_more t k i _ (by omega)
 . simp only [if_true]
   exact bsr_more t k _ j (by omega)
theorem srch_end (t : Nat -> Bool) {i j : Nat} (h : ¬ i < j) : srch t i j = i := by
 unfold srch
 have : j - i = 0 := by omega
 rw [this]; rfl
theorem srch_spec (t : Nat -> Bool) {i j : Nat} (h : i <= j) : i <= srch t i j /\ srch t i j <= j /\ (i < srch t i j -> t (srch t i j - 1) = true) /\ (srch t i j < j -> t (srch t i j) = false) :=
 bsr_spec t i j (j - i) i j (Nat.le_refl _) (Nat.le_refl _) h (Nat.le_refl _) (fun h => by omega) (fun h => by omega)
def sw (D : List α) (i j : Nat) : List α := match D[i]?, D[j]? with
 | some x, some y => (D.set i y).set j x
 | _, _ => D
theorem sw_len (D : List α) (i j : Nat) : (sw D i j).length = D.length := by
 unfold sw; split <;> simp
theorem sw_eq {D : List α} {i j : Nat} {x y : α} (hi : D[i]? = some x) (hj : D[j]? = some y) : sw D i j = (D.set i y).set j x := by
 unfold sw; rw [hi, hj]
def lessAt (c : α -> α -> Bool) (D : List α) (i j : Nat) : Bool := match D[i]?, D[j]? with
 | some x, some y => c x y
 | _, _ => false
theorem lessAt_eq {c : α -> α -> Bool} {D : List α} {i j : Nat} {x y : α} (hi : D[i]? = some x) (hj : D[j]? = some y) : lessAt c D i j = c x y := by
 unfold lessAt; rw [hi, hj]
def swpN (D : List α) (a b : Nat) : Nat -> List α
 | 0 => D
 | i + 1 => sw (swpN D a b i) (a + i) (b + i)
theorem swpN_len (D : List α) (a b : Nat) : ∀ n, (swpN D a b n).length = D.length
 | 0 => rfl
 | n + 1 => by unfold swpN; rw [sw_len, swpN_len D a b n]
def rotL (m : Nat) : Nat -> List α -> Nat -> Nat -> List α
 | 0, D, i, _ => swpN D (m - i) m i
 | n + 1, D, i, j => if i = j then swpN D (m - i) m i else if j < i then rotL m n (swpN D (m - i) m j) (i - j) j else rotL m n (swpN D (m - i) (m + j - i) i) i (j - i)
theorem rotL_len (m : Nat) : ∀ n (D : List α) i j, (rotL m n D i j).length = D.length
 | 0, D, i, _ => swpN_len D _ _ _
 | n + 1, D, i, j => by
   unfold rotL
   split
   . exact swpN_len _ _ _ _
   . split
     . rw [rotL_len, swpN_len]
     . rw [rotL_len, swpN_len]
theorem rotL_more (m : Nat) : ∀ n k (D : List α) i j, 0 < i -> 0 < j -> i + j <= n -> i + j <= k -> rotL m n D i j = rotL m k D i j
 | 0, _, _, _, _, _, _, h, _ => by omega
 | _ + 1, 0, _, _, _, _, _, _, h => by omega
 | n + 1, k + 1, D, i, j, hi, hj, h1, h2 => by
   unfold rotL
   split
   . rfl
   . split
     . exact rotL_more m n k _ _ _ (by omega) hj (by omega) (by omega)
     . exact rotL_more m n k _ _ _ hi (by omega) (by omega) (by omega)
def rotF (D : List α) (m i j : Nat) : List α := rotL m (i + j) D i j
theorem rotF_step (D : List α) (m : Nat) {i j : Nat} (hi : 0 < i) (hj : 0 < j) : rotF D m i j = if i = j then swpN D (m - i) m i else if j < i then rotF (swpN D (m - i) m j) m (i - j) j else rotF (swpN D (m - i) (m + j - i) i) m i (j - i) := by
 unfold rotF
 obtain ⟨k, hk⟩ : ∃ k, i + j = k + 1 := ⟨i + j - 1, by omega⟩
 rw [hk]
 conv => lhs; unfold rotL
 split
 . rfl
 . split
   . exact rotL_more m k _ _ _ _ (by omega) hj (by omega) (by omega)
   . exact rotL_more m k _ _ _ _ hi (by omega) (by omega) (by omega)
theorem rotF_len (D : List α) (m i j : Nat) : (rotF D m i j).length = D.length := rotL_len _ _ _ _ _
def movR (D : List α) (k : Nat) : Nat -> List α
 | 0 => D
 | n + 1 => movR (sw D k (k + 1)) (k + 1) n
theorem movR_len : ∀ n (D : List α) k, (movR D k n).length = D.length
 | 0, _, _ => rfl
 | n + 1, D, k => by unfold movR; rw [movR_len n, sw_len]
def movL (D : List α) (k : Nat) : Nat -> List α
 | 0 => D
 | n + 1 => movL (sw D k (k - 1)) (k - 1) n
theorem movL_len : ∀ n (D : List α) k, (movL D k n).length = D.length
 | 0, _, _ => rfl
 | n + 1, D, k => by unfold movL; rw [movL_len n, sw_len]
def cutS (c : α -> α -> Bool) (D : List α) (a m b : Nat) : Nat :=
 srch (fun x => !lessAt c D ((a + b) / 2 + m - 1 - x) x) (if (a + b) / 2 < m then (a + b) / 2 + m - b else a) (if (a + b) / 2 < m then (a + b) / 2 else m)
def symL (c : α -> α -> Bool) : Nat -> List α -> Nat -> Nat -> Nat -> List α
 | 0, D, _, _, _ => D
 | n + 1, D, a, m, b =>
   if m - a = 1 then movR D a (srch (fun h => lessAt c D h a) m b - 1 - a)
   else if b - m = 1 then movL D m (m - srch (fun h => !lessAt c D m h) a m)
   else
     let mid := (a + b) / 2
     let s := cutS c D a m b
     let e := mid + m - s
     let D1 := if s < m /\ m < e then rotF D m (m - s) (e - m) else D
     let D2 := if a < s /\ s < mid then symL c n D1 a s mid else D1
     if mid < e /\ e < b then symL c n D2 mid e b else D2
theorem symL_len (c : α -> α -> Bool) : ∀ n (D : List α) a m b, (symL c n D a m b).length = D.length
 | 0, _, _, _, _ => rfl
 | n + 1, D, a, m, b => by
   unfold symL
   split
   . exact movR_len _ _ _
   . split
     . exact movL_len _ _ _
     . simp only
       split
       . rw [symL_len c n]
         split
         . rw [symL_len c n]
           split
           . exact rotF_len _ _ _ _
           . rfl
         . split
           . exact rotF_len _ _ _ _
           . rfl
       . split
         . rw [symL_len c n]
           split
           . exact rotF_len _ _ _ _
           . rfl
         . split
           . exact rotF_len _ _ _ _
           . rfl
def sift (c : α -> α -> Bool) (a : Nat) : Nat -> List α -> List α
 | 0, D => D
 | j + 1, D => if a < j + 1 /\ lessAt c D (j + 1) j = true then sift c a j (sw D (j + 1) j) else D
theorem sift_len (c : α -> α -> Bool) (a : Nat) : ∀ j (D : List α), (sift c a j D).length = D.length
 | 0, _ => rfl
 | j + 1, D => by unfold sift; split; rw [sift_len c a j, sw_len]; rfl
def insN (c : α -> α -> Bool) (a : Nat) (D : List α) : Nat -> List α
 | 0 => D
 | i + 1 => sift c a (a + (i + 1)) (insN c a D i)
theorem insN_len (c : α -> α -> Bool) (a : Nat) (D : List α) : ∀ n, (insN c a D n).length = D.length
 | 0 => rfl
 | n + 1 => by unfold insN; rw [sift_len, insN_len c a D n]
def insF (c : α -> α -> Bool) (D : List α) (a b : Nat) : List α := insN c a D (b - a - 1)
end Go.Stb
namespace Go.Stb
variable {α : Type}
theorem at_len {P S : List α} {x : α} {i : Nat} (h : i = P.length) : (P ++ x :: S)[i]? = some x := by
 subst h; simp
theorem sw_ok (P M S : List α) (x y : α) {i j : Nat} (hi : i = P.length) (hj : j = P.length + 1 + M.length) : sw (P ++ x :: (M ++ y :: S)) i j = P ++ y :: (M ++ x :: S) := by
 subst hi; subst hj
 have h1 : (P ++ x :: (M ++ y :: S))[P.length]? = some x := at_len rfl
 have e : P ++ x :: (M ++ y :: S) = (P ++ x :: M) ++ y :: S := by simp
 have h2 : (P ++ x :: (M ++ y :: S))[P.length + 1 + M.length]? = some y := by rw [e]; exact at_len (by simp; omega)
 rw [sw_eq h1 h2]
 rw [List.set_append_right _ _ (Nat.le_refl _), Nat.sub_self, List.set_cons_zero]
 have e2 : P ++ y :: (M ++ y :: S) = (P ++ y :: M) ++ y :: S := by simp
 rw [e2, List.set_append_right _ _ (by simp; omega)]
 have e3 : P.length + 1 + M.length - (P ++ y :: M).length = 0 := by simp; omega
 rw [e3, List.set_cons_zero]
 simp
theorem swpN_ok : ∀ (n : Nat) (P X M Y S : List α) {a b : Nat}, X.length = n -> Y.length = n -> a = P.length -> b = P.length + X.length + M.length -> swpN (P ++ X ++ M ++ Y ++ S) a b n = P ++ Y ++ M ++ X ++ S
 | 0, P, X, M, Y, S, a, b, hX, hY, ha, hb => by
   rw [List.length_eq_zero_iff] at hX hY
   subst hX; subst hY; rfl
 | n + 1, P, X, M, Y, S, a, b, hX, hY, ha, hb => by
   rcases List.eq_nil_or_concat X with rfl | ⟨X', x, rfl⟩
   . simp at hX
   rcases List.eq_nil_or_concat Y with rfl | ⟨Y', y, rfl⟩
   . simp at hY
   simp only [List.concat_eq_append, List.length_append, List.length_singleton] at hX hY hb ⊢
   unfold swpN
   have ih := swpN_ok n P X' ([x] ++ M) Y' ([y] ++ S) (a := a) (b := b) (by omega) (by omega) ha (by simp; omega)
   have e : P ++ (X' ++ [x]) ++ M ++ (Y' ++ [y]) ++ S = P ++ X' ++ ([x] ++ M) ++ Y' ++ ([y] ++ S) := by simp
   rw [e, ih]
   have e2 : P ++ Y' ++ ([x] ++ M) ++ X' ++ ([y] ++ S) = (P ++ Y') ++ x :: ((M ++ X') ++ y :: S) := by simp
   rw [e2, sw_ok (P ++ Y') (M ++ X') S x y (by simp; omega) (by simp; omega)]
   simp
theorem rotL_ok (m : Nat) : ∀ (n : Nat) (P U V S : List α), m = P.length + U.length -> 0 < U.length -> 0 < V.length -> U.length + V.length <= n -> rotL m n (P ++ U ++ V ++ S) U.length V.length = P ++ V ++ U ++ S
 | 0, _, _, _, _, _, h1, _, h => by omega
 | n + 1, P, U, V, S, hm, hU, hV, hn => by
   unfold rotL
   by_cases he : U.length = V.length
   . rw [if_pos he]
     have := swpN_ok U.length P U [] V S (a := m - U.length) (b := m) rfl he.symm (by omega) (by simp; omega)
     simpa using this
   . rw [if_neg he]
     by_cases hlt : V.length < U.length
     . rw [if_pos hlt]
       obtain ⟨U1, U2, rfl, h1⟩ : ∃ U1 U2, U = U1 ++ U2 /\ U1.length = V.length := ⟨U.take V.length, U.drop V.length, (List.take_append_drop _ _).symm, by rw [List.length_take]; omega⟩
       have := swpN_ok V.length P U1 U2 V S (a := m - (U1 ++ U2).length) (b := m) h1 rfl (by omega) (by simp at hm; omega)
       have e : P ++ (U1 ++ U2) ++ V ++ S = P ++ U1 ++ U2 ++ V ++ S := by simp
       rw [e, this]
       have ih := rotL_ok m n (P ++ V) U2 U1 S (by simp at hm ⊢; omega) (by simp at hlt; omega) (by omega) (by simp at hn; omega)
       have e2 : (U1 ++ U2).length - V.length = U2.length := by simp; omega
       rw [e2, <- h1, ih]
       simp
     . rw [if_neg hlt]
       obtain ⟨V1, V2, rfl, h1⟩ : ∃ V1 V2, V = V1 ++ V2 /\ V2.length = U.length := ⟨V.take (V.length - U.length), V.drop (V.length - U.length), (List.take_append_drop _ _).symm, by rw [List.length_drop]; omega⟩
       have := swpN_ok U.length P U V1 V2 S (a := m - U.length) (b := m + (V1 ++ V2).length - U.length) rfl h1 (by omega) (by simp; omega)
       have e : P ++ U ++ (V1 ++ V2) ++ S = P ++ U ++ V1 ++ V2 ++ S := by simp
       rw [e, this]
       have ih := rotL_ok m n P V2 V1 (U ++ S) (by omega) (by omega) (by simp at hlt he; omega) (by simp at hn; omega)
       have e2 : (V1 ++ V2).length - U.length = V1.length := by simp; omega
       have e3 : P ++ V2 ++ V1 ++ U ++ S = P ++ V2 ++ V1 ++ (U ++ S) := by simp
       rw [e2, <- h1, e3, ih]
       simp
theorem rotF_ok (P U V S : List α) {m i j : Nat} (hm : m = P.length + U.length) (hi : i = U.length) (hj : j = V.length) (hU : 0 < U.length) (hV : 0 < V.length) : rotF (P ++ U ++ V ++ S) m i j = P ++ V ++ U ++ S := by
 subst hi; subst hj
 exact rotL_ok m _ P U V S hm hU hV (Nat.le_refl _)
theorem movR_ok (x : α) (S : List α) : ∀ (B P : List α) {k : Nat}, k = P.length -> movR (P ++ x :: (B ++ S)) k B.length = P ++ B ++ x :: S
 | [], P, k, _ => by simp [movR]
 | y :: B, P, k, hk => by
   simp only [List.length_cons, movR, List.cons_append]
   have := sw_ok P [] (B ++ S) x y (i := k) (j := k + 1) hk (by simp; omega)
   simp only [List.nil_append] at this
   rw [this]
   have ih := movR_ok x S B (P ++ [y]) (k := k + 1) (by simp; omega)
   have e : P ++ y :: x :: (B ++ S) = P ++ [y] ++ x :: (B ++ S) := by simp
   rw [e, ih]
   simp
theorem movL_ok (y : α) : ∀ (n : Nat) (A P S : List α) {k : Nat}, A.length = n -> k = P.length + n -> movL (P ++ A ++ y :: S) k n = P ++ y :: (A ++ S)
 | 0, A, P, S, k, hA, hk => by
   rw [List.length_eq_zero_iff] at hA
   subst hA
   simp [movL]
 | n + 1, A, P, S, k, hA, hk => by
   rcases List.eq_nil_or_concat A with rfl | ⟨A', x, rfl⟩
   . simp at hA
   simp only [List.concat_eq_append, List.length_append, List.length_singleton] at hA ⊢
   unfold movL
   have h1 : (P ++ (A' ++ [x]) ++ y :: S)[k]? = some y := at_len (by simp; omega)
   have e : P ++ (A' ++ [x]) ++ y :: S = (P ++ A') ++ x :: (y :: S) := by simp
   have h2 : (P ++ (A' ++ [x]) ++ y :: S)[k - 1]? = some x := by rw [e]; exact at_len (by simp; omega)
   have hsw : sw (P ++ (A' ++ [x]) ++ y :: S) k (k - 1) = (P ++ A') ++ y :: (x :: S) := by
     rw [sw_eq h1 h2]
     have e4 : (P ++ (A' ++ [x]) ++ y :: S).set k x = (P ++ A' ++ [x]) ++ x :: S := by
       have e5 : P ++ (A' ++ [x]) ++ y :: S = (P ++ A' ++ [x]) ++ y :: S := by simp
       rw [e5, List.set_append_right _ _ (by simp; omega), show k - (P ++ A' ++ [x]).length = 0 by simp; omega, List.set_cons_zero]
     rw [e4]
     have e6 : (P ++ A' ++ [x]) ++ x :: S = (P ++ A') ++ x :: (x :: S) := by simp
     rw [e6, List.set_append_right _ _ (by simp; omega), show k - 1 - (P ++ A').length = 0 by simp; omega, List.set_cons_zero]
   rw [hsw]
   have ih := movL_ok y n A' P (x :: S) (k := k - 1) (by omega) (by omega)
   rw [ih]
   simp
structure Cross (c : α -> α -> Bool) (lt : α -> α -> Prop) (A B : List α) : Prop where
 iff : ∀ x ∈ A, ∀ y ∈ B, (c y x = true -> lt y x) /\ (c y x = false -> lt x y)
theorem Cross.sub {c : α -> α -> Bool} {lt : α -> α -> Prop} {A B A' B' : List α} (h : Cross c lt A B) (hA : ∀ x ∈ A', x ∈ A) (hB : ∀ y ∈ B', y ∈ B) : Cross c lt A' B' := ⟨fun x hx y hy => h.iff x (hA x hx) y (hB y hy)⟩
theorem Cross.no {c : α -> α -> Bool} {lt : α -> α -> Prop} {A B : List α} (h : Cross c lt A B) {x y : α} (hx : x ∈ A) (hy : y ∈ B) (hc : c y x = false) : lt x y := by
 exact (h.iff x hx y hy).2 hc
theorem sift_ok {c : α -> α -> Bool} {lt : α -> α -> Prop} (htr : ∀ x y z, lt x y -> lt y z -> lt x z) (P : List α) (y : α) : ∀ (n : Nat) (X S : List α), X.length = n -> X.Pairwise lt -> Cross c lt X [y] ->
   ∃ R, sift c P.length (P.length + n) (P ++ X ++ y :: S) = P ++ R ++ S /\ R.Perm (X ++ [y]) /\ R.Pairwise lt
 | 0, X, S, hX, _, _ => by
   rw [List.length_eq_zero_iff] at hX
   subst hX
   refine ⟨[y], ?_, by simp, by simp⟩
   simp only [Nat.add_zero, List.append_nil]
   cases hP : P.length with
   | zero => simp [sift]
   | succ k =>
     unfold sift
     rw [if_neg (by omega)]; simp
 | n + 1, X, S, hX, hs, hc => by
   rcases List.eq_nil_or_concat X with rfl | ⟨X', x, rfl⟩
   . simp at hX
   simp only [List.concat_eq_append, List.length_append, List.length_singleton] at hX hs hc ⊢
   have hs' := List.pairwise_append.1 hs
   have h1 : (P ++ (X' ++ [x]) ++ y :: S)[P.length + n + 1]? = some y := at_len (by simp; omega)
   have e : P ++ (X' ++ [x]) ++ y :: S = (P ++ X') ++ x :: (y :: S) := by simp
   have h2 : (P ++ (X' ++ [x]) ++ y :: S)[P.length + n]? = some x := by rw [e]; exact at_len (by simp; omega)
   rw [show P.length + (n + 1) = P.length + n + 1 by omega]
   unfold sift
   rw [lessAt_eq h1 h2]
   cases hcc : c y x
   . rw [if_neg (by simp)]
     refine ⟨X' ++ [x] ++ [y], by simp, List.Perm.refl _, ?_⟩
     have hxy : lt x y := hc.no (by simp) (by simp) hcc
     refine List.pairwise_append.2 ⟨hs, List.pairwise_singleton _ _, fun z hz w hw => ?_⟩
     rw [List.mem_singleton.1 hw]
     rcases List.mem_append.1 hz with hz | hz
     . exact htr _ _ _ (hs'.2.2 z hz x (by simp)) hxy
     . rw [List.mem_singleton.1 hz]; exact hxy
   . rw [if_pos ⟨by omega, rfl⟩]
     have hyx : lt y x := (hc.iff x (by simp) y (by simp)).1 hcc
     have hsw : sw (P ++ (X' ++ [x]) ++ y :: S) (P.length + n + 1) (P.length + n) = P ++ X' ++ y :: (x :: S) := by
       rw [sw_eq h1 h2]
       have e4 : (P ++ (X' ++ [x]) ++ y :: S).set (P.length + n + 1) x = (P ++ X' ++ [x]) ++ x :: S := by
         have e5 : P ++ (X' ++ [x]) ++ y :: S = (P ++ X' ++ [x]) ++ y :: S := by simp
         rw [e5, List.set_append_right _ _ (by simp; omega), show P.length + n + 1 - (P ++ X' ++ [x]).length = 0 by simp; omega, List.set_cons_zero]
       rw [e4]
       have e6 : (P ++ X' ++ [x]) ++ x :: S = (P ++ X') ++ x :: (x :: S) := by simp
       rw [e6, List.set_append_right _ _ (by simp; omega), show P.length + n - (P ++ X').length = 0 by simp; omega, List.set_cons_zero]
     rw [hsw]
     obtain ⟨R, q1, q2, q3⟩ := sift_ok htr P y n X' (x :: S) (by omega) hs'.1 (hc.sub (fun z hz => List.mem_append_left _ hz) (fun z hz => hz))
     refine ⟨R ++ [x], by rw [q1]; simp, ?_, ?_⟩
     . have := q2.append_right [x]
       refine this.trans ?_
       rw [List.append_assoc, List.append_assoc]
       exact (List.Perm.refl X').append (List.Perm.swap x y [])
     . refine List.pairwise_append.2 ⟨q3, List.pairwise_singleton _ _, fun z hz w hw => ?_⟩
       rw [List.mem_singleton.1 hw]
       rcases List.mem_append.1 (q2.mem_iff.1 hz) with hz | hz
       . exact hs'.2.2 z hz x (by simp)
       . rw [List.mem_singleton.1 hz]; exact hyx
end Go.Stb
namespace Go.Stb
variable {α : Type}
def Rel (c : α -> α -> Bool) (lt : α -> α -> Prop) (x y : α) : Prop := (c y x = true -> lt y x) /\ (c y x = false -> lt x y)
theorem insN_ok {c : α -> α -> Bool} {lt : α -> α -> Prop} (htr : ∀ x y z, lt x y -> lt y z -> lt x z) (P G S : List α) (hG : G.Pairwise (Rel c lt)) : ∀ i, i + 1 <= G.length ->
   ∃ R, insN c P.length (P ++ G ++ S) i = P ++ R ++ (G.drop (i + 1) ++ S) /\ R.Perm (G.take (i + 1)) /\ R.Pairwise lt
 | 0, h => by
   match G, h with
   | g :: G, _ => exact ⟨[g], by simp [insN], by simp, by simp⟩
 | i + 1, h => by
   obtain ⟨R, q1, q2, q3⟩ := insN_ok htr P G S hG i (by omega)
   obtain ⟨y, hy⟩ : ∃ y, G[i + 1]? = some y := ⟨_, List.getElem?_eq_getElem (by omega)⟩
   have hd : G.drop (i + 1) = y :: G.drop (i + 2) := by rw [List.drop_eq_getElem_cons (by omega), (List.getElem?_eq_some_iff.1 hy).2]
   have ht : G.take (i + 2) = G.take (i + 1) ++ [y] := by rw [List.take_add_one, hy]; rfl
   have hRl : R.length = i + 1 := by rw [q2.length_eq, List.length_take]; omega
   have hcr : Cross c lt R [y] := ⟨fun x hx z hz => by
     rw [List.mem_singleton.1 hz]
     have hx' := q2.mem_iff.1 hx
     obtain ⟨k, hk⟩ := List.getElem?_of_mem hx'
     rw [List.getElem?_take] at hk
     split at hk
     . rename_i hki
       have k1 := List.getElem?_eq_some_iff.1 hk
       have k2 := List.getElem?_eq_some_iff.1 hy
       have := List.pairwise_iff_getElem.1 hG k (i + 1) k1.1 k2.1 (by omega)
       rw [k1.2, k2.2] at this
       exact this
     . cases hk⟩
   obtain ⟨R', p1, p2, p3⟩ := sift_ok htr P y (i + 1) R (G.drop (i + 2) ++ S) hRl q3 hcr
   refine ⟨R', ?_, ?_, p3⟩
   . unfold insN
     rw [q1, hd]
     exact p1
   . rw [ht]
     exact p2.trans (q2.append_right [y])
theorem insF_ok {c : α -> α -> Bool} {lt : α -> α -> Prop} (htr : ∀ x y z, lt x y -> lt y z -> lt x z) (P G S : List α) (hG : G.Pairwise (Rel c lt)) {a b : Nat} (ha : a = P.length) (hb : b = P.length + G.length) :
   ∃ R, insF c (P ++ G ++ S) a b = P ++ R ++ S /\ R.Perm G /\ R.Pairwise lt := by
 subst ha; subst hb
 unfold insF
 by_cases h0 : G.length = 0
 . rw [List.length_eq_zero_iff] at h0
   subst h0
   refine ⟨[], ?_, by simp, by simp⟩
   rw [show P.length + ([] : List α).length - P.length - 1 = 0 by simp]
   rfl
 . obtain ⟨R, q1, q2, q3⟩ := insN_ok htr P G S hG (G.length - 1) (by omega)
   refine ⟨R, ?_, ?_, q3⟩
   . rw [show P.length + G.length - P.length - 1 = G.length - 1 by omega, q1, show G.length - 1 + 1 = G.length by omega, List.drop_length]; rfl
   . rw [show G.length - 1 + 1 = G.length by omega, List.take_length] at q2; exact q2
theorem head_pw {lt : α -> α -> Prop} {x : α} {l : List α} (h : (x :: l).Pairwise lt) : ∀ y ∈ l, lt x y := (List.pairwise_cons.1 h).1
theorem last_first {lt : α -> α -> Prop} (htr : ∀ x y z, lt x y -> lt y z -> lt x z) {A B : List α} (sA : A.Pairwise lt) (sB : B.Pairwise lt) (h : ∀ z w, A[A.length - 1]? = some z -> B[0]? = some w -> lt z w) : ∀ x ∈ A, ∀ y ∈ B, lt x y := by
 rcases List.eq_nil_or_concat A with e | ⟨A0, z, e⟩
 . subst e; intro x hx; simp at hx
 rw [List.concat_eq_append] at e
 subst e
 cases B with
 | nil => intro x _ y hy; simp at hy
 | cons w B3 =>
   have hzw := h z w (by simp) rfl
   have g1 : ∀ x ∈ A0 ++ [z], lt x w := fun x hx => by
     rcases List.mem_append.1 hx with hx | hx
     . exact htr _ _ _ ((List.pairwise_append.1 sA).2.2 x hx z (by simp)) hzw
     . rw [List.mem_singleton.1 hx]; exact hzw
   intro x hx y hy
   rcases List.mem_cons.1 hy with e | hy
   . subst e; exact g1 x hx
   . exact htr _ _ _ (g1 x hx) (head_pw sB y hy)
theorem app1 {A1 A2 : List α} {i : Nat} {x : α} (h : A1[i]? = some x) : (A1 ++ A2)[i]? = some x := by
 rw [List.getElem?_append_left (List.getElem?_eq_some_iff.1 h).1]; exact h
theorem app2 {A1 A2 : List α} {i : Nat} {x : α} (h : A2[i]? = some x) : (A1 ++ A2)[A1.length + i]? = some x := by
 rw [List.getElem?_append_right (by omega), Nat.add_sub_cancel_left]; exact h
theorem memO {l : List α} {i : Nat} {x : α} (h : l[i]? = some x) : x ∈ l := List.mem_of_getElem? h
theorem lenO {l : List α} {i : Nat} {x : α} (h : l[i]? = some x) : i < l.length := (List.getElem?_eq_some_iff.1 h).1
theorem at_A {P A B S : List α} {a : Nat} (ha : a = P.length) (i : Nat) (x : α) (h : A[i]? = some x) : (P ++ A ++ B ++ S)[a + i]? = some x := by
 have := lenO h
 rw [List.append_assoc, List.append_assoc, List.getElem?_append_right (by omega), show a + i - P.length = i by omega, List.getElem?_append_left this]; exact h
theorem at_B {P A B S : List α} {m : Nat} (hm : m = P.length + A.length) (i : Nat) (x : α) (h : B[i]? = some x) : (P ++ A ++ B ++ S)[m + i]? = some x := by
 have := lenO h
 rw [List.getElem?_append_left (by simp; omega), List.getElem?_append_right (by simp; omega), show m + i - (P ++ A).length = i by simp; omega]; exact h
theorem sym_one {c : α -> α -> Bool} {lt : α -> α -> Prop} (htr : ∀ x y z, lt x y -> lt y z -> lt x z) (P B S : List α) (x : α) {a m b : Nat} (ha : a = P.length) (hm : m = P.length + 1) (hb : b = P.length + 1 + B.length) (sB : B.Pairwise lt) (hc : Cross c lt [x] B) :
   ∃ R, movR (P ++ [x] ++ B ++ S) a (srch (fun h => lessAt c (P ++ [x] ++ B ++ S) h a) m b - 1 - a) = P ++ R ++ S /\ R.Perm (x :: B) /\ R.Pairwise lt := by
 have hax := at_A (B := B) (S := S) ha 0 x (rfl : [x][0]? = some x)
 rw [Nat.add_zero] at hax
 have aB := at_B (P := P) (A := [x]) (B := B) (S := S) (m := m) (by simpa using hm)
 obtain ⟨i, hi⟩ : ∃ i, srch (fun h => lessAt c (P ++ [x] ++ B ++ S) h a) m b = i := ⟨_, rfl⟩
 obtain ⟨s1, s2, s3, s4⟩ := srch_spec (fun h => lessAt c (P ++ [x] ++ B ++ S) h a) (i := m) (j := b) (by omega)
 rw [hi] at s1 s2 s3 s4 ⊢
 obtain ⟨B1, B2, hB, hl⟩ : ∃ B1 B2, B = B1 ++ B2 /\ B1.length = i - m := ⟨B.take (i - m), B.drop (i - m), (List.take_append_drop _ _).symm, by rw [List.length_take]; omega⟩
 have hBl : B.length = B1.length + B2.length := by rw [hB, List.length_append]
 have sB' : B1.Pairwise lt /\ B2.Pairwise lt /\ _ := List.pairwise_append.1 (hB ▸ sB)
 have hx1 := last_first htr sB'.1 (List.pairwise_singleton lt x) (fun z w hz hw => by
   cases hw
   have hz' : B[B1.length - 1]? = some z := by rw [hB]; exact app1 hz
   have := lenO hz
   have ht := s3 (by omega)
   rw [show i - 1 = m + (B1.length - 1) by omega, lessAt_eq (aB _ _ hz') hax] at ht
   exact (hc.iff x (by simp) z (memO hz')).1 ht)
 have hx2 := last_first htr (List.pairwise_singleton lt x) sB'.2.1 (fun w z hw hz => by
   cases hw
   have hz' : B[B1.length + 0]? = some z := by rw [hB]; exact app2 hz
   have := lenO hz
   have ht := s4 (by omega)
   rw [show i = m + (B1.length + 0) by omega, lessAt_eq (aB _ _ hz') hax] at ht
   exact hc.no (by simp) (memO hz') ht)
 refine ⟨B1 ++ x :: B2, ?_, ?_, ?_⟩
 . have := movR_ok x (B2 ++ S) B1 P (k := a) ha
   rw [show i - 1 - a = B1.length by omega]
   have e : P ++ [x] ++ B ++ S = P ++ x :: (B1 ++ (B2 ++ S)) := by rw [hB]; simp
   rw [e, this]; simp
 . rw [hB]; exact List.perm_middle
 . refine List.pairwise_append.2 ⟨sB'.1, List.pairwise_cons.2 ⟨fun y hy => hx2 x (by simp) y hy, sB'.2.1⟩, fun y hy w hw => ?_⟩
   rcases List.mem_cons.1 hw with e | hw
   . subst e; exact hx1 y hy w (by simp)
   . exact sB'.2.2 y hy w hw
theorem sym_last {c : α -> α -> Bool} {lt : α -> α -> Prop} (htr : ∀ x y z, lt x y -> lt y z -> lt x z) (P A S : List α) (y : α) {a m : Nat} (ha : a = P.length) (hm : m = P.length + A.length) (sA : A.Pairwise lt) (hc : Cross c lt A [y]) :
   ∃ R, movL (P ++ A ++ [y] ++ S) m (m - srch (fun h => !lessAt c (P ++ A ++ [y] ++ S) m h) a m) = P ++ R ++ S /\ R.Perm (A ++ [y]) /\ R.Pairwise lt := by
 have hmy := at_B (P := P) (A := A) (S := S) hm 0 y (rfl : [y][0]? = some y)
 rw [Nat.add_zero] at hmy
 have aA := at_A (P := P) (A := A) (B := [y]) (S := S) ha
 obtain ⟨i, hi⟩ : ∃ i, srch (fun h => !lessAt c (P ++ A ++ [y] ++ S) m h) a m = i := ⟨_, rfl⟩
 obtain ⟨s1, s2, s3, s4⟩ := srch_spec (fun h => !lessAt c (P ++ A ++ [y] ++ S) m h) (i := a) (j := m) (by omega)
 rw [hi] at s1 s2 s3 s4 ⊢
 obtain ⟨A1, A2, hA, hl⟩ : ∃ A1 A2, A = A1 ++ A2 /\ A1.length = i - a := ⟨A.take (i - a), A.drop (i - a), (List.take_append_drop _ _).symm, by rw [List.length_take]; omega⟩
 have hAl : A.length = A1.length + A2.length := by rw [hA, List.length_append]
 have sA' : A1.Pairwise lt /\ A2.Pairwise lt /\ _ := List.pairwise_append.1 (hA ▸ sA)
 have hy1 := last_first htr sA'.1 (List.pairwise_singleton lt y) (fun z w hz hw => by
   cases hw
   have hz' : A[A1.length - 1]? = some z := by rw [hA]; exact app1 hz
   have := lenO hz
   have ht := s3 (by omega)
   rw [show i - 1 = a + (A1.length - 1) by omega, lessAt_eq hmy (aA _ _ hz'), Bool.not_eq_true'] at ht
   exact hc.no (memO hz') (by simp) ht)
 have hy2 := last_first htr (List.pairwise_singleton lt y) sA'.2.1 (fun w z hw hz => by
   cases hw
   have hz' : A[A1.length + 0]? = some z := by rw [hA]; exact app2 hz
   have := lenO hz
   have ht := s4 (by omega)
   rw [show i = a + (A1.length + 0) by omega, lessAt_eq hmy (aA _ _ hz'), Bool.not_eq_false'] at ht
   exact (hc.iff z (memO hz') y (by simp)).1 ht)
 refine ⟨A1 ++ y :: A2, ?_, ?_, ?_⟩
 . have := movL_ok y A2.length A2 (P ++ A1) S (k := m) rfl (by simp; omega)
   rw [show m - i = A2.length by omega]
   have e : P ++ A ++ [y] ++ S = P ++ A1 ++ A2 ++ y :: S := by rw [hA]; simp
   have e' : P ++ A1 ++ A2 ++ y :: S = (P ++ A1) ++ A2 ++ y :: S := by simp
   rw [e, e', this]; simp
 . rw [hA]
   exact (List.perm_middle (l₁ := A1) (a := y) (l₂ := A2)).trans (List.perm_append_comm (l₁ := [y]))
 . refine List.pairwise_append.2 ⟨sA'.1, List.pairwise_cons.2 ⟨fun x hx => hy2 y (by simp) x hx, sA'.2.1⟩, fun x hx w hw => ?_⟩
   rcases List.mem_cons.1 hw with e | hw
   . subst e; exact hy1 x hx w (by simp)
   . exact sA'.2.2 x hx w hw
end Go.Stb
namespace Go.Stb
variable {α : Type}
theorem cut_ok {c : α -> α -> Bool} {lt : α -> α -> Prop} (htr : ∀ x y z, lt x y -> lt y z -> lt x z) (P A B S : List α) {a m b mid s e : Nat} (ha : a = P.length) (hm : m = P.length + A.length) (hb : b = P.length + A.length + B.length) (hA : 2 <= A.length) (hB : 2 <= B.length) (sA : A.Pairwise lt) (sB : B.Pairwise lt) (hc : Cross c lt A B)
   (hmid : (a + b) / 2 = mid) (hs : cutS c (P ++ A ++ B ++ S) a m b = s) (he : mid + m - s = e) :
   ∃ A1 A2 B1 B2, A = A1 ++ A2 /\ B = B1 ++ B2 /\ s = a + A1.length /\ e = m + B1.length /\ mid = a + A1.length + B1.length /\ (∀ x ∈ A1, ∀ y ∈ B2, lt x y) /\ (∀ y ∈ B1, ∀ x ∈ A2, lt y x) := by
 unfold cutS at hs
 rw [hmid] at hs
 obtain ⟨lo, hlo⟩ : ∃ lo, (if mid < m then mid + m - b else a) = lo := ⟨_, rfl⟩
 obtain ⟨hi, hhi⟩ : ∃ hi, (if mid < m then mid else m) = hi := ⟨_, rfl⟩
 have hlh : a <= lo /\ lo <= hi /\ hi <= m /\ hi <= mid /\ mid + m - b <= lo /\ (lo = a \/ lo + b = mid + m) /\ (hi = m \/ hi = mid) := by
   rw [<- hlo, <- hhi]
   split <;> omega
 rw [hlo, hhi] at hs
 obtain ⟨s1, s2, s3, s4⟩ := srch_spec (fun x => !lessAt c (P ++ A ++ B ++ S) (mid + m - 1 - x) x) hlh.2.1
 rw [hs] at s1 s2 s3 s4
 have aA := at_A (P := P) (A := A) (B := B) (S := S) ha
 have aB := at_B (P := P) (A := A) (B := B) (S := S) hm
 obtain ⟨A1, A2, eA, hA1⟩ : ∃ A1 A2, A = A1 ++ A2 /\ A1.length = s - a := ⟨A.take (s - a), A.drop (s - a), (List.take_append_drop _ _).symm, by rw [List.length_take]; omega⟩
 obtain ⟨B1, B2, eB, hB1⟩ : ∃ B1 B2, B = B1 ++ B2 /\ B1.length = e - m := ⟨B.take (e - m), B.drop (e - m), (List.take_append_drop _ _).symm, by rw [List.length_take]; omega⟩
 have lA : A.length = A1.length + A2.length := by rw [eA, List.length_append]
 have lB : B.length = B1.length + B2.length := by rw [eB, List.length_append]
 have sA' : A1.Pairwise lt /\ A2.Pairwise lt /\ _ := List.pairwise_append.1 (eA ▸ sA)
 have sB' : B1.Pairwise lt /\ B2.Pairwise lt /\ _ := List.pairwise_append.1 (eB ▸ sB)
 refine ⟨A1, A2, B1, B2, eA, eB, by omega, by omega, by omega, ?_, ?_⟩
 . refine last_first htr sA'.1 sB'.2.1 (fun z w hz hw => ?_)
   have hz' : A[A1.length - 1]? = some z := by rw [eA]; exact app1 hz
   have hw' : B[B1.length + 0]? = some w := by rw [eB]; exact app2 hw
   have g1 := lenO hz
   have g2 := lenO hw
   have ht := s3 (by omega)
   rw [show mid + m - 1 - (s - 1) = m + (B1.length + 0) by omega, show s - 1 = a + (A1.length - 1) by omega, lessAt_eq (aB _ _ hw') (aA _ _ hz'), Bool.not_eq_true'] at ht
   exact hc.no (memO hz') (memO hw') ht
 . refine last_first htr sB'.1 sA'.2.1 (fun z w hz hw => ?_)
   have hz' : B[B1.length - 1]? = some z := by rw [eB]; exact app1 hz
   have hw' : A[A1.length + 0]? = some w := by rw [eA]; exact app2 hw
   have g1 := lenO hz
   have g2 := lenO hw
   have ht := s4 (by omega)
   rw [show mid + m - 1 - s = m + (B1.length - 1) by omega, show s = a + (A1.length + 0) by omega, lessAt_eq (aB _ _ hz') (aA _ _ hw'), Bool.not_eq_false'] at ht
   exact (hc.iff w (memO hw') z (memO hz')).1 ht
theorem nil0 {l : List α} (h : l.length = 0) : l = [] := List.eq_nil_of_length_eq_zero h
theorem symL_ok {c : α -> α -> Bool} {lt : α -> α -> Prop} (htr : ∀ x y z, lt x y -> lt y z -> lt x z) : ∀ (n : Nat) (P A B S : List α) {a m b : Nat}, a = P.length -> m = P.length + A.length -> b = P.length + A.length + B.length -> 0 < A.length -> 0 < B.length -> A.length + B.length <= n -> A.Pairwise lt -> B.Pairwise lt -> Cross c lt A B ->
   ∃ R, symL c n (P ++ A ++ B ++ S) a m b = P ++ R ++ S /\ R.Perm (A ++ B) /\ R.Pairwise lt
 | 0, _, A, _, _, _, _, _, _, _, _, h1, _, h, _, _, _ => by omega
 | n + 1, P, A, B, S, a, m, b, ha, hm, hb, hA, hB, hn, sA, sB, hc => by
   unfold symL
   by_cases h1 : m - a = 1
   . rw [if_pos h1]
     obtain ⟨x, e⟩ : ∃ x, A = [x] := List.length_eq_one_iff.1 (by omega)
     subst e
     exact sym_one htr P B S x ha hm hb sB hc
   rw [if_neg h1]
   by_cases h2 : b - m = 1
   . rw [if_pos h2]
     obtain ⟨y, e⟩ : ∃ y, B = [y] := List.length_eq_one_iff.1 (by omega)
     subst e
     exact sym_last htr P A S y ha hm sA hc
   rw [if_neg h2]
   simp only
   obtain ⟨mid, hmid⟩ : ∃ mid, (a + b) / 2 = mid := ⟨_, rfl⟩
   obtain ⟨s, hs⟩ : ∃ s, cutS c (P ++ A ++ B ++ S) a m b = s := ⟨_, rfl⟩
   obtain ⟨e, he⟩ : ∃ e, mid + m - s = e := ⟨_, rfl⟩
   obtain ⟨A1, A2, B1, B2, eA, eB, l1, l2, l3, k1, k2⟩ := cut_ok htr P A B S ha hm hb (by omega) (by omega) sA sB hc hmid hs he
   rw [hmid, hs, he]
   clear hs
   subst eA
   subst eB
   simp only [List.length_append] at hm hb hA hB hn
   have sA' := List.pairwise_append.1 sA
   have sB' := List.pairwise_append.1 sB
   have hD1 : (if s < m /\ m < e then rotF (P ++ (A1 ++ A2) ++ (B1 ++ B2) ++ S) m (m - s) (e - m) else P ++ (A1 ++ A2) ++ (B1 ++ B2) ++ S) = P ++ A1 ++ B1 ++ (A2 ++ B2 ++ S) := by
     by_cases hr : s < m /\ m < e
     . rw [if_pos hr]
       have := rotF_ok (P ++ A1) A2 B1 (B2 ++ S) (m := m) (i := m - s) (j := e - m) (by rw [List.length_append]; omega) (by omega) (by omega) (by omega) (by omega)
       have e1 : P ++ (A1 ++ A2) ++ (B1 ++ B2) ++ S = P ++ A1 ++ A2 ++ B1 ++ (B2 ++ S) := by simp
       rw [e1, this]; simp
     . rw [if_neg hr]
       by_cases hsm : s < m
       . rw [nil0 (l := B1) (by omega)]; simp
       . rw [nil0 (l := A2) (by omega)]; simp
   rw [hD1]
   obtain ⟨R1, q1, q2, q3⟩ : ∃ R1, (if a < s /\ s < mid then symL c n (P ++ A1 ++ B1 ++ (A2 ++ B2 ++ S)) a s mid else P ++ A1 ++ B1 ++ (A2 ++ B2 ++ S)) = P ++ R1 ++ (A2 ++ B2 ++ S) /\ R1.Perm (A1 ++ B1) /\ R1.Pairwise lt := by
     by_cases hr : a < s /\ s < mid
     . rw [if_pos hr]
       exact symL_ok htr n P A1 B1 (A2 ++ B2 ++ S) ha (by omega) (by omega) (by omega) (by omega) (by omega) sA'.1 sB'.1 (hc.sub (fun x hx => List.mem_append_left _ hx) (fun y hy => List.mem_append_left _ hy))
     . rw [if_neg hr]
       by_cases has : a < s
       . rw [nil0 (l := B1) (by omega)]
         exact ⟨A1, by simp, by simp, sA'.1⟩
       . rw [nil0 (l := A1) (by omega)]
         exact ⟨B1, by simp, by simp, sB'.1⟩
   rw [q1]
   have hR1 : R1.length = A1.length + B1.length := by rw [q2.length_eq, List.length_append]
   obtain ⟨R2, p1, p2, p3⟩ : ∃ R2, (if mid < e /\ e < b then symL c n (P ++ R1 ++ (A2 ++ B2 ++ S)) mid e b else P ++ R1 ++ (A2 ++ B2 ++ S)) = P ++ R1 ++ R2 ++ S /\ R2.Perm (A2 ++ B2) /\ R2.Pairwise lt := by
     by_cases hr : mid < e /\ e < b
     . rw [if_pos hr]
       have := symL_ok htr n (P ++ R1) A2 B2 S (a := mid) (m := e) (b := b) (by rw [List.length_append]; omega) (by rw [List.length_append]; omega) (by rw [List.length_append]; omega) (by omega) (by omega) (by omega) sA'.2.1 sB'.2.1 (hc.sub (fun x hx => List.mem_append_right _ hx) (fun y hy => List.mem_append_right _ hy))
       have e1 : P ++ R1 ++ (A2 ++ B2 ++ S) = P ++ R1 ++ A2 ++ B2 ++ S := by simp
       rw [e1]; exact this
     . rw [if_neg hr]
       by_cases hme : mid < e
       . rw [nil0 (l := B2) (by omega)]
         exact ⟨A2, by simp, by simp, sA'.2.1⟩
       . rw [nil0 (l := A2) (by omega)]
         exact ⟨B2, by simp, by simp, sB'.2.1⟩
   rw [p1]
   refine ⟨R1 ++ R2, by simp, ?_, ?_⟩
   . refine (q2.append p2).trans ?_
     have e1 : (A1 ++ B1 ++ (A2 ++ B2)).Perm (A1 ++ (A2 ++ (B1 ++ B2))) := by
       rw [List.append_assoc]
       refine (List.Perm.refl A1).append ?_
       rw [<- List.append_assoc, <- List.append_assoc]
       exact List.perm_append_comm.append_right B2
     simpa using e1
   . refine List.pairwise_append.2 ⟨q3, p3, fun x hx y hy => ?_⟩
     have hx' := List.mem_append.1 (q2.mem_iff.1 hx)
     have hy' := List.mem_append.1 (p2.mem_iff.1 hy)
     rcases hx' with hx' | hx' <;> rcases hy' with hy' | hy'
     . exact sA'.2.2 x hx' y hy'
     . exact k1 x hx' y hy'
     . exact k2 x hx' y hy'
     . exact sB'.2.2 x hx' y hy'
end Go.Stb
namespace Go.Stb
variable {α : Type} {p : α -> Prop}
theorem sw_all {D : List α} (h : ∀ x ∈ D, p x) (i j : Nat) : ∀ x ∈ sw D i j, p x := by
 intro x hx
 unfold sw at hx
 split at hx
 . rename_i y z hy hz
   rcases List.mem_or_eq_of_mem_set hx with hx | rfl
   . rcases List.mem_or_eq_of_mem_set hx with hx | rfl
     . exact h _ hx
     . exact h _ (List.mem_of_getElem? hz)
   . exact h _ (List.mem_of_getElem? hy)
 . exact h _ hx
theorem swpN_all {D : List α} (h : ∀ x ∈ D, p x) (a b : Nat) : ∀ n, ∀ x ∈ swpN D a b n, p x
 | 0 => h
 | n + 1 => sw_all (swpN_all h a b n) _ _
theorem rotL_all (m : Nat) : ∀ n (D : List α) i j, (∀ x ∈ D, p x) -> ∀ x ∈ rotL m n D i j, p x
 | 0, D, i, _, h => swpN_all h _ _ _
 | n + 1, D, i, j, h => by
   unfold rotL
   split
   . exact swpN_all h _ _ _
   . split
     . exact rotL_all m n _ _ _ (swpN_all h _ _ _)
     . exact rotL_all m n _ _ _ (swpN_all h _ _ _)
theorem rotF_all {D : List α} (h : ∀ x ∈ D, p x) (m i j : Nat) : ∀ x ∈ rotF D m i j, p x := rotL_all _ _ _ _ _ h
theorem movR_all : ∀ n (D : List α) k, (∀ x ∈ D, p x) -> ∀ x ∈ movR D k n, p x
 | 0, _, _, h => h
 | n + 1, _, _, h => movR_all n _ _ (sw_all h _ _)
theorem movL_all : ∀ n (D : List α) k, (∀ x ∈ D, p x) -> ∀ x ∈ movL D k n, p x
 | 0, _, _, h => h
 | n + 1, _, _, h => movL_all n _ _ (sw_all h _ _)
theorem sift_all (c : α -> α -> Bool) (a : Nat) : ∀ j (D : List α), (∀ x ∈ D, p x) -> ∀ x ∈ sift c a j D, p x
 | 0, _, h => h
 | j + 1, D, h => by
   unfold sift
   split
   . exact sift_all c a j _ (sw_all h _ _)
   . exact h
theorem insN_all (c : α -> α -> Bool) (a : Nat) {D : List α} (h : ∀ x ∈ D, p x) : ∀ n, ∀ x ∈ insN c a D n, p x
 | 0 => h
 | n + 1 => sift_all c a _ _ (insN_all c a h n)
theorem symL_all (c : α -> α -> Bool) : ∀ n (D : List α) a m b, (∀ x ∈ D, p x) -> ∀ x ∈ symL c n D a m b, p x
 | 0, _, _, _, _, h => h
 | n + 1, D, a, m, b, h => by
   unfold symL
   split
   . exact movR_all _ _ _ h
   . split
     . exact movL_all _ _ _ h
     . simp only
       have h1 : ∀ x ∈ (if cutS c D a m b < m /\ m < (a + b) / 2 + m - cutS c D a m b then rotF D m (m - cutS c D a m b) ((a + b) / 2 + m - cutS c D a m b - m) else D), p x := by
         split
         . exact rotF_all h _ _ _
         . exact h
       generalize (if cutS c D a m b < m /\ m < (a + b) / 2 + m - cutS c D a m b then rotF D m (m - cutS c D a m b) ((a + b) / 2 + m - cutS c D a m b - m) else D) = D1 at h1 ⊢
       have h2 : ∀ x ∈ (if a < cutS c D a m b /\ cutS c D a m b < (a + b) / 2 then symL c n D1 a (cutS c D a m b) ((a + b) / 2) else D1), p x := by
         split
         . exact symL_all c n _ _ _ _ h1
         . exact h1
       generalize (if a < cutS c D a m b /\ cutS c D a m b < (a + b) / 2 then symL c n D1 a (cutS c D a m b) ((a + b) / 2) else D1) = D2 at h2 ⊢
       split
       . exact symL_all c n _ _ _ _ h2
       . exact h2
end Go.Stb
namespace Go.Proofs.Tryd
open Go.Psl
open Go.Stb
open Go.Log
theorem fn82 (l : List Etr) (a b n : Nat) (x : D) (ha : a + n <= l.length) (hb : b + n <= l.length) (hl : l.length <= 1000000000) : Cm prog 82 [.ls 0 0 l.length 4, vi a, vi b, vi n, .d x] (lk [(0, cellsI l)]) [0] (.ret (.tup [])) (lk [(0, cellsI (swpN l a b n))]) := by
 refine Cm.by gok eok mixed 1 func82 c82 rfl (by simp [ntmps82]) (by simp) (HpIds.at ?_) (by simp) ?_ fun E hE hs => ?_
 . simp
 . simp [ResIds]
 simp [p82]
 refine pw_loop (α := Nat) (fun i => ⟨slots [(0, .ls 0 0 l.length 4), (1, vi a), (2, vi b), (3, vi n), (10, vi i)], lk [(0, cellsI (swpN l a b i))], 1⟩) (fun i => i <= n) (fun i => n - i) 0 ?_ ?_ ?_
 . simp
 . refine Weak.mkM hE (lk [(0, 0)]) _ _ _ ?_ ?_ ?_ ?_ ?_ ?_ <;> simp [swpN]
 . intro i hi
   simp [p82l0]
   by_cases h : i < n
   . have hlen := swpN_len l a b i
     obtain ⟨L, hL⟩ : ∃ L, L = swpN l a b i := ⟨_, rfl⟩
     rw [<- hL] at hlen ⊢
     obtain ⟨u, hu⟩ : ∃ u, L[a + i]? = some u := ⟨_, List.getElem?_eq_getElem (by omega)⟩
     obtain ⟨v, hv⟩ : ∃ v, L[b + i]? = some v := ⟨_, List.getElem?_eq_getElem (by omega)⟩
     have hnx : (L.set (a + i) v).set (b + i) u = swpN l a b (i + 1) := by
       rw [swpN, <- hL, sw_eq hu hv]
     have cu := cells_at hu
     have cv := cells_at hv
     have s1 := cells_set (l := L) (i := a + i) v (by omega)
     have s2 := cells_set (l := L.set (a + i) v) (i := b + i) u (by rw [List.length_set]; omega)
     rw [hnx] at s2
     have hdl := spD_len L
     have hdl2 := spD_len (L.set (a + i) v)
     rw [List.length_set] at hdl2
     have q1 : (a + i) * 4 + 4 <= L.length * 4 := by omega
     have q2 : (b + i) * 4 + 4 <= L.length * 4 := by omega
     have z1 := @wz i (by omega)
     have z2 : IntKind.wrap .i64 ((a : Int) + i) = ((a + i : Nat) : Int) := by rw [wrap64 (by omega) (by omega)]; omega
     have z3 : IntKind.wrap .i64 ((b : Int) + i) = ((b + i : Nat) : Int) := by rw [wrap64 (by omega) (by omega)]; omega
     have i1 : a + i < l.length := by omega
     have j1 : b + i < l.length := by omega
     have h' : (i : Int) < n := by omega
     clear hL hnx hu hv
     generalize a + i = k1 at *
     generalize b + i = k2 at *
     simp [h]
     refine pw_drawW [(21, 0)] (by kernel_rfl) ?_
     simp [inC, Nat.testBit, i1, j1, q1, q2, cu, cv, s1, s2, z1, z2, z3]
     refine ⟨i + 1, by omega, by omega, ?_⟩
     exact WKM hE (lk [(0, 0)])
   . have : i = n := by omega
     subst this
     simp
     refine RetOk.by (lk [(0, 0)]) ?_
     simp [results82]
theorem fn73 (l : List Etr) (a m b : Nat) (x : D) (ha : a < m) (hm : m < b) (hb : b <= l.length) (hl : l.length <= 1000000000) : Cm prog 73 [.ls 0 0 l.length 4, vi a, vi m, vi b, .d x] (lk [(0, cellsI l)]) [0] (.ret (.tup [])) (lk [(0, cellsI (rotF l m (m - a) (b - m)))]) := by
 refine Cm.by gok eok mixed 1 func73 c73 rfl (by simp [ntmps73]) (by simp) (HpIds.at ?_) (by simp) ?_ fun E hE hs => ?_
 . simp
 . simp [ResIds]
 have z1 : IntKind.wrap .i64 ((m : Int) - a) = ((m - a : Nat) : Int) := by rw [wrap64 (by omega) (by omega)]; omega
 have z2 : IntKind.wrap .i64 ((b : Int) - m) = ((b - m : Nat) : Int) := by rw [wrap64 (by omega) (by omega)]; omega
 simp [p73, z1, z2]
 obtain ⟨T, hT⟩ : ∃ T, T = rotF l m (m - a) (b - m) := ⟨_, rfl⟩
 rw [<- hT]
 refine pw_loop (α := Nat × Nat × List Etr) (fun y => ⟨slots [(0, .ls 0 0 l.length 4), (2, vi m), (4, .d x), (10, vi y.1), (11, vi y.2.1)], lk [(0, cellsI y.2.2)], 1⟩) (fun y => 0 < y.1 /\ 0 < y.2.1 /\ y.1 <= m /\ m + y.2.1 <= l.length /\ y.2.2.length = l.length /\ rotF y.2.2 m y.1 y.2.1 = T) (fun y => y.1 + y.2.1) (m - a, b - m, l) ?_ ?_ ?_
 . exact ⟨by simp only; omega, by simp only; omega, by simp only; omega, by simp only; omega, rfl, hT.symm⟩
 . exact WKM hE (lk [(0, 0)])
 . rintro ⟨i, j, L⟩ ⟨g1, g2, g3, g4, g5, g6⟩
   simp only at g1 g2 g3 g4 g5 g6
   have z3 : IntKind.wrap .i64 ((m : Int) - i) = ((m - i : Nat) : Int) := by rw [wrap64 (by omega) (by omega)]; omega
   have z4 : IntKind.wrap .i64 ((m : Int) + j) = ((m + j : Nat) : Int) := by rw [wrap64 (by omega) (by omega)]; omega
   rw [rotF_step _ _ g1 g2] at g6
   have n1 : spD L ≠ [] := by intro h; have := congrArg List.length h; simp at this; omega
   simp [p73l0]
   by_cases h : i = j
   . subst h
     rw [if_pos rfl] at g6
     simp [z3]
     have c := fn82 L (m - i) m i x (by omega) (by omega) (by omega)
     rw [g5, g6] at c
     refine CRs c (by simp [n1]) ?_
     simp
     refine RetOk.by (lk [(0, 0)]) ?_
     simp [results73]
   . rw [if_neg h] at g6
     have h' : ¬ (i : Int) = j := by omega
     by_cases h2 : j < i
     . rw [if_pos h2] at g6
       have h2' : (j : Int) < i := by omega
       have z5 : IntKind.wrap .i64 ((i : Int) - j) = ((i - j : Nat) : Int) := by rw [wrap64 (by omega) (by omega)]; omega
       simp [h', h2', z3]
       have c := fn82 L (m - i) m j x (by omega) (by omega) (by omega)
       rw [g5] at c
       refine CRs c (by simp [n1]) ?_
       simp [z5]
       refine ⟨i - j, j, swpN L (m - i) m j, ⟨by omega, g2, by omega, g4, by rw [swpN_len]; exact g5, g6⟩, by omega, ?_⟩
       exact WKM hE (lk [(0, 0)])
     . rw [if_neg h2] at g6
       have h2' : ¬ (j : Int) < i := by omega
       have z5 : IntKind.wrap .i64 ((j : Int) - i) = ((j - i : Nat) : Int) := by rw [wrap64 (by omega) (by omega)]; omega
       have z6 : IntKind.wrap .i64 (((m + j : Nat) : Int) - i) = ((m + j - i : Nat) : Int) := by rw [wrap64 (by omega) (by omega)]; omega
       simp only [Int.natCast_add] at z4 z6
       simp [h', h2', z3, z4, z6]
       have c := fn82 L (m - i) (m + j - i) i x (by omega) (by omega) (by omega)
       rw [g5] at c
       refine CRs c (by simp [n1]) ?_
       simp [z5]
       refine ⟨i, j - i, swpN L (m - i) (m + j - i) i, ⟨g1, by omega, g3, by omega, by rw [swpN_len]; exact g5, g6⟩, by omega, ?_⟩
       exact WKM hE (lk [(0, 0)])
def CmpOk (f : FuncId) (ds : List D) (dom : Etr -> Prop) (c : Etr -> Etr -> Bool) : Prop := ∀ x y, dom x -> dom y -> ∃ k : Int, (c x y = true ↔ k < 0) /\ Ct prog f (entV x :: entV y :: ds.map .d) (vi k) []
theorem fn65 {f : FuncId} {ds : List D} {dom : Etr -> Prop} {c : Etr -> Etr -> Bool} (hc : CmpOk f ds dom c) (l : List Etr) (a b : Nat) (hd : ∀ x ∈ l, dom x) (ha : a <= b) (hb : b <= l.length) (hl : l.length <= 1000000000) : Cm prog 65 [.ls 0 0 l.length 4, vi a, vi b, .d (.fn f ds)] (lk [(0, cellsI l)]) [0] (.ret (.tup [])) (lk [(0, cellsI (insF c l a b))]) := by
 refine Cm.by gok eok mixed 1 func65 c65 rfl (by simp [ntmps65]) (by simp) (HpIds.at ?_) (by simp) ?_ fun E hE hs => ?_
 . simp
 . simp [ResIds]
 have z1 : IntKind.wrap .i64 ((a : Int) + 1) = (a : Int) + 1 := wrap64 (by omega) (by omega)
 simp [p65, z1]
 refine pw_loop (α := Nat) (fun i => ⟨slots [(0, .ls 0 0 l.length 4), (1, vi a), (2, vi b), (3, .d (.fn f ds)), (8, vi ((a : Int) + 1 + i))], lk [(0, cellsI (insN c a l i))], 1⟩) (fun i => i <= b - a - 1) (fun i => b - i) 0 ?_ ?_ ?_
 . simp
 . refine Weak.mkM hE (lk [(0, 0)]) _ _ _ ?_ ?_ ?_ ?_ ?_ ?_ <;> simp [insN]
 . intro i hi
   simp [p65l1]
   by_cases h : a + 1 + i < b
   . have h' : (a : Int) + 1 + i < b := by omega
     have hlen := insN_len c a l i
     have hdo := insN_all (p := dom) c a hd i
     have hT : insN c a l (i + 1) = sift c a (a + (i + 1)) (insN c a l i) := rfl
     obtain ⟨L, hL⟩ : ∃ L, insN c a l i = L := ⟨_, rfl⟩
     rw [hL] at hlen hdo hT ⊢
     obtain ⟨T, hT'⟩ : ∃ T, insN c a l (i + 1) = T := ⟨_, rfl⟩
     rw [hT'] at hT
     simp [h']
     refine pw_loopC (α := Nat × List Etr) 2 (fun _ : Unit => ⟨slots [(0, .ls 0 0 l.length 4), (1, vi a), (2, vi b), (3, .d (.fn f ds)), (8, vi ((a : Int) + 1 + i))], lk [(0, cellsI T)], 1⟩) (fun _ => True)
       (fun y => ⟨slots [(0, .ls 0 0 l.length 4), (1, vi a), (2, vi b), (3, .d (.fn f ds)), (8, vi ((a : Int) + 1 + i)), (9, vi y.1)], lk [(0, cellsI y.2)], 1⟩)
       (fun y => a <= y.1 /\ y.1 < b /\ y.2.length = l.length /\ (∀ x ∈ y.2, dom x) /\ sift c a y.1 y.2 = T) (fun y => y.1) (a + (i + 1), L) ?_ ?_ ?_ fun _ hc => ?_
     . exact ⟨by simp only; omega, by simp only; omega, hlen, hdo, hT.symm⟩
     . refine Weak.mkM hE (lk [(0, 0)]) _ _ _ ?_ ?_ ?_ ?_ ?_ ?_ <;> simp
       omega
     . rintro ⟨j, M⟩ ⟨g1, g2, g3, g4, g5⟩
       simp only at g1 g2 g3 g4 g5
       simp [p65l0]
       by_cases hj : a < j
       . obtain ⟨k, hk⟩ : ∃ k, j = k + 1 := ⟨j - 1, by omega⟩
         obtain ⟨u, hu⟩ : ∃ u, M[j]? = some u := ⟨_, List.getElem?_eq_getElem (by omega)⟩
         obtain ⟨v, hv⟩ : ∃ v, M[k]? = some v := ⟨_, List.getElem?_eq_getElem (by omega)⟩
         have cu := cells_at hu
         have cv := cells_at hv
         have z2 : IntKind.wrap .i64 ((j : Int) - 1) = (k : Int) := by rw [wrap64 (by omega) (by omega)]; omega
         obtain ⟨r, hr, hcr⟩ := hc u v (g4 u (List.mem_of_getElem? hu)) (g4 v (List.mem_of_getElem? hv))
         have i1 : j < l.length := by omega
         have i2 : k < l.length := by omega
         have q1 : j * 4 + 4 <= l.length * 4 := by omega
         have q2 : k * 4 + 4 <= l.length * 4 := by omega
         have hdl := spD_len M
         rw [g3] at hdl
         have g6 : (if a < j /\ c u v = true then sift c a k (sw M j k) else M) = T := by
           rw [<- g5, hk, sift, <- hk, lessAt_eq hu hv]
         simp [inC, Nat.testBit, hj, i1, i2, q1, q2, cu, cv, z2, hdl]
         refine CLa hcr ?_
         by_cases hr0 : r < 0
         . rw [if_pos ⟨hj, hr.2 hr0⟩] at g6
           have s0 := sw_eq hu hv
           have s1 := cells_set (l := M) (i := j) v (by omega)
           have s2 := cells_set (l := M.set j v) (i := k) u (by rw [List.length_set]; omega)
           rw [<- s0] at s2
           have hdl2 := spD_len (M.set j v)
           rw [List.length_set, g3] at hdl2
           simp [hr0]
           refine pw_drawW [(15, 0)] (by kernel_rfl) ?_
           simp [inC, Nat.testBit, i1, i2, q1, q2, cu, cv, s1, s2, z2, hdl, hdl2]
           refine ⟨k, sw M j k, ⟨by omega, by omega, by rw [sw_len]; exact g3, fun p h => sw_all g4 _ _ p h, g6⟩, by omega, ?_⟩
           exact WKM hE (lk [(0, 0)])
         . rw [if_neg (fun e => hr0 (hr.1 e.2))] at g6
           simp [hr0]
           refine Weak.mkM hE (lk [(0, 0)]) _ _ _ ?_ ?_ ?_ ?_ ?_ ?_ <;> simp [g6]
       . have g6 : M = T := by
           rw [<- g5]
           cases j with
           | zero => rfl
           | succ k => rw [sift, if_neg (fun e => hj e.1)]
         simp [hj]
         refine Weak.mkM hE (lk [(0, 0)]) _ _ _ ?_ ?_ ?_ ?_ ?_ ?_ <;> simp [g6]
     . have z3 : IntKind.wrap .i64 ((a : Int) + 1 + i + 1) = (a : Int) + 1 + ((i + 1 : Nat) : Int) := by rw [wrap64 (by omega) (by omega)]; omega
       simp [z3]
       refine ⟨i + 1, by omega, by omega, ?_⟩
       refine Weak.mkM hE (lk [(0, 0)]) _ _ _ ?_ ?_ ?_ ?_ ?_ ?_ <;> simp [hT']
   . have : i = b - a - 1 := by omega
     subst this
     have h' : ¬ (a : Int) + 1 + ((b - a - 1 : Nat) : Int) < b := by omega
     simp [h']
     refine RetOk.by (lk [(0, 0)]) ?_
     simp [results65, insF]
theorem sym1 {f : FuncId} {ds : List D} {dom : Etr -> Prop} {c : Etr -> Etr -> Bool} (hc : CmpOk f ds dom c) (l : List Etr) (a m b : Nat) (hd : ∀ x ∈ l, dom x) (ha : m - a = 1) (hm : m < b) (hb : b <= l.length) (hl : l.length <= 1000000000) : Cm prog 66 [.ls 0 0 l.length 4, vi a, vi m, vi b, .d (.fn f ds)] (lk [(0, cellsI l)]) [0] (.ret (.tup [])) (lk [(0, cellsI (movR l a (srch (fun h => lessAt c l h a) m b - 1 - a)))]) := by
 refine Cm.by gok eok mixed 1 func66 c66 rfl (by simp [ntmps66]) (by simp) (HpIds.at ?_) (by simp) ?_ fun E hE hs => ?_
 . simp
 . simp [ResIds]
 have z1 : IntKind.wrap .i64 ((m : Int) - a) = 1 := by rw [wrap64 (by omega) (by omega)]; omega
 simp [p66, z1]
 obtain ⟨R, hR⟩ : ∃ R, srch (fun h => lessAt c l h a) m b = R := ⟨_, rfl⟩
 have hsp := srch_spec (fun h => lessAt c l h a) (i := m) (j := b) (by omega)
 rw [hR] at hsp ⊢
 have hdl := spD_len l
 obtain ⟨u, hu⟩ : ∃ u, l[a]? = some u := ⟨_, List.getElem?_eq_getElem (by omega)⟩
 have cu := cells_at hu
 have i1 : a < l.length := by omega
 have q1 : a * 4 + 4 <= l.length * 4 := by omega
 refine pw_loopC (α := Nat × Nat) 0 (fun _ : Unit => ⟨slots [(0, .ls 0 0 l.length 4), (1, vi a), (10, vi R)], lk [(0, cellsI l)], 1⟩) (fun _ => True)
   (fun y => ⟨slots [(0, .ls 0 0 l.length 4), (1, vi a), (2, vi m), (3, vi b), (4, .d (.fn f ds)), (10, vi y.1), (11, vi y.2)], lk [(0, cellsI l)], 1⟩)
   (fun y => m <= y.1 /\ y.1 <= y.2 /\ y.2 <= b /\ srch (fun h => lessAt c l h a) y.1 y.2 = R) (fun y => y.2 - y.1) (m, b) ?_ ?_ ?_ fun _ _ => ?_
 . exact ⟨Nat.le_refl _, by simp only; omega, Nat.le_refl _, hR⟩
 . exact WKM hE (lk [(0, 0)])
 . rintro ⟨i, j⟩ ⟨g1, g2, g3, g4⟩
   simp only at g1 g2 g3 g4
   simp [p66l0]
   by_cases h : i < j
   . rw [srch_step _ h] at g4
     obtain ⟨k, hk⟩ : ∃ k : Nat, k = (i + j) / 2 := ⟨_, rfl⟩
     rw [<- hk] at g4
     have e1 : IntKind.wrap .i64 ((i : Int) + j) = (i : Int) + j := wrap64 (by omega) (by omega)
     have e2 : IntKind.wrap .u64 ((i : Int) + j) = (i : Int) + j := wrapu64 (by omega) (by omega)
     have e3 : IntKind.wrap .i64 (((i : Int) + j) / 2) = (k : Int) := by rw [wrap64 (by omega) (by omega)]; omega
     have e4 : IntKind.wrap .i64 ((k : Int) + 1) = ((k + 1 : Nat) : Int) := by rw [wrap64 (by omega) (by omega)]; rfl
     simp only [Int.natCast_add, Int.cast_ofNat_Int] at e4
     obtain ⟨v, hv⟩ : ∃ v, l[k]? = some v := ⟨_, List.getElem?_eq_getElem (by omega)⟩
     have cv := cells_at hv
     have i2 : k < l.length := by omega
     have q2 : k * 4 + 4 <= l.length * 4 := by omega
     obtain ⟨r, hr, hcr⟩ := hc v u (hd v (List.mem_of_getElem? hv)) (hd u (List.mem_of_getElem? hu))
     rw [lessAt_eq hv hu] at g4
     simp [h, e1, e2, e3, inC, Nat.testBit, i1, i2, q1, q2, cu, cv, hdl]
     refine CLa hcr ?_
     by_cases hr0 : r < 0
     . rw [if_pos (hr.2 hr0)] at g4
       simp [hr0, e4]
       refine ⟨k + 1, j, ⟨by omega, by omega, by omega, g4⟩, by omega, ?_⟩
       exact WKM hE (lk [(0, 0)])
     . rw [if_neg (fun e => hr0 (hr.1 e))] at g4
       simp [hr0]
       refine ⟨i, k, ⟨by omega, by omega, by omega, g4⟩, by omega, ?_⟩
       exact WKM hE (lk [(0, 0)])
   . rw [srch_end _ h] at g4
     subst g4
     simp [h]
     exact WKM hE (lk [(0, 0)])
 . obtain ⟨T, hT⟩ : ∃ T, movR l a (R - 1 - a) = T := ⟨_, rfl⟩
   rw [hT]
   have z2 : IntKind.wrap .i64 ((R : Int) - 1) = ((R - 1 : Nat) : Int) := by rw [wrap64 (by omega) (by omega)]; omega
   simp
   refine pw_loop (α := Nat × List Etr) (fun y => ⟨slots [(0, .ls 0 0 l.length 4), (10, vi R), (13, vi y.1)], lk [(0, cellsI y.2)], 1⟩) (fun y => a <= y.1 /\ y.1 <= R - 1 /\ y.2.length = l.length /\ movR y.2 y.1 (R - 1 - y.1) = T) (fun y => R - 1 - y.1) (a, l) ?_ ?_ ?_
   . exact ⟨Nat.le_refl _, by simp only; omega, rfl, hT⟩
   . exact WKM hE (lk [(0, 0)])
   . rintro ⟨k, M⟩ ⟨g1, g2, g3, g4⟩
     simp only at g1 g2 g3 g4
     simp [p66l1, z2]
     by_cases h : k < R - 1
     . obtain ⟨k1, hk1⟩ : ∃ k1, k1 = k + 1 := ⟨_, rfl⟩
       rw [show R - 1 - k = (R - 1 - k1) + 1 by omega, movR, <- hk1] at g4
       obtain ⟨u, hu⟩ : ∃ u, M[k]? = some u := ⟨_, List.getElem?_eq_getElem (by omega)⟩
       obtain ⟨v, hv⟩ : ∃ v, M[k1]? = some v := ⟨_, List.getElem?_eq_getElem (by omega)⟩
       have cu := cells_at hu
       have cv := cells_at hv
       have s0 := sw_eq hu hv
       have s1 := cells_set (l := M) (i := k) v (by omega)
       have s2 := cells_set (l := M.set k v) (i := k1) u (by rw [List.length_set]; omega)
       rw [<- s0] at s2
       have hdl := spD_len M
       have hdl2 := spD_len (M.set k v)
       rw [List.length_set, g3] at hdl2
       rw [g3] at hdl
       have i1 : k < l.length := by omega
       have i2 : k1 < l.length := by omega
       have q1 : k * 4 + 4 <= l.length * 4 := by omega
       have q2 : k1 * 4 + 4 <= l.length * 4 := by omega
       have z3 : IntKind.wrap .i64 ((k : Int) + 1) = (k1 : Int) := by rw [wrap64 (by omega) (by omega)]; omega
       simp [h]
       refine pw_drawW [(15, 0)] (by kernel_rfl) ?_
       simp [inC, Nat.testBit, i1, i2, q1, q2, cu, cv, s1, s2, z3, hdl, hdl2]
       refine ⟨k1, sw M k k1, ⟨by omega, by omega, by rw [sw_len]; exact g3, g4⟩, by omega, ?_⟩
       exact WKM hE (lk [(0, 0)])
     . have : R - 1 - k = 0 := by omega
       rw [this, movR] at g4
       subst g4
       simp [h]
       refine RetOk.by (lk [(0, 0)]) ?_
       simp [results66]
theorem sym2 {f : FuncId} {ds : List D} {dom : Etr -> Prop} {c : Etr -> Etr -> Bool} (hc : CmpOk f ds dom c) (l : List Etr) (a m b : Nat) (hd : ∀ x ∈ l, dom x) (ha : 2 <= m - a) (hm : b - m = 1) (hb : b <= l.length) (hl : l.length <= 1000000000) : Cm prog 66 [.ls 0 0 l.length 4, vi a, vi m, vi b, .d (.fn f ds)] (lk [(0, cellsI l)]) [0] (.ret (.tup [])) (lk [(0, cellsI (movL l m (m - srch (fun h => !lessAt c l m h) a m)))]) := by
 refine Cm.by gok eok mixed 1 func66 c66 rfl (by simp [ntmps66]) (by simp) (HpIds.at ?_) (by simp) ?_ fun E hE hs => ?_
 . simp
 . simp [ResIds]
 have z1 : IntKind.wrap .i64 ((m : Int) - a) = (m : Int) - a := by rw [wrap64 (by omega) (by omega)]
 have z1' : IntKind.wrap .i64 ((b : Int) - m) = 1 := by rw [wrap64 (by omega) (by omega)]; omega
 have z1n : ¬ (m : Int) - a = 1 := by omega
 simp [p66, z1, z1', z1n]
 obtain ⟨R, hR⟩ : ∃ R, srch (fun h => !lessAt c l m h) a m = R := ⟨_, rfl⟩
 have hsp := srch_spec (fun h => !lessAt c l m h) (i := a) (j := m) (by omega)
 rw [hR] at hsp ⊢
 have hdl := spD_len l
 obtain ⟨u, hu⟩ : ∃ u, l[m]? = some u := ⟨_, List.getElem?_eq_getElem (by omega)⟩
 have cu := cells_at hu
 have i1 : m < l.length := by omega
 have q1 : m * 4 + 4 <= l.length * 4 := by omega
 refine pw_loopC (α := Nat × Nat) 4 (fun _ : Unit => ⟨slots [(0, .ls 0 0 l.length 4), (2, vi m), (14, vi R)], lk [(0, cellsI l)], 1⟩) (fun _ => True)
   (fun y => ⟨slots [(0, .ls 0 0 l.length 4), (1, vi a), (2, vi m), (3, vi b), (4, .d (.fn f ds)), (14, vi y.1), (15, vi y.2)], lk [(0, cellsI l)], 1⟩)
   (fun y => a <= y.1 /\ y.1 <= y.2 /\ y.2 <= m /\ srch (fun h => !lessAt c l m h) y.1 y.2 = R) (fun y => y.2 - y.1) (a, m) ?_ ?_ ?_ fun _ _ => ?_
 . exact ⟨Nat.le_refl _, by simp only; omega, Nat.le_refl _, hR⟩
 . exact WKM hE (lk [(0, 0)])
 . rintro ⟨i, j⟩ ⟨g1, g2, g3, g4⟩
   simp only at g1 g2 g3 g4
   simp [p66l2]
   by_cases h : i < j
   . rw [srch_step _ h] at g4
     obtain ⟨k, hk⟩ : ∃ k : Nat, k = (i + j) / 2 := ⟨_, rfl⟩
     rw [<- hk] at g4
     have e1 : IntKind.wrap .i64 ((i : Int) + j) = (i : Int) + j := wrap64 (by omega) (by omega)
     have e2 : IntKind.wrap .u64 ((i : Int) + j) = (i : Int) + j := wrapu64 (by omega) (by omega)
     have e3 : IntKind.wrap .i64 (((i : Int) + j) / 2) = (k : Int) := by rw [wrap64 (by omega) (by omega)]; omega
     have e4 : IntKind.wrap .i64 ((k : Int) + 1) = ((k + 1 : Nat) : Int) := by rw [wrap64 (by omega) (by omega)]; rfl
     simp only [Int.natCast_add, Int.cast_ofNat_Int] at e4
     obtain ⟨v, hv⟩ : ∃ v, l[k]? = some v := ⟨_, List.getElem?_eq_getElem (by omega)⟩
     have cv := cells_at hv
     have i2 : k < l.length := by omega
     have q2 : k * 4 + 4 <= l.length * 4 := by omega
     obtain ⟨r, hr, hcr⟩ := hc u v (hd u (List.mem_of_getElem? hu)) (hd v (List.mem_of_getElem? hv))
     rw [lessAt_eq hu hv] at g4
     simp [h, e1, e2, e3, inC, Nat.testBit, i1, i2, q1, q2, cu, cv, hdl]
     refine CLa hcr ?_
     by_cases hr0 : r < 0
     . rw [hr.2 hr0] at g4
       simp only [Bool.not_true, Bool.false_eq_true, if_false] at g4
       simp [hr0]
       refine ⟨i, k, ⟨by omega, by omega, by omega, g4⟩, by omega, ?_⟩
       exact WKM hE (lk [(0, 0)])
     . rw [show c u v = false by cases e : c u v with | false => rfl | true => exact absurd (hr.1 e) hr0] at g4
       simp only [Bool.not_false, if_true] at g4
       simp [hr0, e4]
       refine ⟨k + 1, j, ⟨by omega, by omega, by omega, g4⟩, by omega, ?_⟩
       exact WKM hE (lk [(0, 0)])
   . rw [srch_end _ h] at g4
     subst g4
     simp [h]
     exact WKM hE (lk [(0, 0)])
 . obtain ⟨T, hT⟩ : ∃ T, movL l m (m - R) = T := ⟨_, rfl⟩
   rw [hT]
   simp
   refine pw_loop (α := Nat × List Etr) (fun y => ⟨slots [(0, .ls 0 0 l.length 4), (14, vi R), (17, vi y.1)], lk [(0, cellsI y.2)], 1⟩) (fun y => R <= y.1 /\ y.1 <= m /\ y.2.length = l.length /\ movL y.2 y.1 (y.1 - R) = T) (fun y => y.1) (m, l) ?_ ?_ ?_
   . exact ⟨by simp only; omega, Nat.le_refl _, rfl, hT⟩
   . exact WKM hE (lk [(0, 0)])
   . rintro ⟨k, M⟩ ⟨g1, g2, g3, g4⟩
     simp only at g1 g2 g3 g4
     simp [p66l3]
     by_cases h : R < k
     . obtain ⟨k1, hk1⟩ : ∃ k1, k1 = k - 1 := ⟨_, rfl⟩
       rw [show k - R = (k1 - R) + 1 by omega, movL, <- hk1] at g4
       obtain ⟨u, hu⟩ : ∃ u, M[k]? = some u := ⟨_, List.getElem?_eq_getElem (by omega)⟩
       obtain ⟨v, hv⟩ : ∃ v, M[k1]? = some v := ⟨_, List.getElem?_eq_getElem (by omega)⟩
       have cu := cells_at hu
       have cv := cells_at hv
       have s0 := sw_eq hu hv
       have s1 := cells_set (l := M) (i := k) v (by omega)
       have s2 := cells_set (l := M.set k v) (i := k1) u (by rw [List.length_set]; omega)
       rw [<- s0] at s2
       have hdl := spD_len M
       have hdl2 := spD_len (M.set k v)
       rw [List.length_set, g3] at hdl2
       rw [g3] at hdl
       have i1 : k < l.length := by omega
       have i2 : k1 < l.length := by omega
       have q1 : k * 4 + 4 <= l.length * 4 := by omega
       have q2 : k1 * 4 + 4 <= l.length * 4 := by omega
       have z3 : IntKind.wrap .i64 ((k : Int) - 1) = (k1 : Int) := by rw [wrap64 (by omega) (by omega)]; omega
       simp [h]
       refine pw_drawW [(15, 0)] (by kernel_rfl) ?_
       simp [inC, Nat.testBit, i1, i2, q1, q2, cu, cv, s1, s2, z3, hdl, hdl2]
       refine ⟨k1, sw M k k1, ⟨by omega, by omega, by rw [sw_len]; exact g3, g4⟩, by omega, ?_⟩
       exact WKM hE (lk [(0, 0)])
     . have : k - R = 0 := by omega
       rw [this, movL] at g4
       subst g4
       simp [h]
       refine RetOk.by (lk [(0, 0)]) ?_
       simp [results66]
def symT3 : PC := (.seq (.reg [⟨some 206, .move (.tmp 18), none⟩, ⟨some 207, .move (.tmp 24), none⟩, ⟨some 208, .binOp .lss 3 (.tmp 206) (.tmp 207) 3, none⟩, ⟨some 209, .move (.tmp 208), none⟩, ⟨some 210, .move (.tmp 24), some ((some 209), true)⟩, ⟨some 211, .move (.tmp 3), some ((some 209), true)⟩, ⟨some 212, .binOp .lss 3 (.tmp 210) (.tmp 211) 3, some ((some 209), true)⟩, ⟨some 213, .pick (.tmp 209) (.tmp 212) (.const (.bool false)), none⟩]) (.cond (.tmp 213) (.reg [⟨some 214, .move (.tmp 0), none⟩, ⟨some 215, .move (.tmp 18), none⟩, ⟨some 216, .move (.tmp 24), none⟩, ⟨some 217, .move (.tmp 3), none⟩, ⟨some 218, .move (.tmp 4), none⟩, ⟨some 219, .call ⟨.value (.func 66), #[(.tmp 214), (.tmp 215), (.tmp 216), (.tmp 217), (.tmp 218)], #[22, 3, 3, 3, 43]⟩, none⟩]) .skip))
def symT2 : PC := .seq (.seq (.reg [⟨some 192, .move (.tmp 1), none⟩, ⟨some 193, .move (.tmp 20), none⟩, ⟨some 194, .binOp .lss 3 (.tmp 192) (.tmp 193) 3, none⟩, ⟨some 195, .move (.tmp 194), none⟩, ⟨some 196, .move (.tmp 20), some ((some 195), true)⟩, ⟨some 197, .move (.tmp 18), some ((some 195), true)⟩, ⟨some 198, .binOp .lss 3 (.tmp 196) (.tmp 197) 3, some ((some 195), true)⟩, ⟨some 199, .pick (.tmp 195) (.tmp 198) (.const (.bool false)), none⟩]) (.cond (.tmp 199) (.reg [⟨some 200, .move (.tmp 0), none⟩, ⟨some 201, .move (.tmp 1), none⟩, ⟨some 202, .move (.tmp 20), none⟩, ⟨some 203, .move (.tmp 18), none⟩, ⟨some 204, .move (.tmp 4), none⟩, ⟨some 205, .call ⟨.value (.func 66), #[(.tmp 200), (.tmp 201), (.tmp 202), (.tmp 203), (.tmp 204)], #[22, 3, 3, 3, 43]⟩, none⟩]) .skip)) symT3
def symT1 : PC := .seq (.seq (.reg [⟨some 178, .move (.tmp 20), none⟩, ⟨some 179, .move (.tmp 2), none⟩, ⟨some 180, .binOp .lss 3 (.tmp 178) (.tmp 179) 3, none⟩, ⟨some 181, .move (.tmp 180), none⟩, ⟨some 182, .move (.tmp 2), some ((some 181), true)⟩, ⟨some 183, .move (.tmp 24), some ((some 181), true)⟩, ⟨some 184, .binOp .lss 3 (.tmp 182) (.tmp 183) 3, some ((some 181), true)⟩, ⟨some 185, .pick (.tmp 181) (.tmp 184) (.const (.bool false)), none⟩]) (.cond (.tmp 185) (.reg [⟨some 186, .move (.tmp 0), none⟩, ⟨some 187, .move (.tmp 20), none⟩, ⟨some 188, .move (.tmp 2), none⟩, ⟨some 189, .move (.tmp 24), none⟩, ⟨some 190, .move (.tmp 4), none⟩, ⟨some 191, .call ⟨.value (.func 73), #[(.tmp 186), (.tmp 187), (.tmp 188), (.tmp 189), (.tmp 190)], #[22, 3, 3, 3, 43]⟩, none⟩]) .skip)) symT2
def symT0 : PC := .seq (.reg [⟨some 175, .move (.tmp 19), none⟩, ⟨some 176, .move (.tmp 20), none⟩, ⟨some 177, .binOp .sub 3 (.tmp 175) (.tmp 176) 3, none⟩, ⟨some 24, .assign (.tmp 177), none⟩]) symT1
theorem sym_t3_20 {f : FuncId} {ds : List D} {D2 D3 : List Etr} {a m b s mid e N : Nat} {g : Nat -> V} (f0 : g 0 = .ls 0 0 N 4) (_ : g 1 = vi a) (_ : g 2 = vi m) (f3 : g 3 = vi b) (f4 : g 4 = .d (.fn f ds)) (f18 : g 18 = vi mid) (_ : g 20 = vi s) (f24 : g 24 = vi e) {H : Hp} (h0 : H 0 = some (cellsI D2)) {E : Ent} (_ : ∀ i, E.stab i ↔ i ∈ [0]) (_ : E.nt = f66.ntmps /\ E.rq) (n2 : spD D2 ≠ [])
   (c3 : mid < e -> e < b -> Cm prog 66 [.ls 0 0 N 4, vi mid, vi e, vi b, .d (.fn f ds)] (lk [(0, cellsI D2)]) [0] (.ret (.tup [])) (lk [(0, cellsI D3)])) (k3 : ¬ (mid < e /\ e < b) -> D3 = D2) :
   PW prog tys eqs E symT3 (retM tys f66 [0] (.ret (.tup [])) [(0, cellsI D3)]) ⟨g, H, 20971521⟩ := by
 by_cases x1 : mid < e
 . by_cases x2 : e < b
   . simp [symT3, f0, f3, f4, f18, f24, x1, x2]
     have q := c3 x1 x2
     refine CRs q (by simp [n2, h0]) ?_
     simp
     refine RetOk.by (lk [(0, 0)]) ?_
     simp [results66]
   . have k := k3 (fun h => x2 h.2)
     subst k
     simp [symT3, f3, f18, f24, x1, x2]
     refine RetOk.by (lk [(0, 0)]) ?_
     simp [results66, h0]
 . have k := k3 (fun h => x1 h.1)
   subst k
   simp [symT3, f18, f24, x1]
   refine RetOk.by (lk [(0, 0)]) ?_
   simp [results66, h0]
theorem sym_t3_26 {f : FuncId} {ds : List D} {D2 D3 : List Etr} {a m b s mid e N : Nat} {g : Nat -> V} (f0 : g 0 = .ls 0 0 N 4) (_ : g 1 = vi a) (_ : g 2 = vi m) (f3 : g 3 = vi b) (f4 : g 4 = .d (.fn f ds)) (f18 : g 18 = vi mid) (_ : g 20 = vi s) (f24 : g 24 = vi e) {H : Hp} (h0 : H 0 = some (cellsI D2)) {E : Ent} (_ : ∀ i, E.stab i ↔ i ∈ [0]) (_ : E.nt = f66.ntmps /\ E.rq) (n2 : spD D2 ≠ [])
   (c3 : mid < e -> e < b -> Cm prog 66 [.ls 0 0 N 4, vi mid, vi e, vi b, .d (.fn f ds)] (lk [(0, cellsI D2)]) [0] (.ret (.tup [])) (lk [(0, cellsI D3)])) (k3 : ¬ (mid < e /\ e < b) -> D3 = D2) :
   PW prog tys eqs E symT3 (retM tys f66 [0] (.ret (.tup [])) [(0, cellsI D3)]) ⟨g, H, 27262977⟩ := by
 by_cases x1 : mid < e
 . by_cases x2 : e < b
   . simp [symT3, f0, f3, f4, f18, f24, x1, x2]
     have q := c3 x1 x2
     refine CRs q (by simp [n2, h0]) ?_
     simp
     refine RetOk.by (lk [(0, 0)]) ?_
     simp [results66]
   . have k := k3 (fun h => x2 h.2)
     subst k
     simp [symT3, f3, f18, f24, x1, x2]
     refine RetOk.by (lk [(0, 0)]) ?_
     simp [results66, h0]
 . have k := k3 (fun h => x1 h.1)
   subst k
   simp [symT3, f18, f24, x1]
   refine RetOk.by (lk [(0, 0)]) ?_
   simp [results66, h0]
theorem sym_t3_32 {f : FuncId} {ds : List D} {D2 D3 : List Etr} {a m b s mid e N : Nat} {g : Nat -> V} (f0 : g 0 = .ls 0 0 N 4) (_ : g 1 = vi a) (_ : g 2 = vi m) (f3 : g 3 = vi b) (f4 : g 4 = .d (.fn f ds)) (f18 : g 18 = vi mid) (_ : g 20 = vi s) (f24 : g 24 = vi e) {H : Hp} (h0 : H 0 = some (cellsI D2)) {E : Ent} (_ : ∀ i, E.stab i ↔ i ∈ [0]) (_ : E.nt = f66.ntmps /\ E.rq) (n2 : spD D2 ≠ [])
   (c3 : mid < e -> e < b -> Cm prog 66 [.ls 0 0 N 4, vi mid, vi e, vi b, .d (.fn f ds)] (lk [(0, cellsI D2)]) [0] (.ret (.tup [])) (lk [(0, cellsI D3)])) (k3 : ¬ (mid < e /\ e < b) -> D3 = D2) :
   PW prog tys eqs E symT3 (retM tys f66 [0] (.ret (.tup [])) [(0, cellsI D3)]) ⟨g, H, 33554433⟩ := by
 by_cases x1 : mid < e
 . by_cases x2 : e < b
   . simp [symT3, f0, f3, f4, f18, f24, x1, x2]
     have q := c3 x1 x2
     refine CRs q (by simp [n2, h0]) ?_
     simp
     refine RetOk.by (lk [(0, 0)]) ?_
     simp [results66]
   . have k := k3 (fun h => x2 h.2)
     subst k
     simp [symT3, f3, f18, f24, x1, x2]
     refine RetOk.by (lk [(0, 0)]) ?_
     simp [results66, h0]
 . have k := k3 (fun h => x1 h.1)
   subst k
   simp [symT3, f18, f24, x1]
   refine RetOk.by (lk [(0, 0)]) ?_
   simp [results66, h0]
theorem sym_t2_12 {f : FuncId} {ds : List D} {D1 D2 D3 : List Etr} {a m b s mid e N : Nat} {g : Nat -> V} (f0 : g 0 = .ls 0 0 N 4) (f1 : g 1 = vi a) (f2 : g 2 = vi m) (f3 : g 3 = vi b) (f4 : g 4 = .d (.fn f ds)) (f18 : g 18 = vi mid) (f20 : g 20 = vi s) (f24 : g 24 = vi e) {H : Hp} (h0 : H 0 = some (cellsI D1)) {E : Ent} (hE : ∀ i, E.stab i ↔ i ∈ [0]) (hs : E.nt = f66.ntmps /\ E.rq) (n1 : spD D1 ≠ []) (n2 : spD D2 ≠ [])
   (c2 : a < s -> s < mid -> Cm prog 66 [.ls 0 0 N 4, vi a, vi s, vi mid, .d (.fn f ds)] (lk [(0, cellsI D1)]) [0] (.ret (.tup [])) (lk [(0, cellsI D2)])) (k2 : ¬ (a < s /\ s < mid) -> D2 = D1)
   (c3 : mid < e -> e < b -> Cm prog 66 [.ls 0 0 N 4, vi mid, vi e, vi b, .d (.fn f ds)] (lk [(0, cellsI D2)]) [0] (.ret (.tup [])) (lk [(0, cellsI D3)])) (k3 : ¬ (mid < e /\ e < b) -> D3 = D2) :
   PW prog tys eqs E symT2 (retM tys f66 [0] (.ret (.tup [])) [(0, cellsI D3)]) ⟨g, H, 12582913⟩ := by
 by_cases x1 : a < s
 . by_cases x2 : s < mid
   . simp [symT2, f0, f1, f4, f18, f20, x1, x2]
     have q := c2 x1 x2
     refine CRs q (by simp [n1, h0]) ?_
     simp
     refine sym_t3_26 (a := a) (m := m) (s := s) ?_ ?_ ?_ ?_ ?_ ?_ ?_ ?_ ?_ hE hs n2 c3 k3 <;> simp [f0, f1, f2, f3, f4, f18, f20, f24]
   . have k := k2 (fun h => x2 h.2)
     subst k
     simp [symT2, f1, f18, f20, x1, x2]
     refine sym_t3_20 (a := a) (m := m) (s := s) ?_ ?_ ?_ ?_ ?_ ?_ ?_ ?_ ?_ hE hs n2 c3 k3 <;> simp [f0, f1, f2, f3, f4, f18, f20, f24, h0]
 . have k := k2 (fun h => x1 h.1)
   subst k
   simp [symT2, f1, f20, x1]
   refine sym_t3_20 (a := a) (m := m) (s := s) ?_ ?_ ?_ ?_ ?_ ?_ ?_ ?_ ?_ hE hs n2 c3 k3 <;> simp [f0, f1, f2, f3, f4, f18, f20, f24, h0]
theorem sym_t2_18 {f : FuncId} {ds : List D} {D1 D2 D3 : List Etr} {a m b s mid e N : Nat} {g : Nat -> V} (f0 : g 0 = .ls 0 0 N 4) (f1 : g 1 = vi a) (f2 : g 2 = vi m) (f3 : g 3 = vi b) (f4 : g 4 = .d (.fn f ds)) (f18 : g 18 = vi mid) (f20 : g 20 = vi s) (f24 : g 24 = vi e) {H : Hp} (h0 : H 0 = some (cellsI D1)) {E : Ent} (hE : ∀ i, E.stab i ↔ i ∈ [0]) (hs : E.nt = f66.ntmps /\ E.rq) (n1 : spD D1 ≠ []) (n2 : spD D2 ≠ [])
   (c2 : a < s -> s < mid -> Cm prog 66 [.ls 0 0 N 4, vi a, vi s, vi mid, .d (.fn f ds)] (lk [(0, cellsI D1)]) [0] (.ret (.tup [])) (lk [(0, cellsI D2)])) (k2 : ¬ (a < s /\ s < mid) -> D2 = D1)
   (c3 : mid < e -> e < b -> Cm prog 66 [.ls 0 0 N 4, vi mid, vi e, vi b, .d (.fn f ds)] (lk [(0, cellsI D2)]) [0] (.ret (.tup [])) (lk [(0, cellsI D3)])) (k3 : ¬ (mid < e /\ e < b) -> D3 = D2) :
   PW prog tys eqs E symT2 (retM tys f66 [0] (.ret (.tup [])) [(0, cellsI D3)]) ⟨g, H, 18874369⟩ := by
 by_cases x1 : a < s
 . by_cases x2 : s < mid
   . simp [symT2, f0, f1, f4, f18, f20, x1, x2]
     have q := c2 x1 x2
     refine CRs q (by simp [n1, h0]) ?_
     simp
     refine sym_t3_32 (a := a) (m := m) (s := s) ?_ ?_ ?_ ?_ ?_ ?_ ?_ ?_ ?_ hE hs n2 c3 k3 <;> simp [f0, f1, f2, f3, f4, f18, f20, f24]
   . have k := k2 (fun h => x2 h.2)
     subst k
     simp [symT2, f1, f18, f20, x1, x2]
     refine sym_t3_26 (a := a) (m := m) (s := s) ?_ ?_ ?_ ?_ ?_ ?_ ?_ ?_ ?_ hE hs n2 c3 k3 <;> simp [f0, f1, f2, f3, f4, f18, f20, f24, h0]
 . have k := k2 (fun h => x1 h.1)
   subst k
   simp [symT2, f1, f20, x1]
   refine sym_t3_26 (a := a) (m := m) (s := s) ?_ ?_ ?_ ?_ ?_ ?_ ?_ ?_ ?_ hE hs n2 c3 k3 <;> simp [f0, f1, f2, f3, f4, f18, f20, f24, h0]
theorem sym_t1_4 {f : FuncId} {ds : List D} {l D1 D2 D3 : List Etr} {a m b s mid e N : Nat} {g : Nat -> V} (f0 : g 0 = .ls 0 0 N 4) (f1 : g 1 = vi a) (f2 : g 2 = vi m) (f3 : g 3 = vi b) (f4 : g 4 = .d (.fn f ds)) (f18 : g 18 = vi mid) (f20 : g 20 = vi s) (f24 : g 24 = vi e) {H : Hp} (h0 : H 0 = some (cellsI l)) {E : Ent} (hE : ∀ i, E.stab i ↔ i ∈ [0]) (hs : E.nt = f66.ntmps /\ E.rq) (n0 : spD l ≠ []) (n1 : spD D1 ≠ []) (n2 : spD D2 ≠ [])
   (c1 : s < m -> m < e -> Cm prog 73 [.ls 0 0 N 4, vi s, vi m, vi e, .d (.fn f ds)] (lk [(0, cellsI l)]) [0] (.ret (.tup [])) (lk [(0, cellsI D1)])) (k1 : ¬ (s < m /\ m < e) -> D1 = l)
   (c2 : a < s -> s < mid -> Cm prog 66 [.ls 0 0 N 4, vi a, vi s, vi mid, .d (.fn f ds)] (lk [(0, cellsI D1)]) [0] (.ret (.tup [])) (lk [(0, cellsI D2)])) (k2 : ¬ (a < s /\ s < mid) -> D2 = D1)
   (c3 : mid < e -> e < b -> Cm prog 66 [.ls 0 0 N 4, vi mid, vi e, vi b, .d (.fn f ds)] (lk [(0, cellsI D2)]) [0] (.ret (.tup [])) (lk [(0, cellsI D3)])) (k3 : ¬ (mid < e /\ e < b) -> D3 = D2) :
   PW prog tys eqs E symT1 (retM tys f66 [0] (.ret (.tup [])) [(0, cellsI D3)]) ⟨g, H, 4194305⟩ := by
 by_cases x1 : s < m
 . by_cases x2 : m < e
   . simp [symT1, f0, f2, f4, f20, f24, x1, x2]
     have q := c1 x1 x2
     refine CRs q (by simp [n0, h0]) ?_
     simp
     refine sym_t2_18 (m := m) ?_ ?_ ?_ ?_ ?_ ?_ ?_ ?_ ?_ hE hs n1 n2 c2 k2 c3 k3 <;> simp [f0, f1, f2, f3, f4, f18, f20, f24]
   . have k := k1 (fun h => x2 h.2)
     subst k
     simp [symT1, f2, f20, f24, x1, x2]
     refine sym_t2_12 (m := m) ?_ ?_ ?_ ?_ ?_ ?_ ?_ ?_ ?_ hE hs n1 n2 c2 k2 c3 k3 <;> simp [f0, f1, f2, f3, f4, f18, f20, f24, h0]
 . have k := k1 (fun h => x1 h.1)
   subst k
   simp [symT1, f2, f20, x1]
   refine sym_t2_12 (m := m) ?_ ?_ ?_ ?_ ?_ ?_ ?_ ?_ ?_ hE hs n1 n2 c2 k2 c3 k3 <;> simp [f0, f1, f2, f3, f4, f18, f20, f24, h0]
abbrev symS (l : List Etr) (f : FuncId) (ds : List D) (a m b mid nn n' : Nat) (y : Nat × Nat) : St := ⟨slots [(0, .ls 0 0 l.length 4), (1, vi a), (2, vi m), (3, vi b), (4, .d (.fn f ds)), (18, vi mid), (19, vi nn), (20, vi y.1), (21, vi y.2), (22, vi n')], lk [(0, cellsI l)], 1⟩
abbrev symC (l : List Etr) (f : FuncId) (ds : List D) (a m b mid nn s : Nat) : St := ⟨slots [(0, .ls 0 0 l.length 4), (1, vi a), (2, vi m), (3, vi b), (4, .d (.fn f ds)), (18, vi mid), (19, vi nn), (20, vi s)], lk [(0, cellsI l)], 1⟩
abbrev symI (c : Etr -> Etr -> Bool) (l : List Etr) (lo hi n' s : Nat) (y : Nat × Nat) : Prop := lo <= y.1 /\ y.1 <= y.2 /\ y.2 <= hi /\ srch (fun x => !lessAt c l (n' - x) x) y.1 y.2 = s
theorem sym_round {f : FuncId} {ds : List D} {dom : Etr -> Prop} {c : Etr -> Etr -> Bool} (hc : CmpOk f ds dom c) (l : List Etr) (hd : ∀ x ∈ l, dom x) (hl : l.length <= 1000000000) (a m b mid nn n' lo hi s : Nat) (hn : n' < lo + l.length) (hh : hi <= l.length) (hh2 : hi <= n') {E : Ent} (hE : ∀ i, E.stab i ↔ i ∈ [0]) {Q : AExit -> St -> Prop} (x : Nat × Nat) (hx : symI c l lo hi n' s x) :
   PW prog tys eqs E p66l4 (seqQ (fun st' => ∃ y, symI c l lo hi n' s y /\ y.2 - y.1 < x.2 - x.1 /\ Weak prog E st' (symS l f ds a m b mid nn n' y)) (exC prog E Q 8 (fun _ : Unit => symC l f ds a m b mid nn s) (fun _ => True))) (symS l f ds a m b mid nn n' x) := by
 have hdl := spD_len l
 obtain ⟨i, j⟩ := x
 obtain ⟨g1, g2, g3, g4⟩ := hx
 simp only at g1 g2 g3 g4
 simp [p66l4]
 by_cases h : i < j
 . rw [srch_step _ h] at g4
   obtain ⟨k, hk⟩ : ∃ k : Nat, k = (i + j) / 2 := ⟨_, rfl⟩
   rw [<- hk] at g4
   obtain ⟨w, hw⟩ : ∃ w : Nat, n' - k = w := ⟨_, rfl⟩
   rw [hw] at g4
   have t1 : IntKind.wrap .i64 ((i : Int) + j) = (i : Int) + j := wrap64 (by omega) (by omega)
   have t2 : IntKind.wrap .u64 ((i : Int) + j) = (i : Int) + j := wrapu64 (by omega) (by omega)
   have t3 : IntKind.wrap .i64 (((i : Int) + j) / 2) = (k : Int) := by rw [wrap64 (by omega) (by omega)]; omega
   have t4 : IntKind.wrap .i64 ((k : Int) + 1) = ((k + 1 : Nat) : Int) := by rw [wrap64 (by omega) (by omega)]; rfl
   have t5 : IntKind.wrap .i64 ((n' : Int) - k) = (w : Int) := by rw [wrap64 (by omega) (by omega)]; omega
   simp only [Int.natCast_add, Int.cast_ofNat_Int] at t4
   obtain ⟨u, hu⟩ : ∃ u, l[w]? = some u := ⟨_, List.getElem?_eq_getElem (by omega)⟩
   obtain ⟨v, hv⟩ : ∃ v, l[k]? = some v := ⟨_, List.getElem?_eq_getElem (by omega)⟩
   have cu := cells_at hu
   have cv := cells_at hv
   have i1 : w < l.length := by omega
   have i2 : k < l.length := by omega
   have q1 : w * 4 + 4 <= l.length * 4 := by omega
   have q2 : k * 4 + 4 <= l.length * 4 := by omega
   obtain ⟨r, hr, hcr⟩ := hc u v (hd u (List.mem_of_getElem? hu)) (hd v (List.mem_of_getElem? hv))
   rw [lessAt_eq hu hv] at g4
   simp [h, t1, t2, t3, t5, inC, Nat.testBit, i1, i2, q1, q2, cu, cv, hdl]
   refine CLa hcr ?_
   by_cases hr0 : r < 0
   . rw [hr.2 hr0] at g4
     simp only [Bool.not_true, Bool.false_eq_true, if_false] at g4
     simp [hr0]
     refine ⟨i, k, ⟨by omega, by omega, by omega, g4⟩, by omega, ?_⟩
     exact WKM hE (lk [(0, 0)])
   . rw [show c u v = false by cases e : c u v with | false => rfl | true => exact absurd (hr.1 e) hr0] at g4
     simp only [Bool.not_false, if_true] at g4
     simp [hr0, t4]
     refine ⟨k + 1, j, ⟨by omega, by omega, by omega, g4⟩, by omega, ?_⟩
     exact WKM hE (lk [(0, 0)])
 . rw [srch_end _ h] at g4
   subst g4
   simp [h]
   exact WKM hE (lk [(0, 0)])
theorem sym_t0 {f : FuncId} {ds : List D} {l D1 D2 D3 : List Etr} {a m b s mid nn e : Nat} {E : Ent} (hE : ∀ i, E.stab i ↔ i ∈ [0]) (hs : E.nt = f66.ntmps /\ E.rq) (e6 : IntKind.wrap .i64 ((nn : Int) - s) = (e : Int)) (n0 : spD l ≠ []) (n1 : spD D1 ≠ []) (n2 : spD D2 ≠ [])
   (c1 : s < m -> m < e -> Cm prog 73 [.ls 0 0 l.length 4, vi s, vi m, vi e, .d (.fn f ds)] (lk [(0, cellsI l)]) [0] (.ret (.tup [])) (lk [(0, cellsI D1)])) (k1 : ¬ (s < m /\ m < e) -> D1 = l)
   (c2 : a < s -> s < mid -> Cm prog 66 [.ls 0 0 l.length 4, vi a, vi s, vi mid, .d (.fn f ds)] (lk [(0, cellsI D1)]) [0] (.ret (.tup [])) (lk [(0, cellsI D2)])) (k2 : ¬ (a < s /\ s < mid) -> D2 = D1)
   (c3 : mid < e -> e < b -> Cm prog 66 [.ls 0 0 l.length 4, vi mid, vi e, vi b, .d (.fn f ds)] (lk [(0, cellsI D2)]) [0] (.ret (.tup [])) (lk [(0, cellsI D3)])) (k3 : ¬ (mid < e /\ e < b) -> D3 = D2) :
   PW prog tys eqs E symT0 (retM tys f66 [0] (.ret (.tup [])) [(0, cellsI D3)]) (symC l f ds a m b mid nn s) := by
 simp [symT0, e6]
 refine sym_t1_4 ?_ ?_ ?_ ?_ ?_ ?_ ?_ ?_ ?_ hE hs n0 n1 n2 c1 k1 c2 k2 c3 k3 <;> simp
theorem sym_cut {f : FuncId} {ds : List D} {dom : Etr -> Prop} {c : Etr -> Etr -> Bool} (hc : CmpOk f ds dom c) (l D1 D2 D3 : List Etr) (a m b s mid e nn n' lo hi : Nat) (hd : ∀ x ∈ l, dom x) (hl : l.length <= 1000000000)
   (z1n : ¬ (m : Int) - a = 1) (z1m : ¬ (b : Int) - m = 1)
   (z1 : IntKind.wrap .i64 ((m : Int) - a) = (m : Int) - a) (z1' : IntKind.wrap .i64 ((b : Int) - m) = (b : Int) - m)
   (e1 : IntKind.wrap .i64 ((a : Int) + b) = (a : Int) + b) (e2 : IntKind.wrap .u64 ((a : Int) + b) = (a : Int) + b) (e3 : IntKind.wrap .i64 (((a : Int) + b) / 2) = (mid : Int))
   (e4 : IntKind.wrap .i64 ((mid : Int) + m) = (nn : Int)) (e5 : IntKind.wrap .i64 ((nn : Int) - 1) = (n' : Int)) (e6 : IntKind.wrap .i64 ((nn : Int) - s) = (e : Int))
   (hcs : (mid < m /\ IntKind.wrap .i64 ((nn : Int) - b) = (lo : Int) /\ hi = mid) \/ (¬ mid < m /\ lo = a /\ hi = m))
   (hn : n' < lo + l.length) (hh : hi <= l.length) (hh2 : hi <= n') (hlh : lo <= hi) (hsr : srch (fun x => !lessAt c l (n' - x) x) lo hi = s)
   (n0 : spD l ≠ []) (n1 : spD D1 ≠ []) (n2 : spD D2 ≠ [])
   (c1 : s < m -> m < e -> Cm prog 73 [.ls 0 0 l.length 4, vi s, vi m, vi e, .d (.fn f ds)] (lk [(0, cellsI l)]) [0] (.ret (.tup [])) (lk [(0, cellsI D1)])) (k1 : ¬ (s < m /\ m < e) -> D1 = l)
   (c2 : a < s -> s < mid -> Cm prog 66 [.ls 0 0 l.length 4, vi a, vi s, vi mid, .d (.fn f ds)] (lk [(0, cellsI D1)]) [0] (.ret (.tup [])) (lk [(0, cellsI D2)])) (k2 : ¬ (a < s /\ s < mid) -> D2 = D1)
   (c3 : mid < e -> e < b -> Cm prog 66 [.ls 0 0 l.length 4, vi mid, vi e, vi b, .d (.fn f ds)] (lk [(0, cellsI D2)]) [0] (.ret (.tup [])) (lk [(0, cellsI D3)])) (k3 : ¬ (mid < e /\ e < b) -> D3 = D2) :
   Cm prog 66 [.ls 0 0 l.length 4, vi a, vi m, vi b, .d (.fn f ds)] (lk [(0, cellsI l)]) [0] (.ret (.tup [])) (lk [(0, cellsI D3)]) := by
 refine Cm.by gok eok mixed 1 func66 c66 rfl (by simp [ntmps66]) (by simp) (HpIds.at ?_) (by simp) ?_ fun E hE hs => ?_
 . simp
 . simp [ResIds]
 rcases hcs with ⟨hmm, e8, hhi⟩ | ⟨hmm, hlo, hhi⟩
 . simp [p66, z1, z1', z1n, z1m, e1, e2, e3, e4, hmm, e8, e5]
   refine pw_loopC (α := Nat × Nat) 8 (fun _ : Unit => symC l f ds a m b mid nn s) (fun _ => True) (symS l f ds a m b mid nn n') (symI c l lo hi n' s) (fun y => y.2 - y.1) (lo, hi) ⟨Nat.le_refl _, hlh, Nat.le_refl _, hsr⟩ ?_ (sym_round hc l hd hl a m b mid nn n' lo hi s hn hh hh2 hE) fun _ _ => ?_
   . refine Weak.mkM hE (lk [(0, 0)]) _ _ _ ?_ ?_ ?_ ?_ ?_ ?_ <;> simp [hhi]
   . simp only [blkQ_exit, if_true, seqQ_normal]
     exact sym_t0 hE hs e6 n0 n1 n2 c1 k1 c2 k2 c3 k3
 . simp [p66, z1, z1', z1n, z1m, e1, e2, e3, e4, hmm, e5]
   refine pw_loopC (α := Nat × Nat) 8 (fun _ : Unit => symC l f ds a m b mid nn s) (fun _ => True) (symS l f ds a m b mid nn n') (symI c l lo hi n' s) (fun y => y.2 - y.1) (lo, hi) ⟨Nat.le_refl _, hlh, Nat.le_refl _, hsr⟩ ?_ (sym_round hc l hd hl a m b mid nn n' lo hi s hn hh hh2 hE) fun _ _ => ?_
   . refine Weak.mkM hE (lk [(0, 0)]) _ _ _ ?_ ?_ ?_ ?_ ?_ ?_ <;> simp [hlo, hhi]
   . simp only [blkQ_exit, if_true, seqQ_normal]
     exact sym_t0 hE hs e6 n0 n1 n2 c1 k1 c2 k2 c3 k3
theorem spD_ne {l : List Etr} (h : 0 < l.length) : spD l ≠ [] := by
 intro e; have := congrArg List.length e; simp at this; omega
theorem cut_nums {a m b mid nn n' lo hi : Nat} (ha : 2 <= m - a) (hm : 2 <= b - m) {N : Nat} (hb : b <= N) (hl : N <= 1000000000) (hmid : (a + b) / 2 = mid) (hnn : mid + m = nn) (hn' : nn - 1 = n')
   (hcs : (mid < m /\ lo = nn - b /\ hi = mid) \/ (¬ mid < m /\ lo = a /\ hi = m)) :
   a <= lo /\ lo <= hi /\ hi <= m /\ hi <= mid /\ nn - b <= lo /\ n' < lo + N /\ hi <= N /\ hi <= n' /\ a < mid /\ mid < b := by
 rcases hcs with ⟨h1, h2, h3⟩ | ⟨h1, h2, h3⟩ <;> subst h2 <;> subst h3 <;> omega
theorem cut_wr {a m b mid nn n' : Nat} (ha : 2 <= m - a) (hm : 2 <= b - m) {N : Nat} (hb : b <= N) (hl : N <= 1000000000) (hmid : (a + b) / 2 = mid) (hnn : mid + m = nn) (hn' : nn - 1 = n') :
   (¬ (m : Int) - a = 1) /\ (¬ (b : Int) - m = 1) /\ IntKind.wrap .i64 ((m : Int) - a) = (m : Int) - a /\ IntKind.wrap .i64 ((b : Int) - m) = (b : Int) - m /\ IntKind.wrap .i64 ((a : Int) + b) = (a : Int) + b /\ IntKind.wrap .u64 ((a : Int) + b) = (a : Int) + b /\ IntKind.wrap .i64 (((a : Int) + b) / 2) = (mid : Int) /\ IntKind.wrap .i64 ((mid : Int) + m) = (nn : Int) /\ IntKind.wrap .i64 ((nn : Int) - 1) = (n' : Int) := by
 refine ⟨by omega, by omega, wrap64 (by omega) (by omega), wrap64 (by omega) (by omega), wrap64 (by omega) (by omega), wrapu64 (by omega) (by omega), ?_, ?_, ?_⟩
 . rw [wrap64 (by omega) (by omega)]; omega
 . rw [wrap64 (by omega) (by omega)]; omega
 . rw [wrap64 (by omega) (by omega)]; omega
theorem sym3 {f : FuncId} {ds : List D} {dom : Etr -> Prop} {c : Etr -> Etr -> Bool} (hc : CmpOk f ds dom c) (n : Nat) (l : List Etr) (a m b : Nat) (hd : ∀ x ∈ l, dom x) (ha : 2 <= m - a) (hm : 2 <= b - m) (hb : b <= l.length) (hn : b - a <= n + 1) (hl : l.length <= 1000000000)
   (ih : ∀ (D : List Etr) (a m b : Nat), (∀ x ∈ D, dom x) -> a < m -> m < b -> b <= D.length -> b - a <= n -> D.length <= 1000000000 -> Cm prog 66 [.ls 0 0 D.length 4, vi a, vi m, vi b, .d (.fn f ds)] (lk [(0, cellsI D)]) [0] (.ret (.tup [])) (lk [(0, cellsI (symL c n D a m b))])) :
   Cm prog 66 [.ls 0 0 l.length 4, vi a, vi m, vi b, .d (.fn f ds)] (lk [(0, cellsI l)]) [0] (.ret (.tup [])) (lk [(0, cellsI (symL c (n + 1) l a m b))]) := by
 obtain ⟨mid, hmid⟩ : ∃ mid, (a + b) / 2 = mid := ⟨_, rfl⟩
 obtain ⟨s, hs⟩ : ∃ s, cutS c l a m b = s := ⟨_, rfl⟩
 obtain ⟨nn, hnn⟩ : ∃ nn, mid + m = nn := ⟨_, rfl⟩
 obtain ⟨n', hn'⟩ : ∃ n', nn - 1 = n' := ⟨_, rfl⟩
 obtain ⟨e, he⟩ : ∃ e, nn - s = e := ⟨_, rfl⟩
 obtain ⟨D1, hD1⟩ : ∃ D1, (if s < m /\ m < e then rotF l m (m - s) (e - m) else l) = D1 := ⟨_, rfl⟩
 obtain ⟨D2, hD2⟩ : ∃ D2, (if a < s /\ s < mid then symL c n D1 a s mid else D1) = D2 := ⟨_, rfl⟩
 obtain ⟨D3, hD3⟩ : ∃ D3, (if mid < e /\ e < b then symL c n D2 mid e b else D2) = D3 := ⟨_, rfl⟩
 have hsym : symL c (n + 1) l a m b = D3 := by
   rw [symL, if_neg (by omega), if_neg (by omega)]
   simp only [hmid, hs, hnn, he, hD1, hD2, hD3]
 rw [hsym]
 clear hsym
 unfold cutS at hs
 rw [hmid, hnn, hn'] at hs
 obtain ⟨lo, hlo⟩ : ∃ lo, (if mid < m then nn - b else a) = lo := ⟨_, rfl⟩
 obtain ⟨hi, hhi⟩ : ∃ hi, (if mid < m then mid else m) = hi := ⟨_, rfl⟩
 rw [hlo, hhi] at hs
 have hcs : (mid < m /\ lo = nn - b /\ hi = mid) \/ (¬ mid < m /\ lo = a /\ hi = m) := by
   by_cases h : mid < m
   . rw [if_pos h] at hlo hhi; exact .inl ⟨h, hlo.symm, hhi.symm⟩
   . rw [if_neg h] at hlo hhi; exact .inr ⟨h, hlo.symm, hhi.symm⟩
 clear hlo hhi
 obtain ⟨r1, r2, r3, r4, r5, r6, r7, r8, r9, r10⟩ := cut_nums ha hm hb hl hmid hnn hn' hcs
 have v1 : mid - a <= n := by omega
 have v2 : b - mid <= n := by omega
 obtain ⟨w1, w2, w3, w4, w5, w6, w7, w8, w9⟩ := cut_wr ha hm hb hl hmid hnn hn'
 have hsp := srch_spec (fun x => !lessAt c l (n' - x) x) r2
 rw [hs] at hsp
 have hs1 := hsp.1
 have hs2 := hsp.2.1
 clear hsp
 have hcs' : (mid < m /\ IntKind.wrap .i64 ((nn : Int) - b) = (lo : Int) /\ hi = mid) \/ (¬ mid < m /\ lo = a /\ hi = m) := by
   rcases hcs with ⟨h1, h2, h3⟩ | h
   . refine .inl ⟨h1, ?_, h3⟩
     subst h2
     rw [wrap64 (by omega) (by omega)]; omega
   . exact .inr h
 clear hcs
 have e6 : IntKind.wrap .i64 ((nn : Int) - s) = (e : Int) := by rw [wrap64 (by omega) (by omega)]; omega
 have d1 : (∀ x ∈ D1, dom x) /\ D1.length = l.length := by
   rw [<- hD1]
   split
   . exact ⟨rotF_all hd _ _ _, rotF_len _ _ _ _⟩
   . exact ⟨hd, rfl⟩
 have d2 : (∀ x ∈ D2, dom x) /\ D2.length = l.length := by
   rw [<- hD2]
   split
   . exact ⟨symL_all c n _ _ _ _ d1.1, by rw [symL_len]; exact d1.2⟩
   . exact d1
 have eb : e <= b := by omega
 have em : mid <= e := by omega
 have g0 : 0 < l.length := by omega
 refine sym_cut hc l D1 D2 D3 a m b s mid e nn n' lo hi hd hl w1 w2 w3 w4 w5 w6 w7 w8 w9 e6 hcs' r6 r7 r8 r2 hs (spD_ne g0) (spD_ne (by rw [d1.2]; exact g0)) (spD_ne (by rw [d2.2]; exact g0)) ?_ (fun h => by rw [<- hD1, if_neg h]) ?_ (fun h => by rw [<- hD2, if_neg h]) ?_ (fun h => by rw [<- hD3, if_neg h])
 . intro h1 h2
   have := fn73 l s m e (.fn f ds) h1 h2 (Nat.le_trans eb hb) hl
   rw [if_pos ⟨h1, h2⟩] at hD1
   rw [hD1] at this; exact this
 . intro h1 h2
   have := ih D1 a s mid d1.1 h1 h2 (by rw [d1.2]; exact Nat.le_trans (Nat.le_of_lt r10) hb) v1 (by rw [d1.2]; exact hl)
   rw [if_pos ⟨h1, h2⟩] at hD2
   rw [hD2, d1.2] at this; exact this
 . intro h1 h2
   have := ih D2 mid e b d2.1 h1 h2 (by rw [d2.2]; exact hb) v2 (by rw [d2.2]; exact hl)
   rw [if_pos ⟨h1, h2⟩] at hD3
   rw [hD3, d2.2] at this; exact this
theorem fn66 {f : FuncId} {ds : List D} {dom : Etr -> Prop} {c : Etr -> Etr -> Bool} (hc : CmpOk f ds dom c) : ∀ (n : Nat) (l : List Etr) (a m b : Nat), (∀ x ∈ l, dom x) -> a < m -> m < b -> b <= l.length -> b - a <= n -> l.length <= 1000000000 ->
   Cm prog 66 [.ls 0 0 l.length 4, vi a, vi m, vi b, .d (.fn f ds)] (lk [(0, cellsI l)]) [0] (.ret (.tup [])) (lk [(0, cellsI (symL c n l a m b))])
 | 0, l, a, m, b, hd, h1, h2, h3, h4, h5 => by omega
 | n + 1, l, a, m, b, hd, h1, h2, h3, h4, h5 => by
   by_cases g1 : m - a = 1
   . have := sym1 hc l a m b hd g1 h2 h3 h5
     rw [symL, if_pos g1]; exact this
   by_cases g2 : b - m = 1
   . have := sym2 hc l a m b hd (by omega) g2 h3 h5
     rw [symL, if_neg g1, if_pos g2]; exact this
   exact sym3 hc n l a m b hd (by omega) (by omega) h3 h4 h5 (fn66 hc n)
end Go.Proofs.Tryd
