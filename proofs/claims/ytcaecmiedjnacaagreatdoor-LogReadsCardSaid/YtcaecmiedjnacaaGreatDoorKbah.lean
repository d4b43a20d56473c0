/- Own lemmas, used by the last text. Conditions: those that each theorem states. -/
import Derived.Below
import Derived.Deep.DeepHandedRow
import Derived.JoinedCond
import Derived.LaidLaws
import Derived.Lib.ItoaNum
import Derived.Lib.Join
import Derived.Lib.LaidTab
import Derived.Shelf.Small.Strs
import Derived.Shelf.Strconv.ErrVarAll
import Derived.Shelf.Strconv.Itoa3
import Derived.Shelf.Strings.BuilderF
import Derived.Shelf.Strings.Cut
import Derived.Shelf.Strings.OnBuilder
import Derived.Shelf.Strings.SplitShaped
import Derived.Shelf.Vars
import Derived.Test.YtcaecmiedjnacaaGreatDoorKbaf
import Derived.Test.YtcaecmiedjnacaaGreatDoorKbag
import Derived.Test.YtcaecmiedjnacaaGreatDoorProg
import Derived.Test.YtcaecmiedjnacaaGreatDoorRows
set_option maxRecDepth 200000
set_option maxHeartbeats 8000000
namespace Go.Proofs.Tryz
open Go.Psl
open Go.Log
theorem fn102 (n lo hi : Int) : Ct prog 102 [vi n, vi lo, vi hi] (vb (betw n lo hi)) [] := by
 by_cases h1 : lo <= n
 . by_cases h2 : n <= hi
   . refine CB func102 c102 fun E hE => ?_
     simp [p102, h1, h2]
     apply RZ
     simp [results102, betw, h1, h2]
   . refine CB func102 c102 fun E hE => ?_
     simp [p102, h1, h2]
     apply RZ
     simp [results102, betw, h1, h2]
 . refine CB func102 c102 fun E hE => ?_
   simp [p102, h1]
   apply RZ
   simp [results102, betw, h1]
theorem fn126 (b : UInt8) : Ct prog 126 [vu b] (vb (betw (b.toNat : Int) 65 90)) [] := by
 by_cases h1 : 65 <= (b.toNat : Int)
 . by_cases h2 : (b.toNat : Int) <= 90
   . refine CB func126 c126 fun E hE => ?_
     simp [p126, h1, h2]
     apply RZ
     simp [results126, betw, h1, h2]
   . refine CB func126 c126 fun E hE => ?_
     simp [p126, h1, h2]
     apply RZ
     simp [results126, betw, h1, h2]
 . refine CB func126 c126 fun E hE => ?_
   simp [p126, h1]
   apply RZ
   simp [results126, betw, h1]
theorem fn121 (b : UInt8) : Ct prog 121 [vu b] (vb (betw (b.toNat : Int) 48 57)) [] := by
 by_cases h1 : 48 <= (b.toNat : Int)
 . by_cases h2 : (b.toNat : Int) <= 57
   . refine CB func121 c121 fun E hE => ?_
     simp [p121, h1, h2]
     apply RZ
     simp [results121, betw, h1, h2]
   . refine CB func121 c121 fun E hE => ?_
     simp [p121, h1, h2]
     apply RZ
     simp [results121, betw, h1, h2]
 . refine CB func121 c121 fun E hE => ?_
   simp [p121, h1]
   apply RZ
   simp [results121, betw, h1]
theorem fn100 (b : UInt8) : Ct prog 100 [vu b] (vb (betw (b.toNat : Int) 97 122)) [] := by
 by_cases h1 : 97 <= (b.toNat : Int)
 . by_cases h2 : (b.toNat : Int) <= 122
   . refine CB func100 c100 fun E hE => ?_
     simp [p100, h1, h2]
     apply RZ
     simp [results100, betw, h1, h2]
   . refine CB func100 c100 fun E hE => ?_
     simp [p100, h1, h2]
     apply RZ
     simp [results100, betw, h1, h2]
 . refine CB func100 c100 fun E hE => ?_
   simp [p100, h1]
   apply RZ
   simp [results100, betw, h1]
def wdF (d : Bool) (i : Nat) (b : UInt8) : Bool := upB b || (d && decide (0 < i) && dgB b)
theorem wdF_true : wdF true = shipF := by funext i b; simp [wdF, shipF]
theorem wdF_false : wdF false = cptF := by funext i b; simp [wdF, cptF]
theorem fn71 (s : By) (d : Bool) (hl : s.length <= 1000000) : Ct prog 71 [vS s, vb d] (vb (madeS s 8 (wdF d))) [] := by
 have c1 := fn102 s.length 1 8
 by_cases h0 : betw s.length 1 8 = false
 . rw [h0] at c1
   refine CB func71 c71 fun E hE => ?_
   simp [p71]
   refine CLa c1 ?_
   simp
   apply RZ
   simp [results71, madeS, h0]
 simp only [Bool.not_eq_false] at h0
 rw [h0] at c1
 refine CB func71 c71 fun E hE => ?_
 simp [p71]
 refine CLa c1 ?_
 simp
 refine pw_loop (α := Nat) (fun i => ⟨slots [(0, vS s), (1, vb d), (5, vi i)], lk [], 0⟩) (fun i => i <= s.length /\ ∀ j, j < i -> (s[j]?).all (wdF d j) = true) (fun i => s.length - i) 0 ?_ ?_ ?_
 . exact ⟨by omega, fun j hj => by omega⟩
 . exact WK hE (lk [])
 . rintro i ⟨hi, hg3⟩
   have hz := @wz i (by omega)
   by_cases h : i < s.length
   . obtain ⟨b, hb⟩ := gE h
     have hI : (i : Int) < s.length := by omega
     have c2 := fn126 b
     have c3 := fn121 b
     change Ct prog _ _ (vb (upB b)) _ at c2
     change Ct prog _ _ (vb (dgB b)) _ at c3
     have hgo : wdF d i b = true -> i + 1 <= s.length /\ ∀ j, j < i + 1 -> (s[j]?).all (wdF d j) = true := fun hq => ⟨by omega, fun j hj => by
       by_cases e : j = i
       . subst e; rw [hb]; simp [hq]
       . exact hg3 j (by omega)⟩
     by_cases hu : upB b = true
     . rw [hu] at c2
       simp [p71l0, hI, hb]
       refine CLa c2 ?_
       simp [hz]
       refine ⟨i + 1, hgo (by simp [wdF, hu]), by omega, ?_⟩
       exact WK hE (lk [])
     simp only [Bool.not_eq_true] at hu
     rw [hu] at c2
     cases d with
     | false =>
       simp [p71l0, hI, hb]
       refine CLa c2 ?_
       simp
       apply RZ
       simp [results71, madeS, fitA_bad hb (show wdF false i b = false by simp [wdF, hu])]
     | true =>
       by_cases hi0 : 0 < i
       . have hi0' : (0 : Int) < i := by omega
         by_cases hd : dgB b = true
         . rw [hd] at c3
           simp [p71l0, hI, hb]
           refine CLa c2 ?_
           simp [hi0, hb]
           refine CLa c3 ?_
           simp [hz]
           refine ⟨i + 1, hgo (by simp [wdF, hi0, hd]), by omega, ?_⟩
           exact WK hE (lk [])
         . simp only [Bool.not_eq_true] at hd
           rw [hd] at c3
           simp [p71l0, hI, hb]
           refine CLa c2 ?_
           simp [hi0, hb]
           refine CLa c3 ?_
           simp
           apply RZ
           simp [results71, madeS, fitA_bad hb (show wdF true i b = false by simp [wdF, hu, hd])]
       . simp [p71l0, hI, hb]
         refine CLa c2 ?_
         simp [hi0]
         apply RZ
         simp [results71, madeS, fitA_bad hb (show wdF true i b = false by simp [wdF, hu, hi0])]
   . have hI : ¬ (i : Int) < s.length := by omega
     simp [p71l0, hI]
     apply RZ
     simp [results71, madeS, h0, fitA_ok fun j hj => hg3 j (by omega)]
theorem fn151 (s : By) (hl : s.length <= 1000000) : Ct prog 151 [vS s] (vb (decide (s.length <= 40) && fitA noteF s && bareS 32 s)) [] := by
 by_cases h0 : 40 < s.length
 . have h0' : (40 : Int) < s.length := by omega
   refine CB func151 c151 fun E hE => ?_
   simp [p151, h0']
   apply RZ
   simp [results151]
   omega
 have h0' : ¬ (40 : Int) < s.length := by omega
 have h40 : s.length <= 40 := by omega
 refine CB func151 c151 fun E hE => ?_
 simp [p151, h0']
 refine pw_loop (α := Nat) (fun i => ⟨slots [(0, vS s), (3, vi i)], lk [], 0⟩) (fun i => i <= s.length /\ ∀ j, j < i -> (s[j]?).all (noteF j) = true) (fun i => s.length - i) 0 ?_ ?_ ?_
 . exact ⟨by omega, fun j hj => by omega⟩
 . exact WK hE (lk [])
 . rintro i ⟨hi, hg3⟩
   have hz := @wz i (by omega)
   by_cases h : i < s.length
   . obtain ⟨b, hb⟩ := gE h
     have hI : (i : Int) < s.length := by omega
     by_cases h1 : (b.toNat : Int) < 32
     . simp [p151l0, hI, hb, h1]
       apply RZ
       simp [results151, fitA_bad hb (show noteF i b = false by simp [noteF, prB]; omega)]
     . by_cases h2 : 126 < (b.toNat : Int)
       . simp [p151l0, hI, hb, h1, h2]
         apply RZ
         simp [results151, fitA_bad hb (show noteF i b = false by simp [noteF, prB]; omega)]
       . simp [p151l0, hI, hb, h1, h2, hz]
         refine ⟨i + 1, ⟨by omega, fun j hj => ?_⟩, by omega, ?_⟩
         . by_cases e : j = i
           . subst e; rw [hb]; simp [noteF, prB]; omega
           . exact hg3 j (by omega)
         . exact WK hE (lk [])
   . have hI : ¬ (i : Int) < s.length := by omega
     have hfit : fitA noteF s = true := fitA_ok fun j hj => hg3 j (by omega)
     cases s with
     | nil =>
       have hI0 : ¬ (i : Int) < 0 := by omega
       simp [p151l0, hI0]
       apply RZ
       simp [results151, hfit, bareS]
     | cons b r =>
       have hlr : r.length + 1 <= 40 := by simpa using h40
       have hw : IntKind.wrap .i64 (r.length : Int) = (r.length : Int) := by rw [wrap64 (by omega) (by omega)]
       have hne : ¬ (r.length : Int) + 1 = 0 := by omega
       have hI' : ¬ (i : Int) < r.length + 1 := by simpa using hI
       by_cases hb : b = 32
       . subst hb
         simp [p151l0, hI', hne]
         apply RZ
         simp [results151, bareS]
       . have hbn : ¬ (b.toNat : Int) = 32 := u8_ne hb
         obtain ⟨c, hc⟩ : ∃ c, (b :: r).getLast? = some c := by
           cases hq : (b :: r).getLast? with
           | none => simp at hq
           | some c => exact ⟨c, rfl⟩
         have hge : (b :: r)[r.length]? = some c := by rw [<- hc, List.getLast?_eq_getElem?]; simp
         have hgl : (b :: r)[r.length] = c := by
           have := hge
           rw [List.getElem?_eq_getElem (by simp)] at this
           exact Option.some.inj this
         have hbare : bareS 32 (b :: r) = decide (c ≠ 32) := by simp [bareS, hb, hc]
         by_cases hc2 : c = 32
         . subst hc2
           simp [p151l0, hI', hne, hbn, hw, hgl]
           apply RZ
           simp [results151, hbare]
         . have hcn : ¬ (c.toNat : Int) = 32 := u8_ne hc2
           simp [p151l0, hI', hne, hbn, hw, hgl, hcn]
           apply RZ
           simp [results151, hbare, hc2, hfit, show r.length <= 39 by omega]
theorem note_eq (s : By) : (decide (s.length <= 40) && fitA noteF s && bareS 32 s) = noteS s := by
 unfold noteS
 by_cases hs : s = []
 . subst hs; simp [bareS, fitA]
 . have h1 : 1 <= s.length := by cases s with | nil => exact absurd rfl hs | cons a b => simp
   have h2 : decide (trimL 32 (trimR 32 s) = s) = bareS 32 s := by
     cases hb : bareS 32 s
     . exact decide_eq_false fun e => by rw [(trim_same 32 s).1 e] at hb; cases hb
     . exact decide_eq_true ((trim_same 32 s).2 hb)
   rw [h2]
   have h3 : betw s.length 1 40 = decide (s.length <= 40) := by
     unfold betw
     rw [decide_eq_true (show (1 : Int) <= s.length by omega), Bool.true_and]
     exact decide_eq_decide.2 (by omega)
   simp only [hs, decide_false, Bool.false_or, madeS, h3]
   cases bareS 32 s <;> cases fitA noteF s <;> cases decide (s.length <= 40) <;> rfl
theorem fn103 (x : Etr) (hw : x.w.length <= 1000000) (ha : x.a.length <= 1000000) (hn : x.n.length <= 1000000) : Ct prog 103 [entV x] (vb (entS x)) [] := by
 have c1 := fn102 x.t 0 1000000
 have c2 := fn71 x.w false hw
 rw [wdF_false] at c2
 change Ct prog _ _ (vb (wordS x.w)) _ at c2
 have c3 := fn151 x.n hn
 rw [note_eq] at c3
 by_cases h1 : betw x.t 0 1000000 = false
 . rw [h1] at c1
   refine CB func103 c103 fun E hE => ?_
   simp [p103]
   refine CLa c1 ?_
   simp
   apply RZ
   simp [results103, entS, h1]
 simp only [Bool.not_eq_false] at h1
 rw [h1] at c1
 by_cases h2 : wordS x.w = false
 . rw [h2] at c2
   refine CB func103 c103 fun E hE => ?_
   simp [p103]
   refine CLa c1 ?_
   simp
   refine CLa c2 ?_
   simp
   apply RZ
   simp [results103, entS, h1, h2]
 simp only [Bool.not_eq_false] at h2
 rw [h2] at c2
 by_cases h3 : 6 < x.a.length
 . have h3' : (6 : Int) < x.a.length := by omega
   refine CB func103 c103 fun E hE => ?_
   simp [p103]
   refine CLa c1 ?_
   simp
   refine CLa c2 ?_
   simp [h3']
   apply RZ
   simp [results103, entS, h1, h2]
   omega
 have h3' : ¬ (6 : Int) < x.a.length := by omega
 have h3'' : x.a.length <= 6 := by omega
 by_cases h5 : noteS x.n = false
 . rw [h5] at c3
   refine CB func103 c103 fun E hE => ?_
   simp [p103]
   refine CLa c1 ?_
   simp
   refine CLa c2 ?_
   simp [h3']
   refine CLa c3 ?_
   simp
   apply RZ
   simp [results103, entS, h5]
 simp only [Bool.not_eq_false] at h5
 rw [h5] at c3
 refine CB func103 c103 fun E hE => ?_
 simp [p103]
 refine CLa c1 ?_
 simp
 refine CLa c2 ?_
 simp [h3']
 refine CLa c3 ?_
 simp
 refine pw_loop (α := Nat) (fun i => ⟨slots [(1, .lp 0 0), (3, vi i)], lk [(0, [vi x.t, vS x.w, .d (intsD x.a), vS x.n])], 1⟩) (fun i => i <= x.a.length /\ ∀ j, j < i -> (x.a[j]?).all argB = true) (fun i => x.a.length - i) 0 ?_ ?_ ?_
 . exact ⟨by omega, fun j hj => by omega⟩
 . exact WK hE (lk [(0, 0)])
 . rintro i ⟨hi, hg3⟩
   have hz := @wz i (by omega)
   by_cases h : i < x.a.length
   . obtain ⟨n, hn⟩ := gE h
     have hI : (i : Int) < x.a.length := by omega
     have c4 := fn102 n (-1000000000) 1000000000
     change Ct prog _ _ (vb (argB n)) _ at c4
     by_cases hq : argB n = true
     . rw [hq] at c4
       simp [p103l0, hI, hn]
       refine CLa c4 ?_
       simp [hz]
       refine ⟨i + 1, ⟨by omega, fun j hj => ?_⟩, by omega, ?_⟩
       . by_cases e : j = i
         . subst e; rw [hn]; simp [hq]
         . exact hg3 j (by omega)
       . exact WK hE (lk [(0, 0)])
     . simp only [Bool.not_eq_true] at hq
       rw [hq] at c4
       simp [p103l0, hI, hn]
       refine CLa c4 ?_
       simp
       apply RZ
       have : x.a.all argB = false := by rw [List.all_eq_false]; exact ⟨n, List.mem_of_getElem? hn, by simp [hq]⟩
       simp [results103, entS, this]
   . have hI : ¬ (i : Int) < x.a.length := by omega
     have : x.a.all argB = true := by
       rw [List.all_eq_true]
       intro n hn
       obtain ⟨j, hj⟩ := List.getElem?_of_mem hn
       have := hg3 j (by have := (List.getElem?_eq_some_iff.1 hj).1; omega)
       rw [hj] at this
       simpa using this
     simp [p103l0, hI]
     apply RZ
     simp [results103, entS, h1, h2, h3'', h5, this]
def sizedE (x : Etr) : Prop := x.w.length <= 1000000 /\ x.a.length <= 1000000 /\ x.n.length <= 1000000
structure SizedL (l : Lg) : Prop where
 s : l.s.length <= 1000000
 n : l.es.length <= 1000000
 e : ∀ x ∈ l.es, sizedE x
theorem fn16 (l : List Int) (hl : l.length <= 1000000) : Ct prog 16 [.d (intsD l), .d (intsD l)] (vb true) [] := by
 refine CB func16 c16 fun E hE => ?_
 simp [p16]
 refine pw_loop (α := Nat) (fun i => ⟨slots [(0, .d (intsD l)), (1, .d (intsD l)), (5, vi i)], lk [], 0⟩) (fun i => i <= l.length) (fun i => l.length - i) 0 ?_ ?_ ?_
 . omega
 . exact WK hE (lk [])
 . intro i hi
   by_cases h : i < l.length
   . obtain ⟨x, hx⟩ := gE h
     have hz := @wz i (by omega)
     have hI : (i : Int) < l.length := by omega
     simp [p16l0, hI, hx, hz]
     refine ⟨i + 1, by omega, by omega, ?_⟩
     exact WK hE (lk [])
   . have hn : ¬ (i : Int) < l.length := by omega
     simp [p16l0, hn]
     apply RZ
     simp [results16]
theorem fn36 (x : Etr) (hl : x.a.length <= 1000000) : Ct prog 36 [entV x, entV x] (vb true) [] := by
 refine CB func36 c36 fun E hE => ?_
 simp [p36]
 refine CLa (fn16 x.a hl) ?_
 simp
 apply RZ
 simp [results36]
theorem fn15 (l : Lg) (hs : SizedL l) : Ct prog 15 [logV l, logV l] (vb true) [] := by
 have hn := hs.n
 refine CB func15 c15 fun E hE => ?_
 simp [p15]
 refine pw_loop (α := Nat) (fun i => ⟨slots [(2, .lp 0 0), (3, .lp 1 0), (5, vi i)], lk [(0, [vS l.s, .d (entsD l.es)]), (1, [vS l.s, .d (entsD l.es)])], 2⟩) (fun i => i <= l.es.length) (fun i => l.es.length - i) 0 ?_ ?_ ?_
 . omega
 . exact WK hE (lk [(0, 0), (1, 1048576)])
 . intro i hi
   by_cases h : i < l.es.length
   . obtain ⟨x, hx⟩ := gE h
     have hz := @wz i (by omega)
     have hI : (i : Int) < l.es.length := by omega
     simp [p15l0, hI, hx, inC, Nat.testBit]
     refine ACall.mk _ _ _ (fn36 x (hs.e x (List.mem_of_getElem? hx)).2.1) (by first | (simp; done) | simp [Bor_ls, Bor1_ls]) (by simp) (by first | (left; simp; done) | (right; simp; done)) ?_
     simp [hz]
     refine ⟨i + 1, by omega, by omega, ?_⟩
     exact WK hE (lk [(0, 0), (1, 1)])
   . have hn : ¬ (i : Int) < l.es.length := by omega
     simp [p15l0, hn]
     apply RZ
     simp [results15]
end Go.Proofs.Tryz
namespace Go.Proofs.YtcaecmiedjnacaaGreatDoor
open Go.Joins Go.ChangeShapes Go.WideShapes Go.ChangeAt Go.RowKit Go.Psl Go.Log
theorem Tryz.own : ownKnob Tryz.prog.godebug = none := by kernel_rfl
theorem Tryz.laidOut : laidOutB Tryz.prog = true := by kernel_rfl
theorem all_map {α β : Type} {f : α -> β} : ∀ {es : List β}, (∀ x ∈ es, ∃ k, x = f k) -> ∃ t : List α, es = t.map f
 | [], _ => ⟨[], rfl⟩
 | e :: es, h => by
   obtain ⟨k, hk⟩ := h e (by simp)
   obtain ⟨t, ht⟩ := all_map (f := f) (es := es) fun x hx => h x (by simp [hx])
   exact ⟨k :: t, by rw [ht, hk]; rfl⟩
abbrev GA (W : World) : Gh := ⟨fun _ => 0, fun _ => 0, fun _ => true, fun _ => true, InW W⟩
theorem text_arg {H : Type} {enc : TypeId × Value -> H} {W : World} {base : Nat} {v : Value} {d : DataW H} {p : List MemPlace} (hval : Value.okWide Tryz.prog W .any base 9 v) (h : DataW.Trod enc Tryz.prog W 0 (fun _ => true) true 9 v d p) :
   ∃ k : By, R2 (GA W) W (Tryz.vS k) v := by
 obtain ⟨s, rfl⟩ := okWide_string Tryz.underlying9 hval
 have e : Tryz.vS s.data.toList = .d (.lit (.string s)) := by show V.d (.lit (.string (bs s.data.toList))) = _; rw [bs_data]
 exact ⟨s.data.toList, by rw [e]; exact .lit _ rfl⟩
def litV : DataW Unit -> Value
 | .lit (.int k x) => .int k x
 | _ => .bool false
def rowV : DataW Unit -> List Value
 | .agg ps => ps.map litV
 | d => [litV d]
def valsOf : DataW Unit -> Array Value
 | .agg ps => (ps.flatMap rowV).toArray
 | _ => #[]
def putV (d : DataW Unit) : Obj -> Obj
 | .cells _ t frozen => .cells (valsOf d) t frozen
 | o => o
noncomputable def laidWorld (laid : List (Nat × DataW Unit)) (os : Os) : World :=
 { World.holding Tryz.prog os ⟨#[], #[], []⟩ with heap := laid.foldl (fun h x => h.modify x.1 (putV x.2)) (World.holding Tryz.prog os ⟨#[], #[], []⟩).heap }
theorem var_of_laid {W : World} {name : String} {k : IntKind} {zs : List Int} {g : Nat} {t e : TypeId} {n : Nat}
   (hg : Tryz.prog.globalNamed name = some g) (hty : (Tryz.prog.globals[g]?).map (·.type) = some t) (ht : Tryz.prog.underlying t = some (.array n e)) (he : Tryz.prog.underlying e = some (.int k)) (hce : Tryz.prog.cellsOf e = 1) (hct : Tryz.prog.cellsOf t = n) :
   ∀ {laid : List (String × DataW Unit)} {ps : List MemPlace}, (name, Lib.tabData k zs) ∈ laid -> DataW.LaidVars Tryz.prog W laid ps -> W.var? Tryz.prog name = some (zs.map fun z => Value.int k z).toArray
 | [], _, hm, _ => by cases hm
 | (n', d) :: r, ps, hm, h => by
   obtain ⟨g', t', cs, fuel, p, q, hg', ht', hvar, hd, hr, _⟩ := h
   rcases List.mem_cons.1 hm with hm | hm
   . cases hm
     obtain rfl := Option.some.inj (hg.symm.trans hg')
     obtain rfl := Option.some.inj (hty.symm.trans ht')
     rw [hvar, <- Lib.cells_of_tab ht he hce hct hd]
   . exact var_of_laid hg hty ht he hce hct hm hr
theorem tabW_of_var {W : World} {name : String} {g : Nat} {c : Array Value} (hg : Tryz.prog.globalNamed name = some g) (h : W.var? Tryz.prog name = some c) : tabW W g c := by
 unfold World.var? at h
 rw [hg] at h
 simp only [Option.bind_some] at h
 split at h
 . rename_i cs t fz hh
   cases h
   exact ⟨t, fz, hh⟩
 . cases h
theorem tabW_of_shaped {w : World} {g : Nat} {t : TypeId} {zero : Array Value} {k : IntKind}
   (h : w.ShapedOpen Tryz.prog) (hg : g < Tryz.prog.globals.size)
   (h0 : ((begin Tryz.prog (fun _ _ => 0) default).world.heap[g]?).bind Obj.row? = some (zero, t)) (hz : zero.size = 1)
   (hb : Tryz.prog.buildable t = true) (hc : Tryz.prog.cellTypes Tryz.prog.depth t = some [t]) (hu : Tryz.prog.underlying t = some (.int k)) : ∃ m, tabW w g #[.int k m] := by
 obtain ⟨m, hm⟩ := cell_of_shapedOpen_int h hg h0 hz hb hc hu
 obtain ⟨cs, hh, hs, _⟩ := h.1 g zero t hg h0
 refine ⟨m, t, (0, 0), ?_⟩
 rw [hh]
 have h1 : cs[0]? = some (.int k m) := by
   simpa [World.cell?, hh] using hm
 have h2 : cs = #[.int k m] := by
   obtain ⟨l⟩ := cs
   rw [hz] at hs
   match l, hs with
   | [a], _ => simp at h1; rw [h1]
 rw [h2]
theorem pow_laid {W : World} {laid : List (String × DataW Unit)} (hm : ("internal/strconv.uint64pow10", Lib.tabData .u64 Lib.pow10Tab) ∈ laid) (h : laidMet Tryz.prog laid W) : globAt W gPow := by
 obtain ⟨ps, hv, _⟩ := h
 have h1 := var_of_laid (g := gPow) (t := (Tryz.prog.globals[gPow]?.map (·.type)).getD 0) (n := 20) (by kernel_rfl) (by kernel_rfl) (by kernel_rfl) (e := (Tryz.prog.globals[gPow]?.map fun _ => 228).getD 0) (by kernel_rfl) (by kernel_rfl) (by kernel_rfl) hm hv
 have h2 := tabW_of_var (g := gPow) (by kernel_rfl) h1
 have h3 : globAt W gPow = tabW W gPow ((List.range 20).map fun i => Value.int .u64 ((10 ^ i : Nat) : Int)).toArray := by simp [globAt, gPow, gMax, gSyn, gRng]
 rw [h3]
 unfold Lib.pow10Tab at h2
 rw [List.map_map] at h2
 exact h2
theorem max_laid {W : World} (h : W.ShapedOpen Tryz.prog) : globAt W gMax := by
 have h1 := tabW_of_shaped (zero := #[.int .i64 0]) (t := 3) (g := gMax) h (of_decide_eq_true (by kernel_rfl)) (by kernel_rfl) rfl (by kernel_rfl) (by kernel_rfl) Tryz.underlying3
 have h2 : globAt W gMax = ∃ m, tabW W gMax #[.int .i64 m] := by simp [globAt]
 rw [h2]
 exact h1
theorem iface_of_laid {W : World} {name nm : String} {d : DataW Unit} {g : Nat} {t : TypeId} {ms : Array (String × TypeId)}
   (hg : Tryz.prog.globalNamed name = some g) (hty : (Tryz.prog.globals[g]?).map (·.type) = some t) (ht : Tryz.prog.underlying t = some (.interface ms)) :
   ∀ {laid : List (String × DataW Unit)} {ps : List MemPlace}, (name, .iface nm d) ∈ laid -> DataW.LaidVars Tryz.prog W laid ps -> ∃ u v, W.var? Tryz.prog name = some #[.iface u v]
 | [], _, hm, _ => by cases hm
 | (n', d') :: r, ps, hm, h => by
   obtain ⟨g', t', cs, fuel, p, q, hg', ht', hvar, hd, hr, _⟩ := h
   rcases List.mem_cons.1 hm with hm | hm
   . cases hm
     obtain rfl := Option.some.inj (hg.symm.trans hg')
     obtain rfl := Option.some.inj (hty.symm.trans ht')
     obtain ⟨_, u, v, hcs, _, _⟩ := iface_of_trod ht hd
     refine ⟨u, v, ?_⟩
     rw [hvar, <- hcs]
   . exact iface_of_laid hg hty ht hm hr
theorem syn_laid {W : World} {laid : List (String × DataW Unit)} {nm : String} {d : DataW Unit} (hm : ("strconv.ErrSyntax", .iface nm d) ∈ laid) (h : laidMet Tryz.prog laid W) : globAt W gSyn := by
 obtain ⟨ps, hv, _⟩ := h
 obtain ⟨u, v, h1⟩ := iface_of_laid (g := gSyn) (t := 134) (by kernel_rfl) (by kernel_rfl) Tryz.underlying134 hm hv
 have h2 := tabW_of_var (g := gSyn) (by kernel_rfl) h1
 have h3 : globAt W gSyn = ∃ tp p, tabW W gSyn #[.iface tp p] := by simp [globAt, gMax, gSyn]
 rw [h3]
 exact ⟨u, v, h2⟩
theorem rng_laid {W : World} {laid : List (String × DataW Unit)} {nm : String} {d : DataW Unit} (hm : ("strconv.ErrRange", .iface nm d) ∈ laid) (h : laidMet Tryz.prog laid W) : globAt W gRng := by
 obtain ⟨ps, hv, _⟩ := h
 obtain ⟨u, v, h1⟩ := iface_of_laid (g := gRng) (t := 134) (by kernel_rfl) (by kernel_rfl) Tryz.underlying134 hm hv
 have h2 := tabW_of_var (g := gRng) (by kernel_rfl) h1
 have h3 : globAt W gRng = ∃ tp p, tabW W gRng #[.iface tp p] := by simp [globAt, gMax, gSyn, gRng]
 rw [h3]
 exact ⟨u, v, h2⟩
def errWorld (g u t : Nat) (text : List UInt8) (W : World) : World :=
 { W with heap := (W.heap.modify g fun | .cells _ t' fz => .cells #[.iface u (.pointer (some ⟨W.heap.size, 0, none⟩))] t' fz | o => o).push (.cells #[.string ⟨text.toArray⟩] t (0, 0)) }
theorem GA_of {W : World} (h : globW W) : Go.Psl.GW (GA W).Im W := ⟨fun _ h => h, W, h, fun _ hk => ⟨hk, rfl⟩⟩
end Go.Proofs.YtcaecmiedjnacaaGreatDoor
namespace Go.Psl
open Go.RowKit
variable {P : Program}
theorem lit_args {G : Gh} {W : World} : ∀ {vs0 : List Value} {xs : List Value}, All2 (R2 G W) (vs0.map cV) xs -> xs = vs0
 | [], [], _ => rfl
 | a :: as0, x :: xs, h => by
   have h1 : x = a := rv_lit (R2.rv h.1)
   rw [h1, lit_args h.2]
 | [], _ :: _, h => h.elim
 | _ :: _, [], h => h.elim
def GlobN (W : World) : Prop := ∃ Wr : World, globW Wr /\ ∀ k, k < Wr.heap.size -> W.heap[k]? = Wr.heap[k]?
theorem GW.globN {Im : Nat -> Prop} {W : World} (h : GW Im W) : GlobN W := by
 obtain ⟨_, Wr, h1, h2⟩ := h
 exact ⟨Wr, h1, fun k hk => (h2 k hk).2⟩
theorem Cm.ofBelow {f : FuncId} {vs0 : List Value} {r : V} {v : Value} (hf : isFn P f) (hr : ∀ G W, RV G W r v) (hw : AV (fun _ => False) anyD r)
   (h : ∀ W, GlobN W -> Calls P f vs0.toArray W fun e W' => e = .returned v /\ Below W.heap.size W W') : Ct P f (vs0.map cV) r [] := by
 refine ⟨hf, fun G W xs hGW hargs hpre => ?_⟩
 have hx := lit_args hargs
 obtain ⟨xs⟩ := xs
 simp only at hx
 subst hx
 refine Calls.mono (h W hGW.globN) fun e W' ⟨he, hb⟩ => ?_
 subst he
 refine ⟨{ G with Im := G.Im }, ⟨hb.os, hb.tape, hb.output, Nat.le_refl _, hb.size, fun b hb' _ => hb.block b hb', fun b hb' => ⟨Nat.lt_of_lt_of_le (hGW.1 b hb') hb.size, .inl hb'⟩, fun _ h => h, hr _ _, AV.mono (fun _ h => h.elim) (fun _ h => h) hw, ?_, ?_, ?_⟩⟩
 . intro i cs h; cases h
 . intro i j h; simp [InH, lk] at h
 . intro i h; cases h
theorem Cm.ofLit {f : FuncId} {vs0 : List Value} {v : Value} (hf : isFn P f) (hv : flatV v = true)
   (h : ∀ W, GlobN W -> Calls P f vs0.toArray W fun e W' => e = .returned v /\ Below W.heap.size W W') : Ct P f (vs0.map cV) (cV v) [] :=
 Cm.ofBelow hf (fun _ _ => RD.lit v hv) trivial h
theorem tup_lits {G : Gh} {W : World} : ∀ {vs : List Value}, (∀ v ∈ vs, flatV v = true) -> All2 (R2 G W) (vs.map cV) vs
 | [], _ => trivial
 | v :: vs, h => ⟨RD.lit v (h v (by simp)), tup_lits fun w hw => h w (by simp [hw])⟩
theorem Cm.ofTup {f : FuncId} {vs0 vs : List Value} (hf : isFn P f) (hv : ∀ v ∈ vs, flatV v = true)
   (h : ∀ W, GlobN W -> Calls P f vs0.toArray W fun e W' => e = .returned (.tuple vs.toArray) /\ Below W.heap.size W W') : Ct P f (vs0.map cV) (.tup (vs.map cV)) [] :=
 Cm.ofBelow hf (fun _ _ => ⟨vs.toArray, rfl, tup_lits hv⟩) (fun c hc => by obtain ⟨v, _, rfl⟩ := List.mem_map.1 hc; trivial) h
theorem Cm.ofRow {f : FuncId} {vs0 : List Value} {vs : List Value} {T : TypeId} (hf : isFn P f) (hv : ∀ v ∈ vs, flatV v = true) (hl : vs.length <= maxL)
   (h : ∀ W, GlobN W -> Calls P f vs0.toArray W fun e W' => e = .returned (.slice (some ⟨W.heap.size, 0, none⟩) vs.length vs.length) /\ W' = W.alloc (.cells vs.toArray T)) : Ct P f (vs0.map cV) (.ls 0 0 vs.length 1) [(0, vs.map cV)] := by
 refine ⟨hf, fun G W xs hGW hargs hpre => ?_⟩
 have hx := lit_args hargs
 obtain ⟨xs⟩ := xs
 simp only at hx
 subst hx
 refine Calls.mono (h W hGW.globN) fun e W' ⟨he, hb⟩ => ?_
 subst he hb
 have hnew : (W.alloc (.cells vs.toArray T)).heap[W.heap.size]? = some (.cells vs.toArray T (0, 0)) := by
   show (W.heap.push _)[_]? = _
   simp
 have hold : ∀ k, k < W.heap.size -> (W.alloc (.cells vs.toArray T)).heap[k]? = W.heap[k]? := fun k hk => by
   show (W.heap.push _)[_]? = _
   rw [Array.getElem?_push, if_neg (by omega)]
 have hsz : (W.alloc (.cells vs.toArray T)).heap.size = W.heap.size + 1 := by
   show (W.heap.push _).size = _
   simp
 refine ⟨{ β := fun _ => W.heap.size, bs := fun _ => vs.length, ph := fun _ => false, lo := fun _ => false, Im := G.Im }, ⟨rfl, rfl, rfl, Nat.le_refl _, by omega, fun b hb' _ => hold b hb', fun b hb' => ⟨by have := hGW.1 b hb'; omega, .inl hb'⟩, fun _ h => h, ?_, ?_, ?_, ?_, ?_⟩⟩
 . exact ⟨hl, .inr ⟨⟨rfl, rfl⟩, 0, vs.length, rfl, Nat.le_refl _, fun _ => ⟨rfl, by simp⟩⟩⟩
 . show InH _ 0
   rfl
 . intro i cs hi
   have hi0 : i = 0 /\ cs = vs.map cV := by
     simp only [lk] at hi
     split at hi
     . rename_i e; cases hi; exact ⟨e, rfl⟩
     . cases hi
   obtain ⟨rfl, rfl⟩ := hi0
   refine ⟨.inr (.inl ⟨rfl, rfl, fun hx => absurd (hGW.1 _ hx) (Nat.lt_irrefl _), vs.toArray, T, hnew, by simp, by simp, ?_, ?_⟩), fun _ => .inl (Nat.le_refl _), fun c hc => ?_⟩
   . simp only [List.length_map]
     rw [List.take_of_length_le (by simp)]
     have : ∀ {vs : List Value} {G' : Gh} {W' : World}, (∀ v ∈ vs, flatV v = true) -> All2 (R1 G' W') (vs.map cV) vs := by
       intro vs
       induction vs with
       | nil => intros; trivial
       | cons v vs ih => intro G' W' h; exact ⟨RD.lit v (h v (by simp)), ih fun w hw => h w (by simp [hw])⟩
     exact this hv
   . simp only [List.all_map, List.all_eq_true]
     intro v _; rfl
   . obtain ⟨v, _, rfl⟩ := List.mem_map.1 hc
     trivial
 . intro i j hi hj _ _ _
   have e1 : i = 0 := by simp only [InH, lk] at hi; split at hi; assumption; cases hi
   have e2 : j = 0 := by simp only [InH, lk] at hj; split at hj; assumption; cases hj
   rw [e1, e2]
 . intro i h; cases h
end Go.Psl
namespace Go.Proofs
def Tryz.itoaL_ren : Go.Shelf.Ren := ⟨fun | 171 => 61 | 243 => 111 | 246 => 155 | 283 => 185 | 284 => 186 | 285 => 187 | 286 => 188 | 129 => 207 | 317 => 206 | 318 => 208 | 319 => 209 | 320 => 210 | 337 => 216 | 338 => 217 | n => n, fun | 3 => 3 | 9 => 9 | 2 => 2 | 4 => 4 | 171 => 227 | 0 => 0 | 53 => 228 | 37 => 61 | 5 => 5 | 173 => 231 | 212 => 259 | 51 => 208 | 20 => 20 | 213 => 260 | 46 => 196 | 232 => 273 | 233 => 274 | n => n, fun | 17 => 5 | 18 => 8 | 19 => 9 | n => n⟩
theorem Tryz.itoaL : Go.Proofs.LaysM.n171 Tryz.prog Tryz.itoaL_ren := {
 mixed := by kernel_rfl,
 f129 := Tryz.func207.trans (congrArg some (by kernel_rfl)),
 f171 := Tryz.func61.trans (congrArg some (by kernel_rfl)),
 f243 := Tryz.func111.trans (congrArg some (by kernel_rfl)),
 f246 := Tryz.func155.trans (congrArg some (by kernel_rfl)),
 f283 := Tryz.func185.trans (congrArg some (by kernel_rfl)),
 f284 := Tryz.func186.trans (congrArg some (by kernel_rfl)),
 f285 := Tryz.func187.trans (congrArg some (by kernel_rfl)),
 f286 := Tryz.func188.trans (congrArg some (by kernel_rfl)),
 f317 := Tryz.func206.trans (congrArg some (by kernel_rfl)),
 f318 := Tryz.func208.trans (congrArg some (by kernel_rfl)),
 f319 := Tryz.func209.trans (congrArg some (by kernel_rfl)),
 f320 := Tryz.func210.trans (congrArg some (by kernel_rfl)),
 f337 := Tryz.func216.trans (congrArg some (by kernel_rfl)),
 f338 := Tryz.func217.trans (congrArg some (by kernel_rfl)),
 t0 := Tryz.underlying0,
 a0 := Tryz.isAgg0,
 z0 := Tryz.sizeOf0,
 v0 := Tryz.zeroValue0,
 t2 := Tryz.underlying2,
 a2 := Tryz.isAgg2,
 z2 := Tryz.sizeOf2,
 v2 := Tryz.zeroValue2,
 t3 := Tryz.underlying3,
 a3 := Tryz.isAgg3,
 z3 := Tryz.sizeOf3,
 v3 := Tryz.zeroValue3,
 t4 := Tryz.underlying4,
 a4 := Tryz.isAgg4,
 z4 := Tryz.sizeOf4,
 v4 := Tryz.zeroValue4,
 t5 := Tryz.underlying5,
 a5 := Tryz.isAgg5,
 z5 := Tryz.sizeOf5,
 v5 := Tryz.zeroValue5,
 t9 := Tryz.underlying9,
 a9 := Tryz.isAgg9,
 z9 := Tryz.sizeOf9,
 v9 := Tryz.zeroValue9,
 t20 := Tryz.underlying20,
 a20 := Tryz.isAgg20,
 z20 := Tryz.sizeOf20,
 v20 := Tryz.zeroValue20,
 t37 := Tryz.underlying61,
 a37 := Tryz.isAgg61,
 z37 := Tryz.sizeOf61,
 v37 := Tryz.zeroValue61,
 t46 := Tryz.underlying196,
 a46 := Tryz.isAgg196,
 z46 := Tryz.sizeOf196,
 v46 := Tryz.zeroValue196,
 t51 := Tryz.underlying208,
 a51 := Tryz.isAgg208,
 z51 := Tryz.sizeOf208,
 v51 := Tryz.zeroValue208,
 t53 := Tryz.underlying228,
 a53 := Tryz.isAgg228,
 z53 := Tryz.sizeOf228,
 v53 := Tryz.zeroValue228,
 t171 := Tryz.underlying227,
 a171 := Tryz.isAgg227,
 z171 := Tryz.sizeOf227,
 v171 := Tryz.zeroValue227,
 t173 := Tryz.underlying231,
 a173 := Tryz.isAgg231,
 z173 := Tryz.sizeOf231,
 v173 := Tryz.zeroValue231,
 t212 := Tryz.underlying259,
 a212 := Tryz.isAgg259,
 z212 := Tryz.sizeOf259,
 v212 := Tryz.zeroValue259,
 t213 := Tryz.underlying260,
 a213 := Tryz.isAgg260,
 z213 := Tryz.sizeOf260,
 t232 := Tryz.underlying273,
 a232 := Tryz.isAgg273,
 z232 := Tryz.sizeOf273,
 v232 := Tryz.zeroValue273,
 t233 := Tryz.underlying274,
 a233 := Tryz.isAgg274,
 z233 := Tryz.sizeOf274,
 v233 := Tryz.zeroValue274,
 g17 := by kernel_rfl,
 g18 := by kernel_rfl,
 g19 := by kernel_rfl,
 i0 := by kernel_rfl,
 i2 := by kernel_rfl,
 i3 := by kernel_rfl,
 i4 := by kernel_rfl,
 i5 := by kernel_rfl,
 i9 := by kernel_rfl,
 i20 := by kernel_rfl,
 i37 := by kernel_rfl,
 i46 := by kernel_rfl,
 i51 := by kernel_rfl,
 i53 := by kernel_rfl,
 i171 := by kernel_rfl,
 i173 := by kernel_rfl,
 i212 := by kernel_rfl,
 i232 := by kernel_rfl,
 i233 := by kernel_rfl,
 m17 := by kernel_rfl,
 m18 := by kernel_rfl,
 m19 := by kernel_rfl }
def Tryz.splitL_ren : Go.Shelf.Ren := ⟨fun | 146 => 42 | 221 => 89 | 268 => 136 | 138 => 137 | 143 => 138 | 195 => 172 | 197 => 173 | 218 => 174 | 219 => 175 | 260 => 196 | 217 => 134 | 225 => 197 | 224 => 198 | 267 => 199 | 266 => 171 | 314 => 212 | n => n, fun | 9 => 9 | 31 => 95 | 3 => 3 | 4 => 4 | 0 => 0 | 105 => 218 | 21 => 21 | 5 => 5 | 46 => 196 | 119 => 168 | 139 => 266 | 138 => 265 | 146 => 233 | 51 => 208 | n => n, fun | 1 => 2 | 3 => 6 | 4 => 7 | n => n⟩
theorem Tryz.splitL : Go.Proofs.LaysM.n146 Tryz.prog Tryz.splitL_ren := {
 mixed := by kernel_rfl,
 f138 := Tryz.func137.trans (congrArg some (by kernel_rfl)),
 f143 := Tryz.func138.trans (congrArg some (by kernel_rfl)),
 f146 := Tryz.func42.trans (congrArg some (by kernel_rfl)),
 f195 := Tryz.func172.trans (congrArg some (by kernel_rfl)),
 f197 := Tryz.func173.trans (congrArg some (by kernel_rfl)),
 f217 := Tryz.func134.trans (congrArg some (by kernel_rfl)),
 f218 := Tryz.func174.trans (congrArg some (by kernel_rfl)),
 f219 := Tryz.func175.trans (congrArg some (by kernel_rfl)),
 f221 := Tryz.func89.trans (congrArg some (by kernel_rfl)),
 f224 := Tryz.func198.trans (congrArg some (by kernel_rfl)),
 f225 := Tryz.func197.trans (congrArg some (by kernel_rfl)),
 f260 := Tryz.func196.trans (congrArg some (by kernel_rfl)),
 f266 := Tryz.func171.trans (congrArg some (by kernel_rfl)),
 f267 := Tryz.func199.trans (congrArg some (by kernel_rfl)),
 f268 := Tryz.func136.trans (congrArg some (by kernel_rfl)),
 f314 := Tryz.func212.trans (congrArg some (by kernel_rfl)),
 t0 := Tryz.underlying0,
 a0 := Tryz.isAgg0,
 z0 := Tryz.sizeOf0,
 v0 := Tryz.zeroValue0,
 t3 := Tryz.underlying3,
 a3 := Tryz.isAgg3,
 z3 := Tryz.sizeOf3,
 v3 := Tryz.zeroValue3,
 t4 := Tryz.underlying4,
 a4 := Tryz.isAgg4,
 z4 := Tryz.sizeOf4,
 v4 := Tryz.zeroValue4,
 t5 := Tryz.underlying5,
 a5 := Tryz.isAgg5,
 z5 := Tryz.sizeOf5,
 v5 := Tryz.zeroValue5,
 t9 := Tryz.underlying9,
 a9 := Tryz.isAgg9,
 z9 := Tryz.sizeOf9,
 v9 := Tryz.zeroValue9,
 t21 := Tryz.underlying21,
 a21 := Tryz.isAgg21,
 z21 := Tryz.sizeOf21,
 v21 := Tryz.zeroValue21,
 t31 := Tryz.underlying95,
 a31 := Tryz.isAgg95,
 z31 := Tryz.sizeOf95,
 v31 := Tryz.zeroValue95,
 t46 := Tryz.underlying196,
 a46 := Tryz.isAgg196,
 z46 := Tryz.sizeOf196,
 v46 := Tryz.zeroValue196,
 t51 := Tryz.underlying208,
 a51 := Tryz.isAgg208,
 z51 := Tryz.sizeOf208,
 v51 := Tryz.zeroValue208,
 t105 := Tryz.underlying218,
 a105 := Tryz.isAgg218,
 z105 := Tryz.sizeOf218,
 v105 := Tryz.zeroValue218,
 t119 := Tryz.underlying168,
 a119 := Tryz.isAgg168,
 z119 := Tryz.sizeOf168,
 t138 := Tryz.underlying265,
 a138 := Tryz.isAgg265,
 z138 := Tryz.sizeOf265,
 v138 := Tryz.zeroValue265,
 t139 := Tryz.underlying266,
 a139 := Tryz.isAgg266,
 z139 := Tryz.sizeOf266,
 v139 := Tryz.zeroValue266,
 t146 := Tryz.underlying233,
 a146 := Tryz.isAgg233,
 z146 := Tryz.sizeOf233,
 v146 := Tryz.zeroValue233,
 g1 := by kernel_rfl,
 g3 := by kernel_rfl,
 g4 := by kernel_rfl,
 i0 := by kernel_rfl,
 i3 := by kernel_rfl,
 i4 := by kernel_rfl,
 i5 := by kernel_rfl,
 i9 := by kernel_rfl,
 i21 := by kernel_rfl,
 i31 := by kernel_rfl,
 i46 := by kernel_rfl,
 i51 := by kernel_rfl,
 i105 := by kernel_rfl,
 i138 := by kernel_rfl,
 i139 := by kernel_rfl,
 i146 := by kernel_rfl,
 m1 := by kernel_rfl,
 s1_3 := fun w h => Go.Proofs.cell_of_shapedOpen_int (zero := #[.int .i64 0]) (t := 3) h (of_decide_eq_true (by kernel_rfl)) (by kernel_rfl) rfl (by kernel_rfl) (by kernel_rfl) Tryz.underlying3,
 m3 := by kernel_rfl,
 m4 := by kernel_rfl }
def Tryz.cutL_ren : Go.Shelf.Ren := ⟨fun | 145 => 94 | 220 => 141 | 219 => 175 | 217 => 134 | 225 => 197 | 224 => 198 | 267 => 199 | 266 => 171 | 314 => 212 | n => n, fun | 9 => 9 | 4 => 4 | 59 => 151 | 3 => 3 | 5 => 5 | 46 => 196 | 146 => 233 | 51 => 208 | n => n, fun | 1 => 2 | n => n⟩
theorem Tryz.cutL : Go.Proofs.LaysM.n145 Tryz.prog Tryz.cutL_ren := {
 mixed := by kernel_rfl,
 f145 := Tryz.func94.trans (congrArg some (by kernel_rfl)),
 f217 := Tryz.func134.trans (congrArg some (by kernel_rfl)),
 f219 := Tryz.func175.trans (congrArg some (by kernel_rfl)),
 f220 := Tryz.func141.trans (congrArg some (by kernel_rfl)),
 f224 := Tryz.func198.trans (congrArg some (by kernel_rfl)),
 f225 := Tryz.func197.trans (congrArg some (by kernel_rfl)),
 f266 := Tryz.func171.trans (congrArg some (by kernel_rfl)),
 f267 := Tryz.func199.trans (congrArg some (by kernel_rfl)),
 f314 := Tryz.func212.trans (congrArg some (by kernel_rfl)),
 t3 := Tryz.underlying3,
 a3 := Tryz.isAgg3,
 z3 := Tryz.sizeOf3,
 v3 := Tryz.zeroValue3,
 t4 := Tryz.underlying4,
 a4 := Tryz.isAgg4,
 z4 := Tryz.sizeOf4,
 v4 := Tryz.zeroValue4,
 t5 := Tryz.underlying5,
 a5 := Tryz.isAgg5,
 z5 := Tryz.sizeOf5,
 v5 := Tryz.zeroValue5,
 t9 := Tryz.underlying9,
 a9 := Tryz.isAgg9,
 z9 := Tryz.sizeOf9,
 v9 := Tryz.zeroValue9,
 t46 := Tryz.underlying196,
 a46 := Tryz.isAgg196,
 z46 := Tryz.sizeOf196,
 v46 := Tryz.zeroValue196,
 t51 := Tryz.underlying208,
 a51 := Tryz.isAgg208,
 z51 := Tryz.sizeOf208,
 v51 := Tryz.zeroValue208,
 t59 := Tryz.underlying151,
 a59 := Tryz.isAgg151,
 z59 := Tryz.sizeOf151,
 v59 := Tryz.zeroValue151,
 t146 := Tryz.underlying233,
 a146 := Tryz.isAgg233,
 z146 := Tryz.sizeOf233,
 v146 := Tryz.zeroValue233,
 g1 := by kernel_rfl,
 i3 := by kernel_rfl,
 i4 := by kernel_rfl,
 i5 := by kernel_rfl,
 i9 := by kernel_rfl,
 i46 := by kernel_rfl,
 i51 := by kernel_rfl,
 i59 := by kernel_rfl,
 i146 := by kernel_rfl,
 m1 := by kernel_rfl,
 s1_3 := fun w h => Go.Proofs.cell_of_shapedOpen_int (zero := #[.int .i64 0]) (t := 3) h (of_decide_eq_true (by kernel_rfl)) (by kernel_rfl) rfl (by kernel_rfl) (by kernel_rfl) Tryz.underlying3 }
def Tryz.joinL_ren : Go.Shelf.Ren := ⟨fun | 156 => 99 | 165 => 150 | 166 => 76 | 169 => 77 | 240 => 129 | 241 => 184 | 276 => 167 | 277 => 205 | n => n, fun | 31 => 95 | 9 => 9 | 3 => 3 | 4 => 4 | 0 => 0 | 20 => 20 | 72 => 132 | 76 => 135 | 70 => 130 | 37 => 61 | 75 => 134 | 127 => 174 | 164 => 211 | 5 => 5 | 80 => 137 | n => n, fun | n => n⟩
theorem Tryz.joinL : Go.Proofs.Lays.n156 Tryz.prog Tryz.joinL_ren := {
 mixed := by kernel_rfl,
 f156 := Tryz.func99.trans (congrArg some (by kernel_rfl)),
 f165 := Tryz.func150.trans (congrArg some (by kernel_rfl)),
 f166 := Tryz.func76.trans (congrArg some (by kernel_rfl)),
 f169 := Tryz.func77.trans (congrArg some (by kernel_rfl)),
 f240 := Tryz.func129.trans (congrArg some (by kernel_rfl)),
 f241 := Tryz.func184.trans (congrArg some (by kernel_rfl)),
 f276 := Tryz.func167.trans (congrArg some (by kernel_rfl)),
 f277 := Tryz.func205.trans (congrArg some (by kernel_rfl)),
 t0 := Tryz.underlying0,
 a0 := Tryz.isAgg0,
 z0 := Tryz.sizeOf0,
 v0 := Tryz.zeroValue0,
 t3 := Tryz.underlying3,
 a3 := Tryz.isAgg3,
 z3 := Tryz.sizeOf3,
 v3 := Tryz.zeroValue3,
 t4 := Tryz.underlying4,
 a4 := Tryz.isAgg4,
 z4 := Tryz.sizeOf4,
 v4 := Tryz.zeroValue4,
 t9 := Tryz.underlying9,
 a9 := Tryz.isAgg9,
 z9 := Tryz.sizeOf9,
 v9 := Tryz.zeroValue9,
 t20 := Tryz.underlying20,
 a20 := Tryz.isAgg20,
 z20 := Tryz.sizeOf20,
 v20 := Tryz.zeroValue20,
 t31 := Tryz.underlying95,
 a31 := Tryz.isAgg95,
 z31 := Tryz.sizeOf95,
 v31 := Tryz.zeroValue95,
 t37 := Tryz.underlying61,
 a37 := Tryz.isAgg61,
 z37 := Tryz.sizeOf61,
 v37 := Tryz.zeroValue61,
 t70 := Tryz.underlying130,
 a70 := Tryz.isAgg130,
 z70 := Tryz.sizeOf130,
 v70 := Tryz.zeroValue130,
 t72 := Tryz.underlying132,
 a72 := Tryz.isAgg132,
 z72 := Tryz.sizeOf132,
 v72 := Tryz.zeroValue132,
 t75 := Tryz.underlying134,
 a75 := Tryz.isAgg134,
 z75 := Tryz.sizeOf134,
 v75 := Tryz.zeroValue134,
 t76 := Tryz.underlying135,
 a76 := Tryz.isAgg135,
 z76 := Tryz.sizeOf135,
 v76 := Tryz.zeroValue135,
 t127 := Tryz.underlying174,
 a127 := Tryz.isAgg174,
 z127 := Tryz.sizeOf174,
 v127 := Tryz.zeroValue174,
 t164 := Tryz.underlying211,
 a164 := Tryz.isAgg211,
 z164 := Tryz.sizeOf211,
 v164 := Tryz.zeroValue211 }
theorem Tryz.bldXj : Builder.Extra Tryz.prog Tryz.joinL_ren := {
 sizeBuilder := by kernel_rfl, liesBuilder := by kernel_rfl, t5 := Tryz.underlying5, a5 := Tryz.isAgg5, z5 := Tryz.sizeOf5, v5 := Tryz.zeroValue5, infoByte := by kernel_rfl, cellsByte := by kernel_rfl, sizeByte := by kernel_rfl, neB5 := by decide }
def Tryz.idxL_ren : Go.Shelf.Ren := ⟨fun | 137 => 85 | 217 => 134 | 266 => 171 | n => n, fun | 9 => 9 | 5 => 5 | 3 => 3 | n => n, fun | n => n⟩
theorem Tryz.idxL : Go.Proofs.Lays.n137 Tryz.prog Tryz.idxL_ren := {
 mixed := by kernel_rfl,
 f137 := Tryz.func85.trans (congrArg some (by kernel_rfl)),
 f217 := Tryz.func134.trans (congrArg some (by kernel_rfl)),
 f266 := Tryz.func171.trans (congrArg some (by kernel_rfl)),
 t3 := Tryz.underlying3,
 a3 := Tryz.isAgg3,
 z3 := Tryz.sizeOf3,
 v3 := Tryz.zeroValue3,
 t5 := Tryz.underlying5,
 a5 := Tryz.isAgg5,
 z5 := Tryz.sizeOf5,
 v5 := Tryz.zeroValue5,
 t9 := Tryz.underlying9,
 a9 := Tryz.isAgg9,
 z9 := Tryz.sizeOf9,
 v9 := Tryz.zeroValue9 }
def Tryz.atoiL_ren : Go.Shelf.Ren := ⟨fun | 172 => 90 | 244 => 139 | 245 => 140 | 247 => 176 | 279 => 177 | 280 => 178 | 281 => 179 | 282 => 180 | 287 => 200 | 316 => 201 | 171 => 61 | 205 => 202 | 321 => 213 | 322 => 214 | 243 => 111 | 246 => 155 | 283 => 185 | 284 => 186 | 285 => 187 | 286 => 188 | 129 => 207 | 317 => 206 | 318 => 208 | 319 => 209 | 320 => 210 | 337 => 216 | 338 => 217 | n => n, fun | 9 => 9 | 3 => 3 | 75 => 134 | 76 => 135 | 4 => 4 | 5 => 5 | 167 => 220 | 37 => 61 | 0 => 0 | 85 => 221 | 2 => 2 | 168 => 223 | 53 => 228 | 175 => 251 | 46 => 196 | 210 => 254 | 127 => 174 | 145 => 271 | 143 => 269 | 21 => 21 | 171 => 227 | 173 => 231 | 212 => 259 | 51 => 208 | 20 => 20 | 213 => 260 | 232 => 273 | 233 => 274 | 80 => 137 | n => n, fun | 15 => 3 | 16 => 4 | 17 => 5 | 18 => 8 | 19 => 9 | n => n⟩
theorem Tryz.atoiL : Go.Proofs.LaysC.n172 Tryz.prog Tryz.atoiL_ren := {
 mixed := by kernel_rfl,
 f129 := Tryz.func207.trans (congrArg some (by kernel_rfl)),
 f171 := Tryz.func61.trans (congrArg some (by kernel_rfl)),
 f172 := Tryz.func90.trans (congrArg some (by kernel_rfl)),
 f205 := Tryz.func202.trans (congrArg some (by kernel_rfl)),
 f243 := Tryz.func111.trans (congrArg some (by kernel_rfl)),
 f244 := Tryz.func139.trans (congrArg some (by kernel_rfl)),
 f245 := Tryz.func140.trans (congrArg some (by kernel_rfl)),
 f246 := Tryz.func155.trans (congrArg some (by kernel_rfl)),
 f247 := Tryz.func176.trans (congrArg some (by kernel_rfl)),
 f279 := Tryz.func177.trans (congrArg some (by kernel_rfl)),
 f280 := Tryz.func178.trans (congrArg some (by kernel_rfl)),
 f281 := Tryz.func179.trans (congrArg some (by kernel_rfl)),
 f282 := Tryz.func180.trans (congrArg some (by kernel_rfl)),
 f283 := Tryz.func185.trans (congrArg some (by kernel_rfl)),
 f284 := Tryz.func186.trans (congrArg some (by kernel_rfl)),
 f285 := Tryz.func187.trans (congrArg some (by kernel_rfl)),
 f286 := Tryz.func188.trans (congrArg some (by kernel_rfl)),
 f287 := Tryz.func200.trans (congrArg some (by kernel_rfl)),
 f316 := Tryz.func201.trans (congrArg some (by kernel_rfl)),
 f317 := Tryz.func206.trans (congrArg some (by kernel_rfl)),
 f318 := Tryz.func208.trans (congrArg some (by kernel_rfl)),
 f319 := Tryz.func209.trans (congrArg some (by kernel_rfl)),
 f320 := Tryz.func210.trans (congrArg some (by kernel_rfl)),
 f321 := Tryz.func213.trans (congrArg some (by kernel_rfl)),
 f322 := Tryz.func214.trans (congrArg some (by kernel_rfl)),
 f337 := Tryz.func216.trans (congrArg some (by kernel_rfl)),
 f338 := Tryz.func217.trans (congrArg some (by kernel_rfl)),
 t0 := Tryz.underlying0,
 a0 := Tryz.isAgg0,
 z0 := Tryz.sizeOf0,
 v0 := Tryz.zeroValue0,
 t2 := Tryz.underlying2,
 a2 := Tryz.isAgg2,
 z2 := Tryz.sizeOf2,
 v2 := Tryz.zeroValue2,
 t3 := Tryz.underlying3,
 a3 := Tryz.isAgg3,
 z3 := Tryz.sizeOf3,
 v3 := Tryz.zeroValue3,
 t4 := Tryz.underlying4,
 a4 := Tryz.isAgg4,
 z4 := Tryz.sizeOf4,
 v4 := Tryz.zeroValue4,
 t5 := Tryz.underlying5,
 a5 := Tryz.isAgg5,
 z5 := Tryz.sizeOf5,
 v5 := Tryz.zeroValue5,
 t9 := Tryz.underlying9,
 a9 := Tryz.isAgg9,
 z9 := Tryz.sizeOf9,
 v9 := Tryz.zeroValue9,
 t20 := Tryz.underlying20,
 a20 := Tryz.isAgg20,
 z20 := Tryz.sizeOf20,
 v20 := Tryz.zeroValue20,
 t21 := Tryz.underlying21,
 a21 := Tryz.isAgg21,
 z21 := Tryz.sizeOf21,
 v21 := Tryz.zeroValue21,
 t37 := Tryz.underlying61,
 a37 := Tryz.isAgg61,
 z37 := Tryz.sizeOf61,
 v37 := Tryz.zeroValue61,
 t46 := Tryz.underlying196,
 a46 := Tryz.isAgg196,
 z46 := Tryz.sizeOf196,
 v46 := Tryz.zeroValue196,
 t51 := Tryz.underlying208,
 a51 := Tryz.isAgg208,
 z51 := Tryz.sizeOf208,
 v51 := Tryz.zeroValue208,
 t53 := Tryz.underlying228,
 a53 := Tryz.isAgg228,
 z53 := Tryz.sizeOf228,
 v53 := Tryz.zeroValue228,
 t75 := Tryz.underlying134,
 a75 := Tryz.isAgg134,
 z75 := Tryz.sizeOf134,
 v75 := Tryz.zeroValue134,
 t76 := Tryz.underlying135,
 a76 := Tryz.isAgg135,
 z76 := Tryz.sizeOf135,
 v76 := Tryz.zeroValue135,
 t85 := Tryz.underlying221,
 a85 := Tryz.isAgg221,
 z85 := Tryz.sizeOf221,
 v85 := Tryz.zeroValue221,
 t127 := Tryz.underlying174,
 a127 := Tryz.isAgg174,
 z127 := Tryz.sizeOf174,
 v127 := Tryz.zeroValue174,
 t143 := Tryz.underlying269,
 a143 := Tryz.isAgg269,
 z143 := Tryz.sizeOf269,
 v143 := Tryz.zeroValue269,
 t145 := Tryz.underlying271,
 a145 := Tryz.isAgg271,
 z145 := Tryz.sizeOf271,
 v145 := Tryz.zeroValue271,
 t167 := Tryz.underlying220,
 a167 := Tryz.isAgg220,
 z167 := Tryz.sizeOf220,
 v167 := Tryz.zeroValue220,
 t168 := Tryz.underlying223,
 a168 := Tryz.isAgg223,
 z168 := Tryz.sizeOf223,
 v168 := Tryz.zeroValue223,
 t171 := Tryz.underlying227,
 a171 := Tryz.isAgg227,
 z171 := Tryz.sizeOf227,
 v171 := Tryz.zeroValue227,
 t173 := Tryz.underlying231,
 a173 := Tryz.isAgg231,
 z173 := Tryz.sizeOf231,
 v173 := Tryz.zeroValue231,
 t175 := Tryz.underlying251,
 a175 := Tryz.isAgg251,
 z175 := Tryz.sizeOf251,
 v175 := Tryz.zeroValue251,
 t210 := Tryz.underlying254,
 a210 := Tryz.isAgg254,
 z210 := Tryz.sizeOf254,
 v210 := Tryz.zeroValue254,
 t212 := Tryz.underlying259,
 a212 := Tryz.isAgg259,
 z212 := Tryz.sizeOf259,
 v212 := Tryz.zeroValue259,
 t213 := Tryz.underlying260,
 a213 := Tryz.isAgg260,
 z213 := Tryz.sizeOf260,
 t232 := Tryz.underlying273,
 a232 := Tryz.isAgg273,
 z232 := Tryz.sizeOf273,
 v232 := Tryz.zeroValue273,
 t233 := Tryz.underlying274,
 a233 := Tryz.isAgg274,
 z233 := Tryz.sizeOf274,
 v233 := Tryz.zeroValue274,
 g15 := by kernel_rfl,
 g16 := by kernel_rfl,
 g17 := by kernel_rfl,
 g18 := by kernel_rfl,
 g19 := by kernel_rfl,
 t80 := Tryz.underlying137,
 a80 := Tryz.isAgg137,
 z80 := Tryz.sizeOf137,
 v80 := Tryz.zeroValue137,
 i0 := by kernel_rfl,
 i2 := by kernel_rfl,
 i3 := by kernel_rfl,
 i4 := by kernel_rfl,
 i5 := by kernel_rfl,
 i9 := by kernel_rfl,
 i20 := by kernel_rfl,
 i21 := by kernel_rfl,
 i37 := by kernel_rfl,
 i46 := by kernel_rfl,
 i51 := by kernel_rfl,
 i53 := by kernel_rfl,
 i75 := by kernel_rfl,
 i76 := by kernel_rfl,
 i80 := by kernel_rfl,
 i85 := by kernel_rfl,
 i127 := by kernel_rfl,
 i143 := by kernel_rfl,
 i145 := by kernel_rfl,
 i167 := by kernel_rfl,
 i168 := by kernel_rfl,
 i171 := by kernel_rfl,
 i173 := by kernel_rfl,
 i175 := by kernel_rfl,
 i210 := by kernel_rfl,
 i212 := by kernel_rfl,
 i232 := by kernel_rfl,
 i233 := by kernel_rfl,
 m15 := by kernel_rfl,
 m16 := by kernel_rfl,
 m17 := by kernel_rfl,
 m18 := by kernel_rfl,
 m19 := by kernel_rfl,
 c0 := by kernel_rfl,
 c2 := by kernel_rfl,
 c3 := by kernel_rfl,
 c4 := by kernel_rfl,
 c5 := by kernel_rfl,
 c9 := by kernel_rfl,
 c20 := by kernel_rfl,
 c21 := by kernel_rfl,
 c37 := by kernel_rfl,
 c46 := by kernel_rfl,
 c51 := by kernel_rfl,
 c53 := by kernel_rfl,
 c75 := by kernel_rfl,
 c76 := by kernel_rfl,
 c80 := by kernel_rfl,
 c85 := by kernel_rfl,
 c127 := by kernel_rfl,
 c143 := by kernel_rfl,
 c145 := by kernel_rfl,
 c167 := by kernel_rfl,
 c168 := by kernel_rfl,
 c171 := by kernel_rfl,
 c173 := by kernel_rfl,
 c175 := by kernel_rfl,
 c210 := by kernel_rfl,
 c212 := by kernel_rfl,
 c213 := by kernel_rfl,
 c232 := by kernel_rfl,
 c233 := by kernel_rfl }
end Go.Proofs
namespace Go.Proofs.Tryz
open Go.Psl
open Go.Log
open Go.RowKit
open Go.Sort
theorem tab_of {W Wr : World} {g : Nat} {c : Array Value} (h : tabW Wr g c) (h2 : ∀ k, k < Wr.heap.size -> W.heap[k]? = Wr.heap[k]?) : tabW W g c := by
 obtain ⟨T, fz, hb⟩ := h
 exact ⟨T, fz, (h2 g (Array.getElem?_eq_some_iff.1 hb).1).trans hb⟩
theorem tab_var {W : World} {g : Nat} {c : Array Value} (h : tabW W g c) {name : String} (hn : prog.globalNamed name = some g) : W.var? prog name = some c := by
 obtain ⟨T, fz, hb⟩ := h
 simp [World.var?, hn, hb]
theorem tab_cell {W : World} {g : Nat} {v : Value} (h : tabW W g #[v]) : W.cell? ⟨g, 0, none⟩ = some v := by
 obtain ⟨T, fz, hb⟩ := h
 simp [World.cell?, hb]
theorem globPow {W : World} (h : GlobN W) : Go.Lib.TabIs prog W "internal/strconv.uint64pow10" .u64 Go.Lib.pow10Tab := by
 obtain ⟨Wr, h1, h2⟩ := h
 have := h1 gPow (by decide)
 have h3 : tabW Wr gPow ((List.range 20).map fun i => Value.int .u64 ((10 ^ i : Nat) : Int)).toArray := by
   simpa [globAt, gPow, gMax, gSyn, gRng] using this
 have h4 := tab_var (tab_of h3 h2) (name := "internal/strconv.uint64pow10") itoaL.m17
 unfold Go.Lib.TabIs
 rw [h4]
 simp [Go.Lib.pow10Tab]
theorem globMax {W : World} (h : GlobN W) : ∃ m, W.cell? ⟨gMax, 0, none⟩ = some (.int .i64 m) := by
 obtain ⟨Wr, h1, h2⟩ := h
 have := h1 gMax (by decide)
 obtain ⟨m, h3⟩ : ∃ m, tabW Wr gMax #[.int .i64 m] := by simpa [globAt] using this
 exact ⟨m, tab_cell (tab_of h3 h2)⟩
theorem grow_below {W : World} {k : Nat} {os : Array Obj} : Below W.heap.size W (grow (W.drewN k) os) := by
 refine ⟨rfl, rfl, rfl, ?_, fun b hb => ?_⟩
 . show W.heap.size <= (W.heap ++ os).size
   simp
 . show (W.heap ++ os)[b]? = _
   rw [Array.getElem?_append_left hb]
theorem fn61 (n : Int) (h0 : -9223372036854775808 <= n) (h1 : n <= 9223372036854775807) : Ct prog 61 [vi n] (vS (Go.Lib.itoa n)) [] :=
 Cm.ofLit (vs0 := [.int .i64 n]) (v := .string (bs (Go.Lib.itoa n))) ⟨_, func61, by kernel_rfl, by decide⟩ rfl fun W hW =>
   Calls.mono (Go.Proofs.Any.strconv_Itoa itoaL n h0 h1 W (globPow hW)) fun e W' ⟨he, k, os, hw⟩ => ⟨he, by rw [hw]; exact grow_below⟩
theorem fn94 (s sep : By) (hs : s.length < 4294967281) : Ct prog 94 [vS s, vS sep] (.tup [vS (Go.Lib.cut s sep).1, vS (Go.Lib.cut s sep).2.1, vb (Go.Lib.cut s sep).2.2]) [] :=
 Cm.ofTup (vs0 := [.string (bs s), .string (bs sep)]) (vs := [.string (bs (Go.Lib.cut s sep).1), .string (bs (Go.Lib.cut s sep).2.1), .bool (Go.Lib.cut s sep).2.2]) ⟨_, func94, by kernel_rfl, by decide⟩ (by simp [flatV]) fun W hW => by
   obtain ⟨m, hm⟩ := globMax hW
   have h := Go.Proofs.Any.strings_Cut { cutL with } (bs s) (bs sep) m W (by simpa using hs) hm
   simp only [bs_toList] at h
   exact Calls.mono h fun e W' ⟨he, k, hw⟩ => ⟨he, by rw [hw]; exact ⟨rfl, rfl, rfl, Nat.le_refl _, fun _ _ => rfl⟩⟩
theorem fn42 (s sep : By) (hs : s.length < 4294967281) (h1 : 1 <= sep.length) : Ct prog 42 [vS s, vS sep] (.ls 0 0 (Go.Lib.splitB (bs sep) 0 (Go.Lib.countB (bs s) (bs sep)) (bs s)).length 1) [(0, (Go.Lib.splitB (bs sep) 0 (Go.Lib.countB (bs s) (bs sep)) (bs s)).map fun x => .d (.lit (.string x)))] := by
 have hlen := Go.Lib.splitB_all (bs sep) (by simpa using h1) 0 _ (bs s) rfl
 have hle := Go.Lib.countB_le (bs sep) (by simpa using h1) (bs s).size (bs s) (Nat.le_refl _)
 have key := Cm.ofRow (P := prog) (f := 42) (vs0 := [.string (bs s), .string (bs sep)]) (vs := (Go.Lib.splitB (bs sep) 0 (Go.Lib.countB (bs s) (bs sep)) (bs s)).map Value.string) (T := 9) ⟨_, func42, by kernel_rfl, by decide⟩ (by
   intro v hv; obtain ⟨x, _, rfl⟩ := List.mem_map.1 hv; rfl) (by
   rw [List.length_map, hlen]; simp at hle hs ⊢; omega) fun W hW => by
   obtain ⟨m, hm⟩ := globMax hW
   have h := Go.Proofs.Any.strings_Split { splitL with } splitL.i9 (bs s) (bs sep) m W (by simpa using hs) hm (by simpa using h1)
   rw [List.length_map, hlen]
   exact h
 rw [List.length_map, List.map_map] at key
 exact key
end Go.Proofs.Tryz
namespace Go.Psl
open Go.Proofs Go.Shelf Go.RowKit Go.Lib
variable {P : Program} {ρ : Ren}
theorem two_args {G : Gh} {W : World} {a b : V} {xs : Array Value} (h : All2 (R2 G W) [a, b] xs.toList) : ∃ u v, xs = #[u, v] /\ R2 G W a u /\ R2 G W b v := by
 obtain ⟨xs⟩ := xs
 match xs, h with
 | [u, v], h => exact ⟨u, v, rfl, h.1, h.2.1⟩
 | [], h => exact h.elim
 | [_], h => exact h.2.elim
 | _ :: _ :: _ :: _, h => exact h.2.2.elim
end Go.Psl
namespace Go.Proofs.Tryz
open Go.Psl
open Go.Log
open Go.RowKit
abbrev strsV (l : List By) : List V := l.map fun x => vS x
theorem fn99 (k : Nat) (xs : List By) (sep : By) (h0 : xs ≠ []) (hN : xs.length <= 1000000) (hlen : (Go.Lib.join xs sep).length <= 140737488355328) : Cm prog 99 [.ls k 0 xs.length 1, vS sep] (lk [(k, strsV xs)]) [] (.ret (vS (Go.Lib.join xs sep))) (lk []) := by
 refine ⟨⟨_, func99, by kernel_rfl, by decide⟩, fun G W as0 hGW hargs hpre => ?_⟩
 obtain ⟨u, v0, rfl, hu, hs⟩ := two_args hargs
 have := rv_lit hs.rv
 subst this
 have hx0 : 0 < xs.length := List.length_pos_iff.2 h0
 obtain ⟨_, ⟨_, h, _⟩ | ⟨hph, o, cap, rfl, hcap, ho⟩⟩ := hu
 . omega
 obtain ⟨rfl, _⟩ := ho (by omega)
 obtain ⟨hnim, c, T, hb, hbs, hcl, hcr, _⟩ := (hpre.hb k (strsV xs) (by simp [lk])).read hph
 have hcell : ∀ (j : Nat) (x : ByteArray), (xs.map bs)[j]? = some x -> W.cell? ⟨G.β k, 0 + j, none⟩ = some (.string x) := fun j x hx => by
   rw [List.getElem?_map] at hx
   cases hj : xs[j]? with
   | none => rw [hj] at hx; cases hx
   | some y =>
     rw [hj] at hx
     cases hx
     have hy : (strsV xs)[j]? = some (vS y) := by simp [strsV, hj]
     obtain ⟨z, hz, hr⟩ := hcr.get hy
     rw [List.getElem?_take] at hz
     split at hz
     . have := rv_lit hr.r2.rv
       subst this
       simp only [World.cell?, hb, Nat.zero_add]
       simpa using hz
     . cases hz
 have hmap : (xs.map bs).map (·.data.toList) = xs := by
   rw [List.map_map]
   conv => rhs; rw [<- List.map_id xs]
   exact List.map_congr_left fun x _ => bs_toList x
 have key := Go.Proofs.Any.strings_Join joinL bldXj (G.β k) 0 cap (xs.map bs) (bs sep) W hcell (Array.getElem?_eq_some_iff.1 hb).1 (by simpa using (by omega : xs.length <= 140737488355328)) (by simpa using hcap) (by rw [hmap, bs_toList]; exact hlen)
 rw [hmap, bs_toList, List.length_map] at key
 refine Calls.mono key fun e W' ⟨he, hbw⟩ => ?_
 subst he
 exact ⟨G, ⟨hbw.os, hbw.tape, hbw.output, Nat.le_refl _, hbw.size, fun b hb' _ => hbw.block b hb', fun b hb' => ⟨Nat.lt_of_lt_of_le (hGW.1 b hb') hbw.size, .inl hb'⟩, fun _ h => h, RD.lit _ rfl, trivial, fun i cs h => (by cases h), fun i j h => (by simp [InH, lk] at h), fun i h => (by cases h)⟩⟩
end Go.Proofs.Tryz
namespace Go.Log
def sumS : By -> Int -> Int
 | [], c => c
 | b :: r, c => sumS r ((c * 31 + (b.toNat : Int)) % 673)
theorem u8_lt (b : UInt8) : (b.toNat : Int) < 256 := by have := b.toNat_lt; omega
theorem sumS_bd : ∀ (s : By) (c : Int), 0 <= c -> c <= 1000000 -> 0 <= sumS s c /\ sumS s c <= 1000000
 | [], c, h0, h1 => ⟨h0, h1⟩
 | b :: r, c, h0, h1 => by
   unfold sumS
   exact sumS_bd r _ (Int.emod_nonneg _ (by decide)) (by have := Int.emod_lt_of_pos (c * 31 + (b.toNat : Int)) (show (0 : Int) < 673 by decide); omega)
theorem sumS_lt (s : By) (c : Int) (h0 : 0 <= c) (h1 : c < 673) : 0 <= sumS s c /\ sumS s c < 673 := by
 induction s generalizing c with
 | nil => exact ⟨h0, h1⟩
 | cons b r ih =>
   unfold sumS
   exact ih _ (Int.emod_nonneg _ (by decide)) (Int.emod_lt_of_pos _ (by decide))
theorem sumS_snoc (s : By) (b : UInt8) (c : Int) : sumS (s ++ [b]) c = (sumS s c * 31 + (b.toNat : Int)) % 673 := by
 induction s generalizing c with
 | nil => rfl
 | cons a r ih => simp only [List.cons_append, sumS, ih]
theorem sumS_take {s : By} {i : Nat} {b : UInt8} (h : s[i]? = some b) (c : Int) : sumS (s.take (i + 1)) c = (sumS (s.take i) c * 31 + (b.toNat : Int)) % 673 := by
 rw [List.take_add_one, h]
 exact sumS_snoc _ _ _
def numS (n : Int) : By := Go.Lib.itoa n
def headS (s : By) (n : Int) : By := [76, 79, 71, 32] ++ s ++ [32] ++ numS n
def partsS (x : Etr) : List By := [numS x.t, x.w] ++ x.a.map numS ++ (if x.n = [] then [] else [[59], x.n])
def bodyS (x : Etr) : By := Go.Lib.join (partsS x) [32]
theorem nDigits_le : ∀ (k u : Nat), u < 10 ^ (k + 1) -> Go.Lib.nDigits u <= k + 1
 | 0, u, h => by rw [Go.Lib.nDigits_small (by simpa using h)]; omega
 | k + 1, u, h => by
   by_cases hu : u < 10
   . rw [Go.Lib.nDigits_small hu]; omega
   . rw [Go.Lib.nDigits_big hu]
     have := nDigits_le k (u / 10) (by rw [Nat.div_lt_iff_lt_mul (by decide)]; rw [Nat.pow_succ] at h; omega)
     omega
theorem numS_len (n : Int) (h0 : -10000000000 < n) (h1 : n < 10000000000) : (numS n).length <= 11 := by
 unfold numS Go.Lib.itoa
 split
 . simp only [List.length_cons, Go.Lib.decDigits_length]
   have := nDigits_le 9 n.natAbs (by omega)
   omega
 . rw [Go.Lib.decDigits_length]
   have := nDigits_le 9 n.toNat (by omega)
   omega
theorem joinTail_len (sep : By) (m : Nat) : ∀ (r : List By), (∀ x ∈ r, x.length <= m) -> (Go.Lib.joinTail sep r).length <= r.length * (sep.length + m)
 | [], _ => by simp [Go.Lib.joinTail]
 | x :: r, h => by
   have h1 := h x (by simp)
   have ih := joinTail_len sep m r fun y hy => h y (by simp [hy])
   simp only [Go.Lib.joinTail, List.map_cons, List.flatten_cons, List.length_append, List.length_cons] at ih ⊢
   rw [Nat.add_mul]
   omega
theorem join_len (sep : By) (m : Nat) (xs : List By) (h : ∀ x ∈ xs, x.length <= m) : (Go.Lib.join xs sep).length <= xs.length * (sep.length + m) := by
 cases xs with
 | nil => simp [Go.Lib.join, List.intercalate]
 | cons x r =>
   rw [Go.Lib.join_cons]
   have h1 := h x (by simp)
   have ih := joinTail_len sep m r fun y hy => h y (by simp [hy])
   simp only [List.length_append, List.length_cons]
   rw [Nat.add_mul]
   omega
theorem entS_parts {x : Etr} (h : entS x = true) : (∀ y ∈ partsS x, y.length <= 40) /\ (partsS x).length <= 10 := by
 simp only [entS, wordS, madeS, betw, Bool.and_eq_true, decide_eq_true_eq] at h
 obtain ⟨⟨⟨⟨⟨ht0, ht1⟩, _, hw0, hw1⟩, ha⟩, hag⟩, hn⟩ := h
 have hnl : x.n.length <= 40 := by
   simp only [noteS, madeS, betw, Bool.or_eq_true, Bool.and_eq_true, decide_eq_true_eq] at hn
   rcases hn with hn | ⟨_, _, _, hn⟩
   . rw [hn]; simp
   . omega
 constructor
 . intro y hy
   simp only [partsS, List.mem_append, List.mem_cons, List.not_mem_nil, or_false, List.mem_map] at hy
   rcases hy with ((rfl | rfl) | ⟨n, hn', rfl⟩) | hy
   . have := numS_len x.t (by omega) (by omega); omega
   . omega
   . have := List.all_eq_true.1 hag n hn'
     simp only [argB, betw, Bool.and_eq_true, decide_eq_true_eq] at this
     have := numS_len n (by omega) (by omega); omega
   . split at hy
     . cases hy
     . simp only [List.mem_cons, List.not_mem_nil, or_false] at hy
       rcases hy with rfl | rfl
       . simp
       . exact hnl
 . simp only [partsS, List.length_append, List.length_cons, List.length_nil, List.length_map]
   split <;> simp <;> omega
theorem body_len {x : Etr} (h : entS x = true) : (bodyS x).length <= 410 := by
 obtain ⟨h1, h2⟩ := entS_parts h
 have := join_len [32] 40 (partsS x) h1
 unfold bodyS
 simp only [List.length_cons, List.length_nil] at this
 omega
theorem ordS_ents {es : List Etr} {last : Int} (h : ordS last es = true) : ∀ x ∈ es, entS x = true := by
 intro x hx
 obtain ⟨i, hi⟩ := List.getElem?_of_mem hx
 exact (ordS_drop h hi).1
end Go.Log
namespace Go.Proofs.Tryz
open Go.Psl
open Go.Log
theorem w_u8 (b : UInt8) : IntKind.wrap .i64 (b.toNat : Int) = (b.toNat : Int) := by have := u8_lt b; rw [wrap64 (by omega) (by omega)]
theorem fn50 (s : By) (c : Int) (h0 : 0 <= c) (h1 : c <= 1000000) (hl : s.length <= 1000000000) : Ct prog 50 [vS s, vi c] (vi (sumS s c)) [] := by
 refine CB func50 c50 fun E hE => ?_
 simp [p50]
 refine pw_loop (α := Nat) (fun i => ⟨slots [(0, vS s), (1, vi (sumS (s.take i) c)), (7, vi s.length), (8, vi i)], lk [], 0⟩) (fun i => i <= s.length) (fun i => s.length - i) 0 ?_ ?_ ?_
 . omega
 . refine Weak.mk hE (lk []) _ _ _ ?_ ?_ ?_ ?_ ?_ <;> simp [sumS]
 . intro i hi
   have hz := @wz i (by omega)
   by_cases h : i < s.length
   . obtain ⟨b, hb⟩ := gE h
     have hI : (i : Int) < s.length := by omega
     have hbd := sumS_bd (s.take i) c h0 h1
     have hb8 := u8_lt b
     have hw1 : IntKind.wrap .i64 (sumS (s.take i) c * 31) = sumS (s.take i) c * 31 := wrap64 (by omega) (by omega)
     have hw2 : IntKind.wrap .i64 (sumS (s.take i) c * 31 + (b.toNat : Int)) = sumS (s.take i) c * 31 + (b.toNat : Int) := wrap64 (by omega) (by omega)
     have hrem : (sumS (s.take i) c * 31 + (b.toNat : Int)).tmod 673 = sumS (s.take (i + 1)) c := by
       rw [sumS_take hb, Int.tmod_eq_emod_of_nonneg (by omega)]
     simp [p50l0, hI, hb, w_u8, hw1, hw2, hz, hrem]
     refine ⟨i + 1, by omega, by omega, ?_⟩
     exact WK hE (lk [])
   . have hI : ¬ (i : Int) < s.length := by omega
     have e : s.take i = s := List.take_of_length_le (by omega)
     simp [p50l0, hI]
     apply RZ
     simp [results50, e]
theorem fn46 (s : By) (n : Int) (hs : s.length <= 1000000) (h0 : -10000000000 < n) (h1 : n < 10000000000) : Ct prog 46 [vS s, vi n] (vS (headS s n)) [] := by
 have hl := numS_len n h0 h1
 have c1 := fn61 n (by omega) (by omega)
 change Ct prog _ _ (vS (numS n)) _ at c1
 have b1 : 4 + s.length <= 9223372036854775807 := by omega
 have b2 : s.length + 1 + 1 + 1 + 1 + 1 <= 9223372036854775807 := by omega
 have b3 : s.length + 1 + 1 + 1 + 1 + 1 + (numS n).length <= 9223372036854775807 := by omega
 refine CB func46 c46 fun E hE => ?_
 simp [p46, b1, b2]
 refine CLa c1 ?_
 simp [b3]
 apply RZ
 simp [results46, headS]
theorem numE {x : Etr} (h : entS x = true) : 0 <= x.t /\ x.t <= 1000000 /\ x.a.length <= 6 /\ ∀ n ∈ x.a, -1000000000 <= n /\ n <= 1000000000 := by
 simp only [entS, betw, Bool.and_eq_true, decide_eq_true_eq] at h
 refine ⟨h.1.1.1.1.1, h.1.1.1.1.2, h.1.1.2, fun n hn => ?_⟩
 have := List.all_eq_true.1 h.1.2 n hn
 simpa [argB, betw] using this
abbrev strL (x : By) : List D := [dS x]
theorem hfs : ∀ x : By, (strL x).length = 1 := fun _ => rfl
theorem strsV_eq (l : List By) : strsV l = fcel strL l := by
 induction l with
 | nil => rfl
 | cons a l ih => rw [fcel_cons, <- ih]; rfl
def bodyL (x : Etr) (i : Nat) : List By := [numS x.t, x.w] ++ (x.a.take i).map numS
theorem bodyL_zero (x : Etr) : fcel strL (bodyL x 0) = [vS (numS x.t), vS x.w] := by simp [bodyL, fcel]
theorem bodyL_succ {x : Etr} {i : Nat} {n : Int} (h : x.a[i]? = some n) : bodyL x (i + 1) = bodyL x i ++ [numS n] := by
 simp [bodyL, List.take_add_one, h]
theorem bodyL_len {x : Etr} {i : Nat} (h : i <= x.a.length) : (bodyL x i).length = i + 2 := by
 simp [bodyL]; omega
theorem body_none {x : Etr} (h : x.n = []) : partsS x = bodyL x x.a.length := by simp [partsS, bodyL, h]
theorem body_some {x : Etr} (h : ¬ x.n = []) : partsS x = bodyL x x.a.length ++ [[59], x.n] := by simp [partsS, bodyL, h]
theorem fn99f (k : Nat) (xs : List By) (sep : By) (n : Nat) (hn : xs.length = n) (h0 : 0 < n) (hN : n <= 1000000) (hlen : (Go.Lib.join xs sep).length <= 1000000000) : Cm prog 99 [.ls k 0 n 1, vS sep] (lk [(k, fcel strL xs)]) [] (.ret (vS (Go.Lib.join xs sep))) (lk []) := by
 have h := fn99 k xs sep (fun e => by rw [e] at hn; simp at hn; omega) (by omega) (by omega)
 rw [strsV_eq, hn] at h
 exact h
theorem fn49 (x : Etr) (hx : entS x = true) : Ct prog 49 [entV x] (vS (bodyS x)) [] := by
 obtain ⟨t0, t1, hal, hag⟩ := numE hx
 obtain ⟨hp1, hp2⟩ := entS_parts hx
 have hjl : (bodyS x).length <= 410 := body_len hx
 have c1 := fn61 x.t (by omega) (by omega)
 change Ct prog _ _ (vS (numS x.t)) _ at c1
 refine CB func49 c49 fun E hE => ?_
 simp [p49, inC, Nat.testBit]
 refine CLa c1 ?_
 simp [splice, repl]
 refine pw_loop (α := Nat) (fun i => ⟨slots [(1, .lp 0 0), (3, .ls 1 0 (i + 2) 1), (13, .d (intsD x.a)), (14, vi x.a.length), (15, vi i)], lk [(0, [vi x.t, vS x.w, .d (intsD x.a), vS x.n]), (1, fcel strL (bodyL x i))], 2⟩) (fun i => i <= x.a.length) (fun i => x.a.length - i) 0 ?_ ?_ ?_
 . omega
 . rw [bodyL_zero]
   exact WK hE (lk [(0, 0), (1, 7340032)])
 . intro i hi
   have hsl := fcel_len hfs (bodyL x i)
   have hwh := fcel_whole hfs (bodyL x i)
   rw [bodyL_len hi, Nat.mul_one] at hsl hwh
   by_cases h : i < x.a.length
   . obtain ⟨n, hn⟩ := gE h
     have hz := @wz i (by omega)
     have hI : (i : Int) < x.a.length := by omega
     obtain ⟨g0, g1⟩ := hag n (List.mem_of_getElem? hn)
     have c2 := fn61 n (by omega) (by omega)
     change Ct prog _ _ (vS (numS n)) _ at c2
     have n1 : (i + 2 + 1) * 16 <= 140737488355328 := by omega
     have n2 : i + 2 + 1 <= 9223372036854775807 := by omega
     simp [p49l0, hI, hn]
     refine CLa c2 ?_
     simp [splice, repl, hz, hsl, hwh, n1, n2]
     refine ⟨i + 1, by omega, by omega, ?_⟩
     rw [bodyL_succ hn, fcel_one]
     refine Weak.mk hE (lk [(0, 0), (1, 8388610)]) _ _ _ ?_ ?_ ?_ ?_ ?_ <;> simp [(show i + 2 + 1 = i + 1 + 2 by omega)]
   . have hI : ¬ (i : Int) < x.a.length := by omega
     have e : i = x.a.length := by omega
     subst e
     by_cases hnn : x.n = []
     . have c3 := fn99f 1 (bodyL x x.a.length) [32] (x.a.length + 2) (bodyL_len hi) (by omega) (by omega) (by rw [<- body_none hnn]; show (bodyS x).length <= _; omega)
       change Cm prog _ _ _ _ (.ret (vS (Go.Lib.join (bodyL x x.a.length) [32]))) _ at c3
       have hb : Go.Lib.join (bodyL x x.a.length) [32] = bodyS x := by rw [<- body_none hnn]; rfl
       rw [hb] at c3
       simp [p49l0, hI, hnn]
       refine CRs c3 (by simp) ?_
       simp
       apply RZ
       simp [results49]
     . have n1 : (x.a.length + 2 + 2) * 16 <= 140737488355328 := by omega
       have n2 : x.a.length + 2 + 2 <= 9223372036854775807 := by omega
       have ef : fcel strL (bodyL x x.a.length) ++ [vS [59], vS x.n] = fcel strL (partsS x) := by rw [body_some hnn, <- fcel_app]; rfl
       have c3 := fn99f 8388610 (partsS x) [32] (x.a.length + 2 + 2) (by rw [body_some hnn, List.length_append, bodyL_len hi]; rfl) (by omega) (by omega) (by show (bodyS x).length <= _; omega)
       change Cm prog _ _ _ _ (.ret (vS (bodyS x))) _ at c3
       rw [<- ef] at c3
       simp [p49l0, hI, hnn, splice, repl, hsl, hwh, n1, n2]
       refine CRs c3 (by simp) ?_
       simp
       apply RZ
       simp [results49]
theorem wrapu8 {x : Int} (h1 : 0 <= x) (h2 : x < 256) : IntKind.wrap .u8 x = x := by
 have : x % 256 = x := by omega
 simpa [IntKind.wrap, IntKind.bits, IntKind.signed] using this
theorem ship_len {s : By} (h : shipS s = true) : 1 <= s.length /\ s.length <= 8 := by
 simp only [shipS, madeS, betw, Bool.and_eq_true, decide_eq_true_eq] at h
 omega
theorem num_neg {n : Int} (h : n < 0) : numS n = 45 :: numS (-n) := by
 unfold numS Go.Lib.itoa
 rw [if_pos h, if_neg (by omega)]
 congr 2
 omega
theorem num_one {n : Int} (h0 : 0 <= n) (h1 : n < 10) : numS n = [UInt8.ofNat (48 + n).toNat] := by
 unfold numS Go.Lib.itoa
 rw [if_neg (by omega), Go.Lib.decDigits_one (by omega)]
 congr 2
 omega
theorem num_two {n : Int} (h : 10 <= n) : numS n = numS (n / 10) ++ numS (n % 10) := by
 rw [num_one (n := n % 10) (by omega) (by omega)]
 unfold numS Go.Lib.itoa
 rw [if_neg (by omega), if_neg (by omega), Go.Lib.decDigits, dif_neg (by omega)]
 congr 2
 . congr 1; omega
 . congr 1; omega
theorem num_len13 (n : Int) (h0 : -100000000000000 < n) (h1 : n < 100000000000000) : (numS n).length <= 15 := by
 unfold numS Go.Lib.itoa
 split
 . simp only [List.length_cons, Go.Lib.decDigits_length]
   have := nDigits_le 13 n.natAbs (by omega)
   omega
 . rw [Go.Lib.decDigits_length]
   have := nDigits_le 13 n.toNat (by omega)
   omega
theorem number_nn (m : Nat) : ∀ n : Int, 0 <= n -> n.toNat <= m -> n < 100000000000000 -> Ct prog 104 [vi n] (vS (numS n)) [] := by
 induction m using Nat.strongRecOn with
 | _ m ih =>
   intro n h0 h1 h2
   have hn0 : ¬ n < 0 := by omega
   by_cases h : n < 10
   . have w1 : IntKind.wrap .i64 (48 + n) = 48 + n := wrap64 (by omega) (by omega)
     have w2 : IntKind.wrap .u8 (48 + n) = 48 + n := wrapu8 (by omega) (by omega)
     have k1 : (0 : Int) <= 48 + n /\ 48 + n < 256 := by omega
     refine CB func104 c104 fun E hE => ?_
     simp [p104, hn0, h, w1, w2, k1, splice, repl]
     apply RZ
     simp [results104, num_one h0 h]
   . have q1 : n.tdiv 10 = n / 10 := Int.tdiv_eq_ediv_of_nonneg h0
     have q2 : n.tmod 10 = n % 10 := Int.tmod_eq_emod_of_nonneg h0
     have w1 : IntKind.wrap .i64 (n / 10) = n / 10 := wrap64 (by omega) (by omega)
     have c1 := ih (n / 10).toNat (by omega) (n / 10) (by omega) (by omega) (by omega)
     have c2 := ih (n % 10).toNat (by omega) (n % 10) (by omega) (by omega) (by omega)
     have l1 := num_len13 (n / 10) (by omega) (by omega)
     have l2 := num_len13 (n % 10) (by omega) (by omega)
     have b1 : (numS (n / 10)).length + (numS (n % 10)).length <= 9223372036854775807 := by omega
     refine CB func104 c104 fun E hE => ?_
     simp [p104, hn0, h, q1, w1]
     refine CLa c1 ?_
     simp [q2]
     refine CLa c2 ?_
     simp [b1]
     apply RZ
     simp [results104, num_two (n := n) (by omega)]
theorem fn104 (n : Int) (h0 : -100000000000000 < n) (h1 : n < 100000000000000) : Ct prog 104 [vi n] (vS (numS n)) [] := by
 by_cases h : n < 0
 . have c1 := number_nn _ (-n) (by omega) (Nat.le_refl _) (by omega)
   have w1 : IntKind.wrap .i64 (-n) = -n := wrap64 (by omega) (by omega)
   have l1 := num_len13 (-n) (by omega) (by omega)
   have b1 : 1 + (numS (-n)).length <= 9223372036854775807 := by omega
   have b2 : (numS (-n)).length + 1 <= 9223372036854775807 := by omega
   refine CB func104 c104 fun E hE => ?_
   simp [p104, h, w1]
   refine CLa c1 ?_
   simp [b1]
   apply RZ
   simp [results104, num_neg h]
 . exact number_nn _ n (by omega) (Nat.le_refl _) h1
theorem fn56 (s : By) (c : Int) (h0 : 0 <= c) (h1 : c <= 1000000) (hl : s.length <= 1000000000) : Ct prog 56 [vS s, vi c] (vi (sumS s c)) [] := by
 refine CB func56 c56 fun E hE => ?_
 simp [p56]
 refine pw_loop (α := Nat) (fun i => ⟨slots [(0, vS s), (5, vi (sumS (s.take i) c)), (6, vi i)], lk [], 0⟩) (fun i => i <= s.length) (fun i => s.length - i) 0 ?_ ?_ ?_
 . omega
 . refine Weak.mk hE (lk []) _ _ _ ?_ ?_ ?_ ?_ ?_ <;> simp [sumS]
 . intro i hi
   have hz := @wz i (by omega)
   by_cases h : i < s.length
   . obtain ⟨b, hb⟩ := gE h
     have hI : (i : Int) < s.length := by omega
     have hbd := sumS_bd (s.take i) c h0 h1
     have hb8 := u8_lt b
     have hw1 : IntKind.wrap .i64 (sumS (s.take i) c * 31) = sumS (s.take i) c * 31 := wrap64 (by omega) (by omega)
     have hw2 : IntKind.wrap .i64 (sumS (s.take i) c * 31 + (b.toNat : Int)) = sumS (s.take i) c * 31 + (b.toNat : Int) := wrap64 (by omega) (by omega)
     have hrem : (sumS (s.take i) c * 31 + (b.toNat : Int)).tmod 673 = sumS (s.take (i + 1)) c := by
       rw [sumS_take hb, Int.tmod_eq_emod_of_nonneg (by omega)]
     simp [p56l0, hI, hb, w_u8, hw1, hw2, hz, hrem]
     refine ⟨i + 1, by omega, by omega, ?_⟩
     exact WK hE (lk [])
   . have hI : ¬ (i : Int) < s.length := by omega
     have e : s.take i = s := List.take_of_length_le (by omega)
     simp [p56l0, hI]
     apply RZ
     simp [results56, e]
theorem join_app {sep : By} {l r : List By} (h : l ≠ []) : Go.Lib.join (l ++ r) sep = Go.Lib.join l sep ++ Go.Lib.joinTail sep r := by
 obtain ⟨x, t, rfl⟩ := List.exists_cons_of_ne_nil h
 rw [List.cons_append, Go.Lib.join_cons, Go.Lib.join_cons]
 simp [Go.Lib.joinTail]
theorem bodyL_ne (x : Etr) (i : Nat) : bodyL x i ≠ [] := by simp [bodyL]
theorem bodyP_zero (x : Etr) : Go.Lib.join (bodyL x 0) [32] = numS x.t ++ 32 :: x.w := by
 simp [bodyL, Go.Lib.join_cons, Go.Lib.joinTail]
theorem bodyP_succ {x : Etr} {i : Nat} {n : Int} (h : x.a[i]? = some n) : Go.Lib.join (bodyL x (i + 1)) [32] = Go.Lib.join (bodyL x i) [32] ++ 32 :: numS n := by
 rw [bodyL_succ h, join_app (bodyL_ne x i)]
 simp [Go.Lib.joinTail]
theorem bodyP_note {x : Etr} (h : ¬ x.n = []) : bodyS x = Go.Lib.join (bodyL x x.a.length) [32] ++ 32 :: 59 :: 32 :: x.n := by
 unfold bodyS
 rw [body_some h, join_app (bodyL_ne x _)]
 simp [Go.Lib.joinTail]
theorem bodyP_none {x : Etr} (h : x.n = []) : bodyS x = Go.Lib.join (bodyL x x.a.length) [32] := by
 unfold bodyS
 rw [body_none h]
theorem bodyP_len {x : Etr} (h : entS x = true) {i : Nat} (hi : i <= x.a.length) : (Go.Lib.join (bodyL x i) [32]).length <= 410 := by
 obtain ⟨h1, h2⟩ := entS_parts h
 have hm : ∀ y ∈ bodyL x i, y.length <= 40 := fun y hy => h1 y (by
   simp only [bodyL, partsS, List.mem_append, List.mem_cons, List.not_mem_nil, or_false, List.mem_map] at hy ⊢
   rcases hy with hy | ⟨n, hn, rfl⟩
   . exact .inl (.inl hy)
   . exact .inl (.inr ⟨n, List.mem_of_mem_take hn, rfl⟩))
 have := join_len [32] 40 (bodyL x i) hm
 rw [bodyL_len hi] at this
 have hal : x.a.length <= 6 := (numE h).2.2.1
 simp only [List.length_cons, List.length_nil] at this
 omega
theorem fn55 (x : Etr) (hx : entS x = true) : Ct prog 55 [entV x] (vS (bodyS x)) [] := by
 obtain ⟨t0, t1, hal, hag⟩ := numE hx
 have hjl : (bodyS x).length <= 410 := body_len hx
 have hwl : x.w.length <= 40 := (entS_parts hx).1 _ (by simp [partsS])
 have hll := num_len13 x.t (by omega) (by omega)
 have c1 := fn104 x.t (by omega) (by omega)
 have b1 : (numS x.t).length + 1 <= 9223372036854775807 := by omega
 have b2 : (numS x.t).length + 1 + x.w.length <= 9223372036854775807 := by omega
 have b3 : (numS x.t).length + (x.w.length + 1) <= 9223372036854775807 := by omega
 refine CB func55 c55 fun E hE => ?_
 simp [p55, inC, Nat.testBit]
 refine CLa c1 ?_
 simp [b1, b2, inC, Nat.testBit]
 refine pw_loop (α := Nat) (fun i => ⟨slots [(1, .lp 0 0), (3, vS (Go.Lib.join (bodyL x i) [32])), (4, vi i)], lk [(0, [vi x.t, vS x.w, .d (intsD x.a), vS x.n])], 1⟩) (fun i => i <= x.a.length) (fun i => x.a.length - i) 0 ?_ ?_ ?_
 . omega
 . rw [bodyP_zero]
   exact WK hE (lk [(0, 0)])
 . intro i hi
   have hpl := bodyP_len hx hi
   by_cases h : i < x.a.length
   . obtain ⟨n, hn⟩ := gE h
     have hz := @wz i (by omega)
     have hI : (i : Int) < x.a.length := by omega
     obtain ⟨g0, g1⟩ := hag n (List.mem_of_getElem? hn)
     have hnl := num_len13 n (by omega) (by omega)
     have c2 := fn104 n (by omega) (by omega)
     have b4 : (numS n).length + 1 <= 9223372036854775807 := by omega
     have b5 : 1 + (numS n).length <= 9223372036854775807 := by omega
     have b6 : (Go.Lib.join (bodyL x i) [32]).length + ((numS n).length + 1) <= 9223372036854775807 := by omega
     simp [p55l0, hI, hn]
     refine CLa c2 ?_
     simp [hz, b5, b6]
     refine ⟨i + 1, by omega, by omega, ?_⟩
     rw [bodyP_succ hn]
     exact WK hE (lk [(0, 0)])
   . have hI : ¬ (i : Int) < x.a.length := by omega
     have e : i = x.a.length := by omega
     subst e
     by_cases hnn : x.n = []
     . simp [p55l0, hI, hnn]
       apply RZ
       simp [results55, bodyP_none hnn]
     . have hnl : x.n.length <= 40 := (entS_parts hx).1 _ (by simp [partsS, hnn])
       have b4 : x.n.length + 1 + 1 + 1 <= 9223372036854775807 := by omega
       have b5 : 3 + x.n.length <= 9223372036854775807 := by omega
       have b6 : (Go.Lib.join (bodyL x x.a.length) [32]).length + (x.n.length + 1 + 1 + 1) <= 9223372036854775807 := by omega
       simp [p55l0, hI, hnn, b5, b6]
       apply RZ
       simp [results55, bodyP_note hnn]
end Go.Proofs.Tryz
namespace Go.Log
def linesOf : By -> List By
 | [] => []
 | b :: r => if b = 10 then [10] :: linesOf r else match linesOf r with
   | [] => [[b]]
   | l :: ls => (b :: l) :: ls
def firL : By -> By × By
 | [] => ([], [])
 | b :: r => if b = 10 then ([10], r) else (b :: (firL r).1, (firL r).2)
theorem firL_app : ∀ s : By, (firL s).1 ++ (firL s).2 = s
 | [] => rfl
 | b :: r => by
   unfold firL
   split
   . rename_i h; subst h; rfl
   . simp [firL_app r]
theorem firL_len (s : By) : (firL s).1.length + (firL s).2.length = s.length := by
 have := congrArg List.length (firL_app s)
 simpa using this
theorem firL_pos {s : By} (h : s ≠ []) : 0 < (firL s).1.length := by
 cases s with
 | nil => exact absurd rfl h
 | cons b r => unfold firL; split <;> simp
theorem linesOf_cons (b : UInt8) (r : By) : linesOf (b :: r) = if b = 10 then [10] :: linesOf r else match linesOf r with
   | [] => [[b]]
   | l :: ls => (b :: l) :: ls := by rw [linesOf]
theorem firL_cons (b : UInt8) (r : By) : firL (b :: r) = if b = 10 then ([10], r) else (b :: (firL r).1, (firL r).2) := by rw [firL]
theorem linesOf_fir : ∀ {s : By}, s ≠ [] -> linesOf s = (firL s).1 :: linesOf (firL s).2
 | [], h => absurd rfl h
 | b :: r, _ => by
   rw [linesOf_cons, firL_cons]
   by_cases hb : b = 10
   . rw [if_pos hb, if_pos hb]
   . rw [if_neg hb, if_neg hb]
     cases r with
     | nil => rfl
     | cons c t =>
       rw [linesOf_fir (s := c :: t) (by simp)]
def restL : Nat -> By -> By
 | 0, s => s
 | n + 1, s => restL n (firL s).2
theorem restL_nil : ∀ n, restL n [] = []
 | 0 => rfl
 | n + 1 => by unfold restL; exact restL_nil n
theorem restL_succ : ∀ (n : Nat) (s : By), restL (n + 1) s = (firL (restL n s)).2
 | 0, s => rfl
 | n + 1, s => by
   show restL (n + 1) (firL s).2 = _
   rw [restL_succ n (firL s).2]
   rfl
theorem lines_at : ∀ {n : Nat} {s : By}, restL n s ≠ [] -> (linesOf s)[n]? = some (firL (restL n s)).1
 | 0, s, h => by
   have h : s ≠ [] := h
   rw [linesOf_fir h]; rfl
 | n + 1, s, h => by
   have hs : s ≠ [] := by
     intro e
     subst e
     exact h (restL_nil _)
   rw [linesOf_fir hs, List.getElem?_cons_succ]
   exact lines_at (n := n) (s := (firL s).2) h
theorem lines_end : ∀ {n : Nat} {s : By}, restL n s = [] ↔ (linesOf s).length <= n
 | 0, s => by
   constructor
   . intro h
     have h : s = [] := h
     subst h; simp [linesOf]
   . intro h
     have h0 : linesOf s = [] := List.length_eq_zero_iff.1 (by omega)
     by_cases hs : s = []
     . exact hs
     . rw [linesOf_fir hs] at h0; cases h0
 | n + 1, s => by
   by_cases hs : s = []
   . subst hs
     simp [restL_nil, linesOf]
   . rw [linesOf_fir hs, List.length_cons]
     show restL n (firL s).2 = [] ↔ _
     rw [lines_end (n := n) (s := (firL s).2)]
     omega
theorem restL_len (n : Nat) (s : By) : (restL n s).length <= s.length := by
 induction n generalizing s with
 | zero => exact Nat.le_refl _
 | succ n ih =>
   have h1 := ih (firL s).2
   have h2 := firL_len s
   show (restL n (firL s).2).length <= _
   omega
theorem lines_le (s : By) : (linesOf s).length <= s.length := by
 induction s with
 | nil => simp [linesOf]
 | cons b r ih =>
   unfold linesOf
   split
   . simp; omega
   . split
     . simp
     . rename_i l ls h; rw [h] at ih; simp at ih ⊢; omega
def chopS (l : By) : By := if l.getLast? = some 10 then l.dropLast else l
def openS (l : By) : Option (By × Int) := match l.drop (l.length - 3) with
 | [a, b, c] => if a = 32 && loB b && loB c then some (l.take (l.length - 3), 26 * ((b.toNat : Int) - 97) + ((c.toNat : Int) - 97)) else none
 | _ => none
def damS : Int -> Nat -> List By -> List Int
 | _, _, [] => []
 | bf, i, l :: r => match openS (chopS l) with
   | none => (i : Int) :: damS 0 (i + 1) r
   | some (b, c) => if sumS b bf = c then damS c (i + 1) r else (i : Int) :: damS c (i + 1) r
def dmStep (i : Nat) (st : List Int × Int) (l : By) : List Int × Int := match openS (chopS l) with
 | none => (st.1 ++ [(i : Int)], 0)
 | some (b, c) => (if sumS b st.2 = c then st.1 else st.1 ++ [(i : Int)], c)
def dmAt (ls : List By) : Nat -> List Int × Int
 | 0 => ([], 0)
 | i + 1 => match ls[i]? with
   | some l => dmStep i (dmAt ls i) l
   | none => dmAt ls i
theorem openS_bd {t : By} {b : By} {c : Int} (h : openS t = some (b, c)) : 0 <= c /\ c <= 675 /\ b.length <= t.length := by
 unfold openS at h
 split at h
 . rename_i a x y _
   split at h
   . rename_i hc
     cases h
     simp only [loB, Bool.and_eq_true, decide_eq_true_eq] at hc
     refine ⟨by omega, by omega, by simp⟩
   . cases h
 . cases h
theorem dmAt_bd (ls : List By) : ∀ i, 0 <= (dmAt ls i).2 /\ (dmAt ls i).2 <= 675 /\ (dmAt ls i).1.length <= i
 | 0 => by simp [dmAt]
 | i + 1 => by
   have ih := dmAt_bd ls i
   unfold dmAt
   split
   . unfold dmStep
     split
     . simp; omega
     . rename_i h
       have := openS_bd h
       refine ⟨this.1, this.2.1, ?_⟩
       simp only
       split
       . omega
       . simp; omega
   . omega
theorem dmAt_succ {ls : List By} {i : Nat} {l : By} (h : ls[i]? = some l) : dmAt ls (i + 1) = dmStep i (dmAt ls i) l := by
 rw [dmAt, h]
theorem lines_mem_len : ∀ {s l : By}, l ∈ linesOf s -> l.length <= s.length
 | [], _, h => by simp [linesOf] at h
 | b :: r, l, h => by
   rw [linesOf_fir (by simp)] at h
   have h1 := firL_len (b :: r)
   have h2 := firL_pos (s := b :: r) (by simp)
   rcases List.mem_cons.1 h with rfl | h
   . omega
   . have := lines_mem_len (s := (firL (b :: r)).2) h
     omega
 termination_by s => s.length
 decreasing_by
   have _ := firL_len (b :: r)
   have _ := firL_pos (s := b :: r) (by simp)
   omega
end Go.Log
namespace Go.Proofs.Tryz
open Go.Psl
open Go.Log
open Go.RowKit
theorem fn85 (s : By) (c : UInt8) : Ct prog 85 [vS s, vu c] (vi (Go.Lib.indexByte s c)) [] :=
 Cm.ofLit (vs0 := [.string (bs s), .int .u8 c.toNat]) (v := .int .i64 (Go.Lib.indexByte s c)) ⟨_, func85, by kernel_rfl, by decide⟩ rfl fun W hW => by
   have h := Go.Proofs.Any.strings_IndexByte idxL (bs s) c.toNat W
   rw [bs_toList, show ((c.toNat : Int)).toNat.toUInt8 = c by simp] at h
   exact h.mono fun e W' ⟨he, hw⟩ => ⟨he, by rw [hw]; exact Below.refl _ _⟩
theorem idx_none : ∀ {s : By}, Go.Lib.indexByte s 10 = -1 -> (firL s).1 = s
 | [], _ => rfl
 | b :: r, h => by
   unfold Go.Lib.indexByte at h
   rw [firL_cons]
   by_cases hb : b = 10
   . subst hb; simp at h
   . rw [if_neg hb]
     have hb' : (b == (10 : UInt8)) = false := by simpa using hb
     rw [hb'] at h
     simp only [Bool.false_eq_true, if_false] at h
     by_cases h1 : Go.Lib.indexByte r 10 = -1
     . simp [idx_none h1]
     . have := Go.Lib.indexByte_ge r 10
       have h2 : (Go.Lib.indexByte r 10 == -1) = false := by simpa using h1
       rw [h2] at h
       simp only [Bool.false_eq_true, if_false] at h
       omega
theorem idx_some : ∀ {s : By}, ¬ Go.Lib.indexByte s 10 = -1 -> ((firL s).1.length : Int) = Go.Lib.indexByte s 10 + 1
 | [], h => absurd rfl h
 | b :: r, h => by
   unfold Go.Lib.indexByte at h ⊢
   rw [firL_cons]
   by_cases hb : b = 10
   . subst hb; simp
   . rw [if_neg hb]
     have hb' : (b == (10 : UInt8)) = false := by simpa using hb
     rw [hb'] at h ⊢
     simp only [Bool.false_eq_true, if_false] at h ⊢
     by_cases h1 : Go.Lib.indexByte r 10 = -1
     . rw [h1] at h; simp at h
     . have h2 : (Go.Lib.indexByte r 10 == -1) = false := by simpa using h1
       rw [h2] at h ⊢
       simp only [Bool.false_eq_true, if_false] at h ⊢
       have := idx_some h1
       simp only [List.length_cons]
       omega
theorem firL_take (s : By) : s.take (firL s).1.length = (firL s).1 := by
 have h := firL_app s
 generalize (firL s).1 = a at h ⊢
 generalize (firL s).2 = b at h ⊢
 subst h
 simp
theorem firL_drop (s : By) : s.drop (firL s).1.length = (firL s).2 := by
 have h := firL_app s
 generalize (firL s).1 = a at h ⊢
 generalize (firL s).2 = b at h ⊢
 subst h
 simp
theorem fn88 (s : By) (c : UInt8) (hl : s.length <= 1000000000) : Ct prog 88 [vS s, vS [c]] (vb (decide (s.getLast? = some c))) [] := by
 by_cases h : 1 <= s.length
 . have h' : (1 : Int) <= s.length := by omega
   have w : IntKind.wrap .i64 ((s.length : Int) - 1) = ((s.length - 1 : Nat) : Int) := by rw [wrap64 (by omega) (by omega)]; omega
   have i1 : ((s.length - 1 : Nat) : Int) <= s.length := by omega
   have i2 : s.length - 1 <= s.length := by omega
   have e : s.drop (s.length - 1) = [s[s.length - 1]'(by omega)] := by
     rw [List.drop_eq_getElem_cons (by omega)]
     simp [show s.length - 1 + 1 = s.length by omega]
   have e2 : s.getLast? = some (s[s.length - 1]'(by omega)) := by rw [List.getLast?_eq_getElem?, List.getElem?_eq_getElem (by omega)]
   refine CB func88 c88 fun E hE => ?_
   simp [p88, h', w]
   apply RZ
   simp [results88, e, e2]
 . have h' : ¬ (1 : Int) <= s.length := by omega
   have hs : s = [] := List.length_eq_zero_iff.1 (by omega)
   subst hs
   refine CB func88 c88 fun E hE => ?_
   simp [p88]
   apply RZ
   simp [results88]
theorem fn41 (s : By) (c : UInt8) (hl : s.length <= 1000000000) : Ct prog 41 [vS s, vS [c]] (vb (decide (s.getLast? = some c))) [] := by
 have c1 := fn88 s c hl
 refine CB func41 c41 fun E hE => ?_
 simp [p41]
 refine CLa c1 ?_
 simp
 apply RZ
 simp [results41]
theorem fn135 (s : By) (hl : s.length <= 1000000000) : Ct prog 135 [vS s, vS [10]] (vS (chopS s)) [] := by
 have c1 := fn88 s 10 hl
 by_cases h : s.getLast? = some 10
 . have h0 : 1 <= s.length := by
     cases s with
     | nil => cases h
     | cons a r => simp
   have w : IntKind.wrap .i64 ((s.length : Int) - 1) = ((s.length - 1 : Nat) : Int) := by rw [wrap64 (by omega) (by omega)]; omega
   have i1 : ((s.length - 1 : Nat) : Int) <= s.length := by omega
   have i2 : s.length - 1 <= s.length := by omega
   rw [decide_eq_true h] at c1
   refine CB func135 c135 fun E hE => ?_
   simp [p135]
   refine CLa c1 ?_
   simp [w, i1]
   apply RZ
   simp [results135, chopS, h, List.dropLast_eq_take]
 . rw [decide_eq_false h] at c1
   refine CB func135 c135 fun E hE => ?_
   simp [p135]
   refine CLa c1 ?_
   simp
   apply RZ
   simp [results135, chopS, h]
theorem fn86 (s : By) (hl : s.length <= 1000000000) : Ct prog 86 [vS s, vS [10]] (vS (chopS s)) [] := by
 have c1 := fn135 s hl
 refine CB func86 c86 fun E hE => ?_
 simp [p86]
 refine CLa c1 ?_
 simp
 apply RZ
 simp [results86]
theorem chop_len (s : By) : (chopS s).length <= s.length := by
 unfold chopS
 split
 . simp
 . exact Nat.le_refl _
theorem fn87 (b : UInt8) : Ct prog 87 [vu b] (vb (loB b)) [] := by
 by_cases h1 : (97 : Int) <= b.toNat
 . by_cases h2 : (b.toNat : Int) <= 122
   . refine CB func87 c87 fun E hE => ?_
     simp [p87, h1, h2]
     apply RZ
     simp [results87, loB, h1, h2]
   . refine CB func87 c87 fun E hE => ?_
     simp [p87, h1, h2]
     apply RZ
     simp [results87, loB, h1, h2]
 . refine CB func87 c87 fun E hE => ?_
   simp [p87, h1]
   apply RZ
   simp [results87, loB, h1]
abbrev openV (o : Option (By × Int)) : V := .tup [vS (o.elim [] Prod.fst), vi (o.elim 0 Prod.snd), vb o.isSome]
theorem three {t : By} (h : 3 <= t.length) : ∃ u a b c, t = u ++ [a, b, c] /\ t.length = u.length + 3 := by
 have hl : (t.drop (t.length - 3)).length = 3 := by simp; omega
 match hd : t.drop (t.length - 3), hl with
 | [a, b, c], _ => exact ⟨t.take (t.length - 3), a, b, c, by rw [<- hd, List.take_append_drop], by simp; omega⟩
theorem openS_three (u : By) (a b c : UInt8) : openS (u ++ [a, b, c]) = if a = 32 && loB b && loB c then some (u, 26 * ((b.toNat : Int) - 97) + ((c.toNat : Int) - 97)) else none := by
 unfold openS
 have h1 : (u ++ [a, b, c]).length - 3 = u.length := by simp
 rw [h1]
 simp
theorem openS_short {t : By} (h : ¬ 3 <= t.length) : openS t = none := by
 unfold openS
 split
 . rename_i a b c hd
   have := congrArg List.length hd
   simp at this
   omega
 . rfl
theorem fn40 (l : By) (hl : l.length <= 1000000000) : Ct prog 40 [vS l] (openV (openS (chopS l))) [] := by
 have c1 := fn86 l hl
 have hc := chop_len l
 generalize chopS l = t at *
 by_cases h3 : 3 <= t.length
 case neg =>
   have w : IntKind.wrap .i64 ((t.length : Int) - 3) = (t.length : Int) - 3 := wrap64 (by omega) (by omega)
   have i0 : (t.length : Int) - 3 < 0 := by omega
   rw [openS_short h3]
   refine CB func40 c40 fun E hE => ?_
   simp [p40]
   refine CLa c1 ?_
   simp [w, i0]
   apply RZ
   simp [results40, openV]
 obtain ⟨u, a, b, c, rfl, hn⟩ := three h3
 have w0 : IntKind.wrap .i64 (((u ++ [a, b, c]).length : Int) - 3) = (u.length : Int) := by rw [wrap64 (by omega) (by omega)]; omega
 have w1 : IntKind.wrap .i64 ((u.length : Int) + 1) = ((u.length + 1 : Nat) : Int) := by rw [wrap64 (by omega) (by omega)]; omega
 have w2 : IntKind.wrap .i64 ((u.length : Int) + 2) = ((u.length + 2 : Nat) : Int) := by rw [wrap64 (by omega) (by omega)]; omega
 have g0 : (u ++ [a, b, c])[u.length]? = some a := by simp
 have g1 : (u ++ [a, b, c])[u.length + 1]? = some b := by simp
 have g2 : (u ++ [a, b, c])[u.length + 2]? = some c := by simp
 have l0 : (u.length : Int) < (u ++ [a, b, c]).length := by omega
 have l1 : ((u.length + 1 : Nat) : Int) < (u ++ [a, b, c]).length := by omega
 have l2 : ((u.length + 2 : Nat) : Int) < (u ++ [a, b, c]).length := by omega
 have n0 : ¬ (u.length : Int) < 0 := by omega
 have tk : (u ++ [a, b, c]).take u.length = u := by simp
 rw [openS_three]
 have d1 := fn87 b
 have d2 := fn87 c
 have hle : u.length <= (u ++ [a, b, c]).length := by omega
 have hle' : (u.length : Int) <= (u ++ [a, b, c]).length := by omega
 generalize (u ++ [a, b, c]) = t at *
 generalize hk1 : u.length + 1 = k1 at *
 generalize hk2 : u.length + 2 = k2 at *
 have hu : u.length <= 1000000000 := by omega
 generalize hk0 : u.length = k0 at *
 by_cases ha : a = 32
 case neg =>
   have ha' : ¬ ((a.toNat : Int) = 32) := fun e => ha (UInt8.toNat_inj.1 (by simpa using (by omega : a.toNat = 32)))
   refine CB func40 c40 fun E hE => ?_
   simp [p40]
   refine CLa c1 ?_
   simp [w0, n0, g0, ha']
   apply RZ
   simp [results40, openV, ha]
 subst ha
 by_cases hb : loB b = true
 case neg =>
   simp only [Bool.not_eq_true] at hb
   rw [hb] at d1
   refine CB func40 c40 fun E hE => ?_
   simp [p40]
   refine CLa c1 ?_
   simp [w0, n0, g0, w1, g1]
   refine CLa d1 ?_
   simp
   apply RZ
   simp [results40, openV, hb]
 rw [hb] at d1
 by_cases hcc : loB c = true
 case neg =>
   simp only [Bool.not_eq_true] at hcc
   rw [hcc] at d2
   refine CB func40 c40 fun E hE => ?_
   simp [p40]
   refine CLa c1 ?_
   simp [w0, n0, g0, w1, g1]
   refine CLa d1 ?_
   simp [w2, g2]
   refine CLa d2 ?_
   simp
   apply RZ
   simp [results40, openV, hcc]
 rw [hcc] at d2
 have hb2 := hb
 have hc2 := hcc
 simp only [loB, Bool.and_eq_true, decide_eq_true_eq] at hb2 hc2
 have v1 : IntKind.wrap .u8 ((b.toNat : Int) - 97) = (b.toNat : Int) - 97 := wrapu8 (by omega) (by omega)
 have v2 : IntKind.wrap .u8 ((c.toNat : Int) - 97) = (c.toNat : Int) - 97 := wrapu8 (by omega) (by omega)
 have v3 : IntKind.wrap .i64 ((b.toNat : Int) - 97) = (b.toNat : Int) - 97 := wrap64 (by omega) (by omega)
 have v4 : IntKind.wrap .i64 ((c.toNat : Int) - 97) = (c.toNat : Int) - 97 := wrap64 (by omega) (by omega)
 have v5 : IntKind.wrap .i64 (26 * ((b.toNat : Int) - 97)) = 26 * ((b.toNat : Int) - 97) := wrap64 (by omega) (by omega)
 have v6 : IntKind.wrap .i64 (26 * ((b.toNat : Int) - 97) + ((c.toNat : Int) - 97)) = 26 * ((b.toNat : Int) - 97) + ((c.toNat : Int) - 97) := wrap64 (by omega) (by omega)
 refine CB func40 c40 fun E hE => ?_
 simp [p40]
 refine CLa c1 ?_
 simp [w0, n0, g0, w1, g1]
 refine CLa d1 ?_
 simp [w2, g2]
 refine CLa d2 ?_
 simp [w1, w2, g1, g2, hle', v1, v2, v3, v4, v5, v6]
 apply RZ
 simp [results40, openV, hb, hcc, tk]
theorem fn38 (s : By) : Ct prog 38 [vS s] (.cl 84 [.lp 0 0]) [(0, [vS s])] := by
 refine CB func38 c38 fun E hE => ?_
 simp [p38]
 refine RetOk.by (lk [(0, 0)]) ?_
 simp [results38]
theorem sg_in {ks : List Nat} {b i : Nat} (h : i ∈ ks) : sg ks b i = i := by simp [sg, h]
theorem lines_run (s : By) (hl : s.length <= 1000000) (KS : List Nat) (XS : Nat -> List Nat) (k a : Nat) (L : Nat -> By -> List (Nat × List V)) (hk : k ∈ KS) (ha : a ∈ KS) (hN : ∀ i ∈ KS, i < 1000000000) (hX : ∀ i, ∀ x ∈ XS i, x < 1048576) (hL : ∀ i r, KeepX KS (XS i) (L i r))
   (hrec : ∀ i r, ∃ fr nt ps pa pb jmp, lk (L i r) k = some [.lr fr nt ps pa pb jmp] /\ ps.length = 2) (hbox : ∀ i r, lk (L i r) a = some [vS r]) (hset : ∀ (i : Nat) (r r' : By), ∀ p ∈ L i r', (p.1 = a /\ p.2 = [vS r']) \/ (p.1 ≠ a /\ p ∈ L i r))
   (hY : ∀ (i : Nat) (l : By), (linesOf s)[i]? = some l -> Ym prog k [vi i, vS l] (lk (L i (restL i s))) KS (.ret (vb true)) (lk (L (i + 1) (restL i s)))) :
   Cm prog 84 [.yl k, .lp a 0] (lk (L 0 s)) KS (.ret (.tup [])) (lk (L (linesOf s).length [])) := by
 have hNX : ∀ i, ∀ x ∈ KS ++ XS i, x < 1000000000 := fun i x hx => by
   rcases List.mem_append.1 hx with h | h
   . exact hN x h
   . have := hX i x h; omega
 refine Cm.by gok eok mixed 1000000000 func84 c84 rfl (by simp [ntmps84]) (by simp; exact ⟨hN k hk, hN a ha⟩) (HpIds.at ((hL 0 s).ids (hNX 0))) hN ⟨by simp, (hL _ _).res⟩ fun E hs hE => ?_
 have haN := hN a ha
 have na : ∀ x, 1000000000 <= x -> ¬ a = x := fun x _ => by omega
 have la : ∀ x, 1000000000 <= x -> a < x := fun x _ => by omega
 have rk : ∀ i b, rx KS (XS i) b k = some k := fun i b => by simp [rx, hk]
 have ra : ∀ i b, rx KS (XS i) b a = some a := fun i b => by simp [rx, ha]
 have hll := lines_le s
 simp [p84]
 refine pw_loop (α := Nat) (fun i => ⟨slots [(0, .yl k), (1, .lp a 0), (3, vi i)], lk (L i (restL i s)), 1000000000⟩) (fun i => i <= (linesOf s).length) (fun i => (linesOf s).length - i) 0 ?_ ?_ ?_
 . omega
 . refine Weak.sameX hs (hL 0 s) rfl (hNX 0) _ ?_ ?_
   . simp [rid, hk, ha]
   . simp [hN k hk, hN a ha]
 . intro i hi
   have hb := hbox i (restL i s)
   by_cases h0 : restL i s = []
   . have e : i = (linesOf s).length := by have := lines_end.1 h0; omega
     rw [h0] at hb ⊢
     simp [p84l0, hb]
     rw [e]
     exact RetM.sameX rfl (hL _ _) rfl
   . have hil : i < (linesOf s).length := by
       rcases Nat.lt_or_ge i (linesOf s).length with h | h
       . exact h
       . exact absurd (lines_end.2 h) h0
     have hat := lines_at h0
     have hY' := hY i _ hat
     have hrs := restL_succ i s
     have hrl := restL_len i s
     generalize hr : restL i s = r at *
     have hz := @wz i (by omega)
     have c1 := fn85 r 10
     have hfl := firL_len r
     have hfp := firL_pos h0
     have htk := firL_take r
     have hdr := firL_drop r
     obtain ⟨fr, nt, ps, pa, pb, jmp, hr1, hr2⟩ := hrec i r
     have i1 : ((firL r).1.length : Int) <= r.length := by omega
     have i2 : (firL r).1.length <= r.length := by omega
     by_cases hx : Go.Lib.indexByte r 10 = -1
     . have e := idx_none hx
       rw [hx] at c1
       have w0 : IntKind.wrap .i64 (-1 + 1) = 0 := by decide
       rw [e] at hY'
       have e2 : (firL r).2 = [] := List.length_eq_zero_iff.1 (by have := congrArg List.length e; omega)
       simp [p84l0, hb, h0]
       refine CLa c1 ?_
       have w00 : IntKind.wrap .i64 0 = 0 := by decide
       simp [w00, hb]
       refine AYield.keepX [vi i, vS r] (L i r) (L (i + 1) r) KS (XS i) (XS (i + 1)) _ hY' (hL i r) (hL (i + 1) r) (hX _) ⟨fr, nt, ps, pa, pb, jmp, hr1, hr2⟩ (fun q hq => rfl) (by simp) ?_
       have hbb : ∀ q ∈ KS ++ XS i, q < 1016777216 := fun q hq => by have := hNX i q hq; omega
       have hbk : ∀ q ∈ KS, q < 1016777216 := fun q hq => by have := hN q hq; omega
       obtain ⟨F, hF⟩ : ∃ F, F = heapM (lk (L i r)) 1016777216 (lk (L i r)) KS (lk (L (i + 1) r)) := ⟨_, rfl⟩
       have hFp : ∀ p ∈ L (i + 1) r, F (sg KS 1016777216 p.1) = some (p.2.map (renC (sg KS 1016777216))) := fun p hp => by rw [hF]; exact heapX_at (hL i r) (hL (i + 1) r) hbb hp
       rw [<- hF]
       have hFa : F a = some [vS r] := by
         have h1 : (a, [vS r]) ∈ L (i + 1) r := lk_mem' (hbox (i + 1) r)
         have := hFp _ h1
         simpa [ha, renC, ren1, ren0] using this
       simp [hFa, hz, splice]
       refine ⟨i + 1, by omega, by omega, ?_⟩
       rw [hrs]
       refine Weak.keepX (b := 1016777216) hs (hL (i + 1) _) hbk (fun p hp => ?_) (hNX (i + 1)) _ ?_ ?_
       . rcases hset (i + 1) r (firL r).2 p hp with ⟨h1, h2⟩ | ⟨h1, h2⟩
         . rw [h1, h2, sg_in ha]
           simp [renC, ren1, ren0, e2]
         . have hne : ¬ sg KS 1016777216 p.1 = a := fun e => by
             unfold sg at e
             split at e
             . exact h1 e
             . omega
           have h3 := hFp p h2
           show upd F a (some [vS []]) (sg KS 1016777216 p.1) = _
           rw [upd_at, if_neg hne]
           exact h3
       . simp [rk, ra]
       . simp [hN k hk, hN a ha]
     . have e := idx_some hx
       have w0 : IntKind.wrap .i64 (Go.Lib.indexByte r 10 + 1) = ((firL r).1.length : Int) := by rw [wrap64 (by omega) (by omega)]; omega
       have n0 : ¬ (((firL r).1.length : Int) = 0) := by omega
       have n1 : ¬ ((firL r).1 = []) := fun e => by rw [e] at hfp; simp at hfp
       simp [p84l0, hb, h0]
       refine CLa c1 ?_
       simp [w0, n1, hb, i1, htk]
       refine AYield.keepX [vi i, vS (firL r).1] (L i r) (L (i + 1) r) KS (XS i) (XS (i + 1)) _ hY' (hL i r) (hL (i + 1) r) (hX _) ⟨fr, nt, ps, pa, pb, jmp, hr1, hr2⟩ (fun q hq => rfl) (by simp) ?_
       have hbb : ∀ q ∈ KS ++ XS i, q < 1013631488 := fun q hq => by have := hNX i q hq; omega
       have hbk : ∀ q ∈ KS, q < 1013631488 := fun q hq => by have := hN q hq; omega
       obtain ⟨F, hF⟩ : ∃ F, F = heapM (lk (L i r)) 1013631488 (lk (L i r)) KS (lk (L (i + 1) r)) := ⟨_, rfl⟩
       have hFp : ∀ p ∈ L (i + 1) r, F (sg KS 1013631488 p.1) = some (p.2.map (renC (sg KS 1013631488))) := fun p hp => by rw [hF]; exact heapX_at (hL i r) (hL (i + 1) r) hbb hp
       rw [<- hF]
       have hFa : F a = some [vS r] := by
         have h1 : (a, [vS r]) ∈ L (i + 1) r := lk_mem' (hbox (i + 1) r)
         have := hFp _ h1
         simpa [ha, renC, ren1, ren0] using this
       simp [hFa, hz, splice, hdr, i2]
       refine ⟨i + 1, by omega, by omega, ?_⟩
       rw [hrs]
       refine Weak.keepX (b := 1013631488) hs (hL (i + 1) _) hbk (fun p hp => ?_) (hNX (i + 1)) _ ?_ ?_
       . rcases hset (i + 1) r (firL r).2 p hp with ⟨h1, h2⟩ | ⟨h1, h2⟩
         . rw [h1, h2, sg_in ha]
           simp [renC, ren1, ren0]
         . have hne : ¬ sg KS 1013631488 p.1 = a := fun e => by
             unfold sg at e
             split at e
             . exact h1 e
             . omega
           have h3 := hFp p h2
           show upd F a (some [vS (firL r).2]) (sg KS 1013631488 p.1) = _
           rw [upd_at, if_neg hne]
           exact h3
       . simp [rk, ra]
       . simp [hN k hk, hN a ha]
def dKS : List Nat := [10485760, 9437184, 5242880, 6291456]
def dXS (ds : List Int) : List Nat := if ds = [] then [] else [7]
def hdD (ds : List Int) : V := if ds = [] then .d (.lit (.slice none 0 0)) else .ls 7 0 ds.length 1
def bkD (ds : List Int) : List (Nat × List V) := if ds = [] then [] else [(7, fcel intL ds)]
def dL (f : Nat -> V) (z : LSt) (r : By) (st : List Int × Int) : List (Nat × List V) := (10485760, [.lr f 39 [16, 17] p13l0 p13l1 z]) :: (9437184, [vS r]) :: (5242880, [hdD st.1]) :: (6291456, [vi st.2]) :: bkD st.1
theorem dKeep (f : Nat -> V) (z : LSt) (r : By) (st : List Int × Int) (hf : ∀ t, AV (· ∈ dKS) anyD (f t)) : KeepX dKS (dXS st.1) (dL f z r st) := by
 by_cases h : st.1 = []
 . refine ⟨by simp [dL, bkD, dXS, dKS, h], by simp [dXS, dKS, h], ?_⟩
   intro q hq
   simp only [dL, bkD, h, if_true, List.mem_cons, List.not_mem_nil, or_false] at hq
   rcases hq with rfl | rfl | rfl | rfl
   . exact ⟨by simp, Or.inr (.inl ⟨_, _, _, _, _, _, rfl⟩), fun c hc => by simp at hc; subst hc; exact hf⟩
   all_goals refine ⟨by simp, Or.inl rfl, fun c hc => ?_⟩
   all_goals simp only [List.mem_cons, List.not_mem_nil, or_false] at hc
   all_goals subst hc
   all_goals first | exact rfl | (simp only [hdD, if_true]; exact rfl)
 . refine ⟨by simp [dL, bkD, dXS, dKS, h], by simp [dXS, dKS, h], ?_⟩
   intro q hq
   simp only [dL, bkD, h, if_false, List.mem_cons, List.not_mem_nil, or_false] at hq
   rcases hq with rfl | rfl | rfl | rfl | rfl
   . exact ⟨by simp, Or.inr (.inl ⟨_, _, _, _, _, _, rfl⟩), fun c hc => by simp at hc; subst hc; exact hf⟩
   . exact ⟨by simp, Or.inl rfl, fun c hc => by simp at hc; subst hc; exact rfl⟩
   . refine ⟨by simp, Or.inl (by simp [hdD, h]), fun c hc => ?_⟩
     simp only [List.mem_cons, List.not_mem_nil, or_false] at hc
     subst hc
     simp [CX, hdD, h, W1, W0, rid, dXS, dKS]
   . exact ⟨by simp, Or.inl rfl, fun c hc => by simp at hc; subst hc; exact rfl⟩
   . obtain ⟨a, t, e⟩ := List.exists_cons_of_ne_nil h
     refine ⟨by rw [e, fcel_cons]; simp, Or.inl (List.all_eq_true.2 fun c hc => by obtain ⟨y, _, rfl⟩ := List.mem_map.1 (show c ∈ List.map V.d (List.map intL st.1).flatten from hc); rfl), fun c hc => ?_⟩
     obtain ⟨y, _, rfl⟩ := List.mem_map.1 (show c ∈ List.map V.d (List.map intL st.1).flatten from hc)
     exact rfl
structure DamF (f : Nat -> V) : Prop where
 av : ∀ t, AV (· ∈ dKS) anyD (f t)
 f4 : f 4 = .lp 5242880 0
 f5 : f 5 = .lp 6291456 0
theorem hfi1 : ∀ x : Int, (intL x).length = 1 := fun _ => rfl
theorem dmg_round (f : Nat -> V) (hF : DamF f) (i : Nat) (l r : By) (st : List Int × Int) (hl : l.length <= 1000000) (h0 : 0 <= st.2) (h1 : st.2 <= 675) (hn : st.1.length <= 1000000) :
   Ym prog 10485760 [vi i, vS l] (lk (dL f .ready r st)) dKS (.ret (vb true)) (lk (dL f .ready r (dmStep i st l))) := by
 obtain ⟨hf, f4, f5⟩ := hF
 have hlt : ∀ j ∈ dKS ++ dXS st.1, j < 11534336 := by
   intro j hj
   simp only [dKS, dXS, List.mem_append, List.mem_cons, List.not_mem_nil, or_false] at hj
   split at hj <;> simp at hj <;> omega
 have hW : ∀ z (ρ : Nat -> Option Nat), (∀ j ∈ dKS, ρ j = some j) -> WC ρ (.lr f 39 [16, 17] p13l0 p13l1 z) (.lr f 39 [16, 17] p13l0 p13l1 z) := fun z ρ hρ => ⟨rfl, fun t => AV.mono (fun j hj => hρ j hj) (fun _ h => h) (hf t)⟩
 have hC : ∀ z, cellsOk [.lr f 39 [16, 17] p13l0 p13l1 z] := fun z => Or.inr (.inl ⟨_, _, _, _, _, _, rfl⟩)
 have co := fn40 l (by omega)
 refine Ym.ofX (k := 10485760) (fr := f) (nt := 39) (ps := [16, 17]) (pa := p13l0) (pb := p13l1) (args := [vi i, vS l]) (s := .ready) gok eok mixed 11534336 (dKeep f .ready r st hf) (dKeep f .ready r (dmStep i st l) hf) hlt (by simp [dKS]) (by simp [dL]) (by simp) (by simp) (by simp) ?_
 have hne : ∀ ds : List Int, ¬ (ds ++ [(i : Int)] = []) := fun ds => by simp
 have hsl := fcel_len hfi1 st.1
 have hwh := fcel_whole hfi1 st.1
 rw [Nat.mul_one] at hsl hwh
 have n1 : (st.1.length + 1) * 8 <= 140737488355328 := by omega
 have n2 : st.1.length + 1 <= 9223372036854775807 := by omega
 unfold dmStep
 cases ho : openS (chopS l) with
 | none =>
   rw [ho] at co
   simp only
   by_cases he : st.1 = []
   . refine ⟨fun E hE hs => ?_⟩
     unfold dL
     simp only [he, bkD, hdD, if_true, List.nil_append, List.length_cons]
     generalize V.lr f 39 [16, 17] p13l0 p13l1 = rc at hW hC ⊢
     simp [p13l0, frPuts]
     simp [p13l1]
     refine CLa co ?_
     simp [f4, f5, splice, repl]
     have hW2 := hW .ready (lk [(10485760, 10485760), (9437184, 9437184), (5242880, 5242880), (6291456, 6291456), (7, 35651584)]) (by intro j hj; simp only [dKS, List.mem_cons, List.not_mem_nil, or_false] at hj; rcases hj with rfl | rfl | rfl | rfl <;> rfl)
     refine ⟨trivial, by simp, lk [(10485760, 10485760), (9437184, 9437184), (5242880, 5242880), (6291456, 6291456), (7, 35651584)], ?_⟩
     simp [hW2, hC, dKS, fcel]
   . refine ⟨fun E hE hs => ?_⟩
     unfold dL
     simp only [he, bkD, hdD, if_false, hne]
     generalize V.lr f 39 [16, 17] p13l0 p13l1 = rc at hW hC ⊢
     simp [p13l0, frPuts]
     simp [p13l1]
     refine CLa co ?_
     simp [f4, f5, splice, repl, hsl, hwh, n1, n2]
     have hW2 := hW .ready (lk [(10485760, 10485760), (9437184, 9437184), (5242880, 5242880), (6291456, 6291456), (7, 35651584)]) (by intro j hj; simp only [dKS, List.mem_cons, List.not_mem_nil, or_false] at hj; rcases hj with rfl | rfl | rfl | rfl <;> rfl)
     refine ⟨trivial, by simp, lk [(10485760, 10485760), (9437184, 9437184), (5242880, 5242880), (6291456, 6291456), (7, 35651584)], ?_⟩
     simp [hW2, hC, dKS, fcel_one]
 | some q =>
   obtain ⟨b, c⟩ := q
   have hbd := openS_bd ho
   have hcl := chop_len l
   rw [ho] at co
   have cs := fn50 b st.2 h0 (by omega) (by omega)
   simp only
   by_cases hc : sumS b st.2 = c
   . rw [if_pos hc]
     rw [hc] at cs
     by_cases he : st.1 = []
     . refine ⟨fun E hE hs => ?_⟩
       unfold dL
       simp only [he, bkD, hdD, if_true]
       generalize V.lr f 39 [16, 17] p13l0 p13l1 = rc at hW hC ⊢
       simp [p13l0, frPuts]
       simp [p13l1]
       refine CLa co ?_
       simp [f5]
       refine CLa cs ?_
       simp [f5, splice]
       have hW2 := hW .ready (lk [(10485760, 10485760), (9437184, 9437184), (5242880, 5242880), (6291456, 6291456), (7, 7)]) (by intro j hj; simp only [dKS, List.mem_cons, List.not_mem_nil, or_false] at hj; rcases hj with rfl | rfl | rfl | rfl <;> rfl)
       refine ⟨trivial, by simp, lk [(10485760, 10485760), (9437184, 9437184), (5242880, 5242880), (6291456, 6291456), (7, 7)], ?_⟩
       simp [hW2, hC, dKS]
     . refine ⟨fun E hE hs => ?_⟩
       unfold dL
       simp only [he, bkD, hdD, if_false]
       generalize V.lr f 39 [16, 17] p13l0 p13l1 = rc at hW hC ⊢
       simp [p13l0, frPuts]
       simp [p13l1]
       refine CLa co ?_
       simp [f5]
       refine CLa cs ?_
       simp [f5, splice]
       have hW2 := hW .ready (lk [(10485760, 10485760), (9437184, 9437184), (5242880, 5242880), (6291456, 6291456), (7, 7)]) (by intro j hj; simp only [dKS, List.mem_cons, List.not_mem_nil, or_false] at hj; rcases hj with rfl | rfl | rfl | rfl <;> rfl)
       refine ⟨trivial, by simp, lk [(10485760, 10485760), (9437184, 9437184), (5242880, 5242880), (6291456, 6291456), (7, 7)], ?_⟩
       simp [hW2, hC, dKS]
   . rw [if_neg hc]
     by_cases he : st.1 = []
     . refine ⟨fun E hE hs => ?_⟩
       unfold dL
       simp only [he, bkD, hdD, if_true, List.nil_append, List.length_cons]
       generalize V.lr f 39 [16, 17] p13l0 p13l1 = rc at hW hC ⊢
       simp [p13l0, frPuts]
       simp [p13l1]
       refine CLa co ?_
       simp [f5]
       refine CLa cs ?_
       simp [f4, f5, splice, repl, hc]
       have hW2 := hW .ready (lk [(10485760, 10485760), (9437184, 9437184), (5242880, 5242880), (6291456, 6291456), (7, 35651584)]) (by intro j hj; simp only [dKS, List.mem_cons, List.not_mem_nil, or_false] at hj; rcases hj with rfl | rfl | rfl | rfl <;> rfl)
       refine ⟨trivial, by simp, lk [(10485760, 10485760), (9437184, 9437184), (5242880, 5242880), (6291456, 6291456), (7, 35651584)], ?_⟩
       simp [hW2, hC, dKS, fcel]
     . refine ⟨fun E hE hs => ?_⟩
       unfold dL
       simp only [he, bkD, hdD, if_false, hne]
       generalize V.lr f 39 [16, 17] p13l0 p13l1 = rc at hW hC ⊢
       simp [p13l0, frPuts]
       simp [p13l1]
       refine CLa co ?_
       simp [f5]
       refine CLa cs ?_
       simp [f4, f5, splice, repl, hc, hsl, hwh, n1, n2]
       have hW2 := hW .ready (lk [(10485760, 10485760), (9437184, 9437184), (5242880, 5242880), (6291456, 6291456), (7, 35651584)]) (by intro j hj; simp only [dKS, List.mem_cons, List.not_mem_nil, or_false] at hj; rcases hj with rfl | rfl | rfl | rfl <;> rfl)
       refine ⟨trivial, by simp, lk [(10485760, 10485760), (9437184, 9437184), (5242880, 5242880), (6291456, 6291456), (7, 35651584)], ?_⟩
       simp [hW2, hC, dKS, fcel_one]
end Go.Proofs.Tryz
