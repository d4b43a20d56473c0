/- Own lemmas, used by the last text. Conditions: those that each theorem states. -/
import Derived.Test.YtcaecmiedjnacaaGreatDoorKiah
import Derived.Test.YtcaecmiedjnacaaGreatDoorKiai
import Derived.Test.YtcaecmiedjnacaaGreatDoorKiaj
set_option maxRecDepth 200000
set_option maxHeartbeats 8000000
namespace Go.Log
structure Ldp where
 al : Int
 ah : Int
 wl : Int
 wh : Int
deriving DecidableEq, Inhabited
structure Lim where
 a : Int
 b : Int
 c : Int
deriving DecidableEq, Inhabited
structure Row where
 n : By
 l : Ldp
deriving DecidableEq, Inhabited
structure Sht where
 s : By
 rs : List Row
deriving DecidableEq, Inhabited
def spnB (lo hi most : Int) : Bool := decide (lo <= hi) && decide (-most <= lo) && decide (hi <= most)
def okLd (x : Ldp) : Bool := spnB x.al x.ah 20000 && spnB x.wl x.wh 1073741824
def okLm (x : Lim) : Bool := betw x.a (-1000) 1000 && betw x.b (-1000) 1000 && betw x.c (-1000000000000000000) 1000000000000000000
def chkLds (l : List Ldp) : Int := if 40 < l.length then 4 else if l.all okLd then 0 else 40
def chkLms (l : List Lim) : Int := if 12 < l.length then 4 else if l.all okLm then 0 else 41
theorem okLd_bd {x : Ldp} (h : okLd x = true) : -20000 <= x.al /\ x.al <= x.ah /\ x.ah <= 20000 /\ -1073741824 <= x.wl /\ x.wl <= x.wh /\ x.wh <= 1073741824 := by
 simp only [okLd, spnB, Bool.and_eq_true, decide_eq_true_eq] at h
 omega
theorem okLm_bd {x : Lim} (h : okLm x = true) : -1000 <= x.a /\ x.a <= 1000 /\ -1000 <= x.b /\ x.b <= 1000 /\ -1000000000000000000 <= x.c /\ x.c <= 1000000000000000000 := by
 simp only [okLm, betw, Bool.and_eq_true, decide_eq_true_eq] at h
 omega
def mnP (x : Ldp) : Int := min (min (min (x.al * x.wl) (x.al * x.wh)) (x.ah * x.wl)) (x.ah * x.wh)
def mxP (x : Ldp) : Int := max (max (max (x.al * x.wl) (x.al * x.wh)) (x.ah * x.wl)) (x.ah * x.wh)
def sumF (f : Ldp -> Int) (l : List Ldp) : Int := (l.map f).foldl (· + ·) 0
theorem foldl_add (l : List Int) (z : Int) : l.foldl (· + ·) z = z + l.foldl (· + ·) 0 := by
 induction l generalizing z with
 | nil => simp
 | cons a l ih => simp only [List.foldl_cons]; rw [ih (z + a), ih (0 + a)]; omega
theorem sumF_take {f : Ldp -> Int} {l : List Ldp} {i : Nat} {x : Ldp} (h : l[i]? = some x) : sumF f (l.take (i + 1)) = sumF f (l.take i) + f x := by
 unfold sumF
 rw [List.take_add_one, h]
 simp [List.foldl_append]
theorem sumF_bd {f : Ldp -> Int} {b : Int} (hb : 0 <= b) : ∀ (l : List Ldp), (∀ x ∈ l, -b <= f x /\ f x <= b) -> -(b * l.length) <= sumF f l /\ sumF f l <= b * l.length
 | [], _ => by simp [sumF]
 | x :: r, h => by
   have ih := sumF_bd hb r fun y hy => h y (by simp [hy])
   have hx := h x (by simp)
   have e : sumF f (x :: r) = f x + sumF f r := by
     unfold sumF; simp only [List.map_cons, List.foldl_cons]; rw [foldl_add]; omega
   rw [e]
   have e2 : b * ((x :: r).length : Int) = b * r.length + b := by simp only [List.length_cons]; rw [Int.natCast_add, Int.mul_add]; simp
   omega
theorem mul_bd {a b A B : Int} (h1 : -A <= a) (h2 : a <= A) (h3 : -B <= b) (h4 : b <= B) : -(A * B) <= a * b /\ a * b <= A * B := by
 have hA : 0 <= A := by omega
 have hB : 0 <= B := by omega
 have e1 : (A - a) * (B - b) >= 0 := Int.mul_nonneg (by omega) (by omega)
 have e2 : (A + a) * (B + b) >= 0 := Int.mul_nonneg (by omega) (by omega)
 have e3 : (A - a) * (B + b) >= 0 := Int.mul_nonneg (by omega) (by omega)
 have e4 : (A + a) * (B - b) >= 0 := Int.mul_nonneg (by omega) (by omega)
 rw [Int.sub_mul, Int.mul_sub, Int.mul_sub] at e1
 rw [Int.add_mul, Int.mul_add, Int.mul_add] at e2
 rw [Int.sub_mul, Int.mul_add, Int.mul_add] at e3
 rw [Int.add_mul, Int.mul_sub, Int.mul_sub] at e4
 constructor <;> omega
def valP (x : Lim) (at' w : Int) : Int := w * (x.a + x.b * at')
def wstP (x : Lim) (l : Ldp) : Int := max (max (max (valP x l.al l.wl) (valP x l.ah l.wl)) (valP x l.al l.wh)) (valP x l.ah l.wh)
def brkS (l : List Ldp) (ls : List Lim) : Option Nat := ls.findIdx? fun x => decide (x.c < sumF (wstP x) l)
theorem valP_bd {x : Lim} {p w : Int} (hx : okLm x = true) (h1 : -20000 <= p) (h2 : p <= 20000) (h3 : -1073741824 <= w) (h4 : w <= 1073741824) :
   -20000000 <= x.b * p /\ x.b * p <= 20000000 /\ -21475910221824000 <= valP x p w /\ valP x p w <= 21475910221824000 := by
 obtain ⟨a1, a2, b1, b2, _, _⟩ := okLm_bd hx
 have e1 := mul_bd b1 b2 h1 h2
 have e2 := mul_bd (a := w) (b := x.a + x.b * p) h3 h4 (B := 20001000) (by omega) (by omega)
 unfold valP
 refine ⟨by omega, by omega, by omega, by omega⟩
theorem prod_bd {l : Ldp} (h : okLd l = true) : ∀ p w : Int, (p = l.al \/ p = l.ah) -> (w = l.wl \/ w = l.wh) -> -21474836480000 <= p * w /\ p * w <= 21474836480000 := by
 intro p w hp hw
 have := okLd_bd h
 have e := mul_bd (a := p) (b := w) (A := 20000) (B := 1073741824) (by omega) (by omega) (by omega) (by omega)
 omega
def lowF (b : UInt8) : Bool := upB b || loB b || dgB b || decide (b = 45)
def nameF (_ : Nat) (b : UInt8) : Bool := lowF b
def nameS (s : By) : Bool := madeS s 12 nameF
def chkSh (s : Sht) : Int := if !shipS s.s || decide (chkLds (s.rs.map Row.l) ≠ 0) then 94 else if s.rs.all fun r => nameS r.n then 0 else 94
def toldS (n : By) (a b c d : Int) : List By := [n, numS a, numS b, numS c, numS d]
def rowS (r : Row) : List By := toldS r.n r.l.al r.l.ah r.l.wl r.l.wh
def blk (n : Nat) : By := List.replicate n 32
def wideS (l : List (List By)) (k : Nat) : Nat := (l.map fun r => (r[k]?.getD []).length).foldl max 0
def cellS (w : Nat) (x : By) : By := [32, 32] ++ blk (w - x.length) ++ x
def laidR (w : Nat -> Nat) (r : List By) : By := (r[0]?.getD []) ++ blk (w 0 - (r[0]?.getD []).length) ++ (List.range 4).flatMap (fun k => cellS (w (k + 1)) (r[k + 1]?.getD [])) ++ [10]
def laidS (l : List (List By)) : By := l.flatMap (laidR (wideS l))
def totalB : By := [84, 79, 84, 65, 76]
def keptB : By := [75, 69, 80, 84]
def brokenB : By := [66, 82, 79, 75, 69, 78, 32]
def sheetB : By := [83, 72, 69, 69, 84, 32]
def totS (l : List Ldp) : List By := toldS totalB (sumF Ldp.wl l) (sumF Ldp.wh l) (sumF mnP l) (sumF mxP l)
def lastS (l : List Ldp) (ls : List Lim) : By := match brkS l ls with
 | some i => brokenB ++ numS i
 | none => keptB
def tabS (s : Sht) : List (List By) := s.rs.map rowS ++ [totS (s.rs.map Row.l)]
def sheetS (s : Sht) (ls : List Lim) : By := sheetB ++ s.s ++ [10] ++ laidS (tabS s) ++ lastS (s.rs.map Row.l) ls ++ [10]
def writeSh (s : Sht) (ls : List Lim) : By × Int := if chkSh s ≠ 0 then ([], chkSh s) else if chkLms ls ≠ 0 then ([], chkLms ls) else (sheetS s ls, 0)
end Go.Log
namespace Go.Proofs.Tryz
open Go.Psl
open Go.Log
abbrev ldV (x : Ldp) : V := .agg [vi x.al, vi x.ah, vi x.wl, vi x.wh]
abbrev lmV (x : Lim) : V := .agg [vi x.a, vi x.b, vi x.c]
abbrev ldsD (l : List Ldp) : D := .sl 4 (l.map fun x => [di x.al, di x.ah, di x.wl, di x.wh])
abbrev lmsD (l : List Lim) : D := .sl 3 (l.map fun x => [di x.a, di x.b, di x.c])
theorem fn152 (n lo hi : Int) : Ct prog 152 [vi n, vi lo, vi hi] (vb (betw n lo hi)) [] := by
 by_cases h1 : ¬ lo <= n
 . have h2 : betw n lo hi = false := by simp [betw]; omega
   refine CB func152 c152 fun E hE => ?_
   simp [p152, h1]
   apply RZ
   simp [results152, h2]
 . simp only [Decidable.not_not] at h1
   by_cases h3 : ¬ n <= hi
   . have h2 : betw n lo hi = false := by simp [betw]; omega
     refine CB func152 c152 fun E hE => ?_
     simp [p152, h1, h3]
     apply RZ
     simp [results152, h2]
   . simp only [Decidable.not_not] at h3
     have h2 : betw n lo hi = true := by simp [betw]; omega
     refine CB func152 c152 fun E hE => ?_
     simp [p152, h1, h3]
     apply RZ
     simp [results152, h2]
theorem fn124 (lo hi m : Int) (h0 : 0 <= m) (hm : m <= 2000000000) : Ct prog 124 [vsp lo hi, vi m] (vb (spnB lo hi m)) [] := by
 have w : IntKind.wrap .i64 (-m) = -m := wrap64 (by omega) (by omega)
 by_cases h1 : ¬ lo <= hi
 . have h2 : spnB lo hi m = false := by simp [spnB]; omega
   refine CB func124 c124 fun E hE => ?_
   simp [p124, h1]
   apply RZ
   simp [results124, h2]
 . simp only [Decidable.not_not] at h1
   by_cases h3 : ¬ -m <= lo
   . have h2 : spnB lo hi m = false := by simp [spnB]; omega
     refine CB func124 c124 fun E hE => ?_
     simp [p124, h1, h3, w]
     apply RZ
     simp [results124, h2]
   . simp only [Decidable.not_not] at h3
     by_cases h4 : ¬ hi <= m
     . have h2 : spnB lo hi m = false := by simp [spnB]; omega
       refine CB func124 c124 fun E hE => ?_
       simp [p124, h1, h3, h4, w]
       apply RZ
       simp [results124, h2]
     . simp only [Decidable.not_not] at h4
       have h2 : spnB lo hi m = true := by simp [spnB]; omega
       refine CB func124 c124 fun E hE => ?_
       simp [p124, h1, h3, h4, w]
       apply RZ
       simp [results124, h2]
theorem fn123 (x : Ldp) : Ct prog 123 [ldV x] (vb (okLd x)) [] := by
 have c1 := fn124 x.al x.ah 20000 (by omega) (by omega)
 have c2 := fn124 x.wl x.wh 1073741824 (by omega) (by omega)
 by_cases h : spnB x.al x.ah 20000 = true
 . have e : okLd x = spnB x.wl x.wh 1073741824 := by simp [okLd, h]
   rw [h] at c1
   refine CB func123 c123 fun E hE => ?_
   simp [p123]
   refine CLa c1 ?_
   simp
   refine CLa c2 ?_
   simp
   apply RZ
   simp [results123, e]
 . simp only [Bool.not_eq_true] at h
   have e : okLd x = false := by simp [okLd, h]
   rw [h] at c1
   refine CB func123 c123 fun E hE => ?_
   simp [p123]
   refine CLa c1 ?_
   simp
   apply RZ
   simp [results123, e]
theorem fn106 (x : Lim) : Ct prog 106 [lmV x] (vb (okLm x)) [] := by
 have c1 := fn152 x.a (-1000) 1000
 have c2 := fn152 x.b (-1000) 1000
 have c3 := fn152 x.c (-1000000000000000000) 1000000000000000000
 by_cases h : betw x.a (-1000) 1000 = true
 . rw [h] at c1
   by_cases h2 : betw x.b (-1000) 1000 = true
   . have e : okLm x = betw x.c (-1000000000000000000) 1000000000000000000 := by simp [okLm, h, h2]
     rw [h2] at c2
     refine CB func106 c106 fun E hE => ?_
     simp [p106]
     refine CLa c1 ?_
     simp
     refine CLa c2 ?_
     simp
     refine CLa c3 ?_
     simp
     apply RZ
     simp [results106, e]
   . simp only [Bool.not_eq_true] at h2
     have e : okLm x = false := by simp [okLm, h2]
     rw [h2] at c2
     refine CB func106 c106 fun E hE => ?_
     simp [p106]
     refine CLa c1 ?_
     simp
     refine CLa c2 ?_
     simp
     apply RZ
     simp [results106, e]
 . simp only [Bool.not_eq_true] at h
   have e : okLm x = false := by simp [okLm, h]
   rw [h] at c1
   refine CB func106 c106 fun E hE => ?_
   simp [p106]
   refine CLa c1 ?_
   simp
   apply RZ
   simp [results106, e]
theorem all_bad {α : Type} {l : List α} {f : α -> Bool} {i : Nat} {x : α} (hx : l[i]? = some x) (h : f x = false) : l.all f = false :=
 List.all_eq_false.2 ⟨x, List.mem_of_getElem? hx, by simp [h]⟩
theorem all_ok {α : Type} {l : List α} {f : α -> Bool} (h : ∀ j, j < l.length -> (l[j]?).all f = true) : l.all f = true :=
 List.all_eq_true.2 fun x hx => by
   obtain ⟨j, hj, rfl⟩ := List.getElem_of_mem hx
   have := h j hj
   rwa [List.getElem?_eq_getElem hj] at this
theorem fn122 (l : List Ldp) (hl : l.length <= 1000000) : Ct prog 122 [.d (ldsD l), vi 40, .d (.fn 123 []), vi 40] (vi (chkLds l)) [] := by
 by_cases h0 : 40 < l.length
 . have h0' : (40 : Int) < l.length := by omega
   refine CB func122 c122 fun E hE => ?_
   simp [p122, h0']
   apply RZ
   simp [results122, chkLds, h0]
 have h0' : ¬ (40 : Int) < l.length := by omega
 refine CB func122 c122 fun E hE => ?_
 simp [p122, h0']
 refine pw_loop (α := Nat) (fun i => ⟨slots [(2, .d (.fn 123 [])), (3, vi 40), (15, .d (ldsD l)), (16, vi l.length), (17, vi i)], lk [], 0⟩) (fun i => i <= l.length /\ ∀ j, j < i -> (l[j]?).all okLd = true) (fun i => l.length - i) 0 ?_ ?_ ?_
 . exact ⟨by omega, fun j hj => by omega⟩
 . exact WK hE (lk [])
 . rintro i ⟨hi, hg3⟩
   have hz := @wz i (by omega)
   by_cases h : i < l.length
   . obtain ⟨x, hx⟩ := gE h
     have hI : (i : Int) < l.length := by omega
     have c2 := fn123 x
     by_cases h4 : okLd x = true
     . rw [h4] at c2
       simp [p122l0, hI, hx, splice]
       refine CLa c2 ?_
       simp [hz]
       refine ⟨i + 1, ⟨by omega, fun j hj => ?_⟩, by omega, ?_⟩
       . by_cases e : j = i
         . subst e; rw [hx]; simp [h4]
         . exact hg3 j (by omega)
       . exact WK hE (lk [])
     . simp only [Bool.not_eq_true] at h4
       rw [h4] at c2
       simp [p122l0, hI, hx, splice]
       refine CLa c2 ?_
       simp
       apply RZ
       simp [results122, chkLds, h0, all_bad hx h4]
   . have hI : ¬ (i : Int) < l.length := by omega
     have h1 : l.all okLd = true := all_ok fun j hj => hg3 j (by omega)
     simp [p122l0, hI]
     apply RZ
     simp [results122, chkLds, h0, h1]
theorem fn105 (l : List Lim) (hl : l.length <= 1000000) : Ct prog 105 [.d (lmsD l), vi 12, .d (.fn 106 []), vi 41] (vi (chkLms l)) [] := by
 by_cases h0 : 12 < l.length
 . have h0' : (12 : Int) < l.length := by omega
   refine CB func105 c105 fun E hE => ?_
   simp [p105, h0']
   apply RZ
   simp [results105, chkLms, h0]
 have h0' : ¬ (12 : Int) < l.length := by omega
 refine CB func105 c105 fun E hE => ?_
 simp [p105, h0']
 refine pw_loop (α := Nat) (fun i => ⟨slots [(2, .d (.fn 106 [])), (3, vi 41), (15, .d (lmsD l)), (16, vi l.length), (17, vi i)], lk [], 0⟩) (fun i => i <= l.length /\ ∀ j, j < i -> (l[j]?).all okLm = true) (fun i => l.length - i) 0 ?_ ?_ ?_
 . exact ⟨by omega, fun j hj => by omega⟩
 . exact WK hE (lk [])
 . rintro i ⟨hi, hg3⟩
   have hz := @wz i (by omega)
   by_cases h : i < l.length
   . obtain ⟨x, hx⟩ := gE h
     have hI : (i : Int) < l.length := by omega
     have c2 := fn106 x
     by_cases h4 : okLm x = true
     . rw [h4] at c2
       simp [p105l0, hI, hx, splice]
       refine CLa c2 ?_
       simp [hz]
       refine ⟨i + 1, ⟨by omega, fun j hj => ?_⟩, by omega, ?_⟩
       . by_cases e : j = i
         . subst e; rw [hx]; simp [h4]
         . exact hg3 j (by omega)
       . exact WK hE (lk [])
     . simp only [Bool.not_eq_true] at h4
       rw [h4] at c2
       simp [p105l0, hI, hx, splice]
       refine CLa c2 ?_
       simp
       apply RZ
       simp [results105, chkLms, h0, all_bad hx h4]
   . have hI : ¬ (i : Int) < l.length := by omega
     have h1 : l.all okLm = true := all_ok fun j hj => hg3 j (by omega)
     simp [p105l0, hI]
     apply RZ
     simp [results105, chkLms, h0, h1]
theorem fn69 (l : List Ldp) (hl : l.length <= 1000000) : Ct prog 69 [.d (ldsD l)] (vi (chkLds l)) [] := by
 have c1 := fn122 l hl
 refine CB func69 c69 fun E hE => ?_
 simp [p69]
 refine CLa c1 ?_
 simp
 apply RZ
 simp [results69]
theorem fn57 (l : List Lim) (hl : l.length <= 1000000) : Ct prog 57 [.d (lmsD l)] (vi (chkLms l)) [] := by
 have c1 := fn105 l hl
 refine CB func57 c57 fun E hE => ?_
 simp [p57]
 refine CLa c1 ?_
 simp
 apply RZ
 simp [results57]
def minT (l : List Int) (i : Nat) : Int := (l.take i).foldl min (l.headD 0)
def maxT (l : List Int) (i : Nat) : Int := (l.take i).foldl max (l.headD 0)
theorem minT_succ {l : List Int} {i : Nat} {x : Int} (h : l[i]? = some x) : minT l (i + 1) = min (minT l i) x := by
 unfold minT
 rw [List.take_add_one, h]
 simp [List.foldl_append]
theorem maxT_succ {l : List Int} {i : Nat} {x : Int} (h : l[i]? = some x) : maxT l (i + 1) = max (maxT l i) x := by
 unfold maxT
 rw [List.take_add_one, h]
 simp [List.foldl_append]
theorem fn153 (x : Int) (r : List Int) (hl : r.length <= 1000000) : Ct prog 153 [.d (intsD (x :: r))] (vi (minT (x :: r) (r.length + 1))) [] := by
 have h1 : minT (x :: r) 1 = x := by simp [minT]
 have hn : ¬ ((r.length : Int) + 1 < 1) := by omega
 obtain ⟨l, hq⟩ : ∃ l, l = x :: r := ⟨_, rfl⟩
 have hl2 : l.length = r.length + 1 := by rw [hq]; rfl
 have h0 : l[0]? = some x := by rw [hq]; rfl
 rw [<- hq] at h1 ⊢
 rw [<- hl2]
 have hn : ¬ ((l.length : Int) < 1) := by omega
 refine CB func153 c153 fun E hE => ?_
 simp [p153, hn, h0]
 refine pw_loop (α := Nat) (fun i => ⟨slots [(0, .d (intsD l)), (3, vi (minT l i)), (4, vi i)], lk [], 0⟩) (fun i => i <= l.length) (fun i => l.length - i) 1 ?_ ?_ ?_
 . omega
 . refine Weak.mk hE (lk []) _ _ _ ?_ ?_ ?_ ?_ ?_ <;> simp [h1]
 . intro i hi
   have hz := @wz i (by omega)
   by_cases h : i < l.length
   . obtain ⟨y, hy⟩ := gE h
     have hI : (i : Int) < l.length := by omega
     simp [p153l0, hI, hy, hz]
     refine ⟨i + 1, by omega, by omega, ?_⟩
     refine Weak.mk hE (lk []) _ _ _ ?_ ?_ ?_ ?_ ?_ <;> simp [minT_succ hy]
   . have hI : ¬ (i : Int) < l.length := by omega
     obtain rfl : i = l.length := by omega
     simp [p153l0]
     apply RZ
     simp [results153]
theorem fn154 (x : Int) (r : List Int) (hl : r.length <= 1000000) : Ct prog 154 [.d (intsD (x :: r))] (vi (maxT (x :: r) (r.length + 1))) [] := by
 have h1 : maxT (x :: r) 1 = x := by simp [maxT]
 have hn : ¬ ((r.length : Int) + 1 < 1) := by omega
 obtain ⟨l, hq⟩ : ∃ l, l = x :: r := ⟨_, rfl⟩
 have hl2 : l.length = r.length + 1 := by rw [hq]; rfl
 have h0 : l[0]? = some x := by rw [hq]; rfl
 rw [<- hq] at h1 ⊢
 rw [<- hl2]
 have hn : ¬ ((l.length : Int) < 1) := by omega
 refine CB func154 c154 fun E hE => ?_
 simp [p154, hn, h0]
 refine pw_loop (α := Nat) (fun i => ⟨slots [(0, .d (intsD l)), (3, vi (maxT l i)), (4, vi i)], lk [], 0⟩) (fun i => i <= l.length) (fun i => l.length - i) 1 ?_ ?_ ?_
 . omega
 . refine Weak.mk hE (lk []) _ _ _ ?_ ?_ ?_ ?_ ?_ <;> simp [h1]
 . intro i hi
   have hz := @wz i (by omega)
   by_cases h : i < l.length
   . obtain ⟨y, hy⟩ := gE h
     have hI : (i : Int) < l.length := by omega
     simp [p154l0, hI, hy, hz]
     refine ⟨i + 1, by omega, by omega, ?_⟩
     refine Weak.mk hE (lk []) _ _ _ ?_ ?_ ?_ ?_ ?_ <;> simp [maxT_succ hy]
   . have hI : ¬ (i : Int) < l.length := by omega
     obtain rfl : i = l.length := by omega
     simp [p154l0]
     apply RZ
     simp [results154]
theorem fn110 (x : Ldp) (h : okLd x = true) : Ct prog 110 [vsp x.al x.ah, vsp x.wl x.wh] (vsp (mnP x) (mxP x)) [] := by
 have b := prod_bd h
 have b1 := b x.al x.wl (.inl rfl) (.inl rfl)
 have b2 := b x.al x.wh (.inl rfl) (.inr rfl)
 have b3 := b x.ah x.wl (.inr rfl) (.inl rfl)
 have b4 := b x.ah x.wh (.inr rfl) (.inr rfl)
 have w1 : IntKind.wrap .i64 (x.al * x.wl) = x.al * x.wl := wrap64 (by omega) (by omega)
 have w2 : IntKind.wrap .i64 (x.al * x.wh) = x.al * x.wh := wrap64 (by omega) (by omega)
 have w3 : IntKind.wrap .i64 (x.ah * x.wl) = x.ah * x.wl := wrap64 (by omega) (by omega)
 have w4 : IntKind.wrap .i64 (x.ah * x.wh) = x.ah * x.wh := wrap64 (by omega) (by omega)
 have c1 := fn153 (x.al * x.wl) [x.al * x.wh, x.ah * x.wl, x.ah * x.wh] (by simp)
 have c2 := fn154 (x.al * x.wl) [x.al * x.wh, x.ah * x.wl, x.ah * x.wh] (by simp)
 rw [show minT [x.al * x.wl, x.al * x.wh, x.ah * x.wl, x.ah * x.wh] ([x.al * x.wh, x.ah * x.wl, x.ah * x.wh].length + 1) = mnP x by simp [minT, mnP]] at c1
 rw [show maxT [x.al * x.wl, x.al * x.wh, x.ah * x.wl, x.ah * x.wh] ([x.al * x.wh, x.ah * x.wl, x.ah * x.wh].length + 1) = mxP x by simp [maxT, mxP]] at c2
 refine CB func110 c110 fun E hE => ?_
 simp [p110, w1, w2, w3, w4, splice, repl]
 refine CLa c1 ?_
 simp
 refine CLa c2 ?_
 simp [splice]
 apply RZ
 simp [results110]
theorem fn108 (x : Ldp) : Ct prog 108 [ldV x] (vsp x.wl x.wh) [] := by
 refine CB func108 c108 fun E hE => ?_
 simp [p108, splice]
 apply RZ
 simp [results108]
theorem fn109 (x : Ldp) (h : okLd x = true) : Ct prog 109 [ldV x] (vsp (mnP x) (mxP x)) [] := by
 have c1 := fn110 x h
 refine CB func109 c109 fun E hE => ?_
 simp [p109]
 refine CLa c1 ?_
 simp [splice]
 apply RZ
 simp [results109]
theorem mn_bd {x : Ldp} (h : okLd x = true) : (-21474836480000 <= mnP x /\ mnP x <= 21474836480000) /\ (-21474836480000 <= mxP x /\ mxP x <= 21474836480000) := by
 have b := prod_bd h
 have b1 := b x.al x.wl (.inl rfl) (.inl rfl)
 have b2 := b x.al x.wh (.inl rfl) (.inr rfl)
 have b3 := b x.ah x.wl (.inr rfl) (.inl rfl)
 have b4 := b x.ah x.wh (.inr rfl) (.inr rfl)
 unfold mnP mxP
 omega
theorem take_len_le {α : Type} (l : List α) (i : Nat) : (l.take i).length <= l.length := by simp; omega
theorem sum_wrap {f : Ldp -> Int} {l : List Ldp} {i : Nat} {x : Ldp} (hx : l[i]? = some x) (hl : l.length <= 40) (hb : ∀ x ∈ l, -21474836480000 <= f x /\ f x <= 21474836480000) : IntKind.wrap .i64 (sumF f (l.take i) + f x) = sumF f (l.take (i + 1)) := by
 rw [<- sumF_take hx]
 have b := sumF_bd (f := f) (b := 21474836480000) (by omega) (l.take (i + 1)) fun y hy => hb y (List.mem_of_mem_take hy)
 have hn := take_len_le l (i + 1)
 have : (21474836480000 : Int) * (l.take (i + 1)).length <= 21474836480000 * 40 := Int.mul_le_mul_of_nonneg_left (by omega) (by omega)
 exact wrap64 (by omega) (by omega)
theorem fn107 (l : List Ldp) (m : FuncId) (f g : Ldp -> Int) (hl : l.length <= 40) (hc : ∀ x ∈ l, Ct prog m [ldV x] (vsp (f x) (g x)) []) (hf : ∀ x ∈ l, -21474836480000 <= f x /\ f x <= 21474836480000) (hg : ∀ x ∈ l, -21474836480000 <= g x /\ g x <= 21474836480000) :
   Ct prog 107 [.d (ldsD l), .d (.fn m [])] (vsp (sumF f l) (sumF g l)) [] := by
 refine CB func107 c107 fun E hE => ?_
 simp [p107]
 refine pw_loop (α := Nat) (fun i => ⟨slots [(1, .d (.fn m [])), (4, .lp 0 0), (5, .lp 1 0), (9, .d (ldsD l)), (10, vi l.length), (11, vi i)], lk [(0, [vi 0, vi 0]), (1, [vi (sumF f (l.take i)), vi (sumF g (l.take i))])], 2⟩) (fun i => i <= l.length) (fun i => l.length - i) 0 ?_ ?_ ?_
 . omega
 . refine Weak.mk hE (lk [(0, 0), (1, 1048576)]) _ _ _ ?_ ?_ ?_ ?_ ?_ <;> simp [sumF]
 . intro i hi
   have hz := @wz i (by omega)
   by_cases h : i < l.length
   . obtain ⟨x, hx⟩ := gE h
     have hI : (i : Int) < l.length := by omega
     have c1 := hc x (List.mem_of_getElem? hx)
     have w1 := sum_wrap hx hl hf
     have w2 := sum_wrap hx hl hg
     simp [p107l0, hI, hx, splice]
     refine CLa c1 ?_
     simp [splice, w1, w2, hz]
     refine ⟨i + 1, by omega, by omega, ?_⟩
     exact WK hE (lk [(0, 0), (1, 1)])
   . have hI : ¬ (i : Int) < l.length := by omega
     obtain rfl : i = l.length := by omega
     simp [p107l0, splice]
     apply RZ
     simp [results107]
theorem ok_of_chk {l : List Ldp} (h : chkLds l = 0) : l.length <= 40 /\ ∀ x ∈ l, okLd x = true := by
 unfold chkLds at h
 split at h
 . cases h
 . split at h
   . rename_i h1 h2
     exact ⟨by omega, fun x hx => List.all_eq_true.1 h2 x hx⟩
   . cases h
theorem wt_bd {x : Ldp} (h : okLd x = true) : (-21474836480000 <= x.wl /\ x.wl <= 21474836480000) /\ (-21474836480000 <= x.wh /\ x.wh <= 21474836480000) := by
 have := okLd_bd h
 omega
theorem fn59 (l : List Ldp) (h : chkLds l = 0) : Ct prog 59 [.d (ldsD l)] (.tup [vsp (sumF Ldp.wl l) (sumF Ldp.wh l), vsp (sumF mnP l) (sumF mxP l), vi 0]) [] := by
 obtain ⟨hl, ho⟩ := ok_of_chk h
 have c1 := fn69 l (by omega)
 rw [h] at c1
 have c2 := fn107 l 108 Ldp.wl Ldp.wh hl (fun x _ => fn108 x) (fun x hx => (wt_bd (ho x hx)).1) (fun x hx => (wt_bd (ho x hx)).2)
 have c3 := fn107 l 109 mnP mxP hl (fun x hx => fn109 x (ho x hx)) (fun x hx => (mn_bd (ho x hx)).1) (fun x hx => (mn_bd (ho x hx)).2)
 refine CB func59 c59 fun E hE => ?_
 simp [p59]
 refine CLa c1 ?_
 simp
 refine CLa c2 ?_
 simp [splice]
 refine CLa c3 ?_
 simp [splice]
 apply RZ
 simp [results59]
theorem fn168 (x : Lim) (p w : Int) (hx : okLm x = true) (h1 : -20000 <= p) (h2 : p <= 20000) (h3 : -1073741824 <= w) (h4 : w <= 1073741824) : Ct prog 168 [lmV x, .agg [vi p, vi w]] (vi (valP x p w)) [] := by
 obtain ⟨q1, q2, q3, q4⟩ := valP_bd hx h1 h2 h3 h4
 obtain ⟨a1, a2, _⟩ := okLm_bd hx
 have w1 : IntKind.wrap .i64 (x.b * p) = x.b * p := wrap64 (by omega) (by omega)
 have w2 : IntKind.wrap .i64 (x.a + x.b * p) = x.a + x.b * p := wrap64 (by omega) (by omega)
 have w3 : IntKind.wrap .i64 (w * (x.a + x.b * p)) = w * (x.a + x.b * p) := wrap64 (by unfold valP at q3; omega) (by unfold valP at q4; omega)
 refine CB func168 c168 fun E hE => ?_
 simp [p168, w1, w2, w3]
 apply RZ
 simp [results168, valP]
structure Cor where
 p : Int
 w : Int
 v : Int
def pickC (x : Lim) (s : Cor) (p w : Int) : Cor := if s.v < valP x p w then ⟨p, w, valP x p w⟩ else s
def stC (x : Lim) (l : Ldp) : Nat -> Cor
 | 0 => ⟨l.al, l.wl, valP x l.al l.wl⟩
 | 1 => pickC x ⟨l.al, l.wl, valP x l.al l.wl⟩ l.ah l.wl
 | 2 => pickC x (pickC x ⟨l.al, l.wl, valP x l.al l.wl⟩ l.ah l.wl) l.al l.wh
 | _ => pickC x (pickC x (pickC x ⟨l.al, l.wl, valP x l.al l.wl⟩ l.ah l.wl) l.al l.wh) l.ah l.wh
def corS (x : Lim) (l : Ldp) : Cor := stC x l 3
theorem pickC_v (x : Lim) (s : Cor) (p w : Int) : (pickC x s p w).v = max s.v (valP x p w) := by
 unfold pickC
 split
 . show valP x p w = _; omega
 . omega
theorem corS_v (x : Lim) (l : Ldp) : (corS x l).v = wstP x l := by simp [corS, stC, pickC_v, wstP]
abbrev corV (c : Cor) : V := .tup [.agg [vi c.p, vi c.w], vi c.v]
theorem fn131 (x : Lim) (l : Ldp) (hx : okLm x = true) (hl : okLd l = true) : Ct prog 131 [lmV x, ldV l] (corV (corS x l)) [] := by
 have b := okLd_bd hl
 have c0 := fn168 x l.al l.wl hx (by omega) (by omega) (by omega) (by omega)
 have c1 := fn168 x l.ah l.wl hx (by omega) (by omega) (by omega) (by omega)
 have c2 := fn168 x l.al l.wh hx (by omega) (by omega) (by omega) (by omega)
 have c3 := fn168 x l.ah l.wh hx (by omega) (by omega) (by omega) (by omega)
 have z1 : IntKind.wrap .i64 1 = 1 := by decide
 have z2 : IntKind.wrap .i64 2 = 2 := by decide
 have z3 : IntKind.wrap .i64 3 = 3 := by decide
 refine CB func131 c131 fun E hE => ?_
 simp [p131, splice]
 refine CLa c0 ?_
 simp [splice, repl]
 refine pw_loop (α := Nat) (fun i => ⟨slots [(2, .lp 0 0), (4, .lp 1 0), (6, .lp 2 0), (7, vi (stC x l i).v), (42, .ls 3 0 3 2), (43, vi 3), (44, vi i)], lk [(0, [vi x.a, vi x.b, vi x.c]), (1, [vi 0, vi 0]), (2, [vi (stC x l i).p, vi (stC x l i).w]), (3, [vi l.ah, vi l.wl, vi l.al, vi l.wh, vi l.ah, vi l.wh])], 4⟩) (fun i => i <= 3) (fun i => 3 - i) 0 ?_ ?_ ?_
 . omega
 . refine Weak.mk hE (lk [(0, 0), (1, 2097152), (2, 11534336), (3, 39845888)]) _ _ _ ?_ ?_ ?_ ?_ ?_ <;> simp [stC]
 . intro i hi
   match i, hi with
   | 0, _ =>
     simp [p131l0, splice]
     refine CLa c1 ?_
     by_cases h : (stC x l 0).v < valP x l.ah l.wl
     . simp [h, splice, z1]
       refine ⟨1, by omega, by omega, ?_⟩
       have e : stC x l 1 = ⟨l.ah, l.wl, valP x l.ah l.wl⟩ := if_pos h
       rw [e]
       exact WK hE (lk [(0, 0), (1, 1), (2, 2), (3, 3)])
     . simp [h, z1]
       refine ⟨1, by omega, by omega, ?_⟩
       have e : stC x l 1 = stC x l 0 := if_neg h
       rw [e]
       exact WK hE (lk [(0, 0), (1, 1), (2, 2), (3, 3)])
   | 1, _ =>
     simp [p131l0, splice]
     refine CLa c2 ?_
     by_cases h : (stC x l 1).v < valP x l.al l.wh
     . simp [h, splice, z2]
       refine ⟨2, by omega, by omega, ?_⟩
       have e : stC x l 2 = ⟨l.al, l.wh, valP x l.al l.wh⟩ := if_pos h
       rw [e]
       exact WK hE (lk [(0, 0), (1, 1), (2, 2), (3, 3)])
     . simp [h, z2]
       refine ⟨2, by omega, by omega, ?_⟩
       have e : stC x l 2 = stC x l 1 := if_neg h
       rw [e]
       exact WK hE (lk [(0, 0), (1, 1), (2, 2), (3, 3)])
   | 2, _ =>
     simp [p131l0, splice]
     refine CLa c3 ?_
     by_cases h : (stC x l 2).v < valP x l.ah l.wh
     . simp [h, splice, z3]
       refine ⟨3, by omega, by omega, ?_⟩
       have e : stC x l 3 = ⟨l.ah, l.wh, valP x l.ah l.wh⟩ := if_pos h
       rw [e]
       exact WK hE (lk [(0, 0), (1, 1), (2, 2), (3, 3)])
     . simp [h, z3]
       refine ⟨3, by omega, by omega, ?_⟩
       have e : stC x l 3 = stC x l 2 := if_neg h
       rw [e]
       exact WK hE (lk [(0, 0), (1, 1), (2, 2), (3, 3)])
   | 3, _ =>
     simp [p131l0, splice]
     apply RZ
     simp [results131, corS]
   | n + 4, h => omega
abbrev bndV (x : Lim) : V := .d (.lit (.func (.func 131) #[.agg #[.int .i64 x.a, .int .i64 x.b, .int .i64 x.c]] #[]))
abbrev putL (c : Cor) : List D := [di c.p, di c.w]
theorem hfp : ∀ c : Cor, (putL c).length = 2 := fun _ => rfl
def ptsT (x : Lim) (l : List Ldp) (i : Nat) : List Cor := (l.take i).map (corS x)
theorem ptsT_succ {x : Lim} {l : List Ldp} {i : Nat} {y : Ldp} (h : l[i]? = some y) : ptsT x l (i + 1) = ptsT x l i ++ [corS x y] := by
 unfold ptsT
 rw [List.take_add_one, h]; simp
theorem ptsT_len {x : Lim} {l : List Ldp} {i : Nat} (h : i <= l.length) : (ptsT x l i).length = i := by unfold ptsT; simp; omega
def hdN (i sz : Nat) : V := if i = 0 then .d (.lit (.slice none 0 0)) else .ls 0 0 i sz
def bkN (i : Nat) (cs : List V) : List (Nat × List V) := if i = 0 then [] else [(0, cs)]
theorem hdN_z {sz : Nat} : hdN 0 sz = .d (.lit (.slice none 0 0)) := rfl
theorem bkN_z {cs : List V} : bkN 0 cs = [] := rfl
theorem hdN_n {i sz : Nat} (h : i ≠ 0) : hdN i sz = .ls 0 0 i sz := if_neg h
theorem bkN_n {i : Nat} {cs : List V} (h : i ≠ 0) : bkN i cs = [(0, cs)] := if_neg h
theorem put_one (c : Cor) : fcel putL [c] = [vi c.p, vi c.w] := rfl
theorem wst_wrap {x : Lim} {l : List Ldp} {i : Nat} {y : Ldp} (hy : l[i]? = some y) (hl : l.length <= 40) (hx : okLm x = true) (ho : ∀ y ∈ l, okLd y = true) : IntKind.wrap .i64 (sumF (wstP x) (l.take i) + wstP x y) = sumF (wstP x) (l.take (i + 1)) := by
 have hb : ∀ y ∈ l, -21475910221824000 <= wstP x y /\ wstP x y <= 21475910221824000 := fun y hy => by
   have b := okLd_bd (ho y hy)
   have b1 := (valP_bd (p := y.al) (w := y.wl) hx (by omega) (by omega) (by omega) (by omega)).2.2
   have b2 := (valP_bd (p := y.ah) (w := y.wl) hx (by omega) (by omega) (by omega) (by omega)).2.2
   have b3 := (valP_bd (p := y.al) (w := y.wh) hx (by omega) (by omega) (by omega) (by omega)).2.2
   have b4 := (valP_bd (p := y.ah) (w := y.wh) hx (by omega) (by omega) (by omega) (by omega)).2.2
   unfold wstP
   omega
 rw [<- sumF_take hy]
 have b := sumF_bd (f := wstP x) (b := 21475910221824000) (by omega) (l.take (i + 1)) fun y hy => hb y (List.mem_of_mem_take hy)
 have hn := take_len_le l (i + 1)
 have : (21475910221824000 : Int) * (l.take (i + 1)).length <= 21475910221824000 * 40 := Int.mul_le_mul_of_nonneg_left (by omega) (by omega)
 exact wrap64 (by omega) (by omega)
theorem wst_raw (x : Lim) (l : List Ldp) (hx : okLm x = true) (hl : l.length <= 40) (ho : ∀ y ∈ l, okLd y = true) : Ct prog 130 [.d (ldsD l), bndV x] (.tup [vi (sumF (wstP x) l), hdN l.length 2]) (bkN l.length (fcel putL (ptsT x l l.length))) := by
 have hri : ResIds (.tup [vi (sumF (wstP x) l), hdN l.length 2]) (bkN l.length (fcel putL (ptsT x l l.length))) := by
   unfold hdN bkN
   split <;> simp [ResIds]
 refine Ct.by gok eok mixed func130 c130 rfl (by simp [ntmps130]) (by simp) hri fun E hE => ?_
 simp [p130]
 refine pw_loop (α := Nat) (fun i => ⟨slots [(1, bndV x), (6, vi (sumF (wstP x) (l.take i))), (7, hdN i 2), (12, .d (ldsD l)), (13, vi l.length), (14, vi i)], lk (bkN i (fcel putL (ptsT x l i))), 1⟩) (fun i => i <= l.length) (fun i => l.length - i) 0 ?_ ?_ ?_
 . omega
 . rw [hdN_z, bkN_z]
   refine Weak.mk hE (lk []) _ _ _ ?_ ?_ ?_ ?_ ?_ <;> simp [sumF]
 . intro i hi
   have hz := @wz i (by omega)
   by_cases h : i < l.length
   . obtain ⟨y, hy⟩ := gE h
     have hI : (i : Int) < l.length := by omega
     have c1 := fn131 x y hx (ho y (List.mem_of_getElem? hy))
     have w1 := wst_wrap hy hl hx ho
     have e1 := corS_v x y
     by_cases h0 : i = 0
     . have e3 : hdN i 2 = .d (.lit (.slice none 0 0)) := by rw [h0]; rfl
       have e4 : bkN i (fcel putL (ptsT x l i)) = [] := by rw [h0]; rfl
       have e5 : ptsT x l i = [] := by rw [h0]; rfl
       have e6 : i + 1 = 1 := by omega
       have e7 : (i : Int) + 1 = 1 := by omega
       rw [e3, e4]
       simp [p130l0, hI, hy, splice]
       refine CLa c1 ?_
       simp [splice, repl, hz, e1, w1]
       refine ⟨i + 1, by omega, by omega, ?_⟩
       rw [hdN_n (by omega), bkN_n (by omega), ptsT_succ hy, e5]
       refine Weak.mk hE (lk [(0, 22020097)]) _ _ _ ?_ ?_ ?_ ?_ ?_ <;> simp [put_one, e6, e7]
     . have e2 : i + 1 ≠ 0 := by omega
       have hsl := fcel_len hfp (ptsT x l i)
       have hwh := fcel_whole hfp (ptsT x l i)
       rw [ptsT_len hi] at hsl hwh
       have n1 : (i + 1) * 16 <= 140737488355328 := by omega
       have n2 : i <= 9223372036854775806 := by omega
       rw [hdN_n h0, bkN_n h0]
       simp [p130l0, hI, hy, splice]
       refine CLa c1 ?_
       simp [splice, repl, hz, e1, w1, hsl, hwh, n1, n2]
       refine ⟨i + 1, by omega, by omega, ?_⟩
       rw [hdN_n e2, bkN_n e2, ptsT_succ hy]
       refine Weak.mk hE (lk [(0, 22020097)]) _ _ _ ?_ ?_ ?_ ?_ ?_ <;> simp [fcel_one]
   . have hI : ¬ (i : Int) < l.length := by omega
     obtain rfl : i = l.length := by omega
     by_cases h0 : l.length = 0
     . obtain rfl : l = [] := List.length_eq_zero_iff.1 h0
       rw [List.length_nil, hdN_z, bkN_z]
       simp [p130l0]
       apply RZ
       simp [results130]
     . rw [hdN_n h0, bkN_n h0]
       simp [p130l0]
       refine RetOk.by (lk [(0, 0)]) ?_
       simp [results130]
abbrev putsD (x : Lim) (l : List Ldp) : D := slD putL 2 (l.map (corS x))
theorem fn130 (x : Lim) (l : List Ldp) (hx : okLm x = true) (hl : l.length <= 40) (ho : ∀ y ∈ l, okLd y = true) : Ct prog 130 [.d (ldsD l), bndV x] (.tup [vi (sumF (wstP x) l), .d (putsD x l)]) [] := by
 refine Cm.freeze (wst_raw x l hx hl ho) ?_
 show Fz (lk (bkN l.length (fcel putL (ptsT x l l.length)))) (.tup [vi (sumF (wstP x) l), hdN l.length 2]) (.tup [vi (sumF (wstP x) l), .d (putsD x l)])
 have e : ptsT x l l.length = l.map (corS x) := by unfold ptsT; rw [List.take_length]
 rw [e]
 by_cases h0 : l.length = 0
 . obtain rfl : l = [] := List.length_eq_zero_iff.1 h0
   exact ⟨.inl rfl, .inr ⟨rfl, _, rfl⟩, trivial⟩
 . rw [hdN_n h0, bkN_n h0]
   have hb : Bor (lk [(0, fcel putL (l.map (corS x)))]) (.ls 0 0 (l.map (corS x)).length 2) (.d (putsD x l)) := bor_fcel hfp (by simp)
   rw [List.length_map] at hb
   exact ⟨.inl rfl, hb, trivial⟩
def bkL (l : List Ldp) (ls : List Lim) : Option (Nat × Lim) := match brkS l ls with
 | some i => (ls[i]?).map fun x => (i, x)
 | none => none
def brkV (l : List Ldp) (ls : List Lim) : V := match bkL l ls with
 | some (i, x) => .agg [vi i, .d (putsD x l)]
 | none => .agg [vi 0, .d (.lit (.slice none 0 0))]
theorem brk_hit {l : List Ldp} {ls : List Lim} {i : Nat} {x : Lim} (hx : ls[i]? = some x) (h : x.c < sumF (wstP x) l) (hn : ∀ j y, j < i -> ls[j]? = some y -> sumF (wstP y) l <= y.c) : brkS l ls = some i := by
 unfold brkS
 rw [List.findIdx?_eq_some_iff_getElem]
 obtain ⟨h1, h2⟩ := List.getElem?_eq_some_iff.1 hx
 refine ⟨h1, by rw [h2]; exact decide_eq_true h, fun j hj => ?_⟩
 have := hn j ls[j] hj (List.getElem?_eq_getElem (by omega))
 rw [decide_eq_false (by omega)]; simp
theorem brk_no {l : List Ldp} {ls : List Lim} (hn : ∀ (j : Nat) y, ls[j]? = some y -> sumF (wstP y) l <= y.c) : brkS l ls = none := by
 unfold brkS
 rw [List.findIdx?_eq_none_iff]
 intro p hp
 obtain ⟨j, hj⟩ := List.getElem?_of_mem hp
 have := hn j p hj
 exact decide_eq_false (by omega)
theorem oklm_of_chk {l : List Lim} (h : chkLms l = 0) : l.length <= 12 /\ ∀ x ∈ l, okLm x = true := by
 unfold chkLms at h
 split at h
 . cases h
 . split at h
   . rename_i h1 h2
     exact ⟨by omega, fun x hx => List.all_eq_true.1 h2 x hx⟩
   . cases h
theorem brkV_some {l : List Ldp} {ls : List Lim} {i : Nat} {x : Lim} (hx : ls[i]? = some x) (h : brkS l ls = some i) : brkV l ls = .agg [vi i, .d (putsD x l)] := by
 simp [brkV, bkL, h, hx]
theorem brkV_none {l : List Ldp} {ls : List Lim} (h : brkS l ls = none) : brkV l ls = .agg [vi 0, .d (.lit (.slice none 0 0))] := by
 simp [brkV, bkL, h]
theorem fn79 (l : List Ldp) (ls : List Lim) (hl : l.length <= 40) (ho : ∀ y ∈ l, okLd y = true) (hn : ls.length <= 12) (hx : ∀ x ∈ ls, okLm x = true) : Ct prog 79 [.d (ldsD l), .d (lmsD ls)] (.tup [brkV l ls, vb (brkS l ls).isSome]) [] := by
 have hri : ResIds (.tup [brkV l ls, vb (brkS l ls).isSome]) [] := by
   unfold brkV
   split <;> simp [ResIds]
 refine Ct.by gok eok mixed func79 c79 rfl (by simp [ntmps79]) (by simp) hri fun E hE => ?_
 simp [p79]
 refine pw_loop (α := Nat) (fun i => ⟨slots [(0, .d (ldsD l)), (4, .lp 0 0), (10, .d (lmsD ls)), (11, vi ls.length), (12, vi i)], lk [(0, [vi 0, .d (.lit (.slice none 0 0))])], 1⟩) (fun i => i <= ls.length /\ ∀ j y, j < i -> ls[j]? = some y -> sumF (wstP y) l <= y.c) (fun i => ls.length - i) 0 ?_ ?_ ?_
 . exact ⟨by omega, fun j y hj => by omega⟩
 . exact WK hE (lk [(0, 0)])
 . rintro i ⟨hi, hb⟩
   have hz := @wz i (by omega)
   by_cases h : i < ls.length
   . obtain ⟨x, hy⟩ := gE h
     have hI : (i : Int) < ls.length := by omega
     have c1 := fn130 x l (hx x (List.mem_of_getElem? hy)) hl ho
     by_cases h2 : x.c < sumF (wstP x) l
     . have e := brk_hit hy h2 hb
       simp [p79l0, hI, hy, splice]
       refine CLa c1 ?_
       simp [splice, h2]
       apply RZ
       simp [results79, e, brkV_some hy e]
     . simp [p79l0, hI, hy, splice]
       refine CLa c1 ?_
       simp [h2, hz]
       refine ⟨i + 1, ⟨by omega, fun j y hj hy' => ?_⟩, by omega, ?_⟩
       . by_cases e : j = i
         . subst e
           rw [hy] at hy'
           cases hy'
           omega
         . exact hb j y (by omega) hy'
       . exact WK hE (lk [(0, 0)])
   . have hI : ¬ (i : Int) < ls.length := by omega
     have e := brk_no (l := l) (ls := ls) fun j y hy => hb j y (by have := (List.getElem?_eq_some_iff.1 hy).1; omega) hy
     simp [p79l0, hI, splice]
     apply RZ
     simp [results79, e, brkV_none e]
theorem fn78 (l : List Ldp) (ls : List Lim) (h : chkLds l = 0) (hn : ls.length <= 1000000) : Ct prog 78 [.d (ldsD l), .d (lmsD ls)] (vi (chkLms ls)) [] := by
 have c1 := fn69 l (by have := (ok_of_chk h).1; omega)
 rw [h] at c1
 have c2 := fn57 ls hn
 refine CB func78 c78 fun E hE => ?_
 simp [p78]
 refine CLa c1 ?_
 simp
 refine CLa c2 ?_
 simp
 apply RZ
 simp [results78]
theorem fn30 (l : List Ldp) (ls : List Lim) (h : chkLds l = 0) (h2 : chkLms ls = 0) : Ct prog 30 [.d (ldsD l), .d (lmsD ls)] (.tup [brkV l ls, vi (if (brkS l ls).isSome then 0 else 6)]) [] := by
 obtain ⟨hl, ho⟩ := ok_of_chk h
 obtain ⟨hn, hx⟩ := oklm_of_chk h2
 have c1 := fn78 l ls h (by omega)
 rw [h2] at c1
 have c2 := fn79 l ls hl ho hn hx
 cases hb : brkS l ls with
 | none =>
   rw [brkV_none hb, hb] at c2
   rw [brkV_none hb]
   refine CB func30 c30 fun E hE => ?_
   simp [p30]
   refine CLa c1 ?_
   simp
   refine CLa c2 ?_
   simp [splice]
   apply RZ
   simp [results30]
 | some i =>
   obtain ⟨x, hy⟩ : ∃ x, ls[i]? = some x := by
     have : i < ls.length := by
       unfold brkS at hb
       rw [List.findIdx?_eq_some_iff_getElem] at hb
       exact hb.1
     exact ⟨_, List.getElem?_eq_getElem this⟩
   rw [brkV_some hy hb, hb] at c2
   rw [brkV_some hy hb]
   refine CB func30 c30 fun E hE => ?_
   simp [p30]
   refine CLa c1 ?_
   simp
   refine CLa c2 ?_
   simp [splice]
   apply RZ
   simp [results30]
end Go.Proofs.Tryz
