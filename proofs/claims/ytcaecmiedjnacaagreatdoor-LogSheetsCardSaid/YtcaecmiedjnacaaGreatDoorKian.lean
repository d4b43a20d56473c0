/- Own lemmas, used by the last text. Conditions: those that each theorem states. -/
import Derived.Test.YtcaecmiedjnacaaGreatDoorKiai
import Derived.Test.YtcaecmiedjnacaaGreatDoorKiak
import Derived.Test.YtcaecmiedjnacaaGreatDoorKial
import Derived.Test.YtcaecmiedjnacaaGreatDoorKiam
set_option maxRecDepth 200000
set_option maxHeartbeats 8000000
namespace Go.Proofs.Tryz
open Go.Psl
open Go.Log
theorem number18_nn (m : Nat) : ∀ n : Int, 0 <= n -> n.toNat <= m -> n < 1000000000000000000 -> Ct prog 104 [vi n] (vS (numS n)) [] := by
 induction m using Nat.strongRecOn with
 | _ m ih =>
   intro n h0 h1 h2
   have hn0 : ¬ n < 0 := by omega
   by_cases h : n < 10
   . have w1 : IntKind.wrap .i64 (48 + n) = 48 + n := wrap64 (by omega) (by omega)
     have w2 : IntKind.wrap .u8 (48 + n) = 48 + n := wrapu8 (by omega) (by omega)
     have k1 : (0 : Int) <= 48 + n /\ 48 + n < 256 := by omega
     refine CB func104 c104 fun E hE => ?_
     simp [p104, hn0, h, w1, w2, k1, splice, repl]
     apply RZ
     simp [results104, num_one h0 h]
   . have q1 : n.tdiv 10 = n / 10 := Int.tdiv_eq_ediv_of_nonneg h0
     have q2 : n.tmod 10 = n % 10 := Int.tmod_eq_emod_of_nonneg h0
     have w1 : IntKind.wrap .i64 (n / 10) = n / 10 := wrap64 (by omega) (by omega)
     have c1 := ih (n / 10).toNat (by omega) (n / 10) (by omega) (by omega) (by omega)
     have c2 := ih (n % 10).toNat (by omega) (n % 10) (by omega) (by omega) (by omega)
     have l1 := numS_len2 (n / 10) (by omega) (by omega)
     have l2 := numS_len2 (n % 10) (by omega) (by omega)
     have b1 : (numS (n / 10)).length + (numS (n % 10)).length <= 9223372036854775807 := by omega
     refine CB func104 c104 fun E hE => ?_
     simp [p104, hn0, h, q1, w1]
     refine CLa c1 ?_
     simp [q2]
     refine CLa c2 ?_
     simp [b1]
     apply RZ
     simp [results104, num_two (n := n) (by omega)]
theorem number18 (n : Int) (h0 : -1000000000000000000 < n) (h1 : n < 1000000000000000000) : Ct prog 104 [vi n] (vS (numS n)) [] := by
 by_cases h : n < 0
 . have c1 := number18_nn _ (-n) (by omega) (Nat.le_refl _) (by omega)
   have w1 : IntKind.wrap .i64 (-n) = -n := wrap64 (by omega) (by omega)
   have l1 := numS_len2 (-n) (by omega) (by omega)
   have b1 : 1 + (numS (-n)).length <= 9223372036854775807 := by omega
   have b2 : (numS (-n)).length + 1 <= 9223372036854775807 := by omega
   refine CB func104 c104 fun E hE => ?_
   simp [p104, h, w1]
   refine CLa c1 ?_
   simp [b1]
   apply RZ
   simp [results104, num_neg h]
 . exact number18_nn _ n (by omega) (Nat.le_refl _) h1
theorem fn159 (n lo hi : Int) : Ct prog 159 [vi n, vi lo, vi hi] (vb (betw n lo hi)) [] := by
 by_cases h1 : lo <= n
 . by_cases h2 : n <= hi
   . refine CB func159 c159 fun E hE => ?_
     simp [p159, h1, h2]
     apply RZ
     simp [results159, betw, h1, h2]
   . refine CB func159 c159 fun E hE => ?_
     simp [p159, h1, h2]
     apply RZ
     simp [results159, betw, h1, h2]
 . refine CB func159 c159 fun E hE => ?_
   simp [p159, h1]
   apply RZ
   simp [results159, betw, h1]
theorem fn127 (lo hi m : Int) (h0 : 0 <= m) (h1 : m <= 1000000000000) : Ct prog 127 [vsp lo hi, vi m] (vb (spnB lo hi m)) [] := by
 have w1 : IntKind.wrap .i64 (-m) = -m := wrap64 (by omega) (by omega)
 by_cases a1 : -m <= lo
 case neg =>
   refine CB func127 c127 fun E hE => ?_
   simp [p127, w1, a1]
   apply RZ
   simp [results127, spnB, a1]
 by_cases a2 : lo <= hi
 case neg =>
   refine CB func127 c127 fun E hE => ?_
   simp [p127, w1, a1, a2]
   apply RZ
   simp [results127, spnB, a2]
 by_cases a3 : hi <= m
 . refine CB func127 c127 fun E hE => ?_
   simp [p127, w1, a1, a2, a3]
   apply RZ
   simp [results127, spnB, a1, a2, a3]
 . refine CB func127 c127 fun E hE => ?_
   simp [p127, w1, a1, a2, a3]
   apply RZ
   simp [results127, spnB, a1, a2, a3]
theorem fn113 (x : Lim) : Ct prog 113 [.agg [vi x.a, vi x.b, vi x.c]] (vb (okLm x)) [] := by
 have c1 := fn159 x.a (-1000) 1000
 have c2 := fn159 x.b (-1000) 1000
 have c3 := fn159 x.c (-1000000000000000000) 1000000000000000000
 unfold okLm
 cases h1 : betw x.a (-1000) 1000 with
 | false =>
   rw [h1] at c1
   refine CB func113 c113 fun E hE => ?_
   simp [p113]
   refine CLa c1 ?_
   simp
   apply RZ
   simp [results113]
 | true =>
   rw [h1] at c1
   cases h2 : betw x.b (-1000) 1000 with
   | false =>
     rw [h2] at c2
     refine CB func113 c113 fun E hE => ?_
     simp [p113]
     refine CLa c1 ?_
     simp
     refine CLa c2 ?_
     simp
     apply RZ
     simp [results113]
   | true =>
     rw [h2] at c2
     refine CB func113 c113 fun E hE => ?_
     simp [p113]
     refine CLa c1 ?_
     simp
     refine CLa c2 ?_
     simp
     refine CLa c3 ?_
     simp
     apply RZ
     simp [results113]
theorem fn63 (l : List Lim) (hl : l.length <= 1000000) : Ct prog 63 [.d (lmsD l)] (vi (chkLms l)) [] := by
 by_cases h0 : 12 < l.length
 . have h0' : (12 : Int) < l.length := by omega
   refine CB func63 c63 fun E hE => ?_
   simp [p63, h0']
   apply RZ
   simp [results63, chkLms, h0]
 have h0' : ¬ (12 : Int) < l.length := by omega
 refine CB func63 c63 fun E hE => ?_
 simp [p63, h0']
 refine pw_loop (α := Nat) (fun i => ⟨slots [(0, .d (lmsD l)), (3, vi i)], lk [], 0⟩) (fun i => i <= l.length /\ ∀ j, j < i -> (l[j]?).all okLm = true) (fun i => l.length - i) 0 ?_ ?_ ?_
 . exact ⟨by omega, fun j hj => by omega⟩
 . exact WK hE (lk [])
 . rintro i ⟨hi, hg3⟩
   have hz := @wz i (by omega)
   by_cases h : i < l.length
   . obtain ⟨x, hx⟩ := gE h
     have hI : (i : Int) < l.length := by omega
     have c2 := fn113 x
     by_cases h4 : okLm x = true
     . rw [h4] at c2
       simp [p63l0, hI, hx]
       refine CLa c2 ?_
       simp [hz]
       refine ⟨i + 1, ⟨by omega, fun j hj => ?_⟩, by omega, ?_⟩
       . by_cases e : j = i
         . subst e; rw [hx]; simp [h4]
         . exact hg3 j (by omega)
       . exact WK hE (lk [])
     . simp only [Bool.not_eq_true] at h4
       rw [h4] at c2
       simp [p63l0, hI, hx]
       refine CLa c2 ?_
       simp
       apply RZ
       simp [results63, chkLms, h0, all_bad hx h4]
   . have hI : ¬ (i : Int) < l.length := by omega
     have h1 : l.all okLm = true := all_ok fun j hj => hg3 j (by omega)
     simp [p63l0, hI]
     apply RZ
     simp [results63, chkLms, h0, h1]
theorem fn72 (l : List Ldp) (hl : l.length <= 1000000) : Ct prog 72 [.d (ldsD l)] (vi (chkLds l)) [] := by
 by_cases h0 : 40 < l.length
 . have h0' : (40 : Int) < l.length := by omega
   refine CB func72 c72 fun E hE => ?_
   simp [p72, h0']
   apply RZ
   simp [results72, chkLds, h0]
 have h0' : ¬ (40 : Int) < l.length := by omega
 refine CB func72 c72 fun E hE => ?_
 simp [p72, h0']
 refine pw_loop (α := Nat) (fun i => ⟨slots [(0, .d (ldsD l)), (3, vi i)], lk [], 0⟩) (fun i => i <= l.length /\ ∀ j, j < i -> (l[j]?).all okLd = true) (fun i => l.length - i) 0 ?_ ?_ ?_
 . exact ⟨by omega, fun j hj => by omega⟩
 . exact WK hE (lk [])
 . rintro i ⟨hi, hg3⟩
   have hz := @wz i (by omega)
   by_cases h : i < l.length
   . obtain ⟨x, hx⟩ := gE h
     have hI : (i : Int) < l.length := by omega
     have c1 := fn127 x.al x.ah 20000 (by omega) (by omega)
     have c2 := fn127 x.wl x.wh 1073741824 (by omega) (by omega)
     cases s1 : spnB x.al x.ah 20000 with
     | false =>
       have h4 : okLd x = false := by simp [okLd, s1]
       rw [s1] at c1
       simp [p72l0, hI, hx]
       refine CLa c1 ?_
       simp
       apply RZ
       simp [results72, chkLds, h0, all_bad hx h4]
     | true =>
       rw [s1] at c1
       cases s2 : spnB x.wl x.wh 1073741824 with
       | false =>
         have h4 : okLd x = false := by simp [okLd, s2]
         rw [s2] at c2
         simp [p72l0, hI, hx]
         refine CLa c1 ?_
         simp [hx]
         refine CLa c2 ?_
         simp
         apply RZ
         simp [results72, chkLds, h0, all_bad hx h4]
       | true =>
         have h4 : okLd x = true := by simp [okLd, s1, s2]
         rw [s2] at c2
         simp [p72l0, hI, hx]
         refine CLa c1 ?_
         simp [hx]
         refine CLa c2 ?_
         simp [hz]
         refine ⟨i + 1, ⟨by omega, fun j hj => ?_⟩, by omega, ?_⟩
         . by_cases e : j = i
           . subst e; rw [hx]; simp [h4]
           . exact hg3 j (by omega)
         . exact WK hE (lk [])
   . have hI : ¬ (i : Int) < l.length := by omega
     have h1 : l.all okLd = true := all_ok fun j hj => hg3 j (by omega)
     simp [p72l0, hI]
     apply RZ
     simp [results72, chkLds, h0, h1]
end Go.Proofs.Tryz
namespace Go.Log
def prK (x : Ldp) : Nat -> Int
 | 0 => x.al * x.wl
 | 1 => x.ah * x.wl
 | 2 => x.al * x.wh
 | _ => x.ah * x.wh
def loK (x : Ldp) : Nat -> Int
 | 0 => prK x 0
 | k + 1 => min (loK x k) (prK x k)
def hiK (x : Ldp) : Nat -> Int
 | 0 => prK x 0
 | k + 1 => max (hiK x k) (prK x k)
theorem loK_all (x : Ldp) : loK x 4 = mnP x := by
 simp only [loK, prK, mnP]
 generalize x.al * x.wl = a
 generalize x.ah * x.wl = b
 generalize x.al * x.wh = c
 generalize x.ah * x.wh = d
 omega
theorem hiK_all (x : Ldp) : hiK x 4 = mxP x := by
 simp only [hiK, prK, mxP]
 generalize x.al * x.wl = a
 generalize x.ah * x.wl = b
 generalize x.al * x.wh = c
 generalize x.ah * x.wh = d
 omega
end Go.Log
namespace Go.Proofs.Tryz
open Go.Psl
open Go.Log
abbrev corD (x : Ldp) : D := .sl 2 [[di x.al, di x.wl], [di x.ah, di x.wl], [di x.al, di x.wh], [di x.ah, di x.wh]]
theorem cor_raw (x : Ldp) : Ct prog 160 [ldV x] (.ls 0 0 4 2) [(0, [vi x.al, vi x.wl, vi x.ah, vi x.wl, vi x.al, vi x.wh, vi x.ah, vi x.wh])] := by
 refine CB func160 c160 fun E hE => ?_
 simp [p160, splice, repl]
 refine RetOk.by (lk [(0, 31457280)]) ?_
 simp [results160]
theorem fn160 (x : Ldp) : Ct prog 160 [ldV x] (.d (corD x)) [] := by
 refine Cm.freeze (cor_raw x) ?_
 exact ⟨rfl, rfl, fun e he => by simp at he; rcases he with rfl | rfl | rfl | rfl <;> rfl, _, rfl, rfl⟩
abbrev mulF (x : Ldp) : Prop := (IntKind.wrap .i64 (x.al * x.wl) = x.al * x.wl /\ IntKind.wrap .i64 (x.ah * x.wl) = x.ah * x.wl) /\ IntKind.wrap .i64 (x.al * x.wh) = x.al * x.wh /\ IntKind.wrap .i64 (x.ah * x.wh) = x.ah * x.wh
theorem mul_f {x : Ldp} (h : okLd x = true) : mulF x := by
 have b := prod_bd h
 have b1 := b x.al x.wl (.inl rfl) (.inl rfl)
 have b2 := b x.ah x.wl (.inr rfl) (.inl rfl)
 have b3 := b x.al x.wh (.inl rfl) (.inr rfl)
 have b4 := b x.ah x.wh (.inr rfl) (.inr rfl)
 exact ⟨⟨wrap64 (by omega) (by omega), wrap64 (by omega) (by omega)⟩, wrap64 (by omega) (by omega), wrap64 (by omega) (by omega)⟩
theorem chk_take {l : List Ldp} (h : chkLds l = 0) (j : Nat) : chkLds (l.take j) = 0 := by
 obtain ⟨hl, ho⟩ := lds_of h
 have h1 : ¬ 40 < (l.take j).length := by rw [List.length_take]; omega
 have h2 : (l.take j).all okLd = true := List.all_eq_true.2 fun x hx => ho x (List.mem_of_mem_take hx)
 simp only [chkLds, h1, h2, if_false, if_true]
theorem fn115 (l : List Ldp) (h : chkLds l = 0) : Ct prog 115 [.d (ldsD l)] (.tup [vsp (sumF Ldp.wl l) (sumF Ldp.wh l), vsp (sumF mnP l) (sumF mxP l), vi 0]) [] := by
 obtain ⟨hl, ho⟩ := lds_of h
 have c1 := fn72 l (by omega)
 rw [h] at c1
 refine CB func115 c115 fun E hE => ?_
 simp [p115]
 refine CLa c1 ?_
 simp
 refine pw_loop (α := Nat) (fun i => ⟨slots [(0, .d (ldsD l)), (2, .lp 0 0), (3, .lp 1 0), (6, .lp 2 0), (7, .lp 3 0), (8, vi i)], lk [(0, [vi 0, vi 0]), (1, [vi 0, vi 0]), (2, [vi (sumF Ldp.wl (l.take i)), vi (sumF Ldp.wh (l.take i))]), (3, [vi (sumF mnP (l.take i)), vi (sumF mxP (l.take i))])], 4⟩) (fun i => i <= l.length) (fun i => l.length - i) 0 ?_ ?_ ?_
 . omega
 . refine Weak.mk hE (lk [(0, 0), (1, 1048576), (2, 8388608), (3, 9437184)]) _ _ _ ?_ ?_ ?_ ?_ ?_ <;> simp [sumF]
 . intro i hi
   have hz := @wz i (by omega)
   by_cases hh : i < l.length
   . obtain ⟨x, hx⟩ := gE hh
     have hI : (i : Int) < l.length := by omega
     have hox := ho x (List.mem_of_getElem? hx)
     have cc := fn160 x
     obtain ⟨⟨m1, m2⟩, m3, m4⟩ := mul_f hox
     have s1 := sumF_take (f := Ldp.wl) hx
     have s2 := sumF_take (f := Ldp.wh) hx
     have s3 := sumF_take (f := mnP) hx
     have s4 := sumF_take (f := mxP) hx
     obtain ⟨b1, b2, b3, b4⟩ := sum_bds (chk_take h (i + 1))
     have w1 : IntKind.wrap .i64 (sumF Ldp.wl (l.take i) + x.wl) = sumF Ldp.wl (l.take (i + 1)) := by rw [<- s1]; exact wrap64 (by omega) (by omega)
     have w2 : IntKind.wrap .i64 (sumF Ldp.wh (l.take i) + x.wh) = sumF Ldp.wh (l.take (i + 1)) := by rw [<- s2]; exact wrap64 (by omega) (by omega)
     have w3 : IntKind.wrap .i64 (sumF mnP (l.take i) + mnP x) = sumF mnP (l.take (i + 1)) := by rw [<- s3]; exact wrap64 (by omega) (by omega)
     have w4 : IntKind.wrap .i64 (sumF mxP (l.take i) + mxP x) = sumF mxP (l.take (i + 1)) := by rw [<- s4]; exact wrap64 (by omega) (by omega)
     have v2 : IntKind.wrap .i64 2 = 2 := by decide
     have v3 : IntKind.wrap .i64 3 = 3 := by decide
     have v4 : IntKind.wrap .i64 4 = 4 := by decide
     clear b1 b2 b3 b4 s1 s2 s3 s4
     simp [p115l1, hI, hx, splice, inC, Nat.testBit, w1, w2]
     refine CLa cc ?_
     simp [m1]
     refine pw_loopC (α := Nat) 2 (fun _ : Unit => ⟨slots [(0, .d (ldsD l)), (2, .lp 0 0), (3, .lp 1 0), (6, .lp 2 0), (7, .lp 3 0), (8, vi i), (10, vi (mnP x)), (11, vi (mxP x))], lk [(0, [vi 0, vi 0]), (1, [vi 0, vi 0]), (2, [vi (sumF Ldp.wl (l.take (i + 1))), vi (sumF Ldp.wh (l.take (i + 1)))]), (3, [vi (sumF mnP (l.take i)), vi (sumF mxP (l.take i))])], 4⟩) (fun _ => True)
       (fun k => ⟨slots [(0, .d (ldsD l)), (2, .lp 0 0), (3, .lp 1 0), (6, .lp 2 0), (7, .lp 3 0), (8, vi i), (9, .d (corD x)), (10, vi (loK x k)), (11, vi (hiK x k)), (12, vi k)], lk [(0, [vi 0, vi 0]), (1, [vi 0, vi 0]), (2, [vi (sumF Ldp.wl (l.take (i + 1))), vi (sumF Ldp.wh (l.take (i + 1)))]), (3, [vi (sumF mnP (l.take i)), vi (sumF mxP (l.take i))])], 4⟩) (fun k => 1 <= k /\ k <= 4) (fun k => 4 - k) 1 ⟨by omega, by omega⟩ ?_ ?_ fun _ _ => ?_
     . refine Weak.mk hE (lk [(0, 0), (1, 1), (2, 2), (3, 3)]) _ _ _ ?_ ?_ ?_ ?_ ?_ <;> simp [loK, hiK, prK]
     . rintro k ⟨k1, k2⟩
       match k, k1, k2 with
       | 1, _, _ =>
         simp [p115l0, m2, v2]
         refine ⟨2, by omega, by omega, ?_⟩
         refine Weak.mk hE (lk [(0, 0), (1, 1), (2, 2), (3, 3)]) _ _ _ ?_ ?_ ?_ ?_ ?_ <;> simp [loK, hiK, prK]
       | 2, _, _ =>
         simp [p115l0, m3, v3]
         refine ⟨3, by omega, by omega, ?_⟩
         refine Weak.mk hE (lk [(0, 0), (1, 1), (2, 2), (3, 3)]) _ _ _ ?_ ?_ ?_ ?_ ?_ <;> simp [loK, hiK, prK]
       | 3, _, _ =>
         simp [p115l0, m4, v4]
         refine ⟨4, by omega, by omega, ?_⟩
         refine Weak.mk hE (lk [(0, 0), (1, 1), (2, 2), (3, 3)]) _ _ _ ?_ ?_ ?_ ?_ ?_ <;> simp [loK, hiK, prK]
       | 4, _, _ =>
         rw [loK_all, hiK_all]
         simp [p115l0, exC_exit]
         exact WK hE (lk [(0, 0), (1, 1), (2, 2), (3, 3)])
     . simp [splice, w3, w4, hz]
       refine ⟨i + 1, by omega, by omega, ?_⟩
       exact WK hE (lk [(0, 0), (1, 1), (2, 2), (3, 3)])
   . have hI : ¬ (i : Int) < l.length := by omega
     obtain rfl : i = l.length := by omega
     rw [List.take_length]
     simp [p115l1]
     refine pw_drawW [(2, 0)] (by kernel_rfl) ?_
     simp [splice, inC, Nat.testBit]
     apply RZ
     simp [results115]
end Go.Proofs.Tryz
namespace Go.Log
def vlK (x : Lim) (p : Int × Int) : Int := valP x p.1 p.2
def crK (y : Ldp) : Nat -> Int × Int
 | 0 => (y.al, y.wl)
 | 1 => (y.ah, y.wl)
 | 2 => (y.al, y.wh)
 | _ => (y.ah, y.wh)
def bstK (x : Lim) (y : Ldp) : Nat -> Int × Int
 | 0 => crK y 0
 | k + 1 => if vlK x (bstK x y k) < vlK x (crK y (k + 1)) then crK y (k + 1) else bstK x y k
theorem bsK_val (x : Lim) (y : Ldp) : vlK x (bstK x y 3) = wstP x y := by
 have e : ∀ a b : Int × Int, vlK x (if vlK x a < vlK x b then b else a) = max (vlK x a) (vlK x b) := fun a b => by
   split <;> omega
 show vlK x (if vlK x (bstK x y 2) < vlK x (crK y 3) then crK y 3 else bstK x y 2) = _
 rw [e]
 show max (vlK x (if vlK x (bstK x y 1) < vlK x (crK y 2) then crK y 2 else bstK x y 1)) _ = _
 rw [e]
 show max (max (vlK x (if vlK x (bstK x y 0) < vlK x (crK y 1) then crK y 1 else bstK x y 0)) _) _ = _
 rw [e]
 rfl
def ptOk (p : Int × Int) : Prop := -20000 <= p.1 /\ p.1 <= 20000 /\ -1073741824 <= p.2 /\ p.2 <= 1073741824
theorem crK_ok {y : Ldp} (h : okLd y = true) (k : Nat) : ptOk (crK y k) := by
 have b := okLd_bd h
 match k with
 | 0 => show ptOk (y.al, y.wl); exact ⟨by omega, by omega, by omega, by omega⟩
 | 1 => show ptOk (y.ah, y.wl); exact ⟨by omega, by omega, by omega, by omega⟩
 | 2 => show ptOk (y.al, y.wh); exact ⟨by omega, by omega, by omega, by omega⟩
 | _ + 3 => show ptOk (y.ah, y.wh); exact ⟨by omega, by omega, by omega, by omega⟩
theorem bstK_ok {y : Ldp} (x : Lim) (h : okLd y = true) : ∀ k, ptOk (bstK x y k)
 | 0 => crK_ok h 0
 | k + 1 => by
   unfold bstK
   split
   . exact crK_ok h _
   . exact bstK_ok x h k
def sumV (x : Lim) (ps : List (Int × Int)) : Int := (ps.map (vlK x)).foldl (· + ·) 0
theorem sumV_one (x : Lim) (p : Int × Int) : sumV x [p] = vlK x p := by simp [sumV]
theorem sumV_take {x : Lim} {ps : List (Int × Int)} {i : Nat} {p : Int × Int} (h : ps[i]? = some p) : sumV x (ps.take (i + 1)) = sumV x (ps.take i) + vlK x p := by
 unfold sumV
 rw [List.take_add_one, h]
 simp [List.foldl_append]
theorem sumV_bd {x : Lim} (hx : okLm x = true) : ∀ (ps : List (Int × Int)), (∀ p ∈ ps, ptOk p) -> -(21475910221824000 * ps.length) <= sumV x ps /\ sumV x ps <= 21475910221824000 * ps.length
 | [], _ => by simp [sumV]
 | p :: r, h => by
   have ih := sumV_bd hx r fun y hy => h y (by simp [hy])
   have hp := h p (by simp)
   obtain ⟨_, _, q3, q4⟩ := valP_bd hx hp.1 hp.2.1 hp.2.2.1 hp.2.2.2
   have e : sumV x (p :: r) = vlK x p + sumV x r := by
     unfold sumV; simp only [List.map_cons, List.foldl_cons]; rw [foldl_add]; omega
   have q5 : vlK x p = valP x p.1 p.2 := rfl
   rw [e]
   simp only [List.length_cons]
   omega
def wsP (x : Lim) (l : List Ldp) : List (Int × Int) := l.map fun y => bstK x y 3
theorem wsP_sum (x : Lim) (l : List Ldp) : sumV x (wsP x l) = sumF (wstP x) l := by
 unfold sumV wsP sumF
 rw [List.map_map]
 congr 1
 exact List.map_congr_left fun y _ => bsK_val x y
end Go.Log
namespace Go.Proofs.Tryz
open Go.Psl
open Go.Log
abbrev ptL (p : Int × Int) : List D := [di p.1, di p.2]
abbrev ptsD (ps : List (Int × Int)) : D := .sl 2 (ps.map ptL)
theorem hf2 : ∀ p : Int × Int, (ptL p).length = 2 := fun _ => rfl
theorem fn191 (ps : List (Int × Int)) (x : Lim) (hx : okLm x = true) (hp : ∀ p ∈ ps, ptOk p) (hn : ps.length <= 100) : Ct prog 191 [.d (ptsD ps), lmV x] (vi (sumV x ps)) [] := by
 refine CB func191 c191 fun E hE => ?_
 simp [p191]
 refine pw_loop (α := Nat) (fun i => ⟨slots [(0, .d (ptsD ps)), (3, .lp 0 0), (5, vi (sumV x (ps.take i))), (6, vi i)], lk [(0, [vi x.a, vi x.b, vi x.c])], 1⟩) (fun i => i <= ps.length) (fun i => ps.length - i) 0 ?_ ?_ ?_
 . omega
 . refine Weak.mk hE (lk [(0, 0)]) _ _ _ ?_ ?_ ?_ ?_ ?_ <;> simp [sumV]
 . intro i hi
   have hz := @wz i (by omega)
   by_cases h : i < ps.length
   . obtain ⟨p, hpi⟩ := gE h
     have hI : (i : Int) < ps.length := by omega
     have hpo := hp p (List.mem_of_getElem? hpi)
     obtain ⟨q1, q2, q3, q4⟩ := valP_bd hx hpo.1 hpo.2.1 hpo.2.2.1 hpo.2.2.2
     obtain ⟨a1, a2, _⟩ := okLm_bd hx
     have w1 : IntKind.wrap .i64 (x.b * p.1) = x.b * p.1 := wrap64 (by omega) (by omega)
     have w2 : IntKind.wrap .i64 (x.a + x.b * p.1) = x.a + x.b * p.1 := wrap64 (by omega) (by omega)
     have w3 : IntKind.wrap .i64 (p.2 * (x.a + x.b * p.1)) = vlK x p := by
       have e : p.2 * (x.a + x.b * p.1) = vlK x p := rfl
       have e2 : vlK x p = valP x p.1 p.2 := rfl
       rw [e]
       exact wrap64 (by omega) (by omega)
     have hs := sumV_take (x := x) hpi
     have hb := sumV_bd hx (ps.take (i + 1)) fun y hy => hp y (List.mem_of_mem_take hy)
     have hlen : (ps.take (i + 1)).length <= 100 := by rw [List.length_take]; omega
     have w4 : IntKind.wrap .i64 (sumV x (ps.take i) + vlK x p) = sumV x (ps.take (i + 1)) := by rw [<- hs]; exact wrap64 (by omega) (by omega)
     simp [p191l0, hI, hpi, inC, Nat.testBit, w1, w2, w3, w4, hz]
     refine ⟨i + 1, by omega, by omega, ?_⟩
     exact WK hE (lk [(0, 0)])
   . have hI : ¬ (i : Int) < ps.length := by omega
     obtain rfl : i = ps.length := by omega
     rw [List.take_length]
     simp [p191l0]
     apply RZ
     simp [results191]
theorem val_one (p : Int × Int) (x : Lim) (hx : okLm x = true) (hp : ptOk p) : Ct prog 191 [.d (.sl 2 [[di p.1, di p.2]]), lmV x] (vi (vlK x p)) [] := by
 have := fn191 [p] x hx (fun q hq => by obtain rfl := List.mem_singleton.1 hq; exact hp) (by simp)
 rw [sumV_one] at this
 exact this
theorem wsP_succ {x : Lim} {l : List Ldp} {i : Nat} {y : Ldp} (h : l[i]? = some y) : wsP x (l.take (i + 1)) = wsP x (l.take i) ++ [bstK x y 3] := by
 unfold wsP
 rw [List.take_add_one, h]; simp
theorem pt_one (p : Int × Int) : fcel ptL [p] = [vi p.1, vi p.2] := rfl
theorem ws_raw (l : List Ldp) (x : Lim) (hx : okLm x = true) (hn : l.length <= 40) (ho : ∀ y ∈ l, okLd y = true) : Ct prog 164 [.d (ldsD l), lmV x] (hdN l.length 2) (bkN l.length (fcel ptL (wsP x l))) := by
 have hri : ResIds (hdN l.length 2) (bkN l.length (fcel ptL (wsP x l))) := by
   unfold hdN bkN
   split <;> simp [ResIds]
 have hwl : ∀ i, i <= l.length -> (wsP x (l.take i)).length = i := fun i hi => by unfold wsP; simp; omega
 refine Ct.by gok eok mixed func164 c164 rfl (by simp [ntmps164]) (by simp) hri fun E hE => ?_
 simp [p164]
 refine pw_loop (α := Nat) (fun i => ⟨slots [(0, .d (ldsD l)), (3, .lp 1 0), (5, hdN i 2), (6, vi i)], lk (bkN i (fcel ptL (wsP x (l.take i))) ++ [(1, [vi x.a, vi x.b, vi x.c])]), 2⟩) (fun i => i <= l.length) (fun i => l.length - i) 0 ?_ ?_ ?_
 . omega
 . rw [hdN_z, bkN_z]
   exact WK hE (lk [(1, 0)])
 . intro i hi
   have hz := @wz i (by omega)
   by_cases h : i < l.length
   . obtain ⟨y, hy⟩ := gE h
     have hI : (i : Int) < l.length := by omega
     have hoy := ho y (List.mem_of_getElem? hy)
     have cc := fn160 y
     by_cases h0 : i = 0
     . have e3 : hdN i 2 = .d (.lit (.slice none 0 0)) := by rw [h0]; rfl
       have e4 : bkN i (fcel ptL (wsP x (l.take i))) = [] := by rw [h0]; rfl
       have e5 : wsP x (l.take i) = [] := by rw [h0]; rfl
       have e6 : i + 1 = 1 := by omega
       have e7 : (i : Int) + 1 = 1 := by omega
       rw [e3, e4]
       simp [p164l1, hI, hy]
       refine CLa cc ?_
       simp [splice]
       refine pw_loopC (α := Nat) 2 (fun _ : Unit => ⟨slots [(0, .d (ldsD l)), (3, .lp 1 0), (5, .d (.lit (.slice none 0 0))), (6, vi i), (8, .lp 2 0)], lk ([] ++ [(1, [vi x.a, vi x.b, vi x.c]), (2, [vi (bstK x y 3).1, vi (bstK x y 3).2])]), 3⟩) (fun _ => True)
         (fun j => ⟨slots [(0, .d (ldsD l)), (3, .lp 1 0), (5, .d (.lit (.slice none 0 0))), (6, vi i), (7, .d (corD y)), (8, .lp 2 0), (9, vi (j + 1 : Nat))], lk ([] ++ [(1, [vi x.a, vi x.b, vi x.c]), (2, [vi (bstK x y j).1, vi (bstK x y j).2])]), 3⟩) (fun j => j <= 3) (fun j => 3 - j) 0 (by omega) ?_ ?_ fun _ _ => ?_
       . refine Weak.mk hE (lk [(1, 1), (2, 13631490)]) _ _ _ ?_ ?_ ?_ ?_ ?_ <;> simp [bstK, crK]
       . intro j hj
         match j, hj with
         | 0, _ =>
           have c1 := val_one (crK y 1) x hx (crK_ok hoy 1)
           have c2 := val_one (bstK x y 0) x hx (bstK_ok x hoy 0)
           have e : bstK x y 1 = if vlK x (bstK x y 0) < vlK x (crK y 1) then crK y 1 else bstK x y 0 := rfl
           have v : IntKind.wrap .i64 (1 + 1) = 2 := by decide
           have v3 : IntKind.wrap .i64 2 = 2 := by decide
           have v4 : IntKind.wrap .i64 1 = 1 := by decide
           generalize bstK x y 0 = B at c2 e ⊢
           by_cases hlt : vlK x B < vlK x (crK y 1)
           . rw [if_pos hlt] at e
             simp only [crK] at c1 hlt e
             simp [p164l0, splice, repl, inC, Nat.testBit, v3]
             refine CLb (c1) (by first | (simp; done) | simp [Bor_ls, Bor1_ls, inC, Nat.testBit]) ?_
             simp [splice, repl, inC, Nat.testBit]
             refine CLa c2 ?_
             simp [splice, hlt, v3]
             refine ⟨1, by omega, by omega, ?_⟩
             rw [e]
             exact WK hE (lk [(1, 1), (2, 2)])
           . rw [if_neg hlt] at e
             simp only [crK] at c1 hlt
             simp [p164l0, splice, repl, inC, Nat.testBit, v3]
             refine CLb (c1) (by first | (simp; done) | simp [Bor_ls, Bor1_ls, inC, Nat.testBit]) ?_
             simp [splice, repl, inC, Nat.testBit]
             refine CLa c2 ?_
             simp [hlt, v3]
             refine ⟨1, by omega, by omega, ?_⟩
             rw [e]
             exact WK hE (lk [(1, 1), (2, 2)])
         | 1, _ =>
           have c1 := val_one (crK y 2) x hx (crK_ok hoy 2)
           have c2 := val_one (bstK x y 1) x hx (bstK_ok x hoy 1)
           have e : bstK x y 2 = if vlK x (bstK x y 1) < vlK x (crK y 2) then crK y 2 else bstK x y 1 := rfl
           have v : IntKind.wrap .i64 (2 + 1) = 3 := by decide
           have v3 : IntKind.wrap .i64 3 = 3 := by decide
           have v4 : IntKind.wrap .i64 2 = 2 := by decide
           generalize bstK x y 1 = B at c2 e ⊢
           by_cases hlt : vlK x B < vlK x (crK y 2)
           . rw [if_pos hlt] at e
             simp only [crK] at c1 hlt e
             simp [p164l0, splice, repl, inC, Nat.testBit, v3]
             refine CLb (c1) (by first | (simp; done) | simp [Bor_ls, Bor1_ls, inC, Nat.testBit]) ?_
             simp [splice, repl, inC, Nat.testBit]
             refine CLa c2 ?_
             simp [splice, hlt, v3]
             refine ⟨2, by omega, by omega, ?_⟩
             rw [e]
             exact WK hE (lk [(1, 1), (2, 2)])
           . rw [if_neg hlt] at e
             simp only [crK] at c1 hlt
             simp [p164l0, splice, repl, inC, Nat.testBit, v3]
             refine CLb (c1) (by first | (simp; done) | simp [Bor_ls, Bor1_ls, inC, Nat.testBit]) ?_
             simp [splice, repl, inC, Nat.testBit]
             refine CLa c2 ?_
             simp [hlt, v3]
             refine ⟨2, by omega, by omega, ?_⟩
             rw [e]
             exact WK hE (lk [(1, 1), (2, 2)])
         | 2, _ =>
           have c1 := val_one (crK y 3) x hx (crK_ok hoy 3)
           have c2 := val_one (bstK x y 2) x hx (bstK_ok x hoy 2)
           have e : bstK x y 3 = if vlK x (bstK x y 2) < vlK x (crK y 3) then crK y 3 else bstK x y 2 := rfl
           have v : IntKind.wrap .i64 (3 + 1) = 4 := by decide
           have v3 : IntKind.wrap .i64 4 = 4 := by decide
           have v4 : IntKind.wrap .i64 3 = 3 := by decide
           generalize bstK x y 2 = B at c2 e ⊢
           by_cases hlt : vlK x B < vlK x (crK y 3)
           . rw [if_pos hlt] at e
             simp only [crK] at c1 hlt e
             simp [p164l0, splice, repl, inC, Nat.testBit, v3]
             refine CLb (c1) (by first | (simp; done) | simp [Bor_ls, Bor1_ls, inC, Nat.testBit]) ?_
             simp [splice, repl, inC, Nat.testBit]
             refine CLa c2 ?_
             simp [splice, hlt, v3]
             refine ⟨3, by omega, by omega, ?_⟩
             rw [e]
             exact WK hE (lk [(1, 1), (2, 2)])
           . rw [if_neg hlt] at e
             simp only [crK] at c1 hlt
             simp [p164l0, splice, repl, inC, Nat.testBit, v3]
             refine CLb (c1) (by first | (simp; done) | simp [Bor_ls, Bor1_ls, inC, Nat.testBit]) ?_
             simp [splice, repl, inC, Nat.testBit]
             refine CLa c2 ?_
             simp [hlt, v3]
             refine ⟨3, by omega, by omega, ?_⟩
             rw [e]
             exact WK hE (lk [(1, 1), (2, 2)])
         | 3, _ =>
           simp [p164l0, exC_exit]
           exact WK hE (lk [(1, 1), (2, 2)])
       simp [splice, repl, hz]
       refine ⟨i + 1, by omega, by omega, ?_⟩
       rw [hdN_n (by omega), bkN_n (by omega), wsP_succ hy, e5]
       refine Weak.mk hE (lk [(0, 3145731), (1, 1)]) _ _ _ ?_ ?_ ?_ ?_ ?_ <;> simp [pt_one, e6, e7]
     . have e2 : i + 1 ≠ 0 := by omega
       have hsl := fcel_len hf2 (wsP x (l.take i))
       have hwh := fcel_whole hf2 (wsP x (l.take i))
       rw [hwl i hi] at hsl hwh
       have n1 : (i + 1) * 16 <= 140737488355328 := by omega
       have n2 : i <= 9223372036854775806 := by omega
       rw [hdN_n h0, bkN_n h0]
       simp [p164l1, hI, hy]
       refine CLa cc ?_
       simp [splice]
       refine pw_loopC (α := Nat) 2 (fun _ : Unit => ⟨slots [(0, .d (ldsD l)), (3, .lp 1 0), (5, .ls 0 0 i 2), (6, vi i), (8, .lp 2 0)], lk ([(0, fcel ptL (wsP x (l.take i)))] ++ [(1, [vi x.a, vi x.b, vi x.c]), (2, [vi (bstK x y 3).1, vi (bstK x y 3).2])]), 3⟩) (fun _ => True)
         (fun j => ⟨slots [(0, .d (ldsD l)), (3, .lp 1 0), (5, .ls 0 0 i 2), (6, vi i), (7, .d (corD y)), (8, .lp 2 0), (9, vi (j + 1 : Nat))], lk ([(0, fcel ptL (wsP x (l.take i)))] ++ [(1, [vi x.a, vi x.b, vi x.c]), (2, [vi (bstK x y j).1, vi (bstK x y j).2])]), 3⟩) (fun j => j <= 3) (fun j => 3 - j) 0 (by omega) ?_ ?_ fun _ _ => ?_
       . refine Weak.mk hE (lk [(0, 0), (1, 1), (2, 13631490)]) _ _ _ ?_ ?_ ?_ ?_ ?_ <;> simp [bstK, crK]
       . intro j hj
         match j, hj with
         | 0, _ =>
           have c1 := val_one (crK y 1) x hx (crK_ok hoy 1)
           have c2 := val_one (bstK x y 0) x hx (bstK_ok x hoy 0)
           have e : bstK x y 1 = if vlK x (bstK x y 0) < vlK x (crK y 1) then crK y 1 else bstK x y 0 := rfl
           have v : IntKind.wrap .i64 (1 + 1) = 2 := by decide
           have v3 : IntKind.wrap .i64 2 = 2 := by decide
           have v4 : IntKind.wrap .i64 1 = 1 := by decide
           generalize bstK x y 0 = B at c2 e ⊢
           by_cases hlt : vlK x B < vlK x (crK y 1)
           . rw [if_pos hlt] at e
             simp only [crK] at c1 hlt e
             simp [p164l0, splice, repl, inC, Nat.testBit, v3]
             refine CLb (c1) (by first | (simp; done) | simp [Bor_ls, Bor1_ls, inC, Nat.testBit]) ?_
             simp [splice, repl, inC, Nat.testBit]
             refine CLa c2 ?_
             simp [splice, hlt, v3]
             refine ⟨1, by omega, by omega, ?_⟩
             rw [e]
             exact WK hE (lk [(0, 0), (1, 1), (2, 2)])
           . rw [if_neg hlt] at e
             simp only [crK] at c1 hlt
             simp [p164l0, splice, repl, inC, Nat.testBit, v3]
             refine CLb (c1) (by first | (simp; done) | simp [Bor_ls, Bor1_ls, inC, Nat.testBit]) ?_
             simp [splice, repl, inC, Nat.testBit]
             refine CLa c2 ?_
             simp [hlt, v3]
             refine ⟨1, by omega, by omega, ?_⟩
             rw [e]
             exact WK hE (lk [(0, 0), (1, 1), (2, 2)])
         | 1, _ =>
           have c1 := val_one (crK y 2) x hx (crK_ok hoy 2)
           have c2 := val_one (bstK x y 1) x hx (bstK_ok x hoy 1)
           have e : bstK x y 2 = if vlK x (bstK x y 1) < vlK x (crK y 2) then crK y 2 else bstK x y 1 := rfl
           have v : IntKind.wrap .i64 (2 + 1) = 3 := by decide
           have v3 : IntKind.wrap .i64 3 = 3 := by decide
           have v4 : IntKind.wrap .i64 2 = 2 := by decide
           generalize bstK x y 1 = B at c2 e ⊢
           by_cases hlt : vlK x B < vlK x (crK y 2)
           . rw [if_pos hlt] at e
             simp only [crK] at c1 hlt e
             simp [p164l0, splice, repl, inC, Nat.testBit, v3]
             refine CLb (c1) (by first | (simp; done) | simp [Bor_ls, Bor1_ls, inC, Nat.testBit]) ?_
             simp [splice, repl, inC, Nat.testBit]
             refine CLa c2 ?_
             simp [splice, hlt, v3]
             refine ⟨2, by omega, by omega, ?_⟩
             rw [e]
             exact WK hE (lk [(0, 0), (1, 1), (2, 2)])
           . rw [if_neg hlt] at e
             simp only [crK] at c1 hlt
             simp [p164l0, splice, repl, inC, Nat.testBit, v3]
             refine CLb (c1) (by first | (simp; done) | simp [Bor_ls, Bor1_ls, inC, Nat.testBit]) ?_
             simp [splice, repl, inC, Nat.testBit]
             refine CLa c2 ?_
             simp [hlt, v3]
             refine ⟨2, by omega, by omega, ?_⟩
             rw [e]
             exact WK hE (lk [(0, 0), (1, 1), (2, 2)])
         | 2, _ =>
           have c1 := val_one (crK y 3) x hx (crK_ok hoy 3)
           have c2 := val_one (bstK x y 2) x hx (bstK_ok x hoy 2)
           have e : bstK x y 3 = if vlK x (bstK x y 2) < vlK x (crK y 3) then crK y 3 else bstK x y 2 := rfl
           have v : IntKind.wrap .i64 (3 + 1) = 4 := by decide
           have v3 : IntKind.wrap .i64 4 = 4 := by decide
           have v4 : IntKind.wrap .i64 3 = 3 := by decide
           generalize bstK x y 2 = B at c2 e ⊢
           by_cases hlt : vlK x B < vlK x (crK y 3)
           . rw [if_pos hlt] at e
             simp only [crK] at c1 hlt e
             simp [p164l0, splice, repl, inC, Nat.testBit, v3]
             refine CLb (c1) (by first | (simp; done) | simp [Bor_ls, Bor1_ls, inC, Nat.testBit]) ?_
             simp [splice, repl, inC, Nat.testBit]
             refine CLa c2 ?_
             simp [splice, hlt, v3]
             refine ⟨3, by omega, by omega, ?_⟩
             rw [e]
             exact WK hE (lk [(0, 0), (1, 1), (2, 2)])
           . rw [if_neg hlt] at e
             simp only [crK] at c1 hlt
             simp [p164l0, splice, repl, inC, Nat.testBit, v3]
             refine CLb (c1) (by first | (simp; done) | simp [Bor_ls, Bor1_ls, inC, Nat.testBit]) ?_
             simp [splice, repl, inC, Nat.testBit]
             refine CLa c2 ?_
             simp [hlt, v3]
             refine ⟨3, by omega, by omega, ?_⟩
             rw [e]
             exact WK hE (lk [(0, 0), (1, 1), (2, 2)])
         | 3, _ =>
           simp [p164l0, exC_exit]
           exact WK hE (lk [(0, 0), (1, 1), (2, 2)])
       simp [splice, repl, hz, hsl, hwh, n1, n2]
       refine ⟨i + 1, by omega, by omega, ?_⟩
       rw [hdN_n e2, bkN_n e2, wsP_succ hy]
       refine Weak.mk hE (lk [(0, 3145731), (1, 1)]) _ _ _ ?_ ?_ ?_ ?_ ?_ <;> simp [fcel_one]
   . have hI : ¬ (i : Int) < l.length := by omega
     obtain rfl : i = l.length := by omega
     rw [List.take_length]
     by_cases h0 : l.length = 0
     . rw [h0, hdN_z, bkN_z]
       simp [p164l1, h0]
       apply RZ
       simp [results164]
     . rw [hdN_n h0, bkN_n h0]
       simp [p164l1]
       refine RetOk.by (lk [(0, 0)]) ?_
       simp [results164]
end Go.Proofs.Tryz
namespace Go.Proofs.Tryz
open Go.Psl
open Go.Log
theorem fn164 (l : List Ldp) (x : Lim) (hx : okLm x = true) (hn : l.length <= 40) (ho : ∀ y ∈ l, okLd y = true) : Ct prog 164 [.d (ldsD l), lmV x] (.d (ptsD (wsP x l))) [] := by
 refine Cm.freeze (ws_raw l x hx hn ho) ?_
 by_cases h0 : l.length = 0
 . obtain rfl : l = [] := List.length_eq_zero_iff.1 h0
   exact .inr ⟨rfl, _, rfl⟩
 . rw [hdN_n h0, bkN_n h0]
   have := bor_fcel (f := ptL) hf2 (H := lk [(0, fcel ptL (wsP x l))]) (id := 0) (l := wsP x l) (by simp)
   rw [show (wsP x l).length = l.length by simp [wsP]] at this
   exact this
theorem wsP_ok {l : List Ldp} {x : Lim} (ho : ∀ y ∈ l, okLd y = true) : ∀ p ∈ wsP x l, ptOk p := fun p hp => by
 obtain ⟨y, hy, rfl⟩ := List.mem_map.1 hp
 exact bstK_ok x (ho y hy) 3
def brI (l : List Ldp) (ls : List Lim) : Int := match brkS l ls with
 | some i => i
 | none => -1
theorem fn163 (l : List Ldp) (ls : List Lim) (hl : l.length <= 40) (ho : ∀ y ∈ l, okLd y = true) (hn : ls.length <= 12) (hx : ∀ x ∈ ls, okLm x = true) : Ct prog 163 [.d (ldsD l), .d (lmsD ls)] (vi (brI l ls)) [] := by
 refine CB func163 c163 fun E hE => ?_
 simp [p163]
 refine pw_loop (α := Nat) (fun i => ⟨slots [(0, .d (ldsD l)), (1, .d (lmsD ls)), (5, vi i)], lk [], 0⟩) (fun i => i <= ls.length /\ ∀ j y, j < i -> ls[j]? = some y -> sumF (wstP y) l <= y.c) (fun i => ls.length - i) 0 ?_ ?_ ?_
 . exact ⟨by omega, fun j y hj => by omega⟩
 . exact WK hE (lk [])
 . rintro i ⟨hi, hg⟩
   have hz := @wz i (by omega)
   by_cases h : i < ls.length
   . obtain ⟨x, hxi⟩ := gE h
     have hI : (i : Int) < ls.length := by omega
     have hxo := hx x (List.mem_of_getElem? hxi)
     have c1 := fn164 l x hxo hl ho
     have c2 := fn191 (wsP x l) x hxo (wsP_ok ho) (by simp [wsP]; omega)
     rw [wsP_sum] at c2
     by_cases hb : x.c < sumF (wstP x) l
     . have e : brI l ls = i := by unfold brI; rw [brk_hit hxi hb hg]
       rw [e]
       simp [p163l0, hI, hxi, inC, Nat.testBit]
       refine CLb (c1) (by first | (simp; done) | simp [Bor_ls, Bor1_ls, inC, Nat.testBit]) ?_
       simp [hxi, inC, Nat.testBit]
       refine CLb (c2) (by first | (simp; done) | simp [Bor_ls, Bor1_ls, inC, Nat.testBit]) ?_
       simp [hxi, hb]
       apply RZ
       simp [results163]
     . simp [p163l0, hI, hxi, inC, Nat.testBit]
       refine CLb (c1) (by first | (simp; done) | simp [Bor_ls, Bor1_ls, inC, Nat.testBit]) ?_
       simp [hxi, inC, Nat.testBit]
       refine CLb (c2) (by first | (simp; done) | simp [Bor_ls, Bor1_ls, inC, Nat.testBit]) ?_
       simp [hxi, hb, hz]
       refine ⟨i + 1, ⟨by omega, fun j y hj hy => ?_⟩, by omega, ?_⟩
       . by_cases e : j = i
         . subst e; rw [hxi] at hy; cases hy; omega
         . exact hg j y (by omega) hy
       . exact WK hE (lk [])
   . have hI : ¬ (i : Int) < ls.length := by omega
     have e : brI l ls = -1 := by
       unfold brI
       rw [brk_no fun j y hj => hg j y (by have := (List.getElem?_eq_some_iff.1 hj).1; omega) hj]
     rw [e]
     simp [p163l0, hI]
     apply RZ
     simp [results163]
theorem fn162 (l : List Ldp) (ls : List Lim) (h : chkLds l = 0) (h2 : chkLms ls = 0) : Ct prog 162 [.d (ldsD l), .d (lmsD ls)] (vi 0) [] := by
 have c1 := fn72 l (by have := (lds_of h).1; omega)
 have c2 := fn63 ls (by have := (oklm_of_chk h2).1; omega)
 rw [h] at c1
 rw [h2] at c2
 refine CB func162 c162 fun E hE => ?_
 simp [p162]
 refine CLa c1 ?_
 simp
 refine CLa c2 ?_
 simp
 apply RZ
 simp [results162]
theorem brc_none {l : List Ldp} {ls : List Lim} (h : chkLds l = 0) (h2 : chkLms ls = 0) (hb : brkS l ls = none) : Ct prog 117 [.d (ldsD l), .d (lmsD ls)] (.tup [.agg [vi 0, .d (.lit (.slice none 0 0))], vi 6]) [] := by
 obtain ⟨hl, ho⟩ := lds_of h
 obtain ⟨hn, hx⟩ := oklm_of_chk h2
 have c1 := fn162 l ls h h2
 have c2 := fn163 l ls hl ho hn hx
 have e : brI l ls = -1 := by unfold brI; rw [hb]
 rw [e] at c2
 refine CB func117 c117 fun E hE => ?_
 simp [p117]
 refine CLa c1 ?_
 simp
 refine CLa c2 ?_
 simp [splice]
 apply RZ
 simp [results117]
theorem brc_some {l : List Ldp} {ls : List Lim} {i : Nat} (h : chkLds l = 0) (h2 : chkLms ls = 0) (hb : brkS l ls = some i) : ∃ P : D, Ct prog 117 [.d (ldsD l), .d (lmsD ls)] (.tup [.agg [vi i, .d P], vi 0]) [] := by
 obtain ⟨hl, ho⟩ := lds_of h
 obtain ⟨hn, hx⟩ := oklm_of_chk h2
 have hi := brk_lt hb
 obtain ⟨x, hxi⟩ := gE hi
 have c1 := fn162 l ls h h2
 have c2 := fn163 l ls hl ho hn hx
 have c3 := fn164 l x (hx x (List.mem_of_getElem? hxi)) hl ho
 have e : brI l ls = i := by unfold brI; rw [hb]
 rw [e] at c2
 have h0 : ¬ (i : Int) < 0 := by omega
 have hI : (i : Int) < ls.length := by omega
 refine ⟨ptsD (wsP x l), ?_⟩
 refine CB func117 c117 fun E hE => ?_
 simp [p117]
 refine CLa c1 ?_
 simp
 refine CLa c2 ?_
 simp [h0, hxi]
 refine CLa c3 ?_
 simp [splice]
 apply RZ
 simp [results117]
theorem blk_snoc (n : Nat) : blk n ++ [32] = blk (n + 1) := by simp [blk, List.replicate_succ']
theorem fn161 (n : Nat) (hn : n <= 100000) : Ct prog 161 [vi n] (vS (blk n)) [] := by
 refine CB func161 c161 fun E hE => ?_
 simp [p161]
 refine pw_loop (α := Nat) (fun i => ⟨slots [(0, vi n), (3, vS (blk i)), (4, vi i)], lk [], 0⟩) (fun i => i <= n) (fun i => n - i) 0 ?_ ?_ ?_
 . omega
 . refine Weak.mk hE (lk []) _ _ _ ?_ ?_ ?_ ?_ ?_ <;> simp [blk]
 . intro i hi
   have hz := @wz i (by omega)
   by_cases h : i < n
   . have hI : (i : Int) < n := by omega
     have hb := blk_len i
     have hb2 : (blk i).length + 1 <= 9223372036854775807 := by omega
     simp [p161l0, hI, hz, hb2, blk_snoc]
     refine ⟨i + 1, by omega, by omega, ?_⟩
     exact WK hE (lk [])
   . have hI : ¬ (i : Int) < n := by omega
     obtain rfl : i = n := by omega
     simp [p161l0]
     apply RZ
     simp [results161]
theorem row_raw (n : By) (a b c d : Int) (ha : -1000000000000000000 < a /\ a < 1000000000000000000) (hb : -1000000000000000000 < b /\ b < 1000000000000000000) (hc : -1000000000000000000 < c /\ c < 1000000000000000000) (hd : -1000000000000000000 < d /\ d < 1000000000000000000) :
   Ct prog 114 [vS n, vsp a b, vsp c d] (.ls 0 0 5 1) [(0, [vS n, vS (numS a), vS (numS b), vS (numS c), vS (numS d)])] := by
 have c1 := number18 a ha.1 ha.2
 have c2 := number18 b hb.1 hb.2
 have c3 := number18 c hc.1 hc.2
 have c4 := number18 d hd.1 hd.2
 generalize numS a = A at c1 ⊢
 generalize numS b = B at c2 ⊢
 generalize numS c = C at c3 ⊢
 generalize numS d = DD at c4 ⊢
 refine CB func114 c114 fun E hE => ?_
 simp [p114, inC, Nat.testBit]
 refine CLb (c1) (by first | (simp; done) | simp [Bor_ls, Bor1_ls, inC, Nat.testBit]) ?_
 simp [inC, Nat.testBit]
 refine CLb (c2) (by first | (simp; done) | simp [Bor_ls, Bor1_ls, inC, Nat.testBit]) ?_
 simp [inC, Nat.testBit]
 refine CLb (c3) (by first | (simp; done) | simp [Bor_ls, Bor1_ls, inC, Nat.testBit]) ?_
 simp [inC, Nat.testBit]
 refine CLb (c4) (by first | (simp; done) | simp [Bor_ls, Bor1_ls, inC, Nat.testBit]) ?_
 simp [splice, repl]
 refine RetOk.by (lk [(0, 16777216)]) ?_
 simp [results114]
abbrev r5N (l : List R5) : D := .sl 1 (l.map fun r => [.sl 1 [[dS r.a], [dS r.b], [dS r.c], [dS r.d], [dS r.e]]])
theorem fn114 (n : By) (a b c d : Int) (ha : -1000000000000000000 < a /\ a < 1000000000000000000) (hb : -1000000000000000000 < b /\ b < 1000000000000000000) (hc : -1000000000000000000 < c /\ c < 1000000000000000000) (hd : -1000000000000000000 < d /\ d < 1000000000000000000) :
   Ct prog 114 [vS n, vsp a b, vsp c d] (.d (.sl 1 [[dS n], [dS (numS a)], [dS (numS b)], [dS (numS c)], [dS (numS d)]])) [] := by
 refine Cm.freeze (row_raw n a b c d ha hb hc hd) ?_
 exact ⟨rfl, rfl, fun e he => by simp at he; rcases he with rfl | rfl | rfl | rfl | rfl <;> rfl, _, rfl, rfl⟩
theorem tab_wide (l : List R5) (hn : l.length <= 50) (E : Ent) (hE : ∀ i, ¬ E.stab i) (Q : AExit -> St -> Prop) (st : St)
   (hw : Weak prog E st ⟨slots [(0, .d (r5N l)), (3, .lp 0 0), (4, vi (0 : Nat))], lk [(0, [vi 0, vi 0, vi 0, vi 0, vi 0])], 1⟩)
   (hk : Q (.exit 0) ⟨slots [(0, .d (r5N l)), (3, .lp 0 0)], lk [(0, wdV l)], 1⟩) :
   PW prog tys eqs E (.loop p116l1) Q st := by
 refine pw_loopC (α := Nat) 0 (fun _ : Unit => ⟨slots [(0, .d (r5N l)), (3, .lp 0 0)], lk [(0, wdV l)], 1⟩) (fun _ => True) (fun i => ⟨slots [(0, .d (r5N l)), (3, .lp 0 0), (4, vi i)], lk [(0, [vi (WI 0 l i), vi (WI 1 l i), vi (WI 2 l i), vi (WI 3 l i), vi (WI 4 l i)])], 1⟩) (fun i => i <= l.length) (fun i => l.length - i) 0 (by omega) (by simpa only [WI_zero] using hw) ?_ (fun _ _ => hk)
 intro i hi
 have hz := @wz i (by omega)
 by_cases h : i < l.length
 . obtain ⟨x, hx⟩ := gE h
   have hI : (i : Int) < l.length := by omega
   have s0 := WI_succ (k := 0) hx
   have s1 := WI_succ (k := 1) hx
   have s2 := WI_succ (k := 2) hx
   have s3 := WI_succ (k := 3) hx
   have s4 := WI_succ (k := 4) hx
   simp only [fK] at s0 s1 s2 s3 s4
   have z1 : IntKind.wrap .i64 1 = 1 := by decide
   have z2 : IntKind.wrap .i64 2 = 2 := by decide
   have z3 : IntKind.wrap .i64 3 = 3 := by decide
   have z4 : IntKind.wrap .i64 4 = 4 := by decide
   have z5 : IntKind.wrap .i64 5 = 5 := by decide
   simp [p116l1, hI]
   refine pw_loopC (α := Nat) 2 (fun _ : Unit => ⟨slots [(0, .d (r5N l)), (3, .lp 0 0), (4, vi i)], lk [(0, [vi (WI 0 l (i + 1)), vi (WI 1 l (i + 1)), vi (WI 2 l (i + 1)), vi (WI 3 l (i + 1)), vi (WI 4 l (i + 1))])], 1⟩) (fun _ => True)
     (fun k => ⟨slots [(0, .d (r5N l)), (3, .lp 0 0), (4, vi i), (5, vi k)], lk [(0, [vi (cwI l i 0 k), vi (cwI l i 1 k), vi (cwI l i 2 k), vi (cwI l i 3 k), vi (cwI l i 4 k)])], 1⟩) (fun k => k <= 5) (fun k => 5 - k) 0 (by omega) ?_ ?_ fun _ _ => ?_
   . refine Weak.mk hE (lk [(0, 0)]) _ _ _ ?_ ?_ ?_ ?_ ?_ <;> simp [cwI]
   . intro k hk
     match k, hk with
     | 0, _ =>
         simp [p116l0, splice, hx, z1, cwI, inC, Nat.testBit]
         refine ⟨1, by omega, by omega, ?_⟩
         refine Weak.mk hE (lk [(0, 0)]) _ _ _ ?_ ?_ ?_ ?_ ?_ <;> simp [s0]
     | 1, _ =>
         simp [p116l0, splice, hx, z2, cwI, inC, Nat.testBit]
         refine ⟨2, by omega, by omega, ?_⟩
         refine Weak.mk hE (lk [(0, 0)]) _ _ _ ?_ ?_ ?_ ?_ ?_ <;> simp [s1]
     | 2, _ =>
         simp [p116l0, splice, hx, z3, cwI, inC, Nat.testBit]
         refine ⟨3, by omega, by omega, ?_⟩
         refine Weak.mk hE (lk [(0, 0)]) _ _ _ ?_ ?_ ?_ ?_ ?_ <;> simp [s2]
     | 3, _ =>
         simp [p116l0, splice, hx, z4, cwI, inC, Nat.testBit]
         refine ⟨4, by omega, by omega, ?_⟩
         refine Weak.mk hE (lk [(0, 0)]) _ _ _ ?_ ?_ ?_ ?_ ?_ <;> simp [s3]
     | 4, _ =>
         simp [p116l0, splice, hx, z5, cwI, inC, Nat.testBit]
         refine ⟨5, by omega, by omega, ?_⟩
         refine Weak.mk hE (lk [(0, 0)]) _ _ _ ?_ ?_ ?_ ?_ ?_ <;> simp [s4]
     | 5, _ =>
       simp [p116l0, cwI, exC_exit]
       exact WK hE (lk [(0, 0)])
     | n + 6, h => omega
   . simp [hz]
     refine ⟨i + 1, by omega, by omega, ?_⟩
     exact WK hE (lk [(0, 0)])
 . have hI : ¬ (i : Int) < l.length := by omega
   obtain rfl : i = l.length := by omega
   rw [WI_all (by omega), WI_all (by omega), WI_all (by omega), WI_all (by omega), WI_all (by omega)]
   simp [p116l1, exC_exit]
   exact WK hE (lk [(0, 0)])
theorem tab_cells (l : List R5) (x : R5) (i : Nat) (hO : OkR l) (hx : l[i]? = some x) (E : Ent) (hE : ∀ i, ¬ E.stab i) (Q : AExit -> St -> Prop) (st : St)
   (hw : Weak prog E st ⟨slots [(0, .d (r5N l)), (3, .lp 0 0), (6, vS (rwT l i x 0)), (7, vi i), (8, vi (0 + 1 : Nat))], lk [(0, wdV l)], 1⟩)
   (hC : Q (.exit 6) ⟨slots [(0, .d (r5N l)), (3, .lp 0 0), (6, vS (rwT l i x 4)), (7, vi i)], lk [(0, wdV l)], 1⟩) :
   PW prog tys eqs E (.loop p116l2) Q st := by
 have z1 : IntKind.wrap .i64 1 = 1 := by decide
 have z2 : IntKind.wrap .i64 2 = 2 := by decide
 have z3 : IntKind.wrap .i64 3 = 3 := by decide
 have z4 : IntKind.wrap .i64 4 = 4 := by decide
 have z5 : IntKind.wrap .i64 5 = 5 := by decide
 have hil := (List.getElem?_eq_some_iff.1 hx).1
 have hI : (i : Int) < l.length := by omega
 have hm := List.mem_of_getElem? hx
 refine pw_loopC (α := Nat) 6 (fun _ : Unit => ⟨slots [(0, .d (r5N l)), (3, .lp 0 0), (6, vS (rwT l i x 4)), (7, vi i)], lk [(0, wdV l)], 1⟩) (fun _ => True)
   (fun k => ⟨slots [(0, .d (r5N l)), (3, .lp 0 0), (6, vS (rwT l i x k)), (7, vi i), (8, vi (k + 1 : Nat))], lk [(0, wdV l)], 1⟩) (fun k => k <= 4) (fun k => 4 - k) 0 (by omega) hw ?_ (fun _ _ => hC)
 intro k hk
 match k, hk with
 | 0, _ =>
     have hw' := wd_ge (l := l) (x := x) (k := 1) (by omega) hm
     have hwl := hO.wd (k := 1) (by omega)
     have hfl' : (fK 1 x).length <= 100 := hO.w x hm 1
     have c1 := fn161 (wd l 1 - (fK 1 x).length) (by omega)
     have s1 := sub_cast hw' (by omega)
     have bl := blk_len (wd l 1 - (fK 1 x).length)
     have e2 : 32 :: 32 :: (blk (wd l 1 - (fK 1 x).length) ++ fK 1 x) = cel l x 0 := rfl
     have hr := rwT_succ l i x 0
     have hrl := rwT_len hO (i := i) (by omega) hm (k := 0) (by omega)
     have hcl := cel_len hO hm (k := 0) (by omega)
     simp only [fK] at hw' hfl' c1 s1 bl e2
     have n1 : 2 + (blk (wd l 1 - x.b.length)).length <= 9223372036854775807 := by omega
     have n2 : (blk (wd l 1 - x.b.length)).length + 2 + x.b.length <= 9223372036854775807 := by omega
     have n3 : (rwT l i x 0).length + (cel l x 0).length <= 9223372036854775807 := by omega
     simp [p116l2, hx, s1, inC, Nat.testBit]
     refine CLb (c1) (by first | (simp; done) | simp [Bor_ls, Bor1_ls, inC, Nat.testBit]) ?_
     simp [hx, n1, n2, n3, e2, <- hr, z2]
     refine ⟨1, by omega, by omega, ?_⟩
     exact WK hE (lk [(0, 0)])
 | 1, _ =>
     have hw' := wd_ge (l := l) (x := x) (k := 2) (by omega) hm
     have hwl := hO.wd (k := 2) (by omega)
     have hfl' : (fK 2 x).length <= 100 := hO.w x hm 2
     have c1 := fn161 (wd l 2 - (fK 2 x).length) (by omega)
     have s1 := sub_cast hw' (by omega)
     have bl := blk_len (wd l 2 - (fK 2 x).length)
     have e2 : 32 :: 32 :: (blk (wd l 2 - (fK 2 x).length) ++ fK 2 x) = cel l x 1 := rfl
     have hr := rwT_succ l i x 1
     have hrl := rwT_len hO (i := i) (by omega) hm (k := 1) (by omega)
     have hcl := cel_len hO hm (k := 1) (by omega)
     simp only [fK] at hw' hfl' c1 s1 bl e2
     have n1 : 2 + (blk (wd l 2 - x.c.length)).length <= 9223372036854775807 := by omega
     have n2 : (blk (wd l 2 - x.c.length)).length + 2 + x.c.length <= 9223372036854775807 := by omega
     have n3 : (rwT l i x 1).length + (cel l x 1).length <= 9223372036854775807 := by omega
     simp [p116l2, hx, s1, inC, Nat.testBit]
     refine CLb (c1) (by first | (simp; done) | simp [Bor_ls, Bor1_ls, inC, Nat.testBit]) ?_
     simp [hx, n1, n2, n3, e2, <- hr, z3]
     refine ⟨2, by omega, by omega, ?_⟩
     exact WK hE (lk [(0, 0)])
 | 2, _ =>
     have hw' := wd_ge (l := l) (x := x) (k := 3) (by omega) hm
     have hwl := hO.wd (k := 3) (by omega)
     have hfl' : (fK 3 x).length <= 100 := hO.w x hm 3
     have c1 := fn161 (wd l 3 - (fK 3 x).length) (by omega)
     have s1 := sub_cast hw' (by omega)
     have bl := blk_len (wd l 3 - (fK 3 x).length)
     have e2 : 32 :: 32 :: (blk (wd l 3 - (fK 3 x).length) ++ fK 3 x) = cel l x 2 := rfl
     have hr := rwT_succ l i x 2
     have hrl := rwT_len hO (i := i) (by omega) hm (k := 2) (by omega)
     have hcl := cel_len hO hm (k := 2) (by omega)
     simp only [fK] at hw' hfl' c1 s1 bl e2
     have n1 : 2 + (blk (wd l 3 - x.d.length)).length <= 9223372036854775807 := by omega
     have n2 : (blk (wd l 3 - x.d.length)).length + 2 + x.d.length <= 9223372036854775807 := by omega
     have n3 : (rwT l i x 2).length + (cel l x 2).length <= 9223372036854775807 := by omega
     simp [p116l2, hx, s1, inC, Nat.testBit]
     refine CLb (c1) (by first | (simp; done) | simp [Bor_ls, Bor1_ls, inC, Nat.testBit]) ?_
     simp [hx, n1, n2, n3, e2, <- hr, z4]
     refine ⟨3, by omega, by omega, ?_⟩
     exact WK hE (lk [(0, 0)])
 | 3, _ =>
     have hw' := wd_ge (l := l) (x := x) (k := 4) (by omega) hm
     have hwl := hO.wd (k := 4) (by omega)
     have hfl' : (fK 4 x).length <= 100 := hO.w x hm 4
     have c1 := fn161 (wd l 4 - (fK 4 x).length) (by omega)
     have s1 := sub_cast hw' (by omega)
     have bl := blk_len (wd l 4 - (fK 4 x).length)
     have e2 : 32 :: 32 :: (blk (wd l 4 - (fK 4 x).length) ++ fK 4 x) = cel l x 3 := rfl
     have hr := rwT_succ l i x 3
     have hrl := rwT_len hO (i := i) (by omega) hm (k := 3) (by omega)
     have hcl := cel_len hO hm (k := 3) (by omega)
     simp only [fK] at hw' hfl' c1 s1 bl e2
     have n1 : 2 + (blk (wd l 4 - x.e.length)).length <= 9223372036854775807 := by omega
     have n2 : (blk (wd l 4 - x.e.length)).length + 2 + x.e.length <= 9223372036854775807 := by omega
     have n3 : (rwT l i x 3).length + (cel l x 3).length <= 9223372036854775807 := by omega
     simp [p116l2, hx, s1, inC, Nat.testBit]
     refine CLb (c1) (by first | (simp; done) | simp [Bor_ls, Bor1_ls, inC, Nat.testBit]) ?_
     simp [hx, n1, n2, n3, e2, <- hr, z5]
     refine ⟨4, by omega, by omega, ?_⟩
     exact WK hE (lk [(0, 0)])
 | 4, _ =>
     simp [p116l2, exC_exit]
     exact WK hE (lk [(0, 0)])
 | n + 5, h => omega
theorem fn116 (l : List R5) (hO : OkR l) : Ct prog 116 [.d (r5N l)] (vS (laidS (l.map R5.l))) [] := by
 have hn := hO.n
 refine CB func116 c116 fun E hE => ?_
 simp [p116]
 refine tab_wide l hn E hE _ _ ?_ ?_
 . exact WK hE (lk [(0, 1048576)])
 simp
 refine pw_loop (α := Nat) (fun i => ⟨slots [(0, .d (r5N l)), (3, .lp 0 0), (6, vS (txR l i)), (7, vi i)], lk [(0, wdV l)], 1⟩) (fun i => i <= l.length) (fun i => l.length - i) 0 ?_ ?_ ?_
 . omega
 . refine Weak.mk hE (lk [(0, 0)]) _ _ _ ?_ ?_ ?_ ?_ ?_ <;> simp [txR]
 . intro i hi
   have hz := @wz i (by omega)
   by_cases h : i < l.length
   . obtain ⟨x, hx⟩ := gE h
     have hI : (i : Int) < l.length := by omega
     have hm := List.mem_of_getElem? hx
     have hp := par0_len hO hm
     have ht := txR_len hO (i := i) (by omega)
     have hw' := wd_ge (l := l) (x := x) (k := 0) (by omega) hm
     have hwl := hO.wd (k := 0) (by omega)
     have hfl' : (fK 0 x).length <= 100 := hO.w x hm 0
     have c1 := fn161 (wd l 0 - (fK 0 x).length) (by omega)
     have s1 := sub_cast hw' (by omega)
     have bl := blk_len (wd l 0 - (fK 0 x).length)
     have e2 : x.a ++ blk (wd l 0 - (fK 0 x).length) = par0 l x := rfl
     have e3 : txR l i ++ par0 l x = rwT l i x 0 := (rwT_zero l i x).symm
     have e4 := rwT_all hx
     have hr4 := rwT_len hO (i := i) (by omega) hm (k := 4) (by omega)
     simp only [fK] at hw' hfl' c1 s1 bl e2
     have n1 : x.a.length + (blk (wd l 0 - x.a.length)).length <= 9223372036854775807 := by omega
     have n2 : (txR l i).length + (par0 l x).length <= 9223372036854775807 := by omega
     have n3 : (rwT l i x 4).length + 1 <= 9223372036854775807 := by omega
     simp [p116l3, hI, hx, s1, inC, Nat.testBit]
     refine CLb (c1) (by first | (simp; done) | simp [Bor_ls, Bor1_ls, inC, Nat.testBit]) ?_
     simp [n1, n2, e2, e3]
     refine tab_cells l x i hO hx E hE _ _ ?_ ?_
     . exact WK hE (lk [(0, 0)])
     . simp [n3, e4, hz]
       refine ⟨i + 1, by omega, by omega, ?_⟩
       exact WK hE (lk [(0, 0)])
   . have hI : ¬ (i : Int) < l.length := by omega
     obtain rfl : i = l.length := by omega
     rw [txR_all]
     simp [p116l3]
     apply RZ
     simp [results116]
theorem fn74 (s : By) (hl : s.length <= 1000000) : Ct prog 74 [vS s] (vb (nameS s)) [] := by
 have c1 := fn102 s.length 1 12
 by_cases h0 : betw s.length 1 12 = false
 . rw [h0] at c1
   refine CB func74 c74 fun E hE => ?_
   simp [p74]
   refine CLa c1 ?_
   simp
   apply RZ
   simp [results74, nameS, madeS, h0]
 simp only [Bool.not_eq_false] at h0
 rw [h0] at c1
 refine CB func74 c74 fun E hE => ?_
 simp [p74]
 refine CLa c1 ?_
 simp
 refine pw_loop (α := Nat) (fun i => ⟨slots [(0, vS s), (3, vi i)], lk [], 0⟩) (fun i => i <= s.length /\ ∀ j, j < i -> (s[j]?).all (nameF j) = true) (fun i => s.length - i) 0 ?_ ?_ ?_
 . exact ⟨by omega, fun j hj => by omega⟩
 . exact WK hE (lk [])
 . rintro i ⟨hi, hg3⟩
   have hz := @wz i (by omega)
   by_cases h : i < s.length
   . obtain ⟨b, hb⟩ := gE h
     have hI : (i : Int) < s.length := by omega
     have c2 := fn126 b
     have c3 := fn100 b
     have c4 := fn121 b
     change Ct prog _ _ (vb (upB b)) _ at c2
     change Ct prog _ _ (vb (loB b)) _ at c3
     change Ct prog _ _ (vb (dgB b)) _ at c4
     have hgo : nameF i b = true -> i + 1 <= s.length /\ ∀ j, j < i + 1 -> (s[j]?).all (nameF j) = true := fun hq => ⟨by omega, fun j hj => by
       by_cases e : j = i
       . subst e; rw [hb]; simp [hq]
       . exact hg3 j (by omega)⟩
     cases u : upB b with
     | true =>
       have hq : nameF i b = true := by simp [nameF, lowF, u]
       rw [u] at c2
       simp [p74l0, hI, hb]
       refine CLa c2 ?_
       simp [hz]
       refine ⟨i + 1, hgo hq, by omega, ?_⟩
       exact WK hE (lk [])
     | false =>
       rw [u] at c2
       cases v : loB b with
       | true =>
         have hq : nameF i b = true := by simp [nameF, lowF, v]
         rw [v] at c3
         simp [p74l0, hI, hb]
         refine CLa c2 ?_
         simp [hb]
         refine CLa c3 ?_
         simp [hz]
         refine ⟨i + 1, hgo hq, by omega, ?_⟩
         exact WK hE (lk [])
       | false =>
         rw [v] at c3
         cases w : dgB b with
         | true =>
           have hq : nameF i b = true := by simp [nameF, lowF, w]
           rw [w] at c4
           simp [p74l0, hI, hb]
           refine CLa c2 ?_
           simp [hb]
           refine CLa c3 ?_
           simp [hb]
           refine CLa c4 ?_
           simp [hz]
           refine ⟨i + 1, hgo hq, by omega, ?_⟩
           exact WK hE (lk [])
         | false =>
           rw [w] at c4
           by_cases h45 : b = 45
           . have hq : nameF i b = true := by simp [nameF, lowF, h45]
             have d45 : decide ((b.toNat : Int) = 45) = true := by rw [h45]; rfl
             have n45 : (b.toNat : Int) = 45 := by rw [h45]; rfl
             simp [p74l0, hI, hb]
             refine CLa c2 ?_
             simp [hb]
             refine CLa c3 ?_
             simp [hb]
             refine CLa c4 ?_
             simp [hb, n45]
             simp [hz]
             refine ⟨i + 1, hgo hq, by omega, ?_⟩
             exact WK hE (lk [])
           . have hbad : nameF i b = false := by simp [nameF, lowF, u, v, w, h45]
             have n45 : ¬ (b.toNat : Int) = 45 := fun e => h45 (UInt8.toNat_inj.1 (show b.toNat = (45 : UInt8).toNat by have : (45 : UInt8).toNat = 45 := rfl; omega))
             simp [p74l0, hI, hb]
             refine CLa c2 ?_
             simp [hb]
             refine CLa c3 ?_
             simp [hb]
             refine CLa c4 ?_
             simp [hb, n45]
             apply RZ
             simp [results74, nameS, madeS, fitA_bad hb hbad]
   . have hI : ¬ (i : Int) < s.length := by omega
     have hf : fitA nameF s = true := fitA_ok fun j hj => hg3 j (by omega)
     simp [p74l0, hI]
     apply RZ
     simp [results74, nameS, madeS, hf, h0]
theorem ref_loads_raw (s : Sht) (hl : s.rs.length <= 1000000) : Ct prog 73 [shtV s] (hdN s.rs.length 4) (bkN s.rs.length (fcel ldL (ldsT s.rs s.rs.length))) := by
 obtain ⟨nm, l⟩ := s
 simp only at hl ⊢
 have hri : ResIds (hdN l.length 4) (bkN l.length (fcel ldL (ldsT l l.length))) := by
   unfold hdN bkN
   split <;> simp [ResIds]
 refine Ct.by gok eok mixed func73 c73 rfl (by simp [ntmps73]) (by simp) hri fun E hE => ?_
 simp [p73]
 refine pw_loop (α := Nat) (fun i => ⟨slots [(1, .lp 1 0), (3, hdN i 4), (4, vi i)], lk (bkN i (fcel ldL (ldsT l i)) ++ [(1, [vS nm, .d (rowsD l)])]), 2⟩) (fun i => i <= l.length) (fun i => l.length - i) 0 ?_ ?_ ?_
 . omega
 . rw [hdN_z, bkN_z]
   exact WK hE (lk [(1, 0)])
 . intro i hi
   have hz := @wz i (by omega)
   by_cases h : i < l.length
   . obtain ⟨y, hy⟩ := gE h
     have hI : (i : Int) < l.length := by omega
     by_cases h0 : i = 0
     . have e3 : hdN i 4 = .d (.lit (.slice none 0 0)) := by rw [h0]; rfl
       have e4 : bkN i (fcel ldL (ldsT l i)) = [] := by rw [h0]; rfl
       have e5 : ldsT l i = [] := by rw [h0]; rfl
       have e6 : i + 1 = 1 := by omega
       have e7 : (i : Int) + 1 = 1 := by omega
       rw [e3, e4]
       simp [p73l0, hI, hy, splice, repl, hz]
       refine ⟨i + 1, by omega, by omega, ?_⟩
       rw [hdN_n (by omega), bkN_n (by omega), ldsT_succ hy, e5]
       refine Weak.mk hE (lk [(0, 13631490), (1, 1)]) _ _ _ ?_ ?_ ?_ ?_ ?_ <;> simp [ld_one, e6, e7]
     . have e2 : i + 1 ≠ 0 := by omega
       have hsl := fcel_len hfl (ldsT l i)
       have hwh := fcel_whole hfl (ldsT l i)
       rw [ldsT_len hi] at hsl hwh
       have n1 : (i + 1) * 32 <= 140737488355328 := by omega
       have n2 : i <= 9223372036854775806 := by omega
       rw [hdN_n h0, bkN_n h0]
       simp [p73l0, hI, hy, splice, repl, hz, hsl, hwh, n1, n2]
       refine ⟨i + 1, by omega, by omega, ?_⟩
       rw [hdN_n e2, bkN_n e2, ldsT_succ hy]
       refine Weak.mk hE (lk [(0, 13631490), (1, 1)]) _ _ _ ?_ ?_ ?_ ?_ ?_ <;> simp [fcel_one]
   . have hI : ¬ (i : Int) < l.length := by omega
     obtain rfl : i = l.length := by omega
     by_cases h0 : l.length = 0
     . obtain rfl : l = [] := List.length_eq_zero_iff.1 h0
       rw [List.length_nil, hdN_z, bkN_z]
       simp [p73l0]
       apply RZ
       simp [results73]
     . rw [hdN_n h0, bkN_n h0]
       simp [p73l0]
       refine RetOk.by (lk [(0, 0)]) ?_
       simp [results73]
theorem fn73 (s : Sht) (hl : s.rs.length <= 1000000) : Ct prog 73 [shtV s] (.d (ldsD (s.rs.map Row.l))) [] := by
 refine Cm.freeze (ref_loads_raw s hl) ?_
 have e : ldsT s.rs s.rs.length = s.rs.map Row.l := by unfold ldsT; rw [List.take_length]
 have e2 : s.rs.length = (s.rs.map Row.l).length := by simp
 rw [e, e2]
 exact hd_fz
theorem fn23 (s : Sht) (hs : SizedS s) : Ct prog 23 [shtV s] (vi (chkSh s)) [] := by
 have c1 := fn71 s.s true hs.s
 rw [wdF_true] at c1
 have c2 := fn73 s hs.n
 have c3 := fn72 (s.rs.map Row.l) (by simpa using hs.n)
 have hn := hs.n
 change Ct prog _ _ (vb (shipS s.s)) _ at c1
 by_cases h1 : shipS s.s = true
 case neg =>
   simp only [Bool.not_eq_true] at h1
   rw [h1] at c1
   have e : chkSh s = 94 := by simp [chkSh, h1]
   rw [e]
   refine CB func23 c23 fun E hE => ?_
   simp [p23]
   refine CLa c1 ?_
   simp
   apply RZ
   simp [results23]
 rw [h1] at c1
 by_cases h2 : chkLds (s.rs.map Row.l) = 0
 case neg =>
   have e : chkSh s = 94 := by simp [chkSh, h2]
   rw [e]
   refine CB func23 c23 fun E hE => ?_
   simp [p23]
   refine CLa c1 ?_
   simp
   refine CLa c2 ?_
   simp
   refine CLa c3 ?_
   simp [h2]
   apply RZ
   simp [results23]
 rw [h2] at c3
 have e : chkSh s = if s.rs.all fun r => nameS r.n then 0 else 94 := by simp [chkSh, h1, h2]
 rw [e]
 clear e
 generalize hR : (s.rs.all fun r => nameS r.n) = R
 refine CB func23 c23 fun E hE => ?_
 simp [p23]
 refine CLa c1 ?_
 simp
 refine CLa c2 ?_
 simp
 refine CLa c3 ?_
 simp
 refine pw_loop (α := Nat) (fun i => ⟨slots [(1, .lp 0 0), (3, vi i)], lk [(0, [vS s.s, .d (rowsD s.rs)])], 1⟩) (fun i => i <= s.rs.length /\ ∀ j, j < i -> (s.rs[j]?).all (fun r => nameS r.n) = true) (fun i => s.rs.length - i) 0 ?_ ?_ ?_
 . exact ⟨by omega, fun j hj => by omega⟩
 . exact WK hE (lk [(0, 0)])
 . rintro i ⟨hi, hg3⟩
   have hz := @wz i (by omega)
   by_cases h : i < s.rs.length
   . obtain ⟨x, hx⟩ := gE h
     have hI : (i : Int) < s.rs.length := by omega
     have c4 := fn74 x.n (hs.r x (List.mem_of_getElem? hx))
     cases h4 : nameS x.n with
     | true =>
       rw [h4] at c4
       simp [p23l0, hI, hx]
       refine CLa c4 ?_
       simp [hz]
       refine ⟨i + 1, ⟨by omega, fun j hj => ?_⟩, by omega, ?_⟩
       . by_cases e : j = i
         . subst e; rw [hx]; simp [h4]
         . exact hg3 j (by omega)
       . exact WK hE (lk [(0, 0)])
     | false =>
       rw [h4] at c4
       have hb : R = false := by rw [<- hR]; exact all_bad hx h4
       rw [hb, if_neg (by decide)]
       simp [p23l0, hI, hx]
       refine CLa c4 ?_
       simp
       apply RZ
       simp [results23]
   . have hI : ¬ (i : Int) < s.rs.length := by omega
     have h1 : R = true := by rw [<- hR]; exact all_ok fun j hj => hg3 j (by omega)
     rw [h1, if_pos rfl]
     simp [p23l0, hI]
     apply RZ
     simp [results23]
abbrev rnL (r : R5) : List D := [.sl 1 [[dS r.a], [dS r.b], [dS r.c], [dS r.d], [dS r.e]]]
theorem hfn1 : ∀ r : R5, (rnL r).length = 1 := fun _ => rfl
theorem rn_one (c : R5) : fcel rnL [c] = [.d (.sl 1 [[dS c.a], [dS c.b], [dS c.c], [dS c.d], [dS c.e]])] := rfl
theorem ref_rows (s : Sht) (h : OkSh s) (ls : List Lim) (E : Ent) (hE : ∀ i, ¬ E.stab i) (Q : AExit -> St -> Prop) (st : St)
   (hw : Weak prog E st ⟨slots [(1, .d (lmsD ls)), (2, .lp 1 0), (5, hdN 0 1), (6, vi (0 : Nat))], lk (bkN 0 (fcel rnL (rw5 s.rs 0)) ++ [(1, [vS s.s, .d (rowsD s.rs)])]), 2⟩)
   (hC : Q (.exit 0) ⟨slots [(1, .d (lmsD ls)), (2, .lp 1 0), (5, hdN s.rs.length 1)], lk (bkN s.rs.length (fcel rnL (rw5 s.rs s.rs.length)) ++ [(1, [vS s.s, .d (rowsD s.rs)])]), 2⟩) :
   PW prog tys eqs E (.loop p64l0) Q st := by
 have hn := h.rows
 have ho : ∀ r ∈ s.rs, okLd r.l = true := fun r hr => h.ld hr
 obtain ⟨l, hl⟩ : ∃ l, l = s.rs := ⟨_, rfl⟩
 rw [<- hl] at hw hC hn ho
 generalize s.s = nm at hw hC
 refine pw_loopC (α := Nat) 0 (fun _ : Unit => ⟨slots [(1, .d (lmsD ls)), (2, .lp 1 0), (5, hdN l.length 1)], lk (bkN l.length (fcel rnL (rw5 l l.length)) ++ [(1, [vS nm, .d (rowsD l)])]), 2⟩) (fun _ => True)
   (fun i => ⟨slots [(1, .d (lmsD ls)), (2, .lp 1 0), (5, hdN i 1), (6, vi i)], lk (bkN i (fcel rnL (rw5 l i)) ++ [(1, [vS nm, .d (rowsD l)])]), 2⟩) (fun i => i <= l.length) (fun i => l.length - i) 0 (by omega) hw ?_ (fun _ _ => hC)
 intro i hi
 have hz := @wz i (by omega)
 by_cases h : i < l.length
 . obtain ⟨y, hy⟩ := gE h
   have hI : (i : Int) < l.length := by omega
   have hb := okLd_bd (ho y (List.mem_of_getElem? hy))
   have c1 := fn114 y.n y.l.al y.l.ah y.l.wl y.l.wh (by omega) (by omega) (by omega) (by omega)
   by_cases h0 : i = 0
   . have e3 : hdN i 1 = .d (.lit (.slice none 0 0)) := by rw [h0]; rfl
     have e4 : bkN i (fcel rnL (rw5 l i)) = [] := by rw [h0]; rfl
     have e5 : rw5 l i = [] := by rw [h0]; rfl
     have e6 : i + 1 = 1 := by omega
     have e7 : (i : Int) + 1 = 1 := by omega
     rw [e3, e4]
     simp [p64l0, hI, hy, inC, Nat.testBit]
     refine CLb (c1) (by first | (simp; done) | simp [Bor_ls, Bor1_ls, inC, Nat.testBit]) ?_
     simp [splice, repl, hz]
     refine ⟨i + 1, by omega, by omega, ?_⟩
     rw [hdN_n (by omega), bkN_n (by omega), rw5_succ hy, e5]
     refine Weak.mk hE (lk [(0, 29360130), (1, 1)]) _ _ _ ?_ ?_ ?_ ?_ ?_ <;> simp [rn_one, e6, e7, rowR]
   . have e2 : i + 1 ≠ 0 := by omega
     have hsl := fcel_len hfn1 (rw5 l i)
     have hwh := fcel_whole hfn1 (rw5 l i)
     rw [rw5_len hi] at hsl hwh
     have n1 : (i + 1) * 24 <= 140737488355328 := by omega
     have n2 : i <= 9223372036854775806 := by omega
     rw [hdN_n h0, bkN_n h0]
     simp only [Nat.mul_one] at hsl hwh
     simp [p64l0, hI, hy, inC, Nat.testBit]
     refine CLb (c1) (by first | (simp; done) | simp [Bor_ls, Bor1_ls, inC, Nat.testBit]) ?_
     simp [splice, repl, hz, hsl, hwh, n1, n2]
     refine ⟨i + 1, by omega, by omega, ?_⟩
     rw [hdN_n e2, bkN_n e2, rw5_succ hy]
     refine Weak.mk hE (lk [(0, 29360130), (1, 1)]) _ _ _ ?_ ?_ ?_ ?_ ?_ <;> simp [fcel_one, rowR]
 . have hI : ¬ (i : Int) < l.length := by omega
   obtain rfl : i = l.length := by omega
   by_cases h0 : l.length = 0
   . rw [h0, hdN_z, bkN_z]
     simp [p64l0, exC_exit, h0]
     exact WK hE (lk [(1, 1)])
   . rw [hdN_n h0, bkN_n h0]
     simp [p64l0, exC_exit]
     exact WK hE (lk [(0, 0), (1, 1)])
theorem fn64 (s : Sht) (ho : OkSh s) (ls : List Lim) (hl : chkLms ls = 0) : Ct prog 64 [shtV s, .d (lmsD ls)] (vS (sheetS s ls)) [] := by
 have hs := ho.rows
 have c2 := fn73 s (by omega)
 have c4 := fn115 (s.rs.map Row.l) ho.l
 have c6 := fn116 (tabR s) (tabR_ok ho)
 rw [tabR_l] at c6
 have hT := laid_len ho
 have hsl8 : s.s.length <= 8 := by
   have := ho.s
   simp only [shipS, madeS, betw, Bool.and_eq_true, decide_eq_true_eq] at this
   omega
 have es : sheetS s ls = sheetB ++ s.s ++ [10] ++ laidS (tabS s) ++ lastS (s.rs.map Row.l) ls ++ [10] := rfl
 rw [es]
 generalize laidS (tabS s) = T at c6 hT ⊢
 obtain ⟨b1, b2, b3, b4⟩ := sum_bds ho.l
 have c7 := fn114 totalB (sumF Ldp.wl (s.rs.map Row.l)) (sumF Ldp.wh (s.rs.map Row.l)) (sumF mnP (s.rs.map Row.l)) (sumF mxP (s.rs.map Row.l)) (by omega) (by omega) (by omega) (by omega)
 have etab : tabR s = rw5 s.rs s.rs.length ++ [totR (s.rs.map Row.l)] := by simp [tabR, rw5]
 have hl5 := rw5_len (Nat.le_refl s.rs.length)
 have hb : ∀ (H : Hp) (id : Nat), H id = some (fcel rnL (rw5 s.rs s.rs.length) ++ [.d (.sl 1 [[dS totalB], [dS (numS (sumF Ldp.wl (s.rs.map Row.l)))], [dS (numS (sumF Ldp.wh (s.rs.map Row.l)))], [dS (numS (sumF mnP (s.rs.map Row.l)))], [dS (numS (sumF mxP (s.rs.map Row.l)))]])]) -> Bor H (.ls id 0 (s.rs.length + 1) 1) (.d (r5N (tabR s))) := fun H id hh => by
   rw [etab]
   have := bor_fcel (f := rnL) hfn1 (H := H) (id := id) (l := rw5 s.rs s.rs.length ++ [totR (s.rs.map Row.l)]) (by rw [hh, fcel_one]; rfl)
   rwa [List.length_append, hl5] at this
 have l1 : (6 : Nat) + s.s.length <= 9223372036854775807 := by omega
 have l2 : s.s.length <= 9223372036854775801 := by omega
 have l3 : s.s.length <= 9223372036854775800 := by omega
 have l4 : s.s.length + 1 + 1 + 1 + 1 + 1 + 1 + 1 + T.length <= 9223372036854775807 := by omega
 have l5 : s.s.length + (T.length + 1) <= 9223372036854775797 := by omega
 have l6 : s.s.length + (T.length + 4 + 1) <= 9223372036854775800 := by omega
 have l7 : s.s.length + (T.length + 1) <= 9223372036854775796 := by omega
 have l8 : s.s.length + (T.length + 1) <= 9223372036854775794 := by omega
 rw [show totalB = [84, 79, 84, 65, 76] from rfl] at c7 hb
 have hsl := fcel_len hfn1 (rw5 s.rs s.rs.length)
 have hwh := fcel_whole hfn1 (rw5 s.rs s.rs.length)
 rw [hl5] at hsl hwh
 simp only [Nat.mul_one] at hsl hwh
 have hrn := ho.rows
 have n1 : (s.rs.length + 1) * 24 <= 140737488355328 := by omega
 have n2 : s.rs.length <= 9223372036854775806 := by omega
 have hb0 : s.rs.length = 0 -> ∀ (H : Hp) (id : Nat), H id = some [.d (.sl 1 [[dS [84, 79, 84, 65, 76]], [dS (numS (sumF Ldp.wl (s.rs.map Row.l)))], [dS (numS (sumF Ldp.wh (s.rs.map Row.l)))], [dS (numS (sumF mnP (s.rs.map Row.l)))], [dS (numS (sumF mxP (s.rs.map Row.l)))]])] -> Bor H (.ls id 0 1 1) (.d (r5N (tabR s))) := fun h0 H id hh => by
   have e0 : s.rs = [] := List.length_eq_zero_iff.1 h0
   have := hb H id (by rw [hh, e0]; rfl)
   rwa [h0] at this
 clear b1 b2 b3 b4 hs hrn etab hl5
 refine CB func64 c64 fun E hE => ?_
 simp [p64]
 refine ref_rows s ho ls E hE _ _ ?_ ?_
 . rw [hdN_z, bkN_z]
   exact WK hE (lk [(1, 0)])
 cases hbr : brkS (s.rs.map Row.l) ls with
 | none =>
   rw [last_none hbr]
   have c5 := brc_none ho.l hl hbr
   by_cases h0 : s.rs.length = 0
   . have hb1 := hb0 h0
     rw [h0, hdN_z, bkN_z]
     simp
     refine CLa c2 ?_
     simp
     refine CLa c4 ?_
     simp [splice]
     refine pw_drawW [] (by kernel_rfl) ?_
     simp [inC, Nat.testBit, l1, l3]
     refine CLb (c7) (by first | (simp; done) | simp [Bor_ls, Bor1_ls, inC, Nat.testBit]) ?_
     simp [splice, repl, inC, Nat.testBit]
     refine CLb (c6) (by simp [hb1, inC, Nat.testBit]) ?_
     simp [l4]
     refine CLa c2 ?_
     simp
     refine CLa c5 ?_
     simp [splice, l7]
     apply RZ
     simp [results64, sheetB]
   . rw [hdN_n h0, bkN_n h0]
     simp
     refine CLa c2 ?_
     simp
     refine CLa c4 ?_
     simp [splice]
     refine pw_drawW [(9, 0)] (by kernel_rfl) ?_
     simp [inC, Nat.testBit, l1, l3]
     refine CLb (c7) (by first | (simp; done) | simp [Bor_ls, Bor1_ls, inC, Nat.testBit]) ?_
     simp [splice, repl, inC, Nat.testBit, hsl, hwh, n1, n2]
     refine CLb (c6) (by simp [hb, inC, Nat.testBit]) ?_
     simp [l4]
     refine CLa c2 ?_
     simp
     refine CLa c5 ?_
     simp [splice, l7]
     apply RZ
     simp [results64, sheetB]
 | some i =>
   rw [last_some hbr]
   obtain ⟨P, c5⟩ := brc_some ho.l hl hbr
   have hi := brk_lt hbr
   have hlm := (oklm_of_chk hl).1
   have c8 := number18 (i : Int) (by omega) (by omega)
   have hnl := numS_len2 (i : Int) (by omega) (by omega)
   generalize numS (i : Int) = N at c8 hnl ⊢
   have k1 : s.s.length + (T.length + 7 + 1) + 1 + 1 + 1 + 1 + 1 + 1 + N.length <= 9223372036854775807 := by omega
   have k2 : s.s.length + (T.length + (N.length + 1 + 1 + 1 + 1 + 1 + 1 + 1) + 1) <= 9223372036854775800 := by omega
   by_cases h0 : s.rs.length = 0
   . have hb1 := hb0 h0
     rw [h0, hdN_z, bkN_z]
     simp
     refine CLa c2 ?_
     simp
     refine CLa c4 ?_
     simp [splice]
     refine pw_drawW [] (by kernel_rfl) ?_
     simp [inC, Nat.testBit, l1, l3]
     refine CLb (c7) (by first | (simp; done) | simp [Bor_ls, Bor1_ls, inC, Nat.testBit]) ?_
     simp [splice, repl, inC, Nat.testBit]
     refine CLb (c6) (by simp [hb1, inC, Nat.testBit]) ?_
     simp [l4]
     refine CLa c2 ?_
     simp
     refine CLa c5 ?_
     simp [splice, l8]
     refine CLa c8 ?_
     simp [k1, k2]
     apply RZ
     simp [results64, sheetB, brokenB]
   . rw [hdN_n h0, bkN_n h0]
     simp
     refine CLa c2 ?_
     simp
     refine CLa c4 ?_
     simp [splice]
     refine pw_drawW [(9, 0)] (by kernel_rfl) ?_
     simp [inC, Nat.testBit, l1, l3]
     refine CLb (c7) (by first | (simp; done) | simp [Bor_ls, Bor1_ls, inC, Nat.testBit]) ?_
     simp [splice, repl, inC, Nat.testBit, hsl, hwh, n1, n2]
     refine CLb (c6) (by simp [hb, inC, Nat.testBit]) ?_
     simp [l4]
     refine CLa c2 ?_
     simp
     refine CLa c5 ?_
     simp [splice, l8]
     refine CLa c8 ?_
     simp [k1, k2]
     apply RZ
     simp [results64, sheetB, brokenB]
end Go.Proofs.Tryz
namespace Go.Log
def prtS (y : By) : List By := (splP y).filter (· ≠ [])
theorem prt_sp (r : By) : prtS (32 :: r) = prtS r := by
 show (splC 32 (32 :: r)).filter (· ≠ []) = _
 have e : splC 32 (32 :: r) = [] :: splC 32 r := by simp only [splC, if_true]
 rw [e]
 rfl
theorem prt_blk : ∀ (n : Nat) (r : By), prtS (blk n ++ r) = prtS r
 | 0, r => rfl
 | n + 1, r => by
   show prtS (32 :: (blk n ++ r)) = _
   rw [prt_sp, prt_blk n r]
theorem pl_no32 {x : By} (h : plB x) : noB 32 x := fun b hb => by
 have := h b hb
 rintro rfl
 exact absurd this.1 (by decide)
theorem prt_sep {x : By} (hx : x ≠ []) (n : Nat) (r : By) (h : plB x) : prtS (x ++ ([32] ++ blk n ++ r)) = x :: prtS r := by
 show (splC 32 (x ++ 32 :: (blk n ++ r))).filter (· ≠ []) = _
 rw [splC_app _ (pl_no32 h), List.filter_cons, if_pos (by simpa using hx)]
 exact congrArg (x :: ·) (prt_blk n r)
theorem prt_end {x : By} (hx : x ≠ []) (h : plB x) : prtS x = [x] := by
 show (splC 32 x).filter (· ≠ []) = _
 rw [splC_one (pl_no32 h)]
 simp [hx]
theorem prt_row (l : List R5) {x : R5} (h : ∀ k, plB (fK k x)) (hn : ∀ k, fK k x ≠ []) : prtS (lnR l x) = x.l := by
 have e : lnR l x = x.a ++ (blk (wd l 0 - x.a.length) ++ ([32, 32] ++ blk (wd l 1 - x.b.length) ++ (x.b ++ (blk 0 ++ ([32, 32] ++ blk (wd l 2 - x.c.length) ++ (x.c ++ (blk 0 ++ ([32, 32] ++ blk (wd l 3 - x.d.length) ++ (x.d ++ (blk 0 ++ ([32, 32] ++ blk (wd l 4 - x.e.length) ++ x.e))))))))))) := by
   have hb : blk 0 = [] := rfl
   simp [lnR, par0, cels, cel, fK, hb, List.range_succ]
 rw [e]
 have g0 := fun n r => prt_sep (x := x.a) (hn 0) n r (h 0)
 have g1 := fun n r => prt_sep (x := x.b) (hn 1) n r (h 1)
 have g2 := fun n r => prt_sep (x := x.c) (hn 2) n r (h 2)
 have g3 := fun n r => prt_sep (x := x.d) (hn 3) n r (h 3)
 have g4 := prt_end (x := x.e) (hn 4) (h 4)
 rw [blk_two, g0, blk_two, g1, blk_two, g2, blk_two, g3, g4]
 rfl
theorem linesOf_flatM {α : Type} {f : α -> By} {r : By} : ∀ {l : List α}, (∀ x ∈ l, noB 10 (f x)) -> linesOf (l.flatMap (fun x => f x ++ [10]) ++ r) = l.map (fun x => f x ++ [10]) ++ linesOf r
 | [], _ => rfl
 | x :: l, h => by
   have ih := linesOf_flatM (r := r) (l := l) fun y hy => h y (by simp [hy])
   rw [List.flatMap_cons, List.append_assoc, List.append_assoc, <- List.append_assoc, linesOf_line (h x (by simp)), ih]
   rfl
theorem lines_sheet {s : Sht} (h : OkSh s) (ls : List Lim) : (linesOf (sheetS s ls)).map chopS = (sheetB ++ s.s) :: ((tabR s).map (lnR (tabR s)) ++ [lastS (s.rs.map Row.l) ls]) := by
 have h1 : noB 10 (sheetB ++ s.s) := noB_app (noB_lit (by decide)) (ship_no h.s (by decide))
 have e : sheetS s ls = (sheetB ++ s.s) ++ [10] ++ ((tabR s).flatMap (fun x => lnR (tabR s) x ++ [10]) ++ (lastS (s.rs.map Row.l) ls ++ [10] ++ [])) := by
   unfold sheetS
   rw [laid_flat]
   simp only [List.append_assoc, List.append_nil]
 rw [e, linesOf_line h1, linesOf_flatM fun x hx => ln_no fun k => (tab_pl h x hx k).1, linesOf_line (last_no _ _)]
 have hc : ∀ x : By, chopS (x ++ [10]) = x := chop_line
 rw [List.map_cons, List.map_append, List.map_map, hc]
 have e2 : (linesOf []).map chopS = [] := rfl
 rw [List.map_cons, hc, e2]
 have e3 : (tabR s).map (chopS ∘ fun x => lnR (tabR s) x ++ [10]) = (tabR s).map (lnR (tabR s)) := List.map_congr_left fun x _ => hc _
 rw [e3]
def okG (q : List By) : Bool := decide (q.length = 5) && ((q.drop 1).all fun y => (valS y).2)
def rowG (q : List By) : Row := ⟨q[0]?.getD [], ⟨(valS (q[1]?.getD [])).1, (valS (q[2]?.getD [])).1, (valS (q[3]?.getD [])).1, (valS (q[4]?.getD [])).1⟩⟩
def midG (L : List By) : List By := (L.take (L.length - 2)).drop 1
def rdShG (L : List By) : Sht := ⟨(L.headD []).drop 6, (midG L).map fun x => rowG (prtS x)⟩
def zG : Sht := ⟨[], []⟩
def refP (t : By) (L : List By) (ls : List Lim) : Sht × Int :=
 if chkLms ls ≠ 0 then (zG, chkLms ls) else if 40000 < t.length then (zG, 4) else
 if L.length < 3 \/ 43 < L.length \/ (L.headD []).length < 6 then (zG, 94) else
 if ((midG L).all fun x => okG (prtS x)) = false then (zG, 94) else
 if chkSh (rdShG L) = 0 /\ sheetS (rdShG L) ls = t then (rdShG L, 0) else (zG, 94)
theorem ref_sheet {s : Sht} {ls : List Lim} (h : OkSh s) (hl : chkLms ls = 0) : refP (sheetS s ls) ((linesOf (sheetS s ls)).map chopS) ls = (s, 0) := by
 have hL := lines_sheet h ls
 have hlen := sheet_len h hl
 have hr := h.rows
 rw [hL]
 have hmid : midG ((sheetB ++ s.s) :: ((tabR s).map (lnR (tabR s)) ++ [lastS (s.rs.map Row.l) ls])) = s.rs.map fun r => lnR (tabR s) (rowR r) := by
   have e : (tabR s).map (lnR (tabR s)) = (s.rs.map fun r => lnR (tabR s) (rowR r)) ++ [lnR (tabR s) (totR (s.rs.map Row.l))] := by
     have e2 : tabR s = s.rs.map rowR ++ [totR (s.rs.map Row.l)] := rfl
     generalize lnR (tabR s) = f
     rw [e2]
     simp [Function.comp_def]
   rw [e]
   generalize (s.rs.map fun r => lnR (tabR s) (rowR r)) = A
   unfold midG
   have e3 : ((sheetB ++ s.s) :: (A ++ [lnR (tabR s) (totR (s.rs.map Row.l))] ++ [lastS (s.rs.map Row.l) ls])).length - 2 = A.length + 1 := by simp
   rw [e3]
   simp
 have hp : ∀ r ∈ s.rs, prtS (lnR (tabR s) (rowR r)) = (rowR r).l := fun r hr => by
   have hm : rowR r ∈ tabR s := List.mem_append_left _ (List.mem_map.2 ⟨r, hr, rfl⟩)
   exact prt_row _ (fun k => (tab_pl h _ hm k).1) fun k => (tab_pl h _ hm k).2.1
 have hv : ∀ r ∈ s.rs, okG (rowR r).l = true /\ rowG (rowR r).l = r := fun r hr => by
   have hb := okLd_bd (h.ld hr)
   have v1 := val_num (v := r.l.al) (by omega) (by omega)
   have v2 := val_num (v := r.l.ah) (by omega) (by omega)
   have v3 := val_num (v := r.l.wl) (by omega) (by omega)
   have v4 := val_num (v := r.l.wh) (by omega) (by omega)
   constructor
   . simp [okG, rowR, R5.l, v1, v2, v3, v4]
   . simp [rowG, rowR, R5.l, v1, v2, v3, v4]
 have hrd : rdShG ((sheetB ++ s.s) :: ((tabR s).map (lnR (tabR s)) ++ [lastS (s.rs.map Row.l) ls])) = s := by
   unfold rdShG
   rw [hmid, List.map_map]
   have e1 : s.rs.map ((fun x => rowG (prtS x)) ∘ fun r => lnR (tabR s) (rowR r)) = s.rs.map id := List.map_congr_left fun r hr => by
     show rowG (prtS (lnR (tabR s) (rowR r))) = r
     rw [hp r hr, (hv r hr).2]
   rw [e1, List.map_id]
   rfl
 have hall : ((midG ((sheetB ++ s.s) :: ((tabR s).map (lnR (tabR s)) ++ [lastS (s.rs.map Row.l) ls]))).all fun x => okG (prtS x)) = true := by
   rw [hmid]
   refine List.all_eq_true.2 fun x hx => ?_
   obtain ⟨r, hr, rfl⟩ := List.mem_map.1 hx
   rw [hp r hr, (hv r hr).1]
 unfold refP
 rw [if_neg (by rw [hl]; simp), if_neg (by omega), if_neg ?_, if_neg (by rw [hall]; simp), hrd, if_pos ⟨okSh_chk h, rfl⟩]
 have hb : sheetB.length = 6 := rfl
 simp only [tabR, List.headD_cons, List.length_append, List.length_map, List.length_cons, List.length_nil]
 omega
theorem refP_some {t : By} {L : List By} {ls : List Lim} (h : (refP t L ls).2 = 0) : chkLms ls = 0 /\ OkSh (refP t L ls).1 /\ t = sheetS (refP t L ls).1 ls := by
 unfold refP at h ⊢
 split at h
 . rename_i h1; exact absurd h h1
 . split at h
   . cases h
   . split at h
     . cases h
     . split at h
       . cases h
       . split at h
         . rename_i a b c d e
           rw [if_neg a, if_neg b, if_neg c, if_neg d, if_pos e]
           exact ⟨Decidable.not_not.1 a, okSh_of e.1, e.2.symm⟩
         . cases h
theorem refP_none {t : By} {L : List By} {ls : List Lim} (h : (refP t L ls).2 ≠ 0) : refP t L ls = (zG, if chkLms ls ≠ 0 then chkLms ls else if 40000 < t.length then 4 else 94) := by
 unfold refP at h ⊢
 split
 . rfl
 . split
   . rfl
   . split
     . rfl
     . split
       . rfl
       . split
         . rename_i a b c d e
           rw [if_neg a, if_neg b, if_neg c, if_neg d, if_pos e] at h
           exact absurd rfl h
         . rfl
end Go.Log
namespace Go.Proofs.Tryz
open Go.Psl
open Go.Log
theorem fn19 (s : Sht) (hs : SizedS s) (ls : List Lim) (hn : ls.length <= 1000000) : Ct prog 19 [shtV s, .d (lmsD ls)] (.tup [vS (writeSh s ls).1, vi (writeSh s ls).2]) [] := by
 have c1 := fn23 s hs
 have c2 := fn63 ls hn
 by_cases h1 : chkSh s = 0
 case neg =>
   have e : writeSh s ls = ([], chkSh s) := by unfold writeSh; rw [if_pos h1]
   rw [e]
   refine CB func19 c19 fun E hE => ?_
   simp [p19]
   refine CLa c1 ?_
   simp [h1]
   apply RZ
   simp [results19]
 have h1' := h1
 rw [h1] at c1
 by_cases h2 : chkLms ls = 0
 case neg =>
   have e : writeSh s ls = ([], chkLms ls) := by unfold writeSh; rw [if_neg (by simp [h1]), if_pos h2]
   rw [e]
   refine CB func19 c19 fun E hE => ?_
   simp [p19]
   refine CLa c1 ?_
   simp
   refine CLa c2 ?_
   simp [h2]
   apply RZ
   simp [results19]
 have c3 := fn64 s (okSh_of h1) ls h2
 rw [h2] at c2
 have e : writeSh s ls = (sheetS s ls, 0) := by unfold writeSh; rw [if_neg (by simp [h1]), if_neg (by simp [h2])]
 rw [e]
 refine CB func19 c19 fun E hE => ?_
 simp [p19]
 refine CLa c1 ?_
 simp
 refine CLa c2 ?_
 simp
 refine CLa c3 ?_
 simp
 apply RZ
 simp [results19]
def prA (q : List By) (i : Nat) : List By := (q.take i).filter (· ≠ [])
theorem prA_skip {q : List By} {i : Nat} (h : q[i]? = some []) : prA q (i + 1) = prA q i := by
 unfold prA
 rw [List.take_add_one, h]
 simp
theorem prA_succ {q : List By} {i : Nat} {y : By} (h : q[i]? = some y) (hy : y ≠ []) : prA q (i + 1) = prA q i ++ [y] := by
 unfold prA
 rw [List.take_add_one, h]
 simp [hy]
theorem prA_len (q : List By) (i : Nat) : (prA q i).length <= i := by
 exact Nat.le_trans (List.length_filter_le _ _) (List.length_take_le _ _)
theorem st_one (y : By) : fcel strL [y] = [vS y] := rfl
theorem prt_raw (s : By) (hs : s.length <= 100000) : Ct prog 67 [vS s] (hdN (prtS s).length 1) (bkN (prtS s).length (fcel strL (prtS s))) := by
 have c1 := fn101 s (by omega)
 have hq : (splP s).length <= s.length + 1 := (splC_len 32 s).2
 have hp : prA (splP s) (splP s).length = prtS s := by unfold prA prtS; rw [List.take_length]
 generalize splP s = q at c1 hq hp
 have hri : ResIds (hdN (prtS s).length 1) (bkN (prtS s).length (fcel strL (prtS s))) := by
   unfold hdN bkN
   split <;> simp [ResIds]
 refine Ct.by gok eok mixed func67 c67 rfl (by simp [ntmps67]) (by simp) hri fun E hE => ?_
 simp [p67]
 refine CLa c1 ?_
 simp
 refine pw_loop (α := Nat) (fun i => ⟨slots [(3, .d (strsD q)), (4, hdN (prA q i).length 1), (5, vi i)], lk (bkN (prA q i).length (fcel strL (prA q i))), 1⟩) (fun i => i <= q.length) (fun i => q.length - i) 0 ?_ ?_ ?_
 . omega
 . have e : (prA q 0).length = 0 := rfl
   rw [e, hdN_z, bkN_z]
   exact WK hE (lk [])
 . intro i hi
   have hz := @wz i (by omega)
   by_cases h : i < q.length
   . obtain ⟨y, hy⟩ := gE h
     have hI : (i : Int) < q.length := by omega
     by_cases hy0 : y = []
     . subst hy0
       have e := prA_skip hy
       by_cases h0 : (prA q i).length = 0
       . rw [h0, hdN_z, bkN_z]
         simp [p67l0, hI, hy, hz]
         refine ⟨i + 1, by omega, by omega, ?_⟩
         rw [e, h0, hdN_z, bkN_z]
         exact WK hE (lk [])
       . rw [hdN_n h0, bkN_n h0]
         simp [p67l0, hI, hy, hz]
         refine ⟨i + 1, by omega, by omega, ?_⟩
         rw [e, hdN_n h0, bkN_n h0]
         exact WK hE (lk [(0, 0)])
     . have e := prA_succ hy hy0
       have el : (prA q (i + 1)).length = (prA q i).length + 1 := by rw [e]; simp
       have hpl := prA_len q i
       by_cases h0 : (prA q i).length = 0
       . have e5 : prA q i = [] := List.length_eq_zero_iff.1 h0
         rw [h0, hdN_z, bkN_z]
         simp [p67l0, hI, hy, hy0, splice, repl, hz]
         refine ⟨i + 1, by omega, by omega, ?_⟩
         rw [el, h0, hdN_n (by omega), bkN_n (by omega), e, e5]
         refine Weak.mk hE (lk [(0, 15728641)]) _ _ _ ?_ ?_ ?_ ?_ ?_ <;> simp [st_one]
       . have e2 : (prA q i).length + 1 ≠ 0 := by omega
         have hsl := fcel_len hfs (prA q i)
         have hwh := fcel_whole hfs (prA q i)
         simp only [Nat.mul_one] at hsl hwh
         have n1 : ((prA q i).length + 1) * 16 <= 140737488355328 := by omega
         have n2 : (prA q i).length <= 9223372036854775806 := by omega
         rw [hdN_n h0, bkN_n h0]
         simp [p67l0, hI, hy, hy0, splice, repl, hz, hsl, hwh, n1, n2]
         refine ⟨i + 1, by omega, by omega, ?_⟩
         rw [el, hdN_n e2, bkN_n e2, e]
         refine Weak.mk hE (lk [(0, 15728641)]) _ _ _ ?_ ?_ ?_ ?_ ?_ <;> simp [fcel_one]
   . have hI : ¬ (i : Int) < q.length := by omega
     obtain rfl : i = q.length := by omega
     rw [hp]
     by_cases h0 : (prtS s).length = 0
     . rw [h0, hdN_z, bkN_z]
       simp [p67l0]
       apply RZ
       simp [results67]
     . rw [hdN_n h0, bkN_n h0]
       simp [p67l0]
       refine RetOk.by (lk [(0, 0)]) ?_
       simp [results67]
theorem fn67 (s : By) (hs : s.length <= 100000) : Ct prog 67 [vS s] (.d (strsD (prtS s))) [] := by
 refine Cm.freeze (prt_raw s hs) ?_
 by_cases h0 : (prtS s).length = 0
 . rw [h0, List.length_eq_zero_iff.1 h0]
   exact .inr ⟨rfl, _, rfl⟩
 . rw [hdN_n h0, bkN_n h0]
   exact bor_fcel (f := strL) hfs (l := prtS s) (by simp)
end Go.Proofs.Tryz
namespace Go.Log
def rgP (M : List By) (i : Nat) : List Row := (M.take i).map fun x => rowG (prtS x)
theorem rgP_succ {M : List By} {i : Nat} {x : By} (h : M[i]? = some x) : rgP M (i + 1) = rgP M i ++ [rowG (prtS x)] := by
 unfold rgP
 rw [List.take_add_one, h]; simp
theorem rgP_len {M : List By} {i : Nat} (h : i <= M.length) : (rgP M i).length = i := by unfold rgP; simp; omega
theorem midG_len (L : List By) : (midG L).length = L.length - 2 - 1 := by simp [midG]
theorem midG_at {L : List By} {j : Nat} (h : j < (midG L).length) : (midG L)[j]? = L[j + 1]? := by
 rw [midG_len] at h
 unfold midG
 rw [List.getElem?_drop, List.getElem?_take, if_pos (by omega), Nat.add_comm]
theorem midG_mem {L : List By} {x : By} (h : x ∈ midG L) : x ∈ L := List.mem_of_mem_take (List.mem_of_mem_drop h)
theorem bad_g {y a b c d e : By} (hf : prtS y = [a, b, c, d, e]) (h : False \/ ∃ v ∈ [b, c, d, e], (valS v).2 = false) : okG (prtS y) = false := by
 rcases h with h | ⟨v, hv, h⟩
 . exact h.elim
 . rw [hf]
   simp only [okG, List.drop_succ_cons, List.drop_zero, Bool.and_eq_false_iff]
   exact .inr (List.all_eq_false.2 ⟨v, hv, by simp [h]⟩)
end Go.Log
namespace Go.Proofs.Tryz
open Go.Psl
open Go.Log
def okV (b c d e : By) (k : Nat) : Prop := 1 <= k /\ k <= 5 /\ (2 <= k -> (valS b).2 = true) /\ (3 <= k -> (valS c).2 = true) /\ (4 <= k -> (valS d).2 = true) /\ (5 <= k -> (valS e).2 = true)
def NV (v1 v2 v3 v4 : Int) : Nat -> List V
 | 0 => [vi 0, vi 0, vi 0, vi 0, vi 0]
 | 1 => [vi 0, vi 0, vi 0, vi 0, vi 0]
 | 2 => [vi 0, vi v1, vi 0, vi 0, vi 0]
 | 3 => [vi 0, vi v1, vi v2, vi 0, vi 0]
 | 4 => [vi 0, vi v1, vi v2, vi v3, vi 0]
 | _ => [vi 0, vi v1, vi v2, vi v3, vi v4]
theorem rrd_run (t nm : By) (L : List By) (ls : List Lim) (hn : L.length <= 1000) (h3 : 3 <= L.length) (hm : ∀ x ∈ L, x.length <= 100000) (E : Ent) (hE : ∀ i, ¬ E.stab i) (Q : AExit -> St -> Prop) (st : St)
   (hw : Weak prog E st ⟨slots [(0, vS t), (1, .d (lmsD ls)), (4, .lp 1 0), (7, .d (strsD L)), (9, .lp 2 0), (10, vi (0 + 1 : Nat))], lk (bkN 0 (fcel rowL (rgP (midG L) 0)) ++ [(1, [vS [], .d (.lit (.slice none 0 0))]), (2, [vS nm, hdN 0 5])]), 3⟩)
   (hC : (∀ x ∈ midG L, okG (prtS x) = true) -> Q (.exit 0) ⟨slots [(0, vS t), (1, .d (lmsD ls)), (4, .lp 1 0), (9, .lp 2 0)], lk (bkN (midG L).length (fcel rowL (rgP (midG L) (midG L).length)) ++ [(1, [vS [], .d (.lit (.slice none 0 0))]), (2, [vS nm, hdN (midG L).length 5])]), 3⟩)
   (hX : ∀ x, x ∈ midG L -> okG (prtS x) = false -> ∀ f H n, f 4 = .lp 1 0 -> f 5 = vi 94 -> H 1 = some [vS [], .d (.lit (.slice none 0 0))] -> Q .ret ⟨f, H, n⟩) :
   PW prog tys eqs E (.loop p21l1) Q st := by
 have hMl := midG_len L
 have w2 : IntKind.wrap .i64 ((L.length : Int) - 2) = ((L.length - 2 : Nat) : Int) := by rw [wrap64 (by omega) (by omega)]; omega
 refine pw_loopC (α := Nat) 0 (fun _ : Unit => ⟨slots [(0, vS t), (1, .d (lmsD ls)), (4, .lp 1 0), (9, .lp 2 0)], lk (bkN (midG L).length (fcel rowL (rgP (midG L) (midG L).length)) ++ [(1, [vS [], .d (.lit (.slice none 0 0))]), (2, [vS nm, hdN (midG L).length 5])]), 3⟩) (fun _ => ∀ x ∈ midG L, okG (prtS x) = true)
   (fun j => ⟨slots [(0, vS t), (1, .d (lmsD ls)), (4, .lp 1 0), (7, .d (strsD L)), (9, .lp 2 0), (10, vi (j + 1 : Nat))], lk (bkN j (fcel rowL (rgP (midG L) j)) ++ [(1, [vS [], .d (.lit (.slice none 0 0))]), (2, [vS nm, hdN j 5])]), 3⟩) (fun j => j <= (midG L).length /\ ∀ i, i < j -> ((midG L)[i]?).all (fun x => okG (prtS x)) = true) (fun j => (midG L).length - j) 0 ⟨by omega, fun j hj => by omega⟩ hw ?_ (fun _ h => hC h)
 rintro j ⟨hj, hg⟩
 have hz : IntKind.wrap .i64 ((j : Int) + 1 + 1) = ((j + 1 + 1 : Nat) : Int) := by rw [wrap64 (by omega) (by omega)]; omega
 by_cases h : j < (midG L).length
 . obtain ⟨y, hy⟩ := gE h
   have hym := List.mem_of_getElem? hy
   have hyL : L[j + 1]? = some y := by rw [<- midG_at h]; exact hy
   have hI : (j : Int) + 1 < ((L.length - 2 : Nat) : Int) := by omega
   have hI2 : (j : Int) + 1 < L.length := by omega
   have hI3 : (0 : Int) <= (j : Int) + 1 := by omega
   have c1 := fn67 y (hm y (midG_mem hym))
   by_cases h5 : (prtS y).length = 5
   . obtain ⟨a, b, c, d, e, hf⟩ := five_of h5
     have hml : ∀ x ∈ prtS y, x.length <= 100000 := fun x hx => by
       have h1 := (List.mem_filter.1 hx).1
       have h2 := splC_mem (c := 32) h1
       have := hm y (midG_mem hym)
       omega
     rw [hf] at c1 hml
     have d1 := fn68 b (by have := hml b (by simp); omega)
     have d2 := fn68 c (by have := hml c (by simp); omega)
     have d3 := fn68 d (by have := hml d (by simp); omega)
     have d4 := fn68 e (by have := hml e (by simp); omega)
     have hsucc := rgP_succ hy
     have hrow : rowG (prtS y) = ⟨a, ⟨(valS b).1, (valS c).1, (valS d).1, (valS e).1⟩⟩ := by rw [hf]; rfl
     rw [hrow] at hsucc
     have hgn : (valS b).2 = true /\ (valS c).2 = true /\ (valS d).2 = true /\ (valS e).2 = true -> ∀ i, i < j + 1 -> ((midG L)[i]?).all (fun x => okG (prtS x)) = true := fun hok i hi => by
       by_cases e' : i = j
       . subst e'; rw [hy]; simp [okG, hf, hok.1, hok.2.1, hok.2.2.1, hok.2.2.2]
       . exact hg i (by omega)
     by_cases h0 : j = 0
     . have e3 : hdN j 5 = .d (.lit (.slice none 0 0)) := by rw [h0]; rfl
       have e4 : bkN j (fcel rowL (rgP (midG L) j)) = [] := by rw [h0]; rfl
       have e5 : rgP (midG L) j = [] := by rw [h0]; rfl
       have e6 : j + 1 = 1 := by omega
       have e7 : (j : Int) + 1 = 1 := by omega
       rw [e3, e4]
       simp [p21l1, hI, hI3, w2, hyL]
       refine CLa c1 ?_
       simp
       refine pw_loopC (α := Nat) 2 (fun _ : Unit => ⟨slots [(0, vS t), (1, .d (lmsD ls)), (4, .lp 1 0), (7, .d (strsD L)), (9, .lp 2 0), (10, vi (j + 1 : Nat)), (11, .d (strsD [a, b, c, d, e])), (12, .lp 3 0)], lk ([] ++ [(1, [vS [], .d (.lit (.slice none 0 0))]), (2, [vS nm, .d (.lit (.slice none 0 0))]), (3, NV (valS b).1 (valS c).1 (valS d).1 (valS e).1 5)]), 4⟩) (fun _ => (valS b).2 = true /\ (valS c).2 = true /\ (valS d).2 = true /\ (valS e).2 = true)
         (fun k => ⟨slots [(0, vS t), (1, .d (lmsD ls)), (4, .lp 1 0), (7, .d (strsD L)), (9, .lp 2 0), (10, vi (j + 1 : Nat)), (11, .d (strsD [a, b, c, d, e])), (12, .lp 3 0), (13, vi k)], lk ([] ++ [(1, [vS [], .d (.lit (.slice none 0 0))]), (2, [vS nm, .d (.lit (.slice none 0 0))]), (3, NV (valS b).1 (valS c).1 (valS d).1 (valS e).1 k)]), 4⟩) (okV b c d e) (fun k => 5 - k) 1 ⟨by omega, by omega, by omega, by omega, by omega, by omega⟩ ?_ ?_ ?_
       . refine Weak.mk hE (lk [(1, 1), (2, 2), (3, 14680067)]) _ _ _ ?_ ?_ ?_ ?_ ?_ <;> simp [NV]
       . rintro k ⟨k1, k2, ob, oc, od, oe⟩
         match k, k1, k2 with
         | 1, _, _ =>
           have z : IntKind.wrap .i64 2 = 2 := by decide
           cases hv : (valS b).2 with
           | false =>
             rw [hv] at d1
             have hq := hX y hym (bad_g hf (.inr ⟨b, by simp, hv⟩))
             simp [p21l0]
             refine CLa d1 ?_
             simp [splice]
             exact hq _ _ _ (by simp) (by simp) (by simp)
           | true =>
             rw [hv] at d1
             simp [p21l0]
             refine CLa d1 ?_
             simp [splice, z, NV]
             refine ⟨2, ⟨by omega, by omega, fun _ => hv, fun h => absurd h (by omega), fun h => absurd h (by omega), fun h => absurd h (by omega)⟩, by omega, ?_⟩
             refine Weak.mk hE (lk [(1, 1), (2, 2), (3, 3)]) _ _ _ ?_ ?_ ?_ ?_ ?_ <;> simp
         | 2, _, _ =>
           have z : IntKind.wrap .i64 3 = 3 := by decide
           cases hv : (valS c).2 with
           | false =>
             rw [hv] at d2
             have hq := hX y hym (bad_g hf (.inr ⟨c, by simp, hv⟩))
             simp [p21l0]
             refine CLa d2 ?_
             simp [splice]
             exact hq _ _ _ (by simp) (by simp) (by simp)
           | true =>
             rw [hv] at d2
             simp [p21l0]
             refine CLa d2 ?_
             simp [splice, z, NV]
             refine ⟨3, ⟨by omega, by omega, fun _ => ob (by omega), fun _ => hv, fun h => absurd h (by omega), fun h => absurd h (by omega)⟩, by omega, ?_⟩
             refine Weak.mk hE (lk [(1, 1), (2, 2), (3, 3)]) _ _ _ ?_ ?_ ?_ ?_ ?_ <;> simp
         | 3, _, _ =>
           have z : IntKind.wrap .i64 4 = 4 := by decide
           cases hv : (valS d).2 with
           | false =>
             rw [hv] at d3
             have hq := hX y hym (bad_g hf (.inr ⟨d, by simp, hv⟩))
             simp [p21l0]
             refine CLa d3 ?_
             simp [splice]
             exact hq _ _ _ (by simp) (by simp) (by simp)
           | true =>
             rw [hv] at d3
             simp [p21l0]
             refine CLa d3 ?_
             simp [splice, z, NV]
             refine ⟨4, ⟨by omega, by omega, fun _ => ob (by omega), fun _ => oc (by omega), fun _ => hv, fun h => absurd h (by omega)⟩, by omega, ?_⟩
             refine Weak.mk hE (lk [(1, 1), (2, 2), (3, 3)]) _ _ _ ?_ ?_ ?_ ?_ ?_ <;> simp
         | 4, _, _ =>
           have z : IntKind.wrap .i64 5 = 5 := by decide
           cases hv : (valS e).2 with
           | false =>
             rw [hv] at d4
             have hq := hX y hym (bad_g hf (.inr ⟨e, by simp, hv⟩))
             simp [p21l0]
             refine CLa d4 ?_
             simp [splice]
             exact hq _ _ _ (by simp) (by simp) (by simp)
           | true =>
             rw [hv] at d4
             simp [p21l0]
             refine CLa d4 ?_
             simp [splice, z, NV]
             refine ⟨5, ⟨by omega, by omega, fun _ => ob (by omega), fun _ => oc (by omega), fun _ => od (by omega), fun _ => hv⟩, by omega, ?_⟩
             refine Weak.mk hE (lk [(1, 1), (2, 2), (3, 3)]) _ _ _ ?_ ?_ ?_ ?_ ?_ <;> simp
         | 5, _, _ =>
           simp [p21l0, exC_exit]
           refine ⟨⟨ob (by omega), oc (by omega), od (by omega), oe (by omega)⟩, ?_⟩
           refine Weak.mk hE (lk [(1, 1), (2, 2), (3, 3)]) _ _ _ ?_ ?_ ?_ ?_ ?_ <;> simp [NV]
       . rintro _ ⟨ob, oc, od, oe⟩
         have hgn' := hgn ⟨ob, oc, od, oe⟩
         simp [splice, repl, inC, Nat.testBit, NV, hz]
         refine ⟨j + 1, ⟨by omega, hgn'⟩, by omega, ?_⟩
         rw [hdN_n (by omega), bkN_n (by omega), hsucc, e5]
         refine Weak.mk hE (lk [(0, 18874372), (1, 1), (2, 2)]) _ _ _ ?_ ?_ ?_ ?_ ?_ <;> simp [rw_one, e6, e7]
     . have e2 : j + 1 ≠ 0 := by omega
       have hsl := fcel_len hfr (rgP (midG L) j)
       have hwh := fcel_whole hfr (rgP (midG L) j)
       rw [rgP_len hj] at hsl hwh
       have n1 : (j + 1) * 48 <= 140737488355328 := by omega
       have n2 : j <= 9223372036854775806 := by omega
       rw [hdN_n h0, bkN_n h0]
       simp [p21l1, hI, hI3, w2, hyL]
       refine CLa c1 ?_
       simp
       refine pw_loopC (α := Nat) 2 (fun _ : Unit => ⟨slots [(0, vS t), (1, .d (lmsD ls)), (4, .lp 1 0), (7, .d (strsD L)), (9, .lp 2 0), (10, vi (j + 1 : Nat)), (11, .d (strsD [a, b, c, d, e])), (12, .lp 3 0)], lk ([(0, fcel rowL (rgP (midG L) j))] ++ [(1, [vS [], .d (.lit (.slice none 0 0))]), (2, [vS nm, .ls 0 0 j 5]), (3, NV (valS b).1 (valS c).1 (valS d).1 (valS e).1 5)]), 4⟩) (fun _ => (valS b).2 = true /\ (valS c).2 = true /\ (valS d).2 = true /\ (valS e).2 = true)
         (fun k => ⟨slots [(0, vS t), (1, .d (lmsD ls)), (4, .lp 1 0), (7, .d (strsD L)), (9, .lp 2 0), (10, vi (j + 1 : Nat)), (11, .d (strsD [a, b, c, d, e])), (12, .lp 3 0), (13, vi k)], lk ([(0, fcel rowL (rgP (midG L) j))] ++ [(1, [vS [], .d (.lit (.slice none 0 0))]), (2, [vS nm, .ls 0 0 j 5]), (3, NV (valS b).1 (valS c).1 (valS d).1 (valS e).1 k)]), 4⟩) (okV b c d e) (fun k => 5 - k) 1 ⟨by omega, by omega, by omega, by omega, by omega, by omega⟩ ?_ ?_ ?_
       . refine Weak.mk hE (lk [(0, 0), (1, 1), (2, 2), (3, 14680067)]) _ _ _ ?_ ?_ ?_ ?_ ?_ <;> simp [NV]
       . rintro k ⟨k1, k2, ob, oc, od, oe⟩
         match k, k1, k2 with
         | 1, _, _ =>
           have z : IntKind.wrap .i64 2 = 2 := by decide
           cases hv : (valS b).2 with
           | false =>
             rw [hv] at d1
             have hq := hX y hym (bad_g hf (.inr ⟨b, by simp, hv⟩))
             simp [p21l0]
             refine CLa d1 ?_
             simp [splice]
             exact hq _ _ _ (by simp) (by simp) (by simp)
           | true =>
             rw [hv] at d1
             simp [p21l0]
             refine CLa d1 ?_
             simp [splice, z, NV]
             refine ⟨2, ⟨by omega, by omega, fun _ => hv, fun h => absurd h (by omega), fun h => absurd h (by omega), fun h => absurd h (by omega)⟩, by omega, ?_⟩
             refine Weak.mk hE (lk [(0, 0), (1, 1), (2, 2), (3, 3)]) _ _ _ ?_ ?_ ?_ ?_ ?_ <;> simp
         | 2, _, _ =>
           have z : IntKind.wrap .i64 3 = 3 := by decide
           cases hv : (valS c).2 with
           | false =>
             rw [hv] at d2
             have hq := hX y hym (bad_g hf (.inr ⟨c, by simp, hv⟩))
             simp [p21l0]
             refine CLa d2 ?_
             simp [splice]
             exact hq _ _ _ (by simp) (by simp) (by simp)
           | true =>
             rw [hv] at d2
             simp [p21l0]
             refine CLa d2 ?_
             simp [splice, z, NV]
             refine ⟨3, ⟨by omega, by omega, fun _ => ob (by omega), fun _ => hv, fun h => absurd h (by omega), fun h => absurd h (by omega)⟩, by omega, ?_⟩
             refine Weak.mk hE (lk [(0, 0), (1, 1), (2, 2), (3, 3)]) _ _ _ ?_ ?_ ?_ ?_ ?_ <;> simp
         | 3, _, _ =>
           have z : IntKind.wrap .i64 4 = 4 := by decide
           cases hv : (valS d).2 with
           | false =>
             rw [hv] at d3
             have hq := hX y hym (bad_g hf (.inr ⟨d, by simp, hv⟩))
             simp [p21l0]
             refine CLa d3 ?_
             simp [splice]
             exact hq _ _ _ (by simp) (by simp) (by simp)
           | true =>
             rw [hv] at d3
             simp [p21l0]
             refine CLa d3 ?_
             simp [splice, z, NV]
             refine ⟨4, ⟨by omega, by omega, fun _ => ob (by omega), fun _ => oc (by omega), fun _ => hv, fun h => absurd h (by omega)⟩, by omega, ?_⟩
             refine Weak.mk hE (lk [(0, 0), (1, 1), (2, 2), (3, 3)]) _ _ _ ?_ ?_ ?_ ?_ ?_ <;> simp
         | 4, _, _ =>
           have z : IntKind.wrap .i64 5 = 5 := by decide
           cases hv : (valS e).2 with
           | false =>
             rw [hv] at d4
             have hq := hX y hym (bad_g hf (.inr ⟨e, by simp, hv⟩))
             simp [p21l0]
             refine CLa d4 ?_
             simp [splice]
             exact hq _ _ _ (by simp) (by simp) (by simp)
           | true =>
             rw [hv] at d4
             simp [p21l0]
             refine CLa d4 ?_
             simp [splice, z, NV]
             refine ⟨5, ⟨by omega, by omega, fun _ => ob (by omega), fun _ => oc (by omega), fun _ => od (by omega), fun _ => hv⟩, by omega, ?_⟩
             refine Weak.mk hE (lk [(0, 0), (1, 1), (2, 2), (3, 3)]) _ _ _ ?_ ?_ ?_ ?_ ?_ <;> simp
         | 5, _, _ =>
           simp [p21l0, exC_exit]
           refine ⟨⟨ob (by omega), oc (by omega), od (by omega), oe (by omega)⟩, ?_⟩
           refine Weak.mk hE (lk [(0, 0), (1, 1), (2, 2), (3, 3)]) _ _ _ ?_ ?_ ?_ ?_ ?_ <;> simp [NV]
       . rintro _ ⟨ob, oc, od, oe⟩
         have hgn' := hgn ⟨ob, oc, od, oe⟩
         simp [splice, repl, inC, Nat.testBit, NV, hz, hsl, hwh, n1, n2]
         refine ⟨j + 1, ⟨by omega, hgn'⟩, by omega, ?_⟩
         rw [hdN_n e2, bkN_n e2, hsucc]
         refine Weak.mk hE (lk [(0, 18874372), (1, 1), (2, 2)]) _ _ _ ?_ ?_ ?_ ?_ ?_ <;> simp [fcel_one]
   . have h5' : ¬ ((prtS y).length : Int) = 5 := by omega
     have hbad : okG (prtS y) = false := by simp [okG, h5]
     have hq := hX y hym hbad
     generalize prtS y = F at c1 h5 h5'
     by_cases h0 : j = 0
     . have e3 : hdN j 5 = .d (.lit (.slice none 0 0)) := by rw [h0]; rfl
       have e4 : bkN j (fcel rowL (rgP (midG L) j)) = [] := by rw [h0]; rfl
       rw [e3, e4]
       simp [p21l1, hI, hI3, w2, hyL]
       refine CLa c1 ?_
       simp [h5', splice]
       exact hq _ _ _ (by simp) (by simp) (by simp)
     . rw [hdN_n h0, bkN_n h0]
       simp [p21l1, hI, hI3, w2, hyL]
       refine CLa c1 ?_
       simp [h5', splice]
       exact hq _ _ _ (by simp) (by simp) (by simp)
 . have hI : ¬ (j : Int) + 1 < ((L.length - 2 : Nat) : Int) := by omega
   obtain rfl : j = (midG L).length := by omega
   have hall : ∀ x ∈ midG L, okG (prtS x) = true := fun x hx => by
     obtain ⟨i, hi⟩ := List.getElem?_of_mem hx
     have := hg i (List.getElem?_eq_some_iff.1 hi).1
     rw [hi] at this
     simpa using this
   by_cases h0 : (midG L).length = 0
   . rw [h0, hdN_z, bkN_z]
     have hd1 : decide ((1 : Int) < ((L.length - 2 : Nat) : Int)) = false := decide_eq_false (by omega)
     simp [p21l1, exC_exit, hd1, w2]
     refine ⟨hall, ?_⟩
     exact WK hE (lk [(1, 1), (2, 2)])
   . rw [hdN_n h0, bkN_n h0]
     simp [p21l1, exC_exit, hI, w2]
     refine ⟨hall, ?_⟩
     exact WK hE (lk [(0, 0), (1, 1), (2, 2)])
end Go.Proofs.Tryz
