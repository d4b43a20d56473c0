/- Own lemmas and contracts of functions, used by the last text of this claim for the given statement. Conditions: those that each theorem states. -/
import Derived.Test.YtigekgfbcfbobaaGreatCag
import Derived.Test.YtigekgfbcfbobaaGreatCah
import Derived.Test.YtigekgfbcfbobaaGreatCal
namespace Go.Proofs.Tryz
open Go.Psl
open Go.Air
set_option maxRecDepth 20000
set_option maxHeartbeats 8000000
abbrev plB (p : Plt) (c : V) : List V := [c, vi p.bt, vi p.ih, vi p.ia, vi p.vh, vi p.va, vi p.lh, vi p.la, vi p.ph, vi p.pa]
abbrev refu (e : Int) : V := .d (.ifc 277 true [di e])
theorem hfc7 : ∀ x : Cel, (cellL x).length = 7 := fun _ => rfl
theorem need_ok (e : Int) : Ct prog 204 [vb true, vi e] (.tup []) [] := by
 refine CB func204 c204 (by simp [ntmps204]) fun E hE => ?_
 simp [p204]
 refine RetOk.by (fun _ => none) ?_
 simp [results204]
theorem need_no (e : Int) : Cm prog 204 [vb false, vi e] (lk []) [] (.pan (refu e)) (lk []) := by
 refine Cm.by gok eok mixed 0 func204 c204 rfl (by simp [ntmps204]) (by simp) (HpIds.at (by simp)) (by simp) (by simp [ResIds]) fun E hs hE => ?_
 simp [p204, splice]
 refine ⟨fun _ => none, ?_, ?_, ?_, ?_⟩ <;> simp
theorem fn115r (a b c d : Int) (h : (-2000000000000 <= a /\ a <= 2000000000000) /\ (-2000000000000 <= b /\ b <= 2000000000000) /\ (-2000000000000 <= c /\ c <= 2000000000000) /\ -2000000000000 <= d /\ d <= 2000000000000) : Ct prog 115 [vsp a b, vsp c d] (vsp (a + c) (b + d)) [] := by
 have w1 : IntKind.wrap .i64 (a + c) = a + c := wrap64 (by omega) (by omega)
 have w2 : IntKind.wrap .i64 (b + d) = b + d := wrap64 (by omega) (by omega)
 refine CB func115 c115 (by simp [ntmps115]) fun E hE => ?_
 simp [p115, splice, w1, w2]
 refine RetOk.by (fun _ => none) ?_
 simp [results115]
def inA (n : Nat) (a : Act) : Bool := rgB 0 ((n : Int) - 1) [a.c] && rgB 1 10000000 [a.n]
theorem inA_iff {n : Nat} {a : Act} : inA n a = true ↔ (0 <= a.c /\ a.c < n) /\ 1 <= a.n /\ a.n <= 10000000 := by
 unfold inA rgB; simp; omega
theorem cell_ok (p : Plt) (cs : List Cel) (a : Act) (hl : cs.length <= 1000000) (hin : inA cs.length a = true) : Cm prog 259 [.lp 0 0, actV a] (lk [(0, plB p (.ls 1 0 cs.length 7)), (1, fcel cellL cs)]) [0, 1] (.ret (.lp 1 (a.c.toNat * 7))) (lk [(0, plB p (.ls 1 0 cs.length 7)), (1, fcel cellL cs)]) := by
 have h1 := inA_iff.1 hin
 obtain ⟨i, hi⟩ : ∃ i : Nat, a.c = i := ⟨a.c.toNat, by omega⟩
 have c1 := fn112 0 ((cs.length : Int) - 1) [a.c] (by simp)
 have c2 := fn112 1 10000000 [a.n] (by simp)
 have c3 := need_ok 2
 unfold inA at hin
 simp only [Bool.and_eq_true] at hin
 rw [hin.1] at c1
 rw [hin.2] at c2
 rw [hi] at c1 h1 ⊢
 have hI : (i : Int) < cs.length := by omega
 have hil : i < cs.length := by omega
 have w : IntKind.wrap .i64 ((cs.length : Int) - 1) = (cs.length : Int) - 1 := wrap64 (by omega) (by omega)
 have hsl := fcel_len hfc7 cs
 refine Cm.by gok eok mixed 2 func259 c259 rfl (by simp [ntmps259]) (by simp) (HpIds.at (by simp)) (by simp) (by simp [ResIds]) fun E hs hE => ?_
 simp [p259, splice, repl, inC, Nat.testBit, hi, w]
 repeat ((first | (refine CLr (c1) ?_ ?_ ?_; (focus (simp [bor_i1]; done)); (focus (first | (left; simp; done) | (right; simp; done)))) | (refine CLr (c2) ?_ ?_ ?_; (focus (simp [bor_i1]; done)); (focus (first | (left; simp; done) | (right; simp; done)))) | (refine CLr (c3) ?_ ?_ ?_; (focus (simp; done)); (focus (first | (left; simp; done) | (right; simp; done))))); simp [splice, repl, inC, Nat.testBit, hI])
 refine RetOk.by (lk [(0, 0), (1, 1)]) ?_
 simp [results259]
theorem cell_no (p : Plt) (cs : List Cel) (a : Act) (hl : cs.length <= 1000000) (hin : inA cs.length a = false) : Cm prog 259 [.lp 0 0, actV a] (lk [(0, plB p (.ls 1 0 cs.length 7)), (1, fcel cellL cs)]) [0, 1] (.pan (refu 2)) (lk [(0, plB p (.ls 1 0 cs.length 7)), (1, fcel cellL cs)]) := by
 have c1 := fn112 0 ((cs.length : Int) - 1) [a.c] (by simp)
 have c2 := fn112 1 10000000 [a.n] (by simp)
 have c3 := need_no 2
 have w : IntKind.wrap .i64 ((cs.length : Int) - 1) = (cs.length : Int) - 1 := wrap64 (by omega) (by omega)
 unfold inA at hin
 generalize rgB 0 ((cs.length : Int) - 1) [a.c] = b1 at *
 generalize rgB 1 10000000 [a.n] = b2 at *
 cases b1
 . refine Cm.by gok eok mixed 2 func259 c259 rfl (by simp [ntmps259]) (by simp) (HpIds.at (by simp)) (by simp) (by simp [ResIds]) fun E hs hE => ?_
   simp [p259, splice, repl, inC, Nat.testBit, w]
   repeat ((first | (refine CLr (c1) ?_ ?_ ?_; (focus (simp [bor_i1]; done)); (focus (first | (left; simp; done) | (right; simp; done)))) | (refine CLr (c2) ?_ ?_ ?_; (focus (simp [bor_i1]; done)); (focus (first | (left; simp; done) | (right; simp; done))))); simp)
   refine ACall.mkR _ _ _ _ _ (c3) (by simp) (by simp) (by simp) (by simp) (by first | (left; simp; done) | (right; simp; done)) ?_
   refine ⟨lk [(0, 0), (1, 1)], ?_, ?_, ?_, ?_⟩ <;> simp
 . cases b2
   . refine Cm.by gok eok mixed 2 func259 c259 rfl (by simp [ntmps259]) (by simp) (HpIds.at (by simp)) (by simp) (by simp [ResIds]) fun E hs hE => ?_
     simp [p259, splice, repl, inC, Nat.testBit, w]
     repeat ((first | (refine CLr (c1) ?_ ?_ ?_; (focus (simp [bor_i1]; done)); (focus (first | (left; simp; done) | (right; simp; done)))) | (refine CLr (c2) ?_ ?_ ?_; (focus (simp [bor_i1]; done)); (focus (first | (left; simp; done) | (right; simp; done))))); simp [splice, repl])
     refine ACall.mkR _ _ _ _ _ (c3) (by simp) (by simp) (by simp) (by simp) (by first | (left; simp; done) | (right; simp; done)) ?_
     refine ⟨lk [(0, 0), (1, 1)], ?_, ?_, ?_, ?_⟩ <;> simp
   . simp at hin
theorem cell_e (p : Plt) (a : Act) : Cm prog 259 [.lp 0 0, actV a] (lk [(0, plB p (.ls 1 0 0 7))]) [] (.pan (refu 2)) (lk []) := by
 have c1 := fn112 0 (-1) [a.c] (by simp)
 have c3 := need_no 2
 have e : rgB 0 (-1) [a.c] = false := by unfold rgB; simp; omega
 have w : IntKind.wrap .i64 (-1) = -1 := by decide
 rw [e] at c1
 refine Cm.by gok eok mixed 2 func259 c259 rfl (by simp [ntmps259]) (by simp) (HpIds.at (by simp)) (by simp) (by simp [ResIds]) fun E hs hE => ?_
 simp [p259, splice, repl, inC, Nat.testBit, w]
 repeat ((first | (refine CLr (c1) ?_ ?_ ?_; (focus (simp [bor_i1]; done)); (focus (first | (left; simp; done) | (right; simp; done))))); simp)
 refine ACall.mkR _ _ _ _ _ (c3) (by simp) (by simp) (by simp) (by simp) (by first | (left; simp; done) | (right; simp; done)) ?_
 refine ⟨fun _ => none, ?_, ?_, ?_, ?_⟩ <;> simp
def outH (c : Cel) (n : Int) : Int := n * c.he / (c.he + c.ai)
def outC (c : Cel) (n : Int) : Cel := { c with he := c.he - outH c n, ai := c.ai - (n - outH c n) }
theorem outH_bd {c : Cel} {n : Int} (h1 : 0 <= c.he) (h2 : 0 <= c.ai) (h3 : 0 <= n) (h4 : n <= c.he + c.ai) : 0 <= outH c n /\ outH c n <= c.he /\ outH c n <= n /\ n - outH c n <= c.ai := by
 unfold outH
 by_cases h0 : c.he + c.ai = 0
 . have : n = 0 := by omega
   subst this
   simp; omega
 have hp : 0 < c.he + c.ai := by omega
 have e1 : 0 <= n * c.he := Int.mul_nonneg h3 h1
 have e2 : n * c.he <= (c.he + c.ai) * c.he := Int.mul_le_mul_of_nonneg_right h4 h1
 have e3 : n * c.he <= n * (c.he + c.ai) := Int.mul_le_mul_of_nonneg_left (by omega) h3
 refine ⟨Int.ediv_nonneg e1 (by omega), ?_, ?_, ?_⟩
 . have := Int.ediv_le_ediv hp e2
   rwa [Int.mul_ediv_cancel_left _ h0] at this
 . have := Int.ediv_le_ediv hp e3
   rwa [Int.mul_ediv_cancel _ h0] at this
 . have e4 : (n - c.ai) * (c.he + c.ai) <= n * c.he := by
     have a1 : (n - c.ai) * (c.he + c.ai) = n * c.he + (n * c.ai - c.ai * (c.he + c.ai)) := by
       rw [Int.sub_mul, Int.mul_add]; omega
     have a2 : n * c.ai <= (c.he + c.ai) * c.ai := Int.mul_le_mul_of_nonneg_right h4 h2
     have a3 : (c.he + c.ai) * c.ai = c.ai * (c.he + c.ai) := Int.mul_comm _ _
     omega
   have := (Int.le_ediv_iff_mul_le hp).2 e4
   omega
theorem out_ok (cs : List Cel) (i : Nat) (c : Cel) (n : Int) (hc : cs[i]? = some c) (hb : (0 <= c.he /\ c.he <= 10000000) /\ 0 <= c.ai /\ c.ai <= 10000000) (hn : 1 <= n /\ n <= c.he + c.ai) : Cm prog 260 [.lp 1 (i * 7), vi n] (lk [(1, fcel cellL cs)]) [1] (.ret (vsp (outH c n) (n - outH c n))) (lk [(1, fcel cellL (cs.set i (outC c n)))]) := by
 have q1 := hb.1; have q2 := hb.2
 have hbd := outH_bd q1.1 q2.1 (by omega : 0 <= n) hn.2
 have hz : ¬ c.he + c.ai = 0 := by omega
 have m1 : 0 <= n * c.he := Int.mul_nonneg (by omega) (by omega)
 have m2 : n * c.he <= 20000000 * 10000000 := Int.mul_le_mul (by omega) (by omega) (by omega) (by omega)
 have hd : (n * c.he).tdiv (c.he + c.ai) = outH c n := Int.tdiv_eq_ediv_of_nonneg m1
 have w1 : IntKind.wrap .i64 (c.he + c.ai) = c.he + c.ai := wrap64 (by omega) (by omega)
 have w2 : IntKind.wrap .i64 (n * c.he) = n * c.he := wrap64 (by omega) (by omega)
 have w3 : IntKind.wrap .i64 (outH c n) = outH c n := wrap64 (by omega) (by omega)
 have w4 : IntKind.wrap .i64 (c.he - outH c n) = c.he - outH c n := wrap64 (by omega) (by omega)
 have w5 : IntKind.wrap .i64 (n - outH c n) = n - outH c n := wrap64 (by omega) (by omega)
 have w6 : IntKind.wrap .i64 (c.ai - (n - outH c n)) = c.ai - (n - outH c n) := wrap64 (by omega) (by omega)
 have g : c.he + c.ai >= n := by omega
 have c3 := need_ok 6
 have hil := (List.getElem?_eq_some_iff.1 hc).1
 let c1 : Cel := { c with he := c.he - outH c n }
 have hc1 : (cs.set i c1)[i]? = some c1 := by simp [hil]
 have s0 : i * 7 + 1 + 1 <= cs.length * 7 /\ i * 7 + 2 + 1 <= cs.length * 7 := by omega
 have hsl := fcel_len hfc7 cs
 have hsl1 := fcel_len hfc7 (cs.set i c1)
 have r1 : (fcel cellL cs)[i * 7 + 1]? = some (vi c.he) := fcel_cellat hfc7 hc rfl
 have r2 : (fcel cellL cs)[i * 7 + 2]? = some (vi c.ai) := fcel_cellat hfc7 hc rfl
 have t1 : List.take 1 (List.drop (i * 7 + 1) (fcel cellL cs)) = [vi c.he] := fcel_sub hfc7 (j := 1) (k := 1) hc (by omega)
 have t2 : List.take 1 (List.drop (i * 7 + 2) (fcel cellL cs)) = [vi c.ai] := fcel_sub hfc7 (j := 2) (k := 1) hc (by omega)
 have e1 : splice (fcel cellL cs) (i * 7 + 1) [vi (c.he - outH c n)] = fcel cellL (cs.set i c1) := fcel_put hfc7 (vs := [di (c.he - outH c n)]) hc (by simp) rfl
 have t3 : List.take 1 (List.drop (i * 7 + 2) (fcel cellL (cs.set i c1))) = [vi c.ai] := fcel_sub hfc7 (x := c1) (j := 2) (k := 1) hc1 (by omega)
 have e2 : splice (fcel cellL (cs.set i c1)) (i * 7 + 2) [vi (c.ai - (n - outH c n))] = fcel cellL (cs.set i (outC c n)) := by
   have := fcel_put hfc7 (y := outC c n) (j := 2) (vs := [di (c.ai - (n - outH c n))]) hc1 (by simp) rfl
   rw [List.set_set] at this; exact this
 refine Cm.by gok eok mixed 2 func260 c260 rfl (by simp [ntmps260]) (by simp) (HpIds.at (by simp)) (by simp) (by simp [ResIds]) fun E hs hE => ?_
 simp [p260, inC, Nat.testBit, t1, t2, s0, hsl, w1, g]
 refine CLa (c3) ?_
 simp [inC, Nat.testBit, t1, t2, t3, e1, e2, s0, hsl, hsl1, w1, w2, w3, w4, w5, w6, hd, hz]
 refine RetOk.by (lk [(1, 1)]) ?_
 simp [results260, splice, Hp.app]
theorem out_no (cs : List Cel) (i : Nat) (c : Cel) (n : Int) (hc : cs[i]? = some c) (hb : (0 <= c.he /\ c.he <= 10000000) /\ 0 <= c.ai /\ c.ai <= 10000000) (hn : c.he + c.ai < n) : Cm prog 260 [.lp 1 (i * 7), vi n] (lk [(1, fcel cellL cs)]) [1] (.pan (refu 6)) (lk [(1, fcel cellL cs)]) := by
 have q1 := hb.1; have q2 := hb.2
 have w1 : IntKind.wrap .i64 (c.he + c.ai) = c.he + c.ai := wrap64 (by omega) (by omega)
 have g : ¬ c.he + c.ai >= n := by omega
 have g2 : ¬ n <= c.he + c.ai := by omega
 have c3 := need_no 6
 have hil := (List.getElem?_eq_some_iff.1 hc).1
 have s0 : i * 7 + 1 + 1 <= cs.length * 7 /\ i * 7 + 2 + 1 <= cs.length * 7 := by omega
 have hsl := fcel_len hfc7 cs
 have t1 : List.take 1 (List.drop (i * 7 + 1) (fcel cellL cs)) = [vi c.he] := fcel_sub hfc7 (j := 1) (k := 1) hc (by omega)
 have t2 : List.take 1 (List.drop (i * 7 + 2) (fcel cellL cs)) = [vi c.ai] := fcel_sub hfc7 (j := 2) (k := 1) hc (by omega)
 refine Cm.by gok eok mixed 2 func260 c260 rfl (by simp [ntmps260]) (by simp) (HpIds.at (by simp)) (by simp) (by simp [ResIds]) fun E hs hE => ?_
 simp [p260, inC, Nat.testBit, t1, t2, s0, hsl, w1, g2]
 refine ACall.mkR _ _ _ _ _ (c3) (by simp) (by simp) (by simp) (by simp) (by first | (left; simp; done) | (right; simp; done)) ?_
 refine ⟨lk [(1, 1)], ?_, ?_, ?_, ?_⟩ <;> simp
abbrev bk12 (x : Int) : Prop := 0 <= x /\ x <= 1000000000000
theorem fcel_ne {cs : List Cel} (h : cs ≠ []) : fcel cellL cs ≠ [] := fun e => by
 have := congrArg List.length e
 rw [fcel_len hfc7] at this
 cases cs with
 | nil => exact h rfl
 | cons a r => simp at this
theorem acl_cel {l : List Cel} {p : Nat -> Prop} : (∀ c, c ∈ fcel cellL l -> AC p litD c) = True := eq_true (acl_fcel fun x y hy => by
 simp only [List.mem_cons, List.not_mem_nil, or_false] at hy
 rcases hy with rfl | rfl | rfl | rfl | rfl | rfl | rfl <;> exact ⟨_, rfl⟩)
theorem valve_ok (p : Plt) (cs : List Cel) (a : Act) (c : Cel) (hl : cs.length <= 1000000) (hin : inA cs.length a = true) (hc : cs[a.c.toNat]? = some c) (hb : CelB c) (hn : a.n <= c.he + c.ai) (hv : bk12 p.vh) (hw : bk12 p.va) :
   Cm prog 199 [.lp 0 0, actV a] (lk [(0, plB p (.ls 1 0 cs.length 7)), (1, fcel cellL cs)]) [0, 1] (.ret (.tup [])) (lk [(0, plB { p with vh := p.vh + outH c a.n, va := p.va + (a.n - outH c a.n) } (.ls 1 0 cs.length 7)), (1, fcel cellL (cs.set a.c.toNat (outC c a.n)))]) := by
 have h1 := inA_iff.1 hin
 have q1 := hb.he; have q2 := hb.ai
 have hbd := outH_bd q1.1 q2.1 (by omega : 0 <= a.n) hn
 have d1 := cell_ok p cs a hl hin
 have d2 := out_ok cs a.c.toNat c a.n hc ⟨hb.he, hb.ai⟩ ⟨h1.2.1, hn⟩
 have d3 := fn115r p.vh p.va (outH c a.n) (a.n - outH c a.n) ⟨by omega, by omega, by omega, by omega⟩
 have hne : cs ≠ [] := fun e => by rw [e] at hc; simp at hc
 have n1 := fcel_ne hne
 refine Cm.by gok eok mixed 2 func199 c199 rfl (by simp [ntmps199]) (by simp) (HpIds.at (by simp)) (by simp) (by simp [ResIds]) fun E hs hE => ?_
 simp [p199]
 refine pw_drawW [(11, 1)] (by kernel_rfl) ?_
 simp [inC, Nat.testBit]
 refine ACall.mkD _ _ _ _ _ (d1) (by simp [inC, Nat.testBit]) (by simp) (by simp [n1]) (by simp) (by first | (left; simp; done) | (right; simp [n1, acl_cel, inC, Nat.testBit]; done)) (by intro r h; first | (cases h; done) | (cases h; simp [wrL])) (by intro r h; cases h; try exact ⟨_, rfl⟩) ?_
 simp [inC, Nat.testBit]
 refine ACall.mkD _ _ _ _ _ (d2) (by simp [inC, Nat.testBit]) (by simp) (by simp [n1]) (by simp) (by first | (left; simp; done) | (right; simp [n1, acl_cel, inC, Nat.testBit]; done)) (by intro r h; first | (cases h; done) | (cases h; simp [wrL])) (by intro r h; cases h; try exact ⟨_, rfl⟩) ?_
 simp
 refine CLa (d3) ?_
 simp [splice]
 refine RetOk.by (lk [(0, 0), (1, 1)]) ?_
 simp [results199]
theorem valve_no2 (p : Plt) (cs : List Cel) (a : Act) (hl : cs.length <= 1000000) (hne : cs ≠ []) (hin : inA cs.length a = false) : Cm prog 199 [.lp 0 0, actV a] (lk [(0, plB p (.ls 1 0 cs.length 7)), (1, fcel cellL cs)]) [] (.pan (refu 2)) (lk []) := by
 have d1 := cell_no p cs a hl hin
 have n1 := fcel_ne hne
 refine Cm.by gok eok mixed 2 func199 c199 rfl (by simp [ntmps199]) (by simp) (HpIds.at (by simp)) (by simp) (by simp [ResIds]) fun E hs hE => ?_
 simp [p199]
 refine pw_drawW [(11, 1)] (by kernel_rfl) ?_
 simp [inC, Nat.testBit]
 refine ACall.mkD _ _ _ _ _ (d1) (by simp [inC, Nat.testBit]) (by simp) (by simp [n1]) (by simp) (by first | (left; simp; done) | (right; simp [n1, acl_cel, inC, Nat.testBit]; done)) (by intro r h; first | (cases h; done) | (cases h; simp [wrL, n1, acl_cel, inC, Nat.testBit])) (by intro r h; cases h; try exact ⟨_, rfl⟩) ?_
 simp
 intro st
 refine ⟨fun _ => none, ?_, ?_, ?_, ?_⟩ <;> simp
theorem valve_no6 (p : Plt) (cs : List Cel) (a : Act) (c : Cel) (hl : cs.length <= 1000000) (hin : inA cs.length a = true) (hc : cs[a.c.toNat]? = some c) (hb : CelB c) (hn : c.he + c.ai < a.n) : Cm prog 199 [.lp 0 0, actV a] (lk [(0, plB p (.ls 1 0 cs.length 7)), (1, fcel cellL cs)]) [] (.pan (refu 6)) (lk []) := by
 have d1 := cell_ok p cs a hl hin
 have d2 := out_no cs a.c.toNat c a.n hc ⟨hb.he, hb.ai⟩ hn
 have hne : cs ≠ [] := fun e => by rw [e] at hc; simp at hc
 have n1 := fcel_ne hne
 refine Cm.by gok eok mixed 2 func199 c199 rfl (by simp [ntmps199]) (by simp) (HpIds.at (by simp)) (by simp) (by simp [ResIds]) fun E hs hE => ?_
 simp [p199]
 refine pw_drawW [(11, 1)] (by kernel_rfl) ?_
 simp [inC, Nat.testBit]
 refine ACall.mkD _ _ _ _ _ (d1) (by simp [inC, Nat.testBit]) (by simp) (by simp [n1]) (by simp) (by first | (left; simp; done) | (right; simp [n1, acl_cel, inC, Nat.testBit]; done)) (by intro r h; first | (cases h; done) | (cases h; simp [wrL])) (by intro r h; cases h; try exact ⟨_, rfl⟩) ?_
 simp [inC, Nat.testBit]
 refine ACall.mkD _ _ _ _ _ (d2) (by simp [inC, Nat.testBit]) (by simp) (by simp [n1]) (by simp) (by first | (left; simp; done) | (right; simp [n1, acl_cel, inC, Nat.testBit]; done)) (by intro r h; first | (cases h; done) | (cases h; simp [wrL, n1, acl_cel, inC, Nat.testBit])) (by intro r h; cases h; try exact ⟨_, rfl⟩) ?_
 simp
 intro st
 refine ⟨fun _ => none, ?_, ?_, ?_, ?_⟩ <;> simp
theorem splic2 (a b p q : V) : splice [a, b] 0 [p, q] = [p, q] := rfl
def inT (n : Nat) (a : Act) : Bool := rgB 0 ((n : Int) - 1) [a.t] && !decide (a.t = a.c)
def addC (c : Cel) (h i : Int) : Cel := { c with he := c.he + h, ai := c.ai + i }
theorem move_ok (p : Plt) (cs : List Cel) (a : Act) (c e : Cel) (hl : cs.length <= 1000000) (hin : inA cs.length a = true) (hto : inT cs.length a = true) (hc : cs[a.c.toNat]? = some c) (he : cs[a.t.toNat]? = some e) (hb : CelB c) (hbe : CelB e) (hn : a.n <= c.he + c.ai) :
   Cm prog 200 [.lp 0 0, actV a] (lk [(0, plB p (.ls 1 0 cs.length 7)), (1, fcel cellL cs)]) [0, 1] (.ret (.tup [])) (lk [(0, plB p (.ls 1 0 cs.length 7)), (1, fcel cellL ((cs.set a.c.toNat (outC c a.n)).set a.t.toNat (addC e (outH c a.n) (a.n - outH c a.n))))]) := by
 have h1 := inA_iff.1 hin
 have q1 := hb.he; have q2 := hb.ai; have q3 := hbe.he; have q4 := hbe.ai
 have hbd := outH_bd q1.1 q2.1 (by omega : 0 <= a.n) hn
 have d1 := cell_ok p cs a hl hin
 have d2 := fn112 0 ((cs.length : Int) - 1) [a.t] (by simp)
 have d3 := need_ok 2
 have d4 := out_ok cs a.c.toNat c a.n hc ⟨hb.he, hb.ai⟩ ⟨h1.2.1, hn⟩
 unfold inT at hto
 simp only [Bool.and_eq_true, Bool.not_eq_true', decide_eq_false_iff_not] at hto
 rw [hto.1] at d2
 have hT : 0 <= a.t /\ a.t < cs.length := by have := hto.1; unfold rgB at this; simp at this; omega
 have hne : cs ≠ [] := fun e => by rw [e] at hc; simp at hc
 have n1 := fcel_ne hne
 have w : IntKind.wrap .i64 ((cs.length : Int) - 1) = (cs.length : Int) - 1 := wrap64 (by omega) (by omega)
 have hij : a.c.toNat ≠ a.t.toNat := fun e => hto.2 (by omega)
 obtain ⟨j, hj⟩ : ∃ j : Nat, a.t = j := ⟨a.t.toNat, by omega⟩
 have hjt : a.t.toNat = j := by omega
 rw [hjt] at he hij ⊢
 have hT2 : (j : Int) < cs.length := by omega
 have hjl : j < cs.length := by omega
 have hil := (List.getElem?_eq_some_iff.1 hc).1
 obtain ⟨L, hL⟩ : ∃ L, cs.set a.c.toNat (outC c a.n) = L := ⟨_, rfl⟩
 have hLl : L.length = cs.length := by rw [<- hL]; simp
 have heL : L[j]? = some e := by rw [<- hL, List.getElem?_set_ne hij]; exact he
 rw [hL] at d4 ⊢
 obtain ⟨h, hh⟩ : ∃ h, outH c a.n = h := ⟨_, rfl⟩
 rw [hh] at d4 hbd ⊢
 let e1 : Cel := { e with he := e.he + h }
 have he1 : (L.set j e1)[j]? = some e1 := by simp [hLl, hjl]
 have hsl := fcel_len hfc7 L
 have hsl1 := fcel_len hfc7 (L.set j e1)
 have s0 : j * 7 + 1 + 1 <= cs.length * 7 /\ j * 7 + 2 + 1 <= cs.length * 7 := by omega
 have t1 : List.take 1 (List.drop (j * 7 + 1) (fcel cellL L)) = [vi e.he] := fcel_sub hfc7 (x := e) (j := 1) (k := 1) heL (by omega)
 have t2 : List.take 1 (List.drop (j * 7 + 2) (fcel cellL (L.set j e1))) = [vi e.ai] := fcel_sub hfc7 (x := e1) (j := 2) (k := 1) he1 (by omega)
 have x1 : splice (fcel cellL L) (j * 7 + 1) [vi (e.he + h)] = fcel cellL (L.set j e1) := fcel_put hfc7 (vs := [di (e.he + h)]) heL (by simp) rfl
 have x2 : splice (fcel cellL (L.set j e1)) (j * 7 + 2) [vi (e.ai + (a.n - h))] = fcel cellL (L.set j (addC e h (a.n - h))) := by
   have := fcel_put hfc7 (y := addC e h (a.n - h)) (j := 2) (vs := [di (e.ai + (a.n - h))]) he1 (by simp) rfl
   rw [List.set_set] at this; exact this
 have w5 : IntKind.wrap .i64 (e.he + h) = e.he + h := wrap64 (by omega) (by omega)
 have w6 : IntKind.wrap .i64 (e.ai + (a.n - h)) = e.ai + (a.n - h) := wrap64 (by omega) (by omega)
 have hne2 : ¬ (j : Int) = a.c := by rw [<- hj]; exact hto.2
 rw [hj] at d2
 refine Cm.by gok eok mixed 2 func200 c200 rfl (by simp [ntmps200]) (by simp) (HpIds.at (by simp)) (by simp) (by simp [ResIds]) fun E hs hE => ?_
 simp [p200]
 refine ACall.mkR _ _ _ _ _ (d1) (by simp) (by simp) (by simp [n1]) (by simp) (by first | (left; simp; done) | (right; simp [n1, acl_cel]; done)) ?_
 simp [splice, repl, inC, Nat.testBit, hj, w]
 refine CLb (d2) (by simp [bor_i1, inC, Nat.testBit]) ?_
 simp [inC, Nat.testBit, hne2]
 refine CLa (d3) ?_
 simp
 refine pw_drawW [(3, 1), (13, 37748738)] (by kernel_rfl) ?_
 simp [inC, Nat.testBit]
 refine ACall.mkD _ _ _ _ _ (d4) (by simp [inC, Nat.testBit]) (by simp) (by simp [n1]) (by simp) (by first | (left; simp; done) | (right; simp [n1, acl_cel, inC, Nat.testBit]; done)) (by intro r h; first | (cases h; done) | (cases h; simp [wrL])) (by intro r h; cases h; try exact ⟨_, rfl⟩) ?_
 simp [inC, Nat.testBit, hT2, hjl, hLl, hsl, hsl1, s0, t1, t2, x1, x2, w5, w6, splic2]
 refine RetOk.by (lk [(0, 0), (1, 1)]) ?_
 simp [results200]
theorem move_no2 (p : Plt) (cs : List Cel) (a : Act) (hl : cs.length <= 1000000) (hne : cs ≠ []) (hin : inA cs.length a = false) : Cm prog 200 [.lp 0 0, actV a] (lk [(0, plB p (.ls 1 0 cs.length 7)), (1, fcel cellL cs)]) [] (.pan (refu 2)) (lk []) := by
 have d1 := cell_no p cs a hl hin
 have n1 := fcel_ne hne
 refine Cm.by gok eok mixed 2 func200 c200 rfl (by simp [ntmps200]) (by simp) (HpIds.at (by simp)) (by simp) (by simp [ResIds]) fun E hs hE => ?_
 simp [p200]
 refine ACall.mkR _ _ _ _ _ (d1) (by simp) (by simp) (by simp [n1]) (by simp) (by first | (left; simp; done) | (right; simp [n1, acl_cel]; done)) ?_
 refine ⟨fun _ => none, ?_, ?_, ?_, ?_⟩ <;> simp
theorem move_noT (p : Plt) (cs : List Cel) (a : Act) (hl : cs.length <= 1000000) (hin : inA cs.length a = true) (hto : inT cs.length a = false) : Cm prog 200 [.lp 0 0, actV a] (lk [(0, plB p (.ls 1 0 cs.length 7)), (1, fcel cellL cs)]) [] (.pan (refu 2)) (lk []) := by
 have h1 := inA_iff.1 hin
 have d1 := cell_ok p cs a hl hin
 have d2 := fn112 0 ((cs.length : Int) - 1) [a.t] (by simp)
 have d3 := need_no 2
 have hne : cs ≠ [] := fun e => by rw [e] at h1; simp at h1; omega
 have n1 := fcel_ne hne
 have w : IntKind.wrap .i64 ((cs.length : Int) - 1) = (cs.length : Int) - 1 := wrap64 (by omega) (by omega)
 unfold inT at hto
 cases hr : rgB 0 ((cs.length : Int) - 1) [a.t]
 . rw [hr] at d2
   refine Cm.by gok eok mixed 2 func200 c200 rfl (by simp [ntmps200]) (by simp) (HpIds.at (by simp)) (by simp) (by simp [ResIds]) fun E hs hE => ?_
   simp [p200]
   refine ACall.mkR _ _ _ _ _ (d1) (by simp) (by simp) (by simp [n1]) (by simp) (by first | (left; simp; done) | (right; simp [n1, acl_cel]; done)) ?_
   simp [splice, repl, inC, Nat.testBit, w]
   refine CLb (d2) (by simp [bor_i1, inC, Nat.testBit]) ?_
   simp
   refine ACall.mkR _ _ _ _ _ (d3) (by simp) (by simp) (by simp) (by simp) (by first | (left; simp; done) | (right; simp; done)) ?_
   refine ⟨fun _ => none, ?_, ?_, ?_, ?_⟩ <;> simp
 . rw [hr] at d2 hto
   have e : a.t = a.c := by simpa using hto
   refine Cm.by gok eok mixed 2 func200 c200 rfl (by simp [ntmps200]) (by simp) (HpIds.at (by simp)) (by simp) (by simp [ResIds]) fun E hs hE => ?_
   simp [p200]
   refine ACall.mkR _ _ _ _ _ (d1) (by simp) (by simp) (by simp [n1]) (by simp) (by first | (left; simp; done) | (right; simp [n1, acl_cel]; done)) ?_
   simp [splice, repl, inC, Nat.testBit, w]
   refine CLb (d2) (by simp [bor_i1, inC, Nat.testBit]) ?_
   simp [inC, Nat.testBit, e]
   refine ACall.mkR _ _ _ _ _ (d3) (by simp) (by simp) (by simp) (by simp) (by first | (left; simp; done) | (right; simp; done)) ?_
   refine ⟨fun _ => none, ?_, ?_, ?_, ?_⟩ <;> simp
theorem move_no6 (p : Plt) (cs : List Cel) (a : Act) (c : Cel) (hl : cs.length <= 1000000) (hin : inA cs.length a = true) (hto : inT cs.length a = true) (hc : cs[a.c.toNat]? = some c) (hb : CelB c) (hn : c.he + c.ai < a.n) : Cm prog 200 [.lp 0 0, actV a] (lk [(0, plB p (.ls 1 0 cs.length 7)), (1, fcel cellL cs)]) [] (.pan (refu 6)) (lk []) := by
 have h1 := inA_iff.1 hin
 have d1 := cell_ok p cs a hl hin
 have d2 := fn112 0 ((cs.length : Int) - 1) [a.t] (by simp)
 have d3 := need_ok 2
 have d4 := out_no cs a.c.toNat c a.n hc ⟨hb.he, hb.ai⟩ hn
 unfold inT at hto
 simp only [Bool.and_eq_true, Bool.not_eq_true', decide_eq_false_iff_not] at hto
 rw [hto.1] at d2
 have hT : 0 <= a.t /\ a.t < cs.length := by have := hto.1; unfold rgB at this; simp at this; omega
 have hne : cs ≠ [] := fun e => by rw [e] at hc; simp at hc
 have n1 := fcel_ne hne
 have w : IntKind.wrap .i64 ((cs.length : Int) - 1) = (cs.length : Int) - 1 := wrap64 (by omega) (by omega)
 obtain ⟨j, hj⟩ : ∃ j : Nat, a.t = j := ⟨a.t.toNat, by omega⟩
 have hT2 : (j : Int) < cs.length := by omega
 have hjl : j < cs.length := by omega
 have hne2 : ¬ (j : Int) = a.c := by rw [<- hj]; exact hto.2
 rw [hj] at d2
 refine Cm.by gok eok mixed 2 func200 c200 rfl (by simp [ntmps200]) (by simp) (HpIds.at (by simp)) (by simp) (by simp [ResIds]) fun E hs hE => ?_
 simp [p200]
 refine ACall.mkR _ _ _ _ _ (d1) (by simp) (by simp) (by simp [n1]) (by simp) (by first | (left; simp; done) | (right; simp [n1, acl_cel]; done)) ?_
 simp [splice, repl, inC, Nat.testBit, hj, w]
 refine CLb (d2) (by simp [bor_i1, inC, Nat.testBit]) ?_
 simp [inC, Nat.testBit, hne2]
 refine CLa (d3) ?_
 simp
 refine pw_drawW [(3, 1), (13, 37748738)] (by kernel_rfl) ?_
 simp [inC, Nat.testBit]
 refine ACall.mkD _ _ _ _ _ (d4) (by simp [inC, Nat.testBit]) (by simp) (by simp [n1]) (by simp) (by first | (left; simp; done) | (right; simp [n1, acl_cel, inC, Nat.testBit]; done)) (by intro r h; first | (cases h; done) | (cases h; simp [wrL, n1, acl_cel, inC, Nat.testBit])) (by intro r h; cases h; try exact ⟨_, rfl⟩) ?_
 simp [hjl]
 intro st
 refine ⟨fun _ => none, ?_, ?_, ?_, ?_⟩ <;> simp
theorem valve_e (p : Plt) (a : Act) : Cm prog 199 [.lp 0 0, actV a] (lk [(0, plB p (.ls 1 0 0 7))]) [] (.pan (refu 2)) (lk []) := by
 have d1 := cell_e p a
 refine Cm.by gok eok mixed 2 func199 c199 rfl (by simp [ntmps199]) (by simp) (HpIds.at (by simp)) (by simp) (by simp [ResIds]) fun E hs hE => ?_
 simp [p199]
 refine pw_drawW [] (by kernel_rfl) ?_
 simp [inC, Nat.testBit]
 refine ACall.mkD _ _ _ _ _ (d1) (by simp [inC, Nat.testBit]) (by simp) (by simp) (by simp) (by first | (left; simp; done) | (right; simp [inC, Nat.testBit]; done)) (by intro r h; first | (cases h; done) | (cases h; simp [wrL, inC, Nat.testBit])) (by intro r h; cases h; try exact ⟨_, rfl⟩) ?_
 simp
 intro st
 refine ⟨fun _ => none, ?_, ?_, ?_, ?_⟩ <;> simp
theorem move_e (p : Plt) (a : Act) : Cm prog 200 [.lp 0 0, actV a] (lk [(0, plB p (.ls 1 0 0 7))]) [] (.pan (refu 2)) (lk []) := by
 have d1 := cell_e p a
 refine Cm.by gok eok mixed 2 func200 c200 rfl (by simp [ntmps200]) (by simp) (HpIds.at (by simp)) (by simp) (by simp [ResIds]) fun E hs hE => ?_
 simp [p200]
 refine ACall.mkR _ _ _ _ _ (d1) (by simp) (by simp) (by simp) (by simp) (by first | (left; simp; done) | (right; simp; done)) ?_
 refine ⟨fun _ => none, ?_, ?_, ?_, ?_⟩ <;> simp
def tkS (c : Cel) : Int := c.ow + (c.he + c.ai) * c.lk
def tkN (c : Cel) : Int := tkS c / 1000000
def tkC (c : Cel) : Cel := { outC c (tkN c) with ow := tkS c % 1000000 }
def tkL (cs : List Cel) (i : Nat) : List Cel := (cs.take i).map tkC ++ cs.drop i
def tkH (cs : List Cel) (i : Nat) : Int := ((cs.take i).map fun c => outH c (tkN c)).sum
def tkA (cs : List Cel) (i : Nat) : Int := ((cs.take i).map fun c => tkN c - outH c (tkN c)).sum
theorem tkL_zero (cs : List Cel) : tkL cs 0 = cs := by simp [tkL]
theorem tkL_all (cs : List Cel) : tkL cs cs.length = cs.map tkC := by simp [tkL]
theorem tkL_len (cs : List Cel) (i : Nat) : (tkL cs i).length = cs.length := by simp [tkL]; omega
theorem tkL_at {cs : List Cel} {i : Nat} {c : Cel} (h : cs[i]? = some c) : (tkL cs i)[i]? = some c := by
 have hi := (List.getElem?_eq_some_iff.1 h).1
 unfold tkL
 rw [List.getElem?_append_right (by simp; omega)]
 simp [Nat.min_eq_left (Nat.le_of_lt hi), h]
theorem tkL_next {cs : List Cel} {i : Nat} {c : Cel} (h : cs[i]? = some c) : tkL cs (i + 1) = (tkL cs i).set i (tkC c) := by
 have hi := (List.getElem?_eq_some_iff.1 h).1
 have hc : cs[i] = c := (List.getElem?_eq_some_iff.1 h).2
 unfold tkL
 rw [List.take_add_one, h, List.set_append_right _ _ (by simp; omega)]
 simp [Nat.min_eq_left (Nat.le_of_lt hi)]
 rw [List.drop_eq_getElem_cons hi]
 rfl
theorem tkH_next {cs : List Cel} {i : Nat} {c : Cel} (h : cs[i]? = some c) : tkH cs (i + 1) = tkH cs i + outH c (tkN c) := by
 unfold tkH; rw [List.take_add_one, h]; simp
theorem tkA_next {cs : List Cel} {i : Nat} {c : Cel} (h : cs[i]? = some c) : tkA cs (i + 1) = tkA cs i + (tkN c - outH c (tkN c)) := by
 unfold tkA; rw [List.take_add_one, h]; simp
theorem tk_bd {c : Cel} (hb : CelB c) : (0 <= (c.he + c.ai) * c.lk /\ (c.he + c.ai) * c.lk <= 2000000000000) /\ (0 <= tkS c /\ tkS c <= 2000001000000) /\ 0 <= tkN c /\ tkN c <= c.he + c.ai := by
 have q1 := hb.he; have q2 := hb.ai; have q3 := hb.lk; have q4 := hb.ow
 have m1 : 0 <= (c.he + c.ai) * c.lk := Int.mul_nonneg (by omega) (by omega)
 have m2 : (c.he + c.ai) * c.lk <= (c.he + c.ai) * 100000 := Int.mul_le_mul_of_nonneg_left (by omega) (by omega)
 unfold tkN tkS
 omega
theorem tk_out {c : Cel} (hb : CelB c) : (0 <= outH c (tkN c) /\ outH c (tkN c) <= c.he) /\ outH c (tkN c) <= tkN c /\ tkN c - outH c (tkN c) <= c.ai := by
 have h := tk_bd hb
 have := outH_bd hb.he.1 hb.ai.1 h.2.2.1 h.2.2.2
 omega
theorem tkH_bd : ∀ {cs : List Cel}, (∀ c ∈ cs, CelB c) -> ∀ i : Nat, i <= cs.length -> (0 <= tkH cs i /\ tkH cs i <= i * 10000000) /\ 0 <= tkA cs i /\ tkA cs i <= i * 10000000
 | cs, h, 0, _ => by simp [tkH, tkA]
 | cs, h, i + 1, hi => by
   obtain ⟨c, hc⟩ : ∃ c, cs[i]? = some c := ⟨_, List.getElem?_eq_getElem (by omega)⟩
   have hb := h c (List.mem_of_getElem? hc)
   have ih := tkH_bd h i (by omega)
   have := tk_out hb; have q1 := hb.he; have q2 := hb.ai
   rw [tkH_next hc, tkA_next hc]
   omega
def tkP (p : Plt) (cs : List Cel) (i : Nat) : Plt := { p with lh := p.lh + tkH cs i, la := p.la + tkA cs i }
theorem tick_ok (p : Plt) (cs : List Cel) (a : Act) (hl : cs.length <= 12) (hne : cs ≠ []) (ha : a.n = 1) (hb : ∀ c ∈ cs, CelB c) (hv : bk12 p.lh) (hw : bk12 p.la) :
   Cm prog 203 [.lp 0 0, actV a] (lk [(0, plB p (.ls 1 0 cs.length 7)), (1, fcel cellL cs)]) [0, 1] (.ret (.tup [])) (lk [(0, plB (tkP p cs cs.length) (.ls 1 0 cs.length 7)), (1, fcel cellL (cs.map tkC))]) := by
 have d1 := fn112 1 1000 [1] (by simp)
 have d2 := need_ok 2
 rw [show rgB 1 1000 [1] = true from by decide] at d1
 have n1 := fcel_ne hne
 have z1 : IntKind.wrap .i64 1 = 1 := by decide
 refine Cm.by gok eok mixed 2 func203 c203 rfl (by simp [ntmps203]) (by simp) (HpIds.at (by simp)) (by simp) (by simp [ResIds]) fun E hs hE => ?_
 simp [p203, splice, repl, ha]
 repeat ((first | (refine CLr (d1) ?_ ?_ ?_; (focus (simp [bor_i1]; done)); (focus (first | (left; simp; done) | (right; simp; done)))) | (refine CLr (d2) ?_ ?_ ?_; (focus (simp; done)); (focus (first | (left; simp; done) | (right; simp; done))))); simp)
 refine pw_loop (α := Nat) (fun k => ⟨slots [(0, .lp 0 0), (13, vi 1), (14, vi k)], lk [(0, plB (tkP p cs (if k = 0 then 0 else cs.length)) (.ls 1 0 cs.length 7)), (1, fcel cellL (tkL cs (if k = 0 then 0 else cs.length)))], 2⟩) (fun k => k <= 1) (fun k => 1 - k) 0 ?_ ?_ ?_
 . omega
 . simp only [if_true, tkL_zero]
   refine Weak.mkM hs (lk [(0, 0), (1, 1)]) _ _ _ ?_ ?_ ?_ ?_ ?_ ?_ <;> simp [tkP, tkH, tkA]
 . intro k hk
   match k, hk with
   | 1, _ =>
     simp [p203l1, tkL_all]
     refine RetOk.by (lk [(0, 0), (1, 1)]) ?_
     simp [results203]
   | n + 2, h => omega
   | 0, _ =>
     simp [p203l1]
     refine pw_loop (α := Nat) (fun i => ⟨slots [(0, .lp 0 0), (13, vi 1), (14, vi 0), (21, vi cs.length), (22, vi i)], lk [(0, plB (tkP p cs i) (.ls 1 0 cs.length 7)), (1, fcel cellL (tkL cs i))], 2⟩) (fun i => i <= cs.length) (fun i => cs.length - i) 0 ?_ ?_ ?_
     . omega
     . refine Weak.mkM hs (lk [(0, 0), (1, 1)]) _ _ _ ?_ ?_ ?_ ?_ ?_ ?_ <;> simp
     . intro i hi
       by_cases h : i < cs.length
       . obtain ⟨c, hc⟩ : ∃ c, cs[i]? = some c := ⟨_, List.getElem?_eq_getElem h⟩
         have hcb := hb c (List.mem_of_getElem? hc)
         have hI : (i : Int) < cs.length := by omega
         have hz : IntKind.wrap .i64 ((i : Int) + 1) = ((i + 1 : Nat) : Int) := by rw [wrap64 (by omega) (by omega)]; omega
         have b1 := tk_bd hcb; have b2 := tk_out hcb; have b3 := tkH_bd hb i hi
         have q1 := hcb.he; have q2 := hcb.ai; have q3 := hcb.lk; have q4 := hcb.ow
         have hLc := tkL_at hc
         have hLn := tkL_next hc
         have hLl := tkL_len cs i
         have hHn := tkH_next hc
         have hAn := tkA_next hc
         generalize tkL cs i = L at *
         have w1 : IntKind.wrap .i64 (c.he + c.ai) = c.he + c.ai := wrap64 (by omega) (by omega)
         have w2 : IntKind.wrap .i64 ((c.he + c.ai) * c.lk) = (c.he + c.ai) * c.lk := wrap64 (by omega) (by omega)
         have w3 : IntKind.wrap .i64 (c.ow + (c.he + c.ai) * c.lk) = tkS c := wrap64 (by unfold tkS at b1; omega) (by unfold tkS at b1; omega)
         have hd : (tkS c).tdiv 1000000 = tkN c := Int.tdiv_eq_ediv_of_nonneg (by omega)
         have w4 : IntKind.wrap .i64 (tkN c) = tkN c := wrap64 (by omega) (by omega)
         let c1 : Cel := { c with ow := tkS c }
         have hc1 : (L.set i c1)[i]? = some c1 := by simp [hLl, h]
         have hsl := fcel_len hfc7 L
         have hsl1 := fcel_len hfc7 (L.set i c1)
         have s0 : (i * 7 + 1 + 1 <= cs.length * 7 /\ i * 7 + 2 + 1 <= cs.length * 7) /\ i * 7 + 5 + 1 <= cs.length * 7 /\ i * 7 + 6 + 1 <= cs.length * 7 := by omega
         have t1 : List.take 1 (List.drop (i * 7 + 1) (fcel cellL L)) = [vi c.he] := fcel_sub hfc7 (x := c) (j := 1) (k := 1) hLc (by omega)
         have t2 : List.take 1 (List.drop (i * 7 + 2) (fcel cellL L)) = [vi c.ai] := fcel_sub hfc7 (x := c) (j := 2) (k := 1) hLc (by omega)
         have t5 : List.take 1 (List.drop (i * 7 + 5) (fcel cellL L)) = [vi c.lk] := fcel_sub hfc7 (x := c) (j := 5) (k := 1) hLc (by omega)
         have t6 : List.take 1 (List.drop (i * 7 + 6) (fcel cellL L)) = [vi c.ow] := fcel_sub hfc7 (x := c) (j := 6) (k := 1) hLc (by omega)
         have x1 : splice (fcel cellL L) (i * 7 + 6) [vi (tkS c)] = fcel cellL (L.set i c1) := fcel_put hfc7 (vs := [di (tkS c)]) hLc (by simp) rfl
         have t7 : List.take 1 (List.drop (i * 7 + 6) (fcel cellL (L.set i c1))) = [vi (tkS c)] := fcel_sub hfc7 (x := c1) (j := 6) (k := 1) hc1 (by omega)
         simp [p203l0, hI, inC, Nat.testBit, hLl, hsl, hsl1, s0, t1, t2, t5, t6, t7, x1, w1, w2, w3, w4, hd]
         by_cases hp : 0 < tkN c
         . have d3 := out_ok (L.set i c1) i c1 (tkN c) hc1 ⟨hcb.he, hcb.ai⟩ ⟨by omega, b1.2.2.2⟩
           have d4 := fn115r (p.lh + tkH cs i) (p.la + tkA cs i) (outH c (tkN c)) (tkN c - outH c (tkN c)) ⟨by omega, by omega, by omega, by omega⟩
           rw [List.set_set] at d3
           obtain ⟨L2, hL2⟩ : ∃ L2, L.set i (outC c1 (tkN c)) = L2 := ⟨_, rfl⟩
           rw [hL2, show outH c1 (tkN c) = outH c (tkN c) from rfl] at d3
           have hL2l : L2.length = cs.length := by rw [<- hL2]; simp [hLl]
           have hL2c : L2[i]? = some (outC c1 (tkN c)) := by rw [<- hL2]; simp [hLl, h]
           have hsl2 := fcel_len hfc7 L2
           have t8 : List.take 1 (List.drop (i * 7 + 6) (fcel cellL L2)) = [vi (tkS c)] := fcel_sub hfc7 (x := outC c1 (tkN c)) (j := 6) (k := 1) hL2c (by omega)
           have x2 : splice (fcel cellL L2) (i * 7 + 6) [vi (tkS c % 1000000)] = fcel cellL (L.set i (tkC c)) := by
             have := fcel_put hfc7 (y := tkC c) (j := 6) (vs := [di (tkS c % 1000000)]) hL2c (by simp) rfl
             rw [<- hL2, List.set_set, hL2] at this; exact this
           have hm : (tkS c).tmod 1000000 = tkS c % 1000000 := Int.tmod_eq_emod_of_nonneg (by omega)
           have w5 : IntKind.wrap .i64 (tkS c % 1000000) = tkS c % 1000000 := wrap64 (by omega) (by omega)
           have n2 : fcel cellL (L.set i c1) ≠ [] := fcel_ne (fun e => by have := congrArg List.length e; rw [List.length_set, hLl, List.length_nil] at this; omega)
           simp [hp]
           refine pw_drawW [(8, 1)] (by kernel_rfl) ?_
           simp [inC, Nat.testBit, tkP]
           refine ACall.mkD _ _ _ _ _ (d3) (by simp [inC, Nat.testBit]) (by simp) (by simp [n2]) (by simp) (by first | (left; simp; done) | (right; simp [n2, acl_cel, inC, Nat.testBit]; done)) (by intro r h; first | (cases h; done) | (cases h; simp [wrL])) (by intro r h; cases h; try exact ⟨_, rfl⟩) ?_
           simp
           refine CLa (d4) ?_
           simp [hL2l, hsl2, s0, t8, x2, hm, hz]
           refine ⟨i + 1, by omega, by omega, ?_⟩
           rw [hLn, hHn, hAn]
           refine Weak.mkM hs (lk [(0, 0), (1, 1)]) _ _ _ ?_ ?_ ?_ ?_ ?_ ?_ <;> simp [splice, Int.add_assoc]
         . have hN : tkN c = 0 := by omega
           have hS : tkS c % 1000000 = tkS c := by unfold tkN at hN; omega
           have hO : outH c 0 = 0 := by unfold outH; simp
           have e : tkC c = c1 := by
             unfold tkC outC
             rw [hN, hS, hO]
             simp [c1]
           simp [hp, hz, tkP]
           refine ⟨i + 1, by omega, by omega, ?_⟩
           rw [hLn, hHn, hAn, e, hN, hO]
           refine Weak.mkM hs (lk [(0, 0), (1, 1)]) _ _ _ ?_ ?_ ?_ ?_ ?_ ?_ <;> simp
       . have ei : i = cs.length := by omega
         have hI : ¬ (i : Int) < cs.length := by omega
         subst ei
         simp [p203l0, z1]
         refine ⟨1, by omega, by omega, ?_⟩
         refine Weak.mkM hs (lk [(0, 0), (1, 1)]) _ _ _ ?_ ?_ ?_ ?_ ?_ ?_ <;> simp
theorem clone_c (l : List Cel) (hl : l.length <= 1000000) : Ct prog 127 [.d (cellsD l)] (.ls 0 0 l.length 7) [(0, fcel cellL l)] := by
 cases l with
 | nil =>
   refine CB func127 c127 (by simp [ntmps127]) fun E hE => ?_
   simp [p127]
   refine ⟨?_, ?_⟩
   . refine RetOk.by (fun _ => none) ?_
     simp [results127, fcel]
   . simp [repl, frPut, Hp.app]
     refine RetOk.by (lk [(0, 5242880)]) ?_
     simp [results127, fcel]
 | cons a r =>
   refine CB func127 c127 (by simp [ntmps127]) fun E hE => ?_
   have hmx : (r.length + 1) * 56 <= 140737488355328 /\ r.length + 1 <= 9223372036854775807 := by simp at hl; omega
   have e : cellsD (a :: r) = .sl 7 (cellL a :: r.map cellL) := rfl
   have ef : (r.map (List.map V.d ∘ cellL)).flatten = fcel cellL r := by simp [fcel, List.map_flatten]
   have hcl : (∀ x ∈ fcel cellL r, x.isCell = true) = True := eq_true fcel_cell
   simp [p127, e, ef, hcl, repl, hmx]
   refine RetOk.by (lk [(0, 5242880)]) ?_
   simp [results127, fcel_cons, hcl]
end Go.Proofs.Tryz
namespace Go.Psl
noncomputable def bodyR : Option Code -> Code | some (.seq _ r) => r | _ => .skip
noncomputable def bodyI : Option Code -> Nat | some (.seq (.region i _ _) _) => i | _ => 0
noncomputable def bodyO (k : Nat) : Option Code -> Oper | some (.seq (.region _ o _) _) => (o[k]?).getD ⟨none, .move (.tmp 0), 0, "", #[], none⟩ | _ => ⟨none, .move (.tmp 0), 0, "", #[], none⟩
theorem dd_assert {P : Program} {Γ : Tys} {eqs : Eqs} {ws : List (Nat × Nat)} {cl : List Nat} {n0 k b : Nat} {Z : V -> Prop} {K : (Nat -> V) -> Hp -> Nat -> Prop} {r : List PO} {f : Nat -> V} {H : Hp} {dst : Option Nat} {s t : TypeId} {x : Operand} : dd P Γ eqs ws cl n0 Z K k b (⟨dst, .typeAssert x s t false, none⟩ :: r) f H = goD ws k dst b (dd P Γ eqs ws cl n0 Z K (k + 1) (b + 1048576) r) f H (assF Γ t (evF f x)) := dd_op rfl
end Go.Psl
namespace Go.Proofs.Tryz
open Go.Psl
open Go.Air
set_option maxRecDepth 20000
set_option maxHeartbeats 8000000
noncomputable def o196a : Oper := (⟨_, by conv => lhs; reduce⟩ : Rd (bodyO 0 f196.body)).1
noncomputable def o196b : Oper := (⟨_, by conv => lhs; reduce⟩ : Rd (bodyO 1 f196.body)).1
noncomputable def p196r : PC := (⟨_, by conv => lhs; reduce⟩ : Rd (match comp f196.ntmps (bodyR f196.body) with | some p => p | none => .skip)).1
theorem b196 : f196.body = some (.seq (.region (bodyI f196.body) #[o196a, o196b] false) (bodyR f196.body)) := by kernel_rfl
theorem c196r : comp f196.ntmps (bodyR f196.body) = some p196r := by kernel_rfl
theorem o196x : ∀ ρ W, (execOp ρ o196a).run prog W = .ok .recover W := fun _ _ => by kernel_rfl
theorem o196y : ∀ ρ W, (execOp ρ o196b).run prog W = .ok (.value (ρ (.tmp 3))) W := fun _ _ => by kernel_rfl
theorem do1_none : CmD prog 196 [.lp 2097152 0, .lp 3145728 0] (lk []) [] none (lk []) := by
 refine CmD.by gok eok mixed 4194304 func196 b196 rfl rfl rfl rfl rfl o196x o196y (by simp [ntmps196]) (by simp [ntmps196]) c196r (by simp [ntmps196]) (by simp) (by simp [recV]) (HpIds.at (by simp)) (by simp) (by simp [ResIds]) fun E hs => ?_
 simp [p196r, recV]
 refine RetOk.by (fun _ => none) ?_
 simp [results196]
abbrev plZ : List V := [.d (.lit (.slice none 0 0)), vi 0, vi 0, vi 0, vi 0, vi 0, vi 0, vi 0, vi 0, vi 0]
theorem do1_some (e : Int) : CmD prog 196 [.lp 2097152 0, .lp 3145728 0] (lk [(2097152, plZ), (3145728, [vi 0])]) [2097152, 3145728] (some (refu e)) (lk [(2097152, plZ), (3145728, [vi e])]) := by
 refine CmD.by gok eok mixed 4194304 func196 b196 rfl rfl rfl rfl rfl o196x o196y (by simp [ntmps196]) (by simp [ntmps196]) c196r (by simp [ntmps196]) (by simp) (by simp [recV]) (HpIds.at (by simp)) (by simp) (by simp [ResIds]) fun E hs => ?_
 simp [p196r, recV]
 refine pw_drawW [(4, 2097152)] (by kernel_rfl) ?_
 simp [splice, inC, Nat.testBit, dd_assert]
 refine RetOk.by (lk [(2097152, 2097152), (3145728, 3145728)]) ?_
 simp [results196]
end Go.Proofs.Tryz
namespace Go.Psl
variable {P : Program} {Γ : Tys} {E : Ent} {fn : Func} {r : V} {H1 : List (Nat × List V)} {pb : PC} {st : St}
theorem dwQ_normal : dwQ P Γ E fn r H1 pb .normal st = DW P E fn r H1 pb st := nrfl rfl
theorem retD_ret {g : FuncId} {ids : List (Nat × Nat)} : retD P Γ fn r H1 g ids .ret st = DCall P g ids none (RetM Γ fn [] r H1) st := nrfl rfl
theorem retD_pan {g : FuncId} {ids : List (Nat × Nat)} {D : D} : retD P Γ fn r H1 g ids (.pan (.d D)) st = DCall P g ids (some (.d D)) (RetM Γ fn [] r H1) st := nrfl (by simp [retD])
theorem DW.defer2 {eqs : Eqs} (hΓ : GOk P Γ) (hE : EqOk P eqs) (hm : P.follows .mixedOrders = true) {t : Nat} {g : FuncId} {caps : Array Operand} {cl : Call} {f : Nat -> V} {H : Hp} {n : Nat} (n' : Nat) (ids : List (Nat × Nat)) (vs : List V) (hcal : cl.callee = .value (.tmp t)) (hcl : cl.args = #[]) (hvs : (ids.map fun p => .lp p.1 p.2) = vs) (hn : n + 2097152 = n')
   (hcaps : capL f caps.toList = vs) (hst : ∀ i, ¬ E.stab i)
   (h : ∀ E' : Ent, PW P Γ eqs E' pb (retD P Γ fn r H1 g ids) ⟨frPut f (some t) (.cl g vs), H, n'⟩) :
   DW P E fn r H1 (.seq (.reg [⟨some t, .makeFunc (.func g) #[] caps, none⟩, ⟨none, .defer cl, none⟩]) pb) ⟨f, H, n⟩ := by
 subst hn hvs
 exact DW.defer hΓ hE hm ids hcal hcl hcaps hst fun E' _ _ _ => h E'
theorem DCall.mk {H : Hp} {b : Nat} {f : Nat -> V} {g : FuncId} {ids : List (Nat × Nat)} {m : Option V} {K : St -> Prop} (L : List (Nat × List V)) (ks : List Nat) (L1 : List (Nat × List V)) (hf : CmD P g (ids.map fun p => .lp p.1 p.2) (lk L) ks m (lk L1)) (hlive : ∀ p ∈ ids, (H p.1).isSome = true) (hin : HinOk H L) (hi : ∀ p ∈ L1, p.1 ∈ ks \/ p.1 < 1048576) (hks : ksOk b L L1 ks) (hL : ∀ p ∈ L, p.1 < b)
   (hk : K ⟨f, addM (delL H L) ks b L1, b⟩) : DCall P g ids m K ⟨f, H, b⟩ := by
 have hL' : ∀ i, InH (lk L) i -> i < b := fun i h => by
   obtain ⟨x, hx⟩ := Option.isSome_iff_exists.1 h
   exact hL _ (lk_mem' hx)
 refine ⟨hlive, _, lk L, ks, lk L1, hf, ⟨hin.at, fun i h hn => hiOk_at hi h hn, fun i h => (hks.at i h).2.2, .inl ?_⟩, ?_⟩
 . exact All2.of_get rfl fun i x y hx hy => by
     rw [hx] at hy; cases hy
     rw [List.getElem?_map] at hx
     obtain ⟨p, _, rfl⟩ := Option.map_eq_some_iff.1 hx
     exact ⟨rfl, rfl⟩
 . show K ⟨f, heapM H b (lk L) ks (lk L1), b⟩
   rw [heapM_list H ks b L L1 hks hL']
   exact hk
end Go.Psl
namespace Go.Proofs.Tryz
open Go.Psl
open Go.Air
set_option maxRecDepth 20000
set_option maxHeartbeats 8000000
def sgD (i : Nat) : Nat := if i = 0 then 23068672 else 28311552
theorem sgD_inj : ∀ i j, i < 2 -> j < 2 -> sgD i = sgD j -> i = j := by
 intro i j hi hj h
 unfold sgD at h
 split at h <;> split at h <;> first | omega | exact absurd h (by omega)
theorem fcel_ren (ρ : Nat -> Nat) (l : List Cel) : (fcel cellL l).map (renC ρ) = fcel cellL l := by
 simp [fcel, List.map_flatten, Function.comp_def]
theorem mren {f : FuncId} {p : Plt} {a : Act} {cs : List Cel} {e : Int} (h : Cm prog f [.lp 0 0, actV a] (lk [(0, plB p (.ls 1 0 cs.length 7)), (1, fcel cellL cs)]) [] (.pan (refu e)) (lk [])) : Cm prog f [.lp 23068672 0, actV a] (lk [(23068672, plB p (.ls 28311552 0 cs.length 7)), (28311552, fcel cellL cs)]) [] (.pan (refu e)) (lk []) := by
 have := Cm.rename sgD 2 sgD_inj h (by simp [idsLt]) (by simp [idsLt]) (by simp)
 simpa [renL, renR, sgD, fcel_ren] using this
theorem mrenR {f : FuncId} {p q : Plt} {a : Act} {cs ds : List Cel} (h : Cm prog f [.lp 0 0, actV a] (lk [(0, plB p (.ls 1 0 cs.length 7)), (1, fcel cellL cs)]) [0, 1] (.ret (.tup [])) (lk [(0, plB q (.ls 1 0 cs.length 7)), (1, fcel cellL ds)])) : Cm prog f [.lp 23068672 0, actV a] (lk [(23068672, plB p (.ls 28311552 0 cs.length 7)), (28311552, fcel cellL cs)]) [23068672, 28311552] (.ret (.tup [])) (lk [(23068672, plB q (.ls 28311552 0 cs.length 7)), (28311552, fcel cellL ds)]) := by
 have := Cm.rename sgD 2 sgD_inj h (by simp [idsLt]) (by simp [idsLt]) (by simp)
 simpa [renL, renR, sgD, fcel_ren] using this
theorem do_pan_3 (p : Plt) (a : Act) (e : Int) (hl : p.cs.length <= 1000000) (h : okPlt p = true) (hk : a.k = 3) (hne : p.cs ≠ []) (d0 : Cm prog 199 [.lp 0 0, actV a] (lk [(0, plB p (.ls 1 0 p.cs.length 7)), (1, fcel cellL p.cs)]) [] (.pan (refu e)) (lk [])) : Ct prog 128 [pltV p (.d (cellsD p.cs)), actV a] (.tup [.agg plZ, vi e]) [] := by
 have d5 := mren d0
 have n2 := trivial
 have d1 := fn53 p (by omega)
 have d2 := fn112 1 7 [3] (by simp)
 have d3 := need_ok 2
 have d4 := clone_c p.cs hl
 have n1 := fcel_ne hne
 have w3 : IntKind.wrap .i64 3 = 3 := by decide
 rw [h] at d1
 rw [show rgB 1 7 [3] = true from by decide] at d2
 refine Ct.byD gok func128 c128 rfl (by simp [ntmps128]) (by simp) (by simp [ResIds]) fun E hE hN => ?_
 unfold p128
 simp only []
 refine DW.seq gok eok mixed ?_
 simp [dwQ_normal]
 refine DW.seq gok eok mixed ?_
 simp
 refine CLa (d1) ?_
 simp [dwQ_normal]
 refine DW.defer2 gok eok mixed 11534336 [(2097152, 0), (3145728, 0)] [.lp 2097152 0, .lp 3145728 0] rfl rfl rfl (by simp) (by simp) hE fun E' => ?_
 simp [splice, repl, hk, w3]
 refine CLb (d2) (by simp [bor_i1]) ?_
 simp
 refine CLa (d3) ?_
 simp [splice]
 refine CLa (d4) ?_
 simp [splice]
 refine ACall.mkR _ _ _ _ _ (d5) (by simp) (by simp) (by simp) (by simp) (by first | (left; simp [hk]; done) | (right; simp [n1, n2, acl_cel, hk]; done)) ?_
 simp [retD_pan]
 refine DCall.mk _ _ _ (do1_some e) (by simp) (by simp) (by simp) (by simp) (by simp) ?_
 simp
 refine RetOk.by (fun _ => none) ?_
 simp [results128]
theorem do_ret_3 (p q : Plt) (a : Act) (hl : p.cs.length <= 1000000) (h : okPlt p = true) (hk : a.k = 3) (hne : p.cs ≠ []) (hq : q.cs.length = p.cs.length) (ho : okPlt q = true) (d0 : Cm prog 199 [.lp 0 0, actV a] (lk [(0, plB p (.ls 1 0 p.cs.length 7)), (1, fcel cellL p.cs)]) [0, 1] (.ret (.tup [])) (lk [(0, plB q (.ls 1 0 p.cs.length 7)), (1, fcel cellL q.cs)])) : Ct prog 128 [pltV p (.d (cellsD p.cs)), actV a] (.tup [pltV q (.ls 0 0 p.cs.length 7), vi 0]) [(0, fcel cellL q.cs)] := by
 have d5 := mrenR d0
 have n2 : fcel cellL q.cs ≠ [] := fcel_ne fun e => by rw [e] at hq; exact hne (List.eq_nil_of_length_eq_zero hq.symm)
 have d6 := fn53 q (by omega)
 have d7 := need_ok 9
 have d8 : List.take (p.cs.length * 7) (fcel cellL q.cs) = (List.map (List.map V.d ∘ cellL) q.cs).flatten := by
   rw [<- hq, List.take_of_length_le (by rw [fcel_len hfc7]; omega)]; simp [fcel, List.map_flatten]
 rw [ho] at d6
 have d1 := fn53 p (by omega)
 have d2 := fn112 1 7 [3] (by simp)
 have d3 := need_ok 2
 have d4 := clone_c p.cs hl
 have n1 := fcel_ne hne
 have w3 : IntKind.wrap .i64 3 = 3 := by decide
 rw [h] at d1
 rw [show rgB 1 7 [3] = true from by decide] at d2
 refine Ct.byD gok func128 c128 rfl (by simp [ntmps128]) (by simp) (by simp [ResIds]) fun E hE hN => ?_
 unfold p128
 simp only []
 refine DW.seq gok eok mixed ?_
 simp [dwQ_normal]
 refine DW.seq gok eok mixed ?_
 simp
 refine CLa (d1) ?_
 simp [dwQ_normal]
 refine DW.defer2 gok eok mixed 11534336 [(2097152, 0), (3145728, 0)] [.lp 2097152 0, .lp 3145728 0] rfl rfl rfl (by simp) (by simp) hE fun E' => ?_
 simp [splice, repl, hk, w3]
 refine CLb (d2) (by simp [bor_i1]) ?_
 simp
 refine CLa (d3) ?_
 simp [splice]
 refine CLa (d4) ?_
 simp [splice]
 refine ACall.mkR _ _ _ _ _ (d5) (by simp) (by simp) (by simp [n1]) (by simp) (by first | (left; simp [hk]; done) | (right; simp [n1, n2, acl_cel, hk]; done)) ?_
 simp
 refine CLb (d6) (by first | (simp; done) | simp [Bor1_ls, d8, hq]) ?_
 simp
 refine CLa (d7) ?_
 simp [splice, retD_ret]
 refine DCall.mk _ _ _ do1_none (by simp) (by simp) (by simp) (by simp) (by simp) ?_
 simp
 refine RetOk.by (lk [(0, 28311552)]) ?_
 simp [results128]
theorem do_full_3 (p q : Plt) (a : Act) (hl : p.cs.length <= 1000000) (h : okPlt p = true) (hk : a.k = 3) (hne : p.cs ≠ []) (hq : q.cs.length = p.cs.length) (ho : okPlt q = false) (d0 : Cm prog 199 [.lp 0 0, actV a] (lk [(0, plB p (.ls 1 0 p.cs.length 7)), (1, fcel cellL p.cs)]) [0, 1] (.ret (.tup [])) (lk [(0, plB q (.ls 1 0 p.cs.length 7)), (1, fcel cellL q.cs)])) : Ct prog 128 [pltV p (.d (cellsD p.cs)), actV a] (.tup [.agg plZ, vi 9]) [] := by
 have d5 := mrenR d0
 have n2 : fcel cellL q.cs ≠ [] := fcel_ne fun e => by rw [e] at hq; exact hne (List.eq_nil_of_length_eq_zero hq.symm)
 have d6 := fn53 q (by omega)
 have d7 := need_no 9
 have d8 : List.take (p.cs.length * 7) (fcel cellL q.cs) = (List.map (List.map V.d ∘ cellL) q.cs).flatten := by
   rw [<- hq, List.take_of_length_le (by rw [fcel_len hfc7]; omega)]; simp [fcel, List.map_flatten]
 rw [ho] at d6
 have d1 := fn53 p (by omega)
 have d2 := fn112 1 7 [3] (by simp)
 have d3 := need_ok 2
 have d4 := clone_c p.cs hl
 have n1 := fcel_ne hne
 have w3 : IntKind.wrap .i64 3 = 3 := by decide
 rw [h] at d1
 rw [show rgB 1 7 [3] = true from by decide] at d2
 refine Ct.byD gok func128 c128 rfl (by simp [ntmps128]) (by simp) (by simp [ResIds]) fun E hE hN => ?_
 unfold p128
 simp only []
 refine DW.seq gok eok mixed ?_
 simp [dwQ_normal]
 refine DW.seq gok eok mixed ?_
 simp
 refine CLa (d1) ?_
 simp [dwQ_normal]
 refine DW.defer2 gok eok mixed 11534336 [(2097152, 0), (3145728, 0)] [.lp 2097152 0, .lp 3145728 0] rfl rfl rfl (by simp) (by simp) hE fun E' => ?_
 simp [splice, repl, hk, w3]
 refine CLb (d2) (by simp [bor_i1]) ?_
 simp
 refine CLa (d3) ?_
 simp [splice]
 refine CLa (d4) ?_
 simp [splice]
 refine ACall.mkR _ _ _ _ _ (d5) (by simp) (by simp) (by simp [n1]) (by simp) (by first | (left; simp [hk]; done) | (right; simp [n1, n2, acl_cel, hk]; done)) ?_
 simp
 refine CLb (d6) (by first | (simp; done) | simp [Bor1_ls, d8, hq]) ?_
 simp
 refine ACall.mkR _ _ _ _ _ (d7) (by simp) (by simp) (by simp) (by simp) (by first | (left; simp; done) | (right; simp; done)) ?_
 simp [retD_pan]
 refine DCall.mk _ _ _ (do1_some 9) (by simp) (by simp) (by simp) (by simp) (by simp) ?_
 simp
 refine RetOk.by (fun _ => none) ?_
 simp [results128]
theorem do_pan_4 (p : Plt) (a : Act) (e : Int) (hl : p.cs.length <= 1000000) (h : okPlt p = true) (hk : a.k = 4) (hne : p.cs ≠ []) (d0 : Cm prog 200 [.lp 0 0, actV a] (lk [(0, plB p (.ls 1 0 p.cs.length 7)), (1, fcel cellL p.cs)]) [] (.pan (refu e)) (lk [])) : Ct prog 128 [pltV p (.d (cellsD p.cs)), actV a] (.tup [.agg plZ, vi e]) [] := by
 have d5 := mren d0
 have n2 := trivial
 have d1 := fn53 p (by omega)
 have d2 := fn112 1 7 [4] (by simp)
 have d3 := need_ok 2
 have d4 := clone_c p.cs hl
 have n1 := fcel_ne hne
 have w3 : IntKind.wrap .i64 4 = 4 := by decide
 rw [h] at d1
 rw [show rgB 1 7 [4] = true from by decide] at d2
 refine Ct.byD gok func128 c128 rfl (by simp [ntmps128]) (by simp) (by simp [ResIds]) fun E hE hN => ?_
 unfold p128
 simp only []
 refine DW.seq gok eok mixed ?_
 simp [dwQ_normal]
 refine DW.seq gok eok mixed ?_
 simp
 refine CLa (d1) ?_
 simp [dwQ_normal]
 refine DW.defer2 gok eok mixed 11534336 [(2097152, 0), (3145728, 0)] [.lp 2097152 0, .lp 3145728 0] rfl rfl rfl (by simp) (by simp) hE fun E' => ?_
 simp [splice, repl, hk, w3]
 refine CLb (d2) (by simp [bor_i1]) ?_
 simp
 refine CLa (d3) ?_
 simp [splice]
 refine CLa (d4) ?_
 simp [splice]
 refine ACall.mkR _ _ _ _ _ (d5) (by simp) (by simp) (by simp) (by simp) (by first | (left; simp [hk]; done) | (right; simp [n1, n2, acl_cel, hk]; done)) ?_
 simp [retD_pan]
 refine DCall.mk _ _ _ (do1_some e) (by simp) (by simp) (by simp) (by simp) (by simp) ?_
 simp
 refine RetOk.by (fun _ => none) ?_
 simp [results128]
theorem do_ret_4 (p q : Plt) (a : Act) (hl : p.cs.length <= 1000000) (h : okPlt p = true) (hk : a.k = 4) (hne : p.cs ≠ []) (hq : q.cs.length = p.cs.length) (ho : okPlt q = true) (d0 : Cm prog 200 [.lp 0 0, actV a] (lk [(0, plB p (.ls 1 0 p.cs.length 7)), (1, fcel cellL p.cs)]) [0, 1] (.ret (.tup [])) (lk [(0, plB q (.ls 1 0 p.cs.length 7)), (1, fcel cellL q.cs)])) : Ct prog 128 [pltV p (.d (cellsD p.cs)), actV a] (.tup [pltV q (.ls 0 0 p.cs.length 7), vi 0]) [(0, fcel cellL q.cs)] := by
 have d5 := mrenR d0
 have n2 : fcel cellL q.cs ≠ [] := fcel_ne fun e => by rw [e] at hq; exact hne (List.eq_nil_of_length_eq_zero hq.symm)
 have d6 := fn53 q (by omega)
 have d7 := need_ok 9
 have d8 : List.take (p.cs.length * 7) (fcel cellL q.cs) = (List.map (List.map V.d ∘ cellL) q.cs).flatten := by
   rw [<- hq, List.take_of_length_le (by rw [fcel_len hfc7]; omega)]; simp [fcel, List.map_flatten]
 rw [ho] at d6
 have d1 := fn53 p (by omega)
 have d2 := fn112 1 7 [4] (by simp)
 have d3 := need_ok 2
 have d4 := clone_c p.cs hl
 have n1 := fcel_ne hne
 have w3 : IntKind.wrap .i64 4 = 4 := by decide
 rw [h] at d1
 rw [show rgB 1 7 [4] = true from by decide] at d2
 refine Ct.byD gok func128 c128 rfl (by simp [ntmps128]) (by simp) (by simp [ResIds]) fun E hE hN => ?_
 unfold p128
 simp only []
 refine DW.seq gok eok mixed ?_
 simp [dwQ_normal]
 refine DW.seq gok eok mixed ?_
 simp
 refine CLa (d1) ?_
 simp [dwQ_normal]
 refine DW.defer2 gok eok mixed 11534336 [(2097152, 0), (3145728, 0)] [.lp 2097152 0, .lp 3145728 0] rfl rfl rfl (by simp) (by simp) hE fun E' => ?_
 simp [splice, repl, hk, w3]
 refine CLb (d2) (by simp [bor_i1]) ?_
 simp
 refine CLa (d3) ?_
 simp [splice]
 refine CLa (d4) ?_
 simp [splice]
 refine ACall.mkR _ _ _ _ _ (d5) (by simp) (by simp) (by simp [n1]) (by simp) (by first | (left; simp [hk]; done) | (right; simp [n1, n2, acl_cel, hk]; done)) ?_
 simp
 refine CLb (d6) (by first | (simp; done) | simp [Bor1_ls, d8, hq]) ?_
 simp
 refine CLa (d7) ?_
 simp [splice, retD_ret]
 refine DCall.mk _ _ _ do1_none (by simp) (by simp) (by simp) (by simp) (by simp) ?_
 simp
 refine RetOk.by (lk [(0, 28311552)]) ?_
 simp [results128]
theorem do_full_4 (p q : Plt) (a : Act) (hl : p.cs.length <= 1000000) (h : okPlt p = true) (hk : a.k = 4) (hne : p.cs ≠ []) (hq : q.cs.length = p.cs.length) (ho : okPlt q = false) (d0 : Cm prog 200 [.lp 0 0, actV a] (lk [(0, plB p (.ls 1 0 p.cs.length 7)), (1, fcel cellL p.cs)]) [0, 1] (.ret (.tup [])) (lk [(0, plB q (.ls 1 0 p.cs.length 7)), (1, fcel cellL q.cs)])) : Ct prog 128 [pltV p (.d (cellsD p.cs)), actV a] (.tup [.agg plZ, vi 9]) [] := by
 have d5 := mrenR d0
 have n2 : fcel cellL q.cs ≠ [] := fcel_ne fun e => by rw [e] at hq; exact hne (List.eq_nil_of_length_eq_zero hq.symm)
 have d6 := fn53 q (by omega)
 have d7 := need_no 9
 have d8 : List.take (p.cs.length * 7) (fcel cellL q.cs) = (List.map (List.map V.d ∘ cellL) q.cs).flatten := by
   rw [<- hq, List.take_of_length_le (by rw [fcel_len hfc7]; omega)]; simp [fcel, List.map_flatten]
 rw [ho] at d6
 have d1 := fn53 p (by omega)
 have d2 := fn112 1 7 [4] (by simp)
 have d3 := need_ok 2
 have d4 := clone_c p.cs hl
 have n1 := fcel_ne hne
 have w3 : IntKind.wrap .i64 4 = 4 := by decide
 rw [h] at d1
 rw [show rgB 1 7 [4] = true from by decide] at d2
 refine Ct.byD gok func128 c128 rfl (by simp [ntmps128]) (by simp) (by simp [ResIds]) fun E hE hN => ?_
 unfold p128
 simp only []
 refine DW.seq gok eok mixed ?_
 simp [dwQ_normal]
 refine DW.seq gok eok mixed ?_
 simp
 refine CLa (d1) ?_
 simp [dwQ_normal]
 refine DW.defer2 gok eok mixed 11534336 [(2097152, 0), (3145728, 0)] [.lp 2097152 0, .lp 3145728 0] rfl rfl rfl (by simp) (by simp) hE fun E' => ?_
 simp [splice, repl, hk, w3]
 refine CLb (d2) (by simp [bor_i1]) ?_
 simp
 refine CLa (d3) ?_
 simp [splice]
 refine CLa (d4) ?_
 simp [splice]
 refine ACall.mkR _ _ _ _ _ (d5) (by simp) (by simp) (by simp [n1]) (by simp) (by first | (left; simp [hk]; done) | (right; simp [n1, n2, acl_cel, hk]; done)) ?_
 simp
 refine CLb (d6) (by first | (simp; done) | simp [Bor1_ls, d8, hq]) ?_
 simp
 refine ACall.mkR _ _ _ _ _ (d7) (by simp) (by simp) (by simp) (by simp) (by first | (left; simp; done) | (right; simp; done)) ?_
 simp [retD_pan]
 refine DCall.mk _ _ _ (do1_some 9) (by simp) (by simp) (by simp) (by simp) (by simp) ?_
 simp
 refine RetOk.by (fun _ => none) ?_
 simp [results128]
theorem do_ret_7 (p q : Plt) (a : Act) (hl : p.cs.length <= 1000000) (h : okPlt p = true) (hk : a.k = 7) (hne : p.cs ≠ []) (hq : q.cs.length = p.cs.length) (ho : okPlt q = true) (d0 : Cm prog 203 [.lp 0 0, actV a] (lk [(0, plB p (.ls 1 0 p.cs.length 7)), (1, fcel cellL p.cs)]) [0, 1] (.ret (.tup [])) (lk [(0, plB q (.ls 1 0 p.cs.length 7)), (1, fcel cellL q.cs)])) : Ct prog 128 [pltV p (.d (cellsD p.cs)), actV a] (.tup [pltV q (.ls 0 0 p.cs.length 7), vi 0]) [(0, fcel cellL q.cs)] := by
 have d5 := mrenR d0
 have n2 : fcel cellL q.cs ≠ [] := fcel_ne fun e => by rw [e] at hq; exact hne (List.eq_nil_of_length_eq_zero hq.symm)
 have d6 := fn53 q (by omega)
 have d7 := need_ok 9
 have d8 : List.take (p.cs.length * 7) (fcel cellL q.cs) = (List.map (List.map V.d ∘ cellL) q.cs).flatten := by
   rw [<- hq, List.take_of_length_le (by rw [fcel_len hfc7]; omega)]; simp [fcel, List.map_flatten]
 rw [ho] at d6
 have d1 := fn53 p (by omega)
 have d2 := fn112 1 7 [7] (by simp)
 have d3 := need_ok 2
 have d4 := clone_c p.cs hl
 have n1 := fcel_ne hne
 have w3 : IntKind.wrap .i64 7 = 7 := by decide
 rw [h] at d1
 rw [show rgB 1 7 [7] = true from by decide] at d2
 refine Ct.byD gok func128 c128 rfl (by simp [ntmps128]) (by simp) (by simp [ResIds]) fun E hE hN => ?_
 unfold p128
 simp only []
 refine DW.seq gok eok mixed ?_
 simp [dwQ_normal]
 refine DW.seq gok eok mixed ?_
 simp
 refine CLa (d1) ?_
 simp [dwQ_normal]
 refine DW.defer2 gok eok mixed 11534336 [(2097152, 0), (3145728, 0)] [.lp 2097152 0, .lp 3145728 0] rfl rfl rfl (by simp) (by simp) hE fun E' => ?_
 simp [splice, repl, hk, w3]
 refine CLb (d2) (by simp [bor_i1]) ?_
 simp
 refine CLa (d3) ?_
 simp [splice]
 refine CLa (d4) ?_
 simp [splice]
 refine ACall.mkR _ _ _ _ _ (d5) (by simp) (by simp) (by simp [n1]) (by simp) (by first | (left; simp [hk]; done) | (right; simp [n1, n2, acl_cel, hk]; done)) ?_
 simp
 refine CLb (d6) (by first | (simp; done) | simp [Bor1_ls, d8, hq]) ?_
 simp
 refine CLa (d7) ?_
 simp [splice, retD_ret]
 refine DCall.mk _ _ _ do1_none (by simp) (by simp) (by simp) (by simp) (by simp) ?_
 simp
 refine RetOk.by (lk [(0, 28311552)]) ?_
 simp [results128]
theorem do_full_7 (p q : Plt) (a : Act) (hl : p.cs.length <= 1000000) (h : okPlt p = true) (hk : a.k = 7) (hne : p.cs ≠ []) (hq : q.cs.length = p.cs.length) (ho : okPlt q = false) (d0 : Cm prog 203 [.lp 0 0, actV a] (lk [(0, plB p (.ls 1 0 p.cs.length 7)), (1, fcel cellL p.cs)]) [0, 1] (.ret (.tup [])) (lk [(0, plB q (.ls 1 0 p.cs.length 7)), (1, fcel cellL q.cs)])) : Ct prog 128 [pltV p (.d (cellsD p.cs)), actV a] (.tup [.agg plZ, vi 9]) [] := by
 have d5 := mrenR d0
 have n2 : fcel cellL q.cs ≠ [] := fcel_ne fun e => by rw [e] at hq; exact hne (List.eq_nil_of_length_eq_zero hq.symm)
 have d6 := fn53 q (by omega)
 have d7 := need_no 9
 have d8 : List.take (p.cs.length * 7) (fcel cellL q.cs) = (List.map (List.map V.d ∘ cellL) q.cs).flatten := by
   rw [<- hq, List.take_of_length_le (by rw [fcel_len hfc7]; omega)]; simp [fcel, List.map_flatten]
 rw [ho] at d6
 have d1 := fn53 p (by omega)
 have d2 := fn112 1 7 [7] (by simp)
 have d3 := need_ok 2
 have d4 := clone_c p.cs hl
 have n1 := fcel_ne hne
 have w3 : IntKind.wrap .i64 7 = 7 := by decide
 rw [h] at d1
 rw [show rgB 1 7 [7] = true from by decide] at d2
 refine Ct.byD gok func128 c128 rfl (by simp [ntmps128]) (by simp) (by simp [ResIds]) fun E hE hN => ?_
 unfold p128
 simp only []
 refine DW.seq gok eok mixed ?_
 simp [dwQ_normal]
 refine DW.seq gok eok mixed ?_
 simp
 refine CLa (d1) ?_
 simp [dwQ_normal]
 refine DW.defer2 gok eok mixed 11534336 [(2097152, 0), (3145728, 0)] [.lp 2097152 0, .lp 3145728 0] rfl rfl rfl (by simp) (by simp) hE fun E' => ?_
 simp [splice, repl, hk, w3]
 refine CLb (d2) (by simp [bor_i1]) ?_
 simp
 refine CLa (d3) ?_
 simp [splice]
 refine CLa (d4) ?_
 simp [splice]
 refine ACall.mkR _ _ _ _ _ (d5) (by simp) (by simp) (by simp [n1]) (by simp) (by first | (left; simp [hk]; done) | (right; simp [n1, n2, acl_cel, hk]; done)) ?_
 simp
 refine CLb (d6) (by first | (simp; done) | simp [Bor1_ls, d8, hq]) ?_
 simp
 refine ACall.mkR _ _ _ _ _ (d7) (by simp) (by simp) (by simp) (by simp) (by first | (left; simp; done) | (right; simp; done)) ?_
 simp [retD_pan]
 refine DCall.mk _ _ _ (do1_some 9) (by simp) (by simp) (by simp) (by simp) (by simp) ?_
 simp
 refine RetOk.by (fun _ => none) ?_
 simp [results128]
end Go.Proofs.Tryz
namespace Go.Proofs.Tryz
open Go.Psl
open Go.Air
set_option maxRecDepth 20000
set_option maxHeartbeats 8000000
theorem tick_e2 (p : Plt) (a : Act) (ha : a.n = 1) : Cm prog 203 [.lp 23068672 0, actV a] (lk [(23068672, plB p (.ls 28311552 0 0 7)), (28311552, [])]) [23068672] (.ret (.tup [])) (lk [(23068672, plB p (.ls 1 0 0 7)), (1, [])]) := by
 have d1 := fn112 1 1000 [1] (by simp)
 have d2 := need_ok 2
 rw [show rgB 1 1000 [1] = true from by decide] at d1
 have z1 : IntKind.wrap .i64 1 = 1 := by decide
 refine Cm.by gok eok mixed 28311553 func203 c203 rfl (by simp [ntmps203]) (by simp) (HpIds.at (by simp)) (by simp) (by simp [ResIds]) fun E hs hE => ?_
 simp [p203, splice, repl, ha]
 repeat ((first | (refine CLr (d1) ?_ ?_ ?_; (focus (simp [bor_i1]; done)); (focus (first | (left; simp; done) | (right; simp; done)))) | (refine CLr (d2) ?_ ?_ ?_; (focus (simp; done)); (focus (first | (left; simp; done) | (right; simp; done))))); simp)
 refine pw_loop (α := Nat) (fun k => ⟨slots [(0, .lp 23068672 0), (13, vi 1), (14, vi k)], lk [(23068672, plB p (.ls 28311552 0 0 7)), (28311552, [])], 28311553⟩) (fun k => k <= 1) (fun k => 1 - k) 0 ?_ ?_ ?_
 . omega
 . refine Weak.mkM hs (lk [(23068672, 23068672), (28311552, 28311552)]) _ _ _ ?_ ?_ ?_ ?_ ?_ ?_ <;> simp
 . intro k hk
   match k, hk with
   | 1, _ =>
     simp [p203l1]
     refine RetOk.by (lk [(23068672, 23068672), (1, 28311552)]) ?_
     simp [results203]
   | n + 2, h => omega
   | 0, _ =>
     simp [p203l1]
     refine pw_loop (α := Nat) (fun i => ⟨slots [(0, .lp 23068672 0), (13, vi 1), (14, vi 0), (21, vi 0), (22, vi i)], lk [(23068672, plB p (.ls 28311552 0 0 7)), (28311552, [])], 28311553⟩) (fun i => i = 0) (fun i => 0) 0 ?_ ?_ ?_
     . rfl
     . refine Weak.mkM hs (lk [(23068672, 23068672), (28311552, 28311552)]) _ _ _ ?_ ?_ ?_ ?_ ?_ ?_ <;> simp
     . intro i hi
       subst hi
       simp [p203l0, z1]
       refine ⟨1, by omega, by omega, ?_⟩
       refine Weak.mkM hs (lk [(23068672, 23068672), (28311552, 28311552)]) _ _ _ ?_ ?_ ?_ ?_ ?_ ?_ <;> simp
theorem mrenE {f : FuncId} {p : Plt} {a : Act} {e : Int} (h : Cm prog f [.lp 0 0, actV a] (lk [(0, plB p (.ls 1 0 0 7))]) [] (.pan (refu e)) (lk [])) : Cm prog f [.lp 23068672 0, actV a] (lk [(23068672, plB p (.ls 28311552 0 0 7))]) [] (.pan (refu e)) (lk []) := by
 have := Cm.rename sgD 2 sgD_inj h (by simp [idsLt]) (by simp [idsLt]) (by simp)
 simpa [renL, renR, sgD] using this
theorem do_e_3 (p : Plt) (a : Act) (h : okPlt p = true) (hk : a.k = 3) (he : p.cs = []) : Ct prog 128 [pltV p (.d (cellsD p.cs)), actV a] (.tup [.agg plZ, vi 2]) [] := by
 have d5 := mrenE (valve_e p a)
 have d1 := fn53 p (by simp [he])
 have d2 := fn112 1 7 [3] (by simp)
 have d3 := need_ok 2
 have d4 := clone_c ([] : List Cel) (by simp)
 have w3 : IntKind.wrap .i64 3 = 3 := by decide
 rw [h, he] at d1
 rw [he]
 rw [show rgB 1 7 [3] = true from by decide] at d2
 refine Ct.byD gok func128 c128 rfl (by simp [ntmps128]) (by simp) (by simp [ResIds]) fun E hE hN => ?_
 unfold p128
 simp only []
 refine DW.seq gok eok mixed ?_
 simp [dwQ_normal]
 refine DW.seq gok eok mixed ?_
 simp
 refine CLa (d1) ?_
 simp [dwQ_normal]
 refine DW.defer2 gok eok mixed 11534336 [(2097152, 0), (3145728, 0)] [.lp 2097152 0, .lp 3145728 0] rfl rfl rfl (by simp) (by simp) hE fun E' => ?_
 simp [splice, repl, hk, w3]
 refine CLb (d2) (by simp [bor_i1]) ?_
 simp
 refine CLa (d3) ?_
 simp [splice]
 refine CLa (d4) ?_
 simp [splice]
 refine ACall.mkR _ _ _ _ _ (d5) (by simp [fcel]) (by simp) (by simp) (by simp) (by first | (left; simp [hk]; done) | (right; simp [hk, fcel]; done)) ?_
 simp [retD_pan]
 refine DCall.mk _ _ _ (do1_some 2) (by simp) (by simp) (by simp) (by simp) (by simp) ?_
 simp
 refine RetOk.by (fun _ => none) ?_
 simp [results128]
theorem do_e_4 (p : Plt) (a : Act) (h : okPlt p = true) (hk : a.k = 4) (he : p.cs = []) : Ct prog 128 [pltV p (.d (cellsD p.cs)), actV a] (.tup [.agg plZ, vi 2]) [] := by
 have d5 := mrenE (move_e p a)
 have d1 := fn53 p (by simp [he])
 have d2 := fn112 1 7 [4] (by simp)
 have d3 := need_ok 2
 have d4 := clone_c ([] : List Cel) (by simp)
 have w3 : IntKind.wrap .i64 4 = 4 := by decide
 rw [h, he] at d1
 rw [he]
 rw [show rgB 1 7 [4] = true from by decide] at d2
 refine Ct.byD gok func128 c128 rfl (by simp [ntmps128]) (by simp) (by simp [ResIds]) fun E hE hN => ?_
 unfold p128
 simp only []
 refine DW.seq gok eok mixed ?_
 simp [dwQ_normal]
 refine DW.seq gok eok mixed ?_
 simp
 refine CLa (d1) ?_
 simp [dwQ_normal]
 refine DW.defer2 gok eok mixed 11534336 [(2097152, 0), (3145728, 0)] [.lp 2097152 0, .lp 3145728 0] rfl rfl rfl (by simp) (by simp) hE fun E' => ?_
 simp [splice, repl, hk, w3]
 refine CLb (d2) (by simp [bor_i1]) ?_
 simp
 refine CLa (d3) ?_
 simp [splice]
 refine CLa (d4) ?_
 simp [splice]
 refine ACall.mkR _ _ _ _ _ (d5) (by simp [fcel]) (by simp) (by simp) (by simp) (by first | (left; simp [hk]; done) | (right; simp [hk, fcel]; done)) ?_
 simp [retD_pan]
 refine DCall.mk _ _ _ (do1_some 2) (by simp) (by simp) (by simp) (by simp) (by simp) ?_
 simp
 refine RetOk.by (fun _ => none) ?_
 simp [results128]
theorem do_e_7 (p : Plt) (a : Act) (h : okPlt p = true) (hk : a.k = 7) (hn : a.n = 1) (he : p.cs = []) : Ct prog 128 [pltV p (.d (cellsD p.cs)), actV a] (.tup [pltV p (.ls 0 0 0 7), vi 0]) [(0, [])] := by
 have d5 := tick_e2 p a hn
 have d6 := fn53 p (by simp [he])
 have d7 := need_ok 9
 rw [h, he] at d6
 have d1 := fn53 p (by simp [he])
 have d2 := fn112 1 7 [7] (by simp)
 have d3 := need_ok 2
 have d4 := clone_c ([] : List Cel) (by simp)
 have w3 : IntKind.wrap .i64 7 = 7 := by decide
 rw [h, he] at d1
 rw [he]
 rw [show rgB 1 7 [7] = true from by decide] at d2
 refine Ct.byD gok func128 c128 rfl (by simp [ntmps128]) (by simp) (by simp [ResIds]) fun E hE hN => ?_
 unfold p128
 simp only []
 refine DW.seq gok eok mixed ?_
 simp [dwQ_normal]
 refine DW.seq gok eok mixed ?_
 simp
 refine CLa (d1) ?_
 simp [dwQ_normal]
 refine DW.defer2 gok eok mixed 11534336 [(2097152, 0), (3145728, 0)] [.lp 2097152 0, .lp 3145728 0] rfl rfl rfl (by simp) (by simp) hE fun E' => ?_
 simp [splice, repl, hk, w3]
 refine CLb (d2) (by simp [bor_i1]) ?_
 simp
 refine CLa (d3) ?_
 simp [splice]
 refine CLa (d4) ?_
 simp [splice]
 refine ACall.mkR _ _ _ _ _ (d5) (by simp [fcel]) (by simp) (by simp) (by simp) (by first | (left; simp [hk]; done) | (right; simp [hk, fcel]; done)) ?_
 simp
 refine CLb (d6) (by first | (simp; done) | simp [Bor1_ls]) ?_
 simp
 refine CLa (d7) ?_
 simp [splice, retD_ret]
 refine DCall.mk _ _ _ do1_none (by simp) (by simp) (by simp) (by simp) (by simp) ?_
 simp
 refine RetOk.by (lk [(0, 39845889)]) ?_
 simp [results128]
def finS (q : Plt) : Except Int Plt := if okPlt q then .ok q else .error 9
def vlP (p : Plt) (a : Act) (c : Cel) : Plt := { p with vh := p.vh + outH c a.n, va := p.va + (a.n - outH c a.n), cs := p.cs.set a.c.toNat (outC c a.n) }
def mvP (p : Plt) (a : Act) (c e : Cel) : Plt := { p with cs := (p.cs.set a.c.toNat (outC c a.n)).set a.t.toNat (addC e (outH c a.n) (a.n - outH c a.n)) }
def vlS (p : Plt) (a : Act) : Except Int Plt := if inA p.cs.length a then match p.cs[a.c.toNat]? with | none => .error 2 | some c => if a.n <= c.he + c.ai then finS (vlP p a c) else .error 6 else .error 2
def mvS (p : Plt) (a : Act) : Except Int Plt := if inA p.cs.length a then (if inT p.cs.length a then match p.cs[a.c.toNat]?, p.cs[a.t.toNat]? with | some c, some e => if a.n <= c.he + c.ai then finS (mvP p a c e) else .error 6 | _, _ => .error 2 else .error 2) else .error 2
def tkQ (p : Plt) : Plt := { tkP p p.cs p.cs.length with cs := p.cs.map tkC }
def doS (p : Plt) (a : Act) : Except Int Plt := if okPlt p then (if a.k = 3 then vlS p a else if a.k = 4 then mvS p a else finS (tkQ p)) else .error 32
def doV : Except Int Plt -> V
 | .ok q => .tup [pltV q (.d (cellsD q.cs)), vi 0]
 | .error e => .tup [.agg plZ, vi e]
theorem do_fz {q : Plt} {n : Nat} {args : List V} (hn : q.cs.length = n) (h : Ct prog 128 args (.tup [pltV q (.ls 0 0 n 7), vi 0]) [(0, fcel cellL q.cs)]) : Ct prog 128 args (doV (.ok q)) [] := by
 refine Cm.freeze h ?_
 subst hn
 have hb : Bor0 (lk [(0, fcel cellL q.cs)]) (.ls 0 0 q.cs.length 7) (.d (cellsD q.cs)) := by
   have := bor_fcel (H := lk [(0, fcel cellL q.cs)]) (id := 0) hfc7 (l := q.cs) (by simp)
   exact this
 have z : ∀ x : Int, FzC (lk [(0, fcel cellL q.cs)]) (vi x) (vi x) := fun x => ⟨_, rfl, .inl rfl⟩
 exact ⟨⟨⟨_, rfl, hb⟩, z _, z _, z _, z _, z _, z _, z _, z _, z _, trivial⟩, .inl rfl, trivial⟩
theorem okPlt_len {p : Plt} (h : okPlt p = true) : p.cs.length <= 12 := by
 unfold okPlt okBk at h; simp only [Bool.and_eq_true, decide_eq_true_eq] at h; exact h.1.1.1.1
theorem okPlt_cs {p : Plt} (h : okPlt p = true) : ∀ c ∈ p.cs, CelB c := fun c hc => by
 unfold okPlt at h; simp only [Bool.and_eq_true] at h; exact okCel_iff.1 (List.all_eq_true.1 h.1.2 c hc)
theorem okPlt_bk {p : Plt} (h : okPlt p = true) : (accs p).all bkB = true := by
 unfold okPlt okBk at h; simp only [Bool.and_eq_true] at h; exact h.1.1.2
theorem inA_at {cs : List Cel} {a : Act} (h : inA cs.length a = true) : ∃ c, cs[a.c.toNat]? = some c := by
 have := inA_iff.1 h
 exact ⟨_, List.getElem?_eq_getElem (by omega)⟩
theorem inT_at {cs : List Cel} {a : Act} (h : inT cs.length a = true) : ∃ c, cs[a.t.toNat]? = some c := by
 unfold inT rgB at h
 simp at h
 exact ⟨_, List.getElem?_eq_getElem (by omega)⟩
theorem do_fin {p q : Plt} {a : Act} (h1 : okPlt q = true -> Ct prog 128 [pltV p (.d (cellsD p.cs)), actV a] (doV (.ok q)) []) (h2 : okPlt q = false -> Ct prog 128 [pltV p (.d (cellsD p.cs)), actV a] (.tup [.agg plZ, vi 9]) []) : Ct prog 128 [pltV p (.d (cellsD p.cs)), actV a] (doV (finS q)) [] := by
 unfold finS
 cases h : okPlt q
 . simpa [doV] using h2 h
 . simpa using h1 h
theorem do_3 (p : Plt) (a : Act) (h : okPlt p = true) (hk : a.k = 3) : Ct prog 128 [pltV p (.d (cellsD p.cs)), actV a] (doV (doS p a)) [] := by
 have hl := okPlt_len h
 have hcs := okPlt_cs h
 obtain ⟨_, _, v1, v2, _⟩ := bk_all (okPlt_bk h)
 have e : doS p a = vlS p a := by simp [doS, h, hk]
 rw [e]
 by_cases he : p.cs = []
 . have : inA p.cs.length a = false := by
     cases hx : inA p.cs.length a
     . rfl
     . have := inA_iff.1 hx; rw [he] at this; simp at this; omega
   have e2 : vlS p a = .error 2 := by simp [vlS, this]
   rw [e2]
   exact do_e_3 p a h hk he
 . cases hx : inA p.cs.length a with
   | false =>
     have e2 : vlS p a = .error 2 := by simp [vlS, hx]
     rw [e2]
     exact do_pan_3 p a 2 (by omega) h hk he (valve_no2 p p.cs a (by omega) he hx)
   | true =>
     obtain ⟨c, hc⟩ := inA_at hx
     have hb := hcs c (List.mem_of_getElem? hc)
     by_cases hn : a.n <= c.he + c.ai
     . have e2 : vlS p a = finS (vlP p a c) := by simp [vlS, hx, hc, hn]
       rw [e2]
       have d := valve_ok p p.cs a c (by omega) hx hc hb hn v1 v2
       have hq : (vlP p a c).cs.length = p.cs.length := by simp [vlP]
       exact do_fin (fun ho => do_fz hq (do_ret_3 p (vlP p a c) a (by omega) h hk he hq ho d)) fun ho => do_full_3 p (vlP p a c) a (by omega) h hk he hq ho d
     . have e2 : vlS p a = .error 6 := by simp [vlS, hx, hc, hn]
       rw [e2]
       exact do_pan_3 p a 6 (by omega) h hk he (valve_no6 p p.cs a c (by omega) hx hc hb (by omega))
theorem do_4 (p : Plt) (a : Act) (h : okPlt p = true) (hk : a.k = 4) : Ct prog 128 [pltV p (.d (cellsD p.cs)), actV a] (doV (doS p a)) [] := by
 have hl := okPlt_len h
 have hcs := okPlt_cs h
 have e : doS p a = mvS p a := by simp [doS, h, hk]
 rw [e]
 by_cases he : p.cs = []
 . have : inA p.cs.length a = false := by
     cases hx : inA p.cs.length a
     . rfl
     . have := inA_iff.1 hx; rw [he] at this; simp at this; omega
   have e2 : mvS p a = .error 2 := by simp [mvS, this]
   rw [e2]
   exact do_e_4 p a h hk he
 . cases hx : inA p.cs.length a with
   | false =>
     have e2 : mvS p a = .error 2 := by simp [mvS, hx]
     rw [e2]
     exact do_pan_4 p a 2 (by omega) h hk he (move_no2 p p.cs a (by omega) he hx)
   | true =>
     cases ht : inT p.cs.length a with
     | false =>
       have e2 : mvS p a = .error 2 := by simp [mvS, hx, ht]
       rw [e2]
       exact do_pan_4 p a 2 (by omega) h hk he (move_noT p p.cs a (by omega) hx ht)
     | true =>
       obtain ⟨c, hc⟩ := inA_at hx
       obtain ⟨g, hg⟩ := inT_at ht
       have hb := hcs c (List.mem_of_getElem? hc)
       have hbg := hcs g (List.mem_of_getElem? hg)
       by_cases hn : a.n <= c.he + c.ai
       . have e2 : mvS p a = finS (mvP p a c g) := by simp [mvS, hx, ht, hc, hg, hn]
         rw [e2]
         have d := move_ok p p.cs a c g (by omega) hx ht hc hg hb hbg hn
         have hq : (mvP p a c g).cs.length = p.cs.length := by simp [mvP]
         exact do_fin (fun ho => do_fz hq (do_ret_4 p (mvP p a c g) a (by omega) h hk he hq ho d)) fun ho => do_full_4 p (mvP p a c g) a (by omega) h hk he hq ho d
       . have e2 : mvS p a = .error 6 := by simp [mvS, hx, ht, hc, hg, hn]
         rw [e2]
         exact do_pan_4 p a 6 (by omega) h hk he (move_no6 p p.cs a c (by omega) hx ht hc hb (by omega))
theorem do_7 (p : Plt) (a : Act) (h : okPlt p = true) (hk : a.k = 7) (h1 : a.n = 1) : Ct prog 128 [pltV p (.d (cellsD p.cs)), actV a] (doV (doS p a)) [] := by
 have hl := okPlt_len h
 have hcs := okPlt_cs h
 obtain ⟨_, _, _, _, v1, v2, _⟩ := bk_all (okPlt_bk h)
 have e : doS p a = finS (tkQ p) := by simp [doS, h, hk]
 rw [e]
 by_cases he : p.cs = []
 . have e3 : tkQ p = p := by
     unfold tkQ tkP tkH tkA
     cases p
     simp at he
     simp [he]
   rw [e3]
   refine do_fin (fun _ => do_fz (by rw [he]) ?_) fun ho => by rw [h] at ho; cases ho
   have := do_e_7 p a h hk h1 he
   rw [show fcel cellL p.cs = [] by rw [he]; rfl]
   exact this
 . have d := tick_ok p p.cs a hl he h1 hcs v1 v2
   have hq : (tkQ p).cs.length = p.cs.length := by simp [tkQ]
   exact do_fin (fun ho => do_fz hq (do_ret_7 p (tkQ p) a (by omega) h hk he hq ho d)) fun ho => do_full_7 p (tkQ p) a (by omega) h hk he hq ho d
theorem clone_f (l : List Cel) (hl : l.length <= 1000000) : Ct prog 127 [.d (cellsD l)] (.d (cellsD l)) [] := by
 refine Cm.freeze (clone_c l hl) ?_
 exact bor_fcel (H := lk [(0, fcel cellL l)]) (id := 0) hfc7 (l := l) (by simp)
def playS (p : Plt) : List Act -> Nat -> Plt × Nat × Int
 | [], _ => (p, 0, 0)
 | a :: r, i => match doS p a with
   | .ok q => playS q r (i + 1)
   | .error e => (p, i, e)
theorem finS_ok {p q : Plt} (h : finS p = .ok q) : okPlt q = true := by
 unfold finS at h
 split at h
 . cases h; assumption
 . cases h
theorem doS_ok {p q : Plt} {a : Act} (h : doS p a = .ok q) : okPlt q = true := by
 unfold doS vlS mvS at h
 repeat' split at h
 all_goals first | exact finS_ok h | cases h
theorem finS_err {p : Plt} {e : Int} (h : finS p = .error e) : e = 9 := by
 unfold finS at h
 split at h
 . cases h
 . cases h; rfl
theorem doS_err {p : Plt} {a : Act} {e : Int} (h : doS p a = .error e) : ¬ e = 0 := by
 unfold doS vlS mvS at h
 repeat' split at h
 all_goals first | (have := finS_err h; omega) | (cases h; omega)
theorem do_34 (p : Plt) (a : Act) (h : okPlt p = true) (hk : a.k = 3 \/ a.k = 4) : Ct prog 128 [pltV p (.d (cellsD p.cs)), actV a] (doV (doS p a)) [] := by
 rcases hk with hk | hk
 . exact do_3 p a h hk
 . exact do_4 p a h hk
theorem fn60 (p : Plt) (l : List Act) (h : okPlt p = true) (hl : l.length <= 200) (hk : ∀ a ∈ l, a.k = 3 \/ a.k = 4) : Ct prog 60 [pltV p (.d (cellsD p.cs)), .d (actsD l)] (.tup [pltV (playS p l 0).1 (.d (cellsD (playS p l 0).1.cs)), vi (playS p l 0).2.1, vi (playS p l 0).2.2]) [] := by
 have hp := okPlt_len h
 have d1 := fn53 p (by omega)
 have d2 := clone_f p.cs (by omega)
 have g : ¬ (l.length : Int) > 200 := by omega
 have g2 : ¬ (200 : Int) < l.length := by omega
 rw [h] at d1
 obtain ⟨R, hR⟩ : ∃ R, playS p l 0 = R := ⟨_, rfl⟩
 rw [hR]
 refine CB func60 c60 (by simp [ntmps60]) fun E hE => ?_
 simp [p60]
 refine CLa (d1) ?_
 simp [splice, g]
 refine CLa (d2) ?_
 simp [splice]
 refine pw_loop (α := Nat × Plt) (fun x => ⟨slots [(4, .lp 0 0), (27, .d (actsD l)), (28, vi l.length), (29, vi x.1)], lk [(0, plB x.2 (.d (cellsD x.2.cs)))], 1⟩) (fun x => x.1 <= l.length /\ okPlt x.2 = true /\ playS x.2 (l.drop x.1) x.1 = R) (fun x => l.length - x.1) (0, p) ?_ ?_ ?_
 . exact ⟨by simp, h, by simpa using hR⟩
 . refine Weak.mk hE (lk [(0, 1048576)]) _ _ _ ?_ ?_ ?_ ?_ ?_ <;> simp
 . rintro ⟨i, q⟩ ⟨hi, hq, hr⟩
   simp only at hi hq hr
   have w : IntKind.wrap .i64 ((i : Int) + 1) = ((i + 1 : Nat) : Int) := by rw [wrap64 (by omega) (by omega)]; rfl
   by_cases hi2 : i < l.length
   . obtain ⟨a, ha⟩ : ∃ a, l[i]? = some a := ⟨_, List.getElem?_eq_getElem hi2⟩
     have d3 := do_34 q a hq (hk a (List.mem_of_getElem? ha))
     have e1 : l.drop i = a :: l.drop (i + 1) := by
       rw [List.drop_eq_getElem_cons hi2]
       rw [List.getElem?_eq_getElem hi2] at ha; cases ha; rfl
     have hiI : (i : Int) < l.length := by omega
     rw [e1, playS] at hr
     cases hd : doS q a with
     | ok q2 =>
       rw [hd] at d3 hr
       simp only [doV] at d3
       have hq2 := doS_ok hd
       simp [p60l0, splice, hiI, ha]
       refine CLa (d3) ?_
       simp [splice, w]
       refine ⟨i + 1, q2, ⟨by omega, hq2, hr⟩, by omega, ?_⟩
       refine Weak.mk hE (lk [(0, 0)]) _ _ _ ?_ ?_ ?_ ?_ ?_ <;> simp
     | error e =>
       rw [hd] at d3 hr
       simp only [doV] at d3
       have he := doS_err hd
       simp [p60l0, splice, hiI, ha]
       refine CLa (d3) ?_
       simp [splice, he]
       refine RetOk.by (fun _ => none) ?_
       subst hr
       simp [results60]
   . have e1 : l.drop i = [] := List.drop_eq_nil_of_le (by omega)
     rw [e1, playS] at hr
     subst hr
     have hiI : ¬ (i : Int) < l.length := by omega
     simp [p60l0, splice, hiI]
     refine RetOk.by (fun _ => none) ?_
     simp [results60]
def grSky (k : Sky) : Bool := decide (24 < k.s.length) || decide (24 < k.w.length)
def grA (k : Sky) (r : Rig) (s : Shp) (l : List Leg) : Bool := grSky k || decide (80 < r.reg.length) || decide (20 < s.gas.cs.length) || grL l
theorem grA_no {k : Sky} {r : Rig} {s : Shp} {l : List Leg} (h : grA k r s l = false) : (k.s.length <= 24 /\ k.w.length <= 24) /\ r.reg.length <= 80 /\ s.gas.cs.length <= 20 /\ l.length <= 30 /\ ∀ x ∈ l, x.acts.length <= 20 := by
 unfold grA grSky at h
 rw [grL_eq] at h
 simp only [Bool.or_eq_false_iff, decide_eq_false_iff_not, List.any_eq_false, decide_eq_true_eq] at h
 obtain ⟨⟨⟨⟨h1, h2⟩, h3⟩, h4⟩, ⟨h5, h6⟩, _⟩ := h
 exact ⟨⟨by omega, by omega⟩, by omega, by omega, by omega, fun x hx => by have := h6 x hx; omega⟩
theorem fn29 (k : Sky) (r : Rig) (s : Shp) (l : List Leg) : Ct prog 29 [skyV k, rigV r, shpV s (.d (cellsD s.gas.cs)), .d (legsD l)] (vb (grA k r s l)) [] := by
 have c1 := fn18 k
 have c2 := fn84 r
 have c3 := fn19 s
 have c4 := fn85 l
 have e : grA k r s l = ((decide (24 < k.s.length) || decide (24 < k.w.length)) || decide (80 < r.reg.length) || decide (20 < s.gas.cs.length) || grL l) := rfl
 rw [e]
 generalize (decide (24 < k.s.length) || decide (24 < k.w.length)) = b1 at *
 generalize decide (80 < r.reg.length) = b2 at *
 generalize decide (20 < s.gas.cs.length) = b3 at *
 generalize grL l = b4 at *
 cases b1
 . cases b2
   . cases b3
     . refine CB func29 c29 (by simp [ntmps29]) fun E hE => ?_
       simp [p29]
       repeat ((first | (refine CLr (c1) ?_ ?_ ?_; (focus (simp; done)); (focus (first | (left; simp; done) | (right; simp; done)))) | (refine CLr (c2) ?_ ?_ ?_; (focus (simp; done)); (focus (first | (left; simp; done) | (right; simp; done)))) | (refine CLr (c3) ?_ ?_ ?_; (focus (simp; done)); (focus (first | (left; simp; done) | (right; simp; done)))) | (refine CLr (c4) ?_ ?_ ?_; (focus (simp; done)); (focus (first | (left; simp; done) | (right; simp; done))))); simp)
       refine RetOk.by (fun _ => none) ?_
       simp [results29]
     . refine CB func29 c29 (by simp [ntmps29]) fun E hE => ?_
       simp [p29]
       repeat ((first | (refine CLr (c1) ?_ ?_ ?_; (focus (simp; done)); (focus (first | (left; simp; done) | (right; simp; done)))) | (refine CLr (c2) ?_ ?_ ?_; (focus (simp; done)); (focus (first | (left; simp; done) | (right; simp; done)))) | (refine CLr (c3) ?_ ?_ ?_; (focus (simp; done)); (focus (first | (left; simp; done) | (right; simp; done)))) | (refine CLr (c4) ?_ ?_ ?_; (focus (simp; done)); (focus (first | (left; simp; done) | (right; simp; done))))); simp)
       refine RetOk.by (fun _ => none) ?_
       simp [results29]
   . refine CB func29 c29 (by simp [ntmps29]) fun E hE => ?_
     simp [p29]
     repeat ((first | (refine CLr (c1) ?_ ?_ ?_; (focus (simp; done)); (focus (first | (left; simp; done) | (right; simp; done)))) | (refine CLr (c2) ?_ ?_ ?_; (focus (simp; done)); (focus (first | (left; simp; done) | (right; simp; done)))) | (refine CLr (c3) ?_ ?_ ?_; (focus (simp; done)); (focus (first | (left; simp; done) | (right; simp; done)))) | (refine CLr (c4) ?_ ?_ ?_; (focus (simp; done)); (focus (first | (left; simp; done) | (right; simp; done))))); simp)
     refine RetOk.by (fun _ => none) ?_
     simp [results29]
 . refine CB func29 c29 (by simp [ntmps29]) fun E hE => ?_
   simp [p29]
   repeat ((first | (refine CLr (c1) ?_ ?_ ?_; (focus (simp; done)); (focus (first | (left; simp; done) | (right; simp; done)))) | (refine CLr (c2) ?_ ?_ ?_; (focus (simp; done)); (focus (first | (left; simp; done) | (right; simp; done)))) | (refine CLr (c3) ?_ ?_ ?_; (focus (simp; done)); (focus (first | (left; simp; done) | (right; simp; done)))) | (refine CLr (c4) ?_ ?_ ?_; (focus (simp; done)); (focus (first | (left; simp; done) | (right; simp; done))))); simp)
   refine RetOk.by (fun _ => none) ?_
   simp [results29]
theorem okShp_gas {s : Shp} (h : okShp s = true) : okPlt s.gas = true := by
 unfold okShp at h; simp only [Bool.and_eq_true] at h; exact h.2
theorem okShp_num {s : Shp} (h : okShp s = true) : ((0 <= s.dry /\ s.dry <= 1000000000) /\ 0 <= s.bal /\ s.bal <= 1000000000) /\ 0 <= s.drp /\ s.drp <= 1000000000000 := by
 unfold okShp at h; simp only [Bool.and_eq_true] at h
 have h1 := h.1.1.2
 have h2 := h.1.2
 simp [rgB] at h1 h2
 omega
theorem okLeg_acts {l : Leg} (h : okLeg l = true) : l.acts.length <= 12 /\ (∀ a ∈ l.acts, a.k = 3 \/ a.k = 4) /\ 0 <= l.dr /\ l.dr <= 1000000000 := by
 unfold okLeg at h; simp only [Bool.and_eq_true, decide_eq_true_eq] at h
 have h1 := h.1.1.2
 simp [rgB] at h1
 refine ⟨h.1.2, fun a ha => ?_, by omega⟩
 have := List.all_eq_true.1 h.2 a ha
 simpa [okAct] using this
def begS (s : Shp) (l : Leg) : Except Int Shp :=
 if (playS s.gas l.acts 0).2.2 = 0 then
   (if s.bal < l.dr then .error 2 else if 1000000000000 < s.drp + l.dr then .error 9
     else .ok { s with gas := (playS s.gas l.acts 0).1, bal := s.bal - l.dr, drp := s.drp + l.dr })
 else .error (playS s.gas l.acts 0).2.2
abbrev shZ : List V := [vi 0, vi 0, vi 0, vi 0, vi 0, vi 0, vi 0, vi 0, vi 0, vi 0, vi 0, vi 0, vi 0, vi 0, vi 0, .d (.lit (.slice none 0 0)), vi 0, vi 0, vi 0, vi 0, vi 0, vi 0, vi 0, vi 0, vi 0]
def begV : Except Int Shp -> V
 | .ok s => .tup [shpV s (.d (cellsD s.gas.cs)), vi 0]
 | .error e => .tup [.agg shZ, vi e]
theorem fn96 (s : Shp) (l : Leg) (hs : okShp s = true) (hl : okLeg l = true) : Ct prog 96 [shpV s (.d (cellsD s.gas.cs)), legV l] (begV (begS s l)) [] := by
 have q1 := okLeg_acts hl
 have q2 := okShp_num hs
 have d1 := fn60 s.gas l.acts (okShp_gas hs) (by omega) q1.2.1
 have w1 : IntKind.wrap .i64 (s.drp + l.dr) = s.drp + l.dr := wrap64 (by omega) (by omega)
 have w2 : IntKind.wrap .i64 (s.bal - l.dr) = s.bal - l.dr := wrap64 (by omega) (by omega)
 unfold begS
 generalize playS s.gas l.acts 0 = R at *
 obtain ⟨q, i, e⟩ := R
 simp only at d1
 simp only
 by_cases he : e = 0
 . rw [if_pos he]
   by_cases h2 : s.bal < l.dr
   . rw [if_pos h2]
     simp only [begV]
     refine CB func96 c96 (by simp [ntmps96]) fun E hE => ?_
     simp [p96]
     refine CLa (d1) ?_
     simp [splice, he, h2]
     refine RetOk.by (fun _ => none) ?_
     simp [results96]
   . rw [if_neg h2]
     by_cases h3 : 1000000000000 < s.drp + l.dr
     . rw [if_pos h3]
       simp only [begV]
       refine CB func96 c96 (by simp [ntmps96]) fun E hE => ?_
       simp [p96]
       refine CLa (d1) ?_
       simp [splice, he, h2, w1, h3]
       refine RetOk.by (fun _ => none) ?_
       simp [results96]
     . rw [if_neg h3]
       simp only [begV]
       refine CB func96 c96 (by simp [ntmps96]) fun E hE => ?_
       simp [p96]
       refine CLa (d1) ?_
       simp [splice, he, h2, w1, h3]
       refine pw_drawW [(12, 0), (14, 0)] (by kernel_rfl) ?_
       simp [splice, w1, w2, inC, Nat.testBit]
       refine RetOk.by (fun _ => none) ?_
       simp [results96]
 . rw [if_neg he]
   simp only [begV]
   refine CB func96 c96 (by simp [ntmps96]) fun E hE => ?_
   simp [p96]
   refine CLa (d1) ?_
   simp [splice, he]
   refine RetOk.by (fun _ => none) ?_
   simp [results96]
def mhS (s : Shp) (l : Leg) : Int × Int := (min s.hl (s.hl + l.ul), max s.hh (s.hh + l.uh))
def gainS (r : Rig) (l : Leg) : Int × Int := (overS (l.bl, l.bh) (r.gl, r.gh) (100, 100)).1
def nxtS (k : Sky) (r : Rig) (s : Shp) (l : Leg) : Shp :=
 { s with
   xl := s.xl + 6 * (l.axl + (wndX k.w (mhS s l)).1), xh := s.xh + 6 * (l.axh + (wndX k.w (mhS s l)).2)
   yl := s.yl + 6 * (l.ayl + (wndY k.w (mhS s l)).1), yh := s.yh + 6 * (l.ayh + (wndY k.w (mhS s l)).2)
   hl := s.hl + l.ul, hh := s.hh + l.uh
   fl := s.fl - l.bh, fh := s.fh - l.bl
   wl := min (s.wl + (gainS r l).1) r.tank, wh := min (s.wh + (gainS r l).2) r.tank
   bl := s.bl + l.bl, bh := s.bh + l.bh
   gas := tkQ s.gas }
def bthS (s n : Shp) : Shp := { n with fh := s.fh, wl := min s.wl n.wl, wh := max s.wh n.wh }
def sqN (a b : Int) : Int := max (max 0 a) (-b) * max (max 0 a) (-b)
def sqF (a b : Int) : Int := max (-a) b * max (-a) b
def spdA (xl xh yl yh : Int) : (Int × Int) × Int := rootS (sqN xl xh + sqN yl yh, sqF xl xh + sqF yl yh)
def spdS (l : Leg) : Int × Int := (spdA l.axl l.axh l.ayl l.ayh).1
def farB (n : Shp) : Bool := spB (-10000000) 10000000 n.xl n.xh && spB (-10000000) 10000000 n.yl n.yh
def evtS (k : Sky) (r : Rig) (s : Shp) (l : Leg) : Int × Int :=
 if (mhS s l).1 < r.lo then (1, 0) else if r.hi < (mhS s l).2 then (2, 0)
 else if 0 <= ixF (nofit (atA k.s (mhS s l).1 (mhS s l).2).1) (tkQ s.gas).cs then (3, ixF (nofit (atA k.s (mhS s l).1 (mhS s l).2).1) (tkQ s.gas).cs)
 else if s.fl - l.bh < r.rsv then (4, 0)
 else if rectS r.reg (spdS l) (hvS (bthS s (nxtS k r s l)) (atA k.s (mhS s l).1 (mhS s l).2).1) = false then (5, 0)
 else if farB (nxtS k r s l) = false then (6, 0) else (0, 0)
def minS (k : Sky) (r : Rig) (s : Shp) (l : Leg) : Except (Int × Int × Int) Shp :=
 if (evtS k r s l).1 = 0 then (if 1000000000000 < s.bh + l.bh then .error (9, 0, 0) else .ok (nxtS k r s l)) else .error (54, evtS k r s l)
theorem heS_tk (cs : List Cel) : heS (cs.map tkC) + (cs.map fun c => outH c (tkN c)).sum = heS cs := by
 unfold heS
 induction cs with
 | nil => simp
 | cons c r ih =>
   have e : (tkC c).he = c.he - outH c (tkN c) := rfl
   simp only [List.map_cons, List.sum_cons]; rw [e]; omega
theorem aiS_tk (cs : List Cel) : aiS (cs.map tkC) + (cs.map fun c => tkN c - outH c (tkN c)).sum = aiS cs := by
 unfold aiS
 induction cs with
 | nil => simp
 | cons c r ih =>
   have e : (tkC c).ai = c.ai - (tkN c - outH c (tkN c)) := rfl
   simp only [List.map_cons, List.sum_cons]; rw [e]; omega
theorem tkC_ok {c : Cel} (h : CelB c) : CelB (tkC c) := by
 have h1 := tk_out h
 have h2 := h.he; have h3 := h.ai; have h4 := tk_bd h
 unfold tkC outC
 refine ⟨h.rm, by simp only; omega, by simp only; omega, h.w, h.lk, by simp only; omega⟩
theorem he_pos {l : List Cel} (h : ∀ c ∈ l, CelB c) : 0 <= heS l /\ 0 <= aiS l := by
 unfold heS aiS
 induction l with
 | nil => simp
 | cons c r ih =>
   have h1 := (h c (by simp)).he; have h2 := (h c (by simp)).ai
   have := ih fun x hx => h x (by simp [hx])
   simp only [List.map_cons, List.sum_cons]; omega
theorem okPlt_eq {p : Plt} (h : okPlt p = true) : p.bt + p.vh + p.lh + p.ph + heS p.cs = p.ih /\ p.va + p.la + p.pa + aiS p.cs = p.ia := by
 unfold okPlt at h; simp only [Bool.and_eq_true, decide_eq_true_eq] at h; exact h.2
theorem okPlt_bt {p : Plt} (h : okPlt p = true) : 0 <= p.bt /\ p.bt <= 10000000 := by
 unfold okPlt okBk at h; simp only [Bool.and_eq_true] at h
 have := h.1.1.1.2
 simp [rgB] at this; omega
theorem okPlt_make {p : Plt} (h1 : p.cs.length <= 12) (h2 : 0 <= p.bt /\ p.bt <= 10000000) (h3 : ∀ c ∈ p.cs, CelB c) (h4 : p.bt + p.vh + p.lh + p.ph + heS p.cs = p.ih /\ p.va + p.la + p.pa + aiS p.cs = p.ia) (hp : (0 <= p.vh /\ 0 <= p.va) /\ (0 <= p.lh /\ 0 <= p.la) /\ 0 <= p.ph /\ 0 <= p.pa) (h5 : p.ih <= 1000000000000 /\ p.ia <= 1000000000000) : okPlt p = true := by
 have h6 := he_pos h3
 unfold okPlt okBk
 simp only [Bool.and_eq_true, decide_eq_true_eq]
 refine ⟨⟨⟨⟨h1, by simp [rgB]; omega⟩, ?_⟩, List.all_eq_true.2 fun c hc => okCel_iff.2 (h3 c hc)⟩, h4⟩
 unfold accs bkB rgB
 simp
 omega
theorem tkQ_ok {p : Plt} (h : okPlt p = true) : okPlt (tkQ p) = true := by
 have hl := okPlt_len h
 have hc := okPlt_cs h
 have he := okPlt_eq h
 have hb := okPlt_bt h
 obtain ⟨b1, b2, b3, b4, b5, b6, b7, b8⟩ := bk_all (okPlt_bk h)
 have k1 := heS_tk p.cs
 have k2 := aiS_tk p.cs
 have k3 := tkH_bd hc p.cs.length (Nat.le_refl _)
 have e1 : tkH p.cs p.cs.length = (p.cs.map fun c => outH c (tkN c)).sum := by unfold tkH; rw [List.take_length]
 have e2 : tkA p.cs p.cs.length = (p.cs.map fun c => tkN c - outH c (tkN c)).sum := by unfold tkA; rw [List.take_length]
 refine okPlt_make (by simpa [tkQ] using hl) hb (fun c hcc => ?_) ?_ ?_ ?_
 . simp only [tkQ, List.mem_map] at hcc
   obtain ⟨x, hx, rfl⟩ := hcc
   exact tkC_ok (hc x hx)
 . simp only [tkQ, tkP]; omega
 . simp only [tkQ, tkP]; omega
 . simp only [tkQ, tkP]; omega
theorem share_pos {x y : Int} (hx : 0 <= x /\ x <= 1000000) (hy : 0 <= y /\ y <= 120) : shareS x y 100 = (x * y / 100, (x * y + 99) / 100) := by
 have h1 : 0 <= x * y := Int.mul_nonneg hx.1 hy.1
 have h2 : x * y <= 1000000 * 120 := Int.mul_le_mul hx.2 hy.2 hy.1 (by omega)
 unfold shareS
 rw [show max x (-x) = x by omega, show max y (-y) = y by omega, decide_eq_false (by omega : ¬ x < 0), decide_eq_false (by omega : ¬ y < 0)]
 unfold partS upS
 generalize x * y = z at *
 rw [if_pos (show z / 100 < 2199023255552 by omega)]
 simp only [bne_self_eq_false, Bool.false_eq_true, if_false]
 refine Prod.ext rfl ?_
 show (if 0 < z % 100 then z / 100 + 1 else z / 100) = (z + 99) / 100
 split <;> omega
theorem gain_eq {r : Rig} {l : Leg} (hl : 0 <= l.bl /\ l.bl <= l.bh /\ l.bh <= 1000000) (hr : 0 <= r.gl /\ r.gl <= r.gh /\ r.gh <= 120) : overS (l.bl, l.bh) (r.gl, r.gh) (100, 100) = ((l.bl * r.gl / 100, (l.bh * r.gh + 99) / 100), 0) := by
 have o1 : okS (l.bl, l.bh) = true := okS_iff.2 (by simp only; omega)
 have o2 : okS (r.gl, r.gh) = true := okS_iff.2 (by simp only; omega)
 have o3 : okS (100, 100) = true := by decide
 have p0 : 0 <= l.bl * r.gl := Int.mul_nonneg (by omega) (by omega)
 have p1 : l.bl * r.gl <= l.bh * r.gl := Int.mul_le_mul_of_nonneg_right (by omega) (by omega)
 have p2 : l.bl * r.gl <= l.bl * r.gh := Int.mul_le_mul_of_nonneg_left (by omega) (by omega)
 have p3 : l.bh * r.gl <= l.bh * r.gh := Int.mul_le_mul_of_nonneg_left (by omega) (by omega)
 have p4 : l.bl * r.gh <= l.bh * r.gh := Int.mul_le_mul_of_nonneg_right (by omega) (by omega)
 have p5 : l.bh * r.gh <= 1000000 * 120 := Int.mul_le_mul (by omega) (by omega) (by omega) (by omega)
 unfold overS
 rw [o1, o2, o3]
 simp only [Bool.and_self, if_true, show ¬ (100 : Int) < 1 by omega, if_false]
 unfold endsS endS aroundS joinI
 simp only [List.foldl_cons, List.foldl_nil, show ¬ ((0 : Nat) % 2 = 1) by decide, show ((1 : Nat) % 2 = 1) by decide, if_true, if_false, ite_self]
 rw [share_pos (by omega) (by omega), share_pos (by omega) (by omega), share_pos (by omega) (by omega), share_pos (by omega) (by omega)]
 simp only
 unfold sizedS
 generalize l.bl * r.gl = a at *
 generalize l.bh * r.gl = b at *
 generalize l.bl * r.gh = c at *
 generalize l.bh * r.gh = d at *
 rw [if_neg (by simp only; omega)]
 simp only [Prod.mk.injEq, and_true]
 omega
structure RigB (r : Rig) : Prop where
 g : 0 <= r.gl /\ r.gl <= r.gh /\ r.gh <= 120
 t : 0 <= r.tank /\ r.tank <= 1000000000
 v : 0 <= r.rsv /\ r.rsv <= 1000000000
 h : -500 <= r.lo /\ r.lo <= r.hi /\ r.hi <= 9000
 r : regS r.reg = true
theorem okRig_B {r : Rig} (h : okRig r = true) : RigB r := by
 unfold okRig at h; simp only [Bool.and_eq_true, spB_iff] at h
 obtain ⟨⟨⟨h1, h2⟩, h3⟩, h4⟩ := h
 simp [rgB] at h2
 exact ⟨h1, by omega, by omega, h3, h4⟩
structure LegB (l : Leg) : Prop where
 m : 1 <= l.m /\ l.m <= 600
 x : -1000 <= l.axl /\ l.axl <= l.axh /\ l.axh <= 1000
 y : -1000 <= l.ayl /\ l.ayl <= l.ayh /\ l.ayh <= 1000
 u : -300 <= l.ul /\ l.ul <= l.uh /\ l.uh <= 300
 b : 0 <= l.bl /\ l.bl <= l.bh /\ l.bh <= 1000000
theorem okLeg_B {l : Leg} (h : okLeg l = true) : LegB l := by
 have hm := okLeg_m h
 unfold okLeg at h; simp only [Bool.and_eq_true, spB_iff] at h
 exact ⟨hm, h.1.1.1.1.1.2.1, h.1.1.1.1.1.2.2, h.1.1.1.1.2, h.1.1.1.2⟩
structure ShpX (s : Shp) : Prop where
 x : -10000000 <= s.xl /\ s.xl <= s.xh /\ s.xh <= 10000000
 y : -10000000 <= s.yl /\ s.yl <= s.yh /\ s.yh <= 10000000
 b : 0 <= s.bl /\ s.bl <= s.bh /\ s.bh <= 1000000000000
 p : 0 <= s.drp /\ s.drp <= 1000000000000
theorem okShp_X {s : Shp} (h : okShp s = true) : ShpX s := by
 have hn := okShp_num h
 unfold okShp at h; simp only [Bool.and_eq_true, spB_iff] at h
 exact ⟨h.1.1.1.1.1.1.1, h.1.1.1.1.1.1.2, h.1.1.1.2, hn.2⟩
theorem okShp_make {s : Shp} (hb : ShpB s) (hx : ShpX s) (hg : okPlt s.gas = true) : okShp s = true := by
 have h1 := hb.d; have h2 := hb.b; have h3 := hx.p
 unfold okShp; simp only [Bool.and_eq_true, spB_iff]
 exact ⟨⟨⟨⟨⟨⟨⟨hx.x, hx.y⟩, hb.h⟩, hb.f, hb.w⟩, hx.b⟩, by simp [rgB]; omega⟩, by simp [rgB]; omega⟩, hg⟩
structure MinOk (k : Sky) (r : Rig) (s : Shp) (l : Leg) : Prop where
 lo : r.lo <= (mhS s l).1
 hi : (mhS s l).2 <= r.hi
 fit : ∀ c ∈ (tkQ s.gas).cs, fitV c (atA k.s (mhS s l).1 (mhS s l).2).1 = 1
 rsv : r.rsv <= s.fl - l.bh
 trim : rectS r.reg (spdS l) (hvS (bthS s (nxtS k r s l)) (atA k.s (mhS s l).1 (mhS s l).2).1) = true
 far : farB (nxtS k r s l) = true
 full : s.bh + l.bh <= 1000000000000
theorem ixF_neg {a : Atm} {cs : List Cel} : ¬ 0 <= ixF (nofit a) cs ↔ ∀ c ∈ cs, fitV c a = 1 := by
 have h := ixF_any (nofit a) cs
 by_cases h0 : 0 <= ixF (nofit a) cs
 . rw [decide_eq_true h0] at h
   obtain ⟨c, hc, hn⟩ := List.any_eq_true.1 h.symm
   refine ⟨fun h => absurd h0 h, fun h2 => ?_⟩
   have := h2 c hc
   unfold nofit at hn
   rw [decide_eq_true this] at hn
   cases hn
 . rw [decide_eq_false h0] at h
   refine ⟨fun _ c hc => ?_, fun _ => h0⟩
   have := List.any_eq_false.1 h.symm c hc
   unfold nofit at this
   by_cases he : fitV c a = 1
   . exact he
   . rw [decide_eq_false he] at this; simp at this
theorem min_iff {k : Sky} {r : Rig} {s n : Shp} {l : Leg} : minS k r s l = .ok n ↔ MinOk k r s l /\ n = nxtS k r s l := by
 constructor
 . intro h
   unfold minS at h
   split at h
   . rename_i he
     split at h
     . cases h
     . rename_i hf
       refine ⟨?_, (Except.ok.inj h).symm⟩
       unfold evtS at he
       split at he
       . simp at he
       split at he
       . simp at he
       split at he
       . rename_i h3; simp at he
       split at he
       . simp at he
       split at he
       . simp at he
       split at he
       . simp at he
       rename_i h1 h2 h3 h4 h5 h6
       exact ⟨by omega, by omega, ixF_neg.1 h3, by omega, by simpa using h5, by simpa using h6, by omega⟩
   . cases h
 . rintro ⟨h, rfl⟩
   have e : evtS k r s l = (0, 0) := by
     unfold evtS
     rw [if_neg (by have := h.lo; omega), if_neg (by have := h.hi; omega), if_neg (ixF_neg.2 h.fit), if_neg (by have := h.rsv; omega), if_neg (by rw [h.trim]; simp), if_neg (by rw [h.far]; simp)]
   unfold minS
   rw [e, if_pos rfl, if_neg (by have := h.full; omega)]
def rngS (k : Sky) (r : Rig) : Bool := match k.s[0]? with
 | some x => decide (x.h <= r.lo) && decide (r.hi <= lastH k.s)
 | none => false
theorem sky_at {k : Sky} {r : Rig} (hk : okSky k = true) (hr : rngS k r = true) {a b : Int} (h1 : r.lo <= a) (h2 : a <= b) (h3 : b <= r.hi) : AtOk k.s a b := by
 unfold okSky at hk
 simp only [Bool.and_eq_true, decide_eq_true_eq] at hk
 have ho : OkS k.s := by
   refine okSnd_iff.1 ?_
   have := hk.1
   unfold setS at this
   by_cases h : okSnd k.s = true
   . exact h
   . rw [if_neg h] at this; simp at this
 have hf := (set_zero ho).1 hk.1
 have hl := ho.len
 obtain ⟨x, hx⟩ : ∃ x, k.s[0]? = some x := ⟨_, List.getElem?_eq_getElem (by omega)⟩
 obtain ⟨y, hy⟩ : ∃ y, k.s[k.s.length - 1]? = some y := ⟨_, List.getElem?_eq_getElem (by omega)⟩
 unfold rngS lastH at hr
 rw [hx, hy] at hr
 simp only [Bool.and_eq_true, decide_eq_true_eq] at hr
 exact at_make ho hf h2 (inS_of hx hy (by omega) (by omega)) (inS_of hx hy (by omega) (by omega))
theorem sky_w {k : Sky} (hk : okSky k = true) : OkW k.w := by
 unfold okSky at hk
 simp only [Bool.and_eq_true] at hk
 exact okWnd_iff hk.2
theorem mh_ord {s : Shp} {l : Leg} (hs : ShpB s) (hl : LegB l) : (mhS s l).1 <= (mhS s l).2 := by
 have h1 := hs.h; have h2 := hl.u
 unfold mhS; simp only; omega
theorem min_ok {k : Sky} {r : Rig} {s : Shp} {l : Leg} (hr : RigB r) (hs : okShp s = true) (hl : LegB l) (h : MinOk k r s l) : okShp (nxtS k r s l) = true := by
 have hb := okShp_B hs
 have hx := okShp_X hs
 have b1 := hb.h; have b2 := hb.f; have b3 := hb.w; have b4 := hx.b
 have g1 := hr.g; have g2 := hr.t; have g3 := hr.v; have g4 := hr.h
 have l1 := hl.u; have l2 := hl.b
 have m1 := h.lo; have m2 := h.hi; have m3 := h.rsv; have m4 := h.full
 have hfar := h.far
 have ge := gain_eq l2 g1
 have p0 : 0 <= l.bl * r.gl := Int.mul_nonneg (by omega) (by omega)
 have p1 : l.bl * r.gl <= l.bh * r.gh := Int.mul_le_mul (by omega) (by omega) (by omega) (by omega)
 unfold mhS at m1 m2
 simp only at m1 m2
 unfold farB at hfar
 simp only [Bool.and_eq_true, spB_iff] at hfar
 have htk := tkQ_ok (okShp_gas hs)
 refine okShp_make ⟨?_, ?_, ?_, hb.d, hb.b, okPlt_len htk, okPlt_cs htk⟩ ⟨hfar.1, hfar.2, ?_, hx.p⟩ htk
 . unfold nxtS; simp only; omega
 . unfold nxtS; simp only; omega
 . unfold nxtS gainS; rw [ge]; simp only; omega
 . unfold nxtS; simp only; omega
structure NarS (s t : Shp) : Prop where
 x : sub2 (s.xl, s.xh) (t.xl, t.xh)
 y : sub2 (s.yl, s.yh) (t.yl, t.yh)
 h : sub2 (s.hl, s.hh) (t.hl, t.hh)
 f : sub2 (s.fl, s.fh) (t.fl, t.fh)
 w : sub2 (s.wl, s.wh) (t.wl, t.wh)
 b : sub2 (s.bl, s.bh) (t.bl, t.bh)
 dry : s.dry = t.dry
 bal : s.bal = t.bal
 drp : s.drp = t.drp
 gas : s.gas = t.gas
structure Wid (a b : Rig) : Prop where
 reg : a.reg = b.reg
 gl : a.gl = b.gl
 gh : a.gh = b.gh
 tank : a.tank = b.tank
 rsv : a.rsv <= b.rsv
 lo : a.lo <= b.lo
 hi : b.hi <= a.hi
end Go.Proofs.Tryz
