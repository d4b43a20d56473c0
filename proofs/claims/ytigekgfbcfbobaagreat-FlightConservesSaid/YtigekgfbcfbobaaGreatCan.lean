/- Own lemmas and contracts of functions, used by the last text of this claim for the given statement. Conditions: those that each theorem states. -/
import Derived.Test.YtigekgfbcfbobaaGreatCag
import Derived.Test.YtigekgfbcfbobaaGreatCah
import Derived.Test.YtigekgfbcfbobaaGreatCai
import Derived.Test.YtigekgfbcfbobaaGreatCak
import Derived.Test.YtigekgfbcfbobaaGreatCal
import Derived.Test.YtigekgfbcfbobaaGreatCam
namespace Go.Proofs.Tryz
open Go.Psl
open Go.Air
def minL : Nat -> List Leg -> List (Nat × Nat)
 | _, [] => []
 | i, x :: r => (List.range x.m.toNat).map (fun m => (i, m)) ++ minL (i + 1) r
abbrev Evt := Int × Int × Int × Int
def ev0 : Evt := (0, 0, 0, 0)
def oneS (k : Sky) (r : Rig) (x : Leg) (m : Nat) (s : Shp) : Except (Int × Int × Int) Shp :=
 if m = 0 then match begS s x with
   | .ok t => minS k r t x
   | .error e => .error (e, 0, 0)
 else minS k r s x
def evOf (i m : Nat) (e : Int × Int × Int) : Int × Evt := (e.1, if e.1 = 54 then (e.2.1, i, m, e.2.2) else ev0)
def flyK (k : Sky) (r : Rig) (l : List Leg) : List (Nat × Nat) -> Shp -> Except (Int × Evt) (List Shp)
 | [], _ => .ok []
 | (i, m) :: rest, s => match l[i]? with
   | none => .error (0, ev0)
   | some x => match oneS k r x m s with
     | .error e => .error (evOf i m e)
     | .ok n => match flyK k r l rest n with
       | .error e => .error e
       | .ok ns => .ok (n :: ns)
def askF (k : Sky) (r : Rig) (s : Shp) (le : Int) : Int :=
 if okSky k then (if okRig r then (if okShp s then (if le = 0 then (if rngS k r then 0 else 2) else le) else 52) else 51) else 50
def flyA (k : Sky) (r : Rig) (s : Shp) (l : List Leg) : Except (Int × Evt) (List Shp) :=
 if askF k r s (chkL l) = 0 then flyK k r l (minL 0 l) s else .error (askF k r s (chkL l), ev0)
theorem mem_minL : ∀ {l : List Leg} {i : Nat} {p : Nat × Nat}, p ∈ minL i l -> ∃ x, i <= p.1 /\ l[p.1 - i]? = some x /\ (p.2 : Int) < x.m
 | [], i, p, h => by simp [minL] at h
 | y :: r, i, p, h => by
   unfold minL at h
   rcases List.mem_append.1 h with h | h
   . simp only [List.mem_map, List.mem_range] at h
     obtain ⟨m, hm, rfl⟩ := h
     exact ⟨y, Nat.le_refl _, by simp, by simp only; omega⟩
   . obtain ⟨x, h1, h2, h3⟩ := mem_minL h
     refine ⟨x, by omega, ?_, h3⟩
     rw [show p.1 - i = (p.1 - (i + 1)) + 1 by omega, List.getElem?_cons_succ]
     exact h2
theorem minL_len : ∀ {l : List Leg} {i : Nat}, (∀ x ∈ l, okLeg x = true) -> ((minL i l).length : Int) = sumM l
 | [], i, _ => by simp [minL, sumM]
 | y :: r, i, h => by
   have h1 := okLeg_m (h y (by simp))
   have h2 := minL_len (l := r) (i := i + 1) fun x hx => h x (by simp [hx])
   unfold sumM at h2 ⊢
   unfold minL
   simp only [List.length_append, List.length_map, List.length_range, List.map_cons, List.sum_cons]
   omega
structure GasR (p q : Plt) : Prop where
 bt : q.bt = p.bt
 ih : q.ih = p.ih
 ia : q.ia = p.ia
 ph : q.ph = p.ph
 pa : q.pa = p.pa
 n : q.cs.length = p.cs.length
theorem GasR.refl (p : Plt) : GasR p p := ⟨rfl, rfl, rfl, rfl, rfl, rfl⟩
theorem GasR.trans {p q r : Plt} (h : GasR p q) (g : GasR q r) : GasR p r := ⟨g.bt.trans h.bt, g.ih.trans h.ih, g.ia.trans h.ia, g.ph.trans h.ph, g.pa.trans h.pa, g.n.trans h.n⟩
theorem finS_eq {p q : Plt} (h : finS p = .ok q) : q = p := by
 unfold finS at h
 split at h
 . exact (Except.ok.inj h).symm
 . cases h
theorem doS_R {p q : Plt} {a : Act} (h : doS p a = .ok q) : GasR p q := by
 unfold doS vlS mvS at h
 repeat' split at h
 all_goals first
   | (cases h; done)
   | (have e := finS_eq h; subst e; exact ⟨rfl, rfl, rfl, rfl, rfl, by simp [vlP]⟩)
   | (have e := finS_eq h; subst e; exact ⟨rfl, rfl, rfl, rfl, rfl, by simp [mvP]⟩)
   | (have e := finS_eq h; subst e; exact ⟨rfl, rfl, rfl, rfl, rfl, by simp [tkQ]⟩)
theorem playS_ok : ∀ {acts : List Act} {p : Plt} {i : Nat}, okPlt p = true -> (playS p acts i).2.2 = 0 -> okPlt (playS p acts i).1 = true /\ GasR p (playS p acts i).1
 | [], p, i, h, _ => ⟨h, GasR.refl p⟩
 | a :: r, p, i, h, he => by
   unfold playS at he ⊢
   cases hd : doS p a with
   | ok q =>
     rw [hd] at he
     simp only at he ⊢
     have := playS_ok (doS_ok hd) he
     exact ⟨this.1, (doS_R hd).trans this.2⟩
   | error e =>
     rw [hd] at he
     exact absurd he (doS_err hd)
theorem beg_iff {s t : Shp} {x : Leg} : begS s x = .ok t ↔ ((playS s.gas x.acts 0).2.2 = 0 /\ x.dr <= s.bal /\ s.drp + x.dr <= 1000000000000) /\ t = { s with gas := (playS s.gas x.acts 0).1, bal := s.bal - x.dr, drp := s.drp + x.dr } := by
 unfold begS
 constructor
 . intro h
   split at h
   . rename_i h1
     split at h
     . cases h
     split at h
     . cases h
     rename_i h2 h3
     exact ⟨⟨h1, by omega, by omega⟩, (Except.ok.inj h).symm⟩
   . cases h
 . rintro ⟨⟨h1, h2, h3⟩, rfl⟩
   rw [if_pos h1, if_neg (by omega), if_neg (by omega)]
theorem beg_ok {s t : Shp} {x : Leg} (hs : okShp s = true) (hx : okLeg x = true) (h : begS s x = .ok t) : okShp t = true := by
 obtain ⟨⟨h1, h2, h3⟩, rfl⟩ := beg_iff.1 h
 have hb := okShp_B hs
 have hX := okShp_X hs
 have q := okLeg_acts hx
 have hp := (playS_ok (okShp_gas hs) h1).1
 have b1 := hb.b; have p1 := hX.p
 exact okShp_make ⟨hb.h, hb.f, hb.w, hb.d, by simp only; omega, okPlt_len hp, okPlt_cs hp⟩ ⟨hX.x, hX.y, hX.b, by simp only; omega⟩ hp
structure Trip (k : Sky) (r : Rig) : Prop where
 sky : okSky k = true
 rig : RigB r
 rng : rngS k r = true
theorem one_iff {k : Sky} {r : Rig} {x : Leg} {m : Nat} {s n : Shp} : oneS k r x m s = .ok n ↔ ∃ t, (if m = 0 then begS s x = .ok t else t = s) /\ MinOk k r t x /\ n = nxtS k r t x := by
 unfold oneS
 by_cases hm : m = 0
 . rw [if_pos hm]
   constructor
   . intro h
     cases hb : begS s x with
     | ok t => rw [hb] at h; exact ⟨t, by rw [if_pos hm], min_iff.1 h⟩
     | error e => rw [hb] at h; cases h
   . rintro ⟨t, h1, h2⟩
     rw [if_pos hm] at h1
     rw [h1]
     exact min_iff.2 h2
 . rw [if_neg hm]
   constructor
   . intro h
     exact ⟨s, by rw [if_neg hm], min_iff.1 h⟩
   . rintro ⟨t, h1, h2⟩
     rw [if_neg hm] at h1
     subst h1
     exact min_iff.2 h2
theorem start_ok {x : Leg} {m : Nat} {s t : Shp} (hs : okShp s = true) (hx : okLeg x = true) (h : if m = 0 then begS s x = .ok t else t = s) : okShp t = true := by
 by_cases hm : m = 0
 . rw [if_pos hm] at h; exact beg_ok hs hx h
 . rw [if_neg hm] at h; subst h; exact hs
theorem one_ok {k : Sky} {r : Rig} (hT : Trip k r) {x : Leg} {m : Nat} {s n : Shp} (hs : okShp s = true) (hx : okLeg x = true) (h : oneS k r x m s = .ok n) : okShp n = true := by
 obtain ⟨t, h1, h2, rfl⟩ := one_iff.1 h
 exact min_ok hT.rig (start_ok hs hx h1) (okLeg_B hx) h2
theorem NarS.refl (s : Shp) : NarS s s := by
 refine ⟨?_, ?_, ?_, ?_, ?_, ?_, rfl, rfl, rfl, rfl⟩ <;> exact ⟨Int.le_refl _, Int.le_refl _⟩
theorem Wid.refl (r : Rig) : Wid r r := ⟨rfl, rfl, rfl, rfl, Int.le_refl _, Int.le_refl _, Int.le_refl _⟩
def NarL : List Shp -> List Shp -> Prop
 | [], [] => True
 | a :: r, b :: q => NarS a b /\ NarL r q
 | _, _ => False
theorem NarL.at : ∀ {a b : List Shp}, NarL a b -> a.length = b.length /\ ∀ (i : Nat) (x y : Shp), a[i]? = some x -> b[i]? = some y -> NarS x y
 | [], [], _ => ⟨rfl, fun i x y h => by simp at h⟩
 | a :: r, b :: q, h => by
   obtain ⟨h1, h2⟩ := NarL.at h.2
   refine ⟨by simp [h1], fun i x y hx hy => ?_⟩
   cases i with
   | zero => simp at hx hy; subst hx hy; exact h.1
   | succ i => exact h2 i x y (by simpa using hx) (by simpa using hy)
 | [], _ :: _, h => h.elim
 | _ :: _, [], h => h.elim
section
variable {k : Sky} {r : Rig} {l : List Leg}
theorem fly_cons {i m : Nat} {rest : List (Nat × Nat)} {s : Shp} {ns : List Shp} : flyK k r l ((i, m) :: rest) s = .ok ns ↔ ∃ x n q, l[i]? = some x /\ oneS k r x m s = .ok n /\ flyK k r l rest n = .ok q /\ ns = n :: q := by
 conv => lhs; unfold flyK
 constructor
 . intro h
   split at h
   . cases h
   rename_i x hx
   split at h
   . cases h
   rename_i n hn
   split at h
   . cases h
   rename_i q hq
   exact ⟨x, n, q, hx, hn, hq, (Except.ok.inj h).symm⟩
 . rintro ⟨x, n, q, hx, hn, hq, rfl⟩
   rw [hx]; simp only; rw [hn]; simp only; rw [hq]
theorem fly_len : ∀ {im : List (Nat × Nat)} {s : Shp} {ns : List Shp}, flyK k r l im s = .ok ns -> ns.length = im.length
 | [], s, ns, h => by cases h; rfl
 | (i, m) :: rest, s, ns, h => by
   obtain ⟨x, n, q, _, _, hq, rfl⟩ := fly_cons.1 h
   have := fly_len hq
   simp [this]
theorem fly_ok (hT : Trip k r) (hl : ∀ x ∈ l, okLeg x = true) : ∀ {im : List (Nat × Nat)} {s : Shp} {ns : List Shp}, okShp s = true -> flyK k r l im s = .ok ns -> ∀ n ∈ ns, okShp n = true
 | [], s, ns, _, h, n, hn => by cases h; simp at hn
 | (i, m) :: rest, s, ns, hs, h, n, hn => by
   obtain ⟨x, n1, q, hx, h1, hq, rfl⟩ := fly_cons.1 h
   have h2 := one_ok hT hs (hl x (List.mem_of_getElem? hx)) h1
   rcases List.mem_cons.1 hn with rfl | hn
   . exact h2
   . exact fly_ok hT hl h2 hq n hn
theorem min_err {s : Shp} {x : Leg} {e : Int × Int × Int} (h : minS k r s x = .error e) : ¬ e.1 = 0 := by
 unfold minS at h
 split at h
 . split at h
   . cases h; decide
   . cases h
 . cases h; simp
theorem beg_err {s : Shp} {x : Leg} {e : Int} (h : begS s x = .error e) : ¬ e = 0 := by
 unfold begS at h
 split at h
 . split at h
   . cases h; decide
   split at h
   . cases h; decide
   . cases h
 . rename_i h1; cases h; exact h1
theorem one_err {s : Shp} {x : Leg} {m : Nat} {e : Int × Int × Int} (h : oneS k r x m s = .error e) : ¬ e.1 = 0 := by
 unfold oneS at h
 split at h
 . split at h
   . exact min_err h
   . rename_i e' he; cases h; exact beg_err he
 . exact min_err h
theorem fly_err : ∀ {im : List (Nat × Nat)} {s : Shp} {e : Int × Evt}, (∀ p ∈ im, ∃ x, l[p.1]? = some x) -> flyK k r l im s = .error e -> ¬ e.1 = 0 /\ ((e.1 = 54 /\ ¬ e.2.1 = 0 /\ ∃ p ∈ im, e.2.2.1 = p.1 /\ e.2.2.2.1 = p.2) \/ (¬ e.1 = 54 /\ e.2 = ev0))
 | [], s, e, _, h => by cases h
 | (i, m) :: rest, s, e, hm, h => by
   unfold flyK at h
   obtain ⟨x, hx⟩ := hm (i, m) (by simp)
   rw [hx] at h
   simp only at h
   split at h
   . rename_i e' he
     cases h
     have h1 := one_err he
     refine ⟨h1, ?_⟩
     unfold evOf
     simp only
     by_cases h5 : e'.1 = 54
     . refine .inl ⟨h5, ?_, (i, m), by simp, ?_, ?_⟩
       . rw [if_pos h5]
         have key : ∀ t : Shp, minS k r t x = .error e' -> ¬ e'.2.1 = 0 := fun t ht => by
           unfold minS at ht
           split at ht
           . split at ht
             . cases ht; simp at h5
             . cases ht
           . rename_i hz; cases ht; exact hz
         have hbeg : ∀ t : Shp, ∀ e : Int, begS t x = .error e -> ¬ e = 54 := fun t e ht => by
           have pe : ∀ {acts : List Act} {p : Plt} {i : Nat}, ¬ (playS p acts i).2.2 = 54 := by
             intro acts
             induction acts with
             | nil => intro p i; simp [playS]
             | cons a rr ih =>
               intro p i
               unfold playS
               cases hd : doS p a with
               | ok q => exact ih
               | error e =>
                 show ¬ e = 54
                 unfold doS vlS mvS at hd
                 repeat' split at hd
                 all_goals first | (have := finS_err hd; omega) | (cases hd; omega)
           unfold begS at ht
           split at ht
           . split at ht
             . cases ht; decide
             split at ht
             . cases ht; decide
             . cases ht
           . cases ht; exact pe
         unfold oneS at he
         split at he
         . split at he
           . exact key _ he
           . rename_i e2 he2; cases he; exact absurd h5 (hbeg _ _ he2)
         . exact key _ he
       . rw [if_pos h5]
       . rw [if_pos h5]
     . exact .inr ⟨h5, by rw [if_neg h5]⟩
   . rename_i n hn
     split at h
     . rename_i e' he
       cases h
       obtain ⟨h1, h2⟩ := fly_err (fun p hp => hm p (by simp [hp])) he
       refine ⟨h1, ?_⟩
       rcases h2 with ⟨h2, h3, p, hp, h4⟩ | h2
       . exact .inl ⟨h2, h3, p, by simp [hp], h4⟩
       . exact .inr h2
     . cases h
structure Cons (r : Rig) (s t : Shp) (n : Nat) : Prop where
 drop : t.bal + t.drp = s.bal + s.drp
 lo : t.fl + t.bh = s.fl + s.bh
 hi : t.fh + t.bl = s.fh + s.bl
 dry : t.dry = s.dry
 gas : GasR s.gas t.gas
 burn : s.bh <= t.bh
 water : 100 * (t.wh - s.wh) <= (t.bh - s.bh) * r.gh + 99 * n
theorem Cons.refl (r : Rig) (s : Shp) : Cons r s s 0 := ⟨rfl, rfl, rfl, rfl, GasR.refl _, Int.le_refl _, by simp⟩
theorem Cons.trans {r : Rig} {s t u : Shp} {n m : Nat} (h : Cons r s t n) (g : Cons r t u m) : Cons r s u (n + m) := by
 obtain ⟨a1, a2, a3, a4, a5, a6, a7⟩ := h
 obtain ⟨b1, b2, b3, b4, b5, b6, b7⟩ := g
 refine ⟨by omega, by omega, by omega, by omega, a5.trans b5, by omega, ?_⟩
 have e : (u.bh - s.bh) * r.gh = (u.bh - t.bh) * r.gh + (t.bh - s.bh) * r.gh := by rw [<- Int.add_mul]; congr 1; omega
 omega
theorem tkQ_R (p : Plt) : GasR p (tkQ p) := ⟨rfl, rfl, rfl, rfl, rfl, by simp [tkQ]⟩
theorem min_cons (hr : RigB r) {s : Shp} {x : Leg} (hx : LegB x) : Cons r s (nxtS k r s x) 1 /\ (nxtS k r s x).wh <= r.tank := by
 have l1 := hx.b; have g1 := hr.g
 have ge := gain_eq l1 g1
 have p1 : 0 <= x.bh * r.gh := Int.mul_nonneg (by omega) (by omega)
 refine ⟨⟨rfl, ?_, ?_, rfl, tkQ_R _, ?_, ?_⟩, ?_⟩
 . unfold nxtS; simp only; omega
 . unfold nxtS; simp only; omega
 . unfold nxtS; simp only; omega
 . unfold nxtS gainS; rw [ge]; simp only
   rw [show s.bh + x.bh - s.bh = x.bh by omega]
   omega
 . unfold nxtS; simp only; omega
theorem beg_cons {s t : Shp} {x : Leg} (hs : okShp s = true) (h : begS s x = .ok t) : Cons r s t 0 := by
 obtain ⟨⟨h1, h2, h3⟩, rfl⟩ := beg_iff.1 h
 exact ⟨by simp only; omega, rfl, rfl, rfl, (playS_ok (okShp_gas hs) h1).2, Int.le_refl _, by simp⟩
theorem one_cons (hr : RigB r) {s n : Shp} {x : Leg} {m : Nat} (hs : okShp s = true) (hx : okLeg x = true) (h : oneS k r x m s = .ok n) : Cons r s n 1 /\ n.wh <= r.tank := by
 obtain ⟨t, h1, h2, rfl⟩ := one_iff.1 h
 have c := min_cons (k := k) hr (s := t) (okLeg_B hx)
 refine ⟨?_, c.2⟩
 by_cases hm : m = 0
 . rw [if_pos hm] at h1
   have := (beg_cons (r := r) hs h1).trans c.1
   simpa using this
 . rw [if_neg hm] at h1; subst h1; exact c.1
theorem fly_cons_all (hT : Trip k r) (hl : ∀ x ∈ l, okLeg x = true) {s0 : Shp} : ∀ {im : List (Nat × Nat)} {s : Shp} {ns : List Shp} {j : Nat}, okShp s = true -> Cons r s0 s j -> flyK k r l im s = .ok ns -> ∀ (i : Nat) (n : Shp), ns[i]? = some n -> Cons r s0 n (j + i + 1) /\ n.wh <= r.tank
 | [], s, ns, j, _, _, h, i, n, hn => by cases h; simp at hn
 | (a, m) :: rest, s, ns, j, hs, hc, h, i, n, hn => by
   obtain ⟨x, n1, q, hx, h1, hq, rfl⟩ := fly_cons.1 h
   have hxl := hl x (List.mem_of_getElem? hx)
   have h2 := one_cons hT.rig hs hxl h1
   have h3 := hc.trans h2.1
   cases i with
   | zero => simp at hn; subst hn; exact ⟨h3, h2.2⟩
   | succ i =>
     have := fly_cons_all hT hl (one_ok hT hs hxl h1) h3 hq i n (by simpa using hn)
     rw [show j + (i + 1) + 1 = j + 1 + i + 1 by omega]
     exact this
end
end Go.Proofs.Tryz
namespace Go.Proofs.Tryz
open Go.Psl
open Go.Air
def exSky : Sky := ⟨[⟨0, 10000, 10000, 2800, 2800⟩, ⟨1000, 8850, 8853, 2800, 2800⟩], [⟨0, 10, 20, 0, 0, 0⟩]⟩
def exReg : List (Int × Int) := [(0, -2000), (200, -2000), (200, 2000), (0, 2000)]
def exRig : Rig := ⟨exReg, 50, 100, 30, 100, 0, 900⟩
def exPlt : Plt := ⟨[⟨70, 220, 0, 0, 0, 0, 0⟩], 0, 220, 0, 0, 0, 0, 0, 0, 0⟩
def exShip : Shp := ⟨0, 0, 0, 0, 100, 100, 1000, 1000, 0, 0, 0, 0, 4000, 500, 0, exPlt⟩
def exLeg : Leg := ⟨2, 100, 100, 0, 0, 40, 60, 10, 20, 100, []⟩
def exA : Shp := ⟨660, 720, 0, 0, 140, 160, 980, 990, 5, 20, 10, 20, 4000, 400, 100, exPlt⟩
def exB : Shp := ⟨1320, 1440, 0, 0, 180, 220, 960, 980, 10, 30, 20, 40, 4000, 400, 100, exPlt⟩
theorem ex_hull : hullP exReg = exReg := by
 rw [hullP_eq (m := [(0, -2000), (0, 2000), (200, -2000), (200, 2000)]) (by decide +kernel) (by decide +kernel)]
 decide +kernel
theorem ex_reg : regS exReg = true := by
 unfold regS
 rw [ex_hull]
 decide +kernel
theorem ex_sky : okSky exSky = true := by decide +kernel
theorem ex_hv : hvA exSky exShip = ((0, 0), 0) := by decide +kernel
theorem ex_ship : okShp exShip = true := by decide +kernel
theorem ex_rig : okRig exRig = true := by
 unfold okRig
 rw [show exRig.reg = exReg from rfl, ex_reg]
 decide +kernel
def exLow : Rig := { exRig with hi := 219 }
theorem ex_rigL : okRig exLow = true := by
 unfold okRig
 rw [show exLow.reg = exReg from rfl, ex_reg]
 decide +kernel
theorem ex_rect (s h : Int × Int) (hh : (okC (s.1, h.1) && insS exReg (s.1, h.1)) && (okC (s.1, h.2) && insS exReg (s.1, h.2)) && (okC (s.2, h.1) && insS exReg (s.2, h.1)) && (okC (s.2, h.2) && insS exReg (s.2, h.2)) = true) : rectS exReg s h = true := by
 unfold rectS inV
 rw [ex_reg]
 simpa using hh
def exT : Shp := { exShip with bal := 400, drp := 100 }
theorem ex_beg : begS exShip exLeg = .ok exT := beg_iff.2 ⟨by decide +kernel, rfl⟩
theorem ex_min1 : MinOk exSky exRig exT exLeg := ⟨by decide +kernel, by decide +kernel, by decide +kernel, by decide +kernel, ex_rect _ _ (by decide +kernel), by decide +kernel, by decide +kernel⟩
theorem ex_nxt1 : exA = nxtS exSky exRig exT exLeg := by kernel_rfl
theorem ex_min2 : MinOk exSky exRig exA exLeg := ⟨by decide +kernel, by decide +kernel, by decide +kernel, by decide +kernel, ex_rect _ _ (by decide +kernel), by decide +kernel, by decide +kernel⟩
theorem ex_nxt2 : exB = nxtS exSky exRig exA exLeg := by kernel_rfl
theorem ex_low1 : MinOk exSky exLow exT exLeg := ⟨by decide +kernel, by decide +kernel, by decide +kernel, by decide +kernel, ex_rect _ _ (by decide +kernel), by decide +kernel, by decide +kernel⟩
theorem ex_nxtL : exA = nxtS exSky exLow exT exLeg := by kernel_rfl
theorem ex_low2 : minS exSky exLow exA exLeg = .error (54, 2, 0) := by
 have e : evtS exSky exLow exA exLeg = (2, 0) := by
   unfold evtS
   rw [if_neg (by decide +kernel), if_pos (by decide +kernel)]
 unfold minS
 rw [e, if_neg (by decide)]
theorem ex_one {r : Rig} {s t : Shp} (hb : begS s exLeg = .ok t) {n : Shp} (h : MinOk exSky r t exLeg) (hn : n = nxtS exSky r t exLeg) : oneS exSky r exLeg 0 s = .ok n := one_iff.2 ⟨t, by rw [if_pos rfl]; exact hb, h, hn⟩
theorem ex_fly : flyA exSky exRig exShip [exLeg] = .ok [exA, exB] := by
 have h0 : askF exSky exRig exShip (chkL [exLeg]) = 0 := by
   unfold askF
   rw [ex_sky, ex_rig, ex_ship]
   decide +kernel
 unfold flyA
 rw [if_pos h0, show minL 0 [exLeg] = [(0, 0), (0, 1)] from rfl]
 exact fly_cons.2 ⟨exLeg, exA, [exB], rfl, ex_one ex_beg ex_min1 ex_nxt1, fly_cons.2 ⟨exLeg, exB, [], rfl, one_iff.2 ⟨exA, by rw [if_neg (by decide)], ex_min2, ex_nxt2⟩, rfl, rfl⟩, rfl⟩
theorem ex_low : flyA exSky exLow exShip [exLeg] = .error (54, 2, 0, 1, 0) := by
 have h0 : askF exSky exLow exShip (chkL [exLeg]) = 0 := by
   unfold askF
   rw [ex_sky, ex_rigL, ex_ship]
   decide +kernel
 have e1 := ex_one ex_beg ex_low1 ex_nxtL
 have e2 : oneS exSky exLow exLeg 1 exA = .error (54, 2, 0) := by unfold oneS; rw [if_neg (by decide)]; exact ex_low2
 unfold flyA
 rw [if_pos h0, show minL 0 [exLeg] = [(0, 0), (0, 1)] from rfl]
 unfold flyK
 rw [show ([exLeg] : List Leg)[0]? = some exLeg from rfl]
 simp only
 rw [e1]
 simp only
 unfold flyK
 rw [show ([exLeg] : List Leg)[0]? = some exLeg from rfl]
 simp only
 rw [e2]
 rfl
set_option maxRecDepth 50000
set_option maxHeartbeats 8000000
theorem fn51 (lo hi : Int) : Ct prog 51 [vi lo, vi hi] (vsp lo hi) [] := by
 refine CB func51 c51 (by simp [ntmps51]) fun E hE => ?_
 simp [p51, splice]
 refine RetOk.by (fun _ => none) ?_
 simp [results51]
theorem sky_0 : Ct prog 66 [] (.agg [.ls 0 0 2 5, .ls 1 0 1 6]) [(0, fcel levL exSky.s), (1, fcel galL exSky.w)] := by
 have sp := fn51
 show Ct prog 66 [] (.agg [.ls 0 0 2 5, .ls 1 0 1 6]) [(0, [vi 0, vi 10000, vi 10000, vi 2800, vi 2800, vi 1000, vi 8850, vi 8853, vi 2800, vi 2800]), (1, [vi 0, vi 10, vi 20, vi 0, vi 0, vi 0])]
 refine CB func66 c66 (by simp [ntmps66]) fun E hE => ?_
 simp [p66]
 repeat ((first | (refine CLr (sp 10000 10000) ?_ ?_ ?_; (focus (simp; done)); (focus (first | (left; simp; done) | (right; simp; done)))) | (refine CLr (sp 2800 2800) ?_ ?_ ?_; (focus (simp; done)); (focus (first | (left; simp; done) | (right; simp; done)))) | (refine CLr (sp 8850 8853) ?_ ?_ ?_; (focus (simp; done)); (focus (first | (left; simp; done) | (right; simp; done)))) | (refine CLr (sp 10 20) ?_ ?_ ?_; (focus (simp; done)); (focus (first | (left; simp; done) | (right; simp; done))))); simp [splice, repl])
 refine RetOk.by (lk [(0, 7340032), (1, 11534336)]) ?_
 simp [results66]
theorem fn66 : Ct prog 66 [] (skyV exSky) [] := by
 refine Cm.freeze sky_0 ?_
 exact ⟨⟨_, rfl, bor_fcel (f := levL) (fun _ => rfl) (l := exSky.s) (by simp)⟩, ⟨_, rfl, bor_fcel (f := galL) (fun _ => rfl) (l := exSky.w) (by simp)⟩, trivial⟩
theorem rig_0 : Ct prog 67 [] (.agg [.ls 0 0 4 2, vi 50, vi 100, vi 30, vi 100, vi 0, vi 900]) [(0, [vi 0, vi (-2000), vi 200, vi (-2000), vi 200, vi 2000, vi 0, vi 2000])] := by
 have sp := fn51
 refine CB func67 c67 (by simp [ntmps67]) fun E hE => ?_
 simp [p67, splice, repl]
 repeat ((first | (refine CLr (sp 50 100) ?_ ?_ ?_; (focus (simp; done)); (focus (first | (left; simp; done) | (right; simp; done))))); simp [splice])
 refine RetOk.by (lk [(0, 5242880)]) ?_
 simp [results67]
theorem fn67 : Ct prog 67 [] (rigV exRig) [] := by
 refine Cm.freeze rig_0 ?_
 have z : ∀ (H : Hp) (x : Int), FzC H (vi x) (vi x) := fun H x => ⟨_, rfl, .inl rfl⟩
 exact ⟨⟨_, rfl, bor_pairs exReg rfl rfl⟩, z _ _, z _ _, z _ _, z _ _, z _ _, z _ _, trivial⟩
theorem ship_0 : Ct prog 64 [] (shpV exShip (.ls 0 0 1 7)) [(0, [vi 70, vi 220, vi 0, vi 0, vi 0, vi 0, vi 0])] := by
 have sp := fn51
 show Ct prog 64 [] (.agg [vi 0, vi 0, vi 0, vi 0, vi 100, vi 100, vi 1000, vi 1000, vi 0, vi 0, vi 0, vi 0, vi 4000, vi 500, vi 0, .ls 0 0 1 7, vi 0, vi 220, vi 0, vi 0, vi 0, vi 0, vi 0, vi 0, vi 0]) _
 refine CB func64 c64 (by simp [ntmps64]) fun E hE => ?_
 simp [p64]
 repeat ((first | (refine CLr (sp 100 100) ?_ ?_ ?_; (focus (simp; done)); (focus (first | (left; simp; done) | (right; simp; done)))) | (refine CLr (sp 1000 1000) ?_ ?_ ?_; (focus (simp; done)); (focus (first | (left; simp; done) | (right; simp; done))))); simp [splice, repl])
 refine RetOk.by (lk [(0, 4194304)]) ?_
 simp [results64]
theorem fn64 : Ct prog 64 [] (shpV exShip (.d (cellsD exShip.gas.cs))) [] := by
 refine Cm.freeze ship_0 ?_
 have z : ∀ (H : Hp) (x : Int), FzC H (vi x) (vi x) := fun H x => ⟨_, rfl, .inl rfl⟩
 exact ⟨z _ _, z _ _, z _ _, z _ _, z _ _, z _ _, z _ _, z _ _, z _ _, z _ _, z _ _, z _ _, z _ _, z _ _, z _ _, ⟨_, rfl, bor_fcel (f := cellL) hfc7 (l := exPlt.cs) rfl⟩, z _ _, z _ _, z _ _, z _ _, z _ _, z _ _, z _ _, z _ _, z _ _, trivial⟩
theorem leg_0 : Ct prog 65 [] (.agg [vi 2, vi 100, vi 100, vi 0, vi 0, vi 40, vi 60, vi 10, vi 20, vi 100, .d (.lit (.slice none 0 0))]) [] := by
 have sp := fn51
 refine CB func65 c65 (by simp [ntmps65]) fun E hE => ?_
 simp [p65]
 repeat ((first | (refine CLr (sp 100 100) ?_ ?_ ?_; (focus (simp; done)); (focus (first | (left; simp; done) | (right; simp; done)))) | (refine CLr (sp 40 60) ?_ ?_ ?_; (focus (simp; done)); (focus (first | (left; simp; done) | (right; simp; done)))) | (refine CLr (sp 10 20) ?_ ?_ ?_; (focus (simp; done)); (focus (first | (left; simp; done) | (right; simp; done))))); simp [splice])
 refine RetOk.by (fun _ => none) ?_
 simp [results65]
theorem fn65 : Ct prog 65 [] (legV exLeg) [] := by
 refine Cm.freeze leg_0 ?_
 have z : ∀ (H : Hp) (x : Int), FzC H (vi x) (vi x) := fun H x => ⟨_, rfl, .inl rfl⟩
 exact ⟨z _ _, z _ _, z _ _, z _ _, z _ _, z _ _, z _ _, z _ _, z _ _, z _ _, ⟨_, rfl, .inr ⟨rfl, _, rfl⟩⟩, trivial⟩
end Go.Proofs.Tryz
namespace Go.Psl
variable {P : Program}
theorem Cm.give {f : FuncId} {args args' : List V} {Hin : Hp} {res : Res} {H1 : Hp} (h : Cm P f args (fun _ => none) [] res H1) (hf : All2 (Fz1 Hin) args' args) : Cm P f args' Hin [] res H1 := by
 refine ⟨h.1, fun G W xs him hargs hpre => ?_⟩
 have him' : ∀ b, fzIm G Hin b -> b < W.heap.size := fun b hb => by
   rcases hb with hb | ⟨i, hi, hph, rfl⟩
   . exact him b hb
   . cases hc : Hin i with
     | none => simp [InH, hc] at hi
     | some cs =>
       rcases hpre.hb i cs hc with ⟨h1, _⟩ | ⟨_, _, _, c, T, h3, _⟩ | ⟨_, _, _, fr, nt, ps, pa, pb, jmp, rec, _, h4, _⟩
       . rw [h1] at hph; cases hph
       . exact (Array.getElem?_eq_some_iff.1 h3).1
       . exact (Array.getElem?_eq_some_iff.1 h4).1
 have hargs' : All2 (R2 { G with Im := fzIm G Hin } W) args xs.toList := All2.of_get (by rw [<- hf.length, hargs.length]) fun i a x ha hx => by
   obtain ⟨a', ha', hr⟩ := hf.get2 ha
   obtain ⟨y, hy, hry⟩ := hargs.get ha'
   rw [hx] at hy; cases hy
   exact fz1 hpre.hb hr hry
 have hno : ∀ b, ¬ lentB { G with Im := fzIm G Hin } (fun _ => none) b := fun b ⟨i, hi, _⟩ => by simp [InH] at hi
 refine Calls.mono (h.2 { G with Im := fzIm G Hin } W xs him' hargs' ⟨fun i cs hc => (by cases hc), fun i j hi => (by simp [InH] at hi), fun i hi => (by cases hi)⟩) fun e W' ⟨G', p⟩ => ?_
 refine ⟨G', p.os, p.tape, p.output, p.drawn, p.size, fun b hb _ => p.block b hb (hno b), fun b hb => ?_, fun b hb => p.im0 b (.inl hb), p.rv, p.wf, fun i cs hc => ?_, p.inj, fun i hi => (by cases hi)⟩
 . obtain ⟨h1, h2⟩ := p.im b hb
   refine ⟨h1, ?_⟩
   rcases h2 with (h2 | ⟨i, hi, hph, rfl⟩) | h2 | h2
   . exact .inl h2
   . exact .inr (.inr ⟨i, hi, hph, rfl⟩)
   . exact .inr (.inl h2)
   . exact absurd h2 (hno b)
 . obtain ⟨h1, h2, h3⟩ := p.hb i cs hc
   refine ⟨h1, fun hp => ?_, h3⟩
   rcases h2 hp with h2 | h2
   . exact .inl h2
   . exact absurd h2 (hno _)
end Go.Psl
namespace Go.Proofs.Tryz
open Go.Psl
open Go.Air
set_option maxRecDepth 20000
set_option maxHeartbeats 8000000
theorem tw_lt {α : Type} {p : α -> Bool} : ∀ {l : List α} {i : Nat} {x : α}, i < (l.takeWhile p).length -> l[i]? = some x -> p x = true
 | [], i, x, h, _ => by simp at h
 | a :: r, i, x, h, hx => by
   rw [List.takeWhile_cons] at h
   by_cases ha : p a = true
   . rw [if_pos ha] at h
     cases i with
     | zero => simp at hx; subst hx; exact ha
     | succ i => exact tw_lt (l := r) (by simpa using h) (by simpa using hx)
   . rw [if_neg ha] at h; simp at h
theorem tw_ge {α : Type} {p : α -> Bool} : ∀ {l : List α} {i : Nat} {x : α}, (∀ (j k : Nat) (x y : α), j <= k -> l[j]? = some x -> l[k]? = some y -> p y = true -> p x = true) -> (l.takeWhile p).length <= i -> l[i]? = some x -> p x = false
 | [], i, x, _, _, hx => by simp at hx
 | a :: r, i, x, hm, h, hx => by
   rw [List.takeWhile_cons] at h
   by_cases ha : p a = true
   . rw [if_pos ha] at h
     cases i with
     | zero => simp at h
     | succ i => exact tw_ge (l := r) (fun j k x y hjk h1 h2 => hm (j + 1) (k + 1) x y (by omega) (by simpa using h1) (by simpa using h2)) (by simpa using h) (by simpa using hx)
   . cases hp : p x with
     | false => rfl
     | true => exact absurd (hm 0 i a x (by omega) (by simp) hx hp) ha
theorem wnd_le {w : List Gal} (hw : OkW w) {i j : Nat} {x y : Gal} (h : i <= j) (hx : w[i]? = some x) (hy : w[j]? = some y) : x.h <= y.h := wnd_mono hw (j - i) i x y hx (by rw [show i + (j - i) = j by omega]; exact hy)
theorem bel_in {w : List Gal} {lo : Int} {i : Nat} {x : Gal} (h : i < belN w lo) (hx : w[i]? = some x) : x.h < lo := by
 have := tw_lt h hx; simpa using this
theorem bel_out {w : List Gal} (hw : OkW w) {lo : Int} {i : Nat} {x : Gal} (h : belN w lo <= i) (hx : w[i]? = some x) : lo <= x.h := by
 have := tw_ge (fun j k x y hjk h1 h2 h3 => by have := wnd_le hw hjk h1 h2; simp at h3 ⊢; omega) h hx
 simp at this; omega
theorem up_in {w : List Gal} {hi : Int} {i : Nat} {x : Gal} (h : i < upN w hi) (hx : w[i]? = some x) : x.h <= hi := by
 have := tw_lt h hx; simpa using this
theorem up_out {w : List Gal} (hw : OkW w) {hi : Int} {i : Nat} {x : Gal} (h : upN w hi <= i) (hx : w[i]? = some x) : hi < x.h := by
 have := tw_ge (fun j k x y hjk h1 h2 h3 => by have := wnd_le hw hjk h1 h2; simp at h3 ⊢; omega) h hx
 simp at this; omega
theorem tw_len {α : Type} {p : α -> Bool} {l : List α} : (l.takeWhile p).length <= l.length := (List.takeWhile_sublist p).length_le
theorem fn106 (l : List Gal) (lo hi : Int) (i : Nat) (x : Gal) (hx : l[i]? = some x) : Ct prog 106 [vi i, .d (.ref [galsD l]), .d (.ref [di lo, di hi])] (vb (decide (lo <= x.h))) [] := by
 have hil : i < l.length := (List.getElem?_eq_some_iff.1 hx).1
 refine CB func106 c106 (by simp [ntmps106]) fun E hE => ?_
 simp [p106, hx]
 refine RetOk.by (fun _ => none) ?_
 simp [results106]
theorem fn107 (l : List Gal) (lo hi : Int) (i : Nat) (x : Gal) (hx : l[i]? = some x) : Ct prog 107 [vi i, .d (.ref [galsD l]), .d (.ref [di lo, di hi])] (vb (decide (hi < x.h))) [] := by
 have hil : i < l.length := (List.getElem?_eq_some_iff.1 hx).1
 refine CB func107 c107 (by simp [ntmps107]) fun E hE => ?_
 simp [p107, hx]
 refine RetOk.by (fun _ => none) ?_
 simp [results107]
theorem fn108 (a b g : Int) (h : -1000000 <= a /\ a <= 1000000 /\ -1000000 <= b /\ b <= 1000000 /\ 0 <= g /\ g <= 1000000) : Ct prog 108 [vsp a b, .d (.ref [di g])] (vsp (a - g) (b + g)) [] := by
 have w1 : IntKind.wrap .i64 (a - g) = a - g := wrap64 (by omega) (by omega)
 have w2 : IntKind.wrap .i64 (b + g) = b + g := wrap64 (by omega) (by omega)
 refine CB func108 c108 (by simp [ntmps108]) fun E hE => ?_
 simp [p108, w1, w2, splice]
 refine RetOk.by (fun _ => none) ?_
 simp [results108]
abbrev wdV (x : Gal) : V := .agg [vi x.xl, vi x.xh, vi x.yl, vi x.yh]
theorem fn110 (x : Gal) : Ct prog 110 [wdV x] (vsp (eastW x).1 (eastW x).2) [] := by
 refine CB func110 c110 (by simp [ntmps110]) fun E hE => ?_
 simp [p110, splice]
 refine RetOk.by (fun _ => none) ?_
 simp [results110, eastW]
theorem fn111 (x : Gal) : Ct prog 111 [wdV x] (vsp (northW x).1 (northW x).2) [] := by
 refine CB func111 c111 (by simp [ntmps111]) fun E hE => ?_
 simp [p111, splice]
 refine RetOk.by (fun _ => none) ?_
 simp [results111, northW]
theorem fn176 (z : Int) (a b : Kn) : Ct prog 176 [vi z, .d (.ref (knL a)), .d (.ref (knL b))] (vi (min (max z a.1) b.1)) [] := by
 refine CB func176 c176 (by simp [ntmps176]) fun E hE => ?_
 simp [p176]
 refine RetOk.by (fun _ => none) ?_
 simp [results176]
def accN (pk : Gal -> Int × Int) (l : List Gal) (i : Nat) : List Kn := (l.take i).map fun x => (x.h, pk x)
theorem accN_next {pk : Gal -> Int × Int} {l : List Gal} {i : Nat} {x : Gal} (h : l[i]? = some x) : accN pk l (i + 1) = accN pk l i ++ [(x.h, pk x)] := by
 unfold accN; rw [List.take_add_one, h]; simp
abbrev wd4 (a b c d : Int) : V := .agg [vi a, vi b, vi c, vi d]
structure WdB (xl xh yl yh : Int) : Prop where
 x : -1000 <= xl /\ xl <= xh /\ xh <= 1000
 y : -1000 <= yl /\ yl <= yh /\ yh <= 1000
theorem bor_i4 {H : Hp} {id : Nat} {a b c d : Int} (h : H id = some [vi a, vi b, vi c, vi d]) : Bor H (.ls id 0 4 1) (.d (intsD [a, b, c, d])) := by
 rw [Bor_ls]; exact ⟨rfl, rfl, by simp, _, h, rfl⟩
theorem fn117 (xl xh yl yh : Int) (h : WdB xl xh yl yh) : Ct prog 117 [wd4 xl xh yl yh] (vi 0) [] := by
 have h1 := h.x; have h2 := h.y
 have c1 := fn105 (xl, xh)
 have c2 := fn105 (yl, yh)
 have c3 := fn120 (-2000) 2000 [xl, xh, yl, yh] (by simp)
 rw [okS_iff.2 (by simp only; omega)] at c1 c2
 rw [show rgB (-2000) 2000 [xl, xh, yl, yh] = true by simp [rgB]; omega] at c3
 have z1 : IntKind.wrap .i64 1 = 1 := by decide
 have z2 : IntKind.wrap .i64 2 = 2 := by decide
 refine CB func117 c117 (by simp [ntmps117]) fun E hE => ?_
 simp [p117, splice]
 refine pw_loop (α := Nat) (fun k => ⟨slots [(1, .lp 0 0), (2, vi 0), (10, wd4 xl xh yl yh), (11, vi k)], lk [(0, [vi xl, vi xh, vi yl, vi yh])], 1⟩) (fun k => k <= 2) (fun k => 2 - k) 0 ?_ ?_ ?_
 . omega
 . refine Weak.mk hE (lk [(0, 0)]) _ _ _ ?_ ?_ ?_ ?_ ?_ <;> simp
 . intro k hk
   match k, hk with
   | 2, _ =>
     simp [p117l0, splice, repl]
     refine CLb (c3) (by simp [bor_i4]) ?_
     simp
     refine RetOk.by (fun _ => none) ?_
     simp [results117]
   | n + 3, h => omega
   | 0, _ =>
     simp [p117l0, splice]
     refine CLa (c1) ?_
     simp [z1]
     refine ⟨1, by omega, by omega, ?_⟩
     refine Weak.mk hE (lk [(0, 0)]) _ _ _ ?_ ?_ ?_ ?_ ?_ <;> simp
   | 1, _ =>
     simp [p117l0, splice]
     refine CLa (c2) ?_
     simp [z2]
     refine ⟨2, by omega, by omega, ?_⟩
     refine Weak.mk hE (lk [(0, 0)]) _ _ _ ?_ ?_ ?_ ?_ ?_ <;> simp
theorem sq_bd {a b : Int} (h : -1000 <= a /\ a <= b /\ b <= 1000) : (0 <= sqN a b /\ sqN a b <= 1000000) /\ (0 <= sqF a b /\ sqF a b <= 1000000) /\ sqN a b <= sqF a b := by
 unfold sqN sqF
 have m1 : 0 <= max (max 0 a) (-b) := by omega
 have m2 : max (max 0 a) (-b) <= max (-a) b := by omega
 have m3 : max (-a) b <= 1000 := by omega
 generalize max (max 0 a) (-b) = x at *
 generalize max (-a) b = y at *
 have e1 : 0 <= x * x := Int.mul_nonneg m1 m1
 have e2 : x * x <= y * y := Int.mul_le_mul m2 m2 m1 (by omega)
 have e3 : y * y <= 1000 * 1000 := Int.mul_le_mul m3 m3 (by omega) (by omega)
 omega
theorem spd_ok {xl xh yl yh : Int} (h : WdB xl xh yl yh) : (spdA xl xh yl yh).2 = 0 := by
 have q1 := sq_bd h.x; have q2 := sq_bd h.y
 unfold spdA rootS
 rw [if_pos (okS_iff.2 (by simp only; omega)), if_neg (by simp only; omega)]
def sumQ (xl xh yl yh : Int) (k : Nat) : Int × Int := if k = 0 then (0, 0) else if k = 1 then (sqN xl xh, sqF xl xh) else (sqN xl xh + sqN yl yh, sqF xl xh + sqF yl yh)
theorem fn55 (xl xh yl yh : Int) (h : WdB xl xh yl yh) : Ct prog 55 [wd4 xl xh yl yh] (.tup [vsp (spdA xl xh yl yh).1.1 (spdA xl xh yl yh).1.2, vi 0]) [] := by
 have h1 := h.x; have h2 := h.y
 have c1 := fn117 xl xh yl yh h
 have c2 := fn118 (sqN xl xh + sqN yl yh, sqF xl xh + sqF yl yh)
 have c2' : Ct prog 118 [vsp (sqN xl xh + sqN yl yh) (sqF xl xh + sqF yl yh)] (.tup [vsp (spdA xl xh yl yh).1.1 (spdA xl xh yl yh).1.2, vi 0]) [] := by
   have e := spd_ok h
   unfold vse at c2
   unfold spdA at e ⊢
   rw [e] at c2
   exact c2
 have q1 := sq_bd h1; have q2 := sq_bd h2
 have z1 : IntKind.wrap .i64 1 = 1 := by decide
 have z2 : IntKind.wrap .i64 2 = 2 := by decide
 have w1 : IntKind.wrap .i64 (-xl) = -xl := wrap64 (by omega) (by omega)
 have w2 : IntKind.wrap .i64 (-xh) = -xh := wrap64 (by omega) (by omega)
 have w3 : IntKind.wrap .i64 (-yl) = -yl := wrap64 (by omega) (by omega)
 have w4 : IntKind.wrap .i64 (-yh) = -yh := wrap64 (by omega) (by omega)
 have w5 : IntKind.wrap .i64 (max 0 (max xl (-xh)) * max 0 (max xl (-xh))) = sqN xl xh := by rw [show max 0 (max xl (-xh)) = max (max 0 xl) (-xh) by omega]; exact wrap64 (by unfold sqN at q1; omega) (by unfold sqN at q1; omega)
 have w6 : IntKind.wrap .i64 (max (-xl) xh * max (-xl) xh) = sqF xl xh := wrap64 (by unfold sqF at q1; omega) (by unfold sqF at q1; omega)
 have w7 : IntKind.wrap .i64 (max 0 (max yl (-yh)) * max 0 (max yl (-yh))) = sqN yl yh := by rw [show max 0 (max yl (-yh)) = max (max 0 yl) (-yh) by omega]; exact wrap64 (by unfold sqN at q2; omega) (by unfold sqN at q2; omega)
 have w8 : IntKind.wrap .i64 (max (-yl) yh * max (-yl) yh) = sqF yl yh := wrap64 (by unfold sqF at q2; omega) (by unfold sqF at q2; omega)
 have w9 : IntKind.wrap .i64 (sqN xl xh) = sqN xl xh := wrap64 (by omega) (by omega)
 have w10 : IntKind.wrap .i64 (sqF xl xh) = sqF xl xh := wrap64 (by omega) (by omega)
 have w11 : IntKind.wrap .i64 (sqN xl xh + sqN yl yh) = sqN xl xh + sqN yl yh := wrap64 (by omega) (by omega)
 have w12 : IntKind.wrap .i64 (sqF xl xh + sqF yl yh) = sqF xl xh + sqF yl yh := wrap64 (by omega) (by omega)
 refine CB func55 c55 (by simp [ntmps55]) fun E hE => ?_
 simp [p55]
 refine CLa (c1) ?_
 simp [splice]
 refine pw_loop (α := Nat) (fun k => ⟨slots [(1, .lp 0 0), (2, .lp 1 0), (5, .lp 2 0), (20, wd4 xl xh yl yh), (21, vi k)], lk [(0, [vi xl, vi xh, vi yl, vi yh]), (1, [vi 0, vi 0]), (2, [vi (sumQ xl xh yl yh k).1, vi (sumQ xl xh yl yh k).2])], 3⟩) (fun k => k <= 2) (fun k => 2 - k) 0 ?_ ?_ ?_
 . omega
 . refine Weak.mk hE (lk [(0, 0), (1, 1048576), (2, 8388608)]) _ _ _ ?_ ?_ ?_ ?_ ?_ <;> simp [sumQ]
 . intro k hk
   match k, hk with
   | 2, _ =>
     simp [p55l0, sumQ]
     refine CLa (c2') ?_
     simp [splice]
     refine RetOk.by (fun _ => none) ?_
     simp [results55]
   | n + 3, h => omega
   | 0, _ =>
     simp [p55l0, splice, sumQ, w1, w2, w5, w6, w9, w10, z1]
     refine ⟨1, by omega, by omega, ?_⟩
     refine Weak.mk hE (lk [(0, 0), (1, 1), (2, 2)]) _ _ _ ?_ ?_ ?_ ?_ ?_ <;> simp
   | 1, _ =>
     simp [p55l0, splice, sumQ, w3, w4, w7, w8, w11, w12, z2]
     refine ⟨2, by omega, by omega, ?_⟩
     refine Weak.mk hE (lk [(0, 0), (1, 1), (2, 2)]) _ _ _ ?_ ?_ ?_ ?_ ?_ <;> simp
theorem fn109 (l : List Gal) (h : Int × Int) (g : FuncId) (pk : Gal -> Int × Int) (hg : ∀ x ∈ l, Ct prog g [wdV x] (vsp (pk x).1 (pk x).2) []) (hw : OkW l) (hp : PkB l pk) : Ct prog 109 [.d (galsD l), vsp h.1 h.2, .d (.fn g [])] (vsp (stdS pk l h).1 (stdS pk l h).2) [] := by
 have hl := hw.len
 obtain ⟨fa, hfa⟩ : ∃ x, l[0]? = some x := ⟨_, List.getElem?_eq_getElem (by omega)⟩
 obtain ⟨la, hla⟩ : ∃ x, l[l.length - 1]? = some x := ⟨_, List.getElem?_eq_getElem (by omega)⟩
 have kfa : (galK pk l)[0]? = some (fa.h, pk fa) := by rw [galK_at, hfa]; rfl
 have kla : (galK pk l)[l.length - 1]? = some (la.h, pk la) := by rw [galK_at, hla]; rfl
 have kln := galK_len (pk := pk) (w := l)
 refine CB func109 c109 (by simp [ntmps109]) fun E hE => ?_
 simp [p109]
 refine pw_loop (α := Nat) (fun i => ⟨slots [(0, .d (galsD l)), (2, .d (.fn g [])), (4, .lp 0 0), (6, .lp 1 0), (7, hdF 3 (accN pk l i) 2), (15, .d (galsD l)), (16, vi l.length), (17, vi i)], lk ([(0, [vi h.1, vi h.2]), (1, [vi 0, vi 0])] ++ ouF knL (accN pk l i) 2), 3⟩) (fun i => i <= l.length) (fun i => l.length - i) 0 ?_ ?_ ?_
 . omega
 . rw [show accN pk l 0 = [] from rfl, hdF_nil, ouF_nil]
   refine Weak.mk hE (lk [(0, 0), (1, 1048576)]) _ _ _ ?_ ?_ ?_ ?_ ?_ <;> simp
 . intro i hi
   by_cases hil : i < l.length
   . obtain ⟨x, hx⟩ : ∃ x, l[i]? = some x := ⟨_, List.getElem?_eq_getElem hil⟩
     have hz : IntKind.wrap .i64 ((i : Int) + 1) = ((i + 1 : Nat) : Int) := by rw [wrap64 (by omega) (by omega)]; omega
     have hI : (i : Int) < l.length := by omega
     have hnx := accN_next (pk := pk) hx
     have hO : (accN pk l i).length <= 1000000 := by unfold accN; simp; omega
     have cg := hg x (List.mem_of_getElem? hx)
     obtain ⟨O, hOe⟩ : ∃ O, accN pk l i = O := ⟨_, rfl⟩
     rw [hOe] at hnx hO ⊢
     by_cases hne : O = []
     . subst hne
       rw [hdF_nil, ouF_nil]
       simp [p109l0, hI, hx, splice, inC, Nat.testBit]
       refine CLa (cg) ?_
       simp [splice, repl, hz]
       refine ⟨i + 1, by omega, by omega, ?_⟩
       rw [hnx, hdF_ne (by simp), ouF_ne (by simp)]
       refine Weak.mk hE (lk [(0, 0), (1, 1), (2, 14680067)]) _ _ _ ?_ ?_ ?_ ?_ ?_ <;> simp [fcel]
     . have hsl := fcel_len hfk O
       have hwh := fcel_whole hfk O
       have n1 : (O.length + 1) * 24 <= 140737488355328 := by omega
       have n2 : O.length + 1 <= 9223372036854775807 := by omega
       rw [hdF_ne hne, ouF_ne hne]
       simp [p109l0, hI, hx, splice, inC, Nat.testBit]
       refine CLa (cg) ?_
       simp [splice, repl, hz, hsl, hwh, n1, n2]
       refine ⟨i + 1, by omega, by omega, ?_⟩
       rw [hnx, hdF_ne (by simp), ouF_ne (by simp), fcel_one]
       refine Weak.mk hE (lk [(0, 0), (1, 1), (2, 14680067)]) _ _ _ ?_ ?_ ?_ ?_ ?_ <;> simp
   . have e : i = l.length := by omega
     have hn : ¬ (i : Int) < l.length := by omega
     have ek : accN pk l i = galK pk l := by unfold accN galK; rw [e, List.take_length]
     have ene : galK pk l ≠ [] := by intro h0; rw [h0] at kln; simp at kln; omega
     obtain ⟨K, hK⟩ : ∃ K, galK pk l = K := ⟨_, rfl⟩
     rw [hK] at kfa kla kln ek ene
     have hsl := fcel_len hfk K
     have w1 : IntKind.wrap .i64 ((l.length : Int) - 1) = ((l.length - 1 : Nat) : Int) := by rw [wrap64 (by omega) (by omega)]; omega
     have hI0 : 0 < l.length := by omega
     have hI2 : l.length - 1 < l.length := by omega
     have hI1 : ((l.length - 1 : Nat) : Int) < l.length := by omega
     have s0 : (l.length - 1) * 3 + 3 <= l.length * 3 := by omega
     have s1 : 3 <= l.length * 3 := by omega
     have t0 : List.take 3 (fcel knL K) = (knL (fa.h, pk fa)).map .d := by
       have := fcel_sub hfk (j := 0) (k := 3) kfa (by omega)
       simpa using this
     have t1 : List.take 3 (List.drop ((l.length - 1) * 3) (fcel knL K)) = (knL (la.h, pk la)).map .d := by
       have := fcel_sub hfk (j := 0) (k := 3) kla (by omega)
       simpa using this
     rw [ek, hdF_ne ene, ouF_ne ene, kln]
     simp [p109l0, hn]
     refine pw_drawW [(11, 10485763), (12, 11534339)] (by kernel_rfl) ?_
     simp [splice, inC, Nat.testBit, kln, hsl, w1, hI0, hI1, s0, s1, t0, t1]
     by_cases h2 : 2 <= l.length
     . have hlt : ¬ fa.h = la.h := by
         obtain ⟨y, hy⟩ : ∃ y, l[1]? = some y := ⟨_, List.getElem?_eq_getElem (by omega)⟩
         have := hw.step 0 fa y hfa hy
         have := wnd_le hw (by omega : 1 <= l.length - 1) hy hla
         omega
       have c1 := fn176 h.1 (fa.h, pk fa) (la.h, pk la)
       have c2 := fn176 h.2 (fa.h, pk fa) (la.h, pk la)
       have e1 : ∀ z, min (max z fa.h) la.h = clmS l z := fun z => by unfold clmS; rw [hfa, hla]
       simp only [e1] at c1 c2
       have c3 := fn177 K (clmS l h.1, clmS l h.2) (by omega)
       have e3 : (valS K (clmS l h.1, clmS l h.2)).1 = stdS pk l h := by
         rw [<- hK]
         match l, h2 with
         | a :: b :: r, _ => rfl
       unfold vse at c3
       rw [e3] at c3
       have hb : ∀ H : Hp, H 2 = some (fcel knL K) -> Bor H (.ls 2 0 l.length 3) (.d (knotsD K)) := fun H hH => by
         have := bor_fcel (H := H) (id := 2) hfk (l := K) hH
         rw [kln] at this; exact this
       simp [hlt]
       refine pw_drawW [(15, 34603011)] (by kernel_rfl) ?_
       simp [inC, Nat.testBit]
       refine CLa (c1) ?_
       simp [inC, Nat.testBit]
       refine CLa (c2) ?_
       simp [splice, inC, Nat.testBit]
       refine CLb (c3) (by simp [hb, Hcl, inC, Nat.testBit]) ?_
       simp [splice, inC, Nat.testBit]
       refine RetOk.by (fun _ => none) ?_
       simp [results109]
     . have e1 : l.length - 1 = 0 := by omega
       rw [e1, hfa] at hla
       cases hla
       have e2 : stdS pk l h = pk fa := by
         obtain ⟨x, rfl⟩ : ∃ x, l = [x] := List.length_eq_one_iff.1 (by omega)
         cases hfa; rfl
       simp [splice]
       refine RetOk.by (fun _ => none) ?_
       simp [results109, e2]
def wndA (w : List Gal) (h : Int × Int) : (Int × Int) × Int × Int := if wndE w h = 0 then (wndX w h, wndY w h) else ((0, 0), 0, 0)
abbrev wndV (r : (Int × Int) × Int × Int) : V := .agg [vi r.1.1, vi r.1.2, vi r.2.1, vi r.2.2]
theorem maxG_take {l : List Gal} {i : Nat} {x : Gal} (h : l[i]? = some x) : maxG (l.take (i + 1)) = max (maxG (l.take i)) x.g := by
 unfold maxG; rw [List.take_add_one, h]; simp
theorem fn50 (l : List Gal) (h : Int × Int) (hl : l.length <= 1000000) : Ct prog 50 [.d (galsD l), vsp h.1 h.2] (.tup [wndV (wndA l h), vi (wndE l h)]) [] := by
 have c1 := fn89 l hl
 have c2 := fn105 h
 cases hw : okWnd l
 . rw [hw] at c1
   have e1 : wndE l h = 22 := by unfold wndE; rw [hw]; rfl
   have e2 : wndA l h = ((0, 0), 0, 0) := by unfold wndA; rw [e1]; rfl
   rw [e1, e2]
   refine CB func50 c50 (by simp [ntmps50]) fun E hE => ?_
   simp [p50]
   refine CLa (c1) ?_
   simp [splice]
   refine RetOk.by (fun _ => none) ?_
   simp [results50]
 rw [hw] at c1
 cases hs : okS h
 . rw [hs] at c2
   have e1 : wndE l h = 10 := by unfold wndE; rw [hw, hs]; rfl
   have e2 : wndA l h = ((0, 0), 0, 0) := by unfold wndA; rw [e1]; rfl
   rw [e1, e2]
   refine CB func50 c50 (by simp [ntmps50]) fun E hE => ?_
   simp [p50]
   refine CLa (c1) ?_
   simp
   refine CLa (c2) ?_
   simp [splice]
   refine RetOk.by (fun _ => none) ?_
   simp [results50]
 rw [hs] at c2
 have hW := okWnd_iff hw
 have hlen := hW.len
 have hh := (okS_iff.1 hs).1
 have e1 : wndE l h = 0 := by unfold wndE; rw [hw, hs]; rfl
 have e2 : wndA l h = (wndX l h, wndY l h) := by unfold wndA; rw [e1]; rfl
 rw [e1, e2]
 have g1 := gst_bd hW h
 have sx := std_bd hW (pk := eastW) (fun x hx => hW.x x hx) hh
 have sy := std_bd hW (pk := northW) (fun x hx => hW.y x hx) hh
 have c3 : Ct prog 77 [vi l.length, .d (.fn 106 [.ref [galsD l], .ref [di h.1, di h.2]])] (vi (belN l h.1)) [] := by
   refine fn77 l.length (belN l h.1) _ _ (fun i => (l[i]?.map fun k => decide (h.1 <= k.h)).getD false) (by omega) (fun i hi => ?_) tw_len (fun i hi => ?_) (fun i hi hi2 => ?_)
   . obtain ⟨k, hk⟩ : ∃ k, l[i]? = some k := ⟨l[i], by simp [hi]⟩
     rw [hk]
     exact fn106 l h.1 h.2 i k hk
   . have hil : i < l.length := Nat.lt_of_lt_of_le hi tw_len
     obtain ⟨k, hk⟩ : ∃ k, l[i]? = some k := ⟨l[i], by simp [hil]⟩
     have := bel_in hi hk
     simp [hk]; omega
   . obtain ⟨k, hk⟩ : ∃ k, l[i]? = some k := ⟨l[i], by simp [hi2]⟩
     have := bel_out hW hi hk
     simp [hk]; omega
 have c4 : Ct prog 77 [vi l.length, .d (.fn 107 [.ref [galsD l], .ref [di h.1, di h.2]])] (vi (upN l h.2)) [] := by
   refine fn77 l.length (upN l h.2) _ _ (fun i => (l[i]?.map fun k => decide (h.2 < k.h)).getD false) (by omega) (fun i hi => ?_) tw_len (fun i hi => ?_) (fun i hi hi2 => ?_)
   . obtain ⟨k, hk⟩ : ∃ k, l[i]? = some k := ⟨l[i], by simp [hi]⟩
     rw [hk]
     exact fn107 l h.1 h.2 i k hk
   . have hil : i < l.length := Nat.lt_of_lt_of_le hi tw_len
     obtain ⟨k, hk⟩ : ∃ k, l[i]? = some k := ⟨l[i], by simp [hil]⟩
     have := up_in hi hk
     simp [hk]; omega
   . obtain ⟨k, hk⟩ : ∃ k, l[i]? = some k := ⟨l[i], by simp [hi2]⟩
     have := up_out hW hi hk
     simp [hk]; omega
 have b1 : belN l h.1 <= l.length := tw_len
 have b2 : upN l h.2 <= l.length := tw_len
 obtain ⟨F, hF⟩ : ∃ F, belN l h.1 = F := ⟨_, rfl⟩
 obtain ⟨U, hU⟩ : ∃ U, upN l h.2 = U := ⟨_, rfl⟩
 have hFU : F - 1 <= min (U + 1) l.length := by
   by_cases hc : F - 1 <= U + 1
   . omega
   . exfalso
     obtain ⟨k, hk⟩ : ∃ k, l[U]? = some k := ⟨l[U], by simp [show U < l.length by omega]⟩
     have q1 := bel_in (w := l) (lo := h.1) (i := U) (by omega) hk
     have q2 := up_out hW (hi := h.2) (i := U) (by omega) hk
     omega
 have hG : gstS l h = maxG ((l.take (min (U + 1) l.length)).drop (F - 1)) := by
   unfold gstS
   rw [hF, hU]
   congr 2
   by_cases hc : U + 1 <= l.length
   . rw [Nat.min_eq_left hc]
   . rw [Nat.min_eq_right (by omega), List.take_of_length_le (by omega), List.take_length]
 rw [hF] at c3
 rw [hU] at c4
 have w1 : IntKind.wrap .i64 ((F : Int) - 1) = (F : Int) - 1 := wrap64 (by omega) (by omega)
 have w2 : IntKind.wrap .i64 ((U : Int) + 1) = (U : Int) + 1 := wrap64 (by omega) (by omega)
 have m1 : max ((F : Int) - 1) 0 = ((F - 1 : Nat) : Int) := by omega
 have m2 : min ((U : Int) + 1) (l.length : Int) = ((min (U + 1) l.length : Nat) : Int) := by omega
 obtain ⟨B, hB⟩ : ∃ B, min (U + 1) l.length = B := ⟨_, rfl⟩
 obtain ⟨A, hA⟩ : ∃ A, F - 1 = A := ⟨_, rfl⟩
 rw [hB] at m2 hFU hG
 rw [hA] at m1 hFU hG
 have hBl : B <= l.length := by omega
 obtain ⟨W, hWd⟩ : ∃ W, (l.take B).drop A = W := ⟨_, rfl⟩
 have hWl : B - A = W.length := by rw [<- hWd]; simp; omega
 have hWm : List.drop A (List.take B (List.map galL l)) = W.map galL := by rw [<- hWd]; simp [List.map_drop, List.map_take]
 have hWle : W.length <= 16 := by omega
 have hWg : ∀ x ∈ W, 0 <= x.g /\ x.g <= 500 := fun x hx => hW.g x (by rw [<- hWd] at hx; exact List.mem_of_mem_take (List.mem_of_mem_drop hx))
 rw [hWd] at hG
 have d1 := fn109 l h 110 eastW (fun x _ => fn110 x) hW (fun x hx => hW.x x hx)
 have d2 := fn109 l h 111 northW (fun x _ => fn111 x) hW (fun x hx => hW.y x hx)
 have d3 := fn108 (stdS eastW l h).1 (stdS eastW l h).2 (gstS l h) (by omega)
 have d4 := fn108 (stdS northW l h).1 (stdS northW l h).2 (gstS l h) (by omega)
 refine CB func50 c50 (by simp [ntmps50]) fun E hE => ?_
 simp [p50]
 refine CLa (c1) ?_
 simp
 refine CLa (c2) ?_
 simp
 refine CLa (c3) ?_
 simp
 refine CLa (c4) ?_
 simp [splice, w1, w2, m1, m2, hFU, hBl, hWm]
 refine pw_loop (α := Nat) (fun i => ⟨slots [(2, .lp 0 0), (3, .lp 1 0), (4, .lp 2 0), (10, .lp 3 0), (43, .d (galsD W)), (44, vi W.length), (45, vi i)], lk [(0, [.d (galsD l)]), (1, [vi h.1, vi h.2]), (2, [vi 0, vi 0, vi 0, vi 0]), (3, [vi (maxG (W.take i))])], 4⟩) (fun i => i <= W.length) (fun i => W.length - i) 0 ?_ ?_ ?_
 . omega
 . refine Weak.mk hE (lk [(0, 0), (1, 1048576), (2, 2097152), (3, 25165824)]) _ _ _ ?_ ?_ ?_ ?_ ?_ <;> simp [maxG]
 . intro i hi
   by_cases hil : i < W.length
   . obtain ⟨x, hx⟩ : ∃ x, W[i]? = some x := ⟨_, List.getElem?_eq_getElem hil⟩
     have hz : IntKind.wrap .i64 ((i : Int) + 1) = ((i + 1 : Nat) : Int) := by rw [wrap64 (by omega) (by omega)]; omega
     have hI : (i : Int) < W.length := by omega
     have hnx := maxG_take hx
     simp [p50l0, hI, hx, splice, hz]
     refine ⟨i + 1, by omega, by omega, ?_⟩
     rw [hnx]
     refine Weak.mk hE (lk [(0, 0), (1, 1), (2, 2), (3, 3)]) _ _ _ ?_ ?_ ?_ ?_ ?_ <;> simp
   . have e : i = W.length := by omega
     have hn : ¬ (i : Int) < W.length := by omega
     have eT : maxG (W.take i) = gstS l h := by rw [hG, e, List.take_length]
     rw [eT]
     simp [p50l0, hn, inC, Nat.testBit]
     refine CLa (d1) ?_
     simp [inC, Nat.testBit]
     refine CLa (d3) ?_
     simp [inC, Nat.testBit]
     refine CLa (d2) ?_
     simp
     refine CLa (d4) ?_
     simp [splice]
     refine RetOk.by (fun _ => none) ?_
     simp [results50, wndX, wndY]
set_option maxHeartbeats 4000000 in
set_option maxRecDepth 20000 in
theorem fn241 (l : List Cel) (g : FuncId) (ds : List D) (q : Cel -> Bool) (hl : l.length <= 1000000000) (hg : ∀ p ∈ l, Ct prog g (cellV p :: ds.map .d) (vb (q p)) []) : Ct prog 241 [.d (cellsD l), .d (.fn g ds)] (vi (ixF q l)) [] := by
 refine CB func241 c241 (by simp [ntmps241]) fun E hE => ?_
 simp [p241]
 refine pw_loop (α := Nat) (fun i => ⟨slots [(0, .d (cellsD l)), (1, .d (.fn g ds)), (7, vi l.length), (8, vi i)], lk [], 0⟩) (fun i => i <= l.length /\ ∀ j, j < i -> (l[j]?).all (fun p => !q p) = true) (fun i => l.length - i) 0 ?_ ?_ ?_
 . exact ⟨by omega, fun j hj => by omega⟩
 . refine Weak.mk hE (lk []) _ _ _ ?_ ?_ ?_ ?_ ?_ <;> simp
 . rintro i ⟨hi, hg3⟩
   have hg2 : ∀ (j : Nat) (p : Cel), j < i -> l[j]? = some p -> q p = false := fun j p hj hp => by
     have := hg3 j hj
     rw [hp] at this; simpa using this
   have hz : IntKind.wrap .i64 ((i : Int) + 1) = ((i + 1 : Nat) : Int) := by rw [wrap64 (by omega) (by omega)]; omega
   simp [p241l0]
   refine cR_split (fun h => ?_) (fun h => ?_)
   . simp at h
     obtain ⟨p, hp⟩ : ∃ p, l[i]? = some p := ⟨_, List.getElem?_eq_getElem h⟩
     simp [hp]
     refine CLa (hg p (List.mem_of_getElem? hp)) ?_
     cases hq : q p
     . simp [hz]
       refine ⟨i + 1, ⟨by omega, fun j hj => ?_⟩, by omega, ?_⟩
       . by_cases e : j = i
         . subst e; rw [hp]; simp [hq]
         . exact hg3 j (by omega)
       . refine Weak.mk hE (lk []) _ _ _ ?_ ?_ ?_ ?_ ?_ <;> simp
     . have e : ixF q l = i := ixF_some hp hq fun j y hj hy => hg2 j y hj hy
       simp
       refine RetOk.by (fun _ => none) ?_
       simp [results241, e]
   . simp at h
     have e : ixF q l = -1 := ixF_none fun j x hx => hg2 j x (by have := (List.getElem?_eq_some_iff.1 hx).1; omega) hx
     simp
     refine RetOk.by (fun _ => none) ?_
     simp [results241, e]
theorem fn235 (a b c d : Int) (h : (-100000000000000 <= a /\ a <= 100000000000000) /\ (-100000000000000 <= b /\ b <= 100000000000000) /\ (-100000000000000 <= c /\ c <= 100000000000000) /\ -100000000000000 <= d /\ d <= 100000000000000) : Ct prog 235 [vsp a b, vsp c d] (vsp (a + c) (b + d)) [] := by
 have w1 : IntKind.wrap .i64 (a + c) = a + c := wrap64 (by omega) (by omega)
 have w2 : IntKind.wrap .i64 (b + d) = b + d := wrap64 (by omega) (by omega)
 refine CB func235 c235 (by simp [ntmps235]) fun E hE => ?_
 simp [p235, splice, w1, w2]
 refine RetOk.by (fun _ => none) ?_
 simp [results235]
theorem fn237 (a b : Int) (h : (-100000000000000 <= a /\ a <= 100000000000000) /\ -100000000000000 <= b /\ b <= 100000000000000) : Ct prog 237 [vsp a b] (vsp (6 * a) (6 * b)) [] := by
 have w1 : IntKind.wrap .i64 (6 * a) = 6 * a := wrap64 (by omega) (by omega)
 have w2 : IntKind.wrap .i64 (6 * b) = 6 * b := wrap64 (by omega) (by omega)
 refine CB func237 c237 (by simp [ntmps237]) fun E hE => ?_
 simp [p237, splice, w1, w2]
 refine RetOk.by (fun _ => none) ?_
 simp [results237]
theorem first4 (a b c d : Int) : Ct prog 69 [.d (intsD [a, b, c, d])] (vi (if a = 0 then (if b = 0 then (if c = 0 then d else c) else b) else a)) [] := by
 have ww1 : IntKind.wrap .i64 1 = 1 := by decide
 have ww2 : IntKind.wrap .i64 2 = 2 := by decide
 have ww3 : IntKind.wrap .i64 3 = 3 := by decide
 have ww4 : IntKind.wrap .i64 4 = 4 := by decide
 refine CB func69 c69 (by simp [ntmps69]) fun E hE => ?_
 simp [p69]
 refine pw_loop (α := Nat) (fun k => ⟨slots [(5, .d (intsD [a, b, c, d])), (6, vi 4), (7, vi k)], lk [], 0⟩) (fun k => k <= 4 /\ (0 < k -> a = 0) /\ (1 < k -> b = 0) /\ (2 < k -> c = 0) /\ (3 < k -> d = 0)) (fun k => 4 - k) 0 ?_ ?_ ?_
 . omega
 . refine Weak.mk hE (lk []) _ _ _ ?_ ?_ ?_ ?_ ?_ <;> simp
 . rintro i ⟨hi, h1, h2, h3, h4⟩
   match i, hi, h1, h2, h3, h4 with
   | 0, _, _, _, _, _ =>
     by_cases h : a = 0
     . simp [p69l0, h, ww1]
       refine ⟨1, ⟨by omega, by omega⟩, by omega, ?_⟩
       refine Weak.mk hE (lk []) _ _ _ ?_ ?_ ?_ ?_ ?_ <;> simp
     . simp [p69l0, h]
       refine RetOk.by (fun _ => none) ?_
       simp [results69]
   | 1, _, h1, _, _, _ =>
     have h1 := h1 (by omega)
     by_cases h : b = 0
     . simp [p69l0, h, ww2]
       refine ⟨2, ?_, by omega, ?_⟩
       . simp [h1]
       refine Weak.mk hE (lk []) _ _ _ ?_ ?_ ?_ ?_ ?_ <;> simp
     . simp [p69l0, h]
       refine RetOk.by (fun _ => none) ?_
       simp [results69, h1]
   | 2, _, h1, h2, _, _ =>
     have h1 := h1 (by omega)
     have h2 := h2 (by omega)
     by_cases h : c = 0
     . simp [p69l0, h, ww3]
       refine ⟨3, ?_, by omega, ?_⟩
       . simp [h1, h2]
       refine Weak.mk hE (lk []) _ _ _ ?_ ?_ ?_ ?_ ?_ <;> simp
     . simp [p69l0, h]
       refine RetOk.by (fun _ => none) ?_
       simp [results69, h1, h2]
   | 3, _, h1, h2, h3, _ =>
     have h1 := h1 (by omega)
     have h2 := h2 (by omega)
     have h3 := h3 (by omega)
     by_cases h : d = 0
     . simp [p69l0, h, ww4]
       refine ⟨4, ?_, by omega, ?_⟩
       . simp [h1, h2, h3]
       refine Weak.mk hE (lk []) _ _ _ ?_ ?_ ?_ ?_ ?_ <;> simp
     . simp [p69l0, h]
       refine RetOk.by (fun _ => none) ?_
       simp [results69, h1, h2, h3]
   | 4, _, h1, h2, h3, h4 =>
     have h1 := h1 (by omega)
     have h2 := h2 (by omega)
     have h3 := h3 (by omega)
     have h4 := h4 (by omega)
     simp [p69l0]
     refine RetOk.by (fun _ => none) ?_
     simp [results69, h1, h2, h3, h4]
   | i + 5, hi, _, _, _, _ => omega
abbrev tripD (k : Sky) (r : Rig) : List D := [levsD k.s, galsD k.w, spansD r.reg, di r.gl, di r.gh, di r.tank, di r.rsv, di r.lo, di r.hi]
abbrev tripV (k : Sky) (r : Rig) : V := .d (.ref (tripD k r))
theorem fn245 (hS : SortOk) (k : Sky) (r : Rig) (s h : Int × Int) (hr : r.reg.length <= 1000000) : Ct prog 245 [tripV k r, vsp s.1 s.2, vsp h.1 h.2] (vb (rectS r.reg s h)) [] := by
 have c1 := fn59 hS r.reg (s.1, h.1) (by omega)
 have c2 := fn59 hS r.reg (s.1, h.2) (by omega)
 have c3 := fn59 hS r.reg (s.2, h.1) (by omega)
 have c4 := fn59 hS r.reg (s.2, h.2) (by omega)
 have z1 : IntKind.wrap .i64 1 = 1 := by decide
 have z2 : IntKind.wrap .i64 2 = 2 := by decide
 unfold rectS
 generalize inV r.reg (s.1, h.1) = b1 at *
 generalize inV r.reg (s.1, h.2) = b2 at *
 generalize inV r.reg (s.2, h.1) = b3 at *
 generalize inV r.reg (s.2, h.2) = b4 at *
 generalize regE r.reg = e at *
 simp only at c1 c2 c3 c4
 refine CB func245 c245 (by simp [ntmps245]) fun E hE => ?_
 simp [p245, splice]
 refine pw_loop (α := Nat) (fun i => ⟨slots [(0, tripV k r), (4, .lp 0 0), (5, .lp 1 0), (17, .agg [vi s.1, vi s.2]), (18, vi i)], lk [(0, [vi s.1, vi s.2]), (1, [vi h.1, vi h.2])], 2⟩) (fun i => i <= 2 /\ (0 < i -> b1 = true /\ b2 = true) /\ (1 < i -> b3 = true /\ b4 = true)) (fun i => 2 - i) 0 ?_ ?_ ?_
 . omega
 . refine Weak.mk hE (lk [(0, 0), (1, 1048576)]) _ _ _ ?_ ?_ ?_ ?_ ?_ <;> simp
 . rintro i ⟨hi, h1, h2⟩
   match i, hi, h1, h2 with
   | 0, _, _, _ =>
     simp [p245l1, splice]
     refine pw_loop (α := Nat) (fun j => ⟨slots [(0, tripV k r), (4, .lp 0 0), (5, .lp 1 0), (8, vi s.1), (17, .agg [vi s.1, vi s.2]), (18, vi 0), (25, .agg [vi h.1, vi h.2]), (26, vi j)], lk [(0, [vi s.1, vi s.2]), (1, [vi h.1, vi h.2])], 2⟩) (fun j => j <= 2 /\ (0 < j -> b1 = true) /\ (1 < j -> b2 = true)) (fun j => 2 - j) 0 ?_ ?_ ?_
     . omega
     . refine Weak.mk hE (lk [(0, 0), (1, 1)]) _ _ _ ?_ ?_ ?_ ?_ ?_ <;> simp
     . rintro j ⟨hj, g1, g2⟩
       match j, hj, g1, g2 with
       | 0, _, _, _ =>
         simp [p245l0, splice]
         refine CLa (c1) ?_
         cases b1
         . simp
           refine RetOk.by (fun _ => none) ?_
           simp [results245]
         . simp [z1]
           refine ⟨1, by simp, by omega, ?_⟩
           refine Weak.mk hE (lk [(0, 0), (1, 1)]) _ _ _ ?_ ?_ ?_ ?_ ?_ <;> simp
       | 1, _, g1, _ =>
         have g1 := g1 (by omega)
         subst g1
         simp [p245l0, splice]
         refine CLa (c2) ?_
         cases b2
         . simp
           refine RetOk.by (fun _ => none) ?_
           simp [results245]
         . simp [z2]
           refine ⟨2, by simp, by omega, ?_⟩
           refine Weak.mk hE (lk [(0, 0), (1, 1)]) _ _ _ ?_ ?_ ?_ ?_ ?_ <;> simp
       | 2, _, g1, g2 =>
         have g1 := g1 (by omega)
         have g2 := g2 (by omega)
         simp [p245l0, z1]
         refine ⟨1, by simp [g1, g2], by omega, ?_⟩
         refine Weak.mk hE (lk [(0, 0), (1, 1)]) _ _ _ ?_ ?_ ?_ ?_ ?_ <;> simp
       | j + 3, hj, _, _ => omega
   | 1, _, h1, _ =>
     obtain ⟨h3, h4⟩ := h1 (by omega)
     subst h3 h4
     simp [p245l1, splice]
     refine pw_loop (α := Nat) (fun j => ⟨slots [(0, tripV k r), (4, .lp 0 0), (5, .lp 1 0), (8, vi s.2), (17, .agg [vi s.1, vi s.2]), (18, vi 1), (25, .agg [vi h.1, vi h.2]), (26, vi j)], lk [(0, [vi s.1, vi s.2]), (1, [vi h.1, vi h.2])], 2⟩) (fun j => j <= 2 /\ (0 < j -> b3 = true) /\ (1 < j -> b4 = true)) (fun j => 2 - j) 0 ?_ ?_ ?_
     . omega
     . refine Weak.mk hE (lk [(0, 0), (1, 1)]) _ _ _ ?_ ?_ ?_ ?_ ?_ <;> simp
     . rintro j ⟨hj, g1, g2⟩
       match j, hj, g1, g2 with
       | 0, _, _, _ =>
         simp [p245l0, splice]
         refine CLa (c3) ?_
         cases b3
         . simp
           refine RetOk.by (fun _ => none) ?_
           simp [results245]
         . simp [z1]
           refine ⟨1, by simp, by omega, ?_⟩
           refine Weak.mk hE (lk [(0, 0), (1, 1)]) _ _ _ ?_ ?_ ?_ ?_ ?_ <;> simp
       | 1, _, g1, _ =>
         have g1 := g1 (by omega)
         subst g1
         simp [p245l0, splice]
         refine CLa (c4) ?_
         cases b4
         . simp
           refine RetOk.by (fun _ => none) ?_
           simp [results245]
         . simp [z2]
           refine ⟨2, by simp, by omega, ?_⟩
           refine Weak.mk hE (lk [(0, 0), (1, 1)]) _ _ _ ?_ ?_ ?_ ?_ ?_ <;> simp
       | 2, _, g1, g2 =>
         have g1 := g1 (by omega)
         have g2 := g2 (by omega)
         simp [p245l0, z2]
         refine ⟨2, by simp [g1, g2], by omega, ?_⟩
         refine Weak.mk hE (lk [(0, 0), (1, 1)]) _ _ _ ?_ ?_ ?_ ?_ ?_ <;> simp
       | j + 3, hj, _, _ => omega
   | 2, _, h1, h2 =>
     obtain ⟨h3, h4⟩ := h1 (by omega)
     obtain ⟨h5, h6⟩ := h2 (by omega)
     simp [p245l1]
     refine RetOk.by (fun _ => none) ?_
     simp [results245, h3, h4, h5, h6]
   | i + 3, hi, _, _ => omega
abbrev e0 (k : Sky) : Int := if okSky k then 0 else 50
abbrev e1 (r : Rig) : Int := if okRig r then 0 else 51
def frst (k : Sky) (r : Rig) (a b : Int) : Int := if e0 k = 0 then (if e1 r = 0 then (if a = 0 then b else a) else e1 r) else e0 k
theorem open_err (hS : SortOk) (k : Sky) (r : Rig) (a b : Int) (h1 : k.s.length <= 1000000) (h2 : k.w.length <= 1000000) (h3 : r.reg.length <= 1000000) (he : ¬ frst k r a b = 0) : Ct prog 98 [skyV k, rigV r, .d (intsD [a, b])] (.tup [.d (.lit (.pointer none)), vi (frst k r a b)]) [] := by
 have c1 := fn32 k h1 h2
 have c2 := fn34 hS r (by omega)
 have c3 := first4 (e0 k) (e1 r) a b
 obtain ⟨e, hee⟩ : ∃ e, frst k r a b = e := ⟨_, rfl⟩
 have c3' : Ct prog 69 [.d (intsD [e0 k, e1 r, a, b])] (vi e) [] := by rw [<- hee]; exact c3
 rw [hee] at he ⊢
 have c1' : Ct prog 32 [skyV k] (vi (e0 k)) [] := c1
 have c2' : Ct prog 34 [rigV r] (vi (e1 r)) [] := c2
 generalize e0 k = x0 at *
 generalize e1 r = x1 at *
 refine CB func98 c98 (by simp [ntmps98]) fun E hE => ?_
 simp [p98, inC, Nat.testBit]
 refine CLa (c1') ?_
 simp [inC, Nat.testBit]
 refine CLa (c2') ?_
 simp [splice, repl]
 refine CLb (c3') (by simp [bor_i4]) ?_
 simp [he]
 refine RetOk.by (fun _ => none) ?_
 simp [results98]
theorem rng_eq {k : Sky} {r : Rig} (hr : RigB r) {x y : Lev} (hx : k.s[0]? = some x) (hy : k.s[k.s.length - 1]? = some y) : rgB x.h y.h [r.lo, r.hi] = rngS k r := by
 have h := hr.h
 unfold rngS lastH rgB
 rw [hx, hy]
 simp
 rw [Bool.eq_iff_iff]
 simp
 omega
theorem sky_len {k : Sky} (h : okSky k = true) : OkS k.s := by
 unfold okSky at h
 simp only [Bool.and_eq_true, decide_eq_true_eq] at h
 refine okSnd_iff.1 ?_
 have := h.1
 unfold setS at this
 by_cases h : okSnd k.s = true
 . exact h
 . rw [if_neg h] at this; simp at this
theorem open_rng (hS : SortOk) (k : Sky) (r : Rig) (h1 : k.s.length <= 1000000) (h2 : k.w.length <= 1000000) (h3 : r.reg.length <= 1000000) (hk : okSky k = true) (hr : okRig r = true) (hg : rngS k r = false) : Ct prog 98 [skyV k, rigV r, .d (intsD [0, 0])] (.tup [.d (.lit (.pointer none)), vi 2]) [] := by
 have c1 := fn32 k h1 h2
 have c2 := fn34 hS r (by omega)
 have c3 := first4 0 0 0 0
 rw [hk] at c1
 rw [hr] at c2
 have hl := (sky_len hk).len
 obtain ⟨x, hx⟩ : ∃ x, k.s[0]? = some x := ⟨_, List.getElem?_eq_getElem (by omega)⟩
 obtain ⟨y, hy⟩ : ∃ y, k.s[k.s.length - 1]? = some y := ⟨_, List.getElem?_eq_getElem (by omega)⟩
 have c4 := fn91 x.h y.h [r.lo, r.hi] (by simp)
 rw [rng_eq (okRig_B hr) hx hy, hg] at c4
 have w1 : IntKind.wrap .i64 ((k.s.length : Int) - 1) = ((k.s.length - 1 : Nat) : Int) := by rw [wrap64 (by omega) (by omega)]; omega
 have hI0 : (0 : Int) < k.s.length := by omega
 obtain ⟨j, hj⟩ : ∃ j, k.s.length - 1 = j := ⟨_, rfl⟩
 rw [hj] at w1 hy
 have hI1 : (j : Int) < k.s.length := by omega
 refine CB func98 c98 (by simp [ntmps98]) fun E hE => ?_
 simp [p98, inC, Nat.testBit]
 refine CLa (c1) ?_
 simp [inC, Nat.testBit]
 refine CLa (c2) ?_
 simp [splice, repl]
 refine CLb (c3) (by simp [bor_i4]) ?_
 simp [splice, repl, inC, Nat.testBit, hx, hy, w1]
 refine CLb (c4) (by simp [bor_i2]) ?_
 simp
 refine RetOk.by (fun _ => none) ?_
 simp [results98]
theorem bor1_same {H : Hp} {a b c d : Nat} : Bor1 H (.ls a b c d) (.ls a b c d) := ⟨rfl, rfl, rfl, rfl⟩
theorem do_tk (p : Plt) (h : okPlt p = true) : Ct prog 128 [pltV p (.d (cellsD p.cs)), actV ⟨7, 0, 0, 1⟩] (doV (.ok (tkQ p))) [] := by
 have := do_7 p ⟨7, 0, 0, 1⟩ h rfl rfl
 have e : doS p ⟨7, 0, 0, 1⟩ = .ok (tkQ p) := by simp [doS, h, finS, tkQ_ok h]
 rwa [e] at this
abbrev shB (s : Shp) : List V := [vi s.xl, vi s.xh, vi s.yl, vi s.yh, vi s.hl, vi s.hh, vi s.fl, vi s.fh, vi s.wl, vi s.wh, vi s.bl, vi s.bh, vi s.dry, vi s.bal, vi s.drp, .d (cellsD s.gas.cs), vi s.gas.bt, vi s.gas.ih, vi s.gas.ia, vi s.gas.vh, vi s.gas.va, vi s.gas.lh, vi s.gas.la, vi s.gas.ph, vi s.gas.pa]
abbrev lgB (l : Leg) : List V := [vi l.m, vi l.axl, vi l.axh, vi l.ayl, vi l.ayh, vi l.ul, vi l.uh, vi l.bl, vi l.bh, vi l.dr, .d (actsD l.acts)]
abbrev atmL (a : Atm) : List D := [di a.pl, di a.ph, di a.tl, di a.th]
theorem fn238 (k : Sky) (r : Rig) (a b : Int) : Ct prog 238 [.d (.ref [di a, di b]), .d (.ref [.ref (tripD k r)])] (vb (decide (a < r.lo))) [] := by
 refine CB func238 c238 (by simp [ntmps238]) fun E hE => ?_
 simp [p238]
 refine RetOk.by (fun _ => none) ?_
 simp [results238]
theorem fn239 (k : Sky) (r : Rig) (a b : Int) : Ct prog 239 [.d (.ref [di a, di b]), .d (.ref [.ref (tripD k r)])] (vb (decide (r.hi < b))) [] := by
 refine CB func239 c239 (by simp [ntmps239]) fun E hE => ?_
 simp [p239]
 refine RetOk.by (fun _ => none) ?_
 simp [results239]
theorem fn243 (k : Sky) (r : Rig) (s : Shp) : Ct prog 243 [.d (.ref (shpR s)), .d (.ref [.ref (tripD k r)])] (vb (decide (s.fl < r.rsv))) [] := by
 refine CB func243 c243 (by simp [ntmps243]) fun E hE => ?_
 simp [p243]
 refine RetOk.by (fun _ => none) ?_
 simp [results243]
theorem fn246 (s : Shp) : Ct prog 246 [.d (.ref (shpR s))] (vb (!farB s)) [] := by
 have c := fn90 (-10000000) 10000000 [(s.xl, s.xh), (s.yl, s.yh)] (by simp)
 simp only [List.all_cons, List.all_nil, Bool.and_true] at c
 unfold farB
 generalize (spB (-10000000) 10000000 s.xl s.xh && spB (-10000000) 10000000 s.yl s.yh) = b at *
 refine CB func246 c246 (by simp [ntmps246]) fun E hE => ?_
 simp [p246, splice, repl]
 refine CLb (c) (by simp [bor_s2]) ?_
 simp
 refine RetOk.by (fun _ => none) ?_
 simp [results246]
theorem fn242 (c : Cel) (a : Atm) (hc : CelB c) (ha : AirB a) : Ct prog 242 [cellV c, .d (.ref (atmL a))] (vb (nofit a c)) [] := by
 have c1 := fn81 c a hc ha
 unfold nofit
 generalize decide (fitV c a = 1) = b at *
 refine CB func242 c242 (by simp [ntmps242]) fun E hE => ?_
 simp [p242]
 refine CLa (c1) ?_
 simp
 refine RetOk.by (fun _ => none) ?_
 simp [results242]
theorem fn240 (s : Shp) (a : Atm) (x : Int) (hs : ∀ c ∈ s.gas.cs, CelB c) (hl : s.gas.cs.length <= 1000000) (ha : AirB a) : Cm prog 240 [.d (.ref (shpR s)), .d (.ref (atmL a)), .lp 0 0] (lk [(0, [vi x])]) [0] (.ret (vb (decide (0 <= ixF (nofit a) s.gas.cs)))) (lk [(0, [vi (ixF (nofit a) s.gas.cs)])]) := by
 have c1 := fn241 s.gas.cs 242 [.ref (atmL a)] (nofit a) (by omega) fun c hc => fn242 c a (hs c hc) ha
 generalize ixF (nofit a) s.gas.cs = n at *
 refine Cm.by gok eok mixed 1 func240 c240 rfl (by simp [ntmps240]) (by simp) (HpIds.at (by simp)) (by simp) (by simp [ResIds]) fun E hs hE => ?_
 simp [p240]
 refine CLa (c1) ?_
 simp [splice]
 refine RetOk.by (lk [(0, 0)]) ?_
 simp [results240]
theorem fn244 (hS : SortOk) (k : Sky) (r : Rig) (n s : Shp) (l : Leg) (a : Atm) (hr : r.reg.length <= 1000000) (hl : LegB l) (hb : ShpB (bthS s n)) (ha : AirB a) : Ct prog 244 [.d (.ref (shpR n)), .d (.ref (shpR s)), .d (.ref (legL l)), .d (.ref [.ref (tripD k r)]), .d (.ref (atmL a))] (vb (!rectS r.reg (spdS l) (hvS (bthS s n) a))) [] := by
 have c1 := fn55 l.axl l.axh l.ayl l.ayh ⟨hl.x, hl.y⟩
 have c2 := fn70 (bthS s n) a hb ha
 have c3 := fn245 hS k r (spdS l) (hvS (bthS s n) a) hr
 have c1' : Ct prog 55 [wd4 l.axl l.axh l.ayl l.ayh] (.tup [vsp (spdS l).1 (spdS l).2, vi 0]) [] := c1
 generalize spdS l = sp at *
 generalize hvS (bthS s n) a = hv at *
 generalize rectS r.reg sp hv = b at *
 unfold bthS at c2
 simp only at c2
 refine CB func244 c244 (by simp [ntmps244]) fun E hE => ?_
 simp [p244, splice]
 refine pw_drawW [(23, 2097152), (25, 2097152)] (by kernel_rfl) ?_
 simp [splice, inC, Nat.testBit]
 refine CLa (c1') ?_
 simp [splice, inC, Nat.testBit]
 refine CLb (c2) (by first | (simp; done) | simp [Bor_ls, Bor1_ls, inC, Nat.testBit]) ?_
 simp
 refine CLa (c3) ?_
 simp
 refine RetOk.by (fun _ => none) ?_
 simp [results244]
set_option maxRecDepth 50000
abbrev evV (k l m c : Int) : V := .agg [vi k, vi l, vi m, vi c]
def stpV (k : Sky) (r : Rig) (s : Shp) (l : Leg) : V := if (evtS k r s l).1 = 0 then .tup [shpV (nxtS k r s l) (.d (cellsD (nxtS k r s l).gas.cs)), evV 0 0 0 0] else .tup [.agg shZ, evV (evtS k r s l).1 0 0 (evtS k r s l).2]
theorem stpV_av (k : Sky) (r : Rig) (s : Shp) (l : Leg) : AV (InB []) anyD (stpV k r s l) := by
 unfold stpV; split <;> simp
theorem fn173 (hS : SortOk) (k : Sky) (r : Rig) (s : Shp) (l : Leg) (h1 : k.s.length <= 1000000) (h2 : k.w.length <= 1000000) (h3 : r.reg.length <= 1000000) (hk : okSky k = true) (hR : okRig r = true) (hg : rngS k r = true) (hs : okShp s = true) (hl : okLeg l = true) : Ct prog 173 [tripV k r, shpV s (.d (cellsD s.gas.cs)), legV l] (stpV k r s l) [] := by
 have sB := okShp_B hs
 have sX := okShp_X hs
 have lB := okLeg_B hl
 have rB := okRig_B hR
 have hW := sky_w hk
 have b1 := sB.h; have b2 := sB.f; have b3 := sB.w; have b4 := sX.b; have b5 := sX.x; have b6 := sX.y
 have l1 := lB.u; have l2 := lB.b; have l3 := lB.x; have l4 := lB.y
 have g1 := rB.g; have g2 := rB.t
 have o := mh_ord sB lB
 have wb := wnd_bd hW o
 have ge := gain_eq l2 g1
 have p0 : 0 <= l.bl * r.gl := Int.mul_nonneg (by omega) (by omega)
 have p1 : l.bh * r.gh <= 1000000 * 120 := Int.mul_le_mul (by omega) (by omega) (by omega) (by omega)
 have p2 : l.bl * r.gl <= l.bh * r.gh := Int.mul_le_mul (by omega) (by omega) (by omega) (by omega)
 have eg : (overS (l.bl, l.bh) (r.gl, r.gh) (100, 100)).1 = gainS r l := rfl
 have gb : (0 <= (gainS r l).1 /\ (gainS r l).1 <= 1200000) /\ 0 <= (gainS r l).2 /\ (gainS r l).2 <= 1200001 := by
   rw [<- eg, ge]; simp only; omega
 have c1 := do_tk s.gas (okShp_gas hs)
 have c2 := fn235 s.hl s.hh l.ul l.uh (by omega)
 have c3 := fn235 s.bl s.bh l.bl l.bh (by omega)
 have c4 := fn236 (l.bl, l.bh) (r.gl, r.gh) (100, 100)
 have c4' : Ct prog 236 [vsp l.bl l.bh, vsp r.gl r.gh, vsp 100 100] (.tup [vsp (gainS r l).1 (gainS r l).2, vi 0]) [] := by
   unfold vse at c4; rw [eg, ge] at c4; exact c4
 have c5 := fn235 s.wl s.wh (gainS r l).1 (gainS r l).2 (by omega)
 have eh : mhS s l = (min s.hl (s.hl + l.ul), max s.hh (s.hh + l.uh)) := rfl
 have ew : wndE k.w (mhS s l) = 0 := by
   unfold wndE
   have : okWnd k.w = true := by unfold okSky at hk; simp only [Bool.and_eq_true] at hk; exact hk.2
   rw [this, okS_iff.2 (by rw [eh] at o ⊢; simp only at o ⊢; omega)]
   rfl
 have c6 := fn50 k.w (mhS s l) h2
 rw [ew, show wndA k.w (mhS s l) = (wndX k.w (mhS s l), wndY k.w (mhS s l)) by unfold wndA; rw [ew]; rfl] at c6
 have c11 := fn56 k.s (mhS s l).1 (mhS s l).2 h1
 obtain ⟨wx, hwx⟩ : ∃ wx, wndX k.w (mhS s l) = wx := ⟨_, rfl⟩
 obtain ⟨wy, hwy⟩ : ∃ wy, wndY k.w (mhS s l) = wy := ⟨_, rfl⟩
 rw [hwx, hwy] at c6 wb
 have c7 := fn235 l.axl l.axh wx.1 wx.2 (by omega)
 have c7' := fn237 (l.axl + wx.1) (l.axh + wx.2) (by omega)
 have c8 := fn235 s.xl s.xh (6 * (l.axl + wx.1)) (6 * (l.axh + wx.2)) (by omega)
 have c9 := fn235 l.ayl l.ayh wy.1 wy.2 (by omega)
 have c9' := fn237 (l.ayl + wy.1) (l.ayh + wy.2) (by omega)
 have c10 := fn235 s.yl s.yh (6 * (l.ayl + wy.1)) (6 * (l.ayh + wy.2)) (by omega)
 have en : nxtS k r s l = { s with
   xl := s.xl + 6 * (l.axl + wx.1), xh := s.xh + 6 * (l.axh + wx.2), yl := s.yl + 6 * (l.ayl + wy.1), yh := s.yh + 6 * (l.ayh + wy.2)
   hl := s.hl + l.ul, hh := s.hh + l.uh, fl := s.fl - l.bh, fh := s.fh - l.bl
   wl := min (s.wl + (gainS r l).1) r.tank, wh := min (s.wh + (gainS r l).2) r.tank
   bl := s.bl + l.bl, bh := s.bh + l.bh, gas := tkQ s.gas } := by unfold nxtS; rw [hwx, hwy]
 obtain ⟨H, hH⟩ : ∃ H, mhS s l = H := ⟨_, rfl⟩
 obtain ⟨A, hA⟩ : ∃ A, (atA k.s (mhS s l).1 (mhS s l).2).1 = A := ⟨_, rfl⟩
 obtain ⟨AE, hAE⟩ : ∃ AE, (atA k.s (mhS s l).1 (mhS s l).2).2 = AE := ⟨_, rfl⟩
 have c11' : Ct prog 56 [.d (levsD k.s), vsp H.1 H.2] (.tup [airV A, vi AE]) [] := by
   rw [<- hA, <- hAE, <- hH]; exact c11
 have m1 : min s.hl (s.hl + l.ul) = H.1 := by rw [<- hH]; rfl
 have m2 : max s.hh (s.hh + l.uh) = H.2 := by rw [<- hH]; rfl
 rw [hH] at c6
 have w1 : IntKind.wrap .i64 (s.fl - l.bh) = s.fl - l.bh := wrap64 (by omega) (by omega)
 have w2 : IntKind.wrap .i64 (s.fh - l.bl) = s.fh - l.bl := wrap64 (by omega) (by omega)
 generalize gainS r l = G at *
 obtain ⟨N, hN⟩ : ∃ N, nxtS k r s l = N := ⟨_, rfl⟩
 rw [hN] at en
 have n1 : s.xl + 6 * (l.axl + wx.1) = N.xl /\ s.xh + 6 * (l.axh + wx.2) = N.xh /\ s.yl + 6 * (l.ayl + wy.1) = N.yl /\ s.yh + 6 * (l.ayh + wy.2) = N.yh := by rw [en]; exact ⟨rfl, rfl, rfl, rfl⟩
 have n2 : s.hl + l.ul = N.hl /\ s.hh + l.uh = N.hh /\ s.fl - l.bh = N.fl /\ s.fh - l.bl = N.fh := by rw [en]; exact ⟨rfl, rfl, rfl, rfl⟩
 have n3 : min (s.wl + G.1) r.tank = N.wl /\ min (s.wh + G.2) r.tank = N.wh /\ s.bl + l.bl = N.bl /\ s.bh + l.bh = N.bh := by rw [en]; exact ⟨rfl, rfl, rfl, rfl⟩
 have n4 : tkQ s.gas = N.gas /\ s.dry = N.dry /\ s.bal = N.bal /\ s.drp = N.drp := by rw [en]; exact ⟨rfl, rfl, rfl, rfl⟩
 clear en
 obtain ⟨x1, x2, x3, x4⟩ := n1
 obtain ⟨x5, x6, x7, x8⟩ := n2
 obtain ⟨x9, x10, x11, x12⟩ := n3
 obtain ⟨x13, x14, x15, x16⟩ := n4
 obtain ⟨CX, hCX⟩ : ∃ CX, ixF (nofit A) N.gas.cs = CX := ⟨_, rfl⟩
 obtain ⟨TR, hTR⟩ : ∃ TR, rectS r.reg (spdS l) (hvS (bthS s N) A) = TR := ⟨_, rfl⟩
 obtain ⟨FB, hFB⟩ : ∃ FB, farB N = FB := ⟨_, rfl⟩
 have hev : evtS k r s l = if H.1 < r.lo then (1, 0) else if r.hi < H.2 then (2, 0) else if 0 <= CX then (3, CX) else if N.fl < r.rsv then (4, 0) else if TR = false then (5, 0) else if FB = false then (6, 0) else (0, 0) := by
   unfold evtS
   rw [hA, hH, hN, x13, hCX, hTR, hFB, x7]
 have hcel : ∀ c ∈ N.gas.cs, CelB c := by rw [<- x13]; exact okPlt_cs (tkQ_ok (okShp_gas hs))
 have hcl : N.gas.cs.length <= 12 := by rw [<- x13]; exact okPlt_len (tkQ_ok (okShp_gas hs))
 have hair : ¬ H.1 < r.lo -> ¬ r.hi < H.2 -> AirB A := fun q1 q2 => by
   rw [<- hA]
   rw [hH] at o ⊢
   exact at_air (sky_at hk hg (by omega) o (by omega))
 have d1 := fn238 k r H.1 H.2
 have d2 := fn239 k r H.1 H.2
 have d4 := fn243 k r N
 have d6 := fn246 N
 rw [hFB] at d6
 have d3 : ¬ H.1 < r.lo -> ¬ r.hi < H.2 -> Cm prog 240 [.d (.ref (shpR N)), .d (.ref (atmL A)), .lp 8 0] (lk [(8, [vi 0])]) [8] (.ret (vb (decide (0 <= CX)))) (lk [(8, [vi CX])]) := fun q1 q2 => by
   have := Cm.rename (fun _ => 8) 1 (by omega) (fn240 N A 0 hcel (by omega) (hair q1 q2)) (by simp [idsLt]) (by simp [idsLt]) (by simp)
   rw [hCX] at this
   simpa [renL, renR] using this
 have d5 : ¬ H.1 < r.lo -> ¬ r.hi < H.2 -> ¬ N.fl < r.rsv -> Ct prog 244 [.d (.ref (shpR N)), .d (.ref (shpR s)), .d (.ref (legL l)), .d (.ref [.ref (tripD k r)]), .d (.ref (atmL A))] (vb (!TR)) [] := fun q1 q2 q3 => by
   have v1 := rB.v; have v2 := rB.h
   have hbb : ShpB (bthS s N) := by
     unfold bthS
     refine ⟨by simp only; omega, by simp only; omega, by simp only; omega, ?_, ?_, hcl, hcel⟩
     . simp only; rw [<- x14]; exact sB.d
     . simp only; rw [<- x15]; exact sB.b
   have := fn244 hS k r N s l A h3 lB hbb (hair q1 q2)
   rw [hTR] at this; exact this
 simp only [doV] at c1
 obtain ⟨RV, hRV⟩ : ∃ RV, stpV k r s l = RV := ⟨_, rfl⟩
 have hav : AV (InB []) anyD RV := by rw [<- hRV]; exact stpV_av k r s l
 rw [hRV]
 refine Ct.by gok eok mixed func173 c173 rfl (by simp [ntmps173]) (by simp) (by simp [ResIds]; exact hav) fun E hE => ?_
 simp [p173, splice]
 refine CLa (c1) ?_
 simp [splice]
 refine CLa (c2) ?_
 simp [splice, m1, m2, inC, Nat.testBit, w1, w2]
 refine CLa (c3) ?_
 simp [splice]
 refine pw_drawW [(13, 80740352)] (by kernel_rfl) ?_
 simp [splice, inC, Nat.testBit]
 refine CLa (c4') ?_
 simp [splice, inC, Nat.testBit]
 refine CLa (c5) ?_
 simp [splice]
 refine pw_drawW [(20, 6291456), (23, 6291456)] (by kernel_rfl) ?_
 simp [splice, inC, Nat.testBit]
 refine pw_drawW [(11, 125829120)] (by kernel_rfl) ?_
 simp [inC, Nat.testBit]
 refine CLa (c6) ?_
 simp [splice, inC, Nat.testBit]
 refine CLa (c7) ?_
 simp [inC, Nat.testBit]
 refine CLa (c7') ?_
 simp [inC, Nat.testBit]
 refine CLa (c8) ?_
 simp [inC, Nat.testBit]
 refine CLa (c9) ?_
 simp [inC, Nat.testBit]
 refine CLa (c9') ?_
 simp [inC, Nat.testBit]
 refine CLa (c10) ?_
 simp [splice]
 refine pw_drawW [(11, 164626432)] (by kernel_rfl) ?_
 simp [inC, Nat.testBit]
 refine CLa (c11') ?_
 simp [splice, repl, inC, Nat.testBit]
 refine pw_loop (α := Nat) (fun j => ⟨slots [(3, .lp 0 0), (4, .lp 1 0), (5, .lp 2 0), (6, .lp 3 0), (7, .lp 4 0), (8, .lp 5 0), (9, .lp 6 0), (14, .lp 7 0), (16, .lp 8 0), (164, .ls 9 0 6 2), (165, vi 6), (166, vi j)], lk [(0, [tripV k r]), (1, shB s), (2, lgB l), (3, shZ), (4, [vi 0, vi 0, vi 0, vi 0]), (5, shB N), (6, [vi H.1, vi H.2]), (7, [vi A.pl, vi A.ph, vi A.tl, vi A.th]), (8, [vi (if j <= 2 then 0 else CX)]), (9, [vi 1, .cl 238 [.lp 6 0, .lp 0 0], vi 2, .cl 239 [.lp 6 0, .lp 0 0], vi 3, .cl 240 [.lp 5 0, .lp 7 0, .lp 8 0], vi 4, .cl 243 [.lp 5 0, .lp 0 0], vi 5, .cl 244 [.lp 5 0, .lp 1 0, .lp 2 0, .lp 0 0, .lp 7 0], vi 6, .cl 246 [.lp 5 0]])], 10⟩) (fun j => j <= 6 /\ (0 < j -> ¬ H.1 < r.lo) /\ (1 < j -> ¬ r.hi < H.2) /\ (2 < j -> ¬ 0 <= CX) /\ (3 < j -> ¬ N.fl < r.rsv) /\ (4 < j -> TR = true) /\ (5 < j -> FB = true)) (fun j => 6 - j) 0 ?_ ?_ ?_
 . omega
 . refine Weak.mk hE (lk [(0, 0), (1, 1048576), (2, 2097152), (3, 3145728), (4, 4194304), (5, 6291456), (6, 40894464), (7, 164626432), (8, 167772160), (9, 181403648)]) _ _ _ ?_ ?_ ?_ ?_ ?_ <;> simp [x1, x2, x3, x4, x5, x6, x7, x8, x9, x10, x11, x12, x13, x14, x15, x16]
 . rintro j ⟨hj, q1, q2, q3, q4, q5, q6⟩
   match j, hj, q1, q2, q3, q4, q5, q6 with
   | 0, _, q1, q2, q3, q4, q5, q6 =>
     have z : IntKind.wrap .i64 1 = 1 := by decide
     by_cases t : H.1 < r.lo
     . have e : evtS k r s l = (1, 0) := by rw [hev, if_pos t]
       simp [p173l0, splice]
       refine CLa (d1) ?_
       simp [t]
       refine pw_drawW [(6, 3)] (by kernel_rfl) ?_
       simp [splice, inC, Nat.testBit]
       refine RetOk.by (fun _ => none) ?_
       simp [results173, <- hRV, stpV, e]
     . simp [p173l0, splice]
       refine CLa (d1) ?_
       simp [t, z]
       refine ⟨1, ⟨by omega, fun _ => by omega, fun h => absurd h (by omega), fun h => absurd h (by omega), fun h => absurd h (by omega), fun h => absurd h (by omega), fun h => absurd h (by omega)⟩, by omega, ?_⟩
       refine Weak.mk hE (lk [(0, 0), (1, 1), (2, 2), (3, 3), (4, 4), (5, 5), (6, 6), (7, 7), (8, 8), (9, 9)]) _ _ _ ?_ ?_ ?_ ?_ ?_ <;> simp
   | 1, _, q1, q2, q3, q4, q5, q6 =>
     have q1 := q1 (by omega)
     have z : IntKind.wrap .i64 2 = 2 := by decide
     by_cases t : r.hi < H.2
     . have e : evtS k r s l = (2, 0) := by rw [hev, if_neg q1, if_pos t]
       simp [p173l0, splice]
       refine CLa (d2) ?_
       simp [t]
       refine pw_drawW [(6, 3)] (by kernel_rfl) ?_
       simp [splice, inC, Nat.testBit]
       refine RetOk.by (fun _ => none) ?_
       simp [results173, <- hRV, stpV, e]
     . simp [p173l0, splice]
       refine CLa (d2) ?_
       simp [t, z]
       refine ⟨2, ⟨by omega, fun _ => by omega, fun _ => by omega, fun h => absurd h (by omega), fun h => absurd h (by omega), fun h => absurd h (by omega), fun h => absurd h (by omega)⟩, by omega, ?_⟩
       refine Weak.mk hE (lk [(0, 0), (1, 1), (2, 2), (3, 3), (4, 4), (5, 5), (6, 6), (7, 7), (8, 8), (9, 9)]) _ _ _ ?_ ?_ ?_ ?_ ?_ <;> simp
   | 2, _, q1, q2, q3, q4, q5, q6 =>
     have q1 := q1 (by omega)
     have q2 := q2 (by omega)
     have z : IntKind.wrap .i64 3 = 3 := by decide
     by_cases t : 0 <= CX
     . have e : evtS k r s l = (3, CX) := by rw [hev, if_neg q1, if_neg q2, if_pos t]
       simp [p173l0, splice]
       refine ACall.mkR _ _ _ _ _ (d3 q1 q2) (by simp) (by simp) (by simp) (by simp) (by first | (left; simp; done) | (right; simp; done)) ?_
       simp [t]
       refine pw_drawW [(6, 3)] (by kernel_rfl) ?_
       simp [splice, inC, Nat.testBit]
       refine RetOk.by (fun _ => none) ?_
       simp [results173, <- hRV, stpV, e, Int.max_eq_left t]
     . simp [p173l0, splice]
       refine ACall.mkR _ _ _ _ _ (d3 q1 q2) (by simp) (by simp) (by simp) (by simp) (by first | (left; simp; done) | (right; simp; done)) ?_
       simp [t, z]
       refine ⟨3, ⟨by omega, fun _ => by omega, fun _ => by omega, fun _ => by omega, fun h => absurd h (by omega), fun h => absurd h (by omega), fun h => absurd h (by omega)⟩, by omega, ?_⟩
       refine Weak.mk hE (lk [(0, 0), (1, 1), (2, 2), (3, 3), (4, 4), (5, 5), (6, 6), (7, 7), (8, 8), (9, 9)]) _ _ _ ?_ ?_ ?_ ?_ ?_ <;> simp
   | 3, _, q1, q2, q3, q4, q5, q6 =>
     have q1 := q1 (by omega)
     have q2 := q2 (by omega)
     have q3 := q3 (by omega)
     have z : IntKind.wrap .i64 4 = 4 := by decide
     have mx : max CX 0 = 0 := by omega
     by_cases t : N.fl < r.rsv
     . have e : evtS k r s l = (4, 0) := by  rw [hev, if_neg q1, if_neg q2, if_neg q3, if_pos t]
       simp [p173l0, splice]
       refine CLa (d4) ?_
       simp [t]
       refine pw_drawW [(6, 3)] (by kernel_rfl) ?_
       simp [splice, inC, Nat.testBit]
       refine RetOk.by (fun _ => none) ?_
       simp [results173, <- hRV, stpV, e, mx]
     . simp [p173l0, splice]
       refine CLa (d4) ?_
       simp [t, z]
       refine ⟨4, ⟨by omega, fun _ => by omega, fun _ => by omega, fun _ => by omega, fun _ => by omega, fun h => absurd h (by omega), fun h => absurd h (by omega)⟩, by omega, ?_⟩
       refine Weak.mk hE (lk [(0, 0), (1, 1), (2, 2), (3, 3), (4, 4), (5, 5), (6, 6), (7, 7), (8, 8), (9, 9)]) _ _ _ ?_ ?_ ?_ ?_ ?_ <;> simp
   | 4, _, q1, q2, q3, q4, q5, q6 =>
     have q1 := q1 (by omega)
     have q2 := q2 (by omega)
     have q3 := q3 (by omega)
     have q4 := q4 (by omega)
     have z : IntKind.wrap .i64 5 = 5 := by decide
     have mx : max CX 0 = 0 := by omega
     by_cases t : TR = false
     . have e : evtS k r s l = (5, 0) := by  rw [hev, if_neg q1, if_neg q2, if_neg q3, if_neg q4, if_pos t]
       simp [p173l0, splice]
       refine CLa (d5 q1 q2 q4) ?_
       simp [t]
       refine pw_drawW [(6, 3)] (by kernel_rfl) ?_
       simp [splice, inC, Nat.testBit]
       refine RetOk.by (fun _ => none) ?_
       simp [results173, <- hRV, stpV, e, mx]
     . simp [p173l0, splice]
       refine CLa (d5 q1 q2 q4) ?_
       simp [t, z]
       refine ⟨5, ⟨by omega, fun _ => by omega, fun _ => by omega, fun _ => by omega, fun _ => by omega, fun h => absurd h (by omega)⟩, by omega, ?_⟩
       refine Weak.mk hE (lk [(0, 0), (1, 1), (2, 2), (3, 3), (4, 4), (5, 5), (6, 6), (7, 7), (8, 8), (9, 9)]) _ _ _ ?_ ?_ ?_ ?_ ?_ <;> simp
   | 5, _, q1, q2, q3, q4, q5, q6 =>
     have q1 := q1 (by omega)
     have q2 := q2 (by omega)
     have q3 := q3 (by omega)
     have q4 := q4 (by omega)
     have q5 := q5 (by omega)
     have z : IntKind.wrap .i64 6 = 6 := by decide
     have mx : max CX 0 = 0 := by omega
     by_cases t : FB = false
     . have e : evtS k r s l = (6, 0) := by  rw [hev, if_neg q1, if_neg q2, if_neg q3, if_neg q4, if_neg (by rw [q5]; simp), if_pos t]
       simp [p173l0, splice]
       refine CLa (d6) ?_
       simp [t]
       refine pw_drawW [(6, 3)] (by kernel_rfl) ?_
       simp [splice, inC, Nat.testBit]
       refine RetOk.by (fun _ => none) ?_
       simp [results173, <- hRV, stpV, e, mx]
     . simp [p173l0, splice]
       refine CLa (d6) ?_
       simp [t, z]
       refine ⟨6, ⟨by omega, fun _ => by omega, fun _ => by omega, fun _ => by omega, fun _ => by omega, fun _ => q5⟩, by omega, ?_⟩
       refine Weak.mk hE (lk [(0, 0), (1, 1), (2, 2), (3, 3), (4, 4), (5, 5), (6, 6), (7, 7), (8, 8), (9, 9)]) _ _ _ ?_ ?_ ?_ ?_ ?_ <;> simp
   | 6, _, q1, q2, q3, q4, q5, q6 =>
     have q1 := q1 (by omega)
     have q2 := q2 (by omega)
     have q3 := q3 (by omega)
     have q4 := q4 (by omega)
     have q5 := q5 (by omega)
     have q6 := q6 (by omega)
     have e : evtS k r s l = (0, 0) := by rw [hev, if_neg q1, if_neg q2, if_neg q3, if_neg q4, if_neg (by rw [q5]; simp), if_neg (by rw [q6]; simp)]
     simp [p173l0, splice]
     refine RetOk.by (fun _ => none) ?_
     simp [results173, <- hRV, stpV, e, hN]
   | j + 7, hj, _, _, _, _, _, _ => omega
def minV (a : Except (Int × Int × Int) Shp) : V := match a with
 | .ok n => .tup [shpV n (.d (cellsD n.gas.cs)), evV 0 0 0 0, vi 0]
 | .error e => .tup [.agg shZ, evV e.2.1 0 0 e.2.2, vi e.1]
theorem fn99 (hS : SortOk) (k : Sky) (r : Rig) (s : Shp) (l : Leg) (h1 : k.s.length <= 1000000) (h2 : k.w.length <= 1000000) (h3 : r.reg.length <= 1000000) (hk : okSky k = true) (hR : okRig r = true) (hg : rngS k r = true) (hs : okShp s = true) (hl : okLeg l = true) : Ct prog 99 [tripV k r, shpV s (.d (cellsD s.gas.cs)), legV l] (minV (minS k r s l)) [] := by
 have c1 := fn173 hS k r s l h1 h2 h3 hk hR hg hs hl
 unfold stpV at c1
 unfold minS
 by_cases hz : (evtS k r s l).1 = 0
 . rw [if_pos hz] at c1 ⊢
   have ebh : s.bh + l.bh = (nxtS k r s l).bh := rfl
   rw [ebh]
   generalize nxtS k r s l = N at *
   by_cases hf : 1000000000000 < N.bh
   . rw [if_pos hf]
     simp only [minV]
     refine CB func99 c99 (by simp [ntmps99]) fun E hE => ?_
     simp [p99]
     refine CLa (c1) ?_
     simp [splice, hf]
     refine pw_drawW [(2, 2097152)] (by kernel_rfl) ?_
     simp [splice, inC, Nat.testBit]
     refine RetOk.by (fun _ => none) ?_
     simp [results99]
   . rw [if_neg hf]
     simp only [minV]
     refine CB func99 c99 (by simp [ntmps99]) fun E hE => ?_
     simp [p99]
     refine CLa (c1) ?_
     simp [splice, hf]
     refine pw_drawW [(2, 2097152)] (by kernel_rfl) ?_
     simp [splice, inC, Nat.testBit]
     refine RetOk.by (fun _ => none) ?_
     simp [results99]
 . rw [if_neg hz] at c1 ⊢
   simp only [minV]
   generalize evtS k r s l = e at *
   refine CB func99 c99 (by simp [ntmps99]) fun E hE => ?_
   simp [p99]
   refine CLa (c1) ?_
   simp [splice, hz]
   refine pw_drawW [(2, 2097152)] (by kernel_rfl) ?_
   simp [splice, inC, Nat.testBit]
   refine RetOk.by (fun _ => none) ?_
   simp [results99]
theorem open_M (hS : SortOk) (k : Sky) (r : Rig) (h1 : k.s.length <= 1000000) (h2 : k.w.length <= 1000000) (h3 : r.reg.length <= 1000000) (hk : okSky k = true) (hr : okRig r = true) (hg : rngS k r = true) : Cm prog 98 [skyV k, rigV r, .ls 0 0 2 1] (lk [(0, [vi 0, vi 0])]) [] (.ret (.tup [.lp 0 0, vi 0])) (lk [(0, (tripD k r).map .d)]) := by
 have c1 := fn32 k h1 h2
 have c2 := fn34 hS r (by omega)
 have c3 := first4 0 0 0 0
 rw [hk] at c1
 rw [hr] at c2
 have hl := (sky_len hk).len
 obtain ⟨x, hx⟩ : ∃ x, k.s[0]? = some x := ⟨_, List.getElem?_eq_getElem (by omega)⟩
 obtain ⟨y, hy⟩ : ∃ y, k.s[k.s.length - 1]? = some y := ⟨_, List.getElem?_eq_getElem (by omega)⟩
 have c4 := fn91 x.h y.h [r.lo, r.hi] (by simp)
 rw [rng_eq (okRig_B hr) hx hy, hg] at c4
 have w1 : IntKind.wrap .i64 ((k.s.length : Int) - 1) = ((k.s.length - 1 : Nat) : Int) := by rw [wrap64 (by omega) (by omega)]; omega
 have hI0 : (0 : Int) < k.s.length := by omega
 obtain ⟨j, hj⟩ : ∃ j, k.s.length - 1 = j := ⟨_, rfl⟩
 rw [hj] at w1 hy
 have hI1 : (j : Int) < k.s.length := by omega
 refine Cm.by gok eok mixed 1 func98 c98 rfl (by simp [ntmps98]) (by simp) (HpIds.at (by simp)) (by simp) (by simp [ResIds]) fun E hs hE => ?_
 simp [p98, inC, Nat.testBit]
 refine CLa (c1) ?_
 simp [inC, Nat.testBit]
 refine CLa (c2) ?_
 simp [splice, repl]
 refine CLb (c3) (by simp [bor_i4]) ?_
 simp [splice, repl, inC, Nat.testBit, hx, hy, w1]
 refine CLb (c4) (by simp [bor_i2]) ?_
 simp [splice]
 refine RetOk.by (lk [(0, 40894465)]) ?_
 simp [results98]
theorem open_at (ID : Nat) (hS : SortOk) (k : Sky) (r : Rig) (h1 : k.s.length <= 1000000) (h2 : k.w.length <= 1000000) (h3 : r.reg.length <= 1000000) (hk : okSky k = true) (hr : okRig r = true) (hg : rngS k r = true) : Cm prog 98 [skyV k, rigV r, .ls ID 0 2 1] (lk [(ID, [vi 0, vi 0])]) [] (.ret (.tup [tripV k r, vi 0])) (lk []) := by
 have h := Cm.freeze (r' := .tup [tripV k r, vi 0]) (open_M hS k r h1 h2 h3 hk hr hg) (by
   refine ⟨?_, .inl rfl, trivial⟩
   exact ⟨_, rfl, by simp⟩)
 have h0 : Cm prog 98 [skyV k, rigV r, .ls 0 0 2 1] (lk [(0, [vi 0, vi 0])]) [] (.ret (.tup [tripV k r, vi 0])) (lk []) := h
 have := Cm.rename (fun _ => ID) 1 (by omega) h0 (by simp [idsLt]) (by simp [idsLt]) (by simp)
 simpa [renL, renR] using this
abbrev evtV (e : Evt) : V := evV e.1 e.2.1 e.2.2.1 e.2.2.2
def minR (i m : Int) (a : Except (Int × Int × Int) Shp) : V := match a with
 | .ok n => .tup [shpV n (.d (cellsD n.gas.cs)), evV 0 0 0 0, vi 0]
 | .error e => .tup [.agg shZ, evtV (if e.1 = 54 then (e.2.1, i, m, e.2.2) else ev0), vi e.1]
theorem ask_parts {k : Sky} {r : Rig} {s : Shp} {e : Int} (h : askF k r s e = 0) : okSky k = true /\ okRig r = true /\ okShp s = true /\ e = 0 /\ rngS k r = true := by
 unfold askF at h
 cases h1 : okSky k
 . rw [h1] at h; simp at h
 cases h2 : okRig r
 . rw [h1, h2] at h; simp at h
 cases h3 : okShp s
 . rw [h1, h2, h3] at h; simp at h
 by_cases h4 : e = 0
 . cases h5 : rngS k r
   . rw [h1, h2, h3, h5] at h; simp [h4] at h
   . exact ⟨rfl, rfl, rfl, h4, rfl⟩
 . rw [h1, h2, h3] at h; simp [h4] at h
end Go.Proofs.Tryz
