/- Own lemmas, used by the last text. Conditions: those that each theorem states. -/
import Derived.RangeFuncNested
import Derived.Test.YtcmmbjblncfhbaaGreatDoorOaad
set_option maxRecDepth 200000
set_option maxHeartbeats 8000000
namespace Go.Psl
variable {P : Program} {Γ : Tys} {eqs : Eqs} {E : Ent}
def W0 (ρ : Nat -> Option Nat) (v : V) : V -> Prop
 | .junk => True
 | .d x => v = .d x
 | .lp i off => ∃ j, ρ i = some j /\ v = .lp j off
 | .ls i off len sz => match ρ i with
   | some j => v = .ls j off len sz
   | none => len = 0 /\ v = .d (.lit (.slice none 0 0))
 | .yl i => ∃ j, ρ i = some j /\ v = .yl j
 | _ => False
def W1 (ρ : Nat -> Option Nat) (v : V) : V -> Prop
 | .cl f caps => ∃ cs, v = .cl f cs /\ All2 (W0 ρ) cs caps
 | v' => W0 ρ v v'
def W2 (ρ : Nat -> Option Nat) (v : V) : V -> Prop
 | .agg cs' => ∃ cs, v = .agg cs /\ All2 (W1 ρ) cs cs'
 | v' => W1 ρ v v'
def WV (ρ : Nat -> Option Nat) (v : V) : V -> Prop
 | .tup cs' => ∃ cs, v = .tup cs /\ All2 (W2 ρ) cs cs'
 | v' => W2 ρ v v'
def WC (ρ : Nat -> Option Nat) (v : V) : V -> Prop
 | .lr fr nt ps pa pb jmp => v = .lr fr nt ps pa pb jmp /\ ∀ t, AV (fun i => ρ i = some i) anyD (fr t)
 | v' => W1 ρ v v'
def ghOf (G : Gh) (ρ : Nat -> Option Nat) : Gh where
 β i := match ρ i with | some j => G.β j | none => 0
 bs i := match ρ i with | some j => G.bs j | none => 0
 ph i := match ρ i with | some j => G.ph j | none => true
 lo i := match ρ i with | some j => G.lo j | none => false
 Im := G.Im
section
variable {G : Gh} {W : World} {ρ : Nat -> Option Nat}
theorem W0.rel {v v' : V} {x : Value} (h : W0 ρ v v') (hr : R0 G W v x) : R0 (ghOf G ρ) W v' x := by
 cases v' with
 | junk => trivial
 | d y => have h : v = .d y := h; subst h; exact hr
 | lp i off =>
   obtain ⟨j, hj, rfl⟩ := h
   simp only [R0, ghOf, hj]
   exact hr
 | ls i off len sz =>
   unfold W0 at h
   simp only at h
   cases hj : ρ i with
   | some j =>
     rw [hj] at h
     simp only at h
     subst h
     simp only [R0, ghOf, hj]
     exact hr
   | none =>
     rw [hj] at h
     obtain ⟨rfl, rfl⟩ := h
     have hr : RD G.Im W (.lit (.slice none 0 0)) x := hr
     cases hr
     simp only [R0, ghOf, hj]
     simp [maxL]
 | yl i =>
   obtain ⟨j, hj, rfl⟩ := h
   simp only [R0, ghOf, hj]
   exact hr
 | lr => exact h.elim
 | cl f c => exact h.elim
 | agg c => exact h.elim
 | tup c => exact h.elim
theorem Wall {S S' : V -> Value -> Prop} {T : V -> V -> Prop} (h : ∀ v v' x, T v v' -> S v x -> S' v' x) : ∀ {vs vs' : List V} {xs : List Value}, All2 T vs vs' -> All2 S vs xs -> All2 S' vs' xs
 | [], [], _, _, h2 => by cases All2.nil_iff.1 h2; trivial
 | _ :: _, _ :: _, [], _, h2 => h2.elim
 | _ :: _, _ :: _, _ :: _, h1, h2 => ⟨h _ _ _ h1.1 h2.1, Wall h h1.2 h2.2⟩
 | [], _ :: _, _, h1, _ => h1.elim
 | _ :: _, [], _, h1, _ => h1.elim
theorem W1.rel {v v' : V} {x : Value} (h : W1 ρ v v') (hr : R1 G W v x) : R1 (ghOf G ρ) W v' x := by
 cases v' with
 | cl f caps =>
   obtain ⟨cs, rfl, hc⟩ := h
   obtain ⟨cv, hx, hcv⟩ := hr
   exact ⟨cv, hx, Wall (S := R0 G W) (S' := R0 (ghOf G ρ) W) (T := W0 ρ) (fun _ _ _ => W0.rel) hc hcv⟩
 | junk => trivial
 | d y => have h : v = .d y := h; subst h; exact hr
 | lp i off =>
   have h' := h
   obtain ⟨j, hj, rfl⟩ := h'
   exact W0.rel (W := W) (v' := .lp i off) h hr
 | ls i off len sz =>
   have h' : W0 ρ v (.ls i off len sz) := h
   have hv : R0 G W v x := by
     unfold W0 at h'
     simp only at h'
     split at h'
     . subst h'; exact hr
     . rw [h'.2] at hr ⊢; exact hr
   exact W0.rel (W := W) (v' := .ls i off len sz) h hv
 | yl i =>
   have h' := h
   obtain ⟨j, hj, rfl⟩ := h'
   exact W0.rel (W := W) (v' := .yl i) h hr
 | lr => exact h.elim
 | agg c => exact h.elim
 | tup c => exact h.elim
theorem W1.notop {v v' : V} (h : W1 ρ v v') (hj : v' ≠ .junk) : (∀ c, v ≠ .agg c) /\ ∀ c, v ≠ .tup c := by
 cases v' with
 | junk => exact absurd rfl hj
 | cl f c => obtain ⟨cs, rfl, _⟩ := h; simp
 | d y => have h : v = .d y := h; subst h; simp
 | lp i off => obtain ⟨j, hj, rfl⟩ := h; simp
 | ls i off len sz =>
   have h : W0 ρ v (.ls i off len sz) := h
   unfold W0 at h
   simp only at h
   split at h
   . subst h; simp
   . rw [h.2]; simp
 | yl i => obtain ⟨j, hj, rfl⟩ := h; simp
 | lr => exact h.elim
 | agg c => exact h.elim
 | tup c => exact h.elim
theorem R2.r1 {v : V} {x : Value} (h : ∀ c, v ≠ .agg c) (hr : R2 G W v x) : R1 G W v x := by
 cases v with
 | agg c => exact absurd rfl (h c)
 | _ => exact hr
theorem RV.r2 {v : V} {x : Value} (h : ∀ c, v ≠ .tup c) (hr : RV G W v x) : R2 G W v x := by
 cases v with
 | tup c => exact absurd rfl (h c)
 | _ => exact hr
theorem W2.rel {v v' : V} {x : Value} (h : W2 ρ v v') (hr : R2 G W v x) : R2 (ghOf G ρ) W v' x := by
 by_cases hj : v' = .junk
 . subst hj; trivial
 . cases v' with
   | agg c =>
     obtain ⟨cs, rfl, hc⟩ := h
     obtain ⟨cv, hx, hcv⟩ := hr
     exact ⟨cv, hx, Wall (S := R1 G W) (S' := R1 (ghOf G ρ) W) (T := W1 ρ) (fun _ _ _ => W1.rel) hc hcv⟩
   | junk => exact absurd rfl hj
   | tup c => exact h.elim
   | d y => exact W1.rel (v' := .d y) h (R2.r1 (W1.notop (ρ := ρ) (v' := .d y) h hj).1 hr)
   | lp i o => exact W1.rel (v' := .lp i o) h (R2.r1 (W1.notop (ρ := ρ) (v' := .lp i o) h hj).1 hr)
   | ls i o l z => exact W1.rel (v' := .ls i o l z) h (R2.r1 (W1.notop (ρ := ρ) (v' := .ls i o l z) h hj).1 hr)
   | cl f c => exact W1.rel (v' := .cl f c) h (R2.r1 (W1.notop (ρ := ρ) (v' := .cl f c) h hj).1 hr)
   | yl i => exact W1.rel (v' := .yl i) h (R2.r1 (W1.notop (ρ := ρ) (v' := .yl i) h hj).1 hr)
   | lr => exact h.elim
theorem W2.notup {v v' : V} (h : W2 ρ v v') (hj : v' ≠ .junk) : ∀ c, v ≠ .tup c := by
 cases v' with
 | agg c => obtain ⟨cs, rfl, _⟩ := h; simp
 | junk => exact absurd rfl hj
 | tup c => exact h.elim
 | d y => exact (W1.notop (ρ := ρ) (v' := .d y) h hj).2
 | lp i o => exact (W1.notop (ρ := ρ) (v' := .lp i o) h hj).2
 | ls i o l z => exact (W1.notop (ρ := ρ) (v' := .ls i o l z) h hj).2
 | cl f c => exact (W1.notop (ρ := ρ) (v' := .cl f c) h hj).2
 | yl i => exact (W1.notop (ρ := ρ) (v' := .yl i) h hj).2
 | lr => exact h.elim
theorem WV.rel {v v' : V} {x : Value} (h : WV ρ v v') (hr : RV G W v x) : RV (ghOf G ρ) W v' x := by
 by_cases hj : v' = .junk
 . subst hj; trivial
 . cases v' with
   | tup c =>
     obtain ⟨cs, rfl, hc⟩ := h
     obtain ⟨cv, hx, hcv⟩ := hr
     exact ⟨cv, hx, Wall (S := R2 G W) (S' := R2 (ghOf G ρ) W) (T := W2 ρ) (fun _ _ _ => W2.rel) hc hcv⟩
   | junk => exact absurd rfl hj
   | agg c => exact W2.rel (v' := .agg c) h (RV.r2 (W2.notup (ρ := ρ) (v' := .agg c) h hj) hr)
   | d y => exact W2.rel (v' := .d y) h (RV.r2 (W2.notup (ρ := ρ) (v' := .d y) h hj) hr)
   | lp i o => exact W2.rel (v' := .lp i o) h (RV.r2 (W2.notup (ρ := ρ) (v' := .lp i o) h hj) hr)
   | ls i o l z => exact W2.rel (v' := .ls i o l z) h (RV.r2 (W2.notup (ρ := ρ) (v' := .ls i o l z) h hj) hr)
   | cl f c => exact W2.rel (v' := .cl f c) h (RV.r2 (W2.notup (ρ := ρ) (v' := .cl f c) h hj) hr)
   | yl i => exact W2.rel (v' := .yl i) h (RV.r2 (W2.notup (ρ := ρ) (v' := .yl i) h hj) hr)
   | lr => exact h.elim
theorem fix_into : Into (fun i => ρ i = some i) anyD (fun i => i) G W (ghOf G ρ) W :=
 ⟨fun i hi => by simp only [ghOf, hi, and_self], fun _ _ _ h => h⟩
end
def cellsOk (l : List V) : Prop := l.all V.isCell = true \/ (∃ fr nt ps pa pb jmp, l = [.lr fr nt ps pa pb jmp]) \/ ∃ es, l = mapC es
def HpOk (ρ : Nat -> Option Nat) (H : Hp) : List (Nat × List V) -> Prop
 | [] => True
 | p :: r => (match ρ p.1 with | some j => (∃ cs, H j = some cs /\ All2 (WC ρ) cs p.2) /\ cellsOk p.2 | none => p.2 = []) /\ HpOk ρ H r
def HpFn (ρ : Nat -> Option Nat) (H h : Hp) : Prop := ∀ i cs', h i = some cs' -> (∃ j cs, ρ i = some j /\ H j = some cs /\ All2 (WC ρ) cs cs' /\ cellsOk cs') \/ (ρ i = none /\ cs' = [])
theorem HpOk.at {ρ : Nat -> Option Nat} {H : Hp} : ∀ {h : List (Nat × List V)}, HpOk ρ H h -> HpFn ρ H (lk h)
 | [], _, i, cs', h => by simp [lk] at h
 | p :: r, hk, i, cs', h => by
   simp only [lk] at h
   split at h
   . rename_i e
     cases h
     subst e
     have h1 := hk.1
     cases hj : ρ p.1 with
     | none => rw [hj] at h1; exact .inr ⟨rfl, h1⟩
     | some j => rw [hj] at h1; obtain ⟨⟨cs, h2, h3⟩, h4⟩ := h1; exact .inl ⟨j, cs, rfl, h2, h3, h4⟩
   . exact hk.2.at i cs' h
def RhoInj (ρ : Nat -> Option Nat) : List (Nat × List V) -> Prop
 | [] => True
 | p :: r => (∀ q ∈ r, ρ q.1 = none \/ ρ q.1 ≠ ρ p.1 \/ q.1 = p.1) /\ RhoInj ρ r
theorem lk_mem {α : Type} : ∀ {l : List (Nat × α)} {i : Nat} {x : α}, lk l i = some x -> ∃ p ∈ l, p.1 = i
 | [], _, _, h => by simp [lk] at h
 | p :: r, i, x, h => by
   simp only [lk] at h
   split at h
   . rename_i e; exact ⟨p, by simp, e.symm⟩
   . obtain ⟨q, hq, e⟩ := lk_mem h; exact ⟨q, by simp [hq], e⟩
def RhoFn (ρ : Nat -> Option Nat) (h : Hp) : Prop := ∀ i i' j, InH h i -> InH h i' -> ρ i = some j -> ρ i' = some j -> i = i'
theorem RhoInj.at' {ρ : Nat -> Option Nat} : ∀ {h : List (Nat × List V)} {i i' j : Nat} {x x' : List V}, RhoInj ρ h -> lk h i = some x -> lk h i' = some x' -> ρ i = some j -> ρ i' = some j -> i = i'
 | [], _, _, _, _, _, _, h, _, _, _ => by simp [lk] at h
 | p :: r, i, i', j, x, x', hk, h, h', e, e' => by
   simp only [lk] at h h'
   split at h
   . rename_i hi
     subst hi
     split at h'
     . rename_i hi'; exact hi'.symm
     . obtain ⟨q, hq, hqi⟩ := lk_mem h'
       subst hqi
       rcases hk.1 q hq with h1 | h1 | h1
       . rw [e'] at h1; cases h1
       . exact absurd (e'.trans e.symm) h1
       . exact h1.symm
   . split at h'
     . rename_i hi'
       subst hi'
       obtain ⟨q, hq, hqi⟩ := lk_mem h
       subst hqi
       rcases hk.1 q hq with h1 | h1 | h1
       . rw [e] at h1; cases h1
       . exact absurd (e.trans e'.symm) h1
       . exact h1
     . exact RhoInj.at' hk.2 h h' e e'
theorem RhoInj.at {ρ : Nat -> Option Nat} {h : List (Nat × List V)} (hr : RhoInj ρ h) : RhoFn ρ (lk h) := fun i i' j h1 h2 => by
 obtain ⟨x, hx⟩ := Option.isSome_iff_exists.1 h1
 obtain ⟨x', hx'⟩ := Option.isSome_iff_exists.1 h2
 exact hr.at' hx hx'
def HpIds (n : Nat) : List (Nat × List V) -> Prop
 | [] => True
 | p :: r => p.1 < n /\ (∀ c ∈ p.2, AC (· < n) anyD c) /\ HpIds n r
def IdsFn (n : Nat) (h : Hp) : Prop := ∀ i cs, h i = some cs -> i < n /\ ∀ c ∈ cs, AC (· < n) anyD c
theorem HpIds.at {n : Nat} : ∀ {h : List (Nat × List V)}, HpIds n h -> IdsFn n (lk h)
 | [], _, i, cs, h => by simp [lk] at h
 | p :: r, hk, i, cs, h => by
   simp only [lk] at h
   split at h
   . rename_i e; cases h; exact ⟨e ▸ hk.1, hk.2.1⟩
   . exact hk.2.2.at i cs h
def slots (l : List (Nat × V)) : Nat -> V := fun t => (lk l t).getD .junk
def SlotsOk (ρ : Nat -> Option Nat) (f : Nat -> V) : List (Nat × V) -> Prop
 | [] => True
 | p :: r => WV ρ (f p.1) p.2 /\ SlotsOk ρ f r
theorem SlotsOk.at {ρ : Nat -> Option Nat} {f : Nat -> V} : ∀ {l : List (Nat × V)}, SlotsOk ρ f l -> ∀ t, WV ρ (f t) (slots l t)
 | [], _, t => trivial
 | p :: r, h, t => by
   have ih := h.2.at t
   simp only [slots, lk] at ih ⊢
   split
   . rename_i e; rw [e]; exact h.1
   . exact ih
def SlotsIds (n : Nat) : List (Nat × V) -> Prop
 | [] => True
 | p :: r => AV (· < n) anyD p.2 /\ SlotsIds n r
theorem SlotsIds.at {n : Nat} : ∀ {l : List (Nat × V)}, SlotsIds n l -> ∀ t, AV (· < n) anyD (slots l t)
 | [], _, t => trivial
 | p :: r, h, t => by
   have ih := h.2.at t
   simp only [slots, lk] at ih ⊢
   split
   . exact h.1
   . exact ih
theorem hb_rel {G : Gh} {W : World} {ρ : Nat -> Option Nat} {H h : Hp} (hh : HpFn ρ H h) (hp : ∀ id cs, H id = some cs -> HB G W id cs) {i : Nat} {cs' : List V} (hi : h i = some cs') : HB (ghOf G ρ) W i cs' := by
 rcases hh i cs' hi with ⟨j, cs, h1, h2, h3, h4⟩ | ⟨h1, h2⟩
 . have hl := h3.length
   rcases hp j cs h2 with ⟨h5, h6⟩ | ⟨h5, h0, h6, c, T, h7, h8, h9, h10, h11⟩ | ⟨h5, h0, h6, ⟨hz, fr, nt, ps, pa, pb, jmp, rec, h7, h8, h9⟩ | ⟨hz, es, ms, ck, h7, h8, h9⟩ | ⟨hz, bx, bp, bv, h7, h8, h9, h10, h11⟩⟩
   . subst h6
     have : cs' = [] := by cases cs' with | nil => rfl | cons a l => exact h3.elim
     exact .inl ⟨by simp only [ghOf, h1]; exact h5, this⟩
   . have hcell : cs'.all V.isCell = true := by
       rcases h4 with h4 | ⟨fr, nt, ps, pa, pb, jmp, rfl⟩ | ⟨es, rfl⟩
       . exact h4
       . exfalso
         match cs, h3 with
         | [c0], h3 =>
           have : c0 = .lr fr nt ps pa pb jmp := h3.1.1
           subst this
           simp [V.isCell] at h11
         | [], h3 => exact h3.elim
         | _ :: _ :: _, h3 => exact h3.2.elim
       . exfalso
         match cs, h3 with
         | c0 :: _, h3 =>
           have : c0 = mapB es := h3.1.1
           subst this
           simp [V.isCell, mapB] at h11
         | [], h3 => exact h3.elim
     have h3' : All2 (W1 ρ) cs cs' := All2.of_get hl fun k v v' hv hv' => by
       obtain ⟨w, hw, hwr⟩ := h3.get hv
       rw [hv'] at hw; cases hw
       have := List.all_eq_true.1 hcell v' (List.mem_of_getElem? hv')
       cases v' <;> first | (simp [V.isCell] at this; done) | exact hwr
     refine .inr (.inl ⟨by simp only [ghOf, h1]; exact h5, by simp only [ghOf, h1]; exact h0, by simp only [ghOf, h1]; exact h6, c, T, by simp only [ghOf, h1]; exact h7, by simp only [ghOf, h1]; exact h8, by omega, ?_, hcell⟩)
     rw [<- hl]
     exact Wall (S := R1 G W) (S' := R1 (ghOf G ρ) W) (T := W1 ρ) (fun _ _ _ => W1.rel) h3' h10
   . subst h7
     match cs', h3 with
     | [c0], h3 =>
       have h31 := h3.1
       have hc0 : c0 = .lr fr nt ps pa pb jmp /\ ∀ t, AV (fun i => ρ i = some i) anyD (fr t) := by
         cases c0 with
         | lr fr' nt' ps' pa' pb' jmp' =>
           obtain ⟨e, ha⟩ := h31
           cases e
           exact ⟨rfl, ha⟩
         | junk => rcases h4 with h4 | ⟨_, _, _, _, _, _, h4⟩ | ⟨_, h4⟩ <;> simp [V.isCell, mapC] at h4
         | agg c => rcases h4 with h4 | ⟨_, _, _, _, _, _, h4⟩ | ⟨_, h4⟩ <;> simp [V.isCell, mapC] at h4
         | tup c => rcases h4 with h4 | ⟨_, _, _, _, _, _, h4⟩ | ⟨_, h4⟩ <;> simp [V.isCell, mapC] at h4
         | d x => have : V.lr fr nt ps pa pb jmp = .d x := h31; cases this
         | lp i o => obtain ⟨_, _, h⟩ := h31; cases h
         | ls i o l z =>
           simp only [WC, W1, W0] at h31
           split at h31
           . cases h31
           . cases h31.2
         | cl f c => obtain ⟨_, h, _⟩ := h31; cases h
         | yl i => obtain ⟨_, _, h⟩ := h31; cases h
       obtain ⟨rfl, hfr⟩ := hc0
       obtain ⟨q1, q2, q3, q4, q5, q6⟩ := h9
       refine .inr (.inr ⟨by simp only [ghOf, h1]; exact h5, by simp only [ghOf, h1]; exact h0, by simp only [ghOf, h1]; exact h6, .inl ⟨by simp only [ghOf, h1]; exact hz, fr, nt, ps, pa, pb, jmp, rec, rfl, by simp only [ghOf, h1]; exact h8, q1, q2, q3, q4, fun t => ?_, q6⟩⟩)
       exact fix_into.sv (hfr t) (q5 t)
     | [], h3 => exact h3.elim
     | _ :: _ :: _, h3 => exact h3.2.elim
   . subst h7
     have e : cs' = mapC es := by
       match cs', h3 with
       | [c0, c1], h3 =>
         obtain ⟨h31, h32, _⟩ := h3
         have e0 : c0 = mapB es := by
           cases c0 with
           | lr fr' nt' ps' pa' pb' jmp' => exact h31.1.symm
           | junk => rcases h4 with h4 | ⟨_, _, _, _, _, _, h4⟩ | ⟨_, h4⟩ <;> simp [V.isCell, mapC, mapB] at h4
           | agg c => rcases h4 with h4 | ⟨_, _, _, _, _, _, h4⟩ | ⟨_, h4⟩ <;> simp [V.isCell, mapC, mapB] at h4
           | tup c => rcases h4 with h4 | ⟨_, _, _, _, _, _, h4⟩ | ⟨_, h4⟩ <;> simp [V.isCell, mapC, mapB] at h4
           | d x => have : mapB es = .d x := h31; cases this
           | lp i o => obtain ⟨_, _, h⟩ := h31; cases h
           | ls i o l z =>
             simp only [WC, W1, W0] at h31
             split at h31
             . cases h31
             . cases h31.2
           | cl f c => obtain ⟨_, h, _⟩ := h31; cases h
           | yl i => obtain ⟨_, _, h⟩ := h31; cases h
         subst e0
         rcases h4 with h4 | ⟨_, _, _, _, _, _, h4⟩ | ⟨es', h4⟩
         . simp [V.isCell, mapB] at h4
         . simp at h4
         . have h5' : mapB es = mapB es' := by
             have := congrArg (fun l => l[0]?) h4
             simpa [mapC] using this
           rw [h4]
           unfold mapC
           rw [h5']
       | [], h3 => exact h3.elim
       | [_], h3 => exact h3.2.elim
       | _ :: _ :: _ :: _, h3 => exact h3.2.2.elim
     subst e
     refine .inr (.inr ⟨by simp only [ghOf, h1]; exact h5, by simp only [ghOf, h1]; exact h0, by simp only [ghOf, h1]; exact h6, .inr (.inl ⟨by simp only [ghOf, h1]; exact hz, es, ms, ck, rfl, by simp only [ghOf, h1]; exact h8, h9⟩)⟩)
   . subst h7
     match cs', h3 with
     | [c0, c1], h3 =>
       obtain ⟨h31, h32, _⟩ := h3
       have hcell : V.isCell c0 = true /\ V.isCell c1 = true := by
         rcases h4 with h4 | ⟨_, _, _, _, _, _, h4⟩ | ⟨es, h4⟩
         . simpa using h4
         . simp at h4
         . exfalso
           simp only [mapC, List.cons.injEq, and_true] at h4
           rw [h4.1] at h31
           have : bx = mapB es := h31.1
           subst this
           simp [V.isCell, mapB] at h11
       have e1 : c1 = .d (.lit bp.m) := by
         cases c1 with
         | d x => have : V.d (.lit bp.m) = .d x := h32; exact this.symm
         | lr => simp [V.isCell] at hcell
         | junk => simp [V.isCell] at hcell
         | agg c => simp [V.isCell] at hcell
         | tup c => simp [V.isCell] at hcell
         | lp i o => obtain ⟨_, _, h⟩ := h32; cases h
         | ls i o l z =>
           simp only [WC, W1, W0] at h32
           split at h32
           . cases h32
           . exact absurd (D.lit.inj (V.d.inj h32.2)) h9.m_ne
         | cl f c => obtain ⟨_, h, _⟩ := h32; cases h
         | yl i => obtain ⟨_, _, h⟩ := h32; cases h
       have h31' : W1 ρ bx c0 := by
         have := hcell.1
         cases c0 <;> first | (simp [V.isCell] at this; done) | exact h31
       rw [e1]
       exact .inr (.inr ⟨by simp only [ghOf, h1]; exact h5, by simp only [ghOf, h1]; exact h0, by simp only [ghOf, h1]; exact h6, .inr (.inr ⟨by simp only [ghOf, h1]; exact hz, c0, bp, bv, rfl, by simp only [ghOf, h1]; exact h8, by simp only [ghOf, h1]; exact h9, W1.rel h31' h10, hcell.1⟩)⟩)
     | [], h3 => exact h3.elim
     | [_], h3 => exact h3.2.elim
     | _ :: _ :: _ :: _, h3 => exact h3.2.2.elim
 . exact .inl ⟨by simp only [ghOf, h1], h2⟩
def SlotsFn (ρ : Nat -> Option Nat) (f g : Nat -> V) : Prop := ∀ t, WV ρ (f t) (g t)
theorem Weak.fn (ρ : Nat -> Option Nat) {st : St} (g : Nat -> V) (h : Hp) (n : Nat) (hs : SlotsFn ρ st.fr g) (hh : HpFn ρ st.H h) (hi : RhoFn ρ h) (hsi : ∀ t, AV (· < n) anyD (g t)) (hhi : IdsFn n h)
   (hst : ∀ i, E.stab i -> i < n /\ (InH h i -> ρ i = some i /\ InH st.H i)) : Weak P E st ⟨g, h, n⟩ := by
 intro G a W hI
 refine ⟨ghOf G ρ, { fr := fun t => (hs t).rel (hI.fr t), wf := hsi, hp := fun id cs hid => hb_rel hh hI.hp hid, wh := fun id cs hid => (hhi id cs hid).2, dom := fun id hid => ?_, inj := ?_, own := ?_, im := hI.im, im0 := hI.im0, keep := hI.keep, stab := ?_, sU := fun i hs => (hst i hs).1, nt := hI.nt, df := hI.df.imp fun ds h => ⟨h.1, h.2.nodup, h.2.at', h.2.nm⟩, gl := hI.gl }⟩
 . obtain ⟨cs, hcs⟩ := Option.isSome_iff_exists.1 hid
   exact (hhi id cs hcs).1
 . intro i i' h1 h2 p1 p2 he
   obtain ⟨x, hx⟩ := Option.isSome_iff_exists.1 h1
   obtain ⟨x', hx'⟩ := Option.isSome_iff_exists.1 h2
   rcases hh i x hx with ⟨j, cs, e1, e2, _⟩ | ⟨e1, _⟩
   . rcases hh i' x' hx' with ⟨j', cs', e1', e2', _⟩ | ⟨e1', _⟩
     . simp only [ghOf, e1, e1'] at p1 p2 he
       have := hI.inj j j' (by rw [e2]; rfl) (by rw [e2']; rfl) p1 p2 he
       subst this
       exact hi i i' j h1 h2 e1 e1'
     . simp [ghOf, e1'] at p2
   . simp [ghOf, e1] at p1
 . intro i h1 p1
   obtain ⟨x, hx⟩ := Option.isSome_iff_exists.1 h1
   rcases hh i x hx with ⟨j, cs, e1, e2, _⟩ | ⟨e1, _⟩
   . simp only [ghOf, e1] at p1 ⊢
     exact hI.own j (by rw [e2]; rfl) p1
   . simp [ghOf, e1] at p1
 . intro i hs h1
   obtain ⟨h2, h3⟩ := (hst i hs).2 h1
   simp only [ghOf, h2]
   exact hI.stab i hs h3
theorem Weak.of (ρ : Nat -> Option Nat) {st : St} (l : List (Nat × V)) (h : List (Nat × List V)) (n : Nat) (hs : SlotsOk ρ st.fr l) (hh : HpOk ρ st.H h) (hi : RhoInj ρ h) (hsi : SlotsIds n l) (hhi : HpIds n h)
   (hst : ∀ i, E.stab i -> i < n /\ (InH (lk h) i -> ρ i = some i /\ InH st.H i)) : Weak P E st ⟨slots l, lk h, n⟩ :=
 Weak.fn ρ _ _ n hs.at hh.at hi.at hsi.at hhi.at hst
def resL (Γ : Tys) (H : Hp) (f : Nat -> V) : List ResultVar -> Option (List V)
 | [] => some []
 | .tmp t :: r => (resL Γ H f r).map (f t :: ·)
 | .cell a T :: r => (loadF Γ H T (f a)).bind fun p => (resL Γ H f r).map (p.1 :: ·)
def V.isTup : V -> Bool
 | .tup _ => true
 | _ => false
def pack : List V -> V
 | [v] => v
 | vs => .tup vs
def readVar (tmps : Array Value) : ResultVar -> Sem Value
 | .tmp t => pure (tmps.getD t undef)
 | .cell a t => do loadVar t (<- asAddr (tmps.getD a undef))
theorem readVars (hΓ : GOk P Γ) {U : Nat -> Prop} {G : Gh} {st : St} {a : Act} {W : World} (hI : Inv E U G st a W) : ∀ (rs : List ResultVar) (vs : List V), resL Γ st.H st.fr rs = some vs ->
   ∃ xs, (rs.mapM (readVar a.tmps)).run P W = .ok xs W /\ All2 (RV G W) vs xs /\ ∀ v ∈ vs, AV U anyD v
 | [], vs, h => by
   simp only [resL, Option.some.injEq] at h
   subst h
   exact ⟨[], rfl, trivial, by simp⟩
 | .tmp t :: r, vs, h => by
   simp only [resL, Option.map_eq_some_iff] at h
   obtain ⟨vs', h1, rfl⟩ := h
   obtain ⟨xs, h2, h3, h4⟩ := readVars hΓ hI r vs' h1
   refine ⟨_ :: xs, ?_, ⟨hI.fr t, h3⟩, fun v hv => ?_⟩
   . simp only [List.mapM_cons, Sem.run_bind, readVar, Sem.run_pure, Result.andThen_ok, h2]
   . rcases List.mem_cons.1 hv with rfl | hv
     . exact hI.wf t
     . exact h4 v hv
 | .cell b T :: r, vs, h => by
   simp only [resL] at h
   cases hp : loadF Γ st.H T (st.fr b) with
   | none => simp [hp] at h
   | some p =>
     obtain ⟨v, e⟩ := p
     simp only [hp, Option.bind_some, Option.map_eq_some_iff] at h
     obtain ⟨vs', h1, rfl⟩ := h
     obtain ⟨xs, h2, h3, h4⟩ := readVars hΓ hI r vs' h1
     obtain ⟨y, cs, hy, rfl, rfl, hc⟩ := loadF_inv hp
     obtain ⟨ad, us, hpv, hl, hcell, hr, hok, hcl⟩ := load_cells hI (hI.fr b) hc
     obtain ⟨u, hu, huv⟩ := run_loadVar (hΓ T y hy) W ad us hl hcell
     refine ⟨u :: xs, ?_, ⟨mk_rel hr huv, h3⟩, fun v hv => ?_⟩
     . simp only [List.mapM_cons, Sem.run_bind, readVar, Sem.run_pure, Result.andThen_ok, h2, hpv, hu, asAddr]
     . rcases List.mem_cons.1 hv with rfl | hv
       . exact mk_ok hok fun _ => hcl
       . exact h4 v hv
theorem run_results (hΓ : GOk P Γ) {U : Nat -> Prop} {G : Gh} {st : St} {a : Act} {W : World} (hI : Inv E U G st a W) {fn : Func} {vs : List V} (h : resL Γ st.H st.fr fn.results.toList = some vs) (ht : vs.all (fun v => !v.isTup) = true) :
   ∃ v, (results fn a.tmps).run P W = .ok v W /\ RV G W (pack vs) v := by
 obtain ⟨xs, h1, h2, _⟩ := readVars hΓ hI _ vs h
 have hm : (fn.results.mapM (readVar a.tmps)).run P W = .ok xs.toArray W := by
   rw [Array.mapM_eq_mapM_toList, Sem.run_map, h1]
   rfl
 have h2' : ∀ x ∈ vs, x.isTup = false := fun x hx => by simpa using List.all_eq_true.1 ht x hx
 refine ⟨if h : xs.toArray.size = 1 then xs.toArray[0] else .tuple xs.toArray, ?_, ?_⟩
 . change Sem.run P (do let vs <- fn.results.mapM (readVar a.tmps); pure (if h : vs.size = 1 then vs[0] else .tuple vs)) W = _
   rw [Sem.run_bind, hm, Result.andThen_ok, Sem.run_pure]
 . match vs, xs, h2 with
   | [v], [x], h2 => exact h2.1
   | [], [], _ => exact ⟨#[], by simp, trivial⟩
   | v :: w :: r, x :: y :: s, h2 =>
     refine ⟨(x :: y :: s).toArray, by simp, ?_⟩
     exact h2.mono fun v hv x hx => RV.r2 (fun c e => by have := h2' v hv; rw [e] at this; cases this) hx
   | [_], _ :: _ :: _, h2 => exact h2.2.elim
   | _ :: _ :: _, [_], h2 => exact h2.2.elim
def argF : Nat -> List V -> Nat -> V
 | _, [], _ => .tup []
 | k, a :: r, t => if t = k then a else argF (k + 1) r t
theorem argF_at : ∀ (l : List V) (k t : Nat), argF k l t = if k <= t then (l[t - k]?).getD (.tup []) else .tup []
 | [], k, t => by simp [argF]
 | a :: r, k, t => by
   simp only [argF, argF_at r]
   by_cases h : t = k
   . subst h; simp
   . rw [if_neg h]
     by_cases hk : k <= t
     . rw [if_pos hk, if_pos (by omega), show t - k = (t - (k + 1)) + 1 by omega, List.getElem?_cons_succ]
     . rw [if_neg hk, if_neg (by omega)]
def StabL (ρ : Nat -> Option Nat) (H : Hp) (h : Hp) : List Nat -> Prop
 | [] => True
 | i :: r => ((h i).isSome = true -> ρ i = some i /\ (H i).isSome = true) /\ StabL ρ H h r
theorem StabL.at {ρ : Nat -> Option Nat} {H h : Hp} : ∀ {ks : List Nat}, StabL ρ H h ks -> ∀ i ∈ ks, InH h i -> ρ i = some i /\ InH H i
 | [], _, _, hi, _ => by cases hi
 | k :: r, hs, i, hi, hh => by
   rcases List.mem_cons.1 hi with rfl | hi
   . exact hs.1 hh
   . exact hs.2.at i hi hh
def RetM (Γ : Tys) (fn : Func) (ks : List Nat) (r : V) (H1 : List (Nat × List V)) (st : St) : Prop :=
 ∃ vs ρ, resL Γ st.H st.fr fn.results.toList = some vs /\ vs.all (fun v => !v.isTup) = true /\ WV ρ (pack vs) r /\ HpOk ρ st.H H1 /\ RhoInj ρ H1 /\ StabL ρ st.H (lk H1) ks
def PanM (ks : List Nat) (v r : V) (H1 : List (Nat × List V)) (st : St) : Prop :=
 ∃ ρ, WV ρ v r /\ HpOk ρ st.H H1 /\ RhoInj ρ H1 /\ StabL ρ st.H (lk H1) ks
def retM (Γ : Tys) (fn : Func) (ks : List Nat) (res : Res) (H1 : List (Nat × List V)) : AExit -> St -> Prop
 | .normal, st | .ret, st => match res with | .ret r => RetM Γ fn ks r H1 st | .pan _ => False
 | .pan v, st => match res with | .pan r => PanM ks v r H1 st | .ret _ => False
 | _, _ => False
def InB (H1 : List (Nat × List V)) (i : Nat) : Prop := (lk H1 i).isSome = true
def ResIds (r : V) (H1 : List (Nat × List V)) : Prop := AV (InB H1) anyD r /\ ∀ p ∈ H1, ∀ c ∈ p.2, AC (InB H1) anyD c
theorem lk_mem' {α : Type} : ∀ {l : List (Nat × α)} {i : Nat} {x : α}, lk l i = some x -> (i, x) ∈ l
 | [], _, _, h => by simp [lk] at h
 | p :: r, i, x, h => by
   simp only [lk] at h
   split at h
   . rename_i e; cases h; subst e; simp
   . exact List.mem_cons_of_mem _ (lk_mem' h)
theorem Inv.side {U : Nat -> Prop} {G : Gh} {st : St} {a a' : Act} {W W' : World} (hI : Inv E U G st a W) {l : Nat} (hs : ∀ k, k ≠ l -> W'.heap[k]? = W.heap[k]?) (hsz : W'.heap.size = W.heap.size) (hos : W'.os = W.os) (hta : W'.tape = W.tape) (hou : W'.output = W.output)
   (hnim : ¬ G.Im l) (hno : ∀ i, InH st.H i -> G.ph i = false -> G.β i ≠ l) (hl : E.W0.heap.size <= l \/ E.mu l) (ha : a'.tmps = a.tmps) (hdf : ∃ ds, a'.defers = marksOf ds ++ E.dx /\ Marks E G W' ds) (hdr : dr W <= dr W' := by first | exact Nat.le_refl _ | exact Nat.le_succ _) : Inv E U G st a' W' := by
 have hchg : Chg U G W G W' := ⟨fun i _ => ⟨rfl, rfl, rfl, rfl⟩, fun k hk => ⟨hk, hs k (fun e => hnim (e ▸ hk))⟩⟩
 exact { fr := fun t => by rw [ha]; exact hchg.rv (hI.wf t) (hI.fr t), wf := hI.wf, hp := fun id cs h => hchg.hb (hI.dom id (by rw [h]; rfl)) (hI.wh id cs h) (hI.hp id cs h) (fun hp => hs _ (hno id (by show (st.H id).isSome = true; rw [h]; rfl) hp)) (fun h _ => h), wh := hI.wh, dom := hI.dom, inj := hI.inj, own := hI.own, im := fun b hb => ⟨by rw [hsz]; exact (hI.im b hb).1, (hI.im b hb).2⟩, im0 := hI.im0, keep := ⟨hos.trans hI.keep.os, hta.trans hI.keep.tape, hou.trans hI.keep.output, Nat.le_trans hI.keep.drawn hdr, by rw [hsz]; exact hI.keep.size, fun b hb hm => (hs b (fun e => hl.elim (fun h => by omega) (fun h => hm (e ▸ h)))).trans (hI.keep.block b hb hm)⟩, stab := hI.stab, sU := hI.sU, nt := by rw [ha]; exact hI.nt, df := hdf, gl := hI.gl.mono hchg.im }
theorem HB.kind {G : Gh} {W : World} {id : Nat} {cs : List V} (h : HB G W id cs) (hp : G.ph id = false) {x : Option (List Deferred)} : W.heap[G.β id]? ≠ some (.deferred x) := by
 rcases h with ⟨h, _⟩ | ⟨_, _, _, c, T, ⟨fz, h, _⟩, _⟩ | ⟨_, _, _, ⟨_, fr, nt, ps, pa, pb, jmp, rec, _, h, _⟩ | ⟨_, es, ms, ck, _, h, _⟩ | ⟨_, bx, bp, bv, _, h, _⟩⟩
 . rw [h] at hp; cases hp
 . rw [h]; nofun
 . rw [h]; nofun
 . rw [h]; nofun
 . rw [h]; nofun
theorem marks_inj : ∀ {l l' : List Nat}, marksOf l = marksOf l' -> l = l'
 | [], [], _ => rfl
 | x :: l, y :: l', h => by
   simp only [marksOf, List.map_cons, List.cons.injEq, Deferred.mk.injEq, Target.collected.injEq, and_true] at h
   rw [h.1, marks_inj h.2]
 | [], _ :: _, h => by cases h
 | _ :: _, [], h => by cases h
theorem leave_marks {U : Nat -> Prop} {G : Gh} {st : St} {fn : Func} {R : Ending -> World -> Prop} {u : FrameMode} (hu : u ≠ .run) {tmps : Array Value} {W0 : World} :
   ∀ (ds : List Nat) (a : Act) (W : World), a.tmps = tmps -> a.defers = marksOf ds ++ E.dx -> Inv E U G st a W -> (∀ b, G.Im b -> W.heap[b]? = W0.heap[b]?) -> (∀ a' W', a'.tmps = tmps -> Inv E U G st a' W' -> (∀ b, G.Im b -> W'.heap[b]? = W0.heap[b]?) -> LeavesInM Fence.wide 0 P fn tmps R E.dx u W') -> LeavesInM Fence.wide 0 P fn tmps R (marksOf ds ++ E.dx) u W
 | [], a, W, ht, hd, hI, hW, h => h a W ht hI hW
 | D :: ds, a, W, ht, hd, hI, hW, h => by
   obtain ⟨ds', hd', hm⟩ := hI.df
   have : ds' = D :: ds := by
     have := hd'.symm.trans hd
     exact marks_inj (List.append_cancel_right this)
   subst this
   obtain ⟨h1, h2, h3⟩ := hm.at' D (by simp)
   have hlt := (Array.getElem?_eq_some_iff.1 h1).1
   refine ⟨hu, .inl ⟨D, W.putObj D (.deferred none), rfl, run_takeDeferred h1, ?_⟩⟩
   refine leave_marks hu ds { a with defers := marksOf ds ++ E.dx } _ ht rfl (hI.side (l := D) (fun k hk => World.putObj_heap_other hk) (by simp) rfl rfl rfl h3 (fun i hi hp e => ?_) (.inl h2) rfl ⟨ds, rfl, ?_⟩) (fun b hb => (World.putObj_heap_other (fun e => h3 (by rw [<- e]; exact hb))).trans (hW b hb)) h
   . obtain ⟨cs, hcs⟩ := Option.isSome_iff_exists.1 hi
     exact (hI.hp i cs hcs).kind hp (by rw [e]; exact h1)
   . have hn := List.nodup_cons.1 hm.nodup
     exact ⟨hn.2, fun D' hD' => ⟨(World.putObj_heap_other (fun e => hn.1 (by rw [<- e]; exact hD'))).trans (hm.at' D' (by simp [hD'])).1, (hm.at' D' (by simp [hD'])).2⟩, fun h => by cases hm.nm h⟩
theorem post_of {W0 : World} {G : Gh} {Hin : Hp} {ks : List Nat} (hE : E.W0 = W0 /\ E.Im0 = G.Im /\ (∀ b, E.mu b ↔ lentB G Hin b) /\ ∀ i, i ∈ ks -> E.stab i /\ E.β0 i = G.β i /\ E.bs0 i = G.bs i /\ E.lo0 i = G.lo i) {res : Res} {H1 : List (Nat × List V)} (hri : ResIds res.v H1) {U : Nat -> Prop} {G' : Gh} {st : St} {a : Act} {W : World} (hI : Inv E U G' st a W) {ρ : Nat -> Option Nat} {e : Ending} (h4 : HpOk ρ st.H H1) (h5 : RhoInj ρ H1) (h6 : StabL ρ st.H (lk H1) ks) (hr : resRel (ghOf G' ρ) W res e) :
   Post G W0 Hin ks res (lk H1) e W (ghOf G' ρ) := by
 obtain ⟨rfl, hIm, hmu, hst⟩ := hE
 refine ⟨hI.keep.os, hI.keep.tape, hI.keep.output, hI.keep.drawn, hI.keep.size, fun b hb hl => hI.keep.block b hb (fun h => hl ((hmu b).1 h)), fun b hb => ?_, fun b hb => hI.im0 b (by rw [hIm]; exact hb), hr, hri.1, fun i cs hi => ⟨hb_rel h4.at hI.hp hi, fun hp => ?_, hri.2 _ (lk_mem' hi)⟩, ?_, fun i hi hh => ?_⟩
 . obtain ⟨q1, q2 | q2 | q2⟩ := hI.im b hb
   . exact ⟨q1, .inl (by rw [<- hIm]; exact q2)⟩
   . exact ⟨q1, .inr (.inl q2)⟩
   . exact ⟨q1, .inr (.inr ((hmu b).1 q2))⟩
 . rcases h4.at i cs hi with ⟨j, cs', q1, q2, _⟩ | ⟨q1, _⟩
   . simp only [ghOf, q1] at hp ⊢
     exact (hI.own j (by rw [q2]; rfl) hp).imp id (hmu _).1
   . simp [ghOf, q1] at hp
 . intro i i' q1 q2 p1 p2 he
   obtain ⟨x, hx⟩ := Option.isSome_iff_exists.1 q1
   obtain ⟨x', hx'⟩ := Option.isSome_iff_exists.1 q2
   rcases h4.at i x hx with ⟨j, cs, r1, r2, _⟩ | ⟨r1, _⟩
   . rcases h4.at i' x' hx' with ⟨j', cs', r1', r2', _⟩ | ⟨r1', _⟩
     . simp only [ghOf, r1, r1'] at p1 p2 he
       have := hI.inj j j' (by rw [r2]; rfl) (by rw [r2']; rfl) p1 p2 he
       subst this
       exact h5.at i i' j q1 q2 r1 r1'
     . simp [ghOf, r1'] at p2
   . simp [ghOf, r1] at p1
 . obtain ⟨q1, q2⟩ := h6.at i hi hh
   obtain ⟨hs, e1, e2, e3⟩ := hst i hi
   have := hI.stab i hs q2
   simp only [ghOf, q1]
   rw [e1, e2, e3] at this
   exact this
theorem run_resM (hΓ : GOk P Γ) {U : Nat -> Prop} {G' : Gh} {st : St} {a : Act} {W : World} {fn : Func} {ks : List Nat} {r : V} {H1 : List (Nat × List V)} (hI : Inv E U G' st a W) (h : RetM Γ fn ks r H1 st) : ∃ ρ v, (results fn a.tmps).run P W = .ok v W /\ RV (ghOf G' ρ) W r v /\ HpOk ρ st.H H1 /\ RhoInj ρ H1 /\ StabL ρ st.H (lk H1) ks := by
 obtain ⟨vs, ρ, h1, h2, h3, h4⟩ := h
 obtain ⟨v, hv, hr⟩ := run_results hΓ hI h1 h2
 exact ⟨ρ, v, hv, h3.rel hr, h4⟩
theorem Inv.startN {G : Gh} {W : World} {Hin : Hp} {ks : List Nat} {nt N : Nat} {rd : Option Nat} {nm : Bool} (hGW : GW G.Im W) (hpre : PreH G W Hin ks) (hids : IdsFn N Hin) (hks : ∀ i ∈ ks, i < N) {f : Nat -> V} {tmps : Array Value} (hfr : ∀ t, RV G W (f t) (tmps.getD t undef)) (hwf : ∀ t, AV (· < N) anyD (f t)) (hnt : nt <= tmps.size) :
   Inv { W0 := W, Im0 := G.Im, mu := lentB G Hin, β0 := G.β, bs0 := G.bs, lo0 := G.lo, stab := (· ∈ ks), nt := nt, rd := rd, nm := nm } (· < N) G ⟨f, Hin, N⟩ { tmps := tmps, defers := [] } W :=
 ⟨hfr, hwf, hpre.hb, fun i cs h => (hids i cs h).2, fun i h => by obtain ⟨cs, hcs⟩ := Option.isSome_iff_exists.1 h; exact (hids i cs hcs).1, hpre.inj, fun i hi hp => .inr ⟨i, hi, hp, rfl⟩, fun b hb => ⟨hGW.1 b hb, .inl hb⟩, fun _ h => h, ⟨rfl, rfl, rfl, Nat.le_refl _, Nat.le_refl _, fun _ _ _ => rfl⟩, fun i hi _ => ⟨rfl, rfl, (hpre.st i hi).2, rfl⟩, hks, hnt, ⟨[], rfl, List.nodup_nil, fun _ h => (nomatch h), fun _ => rfl⟩, hGW.2⟩
theorem Inv.start {G : Gh} {W : World} {Hin : Hp} {ks : List Nat} {nt N : Nat} {rd : Option Nat} (hGW : GW G.Im W) (hpre : PreH G W Hin ks) (hids : IdsFn N Hin) (hks : ∀ i ∈ ks, i < N) {f : Nat -> V} {tmps : Array Value} (hfr : ∀ t, RV G W (f t) (tmps.getD t undef)) (hwf : ∀ t, AV (· < N) anyD (f t)) (hnt : nt <= tmps.size) :
   Inv { W0 := W, Im0 := G.Im, mu := lentB G Hin, β0 := G.β, bs0 := G.bs, lo0 := G.lo, stab := (· ∈ ks), nt := nt, rd := rd } (· < N) G ⟨f, Hin, N⟩ { tmps := tmps, defers := [] } W := Inv.startN hGW hpre hids hks hfr hwf hnt
theorem Cm.intro (hΓ : GOk P Γ) {f : FuncId} {fn : Func} {c : Code} {args : List V} {Hin : Hp} {ks : List Nat} {res : Res} {H1 : List (Nat × List V)} (N : Nat) (hf : P.funcs[f]? = some fn) (hb : fn.body = some c) (hname : (fn.name == "runtime.NumGoroutine") = false)
   (hn : args.length <= fn.ntmps) (hcl : ∀ v ∈ args, A2 (· < N) anyD v) (hids : IdsFn N Hin) (hks : ∀ i ∈ ks, i < N) (hri : ResIds res.v H1)
   (h : ∀ E : Ent, E.nt = fn.ntmps -> (∀ i, E.stab i ↔ i ∈ ks) -> E.rq -> AW P E c (retM Γ fn ks res H1) ⟨argF 0 args, Hin, N⟩) : Cm P f args Hin ks res (lk H1) := by
 refine ⟨⟨fn, hf, by rw [hb]; rfl, hname⟩, fun G W xs hGW hargs hpre => ?_⟩
 have hl : args.length = xs.size := by have := hargs.length; simpa using this
 have hfr : ∀ t, RV G W (argF 0 args t) ((xs ++ Array.replicate (fn.ntmps - xs.size) undef).getD t undef) := fun t => by
   rw [argF_at, if_pos (Nat.zero_le t), Nat.sub_zero, Array.getD_eq_getD_getElem?]
   by_cases ht : t < xs.size
   . rw [Array.getElem?_append_left ht, Array.getElem?_eq_getElem ht]
     have h1 : args[t]? = some args[t] := List.getElem?_eq_getElem (by omega)
     obtain ⟨x, hx, hrx⟩ := hargs.get h1
     rw [h1]
     have : x = xs[t] := by
       rw [Array.getElem?_toList, Array.getElem?_eq_getElem ht] at hx; cases hx; rfl
     subst this
     exact hrx.rv
   . rw [List.getElem?_eq_none (by omega), Array.getElem?_append_right (by omega)]
     have : ((Array.replicate (fn.ntmps - xs.size) undef)[t - xs.size]?).getD undef = undef := by
       rw [Array.getElem?_replicate]; split <;> rfl
     rw [this]
     exact tup_nil
 have hwf : ∀ t, AV (· < N) anyD (argF 0 args t) := fun t => by
   rw [argF_at, if_pos (Nat.zero_le t), Nat.sub_zero]
   cases h1 : args[t]? with
   | none => intro c hc; cases hc
   | some v =>
     obtain ⟨x, _, hx⟩ := hargs.get h1
     exact hx.av (hcl v (List.mem_of_getElem? h1))
 have hI := Inv.start (nt := fn.ntmps) (rd := none) hGW hpre hids hks (tmps := xs ++ Array.replicate (fn.ntmps - xs.size) undef) hfr hwf (by simp; omega)
 rw [<- callsIn_wide (n := 0)]
 refine callsIn_of_wp_marks hf hb trivial ?_
 refine wpIn_mono (h _ rfl (fun _ => Iff.rfl) ⟨rfl, rfl⟩ G _ W hI) fun e a' W' ⟨x, st', G', hI', hx, ho, hq⟩ => ?_
 have hE : W = W /\ G.Im = G.Im /\ (∀ b, lentB G Hin b ↔ lentB G Hin b) /\ ∀ i, i ∈ ks -> i ∈ ks /\ G.β i = G.β i /\ G.bs i = G.bs i /\ G.lo i = G.lo i := ⟨rfl, rfl, fun _ => Iff.rfl, fun _ h => ⟨h, rfl, rfl, rfl⟩⟩
 have fin : retM Γ fn ks res H1 .ret st' -> LeavesInM Fence.wide 0 P fn a'.tmps (fun e W' => ∃ G', Post G W Hin ks res (lk H1) e W' G') a'.defers .returning W' := fun hq => by
   obtain ⟨ds, hd, _⟩ := hI'.df
   rw [hd]
   refine leave_marks (u := .returning) nofun ds a' W' rfl hd hI' (W0 := W') (fun _ _ => rfl) fun a2 W2 ht hI2 _ => ?_
   cases res with
   | pan r => exact hq.elim
   | ret r =>
     obtain ⟨ρ, v, hv, hr, h4, h5, h6⟩ := run_resM hΓ hI2 hq
     rw [ht] at hv
     exact ⟨v, hv, _, post_of hE hri hI2 h4 h5 h6 (e := .returned v) hr⟩
 cases e with
 | normal => cases x <;> first | exact fin hq | exact False.elim hx
 | ret => cases x <;> first | exact fin hq | exact False.elim hx
 | exit _ => cases x <;> first | exact hq.elim | exact False.elim hx
 | goto _ => cases x <;> first | exact hq.elim | exact False.elim hx
 | panic ch =>
   cases x with
   | pan v =>
     obtain ⟨ds, hd, _⟩ := hI'.df
     show LeavesInM Fence.wide 0 P fn a'.tmps _ a'.defers (.panicking ch) W'
     rw [hd]
     cases res with
     | ret r => exact hq.elim
     | pan r =>
       obtain ⟨ρ, h3, h4, h5, h6⟩ := hq
       obtain ⟨y, hy, hry⟩ := hx
       refine leave_marks (u := .panicking ch) nofun ds a' W' rfl hd hI' (W0 := W') (fun _ _ => rfl) fun a2 W2 ht hI2 hW2 => ?_
       have hchg : Chg (· < st'.nx) G' W' G' W2 := ⟨fun _ _ => ⟨rfl, rfl, rfl, rfl⟩, fun b hb => ⟨hb, hW2 b hb⟩⟩
       exact ⟨_, post_of hE hri hI2 h4 h5 h6 (e := .panicked ch) ⟨y, hy, h3.rel (hchg.rv ho hry)⟩⟩
   | _ => exact False.elim hx
 | outgrown => cases x <;> exact False.elim hx
end Go.Psl
namespace Go.Psl
variable {P : Program} {Γ : Tys} {eqs : Eqs} {E : Ent}
def afterC (res : Res) (ρ : Nat -> Nat) (Hout : Hp) (Kc Kx : V -> Hp -> Prop) : Prop := match res with
 | .ret r => Kc (ren ρ r) Hout
 | .pan r => Kx (ren ρ r) Hout
abbrev CM := Option (List (Nat × Nat) × Nat)
def CM.ok (m : CM) (b : Nat) (Hin : Hp) (ks : List Nat) (res : Res) (H1 : Hp) : Prop := match m with
 | none => True
 | some (ws, k) => (∀ r, res = .ret r -> wrOk ws k b Hin ks H1) /\ ∀ r, res = .pan r -> ∃ D, r = .d D
theorem CM.ok_no {m : CM} {b : Nat} {r : V} {H1 : Hp} : m.ok b noH [] (.ret r) H1 := by
 cases m with
 | none => trivial
 | some p => exact ⟨fun _ _ id h => by rcases h with ⟨h, _⟩ | ⟨_, h⟩ <;> simp [noH] at h, nofun⟩
def ACall (P : Program) (m : CM) (Hr H : Hp) (b : Nat) (g : FuncId) (az : List V) (Kc Kx : V -> Hp -> Prop) : Prop :=
 ∃ args Hin ks res H1 Hout, CallA P Hr g az args Hin ks res H1 /\ m.ok b Hin ks res H1 /\ Hout = heapM H b Hin ks H1 /\ afterC res (sg ks b) Hout Kc Kx
def AYield (P : Program) (m : CM) (Hr H : Hp) (b k : Nat) (az : List V) (Kc Kx : V -> Hp -> Prop) : Prop :=
 m = none /\ ∃ args Hin ks res H1 Hout, YieldA P Hr k az args Hin ks res H1 /\ Hout = heapM H b Hin ks H1 /\ afterC res (sg ks b) Hout Kc Kx
def bndC (P : Program) (m : CM) (Hr H : Hp) (b : Nat) (g : FuncId) (bs cs : List Value) (az : List V) (Kc Kx : V -> Hp -> Prop) : Prop := match cs, bs with
 | [], [.agg vs] => ACall P m Hr H b g (.agg (vs.toList.map cV) :: az) Kc Kx
 | _, _ => False
def callV (P : Program) (m : CM) (Hr H : Hp) (b : Nat) (cv : V) (az : List V) (Kc Kx : V -> Hp -> Prop) : Prop := match cv with
 | .d (.fn g caps) => ACall P m Hr H b g (az ++ caps.map .d) Kc Kx
 | .cl g caps => ACall P m Hr H b g (az ++ caps) Kc Kx
 | .yl k => AYield P m Hr H b k az Kc Kx
 | .d (.lit (.func (.func g) b' c')) => bndC P m Hr H b g b'.toList c'.toList az Kc Kx
 | _ => False
def addH (H : Hp) (base : Nat) : List (Nat × List V) -> Hp
 | [] => H
 | p :: r => upd (addH H base r) (base + p.1) (some (p.2.map (renC (base + ·))))
def idsLt (n : Nat) : List (Nat × List V) -> Prop
 | [] => True
 | p :: r => p.1 < n /\ idsLt n r
theorem addH_eq (H : Hp) (base : Nat) : ∀ (H1 : List (Nat × List V)), addH H base H1 = addF H base (lk H1)
 | [] => by funext i; simp [addH, addF, lk]
 | p :: r => by
   funext i
   simp only [addH, upd_at, addH_eq H base r, addF, lk]
   by_cases h : i = base + p.1
   . subst h; simp
   . rw [if_neg h]
     by_cases hb : base <= i
     . rw [if_pos hb, if_pos hb, if_neg (show ¬ (i - base = p.1) by omega)]
     . rw [if_neg hb, if_neg hb]
theorem lk_lt {n : Nat} : ∀ {H1 : List (Nat × List V)} {i : Nat}, idsLt n H1 -> InH (lk H1) i -> i < n
 | [], i, _, h => by simp [lk, InH] at h
 | p :: r, i, hl, h => by
   simp only [lk, InH] at h
   split at h
   . rename_i e; rw [e]; exact hl.1
   . exact lk_lt hl.2 h
theorem lessH_no (H : Hp) : lessH H noH = H := by funext i; simp [lessH, noH]
theorem ACall.mk0 {m : CM} {Hr H : Hp} {b : Nat} {g : FuncId} {az : List V} {Kc Kx : V -> Hp -> Prop} (args : List V) (r : V) (H1 : List (Nat × List V)) (hf : Ct P g args r H1) (hb : All2 (Bor Hr) az args) (hi : idsLt 1048576 H1) (hc : All2 (Bor noH) az args \/ flatRes (.ret r) (lk H1)) (hk : Kc (ren (b + ·) r) (addH H b H1)) : ACall P m Hr H b g az Kc Kx := by
 refine ⟨args, noH, [], .ret r, lk H1, addH H b H1, ⟨hf, nofun, fun i h _ => lk_lt hi h, nofun, ?_⟩, CM.ok_no, by rw [addH_eq, heapM_no], by rw [sg_nil]; exact hk⟩
 rw [lessH_no]
 exact hc.imp id fun h => ⟨hb, h⟩
def HinOk (H : Hp) : List (Nat × List V) -> Prop
 | [] => True
 | p :: r => H p.1 = some p.2 /\ HinOk H r
theorem HinOk.at {H : Hp} : ∀ {L : List (Nat × List V)}, HinOk H L -> ∀ i cs, lk L i = some cs -> H i = some cs
 | [], _, i, cs, h => by simp [lk] at h
 | p :: r, hk, i, cs, h => by
   simp only [lk] at h
   split at h
   . rename_i e; cases h; rw [e]; exact hk.1
   . exact hk.2.at i cs h
def delL (H : Hp) : List (Nat × List V) -> Hp
 | [] => H
 | p :: r => upd (delL H r) p.1 none
def addM (H : Hp) (ks : List Nat) (b : Nat) : List (Nat × List V) -> Hp
 | [] => H
 | p :: r => upd (addM H ks b r) (sg ks b p.1) (some (p.2.map (renC (sg ks b))))
theorem delL_eq (H : Hp) : ∀ (L : List (Nat × List V)) (i : Nat), delL H L i = if (lk L i).isSome then none else H i
 | [], i => rfl
 | p :: r, i => by
   simp only [delL, upd_at, lk, delL_eq H r i]
   by_cases h : i = p.1
   . simp [h]
   . simp [h]
def ksOk (b : Nat) (L L1 : List (Nat × List V)) : List Nat -> Prop
 | [] => True
 | i :: r => i < b /\ (lk L1 i).isSome = true /\ (∃ cs, lk L i = some cs /\ cs ≠ []) /\ ksOk b L L1 r
theorem ksOk.at {b : Nat} {L L1 : List (Nat × List V)} : ∀ {ks : List Nat}, ksOk b L L1 ks -> ∀ i ∈ ks, i < b /\ (lk L1 i).isSome = true /\ ∃ cs, lk L i = some cs /\ cs ≠ []
 | [], _, _, h => by cases h
 | k :: r, hk, i, h => by
   rcases List.mem_cons.1 h with rfl | h
   . exact ⟨hk.1, hk.2.1, hk.2.2.1⟩
   . exact hk.2.2.2.at i h
theorem addM_eq (H : Hp) (ks : List Nat) (b : Nat) (hks : ∀ i ∈ ks, i < b) : ∀ (L1 : List (Nat × List V)) (i : Nat), addM H ks b L1 i = if i ∈ ks then (match lk L1 i with | some cs => some (cs.map (renC (sg ks b))) | none => H i) else if b <= i then (if i - b ∈ ks then H i else match lk L1 (i - b) with | some cs => some (cs.map (renC (sg ks b))) | none => H i) else H i
 | [], i => by simp [addM, lk]
 | p :: r, i => by
   simp only [addM, upd_at, lk, addM_eq H ks b hks r i]
   by_cases hk : p.1 ∈ ks
   . have e : sg ks b p.1 = p.1 := by simp [sg, hk]
     rw [e]
     by_cases h : i = p.1
     . subst h; simp [hk]
     . rw [if_neg h]
       by_cases hi : i ∈ ks
       . simp [hi, h]
       . simp only [if_neg hi]
         by_cases hb : b <= i
         . simp only [if_pos hb]
           by_cases hib : i - b ∈ ks
           . simp [hib]
           . have : i - b ≠ p.1 := fun e => hib (e ▸ hk)
             simp [hib, this]
         . simp [hb]
   . have e : sg ks b p.1 = b + p.1 := by simp [sg, hk]
     rw [e]
     by_cases h : i = b + p.1
     . subst h
       have hn : ¬ (b + p.1 ∈ ks) := fun hh => by have := hks _ hh; omega
       simp [hn, hk]
     . rw [if_neg h]
       by_cases hi : i ∈ ks
       . have : i ≠ p.1 := fun e => hk (e ▸ hi)
         simp [hi, this]
       . simp only [if_neg hi]
         by_cases hb : b <= i
         . have : i - b ≠ p.1 := by omega
           simp [hb, this]
         . simp [hb]
theorem heapM_list (H : Hp) (ks : List Nat) (b : Nat) (L L1 : List (Nat × List V)) (h : ksOk b L L1 ks) (hL : ∀ i, InH (lk L) i -> i < b) : heapM H b (lk L) ks (lk L1) = addM (delL H L) ks b L1 := by
 funext i
 rw [addM_eq _ ks b (fun i hi => (h.at i hi).1)]
 simp only [heapM, delL_eq]
 by_cases hi : i ∈ ks
 . obtain ⟨h1, h2, h3⟩ := h.at i hi
   obtain ⟨cs, hcs⟩ := Option.isSome_iff_exists.1 h2
   simp [hi, hcs]
 . simp only [if_neg hi]
   by_cases hl : (lk L i).isSome = true
   . have := hL i hl
     simp [hl, show ¬ b <= i by omega]
   . simp [hl]
     rfl
theorem ACall.mkM0 {H : Hp} {b : Nat} {g : FuncId} {az : List V} {Kc Kx : V -> Hp -> Prop} (args : List V) (L : List (Nat × List V)) (ks : List Nat) (res : Res) (L1 : List (Nat × List V)) (hf : Cm P g args (lk L) ks res (lk L1)) (hin : HinOk H L) (hi : idsLt 1048576 L1) (hks : ksOk b L L1 ks) (hL : ∀ i, InH (lk L) i -> i < b)
   (hb : All2 (Bor noH) az args \/ (All2 (Bor (delL H L)) az args /\ flatRes res (lk L1))) (hk : afterC res (sg ks b) (addM (delL H L) ks b L1) Kc Kx) : ACall P none H H b g az Kc Kx := by
 refine ⟨args, lk L, ks, res, lk L1, _, ⟨hf, hin.at, fun i h _ => lk_lt hi h, fun i h => (hks.at i h).2.2, hb.imp id fun ⟨h1, h2⟩ => ⟨?_, h2⟩⟩, trivial, (heapM_list H ks b L L1 hks hL).symm, hk⟩
 have : lessH H (lk L) = delL H L := by funext i; rw [delL_eq]; rfl
 rw [this]; exact h1
def stepC (P : Program) (Γ : Tys) (eqs : Eqs) (m : CM) (b : Nat) (op : Op) (f : Nat -> V) (Hr H : Hp) (Kp : V -> Eff -> Prop) (Kc Kx : V -> Hp -> Prop) : Prop :=
 match evalOp Γ eqs Hr b f op with
 | some (v, e) => Kp v e
 | none => match op with
   | .call c => (match c.callee with
     | .value fo => callV P m Hr H b (evF f fo) (capL f c.args.toList) Kc Kx
     | _ => False)
   | .panic x => m = none /\ (∃ t ag cs, evF f x = .d (.ifc t ag cs)) /\ Kx (evF f x) H
   | _ => False
theorem callV_step {b : Nat} {o : Oper} {st : St} {c : Call} {fo : Operand} (ho : o.op = .call c) (hc : c.callee = .value fo) {Kc Kx : V -> Hp -> Prop} {K : St -> Prop} {K' : V -> St -> Prop}
   (h : callV P none st.H st.H b (evF st.fr fo) (capL st.fr c.args.toList) Kc Kx) (hKc : ∀ v H, Kc v H -> K ⟨frPut st.fr o.dst v, H, st.nx⟩) (hKx : ∀ v H, Kx v H -> K' v ⟨st.fr, H, st.nx⟩) : AStep P Γ eqs b o st K K' := by
 have hcall : ∀ g pre caps, calleeB (evF st.fr fo) = some (g, pre, caps) -> ACall P none st.H st.H b g (pre ++ (capL st.fr c.args.toList ++ caps)) Kc Kx -> AStep P Γ eqs b o st K K' := fun g pre caps hg ⟨args, Hin, ks, res, H1, Hout, hcall, _, he, hk⟩ => by
   subst he
   cases res with
   | ret r => exact .inl ⟨_, .call c fo g pre caps args Hin ks r H1 ho hc hg hcall, hKc _ _ hk⟩
   | pan r => exact .inr ⟨_, _, .call c fo g pre caps args Hin ks r H1 ho hc hg hcall, hKx _ _ hk⟩
 unfold callV at h
 split at h
 . rename_i g caps he; exact hcall g [] _ (by rw [he]; rfl) h
 . rename_i g caps he; exact hcall g [] _ (by rw [he]; rfl) h
 . rename_i k he
   obtain ⟨_, args, Hin, ks, res, H1, Hout, hcall, he', hk⟩ := h
   subst he'
   cases res with
   | ret r => exact .inl ⟨_, .yield c fo k args Hin ks r H1 ho hc he hcall, hKc _ _ hk⟩
   | pan r => exact .inr ⟨_, _, .yield c fo k args Hin ks r H1 ho hc he hcall, hKx _ _ hk⟩
 . rename_i g b' c' he
   unfold bndC at h
   split at h
   . rename_i vs hcs hbs
     exact hcall g [.agg (vs.toList.map cV)] [] (by rw [he]; simp [calleeB, hcs, hbs]) (by simpa using h)
   . exact h.elim
 . exact h.elim
theorem stepC_sound {b : Nat} {o : Oper} {st : St} {K : St -> Prop} {K' : V -> St -> Prop}
   (h : stepC P Γ eqs none b o.op st.fr st.H st.H (fun v e => K ⟨frPut st.fr o.dst v, st.H.app e, st.nx⟩) (fun v H => K ⟨frPut st.fr o.dst v, H, st.nx⟩) (fun v H => K' v ⟨st.fr, H, st.nx⟩)) : AStep P Γ eqs b o st K K' := by
 unfold stepC at h
 split at h
 . rename_i v e he; exact .inl ⟨_, .plain v e he, h⟩
 . split at h
   . rename_i c hop
     split at h
     . rename_i fo hce
       exact callV_step hop hce h (fun _ _ h => h) (fun _ _ h => h)
     . exact h.elim
   . rename_i x hop
     obtain ⟨_, ⟨t, ag, cs, hv⟩, hk⟩ := h
     rw [hv] at hk
     exact .inr ⟨_, _, .panic x t ag cs hop hv, hk⟩
   . exact h.elim
theorem stepD_sound {ws : List (Nat × Nat)} {k b : Nat} {o : Oper} {f : Nat -> V} {Hr H : Hp} {K : V -> Hp -> Prop} {Kx : V -> Hp -> Prop}
   (h : stepC P Γ eqs (some (ws, k)) b o.op f Hr H (fun v e => match e with | .none => K v H | .new i cs => i = b /\ K v (upd H b (some cs)) | .put i cs => (k, i) ∈ ws /\ K v (upd H i (some cs)) | .mov i j cs => ((k, i) ∈ ws /\ j = b) /\ K v (upd (upd H i none) b (some cs))) K Kx) : (∃ v H', StepD P Γ eqs ws k b o f Hr H v H' /\ K v H') \/ ∃ D H', StepDP P o f Hr D /\ Kx (.d D) H' := by
 unfold stepC at h
 split at h
 . rename_i v e he
   cases e with
   | none => exact .inl ⟨v, _, .plain v he, h⟩
   | new i cs => obtain ⟨rfl, h⟩ := h; exact .inl ⟨v, _, .new v cs he, h⟩
   | put i cs => exact .inl ⟨v, _, .put v i cs he h.1, h.2⟩
   | mov i j cs => obtain ⟨⟨hw, rfl⟩, h⟩ := h; exact .inl ⟨v, _, .mov v i cs he hw, h⟩
 . split at h
   . rename_i c hop
     split at h
     . rename_i fo hce
       have hcall : ∀ g pre caps, calleeB (evF f fo) = some (g, pre, caps) -> ACall P (some (ws, k)) Hr H b g (pre ++ (capL f c.args.toList ++ caps)) K Kx -> (∃ v H', StepD P Γ eqs ws k b o f Hr H v H' /\ K v H') \/ ∃ D H', StepDP P o f Hr D /\ Kx (.d D) H' := fun g pre caps hg ⟨args, Hin, ks, res, H1, Hout, hcall, hm, he, hk⟩ => by
         subst he
         cases res with
         | ret r => exact .inl ⟨_, _, .call c fo g pre caps args Hin ks r H1 hop hce hg hcall (hm.1 r rfl), hk⟩
         | pan r =>
           obtain ⟨D, rfl⟩ := hm.2 r rfl
           exact .inr ⟨D, _, ⟨c, fo, g, pre, caps, args, Hin, ks, H1, hop, hce, hg, hcall⟩, hk⟩
       unfold callV at h
       split at h
       . rename_i g caps he; exact hcall g [] _ (by rw [he]; rfl) h
       . rename_i g caps he; exact hcall g [] _ (by rw [he]; rfl) h
       . exact absurd h.1 (by simp)
       . rename_i g b' c' he
         unfold bndC at h
         split at h
         . rename_i vs hcs hbs
           exact hcall g [.agg (vs.toList.map cV)] [] (by rw [he]; simp [calleeB, hcs, hbs]) (by simpa using h)
         . exact h.elim
       . exact h.elim
     . exact h.elim
   . exact absurd h.1 (by simp)
   . exact h.elim
def gV2 (f : Nat -> V) : Option (Option Nat × Bool) -> Option Bool
 | none => some true
 | some (none, _) => none
 | some (some d, w) => (gV (f d)).map fun y => y == some w
theorem gV2_eq {all : List Oper} {f : Nat -> V} {g : Option (Nat × Bool)} : gV2 f (gdOf all g) = guardOf all f g := by
 cases g with
 | none => rfl
 | some p =>
   obtain ⟨j, w⟩ := p
   simp only [gdOf, guardOf]
   cases h : (all[j]?).bind (·.dst) <;> rfl
abbrev RK := (Nat -> V) -> Hp -> Nat -> Prop
def PO.run (P : Program) (Γ : Tys) (eqs : Eqs) (o : PO) (b : Nat) (f : Nat -> V) (H : Hp) (K : (Nat -> V) -> Hp -> Prop) (Kx : V -> (Nat -> V) -> Hp -> Nat -> Prop) : Prop :=
 match gV2 f o.g with
 | some true => stepC P Γ eqs none b o.op f H H (fun v e => K (frPut f o.dst v) (H.app e)) (fun v H => K (frPut f o.dst v) H) (fun v H => Kx v f H (b + 1048576))
 | some false => K (frPut f o.dst (.tup [])) H
 | none => False
def runR (P : Program) (Γ : Tys) (eqs : Eqs) (Kx : V -> RK) : Nat -> List PO -> (Nat -> V) -> Hp -> RK -> Prop
 | b, [], f, H, K => K f H b
 | b, o :: r, f, H, K => o.run P Γ eqs b f H (fun f H => runR P Γ eqs Kx (b + 1048576) r f H K) Kx
def PO.runD (P : Program) (Γ : Tys) (eqs : Eqs) (ws : List (Nat × Nat)) (k : Nat) (o : PO) (b : Nat) (f : Nat -> V) (Hr H : Hp) (Kx : V -> Hp -> Prop) (K : (Nat -> V) -> Hp -> Prop) : Prop :=
 match gV2 f o.g with
 | some true => stepC P Γ eqs (some (ws, k)) b o.op f Hr H (fun v e => match e with | .none => K (frPut f o.dst v) H | .new i cs => i = b /\ K (frPut f o.dst v) (upd H b (some cs)) | .put i cs => (k, i) ∈ ws /\ K (frPut f o.dst v) (upd H i (some cs)) | .mov i j cs => ((k, i) ∈ ws /\ j = b) /\ K (frPut f o.dst v) (upd (upd H i none) b (some cs))) (fun v H => K (frPut f o.dst v) H) Kx
 | some false => K (frPut f o.dst (.tup [])) H
 | none => False
def runDead (P : Program) (Γ : Tys) (eqs : Eqs) (ws : List (Nat × Nat)) (cl : List Nat) (n0 k0 : Nat) : Nat -> Nat -> List PO -> (Nat -> V) -> Hp -> Prop
 | _, _, [], _, _ => True
 | k, b, o :: r, f, H => (inC cl k k0 = true /\ runDead P Γ eqs ws cl n0 k0 (k + 1) (b + 1048576) r f H) \/ (inC cl k k0 = false /\ o.runD P Γ eqs ws k b f (Hcl ws cl k n0 H) H (fun _ _ => False) fun f H => runDead P Γ eqs ws cl n0 k0 (k + 1) (b + 1048576) r f H)
def runD (P : Program) (Γ : Tys) (eqs : Eqs) (ws : List (Nat × Nat)) (cl : List Nat) (n0 : Nat) (Z : V -> Prop) : Nat -> Nat -> List PO -> (Nat -> V) -> Hp -> RK -> Prop
 | _, b, [], f, H, K => K f H b
 | k, b, o :: r, f, H, K => o.runD P Γ eqs ws k b f (Hcl ws cl k n0 H) H (fun v _ => Z v /\ runDead P Γ eqs ws cl n0 k (k + 1) (b + 1048576) r f H) fun f H => runD P Γ eqs ws cl n0 Z (k + 1) (b + 1048576) r f H K
theorem afterC_mono {res : Res} {ρ : Nat -> Nat} {Hout : Hp} {Kc Kc' Kx Kx' : V -> Hp -> Prop} (h : afterC res ρ Hout Kc Kx) (h1 : ∀ v H, Kc v H -> Kc' v H) (h2 : ∀ v H, Kx v H -> Kx' v H) : afterC res ρ Hout Kc' Kx' := by
 cases res with
 | ret r => exact h1 _ _ h
 | pan r => exact h2 _ _ h
theorem ACall.mono {m : CM} {Hr H : Hp} {b : Nat} {g : FuncId} {az : List V} {Kc Kc' Kx Kx' : V -> Hp -> Prop} (h : ACall P m Hr H b g az Kc Kx) (h1 : ∀ v H, Kc v H -> Kc' v H) (h2 : ∀ v H, Kx v H -> Kx' v H) : ACall P m Hr H b g az Kc' Kx' := by
 obtain ⟨args, Hin, ks, res, H1, Hout, q1, q2, q3, q4⟩ := h
 exact ⟨args, Hin, ks, res, H1, Hout, q1, q2, q3, afterC_mono q4 h1 h2⟩
theorem bndC_mono {m : CM} {Hr H : Hp} {b : Nat} {g : FuncId} {bs cs : List Value} {az : List V} {Kc Kc' Kx Kx' : V -> Hp -> Prop} (h : bndC P m Hr H b g bs cs az Kc Kx) (h1 : ∀ v H, Kc v H -> Kc' v H) (h2 : ∀ v H, Kx v H -> Kx' v H) : bndC P m Hr H b g bs cs az Kc' Kx' := by
 unfold bndC at h ⊢
 split
 . exact ACall.mono h h1 h2
 . split at h
   . rename_i h3
     exact (h3 _ rfl rfl).elim
   . exact h
theorem callV_mono {m : CM} {Hr H : Hp} {b : Nat} {cv : V} {az : List V} {Kc Kc' Kx Kx' : V -> Hp -> Prop} (h : callV P m Hr H b cv az Kc Kx) (h1 : ∀ v H, Kc v H -> Kc' v H) (h2 : ∀ v H, Kx v H -> Kx' v H) : callV P m Hr H b cv az Kc' Kx' := by
 unfold callV at h ⊢
 split
 . exact ACall.mono h h1 h2
 . exact ACall.mono h h1 h2
 . obtain ⟨q0, args, Hin, ks, res, H1, Hout, q1, q3, q4⟩ := h
   exact ⟨q0, args, Hin, ks, res, H1, Hout, q1, q3, afterC_mono q4 h1 h2⟩
 . exact bndC_mono h h1 h2
 . rename_i q1 q2 q3 q4
   split at h
   . exact (q1 _ _ rfl).elim
   . exact (q2 _ _ rfl).elim
   . exact (q3 _ rfl).elim
   . exact (q4 _ _ _ rfl).elim
   . exact h
theorem stepC_mono {m : CM} {b : Nat} {op : Op} {f : Nat -> V} {Hr H : Hp} {Kp Kp' : V -> Eff -> Prop} {Kc Kc' Kx Kx' : V -> Hp -> Prop} (h : stepC P Γ eqs m b op f Hr H Kp Kc Kx) (h0 : ∀ v e, Kp v e -> Kp' v e) (h1 : ∀ v H, Kc v H -> Kc' v H) (h2 : ∀ v H, Kx v H -> Kx' v H) : stepC P Γ eqs m b op f Hr H Kp' Kc' Kx' := by
 unfold stepC at h ⊢
 split
 . rename_i v e he; rw [he] at h; exact h0 _ _ h
 . rename_i he
   rw [he] at h
   simp only at h
   cases op with
   | call c =>
     simp only at h ⊢
     generalize c.callee = cc at h ⊢
     cases cc with
     | value fo => exact callV_mono h h1 h2
     | _ => exact h
   | panic x => exact ⟨h.1, h.2.1, h2 _ _ h.2.2⟩
   | _ => exact h
theorem runR_sound {all : List Oper} {K : St -> Prop} {K' : V -> St -> Prop} : ∀ (ops : List Oper) (k n0 : Nat) (f : Nat -> V) (H : Hp), runR P Γ eqs (fun v f H n => K' v ⟨f, H, n⟩) (n0 + 1048576 * k) (ops.map (poOf all)) f H (fun f H n => K ⟨f, H, n⟩) -> AOps P Γ eqs all k ops ⟨f, H, n0⟩ K K'
 | [], k, n0, f, H, h => h
 | o :: r, k, n0, f, H, h => by
   have e : n0 + 1048576 * (k + 1) = n0 + 1048576 * k + 1048576 := by omega
   simp only [List.map_cons, runR, PO.run, poOf] at h
   simp only [AOps, AGuard]
   split at h
   . rename_i hg
     rw [gV2_eq] at hg
     rw [hg]
     refine ⟨fun _ => stepC_sound (stepC_mono h (fun v e' hh => runR_sound r (k + 1) n0 _ _ (by rw [e]; exact hh)) (fun v H' hh => runR_sound r (k + 1) n0 _ _ (by rw [e]; exact hh)) (fun v H' hh => ?_)), nofun⟩
     show K' v ⟨f, H', n0 + 1048576 * (k + 1)⟩
     rw [e]; exact hh
   . rename_i hg
     rw [gV2_eq] at hg
     rw [hg]
     exact ⟨nofun, fun _ => runR_sound r (k + 1) n0 _ _ (by rw [e]; exact h)⟩
   . exact h.elim
theorem poD_sound {all : List Oper} {ws : List (Nat × Nat)} {k b : Nat} {o : Oper} {f : Nat -> V} {Hr H : Hp} {Kx : V -> Hp -> Prop} {K : (Nat -> V) -> Hp -> Prop} (h : (poOf all o).runD P Γ eqs ws k b f Hr H Kx K) :
   AGuard (guardOf all f o.guard) ((∃ v H', StepD P Γ eqs ws k b o f Hr H v H' /\ K (frPut f o.dst v) H') \/ ∃ D H', StepDP P o f Hr D /\ Kx (.d D) H') (K (frPut f o.dst (.tup [])) H) := by
 simp only [PO.runD, poOf] at h
 split at h
 . rename_i hg
   rw [gV2_eq] at hg
   simp only [hg, AGuard, true_implies, Bool.true_eq_false, false_implies, and_true]
   refine stepD_sound (K := fun v H => K (frPut f o.dst v) H) (stepC_mono h (fun v e hh => ?_) (fun _ _ h => h) (fun _ _ h => h))
   cases e with
   | none => exact hh
   | new i cs => exact hh
   | put i cs => exact hh
   | mov i j cs => exact hh
 . rename_i hg
   rw [gV2_eq] at hg
   simp only [hg, AGuard, true_implies, Bool.false_eq_true, false_implies, true_and]
   exact h
 . exact h.elim
theorem AGuard.imp {g : Option Bool} {r s r' s' : Prop} (h : AGuard g r s) (h1 : r -> r') (h2 : s -> s') : AGuard g r' s' := by
 unfold AGuard at h ⊢
 split at h
 . exact ⟨fun e => h1 (h.1 e), fun e => h2 (h.2 e)⟩
 . exact h.elim
theorem runDead_sound {all : List Oper} {ws : List (Nat × Nat)} {cl : List Nat} {k0 : Nat} : ∀ (ops : List Oper) (k n0 : Nat) (f : Nat -> V) (H : Hp), runDead P Γ eqs ws cl n0 k0 k (n0 + 1048576 * k) (ops.map (poOf all)) f H -> ADead P Γ eqs all ws cl n0 k0 k ops f H
 | [], _, _, _, _, _ => trivial
 | o :: r, k, n0, f, H, h => by
   have e : n0 + 1048576 * (k + 1) = n0 + 1048576 * k + 1048576 := by omega
   rcases h with ⟨h1, h2⟩ | ⟨h1, h2⟩
   . exact .inl ⟨h1, runDead_sound r (k + 1) n0 f H (by rw [e]; exact h2)⟩
   . refine .inr ⟨h1, (poD_sound h2).imp (fun h => ?_) fun h => runDead_sound r (k + 1) n0 _ _ (by rw [e]; exact h)⟩
     rcases h with ⟨v, H', hs, hk⟩ | ⟨_, _, _, h⟩
     . exact ⟨v, H', hs, runDead_sound r (k + 1) n0 _ _ (by rw [e]; exact hk)⟩
     . exact h.elim
theorem runD_sound {all : List Oper} {ws : List (Nat × Nat)} {cl : List Nat} {Z : V -> Prop} {K : (Nat -> V) -> Hp -> Prop} : ∀ (ops : List Oper) (k n0 : Nat) (f : Nat -> V) (H : Hp), runD P Γ eqs ws cl n0 Z k (n0 + 1048576 * k) (ops.map (poOf all)) f H (fun f H n => n = n0 + 1048576 * (k + ops.length) -> K f H) -> ADrawP P Γ eqs all ws cl n0 Z k ops f H K
 | [], k, n0, f, H, h => h rfl
 | o :: r, k, n0, f, H, h => by
   have hlen : k + (o :: r).length = k + 1 + r.length := by simp; omega
   have e : n0 + 1048576 * (k + 1) = n0 + 1048576 * k + 1048576 := by omega
   have next : ∀ f H, runD P Γ eqs ws cl n0 Z (k + 1) (n0 + 1048576 * k + 1048576) (r.map (poOf all)) f H (fun f H n => n = n0 + 1048576 * (k + (o :: r).length) -> K f H) -> ADrawP P Γ eqs all ws cl n0 Z (k + 1) r f H K := fun f H h =>
     runD_sound r (k + 1) n0 f H (by rw [e, <- hlen]; exact h)
   refine (poD_sound h).imp (fun h => ?_) fun h => next _ _ h
   rcases h with ⟨v, H', hs, hk⟩ | ⟨D, H', hs, hz, hd⟩
   . exact .inl ⟨v, H', hs, next _ _ hk⟩
   . exact .inr ⟨D, hs, hz, runDead_sound r (k + 1) n0 f H (by rw [e]; exact hd)⟩
theorem poD_mono {o : PO} {ws : List (Nat × Nat)} {k b : Nat} {f : Nat -> V} {Hr H : Hp} {Kx Kx' : V -> Hp -> Prop} {K K' : (Nat -> V) -> Hp -> Prop} (h : o.runD P Γ eqs ws k b f Hr H Kx K) (hx : ∀ v H, Kx v H -> Kx' v H) (hk : ∀ f H, K f H -> K' f H) : o.runD P Γ eqs ws k b f Hr H Kx' K' := by
 simp only [PO.runD] at h ⊢
 split
 . rename_i hg
   rw [hg] at h
   refine stepC_mono h (fun v e hh => ?_) (fun v H' hh => hk _ _ hh) hx
   cases e with
   | none => exact hk _ _ hh
   | new i cs => exact ⟨hh.1, hk _ _ hh.2⟩
   | put i cs => exact ⟨hh.1, hk _ _ hh.2⟩
   | mov i j cs => exact ⟨hh.1, hk _ _ hh.2⟩
 . rename_i hg; rw [hg] at h; exact hk _ _ h
 . rename_i hg; rw [hg] at h; exact h
theorem runD_mono {ws : List (Nat × Nat)} {cl : List Nat} {n0 : Nat} {Z Z' : V -> Prop} (hz : ∀ v, Z v -> Z' v) : ∀ {l : List PO} {k b : Nat} {f : Nat -> V} {H : Hp} {K K' : RK}, runD P Γ eqs ws cl n0 Z k b l f H K -> (∀ f H n, K f H n -> K' f H n) -> runD P Γ eqs ws cl n0 Z' k b l f H K'
 | [], _, _, _, _, _, _, h, hk => hk _ _ _ h
 | _ :: _, _, _, _, _, _, _, h, hk => poD_mono h (fun v _ h => ⟨hz v h.1, h.2⟩) fun _ _ h => runD_mono hz h hk
def condP (v : V) (a b : Prop) : Prop := match v with | .d (.lit (.bool t)) => (t = true -> a) /\ (t = false -> b) | .d .ub => a /\ b | _ => False
def clQ (P : Program) (E : Ent) (Q : AExit -> St -> Prop) (e : AExit) (st : St) : Prop := Q e st \/ (∃ st1, Weak P E st st1 /\ Q e st1 /\ ∀ v, e ≠ .pan v)
def PLoop (P : Program) (E : Ent) (body : (AExit -> St -> Prop) -> St -> Prop) (Q : AExit -> St -> Prop) (st : St) : Prop :=
 ∃ (α : Type) (S : α -> St) (inv : α -> Prop) (μ : α -> Nat) (x0 : α), inv x0 /\ Weak P E st (S x0) /\ ∀ x, inv x -> body (seqQ (fun st' => ∃ y, inv y /\ μ y < μ x /\ Weak P E st' (S y)) (clQ P E Q)) (S x)
theorem PLoop.mk {body : (AExit -> St -> Prop) -> St -> Prop} {Q : AExit -> St -> Prop} {st : St} {α : Type} (S : α -> St) (inv : α -> Prop) (μ : α -> Nat) (x0 : α) (h0 : inv x0) (hw : Weak P E st (S x0))
   (round : ∀ x, inv x -> body (seqQ (fun st' => ∃ y, inv y /\ μ y < μ x /\ Weak P E st' (S y)) (clQ P E Q)) (S x)) : PLoop P E body Q st := ⟨α, S, inv, μ, x0, h0, hw, round⟩
def jumpQ (Q : AExit -> St -> Prop) (st : St) : LSt -> Prop
 | .ready => Q .normal st
 | .done .ret => Q .ret st
 | .done (.exit i) => Q (.exit i) st
 | _ => False
def Ent.rqN (E : Ent) (H : Hp) : Prop := E.rq \/ ∃ k0 fr nt ps pa pb j, E.rd = some (E.β0 k0) /\ E.stab k0 /\ H k0 = some [.lr fr nt ps pa pb j]
def PRange (P : Program) (E : Ent) (fo : Operand) (ps : List Nat) (pa pb : PC) (Q : AExit -> St -> Prop) (st : St) : Prop :=
 (E.rqN st.H /\ E.nt ≠ panN) /\ ∃ g caps args Hin ks res H1, calleeOf (evF st.fr fo) = some (g, caps) /\ CallA P (upd st.H st.nx (some [.lr st.fr E.nt ps pa pb .ready])) g (.yl st.nx :: caps) args Hin ks res H1 /\ st.nx ∈ ks /\
   match res with
   | .ret _ => ∃ jmp, H1 st.nx = some [.lr st.fr E.nt ps pa pb jmp] /\ jumpQ Q ⟨st.fr, upd (heapM (upd st.H st.nx (some [.lr st.fr E.nt ps pa pb .ready])) (st.nx + 1048576) Hin ks H1) st.nx none, st.nx + 2097152⟩ jmp
   | .pan r => Q (.pan (ren (sg ks (st.nx + 1048576)) r)) ⟨st.fr, upd (heapM (upd st.H st.nx (some [.lr st.fr E.nt ps pa pb .ready])) (st.nx + 1048576) Hin ks H1) st.nx none, st.nx + 2097152⟩
def PW (P : Program) (Γ : Tys) (eqs : Eqs) (E : Ent) : PC -> (AExit -> St -> Prop) -> St -> Prop
 | .reg ops, Q, st => runR P Γ eqs (fun v f H n => Q (.pan v) ⟨f, H, n⟩) st.nx ops st.fr st.H fun f H n => Q .normal ⟨f, H, n⟩
 | .draw cl az bs, Q, st => runD P Γ eqs [] cl st.nx (fun v => ∀ st, Q (.pan v) st) 0 st.nx az st.fr st.H fun f H n => runR P Γ eqs (fun v f H n => Q (.pan v) ⟨f, H, n⟩) n bs f H fun f H n => Q .normal ⟨f, H, n⟩
 | .drawW cl az bs, Q, st => ∃ ws, wsOk ws cl st.nx = true /\ runD P Γ eqs ws cl st.nx (fun v => ∀ st, Q (.pan v) st) 0 st.nx az st.fr st.H fun f H n => runR P Γ eqs (fun v f H n => Q (.pan v) ⟨f, H, n⟩) n bs f H fun f H n => Q .normal ⟨f, H, n⟩
 | .seq a b, Q, st => PW P Γ eqs E a (seqQ (fun st => PW P Γ eqs E b Q st) Q) st
 | .cond c a b, Q, st => condP (evF st.fr c) (PW P Γ eqs E a Q st) (PW P Γ eqs E b Q st)
 | .block id a, Q, st => PW P Γ eqs E a (blkQ id Q) st
 | .loop a, Q, st => PLoop P E (fun Q st => PW P Γ eqs E a Q st) Q st
 | .exit id, Q, st => Q (.exit id) st
 | .ret, Q, st => Q .ret st
 | .skip, Q, st => Q .normal st
 | .rangeF f ps a b, Q, st => PRange P E f ps a b Q st
theorem runR_mono2 {Kx Kx' : V -> RK} (hx : ∀ v f H n, Kx v f H n -> Kx' v f H n) : ∀ {l : List PO} {b : Nat} {f : Nat -> V} {H : Hp} {K K' : RK}, runR P Γ eqs Kx b l f H K -> (∀ f H n, K f H n -> K' f H n) -> runR P Γ eqs Kx' b l f H K'
 | [], _, _, _, _, _, h, hk => hk _ _ _ h
 | o :: r, _, _, _, _, _, h, hk => by
   simp only [runR, PO.run] at h ⊢
   split
   . rename_i hg
     rw [hg] at h
     exact stepC_mono h (fun _ _ h => runR_mono2 hx h hk) (fun _ _ h => runR_mono2 hx h hk) (fun _ _ h => hx _ _ _ _ h)
   . rename_i hg; rw [hg] at h; exact runR_mono2 hx h hk
   . rename_i hg; rw [hg] at h; exact h
theorem seqQ_mono {K K' : St -> Prop} {Q Q' : AExit -> St -> Prop} (hk : ∀ st, K st -> K' st) (hq : ∀ e st, Q e st -> Q' e st) (e : AExit) (st : St) (h : seqQ K Q e st) : seqQ K' Q' e st := by
 cases e <;> first | exact hk _ h | exact hq _ _ h
theorem blkQ_mono {id : Nat} {Q Q' : AExit -> St -> Prop} (hq : ∀ e st, Q e st -> Q' e st) (e : AExit) (st : St) (h : blkQ id Q e st) : blkQ id Q' e st := by
 cases e with
 | exit j =>
   simp only [blkQ] at h ⊢
   split
   . rename_i hj; rw [if_pos hj] at h; exact hq _ _ h
   . rename_i hj; rw [if_neg hj] at h; exact hq _ _ h
 | _ => exact hq _ _ h
theorem clQ_mono {Q Q' : AExit -> St -> Prop} (hq : ∀ e st, Q e st -> Q' e st) (e : AExit) (st : St) (h : clQ P E Q e st) : clQ P E Q' e st := by
 rcases h with h | ⟨st1, h1, h2, h3⟩
 . exact .inl (hq _ _ h)
 . exact .inr ⟨st1, h1, hq _ _ h2, h3⟩
theorem PW.mono : ∀ {p : PC} {Q Q' : AExit -> St -> Prop} {st : St}, PW P Γ eqs E p Q st -> (∀ e st, Q e st -> Q' e st) -> PW P Γ eqs E p Q' st
 | .reg _, _, _, _, h, hq => runR_mono2 (fun _ _ _ _ h => hq _ _ h) h fun _ _ _ h => hq _ _ h
 | .draw _ _ _, _, _, _, h, hq => runD_mono (fun _ h st => hq _ _ (h st)) h fun _ _ _ h => runR_mono2 (fun _ _ _ _ h => hq _ _ h) h fun _ _ _ h => hq _ _ h
 | .drawW _ _ _, _, _, _, ⟨ws, h1, h⟩, hq => ⟨ws, h1, runD_mono (fun _ h st => hq _ _ (h st)) h fun _ _ _ h => runR_mono2 (fun _ _ _ _ h => hq _ _ h) h fun _ _ _ h => hq _ _ h⟩
 | .seq a b, Q, Q', _, h, hq => PW.mono (p := a) h fun e st h => seqQ_mono (fun _ h => PW.mono (p := b) h hq) hq e st h
 | .cond c a b, Q, Q', st, h, hq => by
   simp only [PW, condP] at h ⊢
   split
   . rename_i t ht
     rw [ht] at h
     exact ⟨fun e => PW.mono (p := a) (h.1 e) hq, fun e => PW.mono (p := b) (h.2 e) hq⟩
   . rename_i ht
     rw [ht] at h
     exact ⟨PW.mono (p := a) h.1 hq, PW.mono (p := b) h.2 hq⟩
   . rename_i hne hnu
     split at h
     . rename_i t ht; exact absurd ht (hne t)
     . rename_i ht; exact absurd ht hnu
     . exact h
 | .block _ a, _, _, _, h, hq => PW.mono (p := a) h (blkQ_mono hq)
 | .loop a, Q, Q', st, ⟨α, S, inv, μ, x0, h0, hw, hr⟩, hq => ⟨α, S, inv, μ, x0, h0, hw, fun x hx => PW.mono (p := a) (hr x hx) fun e st h => seqQ_mono (fun _ h => h) (clQ_mono hq) e st h⟩
 | .exit _, _, _, _, h, hq => hq _ _ h
 | .ret, _, _, _, h, hq => hq _ _ h
 | .skip, _, _, _, h, hq => hq _ _ h
 | .rangeF _ _ _ _, Q, Q', st, ⟨h0, g, caps, args, Hin, ks, res, H1, h1, h2, h3, h4⟩, hq => ⟨h0, g, caps, args, Hin, ks, res, H1, h1, h2, h3, by
   cases res with
   | ret r =>
     obtain ⟨jmp, h5, h6⟩ := h4
     refine ⟨jmp, h5, ?_⟩
     cases jmp with
     | ready => exact hq _ _ h6
     | busy => exact h6
     | done c => cases c <;> first | exact hq _ _ h6 | exact h6
     | mapr es => exact h6
   | pan r => exact hq _ _ h4⟩
theorem Inv.enter (hnm : E.nm = false) {fn : FuncId} (hpf : E.nt = panN -> fn = panF) {U' : Nat -> Prop} {U : Nat -> Prop} {G : Gh} {st : St} {a : Act} {W : World} (hI : Inv E U G st a W) {k : Nat} (hk : ¬ U k) (hU : ∀ i, U i -> U' i) (hk' : U' k) {ps : Array Tmp} {assign body : Code} {pa pb : PC} (ha : comp E.nt assign = some pa) (hb : comp E.nt body = some pb) :
   ∃ G', Inv E U' G' ⟨st.fr, upd st.H k (some [.lr st.fr E.nt ps.toList pa pb .ready]), st.nx⟩ { a with defers := { target := .collected W.heap.size, args := #[] } :: a.defers } ((W.alloc (.deferred (some []))).alloc (.loop { state := .ready, pending := none, fn, tmps := a.tmps, params := ps, assign, body, defers := W.heap.size })) /\ G'.β k = W.heap.size + 1 /\ G'.bs k = 0 := by
 let rc : Loop := { state := .ready, pending := none, fn, tmps := a.tmps, params := ps, assign, body, defers := W.heap.size }
 let G' : Gh := { β := upd G.β k (W.heap.size + 1), bs := upd G.bs k 0, ph := upd G.ph k false, lo := upd G.lo k true, Im := G.Im }
 let W' : World := (W.alloc (.deferred (some []))).alloc (.loop rc)
 have hne : ∀ i, U i -> i ≠ k := fun i hi e => hk (e ▸ hi)
 have hsz : W'.heap.size = W.heap.size + 2 := by
   show ((W.heap.push _).push _).size = _
   simp
 have hold : ∀ j, j < W.heap.size -> W'.heap[j]? = W.heap[j]? := fun j hj => by
   show ((W.heap.push _).push _)[j]? = _
   rw [Array.getElem?_push, if_neg (by simp; omega), Array.getElem?_push, if_neg (by omega)]
 have hD : W'.heap[W.heap.size]? = some (.deferred (some [])) := by
   show ((W.heap.push _).push _)[_]? = _
   rw [Array.getElem?_push, if_neg (by simp)]; simp
 have hL : W'.heap[W.heap.size + 1]? = some (.loop rc) := by
   show ((W.heap.push _).push _)[_]? = _
   rw [Array.getElem?_push, if_pos (by simp)]
 have hchg : Chg U G W G' W' := ⟨fun i hi => by simp [G', upd, hne i hi], fun j hj => ⟨hj, hold j (hI.im j hj).1⟩⟩
 have hlt : ∀ i cs', st.H i = some cs' -> G.ph i = false -> G.β i < W.heap.size := fun i cs' hs hp => (hI.hp i cs' hs).lt hp
 have hsome : ∀ i, (upd st.H k (some [.lr st.fr E.nt ps.toList pa pb .ready]) i).isSome = true -> i = k \/ (i ≠ k /\ (st.H i).isSome = true) := fun i hi => by
   by_cases e : i = k
   . exact .inl e
   . simp only [upd_at, if_neg e] at hi; exact .inr ⟨e, hi⟩
 refine ⟨G', ?_, by simp [G', upd]⟩
 refine { fr := fun t => hchg.rv (hI.wf t) (hI.fr t), wf := fun t => AV.mono hU (fun _ h => h) (hI.wf t), hp := ?_, wh := ?_, dom := ?_, inj := ?_, own := ?_, im := ?_, im0 := hI.im0, keep := ?_, stab := ?_, sU := fun i hs => hU _ (hI.sU i hs), nt := hI.nt, df := ?_, gl := hI.gl.mono hchg.im }
 . intro id cs' h
   simp only [upd_at] at h
   split at h
   . rename_i e; subst e; cases h
     refine .inr (.inr ⟨by simp [G', upd], by simp [G', upd], ?_, .inl ⟨by simp [G', upd], st.fr, E.nt, ps.toList, pa, pb, .ready, rc, rfl, by simp only [G', upd, if_true]; exact hL, rfl, ha, hb, hI.nt, fun t => hchg.rv (hI.wf t) (hI.fr t), ⟨rfl, rfl⟩, hpf⟩⟩)
     simp only [G', upd, if_true]
     intro hx
     have := (hI.im _ hx).1
     omega
   . have hu := hI.dom id (by rw [h]; rfl)
     exact hchg.hb hu (hI.wh id cs' h) (hI.hp id cs' h) (fun hp => hold _ (hlt id cs' h hp)) (fun hx _ => hx)
 . intro id cs' h x hx
   simp only [upd_at] at h
   split at h
   . cases h
     simp only [List.mem_singleton] at hx
     subst hx
     exact fun t => AV.mono hU (fun _ h => h) (hI.wf t)
   . exact AC.mono hU (fun _ h => h) (hI.wh id cs' h x hx)
 . intro id h
   rcases hsome id h with rfl | ⟨_, h⟩
   . exact hk'
   . exact hU _ (hI.dom id h)
 . intro i j hi hj hpi hpj he
   rcases hsome i hi with ei | ⟨ei, hi'⟩ <;> rcases hsome j hj with ej | ⟨ej, hj'⟩
   . rw [ei, ej]
   . simp only [G', upd, if_pos ei, if_neg ej] at he hpj
     obtain ⟨cs', hs⟩ := Option.isSome_iff_exists.1 hj'
     have := hlt j cs' hs hpj
     omega
   . simp only [G', upd, if_pos ej, if_neg ei] at he hpi
     obtain ⟨cs', hs⟩ := Option.isSome_iff_exists.1 hi'
     have := hlt i cs' hs hpi
     omega
   . simp only [G', upd, if_neg ei, if_neg ej] at he hpi hpj
     exact hI.inj i j hi' hj' hpi hpj he
 . intro i hi hp
   rcases hsome i hi with rfl | ⟨ei, hi⟩
   . simp only [G', upd, if_true]
     have := hI.keep.size
     exact .inl (by omega)
   . simp only [G', upd, if_neg ei] at hp ⊢
     exact hI.own i hi hp
 . intro j hj
   have := hI.im j hj
   exact ⟨by rw [hsz]; omega, this.2⟩
 . exact ⟨hI.keep.os, hI.keep.tape, hI.keep.output, hI.keep.drawn, by rw [hsz]; have := hI.keep.size; omega, fun j hj hm => (hold j (by have := hI.keep.size; omega)).trans (hI.keep.block j hj hm)⟩
 . intro i hs hi
   rcases hsome i hi with rfl | ⟨ei, hi⟩
   . exact absurd (hI.sU _ hs) hk
   . simp only [G', upd, if_neg ei]
     exact hI.stab i hs hi
 . obtain ⟨ds, h1, h2⟩ := hI.df
   refine ⟨W.heap.size :: ds, by simp only [h1, marksOf, List.map_cons, List.cons_append], List.nodup_cons.2 ⟨fun h => ?_, h2.nodup⟩, fun D hDm => ?_, fun h => by rw [hnm] at h; cases h⟩
   . have := (Array.getElem?_eq_some_iff.1 (h2.at' _ h).1).1
     omega
   . rcases List.mem_cons.1 hDm with rfl | hDm
     . exact ⟨hD, hI.keep.size, fun hx => by have := (hI.im _ hx).1; omega⟩
     . obtain ⟨q1, q2, q3⟩ := h2.at' D hDm
       exact ⟨(hold D (Array.getElem?_eq_some_iff.1 q1).1).trans q1, q2, q3⟩
theorem Inv.enterN (rd : Nat) {fn : FuncId} (hpf : E.nt = panN -> fn = panF) {U' : Nat -> Prop} {U : Nat -> Prop} {G : Gh} {st : St} {a : Act} {W : World} (hI : Inv E U G st a W) {k : Nat} (hk : ¬ U k) (hU : ∀ i, U i -> U' i) (hk' : U' k) {ps : Array Tmp} {assign body : Code} {pa pb : PC} (ha : comp E.nt assign = some pa) (hb : comp E.nt body = some pb) :
   ∃ G', Inv E U' G' ⟨st.fr, upd st.H k (some [.lr st.fr E.nt ps.toList pa pb .ready]), st.nx⟩ a (W.alloc (.loop { state := .ready, pending := none, fn, tmps := a.tmps, params := ps, assign, body, defers := rd })) /\ G'.β k = W.heap.size /\ G'.bs k = 0 := by
 let rc : Loop := { state := .ready, pending := none, fn, tmps := a.tmps, params := ps, assign, body, defers := rd }
 let G' : Gh := { β := upd G.β k W.heap.size, bs := upd G.bs k 0, ph := upd G.ph k false, lo := upd G.lo k true, Im := G.Im }
 let W' : World := W.alloc (.loop rc)
 have hne : ∀ i, U i -> i ≠ k := fun i hi e => hk (e ▸ hi)
 have hsz : W'.heap.size = W.heap.size + 1 := by
   show (W.heap.push _).size = _
   simp
 have hold : ∀ j, j < W.heap.size -> W'.heap[j]? = W.heap[j]? := fun j hj => by
   show (W.heap.push _)[j]? = _
   rw [Array.getElem?_push, if_neg (by omega)]
 have hL : W'.heap[W.heap.size]? = some (.loop rc) := by
   show (W.heap.push _)[_]? = _
   simp
 have hchg : Chg U G W G' W' := ⟨fun i hi => by simp [G', upd, hne i hi], fun j hj => ⟨hj, hold j (hI.im j hj).1⟩⟩
 have hlt : ∀ i cs', st.H i = some cs' -> G.ph i = false -> G.β i < W.heap.size := fun i cs' hs hp => (hI.hp i cs' hs).lt hp
 have hsome : ∀ i, (upd st.H k (some [.lr st.fr E.nt ps.toList pa pb .ready]) i).isSome = true -> i = k \/ (i ≠ k /\ (st.H i).isSome = true) := fun i hi => by
   by_cases e : i = k
   . exact .inl e
   . simp only [upd_at, if_neg e] at hi; exact .inr ⟨e, hi⟩
 refine ⟨G', ?_, by simp [G', upd]⟩
 refine { fr := fun t => hchg.rv (hI.wf t) (hI.fr t), wf := fun t => AV.mono hU (fun _ h => h) (hI.wf t), hp := ?_, wh := ?_, dom := ?_, inj := ?_, own := ?_, im := ?_, im0 := hI.im0, keep := ?_, stab := ?_, sU := fun i hs => hU _ (hI.sU i hs), nt := hI.nt, df := ?_, gl := hI.gl.mono hchg.im }
 . intro id cs' h
   simp only [upd_at] at h
   split at h
   . rename_i e; subst e; cases h
     refine .inr (.inr ⟨by simp [G', upd], by simp [G', upd], ?_, .inl ⟨by simp [G', upd], st.fr, E.nt, ps.toList, pa, pb, .ready, rc, rfl, by simp only [G', upd, if_true]; exact hL, rfl, ha, hb, hI.nt, fun t => hchg.rv (hI.wf t) (hI.fr t), ⟨rfl, rfl⟩, hpf⟩⟩)
     simp only [G', upd, if_true]
     intro hx
     have := (hI.im _ hx).1
     omega
   . have hu := hI.dom id (by rw [h]; rfl)
     exact hchg.hb hu (hI.wh id cs' h) (hI.hp id cs' h) (fun hp => hold _ (hlt id cs' h hp)) (fun hx _ => hx)
 . intro id cs' h x hx
   simp only [upd_at] at h
   split at h
   . cases h
     simp only [List.mem_singleton] at hx
     subst hx
     exact fun t => AV.mono hU (fun _ h => h) (hI.wf t)
   . exact AC.mono hU (fun _ h => h) (hI.wh id cs' h x hx)
 . intro id h
   rcases hsome id h with rfl | ⟨_, h⟩
   . exact hk'
   . exact hU _ (hI.dom id h)
 . intro i j hi hj hpi hpj he
   rcases hsome i hi with ei | ⟨ei, hi'⟩ <;> rcases hsome j hj with ej | ⟨ej, hj'⟩
   . rw [ei, ej]
   . simp only [G', upd, if_pos ei, if_neg ej] at he hpj
     obtain ⟨cs', hs⟩ := Option.isSome_iff_exists.1 hj'
     have := hlt j cs' hs hpj
     omega
   . simp only [G', upd, if_pos ej, if_neg ei] at he hpi
     obtain ⟨cs', hs⟩ := Option.isSome_iff_exists.1 hi'
     have := hlt i cs' hs hpi
     omega
   . simp only [G', upd, if_neg ei, if_neg ej] at he hpi hpj
     exact hI.inj i j hi' hj' hpi hpj he
 . intro i hi hp
   rcases hsome i hi with rfl | ⟨ei, hi⟩
   . simp only [G', upd, if_true]
     have := hI.keep.size
     exact .inl (by omega)
   . simp only [G', upd, if_neg ei] at hp ⊢
     exact hI.own i hi hp
 . intro j hj
   have := hI.im j hj
   exact ⟨by rw [hsz]; omega, this.2⟩
 . exact ⟨hI.keep.os, hI.keep.tape, hI.keep.output, hI.keep.drawn, by rw [hsz]; have := hI.keep.size; omega, fun j hj hm => (hold j (by have := hI.keep.size; omega)).trans (hI.keep.block j hj hm)⟩
 . intro i hs hi
   rcases hsome i hi with rfl | ⟨ei, hi⟩
   . exact absurd (hI.sU _ hs) hk
   . simp only [G', upd, if_neg ei]
     exact hI.stab i hs hi
 . obtain ⟨ds, h1, h2⟩ := hI.df
   exact ⟨ds, h1, h2.same (fun D hD hd => hold D (Array.getElem?_eq_some_iff.1 hd).1) (fun _ _ _ h => h)⟩
theorem Inv.leave {U : Nat -> Prop} {G : Gh} {st : St} {a : Act} {W : World} (hI : Inv E U G st a W) {k : Nat} {fr : Nat -> V} {nt : Nat} {ps : List Nat} {pa pb : PC} {jmp : LSt} (hk : st.H k = some [.lr fr nt ps pa pb jmp]) (hj : jmp ≠ .busy) :
   ∃ j W', (Instr.endLoop (G.β k)).run P W = .ok j W' /\ (match jmp with | .ready => j = none | .busy => False | .done c => j = some c | .mapr _ => False) /\ Inv E U G ⟨st.fr, upd st.H k none, st.nx⟩ a W' /\ (∀ b, G.Im b -> W'.heap[b]? = W.heap[b]?) := by
 obtain ⟨hph, hlo, hnim, rec, hrec, hl⟩ : G.ph k = false /\ G.lo k = true /\ ¬ G.Im (G.β k) /\ ∃ rec, W.heap[G.β k]? = some (.loop rec) /\ LRel G W fr nt ps pa pb jmp rec := by
   rcases hI.hp k _ hk with ⟨_, h⟩ | ⟨_, _, _, c, T, _, _, _, h, h2⟩ | ⟨h0, h1, h2, ⟨_, fr', nt', ps', pa', pb', jmp', rec, h3, h4, h5⟩ | ⟨_, es, ms, ck, h3, _⟩ | ⟨_, bx, bp, bv, h3, _⟩⟩
   . cases h
   . simp [V.isCell] at h2
   . cases h3; exact ⟨h0, h1, h2, rec, h4, h5⟩
   . simp [mapC] at h3
   . simp at h3
 obtain ⟨_, _, _, _, _, hst, _⟩ := hl
 have hlive : (st.H k).isSome = true := by rw [hk]; rfl
 have hnb : rec.state ≠ .busy := by
   cases jmp with
   | ready => rw [hst.1]; nofun
   | busy => exact absurd rfl hj
   | done c => rw [hst.1]; nofun
   | mapr es => exact hst.elim
 refine ⟨rec.pending, _, run_endLoop hrec hnb, ?_, ?_, fun b hb => World.putObj_heap_other (fun e => hnim (by rw [<- e]; exact hb))⟩
 . cases jmp with
   | ready => exact hst.2
   | busy => exact absurd rfl hj
   | done c => exact hst.2
   | mapr es => exact hst.elim
 . obtain ⟨ds, h1, h2⟩ := hI.df
   refine (hI.drop k).side (l := G.β k) (fun j hj => World.putObj_heap_other hj) (by simp) rfl rfl rfl hnim (fun i hi hp e => ?_) (hI.own k hlive hph) rfl ⟨ds, h1, h2.same (fun D hD hd => World.putObj_heap_other (fun e => by rw [e, hrec] at hd; cases hd)) (fun _ _ _ h => h)⟩
   have hi' : i ≠ k /\ (st.H i).isSome = true := by
     simp only [InH, upd_at] at hi
     split at hi
     . cases hi
     . rename_i hne; exact ⟨hne, hi⟩
   exact hi'.1 (hI.inj i k hi'.2 hlive hp hph e)
theorem AW.rangeN {fo : Operand} {ps : Array Tmp} {assign body : Code} {pa pb : PC} (ha : comp E.nt assign = some pa) (hb : comp E.nt body = some pb) {Q : AExit -> St -> Prop} {st : St} (hnp : E.nt ≠ panN) {g : FuncId} {caps args : List V} {Hin : Hp} {ks : List Nat} {res : Res} {H1 : Hp}
   (hend : match res with
   | .ret _ => ∃ jmp, H1 st.nx = some [.lr st.fr E.nt ps.toList pa pb jmp] /\ jumpQ Q ⟨st.fr, upd (heapM (upd st.H st.nx (some [.lr st.fr E.nt ps.toList pa pb .ready])) (st.nx + 1048576) Hin ks H1) st.nx none, st.nx + 2097152⟩ jmp
   | .pan r => Q (.pan (ren (sg ks (st.nx + 1048576)) r)) ⟨st.fr, upd (heapM (upd st.H st.nx (some [.lr st.fr E.nt ps.toList pa pb .ready])) (st.nx + 1048576) Hin ks H1) st.nx none, st.nx + 2097152⟩)
   (hg : calleeOf (evF st.fr fo) = some (g, caps)) (hfn : Cm P g args Hin ks res H1) (hcb : CallB (upd st.H st.nx (some [.lr st.fr E.nt ps.toList pa pb .ready])) (.yl st.nx :: caps) args Hin ks res H1) (hks : st.nx ∈ ks)
   {k0 : Nat} {fr0 : Nat -> V} {nt0 : Nat} {ps0 : List Nat} {pa0 pb0 : PC} {j0 : LSt} (hrd : E.rd = some (E.β0 k0)) (hst0 : E.stab k0) (hk0 : st.H k0 = some [.lr fr0 nt0 ps0 pa0 pb0 j0]) : AW P E (.rangeFunc fo ps assign body) Q st := by
 intro G a W hI
 refine wpIn_rangeFunc fun fn _ => ?_
 obtain ⟨rec0, hrec0⟩ : ∃ rec0, W.heap[E.β0 k0]? = some (.loop rec0) := by
   have hβ0 := (hI.stab k0 hst0 (by rw [hk0]; rfl)).1
   have hph0 := (hI.stab k0 hst0 (by rw [hk0]; rfl)).2.2.1
   rcases hI.hp k0 _ hk0 with ⟨h, _⟩ | ⟨_, _, _, c, T, _, _, _, h, h2⟩ | ⟨h0, h1, h2, ⟨_, fr', nt', ps', pa', pb', jmp', rec, h3, h4, h5⟩ | ⟨_, es, ms, ck, h3, _⟩ | ⟨_, bx, bp, bv, h3, _⟩⟩
   . rw [hph0] at h; cases h
   . simp [V.isCell] at h2
   . exact ⟨rec, by rw [<- hβ0]; exact h4⟩
   . simp [mapC] at h3
   . simp at h3
 obtain ⟨G1, hI1, hβ, hbs⟩ := hI.enterN rec0.defers (fun e => absurd e hnp) (U' := (· < st.nx + 1048576)) (k := st.nx) (ps := ps) (by omega) (fun i hi => by omega) (by omega) ha hb
 generalize hW1 : (W.alloc (.loop { state := .ready, pending := none, fn, tmps := a.tmps, params := ps, assign, body, defers := rec0.defers })) = W1 at hI1
 have key : ∃ cv : Array Value, a.eval fo = .func (.func g) #[] cv /\ All2 (RV G1 W1) caps cv.toList := by
   have hx := (hI1.op fo).1
   unfold calleeOf at hg
   split at hg
   . rename_i g' caps' hv
     cases hg
     simp only at hx
     rw [hv] at hx
     have hx' : RD G1.Im W1 (.fn g caps') (a.eval fo) := hx
     generalize a.eval fo = u at hx'
     cases hx' with
     | fn _ _ cv hl hrr =>
       refine ⟨cv, rfl, All2.map_left.2 (All2.of_get (by simpa using hl.symm) fun i x y hx hy => ?_)⟩
       exact hrr i x y hx (by rwa [Array.getElem?_toList] at hy)
   . rename_i g' caps' hv
     cases hg
     simp only at hx
     rw [hv] at hx
     obtain ⟨cv, hxa, hcr⟩ := hx
     exact ⟨cv, hxa, hcr.mono fun _ _ _ h => R2.rv (R1.r2 (R0.r1 h))⟩
   . cases hg
 obtain ⟨cv, hfe, hcr⟩ := key
 obtain ⟨f', hfn', hbody, hname⟩ := hfn.1
 have h1 : f'.name ≠ "runtime.NumGoroutine" := by simpa using hname
 have h2 : f'.body.isNone = false := by cases h : f'.body <;> simp_all
 have hrel : All2 (RV G1 W1) (.yl st.nx :: caps) ((#[.func (.yield (W.heap.size)) #[] #[]] ++ cv : Array Value)).toList := by
   have : RV G1 W1 (.yl st.nx) (.func (.yield (W.heap.size)) #[] #[]) := by
     exact .inl ⟨hbs, by rw [hβ]⟩
   simpa using (show All2 (RV G1 W1) (.yl st.nx :: caps) (Value.func (.yield (W.heap.size)) #[] #[] :: cv.toList) from ⟨this, hcr⟩)
 obtain ⟨Im, hIm, hall, hpre, hph, hcs⟩ := callB_pre hI1 hrel hcb
 obtain ⟨hin, hlt, hkk, _⟩ := hcb
 refine ⟨W.heap.size, [], W1, { target := .fn (.func g) cv, args := #[.func (.yield (W.heap.size)) #[] #[]] }, W1, g, #[.func (.yield (W.heap.size)) #[] #[]] ++ cv, W1, ?_, ?_, fun _ _ => trivial, ?_, by simp [Fence.wide], ?_⟩
 . show (Instr.enterLoop fn a.tmps ps assign body E.rd).run P W = _
   rw [hrd, <- hW1]
   exact run_enterLoop_inner hrec0 _ _ _ _ _
 . have e1 : (#[] ++ Array.map a.eval #[Operand.const (Value.func (Fn.yield (W.heap.size)) #[] #[])] : Array Value) = #[.func (.yield (W.heap.size)) #[] #[]] := by
     simp only [Array.empty_append, List.map_toArray, List.map_cons, List.map_nil]
     rfl
   simp only [resolve, hfe, Deferred.ofValue, Sem.run_pure, e1]
 . simp only [invoke, callFunc, Sem.run_bind, run_program, Result.andThen_ok, hfn']
   simp [h1, h2]
 . show CallsIn Fence.wide 0 P g _ W1 _
   rw [callsIn_wide]
   refine (hfn.2 { G1 with Im := Im } W1 _ hIm hall hpre).mono fun e W' ⟨G', hpost⟩ => ?_
   obtain ⟨G2, hI2, hrv, hav, hchg2⟩ := hI1.call (U' := (· < st.nx + 2097152)) (base := st.nx + 1048576) (fun j hj => by omega) (fun i hi => by omega) (fun j hj => by omega) hin hlt (fun i hi => (hpre.st i hi).1) hph hpost hcs
   have hkeep : st.nx ∈ ks -> ∀ jmp, H1 st.nx = some [.lr st.fr E.nt ps.toList pa pb jmp] -> heapM (upd st.H st.nx (some [.lr st.fr E.nt ps.toList pa pb .ready])) (st.nx + 1048576) Hin ks H1 st.nx = some [.lr (fun t => ren (sg ks (st.nx + 1048576)) (st.fr t)) E.nt ps.toList pa pb jmp] := fun hk jmp hj => by
     simp only [heapM, if_pos hk, hj]; rfl
   have hβ2 : G2.β st.nx = W.heap.size := (hchg2.ag st.nx (by omega)).1.trans hβ
   cases res with
   | ret r =>
     obtain ⟨jmp, hj, hq⟩ := hend
     cases e with
     | returned v =>
       have hnb : jmp ≠ .busy := by intro e; subst e; exact hq.elim
       obtain ⟨j, W4, he, hjm, hI4, _⟩ := hI2.leave (P := P) (hkeep hks jmp hj) hnb
       rw [hβ2] at he
       refine ⟨j, W4, he, ?_⟩
       have hI5 := (hI4.nx (st.nx + 2097152))
       cases jmp with
       | mapr es => exact hq.elim
       | ready =>
         cases hjm
         exact ⟨.normal, _, G2, hI5, trivial, trivial, hq⟩
       | busy => exact hq.elim
       | done c =>
         simp only at hjm
         subst hjm
         cases c <;> first | exact hq.elim | exact wpIn_ret ⟨.ret, _, G2, hI5, trivial, trivial, hq⟩ | exact wpIn_exit ⟨.exit _, _, G2, hI5, rfl, trivial, hq⟩
     | _ => exact hrv.elim
   | pan r =>
     cases e with
     | panicked ch => exact ⟨.pan (ren (sg ks (st.nx + 1048576)) r), ⟨st.fr, _, st.nx + 2097152⟩, G2, ((hI2.drop st.nx).nx (st.nx + 2097152)), hrv, hav, hend⟩
     | _ => exact hrv.elim
theorem AW.range {fo : Operand} {ps : Array Tmp} {assign body : Code} {pa pb : PC} (ha : comp E.nt assign = some pa) (hb : comp E.nt body = some pb) {Q : AExit -> St -> Prop} {st : St} (h : PRange P E fo ps.toList pa pb Q st) : AW P E (.rangeFunc fo ps assign body) Q st := by
 obtain ⟨⟨hrq, hnp⟩, g, caps, args, Hin, ks, res, H1, hg, ⟨hfn, hcb⟩, hks, hend⟩ := h
 rcases hrq with ⟨hrd, hnm⟩ | ⟨k0, fr0, nt0, ps0, pa0, pb0, j0, hrd, hst0, hk0⟩
 rotate_left
 . exact AW.rangeN ha hb hnp hend hg hfn hcb hks hrd hst0 hk0
 intro G a W hI
 refine wpIn_rangeFunc fun fn _ => ?_
 obtain ⟨G1, hI1, hβ, hbs⟩ := hI.enter hnm (fun e => absurd e hnp) (U' := (· < st.nx + 1048576)) (k := st.nx) (ps := ps) (by omega) (fun i hi => by omega) (by omega) ha hb
 generalize hW1 : ((W.alloc (.deferred (some []))).alloc (.loop { state := .ready, pending := none, fn, tmps := a.tmps, params := ps, assign, body, defers := W.heap.size })) = W1 at hI1
 have key : ∃ cv : Array Value, a.eval fo = .func (.func g) #[] cv /\ All2 (RV G1 W1) caps cv.toList := by
   have hx := (hI1.op fo).1
   unfold calleeOf at hg
   have hev : (({ a with defers := { target := .collected W.heap.size, args := #[] } :: a.defers } : Act).eval fo) = a.eval fo := by cases fo <;> rfl
   rw [hev] at hx
   split at hg
   . rename_i g' caps' hv
     cases hg
     simp only at hx
     rw [hv] at hx
     have hx' : RD G1.Im W1 (.fn g caps') (a.eval fo) := hx
     generalize a.eval fo = u at hx'
     cases hx' with
     | fn _ _ cv hl hrr =>
       refine ⟨cv, rfl, All2.map_left.2 (All2.of_get (by simpa using hl.symm) fun i x y hx hy => ?_)⟩
       exact hrr i x y hx (by rwa [Array.getElem?_toList] at hy)
   . rename_i g' caps' hv
     cases hg
     simp only at hx
     rw [hv] at hx
     obtain ⟨cv, hxa, hcr⟩ := hx
     exact ⟨cv, hxa, hcr.mono fun _ _ _ h => R2.rv (R1.r2 (R0.r1 h))⟩
   . cases hg
 obtain ⟨cv, hfe, hcr⟩ := key
 obtain ⟨f', hfn', hbody, hname⟩ := hfn.1
 have h1 : f'.name ≠ "runtime.NumGoroutine" := by simpa using hname
 have h2 : f'.body.isNone = false := by cases h : f'.body <;> simp_all
 have hrel : All2 (RV G1 W1) (.yl st.nx :: caps) ((#[.func (.yield (W.heap.size + 1)) #[] #[]] ++ cv : Array Value)).toList := by
   have : RV G1 W1 (.yl st.nx) (.func (.yield (W.heap.size + 1)) #[] #[]) := by
     exact .inl ⟨hbs, by rw [hβ]⟩
   simpa using (show All2 (RV G1 W1) (.yl st.nx :: caps) (Value.func (.yield (W.heap.size + 1)) #[] #[] :: cv.toList) from ⟨this, hcr⟩)
 obtain ⟨Im, hIm, hall, hpre, hph, hcs⟩ := callB_pre hI1 hrel hcb
 obtain ⟨hin, hlt, hkk, _⟩ := hcb
 refine ⟨W.heap.size + 1, [{ target := .collected W.heap.size, args := #[] }], W1, { target := .fn (.func g) cv, args := #[.func (.yield (W.heap.size + 1)) #[] #[]] }, W1, g, #[.func (.yield (W.heap.size + 1)) #[] #[]] ++ cv, W1, ?_, ?_, fun _ _ => trivial, ?_, by simp [Fence.wide], ?_⟩
 . show (Instr.enterLoop fn a.tmps ps assign body E.rd).run P W = _
   rw [hrd, <- hW1]
   exact run_enterLoop_outer _ _ _ _ _
 . have e1 : (#[] ++ Array.map a.eval #[Operand.const (Value.func (Fn.yield (W.heap.size + 1)) #[] #[])] : Array Value) = #[.func (.yield (W.heap.size + 1)) #[] #[]] := by
     simp only [Array.empty_append, List.map_toArray, List.map_cons, List.map_nil]
     rfl
   simp only [resolve, hfe, Deferred.ofValue, Sem.run_pure, e1]
 . simp only [invoke, callFunc, Sem.run_bind, run_program, Result.andThen_ok, hfn']
   simp [h1, h2]
 . show CallsIn Fence.wide 0 P g _ W1 _
   rw [callsIn_wide]
   refine (hfn.2 { G1 with Im := Im } W1 _ hIm hall hpre).mono fun e W' ⟨G', hpost⟩ => ?_
   obtain ⟨G2, hI2, hrv, hav, hchg2⟩ := hI1.call (U' := (· < st.nx + 2097152)) (base := st.nx + 1048576) (fun j hj => by omega) (fun i hi => by omega) (fun j hj => by omega) hin hlt (fun i hi => (hpre.st i hi).1) hph hpost hcs
   have hkeep : st.nx ∈ ks -> ∀ jmp, H1 st.nx = some [.lr st.fr E.nt ps.toList pa pb jmp] -> heapM (upd st.H st.nx (some [.lr st.fr E.nt ps.toList pa pb .ready])) (st.nx + 1048576) Hin ks H1 st.nx = some [.lr (fun t => ren (sg ks (st.nx + 1048576)) (st.fr t)) E.nt ps.toList pa pb jmp] := fun hk jmp hj => by
     simp only [heapM, if_pos hk, hj]; rfl
   have hβ2 : G2.β st.nx = W.heap.size + 1 := (hchg2.ag st.nx (by omega)).1.trans hβ
   cases res with
   | ret r =>
     obtain ⟨jmp, hj, hq⟩ := hend
     cases e with
     | returned v =>
       have hnb : jmp ≠ .busy := by intro e; subst e; exact hq.elim
       obtain ⟨j, W4, he, hjm, hI4, _⟩ := hI2.leave (P := P) (hkeep hks jmp hj) hnb
       rw [hβ2] at he
       refine ⟨j, W4, he, ?_⟩
       have hI5 := (hI4.nx (st.nx + 2097152))
       cases jmp with
       | mapr es => exact hq.elim
       | ready =>
         cases hjm
         exact ⟨.normal, _, G2, hI5, trivial, trivial, hq⟩
       | busy => exact hq.elim
       | done c =>
         simp only at hjm
         subst hjm
         cases c <;> first | exact hq.elim | exact wpIn_ret ⟨.ret, _, G2, hI5, trivial, trivial, hq⟩ | exact wpIn_exit ⟨.exit _, _, G2, hI5, rfl, trivial, hq⟩
     | _ => exact hrv.elim
   | pan r =>
     cases e with
     | panicked ch => exact ⟨.pan (ren (sg ks (st.nx + 1048576)) r), ⟨st.fr, _, st.nx + 2097152⟩, G2, ((hI2.drop st.nx).nx (st.nx + 2097152)), hrv, hav, hend⟩
     | _ => exact hrv.elim
theorem AW.clQ {c : Code} {Q : AExit -> St -> Prop} {st : St} (h : AW P E c (clQ P E Q) st) : AW P E c Q st := fun G a W hI => wpIn_mono (h G a W hI) fun e a' W' ⟨x, st', G', hI', hx, ho, hq⟩ => by
 rcases hq with hq | ⟨st1, hw, hq, hn⟩
 . exact ⟨x, st', G', hI', hx, ho, hq⟩
 . obtain ⟨G2, hI2⟩ := hw G' a' W' hI'
   have hx2 : exRel G2 W' x e := by
     cases x <;> first | exact absurd rfl (hn _) | (cases e <;> exact hx)
   have ho2 : exOk (· < st1.nx) x := by
     cases x <;> first | exact absurd rfl (hn _) | exact trivial
   exact ⟨x, st1, G2, hI2, hx2, ho2, hq⟩
theorem PW.sound (hΓ : GOk P Γ) (hE : EqOk P eqs) (hm : P.follows .mixedOrders = true) : ∀ (c : Code) (p : PC), comp E.nt c = some p -> ∀ (Q : AExit -> St -> Prop) (st : St), PW P Γ eqs E p Q st -> AW P E c Q st
 | .skip, p, hc, Q, st, h => by cases hc; exact AW.skip h
 | .ret, p, hc, Q, st, h => by cases hc; exact AW.ret h
 | .exit id, p, hc, Q, st, h => by cases hc; exact AW.exit h
 | .seq a b, p, hc, Q, st, h => by
   simp only [comp, Option.bind_eq_some_iff, Option.map_eq_some_iff] at hc
   obtain ⟨x, hx, y, hy, rfl⟩ := hc
   refine AW.seq (AW.mono (PW.sound hΓ hE hm a x hx _ _ h) fun e st hq => ?_)
   cases e with
   | normal => exact PW.sound hΓ hE hm b y hy Q st hq
   | _ => exact hq
 | .cond c a b, p, hc, Q, st, h => by
   simp only [comp, Option.bind_eq_some_iff, Option.map_eq_some_iff] at hc
   obtain ⟨x, hx, y, hy, rfl⟩ := hc
   simp only [PW, condP] at h
   split at h
   . rename_i t ht
     exact AW.cond ht (fun e => PW.sound hΓ hE hm a x hx Q st (h.1 e)) (fun e => PW.sound hΓ hE hm b y hy Q st (h.2 e))
   . rename_i ht
     exact AW.condU ht (PW.sound hΓ hE hm a x hx Q st h.1) (PW.sound hΓ hE hm b y hy Q st h.2)
   . exact h.elim
 | .block id a, p, hc, Q, st, h => by
   simp only [comp, Option.map_eq_some_iff] at hc
   obtain ⟨x, hx, rfl⟩ := hc
   exact AW.block (PW.sound hΓ hE hm a x hx _ st h)
 | .loop a, p, hc, Q, st, h => by
   simp only [comp, Option.map_eq_some_iff] at hc
   obtain ⟨x, hx, rfl⟩ := hc
   obtain ⟨α, S, inv, μ, x0, h0, hw, hr⟩ := h
   exact AW.clQ (AW.loop S inv μ x0 h0 hw fun y hy => PW.sound hΓ hE hm a x hx _ _ (hr y hy))
 | .rangeFunc fo ps a b, p, hc, Q, st, h => by
   simp only [comp, Option.bind_eq_some_iff, Option.map_eq_some_iff] at hc
   obtain ⟨x, hx, y, hy, rfl⟩ := hc
   exact AW.range hx hy h
 | .region id ops draw, p, hc, Q, st, h => by
   cases draw with
   | false =>
     simp only [comp, Bool.false_eq_true, if_false, Option.ite_none_right_eq_some, Option.some.injEq] at hc
     obtain ⟨hd, rfl⟩ := hc
     have e : ops = ops.toList.toArray := by simp
     rw [e]
     refine AW.region hΓ hE hd (runR_sound ops.toList 0 st.nx st.fr st.H ?_)
     exact h
   | true =>
     simp only [comp, if_true, Option.ite_none_right_eq_some, Option.some.injEq] at hc
     obtain ⟨hd, rfl⟩ := hc
     generalize hm' : mOf (clOf ops.toList) ops.toList.length = m at *
     generalize hcl : clOf ops.toList = cl at *
     have hle := (drawOk_spec hd).le
     have e : ops = (ops.toList.take m ++ ops.toList.drop m).toArray := by rw [List.take_append_drop]
     have hlen : (ops.toList.take m).length = m := by rw [List.length_take]; omega
     rw [e]
     have main : ∃ ws, wsOk ws cl st.nx = true /\ runD P Γ eqs ws cl st.nx (fun v => ∀ st, Q (.pan v) st) 0 st.nx ((ops.toList.take m).map (poOf ops.toList)) st.fr st.H fun f H n => runR P Γ eqs (fun v f H n => Q (.pan v) ⟨f, H, n⟩) n ((ops.toList.drop m).map (poOf ops.toList)) f H fun f H n => Q .normal ⟨f, H, n⟩ := by
       unfold mkDraw at h
       split at h
       . exact h
       . exact ⟨[], rfl, h⟩
     obtain ⟨ws, hws, h⟩ := main
     refine AW.draw (ws := ws) (cl := cl) hΓ hE hm (by rw [List.take_append_drop, hlen]; exact hd) hws ?_
     rw [List.take_append_drop]
     refine runD_sound _ 0 st.nx st.fr st.H (runD_mono (fun _ h => h) h fun f H n h hn => ?_)
     subst hn
     rw [hlen] at h ⊢
     exact runR_sound _ m st.nx f H (by rwa [Nat.zero_add] at h)
 | .scope _, p, hc, _, _, _ => by cases hc
 | .label _, p, hc, _, _, _ => by cases hc
 | .goto _, p, hc, _, _, _ => by cases hc
 | .refuse _, p, hc, _, _, _ => by cases hc
theorem Weak.mk {st : St} (hs : ∀ i, ¬ E.stab i) (ρ : Nat -> Option Nat) (l : List (Nat × V)) (h : List (Nat × List V)) (n : Nat) (h1 : SlotsOk ρ st.fr l) (h2 : HpOk ρ st.H h) (h3 : RhoInj ρ h) (h4 : SlotsIds n l) (h5 : HpIds n h) : Weak P E st ⟨slots l, lk h, n⟩ :=
 Weak.of ρ l h n h1 h2 h3 h4 h5 fun i hi => absurd hi (hs i)
def StabW (ρ : Nat -> Option Nat) (H h : Hp) (n : Nat) : List Nat -> Prop
 | [] => True
 | i :: r => i < n /\ ((h i).isSome = true -> ρ i = some i /\ (H i).isSome = true) /\ StabW ρ H h n r
theorem StabW.at {ρ : Nat -> Option Nat} {H h : Hp} {n : Nat} : ∀ {ks : List Nat}, StabW ρ H h n ks -> ∀ i ∈ ks, i < n /\ (InH h i -> ρ i = some i /\ InH H i)
 | [], _, _, hi => by cases hi
 | k :: r, hs, i, hi => by
   rcases List.mem_cons.1 hi with rfl | hi
   . exact ⟨hs.1, hs.2.1⟩
   . exact hs.2.2.at i hi
theorem Weak.mkM {st : St} {ks : List Nat} (hs : ∀ i, E.stab i ↔ i ∈ ks) (ρ : Nat -> Option Nat) (l : List (Nat × V)) (h : List (Nat × List V)) (n : Nat) (h1 : SlotsOk ρ st.fr l) (h2 : HpOk ρ st.H h) (h3 : RhoInj ρ h) (h4 : SlotsIds n l) (h5 : HpIds n h) (h6 : StabW ρ st.H (lk h) n ks) : Weak P E st ⟨slots l, lk h, n⟩ :=
 Weak.of ρ l h n h1 h2 h3 h4 h5 fun i hi => h6.at i ((hs i).1 hi)
theorem Cm.of (hΓ : GOk P Γ) (hE : EqOk P eqs) (hm : P.follows .mixedOrders = true) {f : FuncId} {fn : Func} {c : Code} {p : PC} {args : List V} {Hin : Hp} {ks : List Nat} {res : Res} {H1 : List (Nat × List V)} (N : Nat) (hf : P.funcs[f]? = some fn) (hb : fn.body = some c) (hc : comp fn.ntmps c = some p) (hname : (fn.name == "runtime.NumGoroutine") = false)
   (hn : args.length <= fn.ntmps) (hcl : ∀ v ∈ args, A2 (· < N) anyD v) (hids : IdsFn N Hin) (hks : ∀ i ∈ ks, i < N) (hri : ResIds res.v H1) (h : ∀ E : Ent, (∀ i, E.stab i ↔ i ∈ ks) -> E.rq -> PW P Γ eqs E p (retM Γ fn ks res H1) ⟨argF 0 args, Hin, N⟩) : Cm P f args Hin ks res (lk H1) :=
 Cm.intro hΓ N hf hb hname hn hcl hids hks hri fun E hE' hs hrd => PW.sound hΓ hE hm c p (by rw [hE']; exact hc) _ _ (h E hs hrd)
end Go.Psl
