/- Own lemmas, used by the last text. Conditions: those that each theorem states. -/
import Derived.Test.YtcaecmiedjnacaaGreatDoorKhae
import Derived.Test.YtcaecmiedjnacaaGreatDoorKhaf
import Derived.Test.YtcaecmiedjnacaaGreatDoorKhai
import Derived.Test.YtcaecmiedjnacaaGreatDoorKhal
import Derived.Test.YtcaecmiedjnacaaGreatDoorKham
set_option maxRecDepth 200000
set_option maxHeartbeats 8000000
namespace Go.Proofs.Tryz
open Go.Psl
open Go.Stb
open Go.Log
theorem fn170 {f : FuncId} {ds : List D} {dom : Etr -> Prop} {c : Etr -> Etr -> Bool} (hc : CmpOk f ds dom c) (l : List Etr) (hd : ∀ x ∈ l, dom x) (h0 : 0 < l.length) (hl : l.length <= 100000000) : Cm prog 170 [.ls 0 0 l.length 4, vi l.length, .d (.fn f ds)] (lk [(0, cellsI l)]) [0] (.ret (.tup [])) (lk [(0, cellsI (stb c l))]) := by
 obtain ⟨N, hN⟩ : ∃ N, l.length = N := ⟨_, rfl⟩
 obtain ⟨T0, hT0⟩ : ∃ T, st0 c N N 0 l = T := ⟨_, rfl⟩
 obtain ⟨T, hT⟩ : ∃ T, st2 c N N 20 T0 = T := ⟨_, rfl⟩
 have hs : stb c l = T := by unfold stb; rw [hN, hT0, hT]
 rw [hs]
 rw [hN] at h0 hl ⊢
 clear hs
 refine Cm.by gok eok mixed 1 func170 c170 rfl (by simp [ntmps170]) (by simp) (HpIds.at ?_) (by simp) ?_ fun E hE hs => ?_
 . simp
 . simp [ResIds]
 simp [p170]
 refine pw_loopC (α := Nat × Nat × List Etr) 0 (stF0 N f ds) (fun y => stI0 dom c N T0 y /\ ¬ y.2.1 + 20 <= N) (stF0 N f ds) (stI0 dom c N T0) (fun y => y.1) (N, 0, l) ⟨by simp only; omega, Nat.zero_le _, hN, hd, hT0⟩ ?_ (stb_round0 hc N h0 hl T0 hE) ?_
 . exact WKM hE (lk [(0, 0)])
 . rintro ⟨k, a, L⟩ ⟨⟨r1, r2, r3, r4, r5⟩, r6⟩
   simp only at r1 r2 r3 r4 r5 r6
   rw [st0_end r6] at r5
   have n0 : spD L ≠ [] := by intro e; have := congrArg List.length e; simp at this; omega
   have q := fn194 hc L a N r4 r2 (by omega) (by omega)
   have tl : T0.length = N := by rw [<- r5, insF_len]; exact r3
   have ta : ∀ x ∈ T0, dom x := by rw [<- r5]; exact insF_all c r4 a N
   rw [r3, r5] at q
   simp
   refine CRs q (by simp [n0]) ?_
   simp
   refine pw_loopC (α := Nat × Nat × List Etr) 2 (fun _ : Unit => ⟨slots [], lk [(0, cellsI T)], 1⟩) (fun _ => True) (stF2 N f ds) (stI2 dom c N T) (fun y => y.1) (N, 20, T0) ⟨by simp only; omega, by simp only; omega, by simp only; omega, tl, ta, hT⟩ ?_ (stb_round2 hc N h0 hl T hE) fun _ _ => ?_
   . exact WKM hE (lk [(0, 0)])
   . simp
     refine RetOk.by (lk [(0, 0)]) ?_
     simp [results170]
theorem fn133 {f : FuncId} {ds : List D} {dom : Etr -> Prop} {c : Etr -> Etr -> Bool} (hc : CmpOk f ds dom c) (l : List Etr) (hd : ∀ x ∈ l, dom x) (h0 : 0 < l.length) (hl : l.length <= 100000000) : Cm prog 133 [.ls 0 0 l.length 4, .d (.fn f ds)] (lk [(0, cellsI l)]) [0] (.ret (.tup [])) (lk [(0, cellsI (stb c l))]) := by
 have q := fn170 hc l hd h0 hl
 have n0 : spD l ≠ [] := by intro e; have := congrArg List.length e; simp at this; omega
 refine Cm.by gok eok mixed 1 func133 c133 rfl (by simp [ntmps133]) (by simp) (HpIds.at ?_) (by simp) ?_ fun E hE hs => ?_
 . simp
 . simp [ResIds]
 simp [p133]
 refine CRs q (by simp [n0]) ?_
 simp
 refine RetOk.by (lk [(0, 0)]) ?_
 simp [results133]
end Go.Proofs.Tryz
namespace Go.Stb
variable {α β : Type}
structure OrdB (c : α -> α -> Bool) (bf lt : α -> α -> Prop) : Prop where
 tr : ∀ x y z, lt x y -> lt y z -> lt x z
 yes : ∀ x y, bf x y -> c y x = true -> lt y x
 no : ∀ x y, bf x y -> c y x = false -> lt x y
def SegP (D D' : List α) (a b : Nat) : Prop := ∀ p x, a <= p -> p < b -> D'[p]? = some x -> ∃ p', a <= p' /\ p' < b /\ D[p']? = some x
theorem segP_of {P R G S : List α} (h : R.Perm G) {a b : Nat} (ha : a = P.length) (hb : b = P.length + G.length) : SegP (P ++ G ++ S) (P ++ R ++ S) a b := by
 intro p x h1 h2 hx
 have hl := h.length_eq
 rw [List.append_assoc, List.getElem?_append_right (by omega), List.getElem?_append_left (by omega)] at hx
 obtain ⟨i, hi⟩ := List.getElem?_of_mem (h.mem_iff.1 (List.mem_of_getElem? hx))
 have := (List.getElem?_eq_some_iff.1 hi).1
 refine ⟨P.length + i, by omega, by omega, ?_⟩
 rw [List.append_assoc, List.getElem?_append_right (by omega), List.getElem?_append_left (by omega), Nat.add_sub_cancel_left]
 exact hi
def CB (bf : α -> α -> Prop) (D : List α) (k : Nat) : Prop := ∀ p q x y, p < k -> k <= q -> D[p]? = some x -> D[q]? = some y -> bf x y
theorem CB.keep {bf : α -> α -> Prop} {D D' : List α} {a b k : Nat} (h : CB bf D k) (hk : k <= a \/ b <= k) (he : ∀ p, p < a \/ b <= p -> D'[p]? = D[p]?) (hs : SegP D D' a b) : CB bf D' k := by
 intro p q x y h1 h2 hx hy
 obtain ⟨p', g1, g2⟩ : ∃ p', p' < k /\ D[p']? = some x := by
   by_cases hp : p < a \/ b <= p
   . exact ⟨p, h1, by rw [<- he p hp]; exact hx⟩
   . obtain ⟨p', q1, q2, q3⟩ := hs p x (by omega) (by omega) hx
     exact ⟨p', by omega, q3⟩
 obtain ⟨q', g3, g4⟩ : ∃ q', k <= q' /\ D[q']? = some y := by
   by_cases hq : q < a \/ b <= q
   . exact ⟨q, h2, by rw [<- he q hq]; exact hy⟩
   . obtain ⟨q', q1, q2, q3⟩ := hs q y (by omega) (by omega) hy
     exact ⟨q', by omega, q3⟩
 exact h p' q' x y g1 g3 g2 g4
theorem segB_ins {c : α -> α -> Bool} {bf lt : α -> α -> Prop} (ho : OrdB c bf lt) {D : List α} {a b : Nat} (hab : a <= b) (hb : b <= D.length) (hs : SOn bf D a b) :
   (insF c D a b).Perm D /\ (∀ p, p < a \/ b <= p -> (insF c D a b)[p]? = D[p]?) /\ SOn lt (insF c D a b) a b /\ SegP D (insF c D a b) a b := by
 obtain ⟨P, G, S, e, ha, hb'⟩ := cut3 D hab hb
 subst e
 have hG : G.Pairwise bf := hs.to_pw ha hb'
 obtain ⟨R, q1, q2, q3⟩ := insF_ok (c := c) ho.tr P G S (hG.imp fun {x y} h => ⟨ho.yes x y h, ho.no x y h⟩) ha hb'
 rw [q1]
 exact ⟨(q2.append_left P).append_right S, fun p hp => out_eq q2.length_eq (by omega), SOn.of_pw q3 ha (by rw [q2.length_eq]; exact hb'), segP_of q2 ha hb'⟩
theorem segB_sym {c : α -> α -> Bool} {bf lt : α -> α -> Prop} (ho : OrdB c bf lt) {D : List α} {n a m b : Nat} (ham : a < m) (hmb : m < b) (hb : b <= D.length) (hn : b - a <= n) (s1 : SOn lt D a m) (s2 : SOn lt D m b) (hc : CB bf D m) :
   (symL c n D a m b).Perm D /\ (∀ p, p < a \/ b <= p -> (symL c n D a m b)[p]? = D[p]?) /\ SOn lt (symL c n D a m b) a b /\ SegP D (symL c n D a m b) a b := by
 obtain ⟨P, G, S, e, ha, hb'⟩ := cut3 D (Nat.le_of_lt (Nat.lt_trans ham hmb)) hb
 obtain ⟨A, B, e2, hA⟩ : ∃ A B, G = A ++ B /\ A.length = m - a := ⟨G.take (m - a), G.drop (m - a), (List.take_append_drop _ _).symm, by rw [List.length_take]; omega⟩
 subst e2
 have hb2 := hb'
 rw [List.length_append] at hb'
 have e3 : P ++ (A ++ B) ++ S = P ++ A ++ B ++ S := by simp
 rw [e3] at e
 subst e
 have sA : A.Pairwise lt := by
   have e4 : P ++ A ++ B ++ S = P ++ A ++ (B ++ S) := by simp
   rw [e4] at s1
   exact s1.to_pw ha (by omega)
 have sB : B.Pairwise lt := s2.to_pw (by rw [List.length_append]; omega) (by rw [List.length_append]; omega)
 obtain ⟨R, q1, q2, q3⟩ := symL_ok (c := c) ho.tr n P A B S (a := a) (m := m) (b := b) ha (by omega) (by omega) (by omega) (by omega) (by omega) sA sB ⟨fun x hx y hy => by
   obtain ⟨i, hi⟩ := List.getElem?_of_mem hx
   obtain ⟨j, hj⟩ := List.getElem?_of_mem hy
   have hi2 := (List.getElem?_eq_some_iff.1 hi).1
   have := hc (P.length + i) (m + j) x y (by omega) (by omega) (at_A (P := P) (A := A) (B := B) (S := S) rfl i x hi) (at_B (P := P) (A := A) (B := B) (S := S) (by omega) j y hj)
   exact ⟨ho.yes x y this, ho.no x y this⟩⟩
 rw [q1]
 have hl : R.length = (A ++ B).length := q2.length_eq
 refine ⟨by rw [<- e3]; exact (q2.append_left P).append_right S, fun p hp => by rw [<- e3]; exact out_eq hl (by rw [List.length_append]; omega), SOn.of_pw q3 ha (by rw [hl, List.length_append]; omega), ?_⟩
 rw [<- e3]
 exact segP_of q2 ha hb2
variable {c : α -> α -> Bool} {bf lt : α -> α -> Prop} {N : Nat}
theorem stB0_ok (ho : OrdB c bf lt) : ∀ (n a : Nat) (D : List α), D.length = N -> I0 lt D a -> a <= N -> N <= a + n -> SOn bf D a N -> CB bf D a -> (∀ k, 20 * k <= a -> CB bf D (20 * k)) -> (st0 c N n a D).Perm D /\ Runs lt 20 (st0 c N n a D) /\ ∀ k, CB bf (st0 c N n a D) (20 * k)
 | n, a, D, hN, hi, ha, hn, hs, hc, hk => by
   have fin : N < a + 20 -> (insF c D a N).Perm D /\ Runs lt 20 (insF c D a N) /\ ∀ k, CB bf (insF c D a N) (20 * k) := fun h => by
     obtain ⟨p1, p2, p3, p4⟩ := segB_ins ho ha (by omega) hs
     have hl : (insF c D a N).length = N := by rw [p1.length_eq]; exact hN
     refine ⟨p1, i0_end hi hl h p2 p3, fun k => ?_⟩
     by_cases h2 : 20 * k <= a
     . exact (hk k h2).keep (.inl h2) p2 p4
     . intro p q x y g1 g2 hx hy
       have := (List.getElem?_eq_some_iff.1 hy).1
       obtain ⟨j, hj, _⟩ := hi
       omega
   cases n with
   | zero => exact fin (by omega)
   | succ n =>
     unfold st0
     by_cases h : a + 20 <= N
     . rw [if_pos h]
       have hs20 : SOn bf D a (a + 20) := fun p q x y g1 g2 g3 => hs p q x y g1 g2 (by omega)
       obtain ⟨p1, p2, p3, p4⟩ := segB_ins ho (Nat.le_add_right a 20) (by omega) hs20
       have hl : (insF c D a (a + 20)).length = N := by rw [p1.length_eq]; exact hN
       have c20 : CB bf D (a + 20) := fun p q x y g1 g2 hx hy => by
         by_cases hp : p < a
         . exact hc p q x y hp (by omega) hx hy
         . exact hs p q x y (by omega) (by omega) (by have := (List.getElem?_eq_some_iff.1 hy).1; omega) hx hy
       have c20' := c20.keep (.inr (Nat.le_refl _)) p2 p4
       obtain ⟨q1, q2, q3⟩ := stB0_ok ho n (a + 20) (insF c D a (a + 20)) hl (i0_step hi p2 p3) h (by omega) (fun p q x y g1 g2 g3 hx hy => by
         rw [p2 p (by omega)] at hx
         rw [p2 q (by omega)] at hy
         exact hs p q x y (by omega) g2 g3 hx hy) c20' (fun k hk2 => by
         by_cases h3 : 20 * k <= a
         . exact (hk k h3).keep (.inl h3) p2 p4
         . obtain ⟨j, hj, _⟩ := hi
           have : 20 * k = a + 20 := by omega
           rw [this]; exact c20')
       exact ⟨q1.trans p1, q2, q3⟩
     . rw [if_neg h]
       exact fin (by omega)
def Cuts (bf : α -> α -> Prop) (bs a : Nat) (D : List α) : Prop := (∀ k, CB bf D (2 * bs * k)) /\ ∀ k, a <= bs * k -> CB bf D (bs * k)
theorem stB1_ok (ho : OrdB c bf lt) {bs : Nat} (hb : 0 < bs) : ∀ (n a : Nat) (D : List α), D.length = N -> I1 lt bs D a -> a <= N -> N <= a + n -> Cuts bf bs a D -> (st1 c N bs n a D).Perm D /\ Runs lt (2 * bs) (st1 c N bs n a D) /\ ∀ k, CB bf (st1 c N bs n a D) (2 * bs * k)
 | n, a, D, hN, hi, ha, hn, hc => by
   have hcut : CB bf D (a + bs) := by
     obtain ⟨k, e, _⟩ := hi
     have := hc.2 (2 * k + 1) (by rw [m2]; omega)
     rw [m2, <- e] at this; exact this
   have far : ∀ k, 2 * bs * k <= a \/ a + 2 * bs <= 2 * bs * k := fun k => by
     obtain ⟨j, e, _⟩ := hi
     rcases Nat.lt_or_ge j k with h | h
     . right; have := m3 (n := 2 * bs) h; omega
     . left; rw [e]; exact Nat.mul_le_mul_left _ h
   have fin : N < a + 2 * bs -> (lst1 c N bs a D).Perm D /\ Runs lt (2 * bs) (lst1 c N bs a D) /\ ∀ k, CB bf (lst1 c N bs a D) (2 * bs * k) := fun h => by
     unfold lst1
     by_cases h1 : a + bs < N
     . rw [if_pos h1]
       have s2 : SOn lt D (a + bs) N := fun p q x y g1 g2 g3 => hi.two p q x y g1 g2 (by omega)
       obtain ⟨p1, p2, p3, p4⟩ := segB_sym ho (n := N) (a := a) (m := a + bs) (b := N) (by omega) h1 (by omega) (by omega) hi.one s2 hcut
       refine ⟨p1, i1_end hi (by rw [p1.length_eq]; exact hN) h p2 p3, fun k => ?_⟩
       rcases far k with h2 | h2
       . exact (hc.1 k).keep (.inl h2) p2 p4
       . exact (hc.1 k).keep (.inr (by omega)) p2 p4
     . rw [if_neg h1]
       exact ⟨.refl _, i1_end hi hN h (fun p _ => rfl) (fun p q x y g1 g2 g3 => hi.one p q x y g1 g2 (by omega)), hc.1⟩
   cases n with
   | zero => exact fin (by omega)
   | succ n =>
     unfold st1
     by_cases h : a + 2 * bs <= N
     . rw [if_pos h]
       have s2 : SOn lt D (a + bs) (a + 2 * bs) := fun p q x y g1 g2 g3 => hi.two p q x y g1 g2 (by omega)
       obtain ⟨p1, p2, p3, p4⟩ := segB_sym ho (n := N) (a := a) (m := a + bs) (b := a + 2 * bs) (by omega) (by omega) (by omega) (by omega) hi.one s2 hcut
       obtain ⟨q1, q2, q3⟩ := stB1_ok ho hb n (a + 2 * bs) _ (by rw [p1.length_eq]; exact hN) (i1_step hi p2 p3) h (by omega) ⟨fun k => by
         rcases far k with h2 | h2
         . exact (hc.1 k).keep (.inl h2) p2 p4
         . exact (hc.1 k).keep (.inr h2) p2 p4, fun k hk => (hc.2 k (by omega)).keep (.inr hk) p2 p4⟩
       exact ⟨q1.trans p1, q2, q3⟩
     . rw [if_neg h]
       exact fin (by omega)
theorem stB2_ok (ho : OrdB c bf lt) : ∀ (n bs : Nat) (D : List α), 0 < bs -> D.length = N -> Runs lt bs D -> N <= bs + n -> (∀ k, CB bf D (bs * k)) -> (st2 c N n bs D).Perm D /\ (st2 c N n bs D).Pairwise lt
 | 0, bs, D, _, hN, hr, hn, _ => ⟨.refl _, runs_end (D := D) hr (by omega)⟩
 | n + 1, bs, D, hb, hN, hr, hn, hc => by
   unfold st2
   by_cases h : bs < N
   . rw [if_pos h]
     obtain ⟨p1, p2, p3⟩ := stB1_ok (N := N) ho hb N 0 D hN (i1_init hr) (Nat.zero_le _) (by omega) ⟨fun k => by rw [<- m1]; exact hc _, fun k _ => hc k⟩
     rw [Nat.mul_comm] at p2
     obtain ⟨q1, q2⟩ := stB2_ok ho n (bs * 2) _ (by omega) (by rw [p1.length_eq]; exact hN) p2 (by omega) (fun k => by rw [Nat.mul_comm bs 2]; exact p3 k)
     exact ⟨q1.trans p1, q2⟩
   . rw [if_neg h]
     exact ⟨.refl _, runs_end hr (by omega)⟩
theorem stbB_ok (ho : OrdB c bf lt) {D : List α} (hd : D.Pairwise bf) : (stb c D).Perm D /\ (stb c D).Pairwise lt := by
 have hs : SOn bf D 0 D.length := fun p q x y _ g2 _ hx hy => by
   have g1 := List.getElem?_eq_some_iff.1 hx
   have g3 := List.getElem?_eq_some_iff.1 hy
   have := List.pairwise_iff_getElem.1 hd p q g1.1 g3.1 g2
   rw [g1.2, g3.2] at this
   exact this
 obtain ⟨p1, p2, p3⟩ := stB0_ok (N := D.length) ho D.length 0 D rfl (i0_init lt D) (Nat.zero_le _) (by omega) hs (fun p q x y g1 => by omega) (fun k hk => by
   intro p q x y g1; omega)
 obtain ⟨q1, q2⟩ := stB2_ok (N := D.length) ho D.length 20 _ (by omega) p1.length_eq p2 (by omega) p3
 exact ⟨q1.trans p1, q2⟩
end Go.Stb
namespace Go.Stb
variable {α β : Type} (f : α -> β) (c : β -> β -> Bool)
abbrev pull (x y : α) : Bool := c (f x) (f y)
theorem sw_map (D : List α) (i j : Nat) : sw (D.map f) i j = (sw D i j).map f := by
 unfold sw
 simp only [List.getElem?_map]
 cases D[i]? <;> cases D[j]? <;> simp [List.map_set]
theorem lessAt_map (D : List α) (i j : Nat) : lessAt c (D.map f) i j = lessAt (pull f c) D i j := by
 unfold lessAt
 simp only [List.getElem?_map]
 cases D[i]? <;> cases D[j]? <;> rfl
theorem swpN_map (D : List α) (a b : Nat) : ∀ n, swpN (D.map f) a b n = (swpN D a b n).map f
 | 0 => rfl
 | n + 1 => by unfold swpN; rw [swpN_map D a b n, sw_map]
theorem rotL_map (m : Nat) : ∀ n (D : List α) i j, rotL m n (D.map f) i j = (rotL m n D i j).map f
 | 0, D, i, _ => swpN_map f D _ _ _
 | n + 1, D, i, j => by
   unfold rotL
   split
   . exact swpN_map f D _ _ _
   . split
     . rw [swpN_map, rotL_map m n]
     . rw [swpN_map, rotL_map m n]
theorem movR_map : ∀ n (D : List α) k, movR (D.map f) k n = (movR D k n).map f
 | 0, _, _ => rfl
 | n + 1, D, k => by unfold movR; rw [sw_map, movR_map n]
theorem movL_map : ∀ n (D : List α) k, movL (D.map f) k n = (movL D k n).map f
 | 0, _, _ => rfl
 | n + 1, D, k => by unfold movL; rw [sw_map, movL_map n]
theorem cutS_map (D : List α) (a m b : Nat) : cutS c (D.map f) a m b = cutS (pull f c) D a m b := by
 unfold cutS
 simp only [lessAt_map]
theorem rotF_map (D : List α) (m i j : Nat) : rotF (D.map f) m i j = (rotF D m i j).map f := rotL_map f m _ D i j
theorem if_map {p : Prop} [Decidable p] (x y : List α) : (if p then x.map f else y.map f) = (if p then x else y).map f := by split <;> rfl
theorem symL_map : ∀ n (D : List α) a m b, symL c n (D.map f) a m b = (symL (pull f c) n D a m b).map f
 | 0, _, _, _, _ => rfl
 | n + 1, D, a, m, b => by
   unfold symL
   by_cases h1 : m - a = 1
   . rw [if_pos h1, if_pos h1]
     simp only [lessAt_map, movR_map]
   . rw [if_neg h1, if_neg h1]
     by_cases h2 : b - m = 1
     . rw [if_pos h2, if_pos h2]
       simp only [lessAt_map, movL_map]
     . rw [if_neg h2, if_neg h2]
       simp only [cutS_map, rotF_map, if_map, symL_map n]
theorem sift_map (a : Nat) : ∀ j (D : List α), sift c a j (D.map f) = (sift (pull f c) a j D).map f
 | 0, _ => rfl
 | j + 1, D => by
   unfold sift
   simp only [lessAt_map, sw_map, sift_map a j, if_map]
theorem insN_map (a : Nat) (D : List α) : ∀ i, insN c a (D.map f) i = (insN (pull f c) a D i).map f
 | 0 => rfl
 | i + 1 => by unfold insN; rw [insN_map a D i, sift_map]
theorem insF_map (D : List α) (a b : Nat) : insF c (D.map f) a b = (insF (pull f c) D a b).map f := insN_map f c a D _
theorem st0_map (N : Nat) : ∀ n a (D : List α), st0 c N n a (D.map f) = (st0 (pull f c) N n a D).map f
 | 0, a, D => insF_map f c D a N
 | n + 1, a, D => by
   unfold st0
   simp only [insF_map, st0_map N n, if_map]
theorem lst1_map (N bs a : Nat) (D : List α) : lst1 c N bs a (D.map f) = (lst1 (pull f c) N bs a D).map f := by
 unfold lst1
 simp only [symL_map, if_map]
theorem st1_map (N bs : Nat) : ∀ n a (D : List α), st1 c N bs n a (D.map f) = (st1 (pull f c) N bs n a D).map f
 | 0, a, D => lst1_map f c N bs a D
 | n + 1, a, D => by
   unfold st1
   simp only [symL_map, st1_map N bs n, lst1_map, if_map]
theorem st2_map (N : Nat) : ∀ n bs (D : List α), st2 c N n bs (D.map f) = (st2 (pull f c) N n bs D).map f
 | 0, _, _ => rfl
 | n + 1, bs, D => by
   unfold st2
   simp only [st1_map, st2_map N n, if_map]
theorem stb_map (D : List α) : stb c (D.map f) = (stb (pull f c) D).map f := by
 unfold stb
 rw [List.length_map, st0_map, st2_map]
theorem pw_unique {lt : α -> α -> Prop} (hir : ∀ x y, lt x y -> lt y x -> False) : ∀ {l m : List α}, l.Perm m -> l.Pairwise lt -> m.Pairwise lt -> l = m
 | [], m, h, _, _ => by rw [List.nil_perm.1 h]
 | x :: l, m, h, h1, h2 => by
   cases m with
   | nil => exact absurd h.length_eq (by simp)
   | cons y m =>
     have exy : x = y := by
       have hx := h.mem_iff.1 (List.mem_cons_self (a := x) (l := l))
       have hy := h.mem_iff.2 (List.mem_cons_self (a := y) (l := m))
       rcases List.mem_cons.1 hx with e | e
       . exact e
       . rcases List.mem_cons.1 hy with e2 | e2
         . exact e2.symm
         . exact (hir x y (List.rel_of_pairwise_cons h1 e2) (List.rel_of_pairwise_cons h2 e)).elim
     subst exy
     rw [pw_unique hir h.cons_inv (List.Pairwise.of_cons h1) (List.Pairwise.of_cons h2)]
def num : Nat -> List α -> List (α × Nat)
 | _, [] => []
 | k, x :: l => (x, k) :: num (k + 1) l
theorem num_fst : ∀ (k : Nat) (l : List α), (num k l).map Prod.fst = l
 | _, [] => rfl
 | k, x :: l => by simp [num, num_fst (k + 1) l]
theorem num_app : ∀ (k : Nat) (l m : List α), num k (l ++ m) = num k l ++ num (k + l.length) m
 | _, [], _ => rfl
 | k, x :: l, m => by simp only [List.cons_append, num, num_app (k + 1) l m, List.length_cons]; rw [show k + 1 + l.length = k + (l.length + 1) by omega]
theorem num_mem : ∀ {k : Nat} {l : List α} {x : α × Nat}, x ∈ num k l -> k <= x.2 /\ x.2 < k + l.length /\ x.1 ∈ l
 | _, [], _, h => by cases h
 | k, a :: l, x, h => by
   rcases List.mem_cons.1 h with rfl | h
   . exact ⟨Nat.le_refl _, by simp, by simp⟩
   . obtain ⟨h1, h2, h3⟩ := num_mem h
     exact ⟨by omega, by simp only [List.length_cons]; omega, by simp [h3]⟩
theorem num_pw : ∀ (k : Nat) (l : List α), (num k l).Pairwise fun x y => x.2 < y.2
 | _, [] => .nil
 | k, a :: l => .cons (fun y hy => by have := (num_mem hy).1; simp only; omega) (num_pw (k + 1) l)
def mergeK (key : α -> Int) : List α -> List α -> List α
 | [], m => m
 | x :: l, [] => x :: l
 | x :: l, y :: m => if key x <= key y then x :: mergeK key l (y :: m) else y :: mergeK key (x :: l) m
theorem mergeK_nil (key : α -> Int) (l : List α) : mergeK key l [] = l := by cases l <;> simp [mergeK]
theorem mergeK_map (key : β -> Int) : ∀ (l m : List α), mergeK key (l.map f) (m.map f) = (mergeK (fun x => key (f x)) l m).map f
 | [], m => by simp [mergeK]
 | x :: l, [] => by simp [mergeK]
 | x :: l, y :: m => by
   have h1 := mergeK_map key l (y :: m)
   have h2 := mergeK_map key (x :: l) m
   simp only [List.map_cons] at h1 h2 ⊢
   unfold mergeK
   split
   . rw [h1]; rfl
   . rw [h2]; rfl
theorem mergeK_perm (key : α -> Int) : ∀ (l m : List α), (mergeK key l m).Perm (l ++ m)
 | [], m => by simp [mergeK]
 | x :: l, [] => by simp [mergeK]
 | x :: l, y :: m => by
   unfold mergeK
   split
   . exact (mergeK_perm key l (y :: m)).cons x
   . exact ((mergeK_perm key (x :: l) m).cons y).trans List.perm_middle.symm
theorem mergeK_pw {key : α -> Int} {lt : α -> α -> Prop} (htr : ∀ x y z, lt x y -> lt y z -> lt x z) : ∀ (l m : List α), l.Pairwise lt -> m.Pairwise lt -> (∀ x ∈ l, ∀ y ∈ m, (key x <= key y -> lt x y) /\ (key y < key x -> lt y x)) -> (mergeK key l m).Pairwise lt
 | [], m, _, h, _ => by simpa [mergeK] using h
 | x :: l, [], h, _, _ => by simpa [mergeK] using h
 | x :: l, y :: m, h1, h2, h3 => by
   unfold mergeK
   by_cases hk : key x <= key y
   . rw [if_pos hk]
     have hxy := (h3 x (by simp) y (by simp)).1 hk
     refine .cons (fun z hz => ?_) (mergeK_pw htr l (y :: m) h1.of_cons h2 fun a ha b hb => h3 a (by simp [ha]) b hb)
     rcases List.mem_append.1 ((mergeK_perm key l (y :: m)).mem_iff.1 hz) with hz | hz
     . exact List.rel_of_pairwise_cons h1 hz
     . rcases List.mem_cons.1 hz with rfl | hz
       . exact hxy
       . exact htr _ _ _ hxy (List.rel_of_pairwise_cons h2 hz)
   . rw [if_neg hk]
     have hyx := (h3 x (by simp) y (by simp)).2 (by omega)
     refine .cons (fun z hz => ?_) (mergeK_pw htr (x :: l) m h1 h2.of_cons fun a ha b hb => h3 a ha b (by simp [hb]))
     rcases List.mem_append.1 ((mergeK_perm key (x :: l) m).mem_iff.1 hz) with hz | hz
     . rcases List.mem_cons.1 hz with rfl | hz
       . exact hyx
       . exact htr _ _ _ hyx (List.rel_of_pairwise_cons h1 hz)
     . exact List.rel_of_pairwise_cons h2 hz
def ltN (key : α -> Int) (x y : α × Nat) : Prop := key x.1 < key y.1 \/ (key x.1 = key y.1 /\ x.2 < y.2)
theorem num_ltN (key : α -> Int) : ∀ (k : Nat) (l : List α), (l.Pairwise fun x y => key x <= key y) -> (num k l).Pairwise (ltN key)
 | _, [], _ => .nil
 | k, a :: l, h => .cons (fun y hy => by
     obtain ⟨h1, _, h3⟩ := num_mem hy
     have := List.rel_of_pairwise_cons h h3
     unfold ltN
     simp only
     omega) (num_ltN key (k + 1) l h.of_cons)
theorem stb_merge (key : α -> Int) (c : α -> α -> Bool) (hc : ∀ x y, c x y = decide (key x < key y)) (a b : List α) (ha : a.Pairwise fun x y => key x <= key y) (hb : b.Pairwise fun x y => key x <= key y) :
   stb c (a ++ b) = mergeK key a b := by
 have e1 : a ++ b = (num 0 a ++ num a.length b).map Prod.fst := by rw [List.map_append, num_fst, num_fst]
 have e2 : mergeK key a b = (mergeK (fun x => key (Prod.fst x)) (num 0 a) (num a.length b)).map Prod.fst := by rw [<- mergeK_map, num_fst, num_fst]
 rw [e1, e2, stb_map]
 congr 1
 have htr : ∀ x y z : α × Nat, ltN key x y -> ltN key y z -> ltN key x z := fun x y z h1 h2 => by unfold ltN at *; omega
 have ho : OrdB (pull Prod.fst c) (fun x y : α × Nat => x.2 < y.2) (ltN key) := {
   tr := htr
   yes := fun x y _ h => by
     simp only [pull, hc, decide_eq_true_eq] at h
     exact .inl h
   no := fun x y h1 h => by
     simp only [pull, hc, decide_eq_false_iff_not] at h
     unfold ltN; omega }
 have hpw : (num 0 a ++ num a.length b).Pairwise fun x y : α × Nat => x.2 < y.2 := by
   have := num_pw 0 (a ++ b)
   rwa [num_app, Nat.zero_add] at this
 obtain ⟨p1, p2⟩ := stbB_ok ho hpw
 refine pw_unique (lt := ltN key) (fun x y h1 h2 => by unfold ltN at *; omega) (p1.trans (mergeK_perm _ _ _).symm) p2 (mergeK_pw htr _ _ (num_ltN key _ _ ha) (num_ltN key _ _ hb) fun x hx y hy => ?_)
 have h1 := (num_mem hx).2.1
 have h2 := (num_mem hy).1
 unfold ltN
 constructor <;> intro h <;> omega
end Go.Stb
namespace Go.Proofs.Tryz
open Go.Psl
open Go.Stb
open Go.Log
abbrev entM0 : List V := [vi 0, vS [], .d (.lit (.slice none 0 0)), vS []]
def zD (n : Nat) : List D := (List.replicate n [di 0, dS [], .lit (.slice none 0 0), dS []]).flatten
theorem zero_cells (n : Nat) : repl n entM0 = (zD n).map .d := by
 unfold zD
 induction n with
 | zero => rfl
 | succ n ih =>
   rw [List.replicate_succ, List.flatten_cons, List.map_append, <- ih]; rfl
theorem cells_flat (L : List Etr) : (List.map (List.map V.d ∘ entL) L).flatten = cellsI L := by
 show _ = (spD L).map V.d
 unfold spD
 rw [List.map_flatMap, List.flatMap_def]; rfl
theorem cells_cell (L : List Etr) : ∀ x : V, x ∈ cellsI L -> x.isCell = true := fun x hx => by
 obtain ⟨y, _, rfl⟩ := List.mem_map.1 hx; rfl
theorem grow_zero : Ct prog 169 [.d (.lit (.slice none 0 0)), vi 0] (.d (.lit (.slice none 0 0))) [] := by
 have w0 : IntKind.wrap .i64 0 = 0 := by decide
 refine CB func169 c169 fun E hE => ?_
 simp [p169, w0]
 apply RZ
 simp [results169]
theorem grow_some (n : Nat) (h0 : 0 < n) (hn : n <= 1000000) : Ct prog 169 [.d (.lit (.slice none 0 0)), vi n] (.ls 0 0 0 4) [(0, (zD n).map .d)] := by
 have w0 : IntKind.wrap .i64 0 = 0 := by decide
 have w1 : IntKind.wrap .i64 (n : Int) = n := wrap64 (by omega) (by omega)
 have q1 : ¬ ((n : Int) < 0) := by omega
 have q2 : (0 : Int) < n := by omega
 have q3 : n * 64 <= 140737488355328 /\ n <= 9223372036854775807 := by omega
 refine CB func169 c169 fun E hE => ?_
 simp [p169, w0, w1, q1, q3, h0, zero_cells]
 refine RetOk.by (lk [(0, 18874368)]) ?_
 simp [results169]
abbrev twoB (a b : List Etr) : List V := [.d (entsD a), .d (entsD b)]
theorem cells_app (a b : List Etr) : cellsI a ++ cellsI b = cellsI (a ++ b) := by
 show (spD a).map V.d ++ (spD b).map V.d = (spD (a ++ b)).map V.d
 rw [<- List.map_append]; unfold spD; rw [List.flatMap_append]
theorem cat_size (a b : List Etr) (ha : a.length <= 100000) (hb : b.length <= 100000) {E : Ent} (hs : ∀ i, E.stab i ↔ i ∈ []) {Q : AExit -> St -> Prop} : ∀ i : Nat, i <= 2 -> PW prog tys eqs E p132l0
   (seqQ (fun st' => ∃ j, j <= 2 /\ 2 - j < 2 - i /\ Weak prog E st' ⟨slots [(0, .ls 0 0 2 1), (3, vi (if j = 0 then 0 else if j = 1 then a.length else a.length + b.length)), (9, .ls 0 0 2 1), (10, vi 2), (11, vi j)], lk [(0, twoB a b)], 1⟩)
     (exC prog E Q 0 (fun _ : Unit => ⟨slots [(0, .ls 0 0 2 1), (3, vi (a.length + b.length))], lk [(0, twoB a b)], 1⟩) (fun _ => True)))
   ⟨slots [(0, .ls 0 0 2 1), (3, vi (if i = 0 then 0 else if i = 1 then a.length else a.length + b.length)), (9, .ls 0 0 2 1), (10, vi 2), (11, vi i)], lk [(0, twoB a b)], 1⟩ := by
 intro i hi
 match i, hi with
 | 0, _ =>
   have w1 : IntKind.wrap .i64 1 = 1 := by decide
   have w2 : IntKind.wrap .i64 (a.length : Int) = a.length := wrap64 (by omega) (by omega)
   have q : ¬ ((a.length : Int) < 0) := by omega
   simp [p132l0, w1, w2, q]
   refine ⟨1, by omega, by omega, ?_⟩
   exact WKM hs (lk [(0, 0)])
 | 1, _ =>
   have w1 : IntKind.wrap .i64 2 = 2 := by decide
   have w2 : IntKind.wrap .i64 ((a.length : Int) + b.length) = (a.length : Int) + b.length := wrap64 (by omega) (by omega)
   have q : ¬ ((a.length : Int) + b.length < 0) := by omega
   simp [p132l0, w1, w2, q]
   refine ⟨2, by omega, by omega, ?_⟩
   exact WKM hs (lk [(0, 0)])
 | 2, _ =>
   simp [p132l0]
   exact WKM hs (lk [(0, 0)])
def catS (hdr : V) (blk : List (Nat × List V)) (a b : List Etr) : Nat -> St
 | 0 => ⟨slots [(6, hdr), (25, .ls 0 0 2 1), (26, vi 2), (27, vi 0)], lk ((0, twoB a b) :: blk), 2⟩
 | 1 => ⟨slots [(6, .ls 1 0 a.length 4), (25, .ls 0 0 2 1), (26, vi 2), (27, vi 1)], lk [(0, twoB a b), (1, cellsI a)], 2⟩
 | _ => ⟨slots [(6, .ls 1 0 (a.length + b.length) 4), (25, .ls 0 0 2 1), (26, vi 2), (27, vi 2)], lk [(0, twoB a b), (1, cellsI (a ++ b))], 2⟩
theorem fn132 (a b : List Etr) (ha : a.length <= 100000) (hb : b.length <= 100000) : Cm prog 132 [.ls 0 0 2 1] (lk [(0, twoB a b)]) [] (.ret (.ls 1 0 (a ++ b).length 4)) (lk [(1, cellsI (a ++ b))]) := by
 have w1 : IntKind.wrap .i64 1 = 1 := by decide
 have w2 : IntKind.wrap .i64 2 = 2 := by decide
 have hfl := cells_flat b
 have hcell := cells_cell b
 have hfa := cells_flat a
 have hca := cells_cell a
 have hsl := spD_len a
 have htk : List.take (a.length * 4) (cellsI a) = cellsI a := List.take_of_length_le (by simp)
 have n1 : (a.length + b.length) * 64 <= 140737488355328 := by omega
 have n2 : a.length + b.length <= 9223372036854775807 := by omega
 have m1 : a.length * 64 <= 140737488355328 := by omega
 have m2 : a.length <= 9223372036854775807 := by omega
 refine CM 1 func132 c132 fun E hs hE => ?_
 rw [List.length_append]
 simp [p132]
 refine pw_loopC (α := Nat) 0 (fun _ : Unit => ⟨slots [(0, .ls 0 0 2 1), (3, vi (a.length + b.length))], lk [(0, twoB a b)], 1⟩) (fun _ => True) (fun i => ⟨slots [(0, .ls 0 0 2 1), (3, vi (if i = 0 then 0 else if i = 1 then a.length else a.length + b.length)), (9, .ls 0 0 2 1), (10, vi 2), (11, vi i)], lk [(0, twoB a b)], 1⟩) (fun i => i <= 2) (fun i => 2 - i) 0 ?_ ?_ ?_ fun _ _ => ?_
 . omega
 . exact WKM hs (lk [(0, 0)])
 . exact cat_size a b ha hb hs
 . by_cases h0 : a.length + b.length = 0
   . have hz0 : (a.length : Int) + b.length = 0 := by omega
     rw [hz0]
     simp
     refine CLa grow_zero ?_
     simp
     refine pw_loopC (α := Nat) 2 (fun _ : Unit => ⟨slots [(6, .ls 1 0 (a.length + b.length) 4)], lk [(0, twoB a b), (1, cellsI (a ++ b))], 2⟩) (fun _ => True) (catS (.d (.lit (.slice none 0 0))) [] a b) (fun i => i <= 2) (fun i => 2 - i) 0 ?_ ?_ ?_ fun _ _ => ?_
     . omega
     . unfold catS
       exact WKM hs (lk [(0, 0)])
     . intro i hi
       match i, hi with
       | 0, _ =>
         simp only [catS]
         simp [p132l1, hfa, m1, m2, w1]
         refine ⟨1, by omega, by omega, ?_⟩
         simp only
         exact WKM hs (lk [(0, 0), (1, 6291458)])
       | 1, _ =>
         simp only [catS]
         simp [p132l1, w2, hfl, hsl, htk, n1, n2]
         refine ⟨2, by omega, by omega, ?_⟩
         simp only
         rw [cells_app]
         exact WKM hs (lk [(0, 0), (1, 6291458)])
       | 2, _ =>
         simp only [catS]
         simp [p132l1]
         exact WKM hs (lk [(0, 0), (1, 1)])
     . simp
       refine RetOk.by (lk [(1, 1)]) ?_
       simp [results132]
   . have hz0 : (a.length : Int) + b.length = ((a.length + b.length : Nat) : Int) := by omega
     rw [hz0]
     simp
     refine CLa (grow_some (a.length + b.length) (by omega) (by omega)) ?_
     simp
     refine pw_loopC (α := Nat) 2 (fun _ : Unit => ⟨slots [(6, .ls 1 0 (a.length + b.length) 4)], lk [(0, twoB a b), (1, cellsI (a ++ b))], 2⟩) (fun _ => True) (catS (.ls 1 0 0 4) [(1, (zD (a.length + b.length)).map .d)] a b) (fun i => i <= 2) (fun i => 2 - i) 0 ?_ ?_ ?_ fun _ _ => ?_
     . omega
     . unfold catS
       exact WKM hs (lk [(0, 0), (1, 1048577)])
     . intro i hi
       match i, hi with
       | 0, _ =>
         simp only [catS]
         simp [p132l1, hfa, m1, m2, w1]
         refine ⟨1, by omega, by omega, ?_⟩
         simp only
         exact WKM hs (lk [(0, 0), (1, 6291458)])
       | 1, _ =>
         simp only [catS]
         simp [p132l1, w2, hfl, hsl, htk, n1, n2]
         refine ⟨2, by omega, by omega, ?_⟩
         simp only
         rw [cells_app]
         exact WKM hs (lk [(0, 0), (1, 6291458)])
       | 2, _ =>
         simp only [catS]
         simp [p132l1]
         exact WKM hs (lk [(0, 0), (1, 1)])
     . simp
       refine RetOk.by (lk [(1, 1)]) ?_
       simp [results132]
open Go.RowKit
theorem ins_nil (x : D) : Ct prog 194 [.d (entsD []), vi 0, vi 0, .d x] (.tup []) [] := by
 have w1 : IntKind.wrap .i64 1 = 1 := by decide
 refine CB func194 c194 fun E hE => ?_
 simp [p194, w1]
 refine pw_loop (α := Nat) (fun _ => ⟨slots [(2, vi 0), (8, vi 1)], lk [], 0⟩) (fun _ => True) (fun _ => 0) 0 ?_ ?_ ?_
 . trivial
 . exact WK hE (lk [])
 . intro i hi
   simp [p194l1]
   apply RZ
   simp [results194]
theorem stable_nil (x : D) : Ct prog 170 [.d (entsD []), vi 0, .d x] (.tup []) [] := by
 refine CB func170 c170 fun E hE => ?_
 simp [p170]
 refine pw_loopC (α := Nat) 0 (fun _ : Unit => ⟨slots [(0, .d (entsD [])), (1, vi 0), (2, .d x), (6, vi 20), (7, vi 0)], lk [], 0⟩) (fun _ => True) (fun _ => ⟨slots [(0, .d (entsD [])), (1, vi 0), (2, .d x), (6, vi 20), (7, vi 0), (8, vi 20)], lk [], 0⟩) (fun _ => True) (fun _ => 0) 0 ?_ ?_ ?_ fun _ _ => ?_
 . trivial
 . exact WK hE (lk [])
 . intro i hi
   simp [p170l0]
   exact WK hE (lk [])
 . simp
   refine CLa (ins_nil x) ?_
   simp
   refine pw_loop (α := Nat) (fun _ => ⟨slots [(1, vi 0), (6, vi 20)], lk [], 0⟩) (fun _ => True) (fun _ => 0) 0 ?_ ?_ ?_
   . trivial
   . exact WK hE (lk [])
   . intro i hi
     simp [p170l2]
     apply RZ
     simp [results170]
theorem sort_nil (x : D) : Ct prog 133 [.d (entsD []), .d x] (.tup []) [] := by
 refine CB func133 c133 fun E hE => ?_
 simp [p133]
 refine CLa (stable_nil x) ?_
 simp
 apply RZ
 simp [results133]
def tmC (x y : Etr) : Bool := decide (x.t < y.t)
def tmD (x : Etr) : Prop := 0 <= x.t /\ x.t <= 1000000
theorem fn81 (x y : Etr) (hx : tmD x) (hy : tmD y) : Ct prog 81 [entV x, entV y] (vi (x.t - y.t)) [] := by
 obtain ⟨h1, h2⟩ := hx
 obtain ⟨h3, h4⟩ := hy
 have w : IntKind.wrap .i64 (x.t - y.t) = x.t - y.t := wrap64 (by omega) (by omega)
 refine CB func81 c81 fun E hE => ?_
 simp [p81, w]
 apply RZ
 simp [results81]
theorem tm_ok : CmpOk 81 [] tmD tmC := fun x y hx hy => ⟨x.t - y.t, by simp [tmC]; omega, fn81 x y hx hy⟩
theorem concat_at (k : Nat) (hk : k ≠ 1) (a b : List Etr) (ha : a.length <= 100000) (hb : b.length <= 100000) : Cm prog 132 [.ls k 0 2 1] (lk [(k, twoB a b)]) [] (.ret (.ls 1 0 (a ++ b).length 4)) (lk [(1, cellsI (a ++ b))]) := by
 have := (fn132 a b ha hb).rename (sgB k 1) 2 (sgB_inj hk) (by simp [idsLt]) (by simp [idsLt]) (by simp)
 have hm : ∀ l : List Etr, List.map (ren1 (sgB k 1)) (cellsI l) = cellsI l := fun l => by simp [cellsI, ren1, ren0]
 simpa [renL, renR, renC, ren1, ren0, ren2, ren, sgB, Function.comp_def] using this
theorem sort_at (k : Nat) (l : List Etr) (hd : ∀ x ∈ l, tmD x) (h0 : 0 < l.length) (hl : l.length <= 100000000) : Cm prog 133 [.ls k 0 l.length 4, .d (.fn 81 [])] (lk [(k, cellsI l)]) [k] (.ret (.tup [])) (lk [(k, cellsI (stb tmC l))]) := by
 have := (fn133 tm_ok l hd h0 hl).rename (fun _ => k) 1 (by omega) (by simp [idsLt]) (by simp [idsLt]) (by simp)
 simpa [renL, renR, renC, ren1, ren0, ren2, ren, Function.comp_def] using this
theorem fn80 (a b : List Etr) (ha : a.length <= 100000) (hb : b.length <= 100000) (hda : ∀ x ∈ a, tmD x) (hdb : ∀ x ∈ b, tmD x) (sa : a.Pairwise fun x y => x.t <= y.t) (sb : b.Pairwise fun x y => x.t <= y.t) :
   Ct prog 80 [.d (entsD a), .d (entsD b), .d (.fn 81 [])] (.ls 0 0 (mergeK Etr.t a b).length 4) [(0, cellsI (mergeK Etr.t a b))] := by
 have hm := stb_merge Etr.t tmC (fun _ _ => rfl) a b sa sb
 have hl : (mergeK Etr.t a b).length = a.length + b.length := by rw [(mergeK_perm _ _ _).length_eq, List.length_append]
 have c1 := concat_at 3145728 (by omega) a b ha hb
 by_cases h0 : a.length + b.length = 0
 . have e1 : a = [] := List.length_eq_zero_iff.1 (by omega)
   have e2 : b = [] := List.length_eq_zero_iff.1 (by omega)
   subst e1
   subst e2
   refine CB func80 c80 fun E hE => ?_
   simp [p80, splice, repl]
   refine CRs c1 (by simp) ?_
   simp
   refine CLa (sort_nil (.fn 81 [])) ?_
   simp
   refine RetOk.by (lk [(0, 4194305)]) ?_
   simp [results80, mergeK, cellsI]
 . have c2 := sort_at 4194305 (a ++ b) (fun x hx => by rcases List.mem_append.1 hx with h | h; exact hda x h; exact hdb x h) (by rw [List.length_append]; omega) (by rw [List.length_append]; omega)
   rw [hm] at c2
   have n0 : spD (a ++ b) ≠ [] := by intro h; have := congrArg List.length h; simp at this; omega
   have n1 : spD (mergeK Etr.t a b) ≠ [] := by intro h; have := congrArg List.length h; simp at this; omega
   refine CB func80 c80 fun E hE => ?_
   simp [p80, splice, repl]
   refine CRs c1 (by simp) ?_
   simp
   refine CRs c2 (by simp [n0]) ?_
   simp
   refine RetOk.by (lk [(0, 4194305)]) ?_
   simp [results80, hl]
end Go.Proofs.Tryz
namespace Go.Psl
variable {P : Program} {Γ : Tys} {eqs : Eqs}
theorem Cm.byW (hΓ : GOk P Γ) (hE : EqOk P eqs) (hm : P.follows .mixedOrders = true) {f : FuncId} {fn : Func} {p : PC} {args : List V} {Hin : Hp} {ks : List Nat} {res : Res} {H1 : List (Nat × List V)} (N : Nat) (hf : P.funcs[f]? = some fn) (hc : fn.body.bind (comp fn.ntmps) = some p) (hname : (fn.name == "runtime.NumGoroutine") = false)
   (hn : args.length <= fn.ntmps) (hcl : ∀ v ∈ args, A2 (· < N) anyD v) (hids : IdsFn N Hin) (hks : ∀ i ∈ ks, i < N) (hri : ResIds res.v H1) (h : ∀ E : Ent, (∀ i, E.stab i ↔ i ∈ ks) -> E.nt = fn.ntmps /\ E.rq -> PW P Γ eqs E p (clQ P E (retM Γ fn ks res H1)) ⟨argF 0 args, Hin, N⟩) : Cm P f args Hin ks res (lk H1) := by
 cases hb : fn.body with
 | none => rw [hb] at hc; cases hc
 | some c => rw [hb] at hc; exact Cm.intro hΓ N hf hb hname hn hcl hids hks hri fun E hE' hs hrd => AW.clQ (PW.sound hΓ hE hm c p (by rw [hE']; exact hc) _ _ (h E hs ⟨hE', hrd⟩))
theorem Ct.byW (hΓ : GOk P Γ) (hE : EqOk P eqs) (hm : P.follows .mixedOrders = true) {f : FuncId} {fn : Func} {p : PC} {args : List V} {r : V} {H1 : List (Nat × List V)} (hf : P.funcs[f]? = some fn) (hc : fn.body.bind (comp fn.ntmps) = some p) (hname : (fn.name == "runtime.NumGoroutine") = false)
   (hn : args.length <= fn.ntmps) (hcl : ∀ v ∈ args, Closed v) (hri : ResIds r H1) (h : ∀ E : Ent, (∀ i, ¬ E.stab i) -> PW P Γ eqs E p (clQ P E (retQ Γ fn r H1)) ⟨argF 0 args, fun _ => none, 0⟩) : Ct P f args r H1 :=
 Cm.byW hΓ hE hm 0 hf hc hname hn (fun v hv => A2.mono (fun _ h => h.elim) (fun _ h => h) (hcl v hv)) nofun nofun hri fun E hs hn => h E (fun i hi => by have := (hs i).1 hi; cases this)
theorem ret_data {E : Ent} {fn : Func} {st : St} {v : V} {y : D} {t : Nat} (ids : List Nat) (hs : ∀ i, ¬ E.stab i) (hv : st.fr t = v) (hf : Fz (hpOf st.H ids) v (.d y)) (hr : RetM Γ fn [] (.d y) [] ⟨slots [(t, .d y)], lk [], st.nx⟩) : clQ P E (retQ Γ fn (.d y) []) .ret st := by
 refine .inr ⟨⟨slots [(t, .d y)], lk [], st.nx⟩, ?_, hr, nofun⟩
 obtain ⟨f, H, n⟩ := st
 exact Weak.frzR ids hs (fun p hp => by
   obtain rfl := List.mem_singleton.1 hp
   exact .inr (.inr (by rw [show f t = v from hv]; exact hf))) (fun p hp => by cases hp)
end Go.Psl
namespace Go.Proofs.Tryz
open Go.Psl
open Go.Stb
open Go.Log
theorem clone_nil0 : Ct prog 82 [.d (.sl 1 [])] (.d (.sl 1 [])) [] := by
 refine Ct.byW gok eok mixed func82 c82 rfl (by simp [ntmps82]) (by simp) (by simp [ResIds]) fun E hE => ?_
 simp [p82, repl]
 refine ⟨ret_data [] hE (v := .d (.lit (.slice none 0 0))) (t := 2) (by simp) (.inr ⟨rfl, _, rfl⟩) ?_, ret_data [5242880] hE (v := .ls 5242880 0 0 1) (t := 2) (by simp) (bor_fcel (f := intL) (fun _ => rfl) (l := []) (by simp [hpOf, fcel])) ?_⟩
 . apply RZ
   simp [results82]
 . apply RZ
   simp [results82]
theorem ints_flat (q : List Int) : (q.map intL).flatten = q.map di := by
 induction q with
 | nil => rfl
 | cons n q ih => simp [ih]
theorem fcel_int (q : List Int) : fcel intL q = (q.map di).map .d := by
 unfold fcel
 rw [ints_flat]
theorem clone_raw (q : List Int) (h0 : q ≠ []) (hq : q.length <= 1000000) : Ct prog 82 [.d (intsD q)] (.ls 0 0 q.length 1) [(0, fcel intL q)] := by
 obtain ⟨a, r, rfl⟩ := List.exists_cons_of_ne_nil h0
 have hmx : (r.length + 1) * 8 <= 140737488355328 /\ r.length + 1 <= 9223372036854775807 := by simp at hq; omega
 have e : intsD (a :: r) = .sl 1 ([di a] :: r.map intL) := rfl
 have ef := ints_flat r
 have hR : (r.map di).length = r.length := by simp
 rw [fcel_int, List.map_cons, List.map_cons]
 generalize r.map di = R at ef hR ⊢
 refine CB func82 c82 fun E hE => ?_
 simp [p82, e, ef, repl, hmx]
 refine RetOk.by (lk [(0, 5242880)]) ?_
 simp [results82]
theorem fn82 (q : List Int) (hq : q.length <= 1000000) : Ct prog 82 [.d (intsD q)] (.d (intsD q)) [] := by
 by_cases h0 : q = []
 . rw [h0]; exact clone_nil0
 . exact Cm.freeze (clone_raw q h0 hq) (bor_fcel (f := intL) (fun _ => rfl) (l := q) (by simp [lk]))
theorem pw_ord : ∀ {es : List Etr} {last : Int}, ordS last es = true -> (∀ x ∈ es, last <= x.t) /\ es.Pairwise fun x y => x.t <= y.t
 | [], _, _ => ⟨fun x hx => (by cases hx), List.Pairwise.nil⟩
 | x :: r, last, h => by
   simp only [ordS, Bool.and_eq_true, decide_eq_true_eq] at h
   obtain ⟨h1, h2⟩ := h
   have ih := pw_ord h2
   have hl : last <= x.t := h1.2
   refine ⟨fun y hy => ?_, List.Pairwise.cons ih.1 ih.2⟩
   rcases List.mem_cons.1 hy with rfl | hy
   . exact hl
   . exact Int.le_trans hl (ih.1 y hy)
theorem ok_tm {l : Lg} (h : okLg l = true) : (∀ x ∈ l.es, tmD x) /\ l.es.Pairwise fun x y => x.t <= y.t := by
 obtain ⟨_, _, h3⟩ := ok_all h
 exact ⟨fun x hx => ent_time (ordS_ents h3 x hx), (pw_ord h3).2⟩
def mrgS (a b : Lg) : Lg × Int := if okLg a = false \/ okLg b = false then (⟨[], []⟩, 90) else if a.s ≠ b.s then (⟨[], []⟩, 95) else if 200 < a.es.length + b.es.length then (⟨[], []⟩, 4) else (⟨a.s, mergeK Etr.t a.es b.es⟩, 0)
theorem mrg_no {e : Int} : Fz (lk []) (.tup [.agg [vS [], .d (.lit (.slice none 0 0))], vi e]) (.tup [logV ⟨[], []⟩, vi e]) := ⟨⟨⟨_, rfl, .inl rfl⟩, ⟨_, rfl, .inr ⟨rfl, _, rfl⟩⟩, trivial⟩, .inl rfl, trivial⟩
theorem args_at {M : List Etr} {i : Nat} {x : Etr} (h : M[i]? = some x) : List.take 1 (List.drop (i * 4 + 2) (cellsI M)) = [.d (intsD x.a)] := by
 have := congrArg (fun z => (z.drop 2).take 1) (cells_at h)
 simp only [List.drop_take, List.drop_drop, List.take_take] at this
 simpa using this
theorem splice_keep {C : List V} {k : Nat} {v : V} (h : (C.drop k).take 1 = [v]) : splice C k [v] = C := by
 have h2 : C.drop k = v :: C.drop (k + 1) := by
   have e := List.take_append_drop 1 (C.drop k)
   rw [h, List.drop_drop] at e
   exact e.symm
 show C.take k ++ [v] ++ C.drop (k + 1) = C
 rw [List.append_assoc]
 show C.take k ++ (v :: C.drop (k + 1)) = C
 rw [<- h2, List.take_append_drop]
theorem mrg_raw_ok (a b : Lg) (ha : okLg a = true) (hb : okLg b = true) (sa : SizedL a) (sb : SizedL b) (hs : a.s = b.s) (hn : ¬ 200 < a.es.length + b.es.length) : Ct prog 32 [logV a, logV b] (.tup [.agg [vS a.s, .ls 0 0 (mergeK Etr.t a.es b.es).length 4], vi 0]) [(0, cellsI (mergeK Etr.t a.es b.es))] := by
 have ca := fn28 a sa
 have cb := fn28 b sb
 rw [ha, if_pos rfl] at ca
 rw [hb, if_pos rfl] at cb
 obtain ⟨ta, pa⟩ := ok_tm ha
 obtain ⟨tb, pb⟩ := ok_tm hb
 have cu := fn80 a.es b.es (by omega) (by omega) ta tb pa pb
 have hl : (mergeK Etr.t a.es b.es).length = a.es.length + b.es.length := by rw [(mergeK_perm _ _ _).length_eq, List.length_append]
 have w1 : IntKind.wrap .i64 ((a.es.length : Int) + b.es.length) = ((a.es.length + b.es.length : Nat) : Int) := by rw [wrap64 (by omega) (by omega)]; omega
 have n1 : ¬ (200 : Int) < (a.es.length : Int) + b.es.length := by omega
 have hA : ∀ x ∈ mergeK Etr.t a.es b.es, x.a.length <= 1000000 := fun x hx => by
   have hm := (mergeK_perm Etr.t a.es b.es).mem_iff.1 hx
   have he : entS x = true := by
     rcases List.mem_append.1 hm with h | h
     . exact ordS_ents (ok_all ha).2.2 x h
     . exact ordS_ents (ok_all hb).2.2 x h
   simp only [entS, Bool.and_eq_true, decide_eq_true_eq] at he
   omega
 generalize mergeK Etr.t a.es b.es = M at cu hl hA ⊢
 refine CB func32 c32 fun E hE => ?_
 simp [p32]
 refine CLa ca ?_
 simp
 refine CLa cb ?_
 simp [hs, w1, n1]
 refine CLb (cu) (by first | (simp; done) | simp [Bor_ls, Bor1_ls, inC, Nat.testBit]) ?_
 simp [splice]
 refine pw_loop (α := Nat) (fun i => ⟨slots [(4, .lp 1 0), (6, .lp 2 0), (42, vi M.length), (43, vi i)], lk [(0, cellsI M), (1, [vS [], .d (.lit (.slice none 0 0))]), (2, [vS b.s, .ls 0 0 M.length 4])], 3⟩) (fun i => i <= M.length) (fun i => M.length - i) 0 ?_ ?_ ?_
 . omega
 . exact WK hE (lk [(0, 32505856), (1, 2097152), (2, 34603008)])
 . intro i hi
   have hz := @wz i (by omega)
   by_cases h : i < M.length
   . obtain ⟨x, hx⟩ := gE h
     have hI : (i : Int) < M.length := by omega
     have hld := args_at hx
     have hsk := splice_keep hld
     have h5 : i * 4 + 2 + 1 <= M.length * 4 := by omega
     have h6 : i * 4 + 2 < M.length * 4 := by omega
     have cc := fn82 x.a (hA x (List.mem_of_getElem? hx))
     simp [p32l0, hI, inC, Nat.testBit, hld, h5]
     refine CLb (cc) (by first | (simp; done) | simp [Bor_ls, Bor1_ls, inC, Nat.testBit]) ?_
     simp [hI, hz, hsk, h5]
     refine ⟨i + 1, by omega, by omega, ?_⟩
     exact WK hE (lk [(0, 0), (1, 1), (2, 2)])
   . have hI : ¬ (i : Int) < M.length := by omega
     simp [p32l0, hI, splice]
     refine RetOk.by (lk [(0, 0)]) ?_
     simp [results32]
theorem fn32 (a b : Lg) (sa : SizedL a) (sb : SizedL b) : Ct prog 32 [logV a, logV b] (.tup [logV (mrgS a b).1, vi (mrgS a b).2]) [] := by
 have ca := fn28 a sa
 have cb := fn28 b sb
 by_cases h1 : okLg a = true
 case neg =>
   rw [if_neg h1] at ca
   have e : mrgS a b = (⟨[], []⟩, 90) := by unfold mrgS; rw [if_pos (.inl (by simpa using h1))]
   rw [e]
   refine Cm.freeze (?_ : Ct prog 32 [logV a, logV b] (.tup [.agg [vS [], .d (.lit (.slice none 0 0))], vi 90]) []) mrg_no
   refine CB func32 c32 fun E hE => ?_
   simp [p32]
   refine CLa ca ?_
   simp [splice]
   apply RZ
   simp [results32]
 have h1' := h1
 rw [h1, if_pos rfl] at ca
 by_cases h2 : okLg b = true
 case neg =>
   rw [if_neg h2] at cb
   have e : mrgS a b = (⟨[], []⟩, 90) := by unfold mrgS; rw [if_pos (.inr (by simpa using h2))]
   rw [e]
   refine Cm.freeze (?_ : Ct prog 32 [logV a, logV b] (.tup [.agg [vS [], .d (.lit (.slice none 0 0))], vi 90]) []) mrg_no
   refine CB func32 c32 fun E hE => ?_
   simp [p32]
   refine CLa ca ?_
   simp
   refine CLa cb ?_
   simp [splice]
   apply RZ
   simp [results32]
 have cb' := cb
 rw [h2, if_pos rfl] at cb
 have hno : ¬ (okLg a = false \/ okLg b = false) := by simp [h1, h2]
 by_cases h3 : a.s = b.s
 case neg =>
   have e : mrgS a b = (⟨[], []⟩, 95) := by unfold mrgS; rw [if_neg hno, if_pos h3]
   rw [e]
   refine Cm.freeze (?_ : Ct prog 32 [logV a, logV b] (.tup [.agg [vS [], .d (.lit (.slice none 0 0))], vi 95]) []) mrg_no
   refine CB func32 c32 fun E hE => ?_
   simp [p32]
   refine CLa ca ?_
   simp
   refine CLa cb ?_
   simp [splice, h3]
   apply RZ
   simp [results32]
 have la := (ok_all h1).2.1
 have lb := (ok_all h2).2.1
 have w1 : IntKind.wrap .i64 ((a.es.length : Int) + b.es.length) = (a.es.length : Int) + b.es.length := wrap64 (by omega) (by omega)
 by_cases h4 : 200 < a.es.length + b.es.length
 . have e : mrgS a b = (⟨[], []⟩, 4) := by unfold mrgS; rw [if_neg hno, if_neg (by simp [h3]), if_pos h4]
   have n1 : (200 : Int) < (a.es.length : Int) + b.es.length := by omega
   rw [e]
   refine Cm.freeze (?_ : Ct prog 32 [logV a, logV b] (.tup [.agg [vS [], .d (.lit (.slice none 0 0))], vi 4]) []) mrg_no
   refine CB func32 c32 fun E hE => ?_
   simp [p32]
   refine CLa ca ?_
   simp
   refine CLa cb ?_
   simp [splice, h3, w1, n1]
   apply RZ
   simp [results32]
 . have e : mrgS a b = (⟨a.s, mergeK Etr.t a.es b.es⟩, 0) := by unfold mrgS; rw [if_neg hno, if_neg (by simp [h3]), if_neg h4]
   rw [e]
   refine Cm.freeze (mrg_raw_ok a b h1 h2 sa sb h3 h4) ?_
   refine ⟨⟨⟨_, rfl, .inl rfl⟩, ⟨_, rfl, ?_⟩, trivial⟩, .inl rfl, trivial⟩
   exact bor_fcel (f := entL) (fun _ => rfl) (l := mergeK Etr.t a.es b.es) (by simp [lk, spD_fcel])
end Go.Proofs.Tryz
namespace Go.Log
open Go.Stb
theorem lcons {α : Type} {S : List α} {i : Nat} {a : α} (h : S[i]? = some a) : S.drop i = a :: S.drop (i + 1) := by
 obtain ⟨hi, ha⟩ := List.getElem?_eq_some_iff.1 h
 rw [<- ha]
 exact List.drop_eq_getElem_cons hi
theorem lnone {α : Type} {S : List α} {i : Nat} (h : S.length <= i) : S.drop i = [] := List.drop_of_length_le h
theorem lhead {α : Type} {S r : List α} {i : Nat} {a : α} (h : S.drop i = a :: r) : S[i]? = some a /\ S.drop (i + 1) = r := by
 constructor
 . have := congrArg List.head? h
   rw [List.head?_drop] at this
   simpa using this
 . have := congrArg List.tail h
   rw [List.tail_drop] at this
   simpa using this
theorem ordS_merge : ∀ (l m : List Etr) (last : Int), ordS last l = true -> ordS last m = true -> ordS last (mergeK Etr.t l m) = true
 | [], m, last, _, h => by simpa [mergeK] using h
 | x :: l, [], last, h, _ => by rw [mergeK_nil]; exact h
 | x :: l, y :: m, last, h1, h2 => by
   have h1' := h1
   have h2' := h2
   simp only [ordS, Bool.and_eq_true, decide_eq_true_eq] at h1' h2'
   rw [mergeK]
   split
   . rename_i hle
     have ih := ordS_merge l (y :: m) x.t h1'.2 (by simp only [ordS, Bool.and_eq_true, decide_eq_true_eq]; exact ⟨⟨h2'.1.1, hle⟩, h2'.2⟩)
     simp only [ordS, Bool.and_eq_true, decide_eq_true_eq]
     exact ⟨h1'.1, ih⟩
   . rename_i hle
     have ih := ordS_merge (x :: l) m y.t (by simp only [ordS, Bool.and_eq_true, decide_eq_true_eq]; exact ⟨⟨h1'.1.1, by omega⟩, h1'.2⟩) h2'.2
     simp only [ordS, Bool.and_eq_true, decide_eq_true_eq]
     exact ⟨h2'.1, ih⟩
theorem ok_merge {a b : Lg} (ha : okLg a = true) (hb : okLg b = true) (hn : a.es.length + b.es.length <= 200) : okLg ⟨a.s, mergeK Etr.t a.es b.es⟩ = true := by
 obtain ⟨a1, _, a3⟩ := ok_all ha
 obtain ⟨_, _, b3⟩ := ok_all hb
 have hl : (mergeK Etr.t a.es b.es).length = a.es.length + b.es.length := by rw [(mergeK_perm _ _ _).length_eq, List.length_append]
 simp only [okLg, Bool.and_eq_true, decide_eq_true_eq]
 exact ⟨⟨a1, by rw [hl]; exact hn⟩, ordS_merge _ _ _ a3 b3⟩
def MgAt (a b M : List Etr) (i k : Nat) : Prop := M.drop (i + k) = mergeK Etr.t (a.drop i) (b.drop k)
theorem mg_first {a b M : List Etr} {i k : Nat} {x : Etr} (h : MgAt a b M i k) (ha : a[i]? = some x) (hb : b.length <= k \/ ∃ y, b[k]? = some y /\ x.t <= y.t) : M[i + k]? = some x /\ MgAt a b M (i + 1) k := by
 unfold MgAt at h ⊢
 rw [lcons ha] at h
 rw [show i + 1 + k = i + k + 1 by omega]
 rcases hb with hb | ⟨y, hb, hle⟩
 . rw [lnone hb, mergeK_nil] at h
   rw [lnone hb, mergeK_nil]
   exact lhead h
 . rw [lcons hb, mergeK, if_pos hle] at h
   rw [lcons hb]
   exact lhead h
theorem mg_second {a b M : List Etr} {i k : Nat} {y : Etr} (h : MgAt a b M i k) (hb : b[k]? = some y) (ha : a.length <= i \/ ∃ x, a[i]? = some x /\ ¬ x.t <= y.t) : M[i + k]? = some y /\ MgAt a b M i (k + 1) := by
 unfold MgAt at h ⊢
 rw [lcons hb] at h
 rw [show i + (k + 1) = i + k + 1 by omega]
 rcases ha with ha | ⟨x, ha, hle⟩
 . rw [lnone ha, mergeK] at h
   rw [lnone ha, mergeK]
   exact lhead h
 . rw [lcons ha, mergeK, if_neg hle] at h
   rw [lcons ha]
   exact lhead h
end Go.Log
namespace Go.Proofs.Tryz
open Go.Psl
open Go.Stb
open Go.Log
theorem mrg_cases (a b : Lg) : (∃ e : Int, (e = 90 \/ e = 95 \/ e = 4) /\ mrgS a b = (⟨[], []⟩, e)) \/ (okLg a = true /\ okLg b = true /\ a.s = b.s /\ a.es.length + b.es.length <= 200 /\ mrgS a b = (⟨a.s, mergeK Etr.t a.es b.es⟩, 0)) := by
 unfold mrgS
 split
 . exact .inl ⟨90, .inl rfl, rfl⟩
 . rename_i h1
   simp only [not_or, Bool.not_eq_false] at h1
   split
   . exact .inl ⟨95, .inr (.inl rfl), rfl⟩
   . rename_i h2
     split
     . exact .inl ⟨4, .inr (.inr rfl), rfl⟩
     . rename_i h3
       exact .inr ⟨h1.1, h1.2, Decidable.not_not.1 h2, by omega, rfl⟩
theorem ok_bare {a : Lg} (h : okLg a = true) : okLg ⟨a.s, []⟩ = true := by
 obtain ⟨h1, _, _⟩ := ok_all h
 simp only [okLg, ordS, Bool.and_eq_true, decide_eq_true_eq]
 exact ⟨⟨h1, by simp⟩, trivial⟩
theorem mrg_right {a : Lg} (h : okLg a = true) : mrgS a ⟨a.s, []⟩ = (a, 0) := by
 have hn := (ok_all h).2.1
 unfold mrgS
 rw [if_neg (by simp [h, ok_bare h]), if_neg (by simp), if_neg (by simp; omega), mergeK_nil]
theorem mrg_left {a : Lg} (h : okLg a = true) : mrgS ⟨a.s, []⟩ a = (a, 0) := by
 have hn := (ok_all h).2.1
 unfold mrgS
 rw [if_neg (by simp [h, ok_bare h]), if_neg (by simp), if_neg (by simp; omega)]
 simp [mergeK]
theorem fn10 (a b : Lg) : Ct prog 10 [logV a, logV b] (vb true) [] := by
 have ga := fn26 a
 have gb := fn26 b
 by_cases h1 : grL a = true
 . rw [h1] at ga
   refine CB func10 c10 fun E hE => ?_
   simp [p10]
   refine CLa fn25 ?_
   simp
   refine CLa ga ?_
   simp
   apply RZ
   simp [results10]
 simp only [Bool.not_eq_true] at h1
 rw [h1] at ga
 by_cases h2 : grL b = true
 . rw [h2] at gb
   refine CB func10 c10 fun E hE => ?_
   simp [p10]
   refine CLa fn25 ?_
   simp
   refine CLa ga ?_
   simp
   refine CLa gb ?_
   simp
   apply RZ
   simp [results10]
 simp only [Bool.not_eq_true] at h2
 rw [h2] at gb
 have sa := grL_sized h1
 have sb := grL_sized h2
 have m := fn32 a b sa sb
 rcases mrg_cases a b with ⟨e, he, hm⟩ | ⟨oa, ob, hs, hn, hm⟩
 . rw [hm] at m
   have sm := fn15 ⟨[], []⟩ ⟨by simp, by simp, fun x hx => by cases hx⟩
   rcases he with rfl | rfl | rfl
   all_goals
     refine CB func10 c10 fun E hE => ?_
     simp [p10]
     refine CLa fn25 ?_
     simp
     refine CLa ga ?_
     simp
     refine CLa gb ?_
     simp
     refine CLa m ?_
     simp [splice]
     refine CLa sm ?_
     simp
     apply RZ
     simp [results10]
 . rw [hm] at m
   have ck := fn28 ⟨a.s, mergeK Etr.t a.es b.es⟩
   have okM := ok_merge oa ob hn
   have hl : (mergeK Etr.t a.es b.es).length = a.es.length + b.es.length := by rw [(mergeK_perm _ _ _).length_eq, List.length_append]
   have hM : ∀ x ∈ mergeK Etr.t a.es b.es, x ∈ a.es \/ x ∈ b.es := fun x hx => List.mem_append.1 ((mergeK_perm Etr.t a.es b.es).mem_iff.1 hx)
   have sM : SizedL ⟨a.s, mergeK Etr.t a.es b.es⟩ := ⟨sa.s, by show (mergeK Etr.t a.es b.es).length <= _; omega, fun x hx => (hM x hx).elim (sa.e x) (sb.e x)⟩
   have ck2 := ck sM
   rw [okM, if_pos rfl] at ck2
   have m1 := fn32 a ⟨a.s, []⟩ sa ⟨sa.s, by simp, fun x hx => by cases hx⟩
   rw [mrg_right oa] at m1
   have m2 := fn32 ⟨a.s, []⟩ a ⟨sa.s, by simp, fun x hx => by cases hx⟩ sa
   rw [mrg_left oa] at m2
   have sl := fn15 a sa
   have hmg : MgAt a.es b.es (mergeK Etr.t a.es b.es) 0 0 := by simp [MgAt]
   have w1 : IntKind.wrap .i64 ((a.es.length : Int) + b.es.length) = (a.es.length : Int) + b.es.length := wrap64 (by omega) (by omega)
   have hlI : ((mergeK Etr.t a.es b.es).length : Int) = (a.es.length : Int) + b.es.length := by omega
   generalize mergeK Etr.t a.es b.es = M at m ck2 hl hM sM hmg hlI
   clear ck
   refine CB func10 c10 fun E hE => ?_
   simp [p10]
   refine CLa fn25 ?_
   simp
   refine CLa ga ?_
   simp
   refine CLa gb ?_
   simp
   refine CLa m ?_
   simp [splice]
   refine CLa ck2 ?_
   simp [w1, hlI]
   refine pw_loop (α := Nat × Nat × Nat) (fun s => ⟨slots [(2, .lp 0 0), (3, .lp 1 0), (5, vb true), (8, vi s.1), (9, vi s.2.1), (77, .d (entsD M)), (78, vi M.length), (79, vi s.2.2)], lk [(0, [vS a.s, .d (entsD a.es)]), (1, [vS b.s, .d (entsD b.es)])], 2⟩) (fun s => s.2.2 = s.1 + s.2.1 /\ MgAt a.es b.es M s.1 s.2.1 /\ s.2.2 <= M.length) (fun s => M.length - s.2.2) (0, 0, 0) ?_ ?_ ?_
   . exact ⟨rfl, hmg, Nat.zero_le _⟩
   . refine Weak.mk hE (lk [(0, 0), (1, 1048576)]) _ _ _ ?_ ?_ ?_ ?_ ?_ <;> simp
     exact hlI.symm
   . rintro ⟨i, k, n⟩ ⟨hnik, hat, hnl⟩
     simp only at hnik hat hnl
     have hz := @wz n (by omega)
     have hzi := @wz i (by omega)
     have hzk := @wz k (by omega)
     by_cases h : n < M.length
     . have hI : (n : Int) < M.length := by omega
       by_cases ia : i < a.es.length
       . obtain ⟨A, hA⟩ := gE ia
         have hAi : (i : Int) < a.es.length := by omega
         have cA := fn36 A (by have := (sa.e A (List.mem_of_getElem? hA)).2.1; omega)
         by_cases kb : k < b.es.length
         . obtain ⟨B, hB⟩ := gE kb
           have hBi : (k : Int) < b.es.length := by omega
           have hBj : ¬ (b.es.length : Int) <= k := by omega
           have cB := fn36 B (by have := (sb.e B (List.mem_of_getElem? hB)).2.1; omega)
           by_cases hle : A.t <= B.t
           . have hst := mg_first hat hA (.inr ⟨B, hB, hle⟩)
             have hx := hst.1
             rw [<- hnik] at hx
             simp [p10l0, hI, hx, hA, hB, hAi, hBj, hle, inC, Nat.testBit, splice]
             refine CLb (cA) (by first | (simp; done) | simp [Bor_ls, Bor1_ls, inC, Nat.testBit]) ?_
             simp [hz, hzi]
             refine ⟨i + 1, k, n + 1, ⟨by omega, hst.2, by omega⟩, by omega, ?_⟩
             exact WK hE (lk [(0, 0), (1, 1)])
           . have hst := mg_second hat hB (.inr ⟨A, hA, hle⟩)
             have hx := hst.1
             rw [<- hnik] at hx
             simp [p10l0, hI, hx, hA, hB, hAi, hBi, hBj, hle, inC, Nat.testBit, splice]
             refine CLb (cB) (by first | (simp; done) | simp [Bor_ls, Bor1_ls, inC, Nat.testBit]) ?_
             simp [hz, hzk]
             refine ⟨i, k + 1, n + 1, ⟨by omega, hst.2, by omega⟩, by omega, ?_⟩
             exact WK hE (lk [(0, 0), (1, 1)])
         . have hBi : ¬ (k : Int) < b.es.length := by omega
           have hBj : (b.es.length : Int) <= k := by omega
           have hst := mg_first hat hA (.inl (by omega))
           have hx := hst.1
           rw [<- hnik] at hx
           simp [p10l0, hI, hx, hA, hAi, hBj, inC, Nat.testBit, splice]
           refine CLb (cA) (by first | (simp; done) | simp [Bor_ls, Bor1_ls, inC, Nat.testBit]) ?_
           simp [hz, hzi]
           refine ⟨i + 1, k, n + 1, ⟨by omega, hst.2, by omega⟩, by omega, ?_⟩
           exact WK hE (lk [(0, 0), (1, 1)])
       . have hAi : ¬ (i : Int) < a.es.length := by omega
         by_cases kb : k < b.es.length
         . obtain ⟨B, hB⟩ := gE kb
           have hBi : (k : Int) < b.es.length := by omega
           have cB := fn36 B (by have := (sb.e B (List.mem_of_getElem? hB)).2.1; omega)
           have hst := mg_second hat hB (.inl (by omega))
           have hx := hst.1
           rw [<- hnik] at hx
           simp [p10l0, hI, hx, hB, hAi, hBi, inC, Nat.testBit, splice]
           refine CLb (cB) (by first | (simp; done) | simp [Bor_ls, Bor1_ls, inC, Nat.testBit]) ?_
           simp [hz, hzk]
           refine ⟨i, k + 1, n + 1, ⟨by omega, hst.2, by omega⟩, by omega, ?_⟩
           exact WK hE (lk [(0, 0), (1, 1)])
         . exfalso
           unfold MgAt at hat
           rw [<- hnik, lnone (show a.es.length <= i by omega), lnone (show b.es.length <= k by omega)] at hat
           have := congrArg List.length hat
           simp [mergeK] at this
           omega
     . have hI : ¬ (n : Int) < M.length := by omega
       simp [p10l0, hI, splice]
       refine CLa m1 ?_
       simp [splice]
       refine CLa m2 ?_
       simp [splice]
       refine CLa sl ?_
       simp
       refine CLa sl ?_
       simp
       apply RZ
       simp [results10]
end Go.Proofs.Tryz
