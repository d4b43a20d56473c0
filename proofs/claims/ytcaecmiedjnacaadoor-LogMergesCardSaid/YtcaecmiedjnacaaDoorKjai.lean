/- Own lemmas, used by the last text. Conditions: those that each theorem states. -/
import Derived.Lib.AtoiAll
import Derived.Lib.ItoaNum
import Derived.Lib.Join
import Derived.Lib.SplitLaws
import Derived.Test.YtcaecmiedjnacaaDoorKjae
import Derived.Test.YtcaecmiedjnacaaDoorKjaf
import Derived.Test.YtcaecmiedjnacaaDoorKjag
import Derived.Test.YtcaecmiedjnacaaDoorKjah
set_option maxRecDepth 200000
set_option maxHeartbeats 8000000
namespace Go.Stb
variable {α : Type}
def SOn (lt : α -> α -> Prop) (D : List α) (lo hi : Nat) : Prop := ∀ p q x y, lo <= p -> p < q -> q < hi -> D[p]? = some x -> D[q]? = some y -> lt x y
theorem SOn.of_pw {lt : α -> α -> Prop} {P R S : List α} (h : R.Pairwise lt) {a b : Nat} (ha : a = P.length) (hb : b = P.length + R.length) : SOn lt (P ++ R ++ S) a b := by
 intro p q x y h1 h2 h3 hx hy
 rw [List.append_assoc, List.getElem?_append_right (by omega), List.getElem?_append_left (by omega)] at hx hy
 have g1 := List.getElem?_eq_some_iff.1 hx
 have g2 := List.getElem?_eq_some_iff.1 hy
 have := List.pairwise_iff_getElem.1 h (p - P.length) (q - P.length) g1.1 g2.1 (by omega)
 rw [g1.2, g2.2] at this
 exact this
theorem SOn.to_pw {lt : α -> α -> Prop} {P R S : List α} {a b : Nat} (h : SOn lt (P ++ R ++ S) a b) (ha : a = P.length) (hb : b = P.length + R.length) : R.Pairwise lt := by
 refine List.pairwise_iff_getElem.2 fun i j hi hj hij => ?_
 refine h (P.length + i) (P.length + j) _ _ (by omega) (by omega) (by omega) ?_ ?_
 . rw [List.append_assoc, List.getElem?_append_right (by omega), List.getElem?_append_left (by omega), Nat.add_sub_cancel_left, List.getElem?_eq_getElem hi]
 . rw [List.append_assoc, List.getElem?_append_right (by omega), List.getElem?_append_left (by omega), Nat.add_sub_cancel_left, List.getElem?_eq_getElem hj]
theorem SOn.keep {lt : α -> α -> Prop} {D D' : List α} {lo hi : Nat} (h : SOn lt D lo hi) (he : ∀ p, lo <= p -> p < hi -> D'[p]? = D[p]?) : SOn lt D' lo hi := by
 intro p q x y h1 h2 h3 hx hy
 rw [he p h1 (by omega)] at hx
 rw [he q (by omega) h3] at hy
 exact h p q x y h1 h2 h3 hx hy
theorem SOn.wide {lt : α -> α -> Prop} {D : List α} {lo hi hi' : Nat} (h : SOn lt D lo hi) (hl : D.length <= hi) : SOn lt D lo hi' := by
 intro p q x y h1 h2 h3 hx hy
 exact h p q x y h1 h2 (Nat.lt_of_lt_of_le (List.getElem?_eq_some_iff.1 hy).1 hl) hx hy
theorem SOn.none {lt : α -> α -> Prop} {D : List α} {lo hi : Nat} (h : D.length <= lo) : SOn lt D lo hi := by
 intro p q x y h1 h2 h3 hx hy
 have := (List.getElem?_eq_some_iff.1 hx).1
 omega
theorem out_eq {P R R' S : List α} (h : R'.length = R.length) {p : Nat} (hp : p < P.length \/ P.length + R.length <= p) : (P ++ R' ++ S)[p]? = (P ++ R ++ S)[p]? := by
 rcases hp with hp | hp
 . rw [List.append_assoc, List.append_assoc, List.getElem?_append_left hp, List.getElem?_append_left hp]
 . rw [List.getElem?_append_right (by rw [List.length_append]; omega), List.getElem?_append_right (by rw [List.length_append]; omega), List.length_append, List.length_append, h]
theorem cut3 (D : List α) {a b : Nat} (hab : a <= b) (hb : b <= D.length) : ∃ P R S, D = P ++ R ++ S /\ a = P.length /\ b = P.length + R.length := by
 refine ⟨D.take a, (D.take b).drop a, D.drop b, ?_, by rw [List.length_take]; omega, by rw [List.length_take, List.length_drop, List.length_take]; omega⟩
 have h1 : D.take a ++ (D.take b).drop a = D.take b := by
   have := List.take_append_drop a (D.take b)
   rw [List.take_take, Nat.min_eq_left hab] at this
   exact this
 rw [h1, List.take_append_drop]
def Runs (lt : α -> α -> Prop) (bs : Nat) (D : List α) : Prop := ∀ k, SOn lt D (bs * k) (bs * k + bs)
def I0 (lt : α -> α -> Prop) (D : List α) (a : Nat) : Prop := ∃ k, a = 20 * k /\ ∀ j, j < k -> SOn lt D (20 * j) (20 * j + 20)
theorem i0_init (lt : α -> α -> Prop) (D : List α) : I0 lt D 0 := ⟨0, rfl, fun j h => by omega⟩
theorem i0_step {lt : α -> α -> Prop} {D D' : List α} {a : Nat} (h : I0 lt D a) (he : ∀ p, p < a \/ a + 20 <= p -> D'[p]? = D[p]?) (hs : SOn lt D' a (a + 20)) : I0 lt D' (a + 20) := by
 obtain ⟨k, e, hk⟩ := h
 refine ⟨k + 1, by omega, fun j hj => ?_⟩
 by_cases h : j < k
 . exact (hk j h).keep fun p h1 h2 => he p (by omega)
 . have : j = k := by omega
   subst this; subst e; exact hs
theorem i0_end {lt : α -> α -> Prop} {D D' : List α} {a N : Nat} (h : I0 lt D a) (hN : D'.length = N) (h1 : N < a + 20) (he : ∀ p, p < a \/ N <= p -> D'[p]? = D[p]?) (hs : SOn lt D' a N) : Runs lt 20 D' := by
 obtain ⟨k, e, hk⟩ := h
 intro j
 by_cases h : j < k
 . exact (hk j h).keep fun p h1 h2 => he p (by omega)
 . by_cases h2 : j = k
   . subst h2; subst e; exact hs.wide (by omega)
   . exact SOn.none (by omega)
def I1 (lt : α -> α -> Prop) (bs : Nat) (D : List α) (a : Nat) : Prop := ∃ k, a = 2 * bs * k /\ (∀ j, j < k -> SOn lt D (2 * bs * j) (2 * bs * j + 2 * bs)) /\ ∀ j, 2 * k <= j -> SOn lt D (bs * j) (bs * j + bs)
theorem i1_init {lt : α -> α -> Prop} {bs : Nat} {D : List α} (h : Runs lt bs D) : I1 lt bs D 0 := ⟨0, by simp, fun j h => by omega, fun j _ => h j⟩
theorem m1 (bs k : Nat) : bs * (2 * k) = 2 * bs * k := by rw [<- Nat.mul_assoc, Nat.mul_comm bs 2]
theorem m2 (bs k : Nat) : bs * (2 * k + 1) = 2 * bs * k + bs := by rw [Nat.mul_succ, m1]
theorem m3 {n j k : Nat} (h : j < k) : n * j + n <= n * k := by rw [<- Nat.mul_succ]; exact Nat.mul_le_mul_left n h
theorem I1.one {lt : α -> α -> Prop} {bs : Nat} {D : List α} {a : Nat} (h : I1 lt bs D a) : SOn lt D a (a + bs) := by
 obtain ⟨k, e, _, h2⟩ := h
 have := h2 (2 * k) (Nat.le_refl _)
 rw [m1, <- e] at this; exact this
theorem I1.two {lt : α -> α -> Prop} {bs : Nat} {D : List α} {a : Nat} (h : I1 lt bs D a) : SOn lt D (a + bs) (a + bs + bs) := by
 obtain ⟨k, e, _, h2⟩ := h
 have := h2 (2 * k + 1) (by omega)
 rw [m2, <- e] at this; exact this
theorem i1_step {lt : α -> α -> Prop} {bs : Nat} {D D' : List α} {a : Nat} (h : I1 lt bs D a) (he : ∀ p, p < a \/ a + 2 * bs <= p -> D'[p]? = D[p]?) (hs : SOn lt D' a (a + 2 * bs)) : I1 lt bs D' (a + 2 * bs) := by
 obtain ⟨k, e, h1, h2⟩ := h
 refine ⟨k + 1, by rw [Nat.mul_succ, e], fun j hj => ?_, fun j hj => ?_⟩
 . by_cases h : j < k
   . have := m3 (n := 2 * bs) h
     exact (h1 j h).keep fun p h1 h2 => he p (by omega)
   . have : j = k := by omega
     subst this; subst e; exact hs
 . have g : 2 * bs * (k + 1) <= bs * j := by rw [<- m1]; exact Nat.mul_le_mul_left bs hj
   rw [Nat.mul_succ] at g
   exact (h2 j (by omega)).keep fun p h1 h2 => he p (by omega)
theorem i1_end {lt : α -> α -> Prop} {bs : Nat} {D D' : List α} {a N : Nat} (h : I1 lt bs D a) (hN : D'.length = N) (h1 : N < a + 2 * bs) (he : ∀ p, p < a \/ N <= p -> D'[p]? = D[p]?) (hs : SOn lt D' a N) : Runs lt (2 * bs) D' := by
 obtain ⟨k, e, h3, _⟩ := h
 intro j
 by_cases h : j < k
 . have := m3 (n := 2 * bs) h
   exact (h3 j h).keep fun p h1 h2 => he p (by omega)
 . by_cases h2 : j = k
   . subst h2; subst e; exact hs.wide (by omega)
   . have := m3 (n := 2 * bs) (show k < j by omega)
     exact SOn.none (by omega)
theorem runs_end {lt : α -> α -> Prop} {bs : Nat} {D : List α} (h : Runs lt bs D) (hl : D.length <= bs) : D.Pairwise lt := by
 have := h 0
 rw [Nat.mul_zero, Nat.zero_add] at this
 have g : SOn lt ([] ++ D ++ []) 0 D.length := by
   simp only [List.nil_append, List.append_nil]
   intro p q x y h1 h2 h3 hx hy
   exact this p q x y h1 h2 (by omega) hx hy
 exact g.to_pw rfl (by simp)
end Go.Stb
namespace Go.Stb
variable {α : Type}
def st0 (c : α -> α -> Bool) (N : Nat) : Nat -> Nat -> List α -> List α
 | 0, a, D => insF c D a N
 | n + 1, a, D => if a + 20 <= N then st0 c N n (a + 20) (insF c D a (a + 20)) else insF c D a N
def lst1 (c : α -> α -> Bool) (N bs a : Nat) (D : List α) : List α := if a + bs < N then symL c N D a (a + bs) N else D
def st1 (c : α -> α -> Bool) (N bs : Nat) : Nat -> Nat -> List α -> List α
 | 0, a, D => lst1 c N bs a D
 | n + 1, a, D => if a + 2 * bs <= N then st1 c N bs n (a + 2 * bs) (symL c N D a (a + bs) (a + 2 * bs)) else lst1 c N bs a D
def st2 (c : α -> α -> Bool) (N : Nat) : Nat -> Nat -> List α -> List α
 | 0, _, D => D
 | n + 1, bs, D => if bs < N then st2 c N n (bs * 2) (st1 c N bs N 0 D) else D
def stb (c : α -> α -> Bool) (D : List α) : List α := st2 c D.length D.length 20 (st0 c D.length D.length 0 D)
variable {c : α -> α -> Bool} {dom : α -> Prop} {lt : α -> α -> Prop} {N : Nat}
theorem insF_len (c : α -> α -> Bool) (D : List α) (a b : Nat) : (insF c D a b).length = D.length := insN_len c a D _
theorem insF_all {p : α -> Prop} (c : α -> α -> Bool) {D : List α} (h : ∀ x ∈ D, p x) (a b : Nat) : ∀ x ∈ insF c D a b, p x := insN_all c a h _
end Go.Stb
namespace Go.Proofs.Tryd
open Go.Psl
open Go.Stb
open Go.Log
abbrev stF0 (N : Nat) (f : FuncId) (ds : List D) (y : Nat × Nat × List Etr) : St := ⟨slots [(0, .ls 0 0 N 4), (1, vi N), (2, .d (.fn f ds)), (6, vi 20), (7, vi y.2.1), (8, vi ((y.2.1 : Int) + 20))], lk [(0, cellsI y.2.2)], 1⟩
abbrev stI0 (dom : Etr -> Prop) (c : Etr -> Etr -> Bool) (N : Nat) (T : List Etr) (y : Nat × Nat × List Etr) : Prop := N <= y.2.1 + y.1 /\ y.2.1 <= N /\ y.2.2.length = N /\ (∀ x ∈ y.2.2, dom x) /\ st0 c N y.1 y.2.1 y.2.2 = T
theorem stb_round0 {f : FuncId} {ds : List D} {dom : Etr -> Prop} {c : Etr -> Etr -> Bool} (hc : CmpOk f ds dom c) (N : Nat) (hN : 0 < N) (hl : N <= 100000000) (T : List Etr) {E : Ent} (hE : ∀ i, E.stab i ↔ i ∈ [0]) {Q : AExit -> St -> Prop} (x : Nat × Nat × List Etr) (hx : stI0 dom c N T x) :
   PW prog tys eqs E p53l0 (seqQ (fun st' => ∃ y, stI0 dom c N T y /\ y.1 < x.1 /\ Weak prog E st' (stF0 N f ds y)) (exC prog E Q 0 (stF0 N f ds) (fun y => stI0 dom c N T y /\ ¬ y.2.1 + 20 <= N))) (stF0 N f ds x) := by
 obtain ⟨n, a, M⟩ := x
 obtain ⟨g1, g2, g3, g4, g5⟩ := hx
 simp only at g1 g2 g3 g4 g5
 simp [p53l0]
 by_cases h : a + 20 <= N
 . have h' : (a : Int) + 20 <= N := by omega
   obtain ⟨n1, hn1⟩ : ∃ n1, n = n1 + 1 := ⟨n - 1, by omega⟩
   rw [hn1, st0, if_pos h] at g5
   have n0 : spD M ≠ [] := by intro e; have := congrArg List.length e; simp at this; omega
   obtain ⟨b, hb⟩ : ∃ b, a + 20 = b := ⟨_, rfl⟩
   have hb' : (a : Int) + 20 = (b : Int) := by omega
   have z1 : IntKind.wrap .i64 ((b : Int) + 20) = (b : Int) + 20 := wrap64 (by omega) (by omega)
   have q := fn65 hc M a b g4 (by omega) (by omega) (by omega)
   rw [g3] at q
   rw [hb'] at h'
   rw [hb] at g5
   have hle : b <= N := by omega
   simp [hb', hle]
   refine CRs q (by simp [n0]) ?_
   simp [z1]
   refine ⟨n1, b, insF c M a b, ⟨by simp only; omega, by simp only; omega, by simp only; rw [insF_len]; exact g3, insF_all c g4 a b, g5⟩, by omega, ?_⟩
   exact WKM hE (lk [(0, 0)])
 . have h' : ¬ (a : Int) + 20 <= N := by omega
   simp [h']
   refine ⟨n, a, M, ⟨⟨g1, g2, g3, g4, g5⟩, by omega⟩, ?_⟩
   exact WKM hE (lk [(0, 0)])
abbrev stF1 (N : Nat) (f : FuncId) (ds : List D) (bs : Nat) (y : Nat × Nat × List Etr) : St := ⟨slots [(0, .ls 0 0 N 4), (1, vi N), (2, .d (.fn f ds)), (6, vi bs), (7, vi y.2.1), (8, vi ((y.2.1 : Int) + 2 * bs))], lk [(0, cellsI y.2.2)], 1⟩
abbrev stI1 (dom : Etr -> Prop) (c : Etr -> Etr -> Bool) (N bs : Nat) (T : List Etr) (y : Nat × Nat × List Etr) : Prop := N <= y.2.1 + y.1 /\ y.2.1 <= N /\ y.2.2.length = N /\ (∀ x ∈ y.2.2, dom x) /\ st1 c N bs y.1 y.2.1 y.2.2 = T
theorem stb_round1 {f : FuncId} {ds : List D} {dom : Etr -> Prop} {c : Etr -> Etr -> Bool} (hc : CmpOk f ds dom c) (N bs : Nat) (hbs : 0 < bs) (hb2 : bs < N) (hl : N <= 100000000) (T : List Etr) {E : Ent} (hE : ∀ i, E.stab i ↔ i ∈ [0]) {Q : AExit -> St -> Prop} (x : Nat × Nat × List Etr) (hx : stI1 dom c N bs T x) :
   PW prog tys eqs E p53l1 (seqQ (fun st' => ∃ y, stI1 dom c N bs T y /\ y.1 < x.1 /\ Weak prog E st' (stF1 N f ds bs y)) (exC prog E Q 4 (stF1 N f ds bs) (fun y => stI1 dom c N bs T y /\ ¬ y.2.1 + 2 * bs <= N))) (stF1 N f ds bs x) := by
 obtain ⟨n, a, M⟩ := x
 obtain ⟨g1, g2, g3, g4, g5⟩ := hx
 simp only at g1 g2 g3 g4 g5
 simp [p53l1]
 by_cases h : a + 2 * bs <= N
 . obtain ⟨n1, hn1⟩ : ∃ n1, n = n1 + 1 := ⟨n - 1, by omega⟩
   rw [hn1, st1, if_pos h] at g5
   have n0 : spD M ≠ [] := by intro e; have := congrArg List.length e; simp at this; omega
   obtain ⟨b, hb⟩ : ∃ b, a + 2 * bs = b := ⟨_, rfl⟩
   obtain ⟨m, hm⟩ : ∃ m, a + bs = m := ⟨_, rfl⟩
   have hb' : (a : Int) + 2 * bs = (b : Int) := by omega
   have z0 : IntKind.wrap .i64 ((a : Int) + bs) = (m : Int) := by rw [wrap64 (by omega) (by omega)]; omega
   have z1 : IntKind.wrap .i64 (2 * (bs : Int)) = 2 * (bs : Int) := wrap64 (by omega) (by omega)
   have z2 : IntKind.wrap .i64 ((b : Int) + 2 * (bs : Int)) = (b : Int) + 2 * bs := wrap64 (by omega) (by omega)
   have q := fn66 hc N M a m b g4 (by omega) (by omega) (by omega) (by omega) (by omega)
   rw [g3] at q
   rw [hb, hm] at g5
   have hle : b <= N := by omega
   simp [hb', hle, z0]
   refine CRs q (by simp [n0]) ?_
   simp [z1, z2]
   refine ⟨n1, b, symL c N M a m b, ⟨by simp only; omega, by simp only; omega, by simp only; rw [symL_len]; exact g3, symL_all c N M a m b g4, g5⟩, by omega, ?_⟩
   exact WKM hE (lk [(0, 0)])
 . have h' : ¬ (a : Int) + 2 * bs <= N := by omega
   simp [h']
   refine ⟨n, a, M, ⟨⟨g1, g2, g3, g4, g5⟩, by omega⟩, ?_⟩
   exact WKM hE (lk [(0, 0)])
abbrev stF2 (N : Nat) (f : FuncId) (ds : List D) (y : Nat × Nat × List Etr) : St := ⟨slots [(0, .ls 0 0 N 4), (1, vi N), (2, .d (.fn f ds)), (6, vi y.2.1)], lk [(0, cellsI y.2.2)], 1⟩
abbrev stI2 (dom : Etr -> Prop) (c : Etr -> Etr -> Bool) (N : Nat) (T : List Etr) (y : Nat × Nat × List Etr) : Prop := N <= y.2.1 + y.1 /\ 0 < y.2.1 /\ y.2.1 <= 200000000 /\ y.2.2.length = N /\ (∀ x ∈ y.2.2, dom x) /\ st2 c N y.1 y.2.1 y.2.2 = T
theorem st1_all {dom : Etr -> Prop} {c : Etr -> Etr -> Bool} (N bs : Nat) : ∀ (n a : Nat) (M : List Etr), (∀ x ∈ M, dom x) -> M.length = N -> (∀ x ∈ st1 c N bs n a M, dom x) /\ (st1 c N bs n a M).length = N
 | 0, a, M, h, hl => by
   unfold st1 lst1
   split
   . exact ⟨symL_all c N M _ _ _ h, by rw [symL_len]; exact hl⟩
   . exact ⟨h, hl⟩
 | n + 1, a, M, h, hl => by
   unfold st1
   split
   . exact st1_all N bs n _ _ (symL_all c N M _ _ _ h) (by rw [symL_len]; exact hl)
   . unfold lst1
     split
     . exact ⟨symL_all c N M _ _ _ h, by rw [symL_len]; exact hl⟩
     . exact ⟨h, hl⟩
theorem st1_end {c : Etr -> Etr -> Bool} {N bs n a : Nat} {M : List Etr} (h : ¬ a + 2 * bs <= N) : st1 c N bs n a M = lst1 c N bs a M := by
 cases n with
 | zero => rfl
 | succ n => rw [st1, if_neg h]
theorem st0_end {c : Etr -> Etr -> Bool} {N n a : Nat} {M : List Etr} (h : ¬ a + 20 <= N) : st0 c N n a M = insF c M a N := by
 cases n with
 | zero => rfl
 | succ n => rw [st0, if_neg h]
theorem st2_end {c : Etr -> Etr -> Bool} {N n a : Nat} {M : List Etr} (h : ¬ a < N) : st2 c N n a M = M := by
 cases n with
 | zero => rfl
 | succ n => rw [st2, if_neg h]
theorem stb_round2 {f : FuncId} {ds : List D} {dom : Etr -> Prop} {c : Etr -> Etr -> Bool} (hc : CmpOk f ds dom c) (N : Nat) (hN : 0 < N) (hl : N <= 100000000) (T : List Etr) {E : Ent} (hE : ∀ i, E.stab i ↔ i ∈ [0]) {Q : AExit -> St -> Prop} (x : Nat × Nat × List Etr) (hx : stI2 dom c N T x) :
   PW prog tys eqs E p53l2 (seqQ (fun st' => ∃ y, stI2 dom c N T y /\ y.1 < x.1 /\ Weak prog E st' (stF2 N f ds y)) (exC prog E Q 2 (fun _ : Unit => ⟨slots [], lk [(0, cellsI T)], 1⟩) (fun _ => True))) (stF2 N f ds x) := by
 obtain ⟨n, bs, M⟩ := x
 obtain ⟨g1, g2, g3, g4, g5, g6⟩ := hx
 simp only at g1 g2 g3 g4 g5 g6
 simp [p53l2]
 by_cases h : bs < N
 . obtain ⟨n1, hn1⟩ : ∃ n1, n = n1 + 1 := ⟨n - 1, by omega⟩
   rw [hn1, st2, if_pos h] at g6
   obtain ⟨U, hU⟩ : ∃ U, st1 c N bs N 0 M = U := ⟨_, rfl⟩
   have hUa := st1_all (c := c) N bs N 0 M g5 g4
   rw [hU] at hUa g6
   have z1 : IntKind.wrap .i64 (2 * (bs : Int)) = 2 * (bs : Int) := wrap64 (by omega) (by omega)
   have z3 : IntKind.wrap .i64 ((bs : Int) * 2) = ((bs * 2 : Nat) : Int) := by rw [wrap64 (by omega) (by omega)]; omega
   simp [h, z1]
   refine pw_loopC (α := Nat × Nat × List Etr) 4 (stF1 N f ds bs) (fun y => stI1 dom c N bs U y /\ ¬ y.2.1 + 2 * bs <= N) (stF1 N f ds bs) (stI1 dom c N bs U) (fun y => y.1) (N, 0, M) ⟨by simp only; omega, Nat.zero_le _, g4, g5, hU⟩ ?_ (stb_round1 hc N bs g2 h hl U hE) ?_
   . exact WKM hE (lk [(0, 0)])
   . rintro ⟨k, a, L⟩ ⟨⟨r1, r2, r3, r4, r5⟩, r6⟩
     simp only at r1 r2 r3 r4 r5 r6
     rw [st1_end r6, lst1] at r5
     obtain ⟨m, hm⟩ : ∃ m, a + bs = m := ⟨_, rfl⟩
     have z0 : IntKind.wrap .i64 ((a : Int) + bs) = (m : Int) := by rw [wrap64 (by omega) (by omega)]; omega
     rw [hm] at r5
     by_cases h2 : m < N
     . rw [if_pos h2] at r5
       have n0 : spD L ≠ [] := by intro e; have := congrArg List.length e; simp at this; omega
       have q := fn66 hc N L a m N r4 (by omega) h2 (by omega) (by omega) (by omega)
       rw [r3, r5] at q
       simp [z0, h2]
       refine CRs q (by simp [n0]) ?_
       simp [z3]
       refine ⟨n1, bs * 2, U, ⟨by simp only; omega, by simp only; omega, by simp only; omega, hUa.2, hUa.1, g6⟩, by omega, ?_⟩
       exact WKM hE (lk [(0, 0)])
     . rw [if_neg h2] at r5
       simp [z0, h2, z3]
       refine ⟨n1, bs * 2, U, ⟨by simp only; omega, by simp only; omega, by simp only; omega, hUa.2, hUa.1, g6⟩, by omega, ?_⟩
       refine Weak.mkM hE (lk [(0, 0)]) _ _ _ ?_ ?_ ?_ ?_ ?_ ?_ <;> simp [r5]
 . rw [st2_end h] at g6
   simp [h]
   refine Weak.mkM hE (lk [(0, 0)]) _ _ _ ?_ ?_ ?_ ?_ ?_ ?_ <;> simp [g6]
theorem fn53 {f : FuncId} {ds : List D} {dom : Etr -> Prop} {c : Etr -> Etr -> Bool} (hc : CmpOk f ds dom c) (l : List Etr) (hd : ∀ x ∈ l, dom x) (h0 : 0 < l.length) (hl : l.length <= 100000000) : Cm prog 53 [.ls 0 0 l.length 4, vi l.length, .d (.fn f ds)] (lk [(0, cellsI l)]) [0] (.ret (.tup [])) (lk [(0, cellsI (stb c l))]) := by
 obtain ⟨N, hN⟩ : ∃ N, l.length = N := ⟨_, rfl⟩
 obtain ⟨T0, hT0⟩ : ∃ T, st0 c N N 0 l = T := ⟨_, rfl⟩
 obtain ⟨T, hT⟩ : ∃ T, st2 c N N 20 T0 = T := ⟨_, rfl⟩
 have hs : stb c l = T := by unfold stb; rw [hN, hT0, hT]
 rw [hs]
 rw [hN] at h0 hl ⊢
 clear hs
 refine Cm.by gok eok mixed 1 func53 c53 rfl (by simp [ntmps53]) (by simp) (HpIds.at ?_) (by simp) ?_ fun E hE hs => ?_
 . simp
 . simp [ResIds]
 simp [p53]
 refine pw_loopC (α := Nat × Nat × List Etr) 0 (stF0 N f ds) (fun y => stI0 dom c N T0 y /\ ¬ y.2.1 + 20 <= N) (stF0 N f ds) (stI0 dom c N T0) (fun y => y.1) (N, 0, l) ⟨by simp only; omega, Nat.zero_le _, hN, hd, hT0⟩ ?_ (stb_round0 hc N h0 hl T0 hE) ?_
 . exact WKM hE (lk [(0, 0)])
 . rintro ⟨k, a, L⟩ ⟨⟨r1, r2, r3, r4, r5⟩, r6⟩
   simp only at r1 r2 r3 r4 r5 r6
   rw [st0_end r6] at r5
   have n0 : spD L ≠ [] := by intro e; have := congrArg List.length e; simp at this; omega
   have q := fn65 hc L a N r4 r2 (by omega) (by omega)
   have tl : T0.length = N := by rw [<- r5, insF_len]; exact r3
   have ta : ∀ x ∈ T0, dom x := by rw [<- r5]; exact insF_all c r4 a N
   rw [r3, r5] at q
   simp
   refine CRs q (by simp [n0]) ?_
   simp
   refine pw_loopC (α := Nat × Nat × List Etr) 2 (fun _ : Unit => ⟨slots [], lk [(0, cellsI T)], 1⟩) (fun _ => True) (stF2 N f ds) (stI2 dom c N T) (fun y => y.1) (N, 20, T0) ⟨by simp only; omega, by simp only; omega, by simp only; omega, tl, ta, hT⟩ ?_ (stb_round2 hc N h0 hl T hE) fun _ _ => ?_
   . exact WKM hE (lk [(0, 0)])
   . simp
     refine RetOk.by (lk [(0, 0)]) ?_
     simp [results53]
theorem fn32 {f : FuncId} {ds : List D} {dom : Etr -> Prop} {c : Etr -> Etr -> Bool} (hc : CmpOk f ds dom c) (l : List Etr) (hd : ∀ x ∈ l, dom x) (h0 : 0 < l.length) (hl : l.length <= 100000000) : Cm prog 32 [.ls 0 0 l.length 4, .d (.fn f ds)] (lk [(0, cellsI l)]) [0] (.ret (.tup [])) (lk [(0, cellsI (stb c l))]) := by
 have q := fn53 hc l hd h0 hl
 have n0 : spD l ≠ [] := by intro e; have := congrArg List.length e; simp at this; omega
 refine Cm.by gok eok mixed 1 func32 c32 rfl (by simp [ntmps32]) (by simp) (HpIds.at ?_) (by simp) ?_ fun E hE hs => ?_
 . simp
 . simp [ResIds]
 simp [p32]
 refine CRs q (by simp [n0]) ?_
 simp
 refine RetOk.by (lk [(0, 0)]) ?_
 simp [results32]
end Go.Proofs.Tryd
namespace Go.Stb
variable {α β : Type}
structure OrdB (c : α -> α -> Bool) (bf lt : α -> α -> Prop) : Prop where
 tr : ∀ x y z, lt x y -> lt y z -> lt x z
 yes : ∀ x y, bf x y -> c y x = true -> lt y x
 no : ∀ x y, bf x y -> c y x = false -> lt x y
def SegP (D D' : List α) (a b : Nat) : Prop := ∀ p x, a <= p -> p < b -> D'[p]? = some x -> ∃ p', a <= p' /\ p' < b /\ D[p']? = some x
theorem segP_of {P R G S : List α} (h : R.Perm G) {a b : Nat} (ha : a = P.length) (hb : b = P.length + G.length) : SegP (P ++ G ++ S) (P ++ R ++ S) a b := by
 intro p x h1 h2 hx
 have hl := h.length_eq
 rw [List.append_assoc, List.getElem?_append_right (by omega), List.getElem?_append_left (by omega)] at hx
 obtain ⟨i, hi⟩ := List.getElem?_of_mem (h.mem_iff.1 (List.mem_of_getElem? hx))
 have := (List.getElem?_eq_some_iff.1 hi).1
 refine ⟨P.length + i, by omega, by omega, ?_⟩
 rw [List.append_assoc, List.getElem?_append_right (by omega), List.getElem?_append_left (by omega), Nat.add_sub_cancel_left]
 exact hi
def CB (bf : α -> α -> Prop) (D : List α) (k : Nat) : Prop := ∀ p q x y, p < k -> k <= q -> D[p]? = some x -> D[q]? = some y -> bf x y
theorem CB.keep {bf : α -> α -> Prop} {D D' : List α} {a b k : Nat} (h : CB bf D k) (hk : k <= a \/ b <= k) (he : ∀ p, p < a \/ b <= p -> D'[p]? = D[p]?) (hs : SegP D D' a b) : CB bf D' k := by
 intro p q x y h1 h2 hx hy
 obtain ⟨p', g1, g2⟩ : ∃ p', p' < k /\ D[p']? = some x := by
   by_cases hp : p < a \/ b <= p
   . exact ⟨p, h1, by rw [<- he p hp]; exact hx⟩
   . obtain ⟨p', q1, q2, q3⟩ := hs p x (by omega) (by omega) hx
     exact ⟨p', by omega, q3⟩
 obtain ⟨q', g3, g4⟩ : ∃ q', k <= q' /\ D[q']? = some y := by
   by_cases hq : q < a \/ b <= q
   . exact ⟨q, h2, by rw [<- he q hq]; exact hy⟩
   . obtain ⟨q', q1, q2, q3⟩ := hs q y (by omega) (by omega) hy
     exact ⟨q', by omega, q3⟩
 exact h p' q' x y g1 g3 g2 g4
theorem segB_ins {c : α -> α -> Bool} {bf lt : α -> α -> Prop} (ho : OrdB c bf lt) {D : List α} {a b : Nat} (hab : a <= b) (hb : b <= D.length) (hs : SOn bf D a b) :
   (insF c D a b).Perm D /\ (∀ p, p < a \/ b <= p -> (insF c D a b)[p]? = D[p]?) /\ SOn lt (insF c D a b) a b /\ SegP D (insF c D a b) a b := by
 obtain ⟨P, G, S, e, ha, hb'⟩ := cut3 D hab hb
 subst e
 have hG : G.Pairwise bf := hs.to_pw ha hb'
 obtain ⟨R, q1, q2, q3⟩ := insF_ok (c := c) ho.tr P G S (hG.imp fun {x y} h => ⟨ho.yes x y h, ho.no x y h⟩) ha hb'
 rw [q1]
 exact ⟨(q2.append_left P).append_right S, fun p hp => out_eq q2.length_eq (by omega), SOn.of_pw q3 ha (by rw [q2.length_eq]; exact hb'), segP_of q2 ha hb'⟩
theorem segB_sym {c : α -> α -> Bool} {bf lt : α -> α -> Prop} (ho : OrdB c bf lt) {D : List α} {n a m b : Nat} (ham : a < m) (hmb : m < b) (hb : b <= D.length) (hn : b - a <= n) (s1 : SOn lt D a m) (s2 : SOn lt D m b) (hc : CB bf D m) :
   (symL c n D a m b).Perm D /\ (∀ p, p < a \/ b <= p -> (symL c n D a m b)[p]? = D[p]?) /\ SOn lt (symL c n D a m b) a b /\ SegP D (symL c n D a m b) a b := by
 obtain ⟨P, G, S, e, ha, hb'⟩ := cut3 D (Nat.le_of_lt (Nat.lt_trans ham hmb)) hb
 obtain ⟨A, B, e2, hA⟩ : ∃ A B, G = A ++ B /\ A.length = m - a := ⟨G.take (m - a), G.drop (m - a), (List.take_append_drop _ _).symm, by rw [List.length_take]; omega⟩
 subst e2
 have hb2 := hb'
 rw [List.length_append] at hb'
 have e3 : P ++ (A ++ B) ++ S = P ++ A ++ B ++ S := by simp
 rw [e3] at e
 subst e
 have sA : A.Pairwise lt := by
   have e4 : P ++ A ++ B ++ S = P ++ A ++ (B ++ S) := by simp
   rw [e4] at s1
   exact s1.to_pw ha (by omega)
 have sB : B.Pairwise lt := s2.to_pw (by rw [List.length_append]; omega) (by rw [List.length_append]; omega)
 obtain ⟨R, q1, q2, q3⟩ := symL_ok (c := c) ho.tr n P A B S (a := a) (m := m) (b := b) ha (by omega) (by omega) (by omega) (by omega) (by omega) sA sB ⟨fun x hx y hy => by
   obtain ⟨i, hi⟩ := List.getElem?_of_mem hx
   obtain ⟨j, hj⟩ := List.getElem?_of_mem hy
   have hi2 := (List.getElem?_eq_some_iff.1 hi).1
   have := hc (P.length + i) (m + j) x y (by omega) (by omega) (at_A (P := P) (A := A) (B := B) (S := S) rfl i x hi) (at_B (P := P) (A := A) (B := B) (S := S) (by omega) j y hj)
   exact ⟨ho.yes x y this, ho.no x y this⟩⟩
 rw [q1]
 have hl : R.length = (A ++ B).length := q2.length_eq
 refine ⟨by rw [<- e3]; exact (q2.append_left P).append_right S, fun p hp => by rw [<- e3]; exact out_eq hl (by rw [List.length_append]; omega), SOn.of_pw q3 ha (by rw [hl, List.length_append]; omega), ?_⟩
 rw [<- e3]
 exact segP_of q2 ha hb2
variable {c : α -> α -> Bool} {bf lt : α -> α -> Prop} {N : Nat}
theorem stB0_ok (ho : OrdB c bf lt) : ∀ (n a : Nat) (D : List α), D.length = N -> I0 lt D a -> a <= N -> N <= a + n -> SOn bf D a N -> CB bf D a -> (∀ k, 20 * k <= a -> CB bf D (20 * k)) -> (st0 c N n a D).Perm D /\ Runs lt 20 (st0 c N n a D) /\ ∀ k, CB bf (st0 c N n a D) (20 * k)
 | n, a, D, hN, hi, ha, hn, hs, hc, hk => by
   have fin : N < a + 20 -> (insF c D a N).Perm D /\ Runs lt 20 (insF c D a N) /\ ∀ k, CB bf (insF c D a N) (20 * k) := fun h => by
     obtain ⟨p1, p2, p3, p4⟩ := segB_ins ho ha (by omega) hs
     have hl : (insF c D a N).length = N := by rw [p1.length_eq]; exact hN
     refine ⟨p1, i0_end hi hl h p2 p3, fun k => ?_⟩
     by_cases h2 : 20 * k <= a
     . exact (hk k h2).keep (.inl h2) p2 p4
     . intro p q x y g1 g2 hx hy
       have := (List.getElem?_eq_some_iff.1 hy).1
       obtain ⟨j, hj, _⟩ := hi
       omega
   cases n with
   | zero => exact fin (by omega)
   | succ n =>
     unfold st0
     by_cases h : a + 20 <= N
     . rw [if_pos h]
       have hs20 : SOn bf D a (a + 20) := fun p q x y g1 g2 g3 => hs p q x y g1 g2 (by omega)
       obtain ⟨p1, p2, p3, p4⟩ := segB_ins ho (Nat.le_add_right a 20) (by omega) hs20
       have hl : (insF c D a (a + 20)).length = N := by rw [p1.length_eq]; exact hN
       have c20 : CB bf D (a + 20) := fun p q x y g1 g2 hx hy => by
         by_cases hp : p < a
         . exact hc p q x y hp (by omega) hx hy
         . exact hs p q x y (by omega) (by omega) (by have := (List.getElem?_eq_some_iff.1 hy).1; omega) hx hy
       have c20' := c20.keep (.inr (Nat.le_refl _)) p2 p4
       obtain ⟨q1, q2, q3⟩ := stB0_ok ho n (a + 20) (insF c D a (a + 20)) hl (i0_step hi p2 p3) h (by omega) (fun p q x y g1 g2 g3 hx hy => by
         rw [p2 p (by omega)] at hx
         rw [p2 q (by omega)] at hy
         exact hs p q x y (by omega) g2 g3 hx hy) c20' (fun k hk2 => by
         by_cases h3 : 20 * k <= a
         . exact (hk k h3).keep (.inl h3) p2 p4
         . obtain ⟨j, hj, _⟩ := hi
           have : 20 * k = a + 20 := by omega
           rw [this]; exact c20')
       exact ⟨q1.trans p1, q2, q3⟩
     . rw [if_neg h]
       exact fin (by omega)
def Cuts (bf : α -> α -> Prop) (bs a : Nat) (D : List α) : Prop := (∀ k, CB bf D (2 * bs * k)) /\ ∀ k, a <= bs * k -> CB bf D (bs * k)
theorem stB1_ok (ho : OrdB c bf lt) {bs : Nat} (hb : 0 < bs) : ∀ (n a : Nat) (D : List α), D.length = N -> I1 lt bs D a -> a <= N -> N <= a + n -> Cuts bf bs a D -> (st1 c N bs n a D).Perm D /\ Runs lt (2 * bs) (st1 c N bs n a D) /\ ∀ k, CB bf (st1 c N bs n a D) (2 * bs * k)
 | n, a, D, hN, hi, ha, hn, hc => by
   have hcut : CB bf D (a + bs) := by
     obtain ⟨k, e, _⟩ := hi
     have := hc.2 (2 * k + 1) (by rw [m2]; omega)
     rw [m2, <- e] at this; exact this
   have far : ∀ k, 2 * bs * k <= a \/ a + 2 * bs <= 2 * bs * k := fun k => by
     obtain ⟨j, e, _⟩ := hi
     rcases Nat.lt_or_ge j k with h | h
     . right; have := m3 (n := 2 * bs) h; omega
     . left; rw [e]; exact Nat.mul_le_mul_left _ h
   have fin : N < a + 2 * bs -> (lst1 c N bs a D).Perm D /\ Runs lt (2 * bs) (lst1 c N bs a D) /\ ∀ k, CB bf (lst1 c N bs a D) (2 * bs * k) := fun h => by
     unfold lst1
     by_cases h1 : a + bs < N
     . rw [if_pos h1]
       have s2 : SOn lt D (a + bs) N := fun p q x y g1 g2 g3 => hi.two p q x y g1 g2 (by omega)
       obtain ⟨p1, p2, p3, p4⟩ := segB_sym ho (n := N) (a := a) (m := a + bs) (b := N) (by omega) h1 (by omega) (by omega) hi.one s2 hcut
       refine ⟨p1, i1_end hi (by rw [p1.length_eq]; exact hN) h p2 p3, fun k => ?_⟩
       rcases far k with h2 | h2
       . exact (hc.1 k).keep (.inl h2) p2 p4
       . exact (hc.1 k).keep (.inr (by omega)) p2 p4
     . rw [if_neg h1]
       exact ⟨.refl _, i1_end hi hN h (fun p _ => rfl) (fun p q x y g1 g2 g3 => hi.one p q x y g1 g2 (by omega)), hc.1⟩
   cases n with
   | zero => exact fin (by omega)
   | succ n =>
     unfold st1
     by_cases h : a + 2 * bs <= N
     . rw [if_pos h]
       have s2 : SOn lt D (a + bs) (a + 2 * bs) := fun p q x y g1 g2 g3 => hi.two p q x y g1 g2 (by omega)
       obtain ⟨p1, p2, p3, p4⟩ := segB_sym ho (n := N) (a := a) (m := a + bs) (b := a + 2 * bs) (by omega) (by omega) (by omega) (by omega) hi.one s2 hcut
       obtain ⟨q1, q2, q3⟩ := stB1_ok ho hb n (a + 2 * bs) _ (by rw [p1.length_eq]; exact hN) (i1_step hi p2 p3) h (by omega) ⟨fun k => by
         rcases far k with h2 | h2
         . exact (hc.1 k).keep (.inl h2) p2 p4
         . exact (hc.1 k).keep (.inr h2) p2 p4, fun k hk => (hc.2 k (by omega)).keep (.inr hk) p2 p4⟩
       exact ⟨q1.trans p1, q2, q3⟩
     . rw [if_neg h]
       exact fin (by omega)
theorem stB2_ok (ho : OrdB c bf lt) : ∀ (n bs : Nat) (D : List α), 0 < bs -> D.length = N -> Runs lt bs D -> N <= bs + n -> (∀ k, CB bf D (bs * k)) -> (st2 c N n bs D).Perm D /\ (st2 c N n bs D).Pairwise lt
 | 0, bs, D, _, hN, hr, hn, _ => ⟨.refl _, runs_end (D := D) hr (by omega)⟩
 | n + 1, bs, D, hb, hN, hr, hn, hc => by
   unfold st2
   by_cases h : bs < N
   . rw [if_pos h]
     obtain ⟨p1, p2, p3⟩ := stB1_ok (N := N) ho hb N 0 D hN (i1_init hr) (Nat.zero_le _) (by omega) ⟨fun k => by rw [<- m1]; exact hc _, fun k _ => hc k⟩
     rw [Nat.mul_comm] at p2
     obtain ⟨q1, q2⟩ := stB2_ok ho n (bs * 2) _ (by omega) (by rw [p1.length_eq]; exact hN) p2 (by omega) (fun k => by rw [Nat.mul_comm bs 2]; exact p3 k)
     exact ⟨q1.trans p1, q2⟩
   . rw [if_neg h]
     exact ⟨.refl _, runs_end hr (by omega)⟩
theorem stbB_ok (ho : OrdB c bf lt) {D : List α} (hd : D.Pairwise bf) : (stb c D).Perm D /\ (stb c D).Pairwise lt := by
 have hs : SOn bf D 0 D.length := fun p q x y _ g2 _ hx hy => by
   have g1 := List.getElem?_eq_some_iff.1 hx
   have g3 := List.getElem?_eq_some_iff.1 hy
   have := List.pairwise_iff_getElem.1 hd p q g1.1 g3.1 g2
   rw [g1.2, g3.2] at this
   exact this
 obtain ⟨p1, p2, p3⟩ := stB0_ok (N := D.length) ho D.length 0 D rfl (i0_init lt D) (Nat.zero_le _) (by omega) hs (fun p q x y g1 => by omega) (fun k hk => by
   intro p q x y g1; omega)
 obtain ⟨q1, q2⟩ := stB2_ok (N := D.length) ho D.length 20 _ (by omega) p1.length_eq p2 (by omega) p3
 exact ⟨q1.trans p1, q2⟩
end Go.Stb
namespace Go.Stb
variable {α β : Type} (f : α -> β) (c : β -> β -> Bool)
abbrev pull (x y : α) : Bool := c (f x) (f y)
theorem sw_map (D : List α) (i j : Nat) : sw (D.map f) i j = (sw D i j).map f := by
 unfold sw
 simp only [List.getElem?_map]
 cases D[i]? <;> cases D[j]? <;> simp [List.map_set]
theorem lessAt_map (D : List α) (i j : Nat) : lessAt c (D.map f) i j = lessAt (pull f c) D i j := by
 unfold lessAt
 simp only [List.getElem?_map]
 cases D[i]? <;> cases D[j]? <;> rfl
theorem swpN_map (D : List α) (a b : Nat) : ∀ n, swpN (D.map f) a b n = (swpN D a b n).map f
 | 0 => rfl
 | n + 1 => by unfold swpN; rw [swpN_map D a b n, sw_map]
theorem rotL_map (m : Nat) : ∀ n (D : List α) i j, rotL m n (D.map f) i j = (rotL m n D i j).map f
 | 0, D, i, _ => swpN_map f D _ _ _
 | n + 1, D, i, j => by
   unfold rotL
   split
   . exact swpN_map f D _ _ _
   . split
     . rw [swpN_map, rotL_map m n]
     . rw [swpN_map, rotL_map m n]
theorem movR_map : ∀ n (D : List α) k, movR (D.map f) k n = (movR D k n).map f
 | 0, _, _ => rfl
 | n + 1, D, k => by unfold movR; rw [sw_map, movR_map n]
theorem movL_map : ∀ n (D : List α) k, movL (D.map f) k n = (movL D k n).map f
 | 0, _, _ => rfl
 | n + 1, D, k => by unfold movL; rw [sw_map, movL_map n]
theorem cutS_map (D : List α) (a m b : Nat) : cutS c (D.map f) a m b = cutS (pull f c) D a m b := by
 unfold cutS
 simp only [lessAt_map]
theorem rotF_map (D : List α) (m i j : Nat) : rotF (D.map f) m i j = (rotF D m i j).map f := rotL_map f m _ D i j
theorem if_map {p : Prop} [Decidable p] (x y : List α) : (if p then x.map f else y.map f) = (if p then x else y).map f := by split <;> rfl
theorem symL_map : ∀ n (D : List α) a m b, symL c n (D.map f) a m b = (symL (pull f c) n D a m b).map f
 | 0, _, _, _, _ => rfl
 | n + 1, D, a, m, b => by
   unfold symL
   by_cases h1 : m - a = 1
   . rw [if_pos h1, if_pos h1]
     simp only [lessAt_map, movR_map]
   . rw [if_neg h1, if_neg h1]
     by_cases h2 : b - m = 1
     . rw [if_pos h2, if_pos h2]
       simp only [lessAt_map, movL_map]
     . rw [if_neg h2, if_neg h2]
       simp only [cutS_map, rotF_map, if_map, symL_map n]
theorem sift_map (a : Nat) : ∀ j (D : List α), sift c a j (D.map f) = (sift (pull f c) a j D).map f
 | 0, _ => rfl
 | j + 1, D => by
   unfold sift
   simp only [lessAt_map, sw_map, sift_map a j, if_map]
theorem insN_map (a : Nat) (D : List α) : ∀ i, insN c a (D.map f) i = (insN (pull f c) a D i).map f
 | 0 => rfl
 | i + 1 => by unfold insN; rw [insN_map a D i, sift_map]
theorem insF_map (D : List α) (a b : Nat) : insF c (D.map f) a b = (insF (pull f c) D a b).map f := insN_map f c a D _
theorem st0_map (N : Nat) : ∀ n a (D : List α), st0 c N n a (D.map f) = (st0 (pull f c) N n a D).map f
 | 0, a, D => insF_map f c D a N
 | n + 1, a, D => by
   unfold st0
   simp only [insF_map, st0_map N n, if_map]
theorem lst1_map (N bs a : Nat) (D : List α) : lst1 c N bs a (D.map f) = (lst1 (pull f c) N bs a D).map f := by
 unfold lst1
 simp only [symL_map, if_map]
theorem st1_map (N bs : Nat) : ∀ n a (D : List α), st1 c N bs n a (D.map f) = (st1 (pull f c) N bs n a D).map f
 | 0, a, D => lst1_map f c N bs a D
 | n + 1, a, D => by
   unfold st1
   simp only [symL_map, st1_map N bs n, lst1_map, if_map]
theorem st2_map (N : Nat) : ∀ n bs (D : List α), st2 c N n bs (D.map f) = (st2 (pull f c) N n bs D).map f
 | 0, _, _ => rfl
 | n + 1, bs, D => by
   unfold st2
   simp only [st1_map, st2_map N n, if_map]
theorem stb_map (D : List α) : stb c (D.map f) = (stb (pull f c) D).map f := by
 unfold stb
 rw [List.length_map, st0_map, st2_map]
theorem pw_unique {lt : α -> α -> Prop} (hir : ∀ x y, lt x y -> lt y x -> False) : ∀ {l m : List α}, l.Perm m -> l.Pairwise lt -> m.Pairwise lt -> l = m
 | [], m, h, _, _ => by rw [List.nil_perm.1 h]
 | x :: l, m, h, h1, h2 => by
   cases m with
   | nil => exact absurd h.length_eq (by simp)
   | cons y m =>
     have exy : x = y := by
       have hx := h.mem_iff.1 (List.mem_cons_self (a := x) (l := l))
       have hy := h.mem_iff.2 (List.mem_cons_self (a := y) (l := m))
       rcases List.mem_cons.1 hx with e | e
       . exact e
       . rcases List.mem_cons.1 hy with e2 | e2
         . exact e2.symm
         . exact (hir x y (List.rel_of_pairwise_cons h1 e2) (List.rel_of_pairwise_cons h2 e)).elim
     subst exy
     rw [pw_unique hir h.cons_inv (List.Pairwise.of_cons h1) (List.Pairwise.of_cons h2)]
def num : Nat -> List α -> List (α × Nat)
 | _, [] => []
 | k, x :: l => (x, k) :: num (k + 1) l
theorem num_fst : ∀ (k : Nat) (l : List α), (num k l).map Prod.fst = l
 | _, [] => rfl
 | k, x :: l => by simp [num, num_fst (k + 1) l]
theorem num_app : ∀ (k : Nat) (l m : List α), num k (l ++ m) = num k l ++ num (k + l.length) m
 | _, [], _ => rfl
 | k, x :: l, m => by simp only [List.cons_append, num, num_app (k + 1) l m, List.length_cons]; rw [show k + 1 + l.length = k + (l.length + 1) by omega]
theorem num_mem : ∀ {k : Nat} {l : List α} {x : α × Nat}, x ∈ num k l -> k <= x.2 /\ x.2 < k + l.length /\ x.1 ∈ l
 | _, [], _, h => by cases h
 | k, a :: l, x, h => by
   rcases List.mem_cons.1 h with rfl | h
   . exact ⟨Nat.le_refl _, by simp, by simp⟩
   . obtain ⟨h1, h2, h3⟩ := num_mem h
     exact ⟨by omega, by simp only [List.length_cons]; omega, by simp [h3]⟩
theorem num_pw : ∀ (k : Nat) (l : List α), (num k l).Pairwise fun x y => x.2 < y.2
 | _, [] => .nil
 | k, a :: l => .cons (fun y hy => by have := (num_mem hy).1; simp only; omega) (num_pw (k + 1) l)
def mergeK (key : α -> Int) : List α -> List α -> List α
 | [], m => m
 | x :: l, [] => x :: l
 | x :: l, y :: m => if key x <= key y then x :: mergeK key l (y :: m) else y :: mergeK key (x :: l) m
theorem mergeK_nil (key : α -> Int) (l : List α) : mergeK key l [] = l := by cases l <;> simp [mergeK]
theorem mergeK_map (key : β -> Int) : ∀ (l m : List α), mergeK key (l.map f) (m.map f) = (mergeK (fun x => key (f x)) l m).map f
 | [], m => by simp [mergeK]
 | x :: l, [] => by simp [mergeK]
 | x :: l, y :: m => by
   have h1 := mergeK_map key l (y :: m)
   have h2 := mergeK_map key (x :: l) m
   simp only [List.map_cons] at h1 h2 ⊢
   unfold mergeK
   split
   . rw [h1]; rfl
   . rw [h2]; rfl
theorem mergeK_perm (key : α -> Int) : ∀ (l m : List α), (mergeK key l m).Perm (l ++ m)
 | [], m => by simp [mergeK]
 | x :: l, [] => by simp [mergeK]
 | x :: l, y :: m => by
   unfold mergeK
   split
   . exact (mergeK_perm key l (y :: m)).cons x
   . exact ((mergeK_perm key (x :: l) m).cons y).trans List.perm_middle.symm
theorem mergeK_pw {key : α -> Int} {lt : α -> α -> Prop} (htr : ∀ x y z, lt x y -> lt y z -> lt x z) : ∀ (l m : List α), l.Pairwise lt -> m.Pairwise lt -> (∀ x ∈ l, ∀ y ∈ m, (key x <= key y -> lt x y) /\ (key y < key x -> lt y x)) -> (mergeK key l m).Pairwise lt
 | [], m, _, h, _ => by simpa [mergeK] using h
 | x :: l, [], h, _, _ => by simpa [mergeK] using h
 | x :: l, y :: m, h1, h2, h3 => by
   unfold mergeK
   by_cases hk : key x <= key y
   . rw [if_pos hk]
     have hxy := (h3 x (by simp) y (by simp)).1 hk
     refine .cons (fun z hz => ?_) (mergeK_pw htr l (y :: m) h1.of_cons h2 fun a ha b hb => h3 a (by simp [ha]) b hb)
     rcases List.mem_append.1 ((mergeK_perm key l (y :: m)).mem_iff.1 hz) with hz | hz
     . exact List.rel_of_pairwise_cons h1 hz
     . rcases List.mem_cons.1 hz with rfl | hz
       . exact hxy
       . exact htr _ _ _ hxy (List.rel_of_pairwise_cons h2 hz)
   . rw [if_neg hk]
     have hyx := (h3 x (by simp) y (by simp)).2 (by omega)
     refine .cons (fun z hz => ?_) (mergeK_pw htr (x :: l) m h1 h2.of_cons fun a ha b hb => h3 a ha b (by simp [hb]))
     rcases List.mem_append.1 ((mergeK_perm key (x :: l) m).mem_iff.1 hz) with hz | hz
     . rcases List.mem_cons.1 hz with rfl | hz
       . exact hyx
       . exact htr _ _ _ hyx (List.rel_of_pairwise_cons h1 hz)
     . exact List.rel_of_pairwise_cons h2 hz
def ltN (key : α -> Int) (x y : α × Nat) : Prop := key x.1 < key y.1 \/ (key x.1 = key y.1 /\ x.2 < y.2)
theorem num_ltN (key : α -> Int) : ∀ (k : Nat) (l : List α), (l.Pairwise fun x y => key x <= key y) -> (num k l).Pairwise (ltN key)
 | _, [], _ => .nil
 | k, a :: l, h => .cons (fun y hy => by
     obtain ⟨h1, _, h3⟩ := num_mem hy
     have := List.rel_of_pairwise_cons h h3
     unfold ltN
     simp only
     omega) (num_ltN key (k + 1) l h.of_cons)
theorem stb_merge (key : α -> Int) (c : α -> α -> Bool) (hc : ∀ x y, c x y = decide (key x < key y)) (a b : List α) (ha : a.Pairwise fun x y => key x <= key y) (hb : b.Pairwise fun x y => key x <= key y) :
   stb c (a ++ b) = mergeK key a b := by
 have e1 : a ++ b = (num 0 a ++ num a.length b).map Prod.fst := by rw [List.map_append, num_fst, num_fst]
 have e2 : mergeK key a b = (mergeK (fun x => key (Prod.fst x)) (num 0 a) (num a.length b)).map Prod.fst := by rw [<- mergeK_map, num_fst, num_fst]
 rw [e1, e2, stb_map]
 congr 1
 have htr : ∀ x y z : α × Nat, ltN key x y -> ltN key y z -> ltN key x z := fun x y z h1 h2 => by unfold ltN at *; omega
 have ho : OrdB (pull Prod.fst c) (fun x y : α × Nat => x.2 < y.2) (ltN key) := {
   tr := htr
   yes := fun x y _ h => by
     simp only [pull, hc, decide_eq_true_eq] at h
     exact .inl h
   no := fun x y h1 h => by
     simp only [pull, hc, decide_eq_false_iff_not] at h
     unfold ltN; omega }
 have hpw : (num 0 a ++ num a.length b).Pairwise fun x y : α × Nat => x.2 < y.2 := by
   have := num_pw 0 (a ++ b)
   rwa [num_app, Nat.zero_add] at this
 obtain ⟨p1, p2⟩ := stbB_ok ho hpw
 refine pw_unique (lt := ltN key) (fun x y h1 h2 => by unfold ltN at *; omega) (p1.trans (mergeK_perm _ _ _).symm) p2 (mergeK_pw htr _ _ (num_ltN key _ _ ha) (num_ltN key _ _ hb) fun x hx y hy => ?_)
 have h1 := (num_mem hx).2.1
 have h2 := (num_mem hy).1
 unfold ltN
 constructor <;> intro h <;> omega
end Go.Stb
namespace Go.Proofs.Tryd
open Go.Psl
open Go.Stb
open Go.Log
abbrev entM0 : List V := [vi 0, vS [], .d (.lit (.slice none 0 0)), vS []]
def zD (n : Nat) : List D := (List.replicate n [di 0, dS [], .lit (.slice none 0 0), dS []]).flatten
theorem zero_cells (n : Nat) : repl n entM0 = (zD n).map .d := by
 unfold zD
 induction n with
 | zero => rfl
 | succ n ih =>
   rw [List.replicate_succ, List.flatten_cons, List.map_append, <- ih]; rfl
theorem cells_flat (L : List Etr) : (List.map (List.map V.d ∘ entL) L).flatten = cellsI L := by
 show _ = (spD L).map V.d
 unfold spD
 rw [List.map_flatMap, List.flatMap_def]; rfl
theorem cells_cell (L : List Etr) : ∀ x : V, x ∈ cellsI L -> x.isCell = true := fun x hx => by
 obtain ⟨y, _, rfl⟩ := List.mem_map.1 hx; rfl
theorem grow_zero : Ct prog 52 [.d (.lit (.slice none 0 0)), vi 0] (.d (.lit (.slice none 0 0))) [] := by
 have w0 : IntKind.wrap .i64 0 = 0 := by decide
 refine CB func52 c52 fun E hE => ?_
 simp [p52, w0]
 apply RZ
 simp [results52]
theorem grow_some (n : Nat) (h0 : 0 < n) (hn : n <= 1000000) : Ct prog 52 [.d (.lit (.slice none 0 0)), vi n] (.ls 0 0 0 4) [(0, (zD n).map .d)] := by
 have w0 : IntKind.wrap .i64 0 = 0 := by decide
 have w1 : IntKind.wrap .i64 (n : Int) = n := wrap64 (by omega) (by omega)
 have q1 : ¬ ((n : Int) < 0) := by omega
 have q2 : (0 : Int) < n := by omega
 have q3 : n * 64 <= 140737488355328 /\ n <= 9223372036854775807 := by omega
 refine CB func52 c52 fun E hE => ?_
 simp [p52, w0, w1, q1, q3, h0, zero_cells]
 refine RetOk.by (lk [(0, 18874368)]) ?_
 simp [results52]
abbrev twoB (a b : List Etr) : List V := [.d (entsD a), .d (entsD b)]
theorem cells_app (a b : List Etr) : cellsI a ++ cellsI b = cellsI (a ++ b) := by
 show (spD a).map V.d ++ (spD b).map V.d = (spD (a ++ b)).map V.d
 rw [<- List.map_append]; unfold spD; rw [List.flatMap_append]
theorem cat_size (a b : List Etr) (ha : a.length <= 100000) (hb : b.length <= 100000) {E : Ent} (hs : ∀ i, E.stab i ↔ i ∈ []) {Q : AExit -> St -> Prop} : ∀ i : Nat, i <= 2 -> PW prog tys eqs E p31l0
   (seqQ (fun st' => ∃ j, j <= 2 /\ 2 - j < 2 - i /\ Weak prog E st' ⟨slots [(0, .ls 0 0 2 1), (3, vi (if j = 0 then 0 else if j = 1 then a.length else a.length + b.length)), (9, .ls 0 0 2 1), (10, vi 2), (11, vi j)], lk [(0, twoB a b)], 1⟩)
     (exC prog E Q 0 (fun _ : Unit => ⟨slots [(0, .ls 0 0 2 1), (3, vi (a.length + b.length))], lk [(0, twoB a b)], 1⟩) (fun _ => True)))
   ⟨slots [(0, .ls 0 0 2 1), (3, vi (if i = 0 then 0 else if i = 1 then a.length else a.length + b.length)), (9, .ls 0 0 2 1), (10, vi 2), (11, vi i)], lk [(0, twoB a b)], 1⟩ := by
 intro i hi
 match i, hi with
 | 0, _ =>
   have w1 : IntKind.wrap .i64 1 = 1 := by decide
   have w2 : IntKind.wrap .i64 (a.length : Int) = a.length := wrap64 (by omega) (by omega)
   have q : ¬ ((a.length : Int) < 0) := by omega
   simp [p31l0, w1, w2, q]
   refine ⟨1, by omega, by omega, ?_⟩
   exact WKM hs (lk [(0, 0)])
 | 1, _ =>
   have w1 : IntKind.wrap .i64 2 = 2 := by decide
   have w2 : IntKind.wrap .i64 ((a.length : Int) + b.length) = (a.length : Int) + b.length := wrap64 (by omega) (by omega)
   have q : ¬ ((a.length : Int) + b.length < 0) := by omega
   simp [p31l0, w1, w2, q]
   refine ⟨2, by omega, by omega, ?_⟩
   exact WKM hs (lk [(0, 0)])
 | 2, _ =>
   simp [p31l0]
   exact WKM hs (lk [(0, 0)])
def catS (hdr : V) (blk : List (Nat × List V)) (a b : List Etr) : Nat -> St
 | 0 => ⟨slots [(6, hdr), (25, .ls 0 0 2 1), (26, vi 2), (27, vi 0)], lk ((0, twoB a b) :: blk), 2⟩
 | 1 => ⟨slots [(6, .ls 1 0 a.length 4), (25, .ls 0 0 2 1), (26, vi 2), (27, vi 1)], lk [(0, twoB a b), (1, cellsI a)], 2⟩
 | _ => ⟨slots [(6, .ls 1 0 (a.length + b.length) 4), (25, .ls 0 0 2 1), (26, vi 2), (27, vi 2)], lk [(0, twoB a b), (1, cellsI (a ++ b))], 2⟩
theorem fn31 (a b : List Etr) (ha : a.length <= 100000) (hb : b.length <= 100000) : Cm prog 31 [.ls 0 0 2 1] (lk [(0, twoB a b)]) [] (.ret (.ls 1 0 (a ++ b).length 4)) (lk [(1, cellsI (a ++ b))]) := by
 have w1 : IntKind.wrap .i64 1 = 1 := by decide
 have w2 : IntKind.wrap .i64 2 = 2 := by decide
 have hfl := cells_flat b
 have hcell := cells_cell b
 have hfa := cells_flat a
 have hca := cells_cell a
 have hsl := spD_len a
 have htk : List.take (a.length * 4) (cellsI a) = cellsI a := List.take_of_length_le (by simp)
 have n1 : (a.length + b.length) * 64 <= 140737488355328 := by omega
 have n2 : a.length + b.length <= 9223372036854775807 := by omega
 have m1 : a.length * 64 <= 140737488355328 := by omega
 have m2 : a.length <= 9223372036854775807 := by omega
 refine CM 1 func31 c31 fun E hs hE => ?_
 rw [List.length_append]
 simp [p31]
 refine pw_loopC (α := Nat) 0 (fun _ : Unit => ⟨slots [(0, .ls 0 0 2 1), (3, vi (a.length + b.length))], lk [(0, twoB a b)], 1⟩) (fun _ => True) (fun i => ⟨slots [(0, .ls 0 0 2 1), (3, vi (if i = 0 then 0 else if i = 1 then a.length else a.length + b.length)), (9, .ls 0 0 2 1), (10, vi 2), (11, vi i)], lk [(0, twoB a b)], 1⟩) (fun i => i <= 2) (fun i => 2 - i) 0 ?_ ?_ ?_ fun _ _ => ?_
 . omega
 . exact WKM hs (lk [(0, 0)])
 . exact cat_size a b ha hb hs
 . by_cases h0 : a.length + b.length = 0
   . have hz0 : (a.length : Int) + b.length = 0 := by omega
     rw [hz0]
     simp
     refine CLa grow_zero ?_
     simp
     refine pw_loopC (α := Nat) 2 (fun _ : Unit => ⟨slots [(6, .ls 1 0 (a.length + b.length) 4)], lk [(0, twoB a b), (1, cellsI (a ++ b))], 2⟩) (fun _ => True) (catS (.d (.lit (.slice none 0 0))) [] a b) (fun i => i <= 2) (fun i => 2 - i) 0 ?_ ?_ ?_ fun _ _ => ?_
     . omega
     . unfold catS
       exact WKM hs (lk [(0, 0)])
     . intro i hi
       match i, hi with
       | 0, _ =>
         simp only [catS]
         simp [p31l1, hfa, m1, m2, w1]
         refine ⟨1, by omega, by omega, ?_⟩
         simp only
         exact WKM hs (lk [(0, 0), (1, 6291458)])
       | 1, _ =>
         simp only [catS]
         simp [p31l1, w2, hfl, hsl, htk, n1, n2]
         refine ⟨2, by omega, by omega, ?_⟩
         simp only
         rw [cells_app]
         exact WKM hs (lk [(0, 0), (1, 6291458)])
       | 2, _ =>
         simp only [catS]
         simp [p31l1]
         exact WKM hs (lk [(0, 0), (1, 1)])
     . simp
       refine RetOk.by (lk [(1, 1)]) ?_
       simp [results31]
   . have hz0 : (a.length : Int) + b.length = ((a.length + b.length : Nat) : Int) := by omega
     rw [hz0]
     simp
     refine CLa (grow_some (a.length + b.length) (by omega) (by omega)) ?_
     simp
     refine pw_loopC (α := Nat) 2 (fun _ : Unit => ⟨slots [(6, .ls 1 0 (a.length + b.length) 4)], lk [(0, twoB a b), (1, cellsI (a ++ b))], 2⟩) (fun _ => True) (catS (.ls 1 0 0 4) [(1, (zD (a.length + b.length)).map .d)] a b) (fun i => i <= 2) (fun i => 2 - i) 0 ?_ ?_ ?_ fun _ _ => ?_
     . omega
     . unfold catS
       exact WKM hs (lk [(0, 0), (1, 1048577)])
     . intro i hi
       match i, hi with
       | 0, _ =>
         simp only [catS]
         simp [p31l1, hfa, m1, m2, w1]
         refine ⟨1, by omega, by omega, ?_⟩
         simp only
         exact WKM hs (lk [(0, 0), (1, 6291458)])
       | 1, _ =>
         simp only [catS]
         simp [p31l1, w2, hfl, hsl, htk, n1, n2]
         refine ⟨2, by omega, by omega, ?_⟩
         simp only
         rw [cells_app]
         exact WKM hs (lk [(0, 0), (1, 6291458)])
       | 2, _ =>
         simp only [catS]
         simp [p31l1]
         exact WKM hs (lk [(0, 0), (1, 1)])
     . simp
       refine RetOk.by (lk [(1, 1)]) ?_
       simp [results31]
open Go.RowKit
theorem ins_nil (x : D) : Ct prog 65 [.d (entsD []), vi 0, vi 0, .d x] (.tup []) [] := by
 have w1 : IntKind.wrap .i64 1 = 1 := by decide
 refine CB func65 c65 fun E hE => ?_
 simp [p65, w1]
 refine pw_loop (α := Nat) (fun _ => ⟨slots [(2, vi 0), (8, vi 1)], lk [], 0⟩) (fun _ => True) (fun _ => 0) 0 ?_ ?_ ?_
 . trivial
 . exact WK hE (lk [])
 . intro i hi
   simp [p65l1]
   apply RZ
   simp [results65]
theorem stable_nil (x : D) : Ct prog 53 [.d (entsD []), vi 0, .d x] (.tup []) [] := by
 refine CB func53 c53 fun E hE => ?_
 simp [p53]
 refine pw_loopC (α := Nat) 0 (fun _ : Unit => ⟨slots [(0, .d (entsD [])), (1, vi 0), (2, .d x), (6, vi 20), (7, vi 0)], lk [], 0⟩) (fun _ => True) (fun _ => ⟨slots [(0, .d (entsD [])), (1, vi 0), (2, .d x), (6, vi 20), (7, vi 0), (8, vi 20)], lk [], 0⟩) (fun _ => True) (fun _ => 0) 0 ?_ ?_ ?_ fun _ _ => ?_
 . trivial
 . exact WK hE (lk [])
 . intro i hi
   simp [p53l0]
   exact WK hE (lk [])
 . simp
   refine CLa (ins_nil x) ?_
   simp
   refine pw_loop (α := Nat) (fun _ => ⟨slots [(1, vi 0), (6, vi 20)], lk [], 0⟩) (fun _ => True) (fun _ => 0) 0 ?_ ?_ ?_
   . trivial
   . exact WK hE (lk [])
   . intro i hi
     simp [p53l2]
     apply RZ
     simp [results53]
theorem sort_nil (x : D) : Ct prog 32 [.d (entsD []), .d x] (.tup []) [] := by
 refine CB func32 c32 fun E hE => ?_
 simp [p32]
 refine CLa (stable_nil x) ?_
 simp
 apply RZ
 simp [results32]
def tmC (x y : Etr) : Bool := decide (x.t < y.t)
def tmD (x : Etr) : Prop := 0 <= x.t /\ x.t <= 1000000
theorem fn15 (x y : Etr) (hx : tmD x) (hy : tmD y) : Ct prog 15 [entV x, entV y] (vi (x.t - y.t)) [] := by
 obtain ⟨h1, h2⟩ := hx
 obtain ⟨h3, h4⟩ := hy
 have w : IntKind.wrap .i64 (x.t - y.t) = x.t - y.t := wrap64 (by omega) (by omega)
 refine CB func15 c15 fun E hE => ?_
 simp [p15, w]
 apply RZ
 simp [results15]
theorem tm_ok : CmpOk 15 [] tmD tmC := fun x y hx hy => ⟨x.t - y.t, by simp [tmC]; omega, fn15 x y hx hy⟩
def sgB (a b i : Nat) : Nat := if i = 0 then a else if i = 1 then b else a + b + i
theorem sgB_inj {a b : Nat} (h : a ≠ b) : ∀ i j, i < 2 -> j < 2 -> sgB a b i = sgB a b j -> i = j := by
 intro i j hi hj he
 unfold sgB at he
 (repeat' split at he) <;> omega
theorem concat_at (k : Nat) (hk : k ≠ 1) (a b : List Etr) (ha : a.length <= 100000) (hb : b.length <= 100000) : Cm prog 31 [.ls k 0 2 1] (lk [(k, twoB a b)]) [] (.ret (.ls 1 0 (a ++ b).length 4)) (lk [(1, cellsI (a ++ b))]) := by
 have := (fn31 a b ha hb).rename (sgB k 1) 2 (sgB_inj hk) (by simp [idsLt]) (by simp [idsLt]) (by simp)
 have hm : ∀ l : List Etr, List.map (ren1 (sgB k 1)) (cellsI l) = cellsI l := fun l => by simp [cellsI, ren1, ren0]
 simpa [renL, renR, renC, ren1, ren0, ren2, ren, sgB, Function.comp_def] using this
theorem sort_at (k : Nat) (l : List Etr) (hd : ∀ x ∈ l, tmD x) (h0 : 0 < l.length) (hl : l.length <= 100000000) : Cm prog 32 [.ls k 0 l.length 4, .d (.fn 15 [])] (lk [(k, cellsI l)]) [k] (.ret (.tup [])) (lk [(k, cellsI (stb tmC l))]) := by
 have := (fn32 tm_ok l hd h0 hl).rename (fun _ => k) 1 (by omega) (by simp [idsLt]) (by simp [idsLt]) (by simp)
 simpa [renL, renR, renC, ren1, ren0, ren2, ren, Function.comp_def] using this
theorem fn14 (a b : List Etr) (ha : a.length <= 100000) (hb : b.length <= 100000) (hda : ∀ x ∈ a, tmD x) (hdb : ∀ x ∈ b, tmD x) (sa : a.Pairwise fun x y => x.t <= y.t) (sb : b.Pairwise fun x y => x.t <= y.t) :
   Ct prog 14 [.d (entsD a), .d (entsD b), .d (.fn 15 [])] (.ls 0 0 (mergeK Etr.t a b).length 4) [(0, cellsI (mergeK Etr.t a b))] := by
 have hm := stb_merge Etr.t tmC (fun _ _ => rfl) a b sa sb
 have hl : (mergeK Etr.t a b).length = a.length + b.length := by rw [(mergeK_perm _ _ _).length_eq, List.length_append]
 have c1 := concat_at 3145728 (by omega) a b ha hb
 by_cases h0 : a.length + b.length = 0
 . have e1 : a = [] := List.length_eq_zero_iff.1 (by omega)
   have e2 : b = [] := List.length_eq_zero_iff.1 (by omega)
   subst e1
   subst e2
   refine CB func14 c14 fun E hE => ?_
   simp [p14, splice, repl]
   refine CRs c1 (by simp) ?_
   simp
   refine CLa (sort_nil (.fn 15 [])) ?_
   simp
   refine RetOk.by (lk [(0, 4194305)]) ?_
   simp [results14, mergeK, cellsI]
 . have c2 := sort_at 4194305 (a ++ b) (fun x hx => by rcases List.mem_append.1 hx with h | h; exact hda x h; exact hdb x h) (by rw [List.length_append]; omega) (by rw [List.length_append]; omega)
   rw [hm] at c2
   have n0 : spD (a ++ b) ≠ [] := by intro h; have := congrArg List.length h; simp at this; omega
   have n1 : spD (mergeK Etr.t a b) ≠ [] := by intro h; have := congrArg List.length h; simp at this; omega
   refine CB func14 c14 fun E hE => ?_
   simp [p14, splice, repl]
   refine CRs c1 (by simp) ?_
   simp
   refine CRs c2 (by simp [n0]) ?_
   simp
   refine RetOk.by (lk [(0, 4194305)]) ?_
   simp [results14, hl]
end Go.Proofs.Tryd
namespace Go.Psl
variable {P : Program} {E : Ent}
theorem Weak.trans {a b c : St} (h : Weak P E a b) (g : Weak P E b c) : Weak P E a c := fun G x W hI => by
 obtain ⟨G', h'⟩ := h G x W hI
 exact g G' x W h'
def FzE (H : Hp) (v c : V) : Prop := c = .junk \/ v = c \/ Fz H v c
def FzK (H : Hp) (v c : V) : Prop := v = c \/ FzC H v c
def hpOf (H : Hp) (ids : List Nat) : Hp := fun i => if i ∈ ids then H i else none
theorem FzK.one {G : Gh} {W : World} {H : Hp} (hB : ∀ id cs, H id = some cs -> HB G W id cs) (hin : Into (fun _ => True) anyD (fun i => i) G W { G with Im := fzIm G H } W) {v c : V} {x : Value} (h : FzK H v c) (ha : A1 (fun _ => True) anyD v) (hx : R1 G W v x) : R1 { G with Im := fzIm G H } W c x := by
 rcases h with rfl | ⟨y, rfl, hy⟩
 . exact hin.s1 ha hx
 . exact R0.r1 (fz0 hB hy (R2.rv (R1.r2 hx)))
theorem Weak.frz (ids : List Nat) {f g : Nat -> V} {H h : Hp} {n : Nat} (_ : ∀ i ∈ ids, ¬ E.stab i) (hf : ∀ t, FzE (hpOf H ids) (f t) (g t)) (hh : ∀ i cs', h i = some cs' -> i ∉ ids /\ ∃ cs, H i = some cs /\ All2 (FzK (hpOf H ids)) cs cs') : Weak P E ⟨f, H, n⟩ ⟨g, h, n⟩ := by
 intro G a W hI
 have hF : ∀ id cs, hpOf H ids id = some cs -> id ∈ ids /\ H id = some cs := fun id cs e => by
   unfold hpOf at e; split at e
   . rename_i hi; exact ⟨hi, e⟩
   . cases e
 have hB : ∀ id cs, hpOf H ids id = some cs -> HB G W id cs := fun id cs e => hI.hp id cs (hF id cs e).2
 have hin : Into (fun _ => True) anyD (fun i => i) G W { G with Im := fzIm G (hpOf H ids) } W := ⟨fun i _ => ⟨rfl, rfl, rfl, rfl⟩, fun x v _ hx => RD.mono hx fun b hb => ⟨.inl hb, rfl⟩⟩
 have hno : ∀ id cs cs', h id = some cs' -> H id = some cs -> G.ph id = false -> ¬ G.Im (G.β id) -> ¬ fzIm G (hpOf H ids) (G.β id) := by
   rintro id cs cs' h1 h2 hp h3 (h4 | ⟨i, hi, hpi, he⟩)
   . exact h3 h4
   . obtain ⟨x, hx⟩ := Option.isSome_iff_exists.1 hi
     obtain ⟨h5, h6⟩ := hF i x hx
     have : i = id := hI.inj i id (by show (H i).isSome = true; rw [h6]; rfl) (by show (H id).isSome = true; rw [h2]; rfl) hpi hp he
     subst this
     exact (hh i cs' h1).1 h5
 refine ⟨{ G with Im := fzIm G (hpOf H ids) }, { fr := fun t => ?_, wf := fun t => ?_, hp := fun id cs' hid => ?_, wh := fun id cs' hid => ?_, dom := fun id hid => ?_, inj := fun i j h1 h2 => ?_, own := fun i h1 => ?_, im := fun b hb => ?_, im0 := fun b hb => .inl (hI.im0 b hb), keep := hI.keep, stab := fun i h1 h2 => ?_, sU := hI.sU, nt := hI.nt, df := ?_, gl := hI.gl.mono fun b hb => ⟨.inl hb, rfl⟩ }⟩
 . have h1 := hI.fr t
   have h2 := hI.wf t
   rcases hf t with h3 | h3 | h3
   . show RV _ W (g t) _
     rw [h3]; trivial
   . show RV _ W (g t) _
     rw [<- h3]
     exact hin.sv (AV.mono (fun _ _ => trivial) (fun _ h => h) h2) h1
   . exact fz_rel hB h3 h1
 . rcases hf t with h3 | h3 | h3
   . show AV _ _ (g t)
     rw [h3]; trivial
   . show AV _ _ (g t)
     rw [<- h3]; exact hI.wf t
   . exact AV.mono (fun _ h => h.elim) (fun _ h => h) (fz_wf h3)
 . obtain ⟨h1, cs, h2, h3⟩ := hh id cs' hid
   have hl := h3.length
   rcases hI.hp id cs h2 with ⟨h5, h6⟩ | ⟨h5, h0, h6, c, T, h7, h8, h9, h10, h11⟩ | ⟨h5, h0, h6, ⟨hz, fr, nt, ps, pa, pb, jmp, rec, h7, h8, h9⟩ | ⟨hz, es, ms, ck, h7, h8, h9⟩ | ⟨hz, bx, bp, bv, h7, h8, h9, h10, h11⟩⟩
   . subst h6
     have : cs' = [] := by cases cs' with | nil => rfl | cons a l => exact h3.elim
     exact .inl ⟨h5, this⟩
   . refine .inr (.inl ⟨h5, h0, hno id cs cs' hid h2 h5 h6, c, T, h7, h8, by omega, ?_, ?_⟩)
     . rw [<- hl]
       refine All2.of_get (by rw [<- hl]; exact h10.length) fun i y z hy hz => ?_
       obtain ⟨w, hw, hwy⟩ := h3.get2 hy
       obtain ⟨u, hu, hwu⟩ := h10.get hw
       rw [hz] at hu; cases hu
       exact hwy.one hB hin (R1.ac hwu (AC.mono (fun _ _ => trivial) (fun _ h => h) (hI.wh id cs h2 _ (List.mem_of_getElem? hw)))) hwu
     . refine List.all_eq_true.2 fun y hy => ?_
       obtain ⟨i, hi⟩ := List.getElem?_of_mem hy
       obtain ⟨w, hw, hwy⟩ := h3.get2 hi
       rcases hwy with rfl | ⟨d, rfl, _⟩
       . exact List.all_eq_true.1 h11 _ (List.mem_of_getElem? hw)
       . rfl
   . subst h7
     match cs', h3 with
     | [c0], h3 =>
       rcases h3.1 with h4 | ⟨y, rfl, hy⟩
       . subst h4
         obtain ⟨q1, q2, q3, q4, q5, q6⟩ := h9
         refine .inr (.inr ⟨h5, h0, hno id _ _ hid h2 h5 h6, .inl ⟨hz, fr, nt, ps, pa, pb, jmp, rec, rfl, h8, q1, q2, q3, q4, fun t => ?_, q6⟩⟩)
         have q7 : AC _ anyD (V.lr fr nt ps pa pb jmp) := hI.wh id _ h2 _ (by simp)
         exact hin.sv (AV.mono (fun _ _ => trivial) (fun _ h => h) (q7 t)) (q5 t)
       . exact (show False from hy).elim
     | [], h3 => exact h3.elim
     | _ :: _ :: _, h3 => exact h3.2.elim
   . subst h7
     match cs', h3 with
     | [c0, c1], h3 =>
       obtain ⟨h31, h32, _⟩ := h3
       have e0 : c0 = mapB es := by
         rcases h31 with h4 | ⟨y, rfl, hy⟩
         . exact h4.symm
         . exact (show False from hy).elim
       have e1 : c1 = .d (.lit (.bool true)) := by
         rcases h32 with h4 | ⟨y, rfl, hy⟩
         . exact h4.symm
         . rcases hy with rfl | ⟨hy, _⟩
           . rfl
           . cases hy
       rw [e0, e1]
       exact .inr (.inr ⟨h5, h0, hno id _ _ hid h2 h5 h6, .inr (.inl ⟨hz, es, ms, ck, rfl, h8, h9.mono fun b hb => ⟨.inl hb, rfl⟩⟩)⟩)
     | [], h3 => exact h3.elim
     | [_], h3 => exact h3.2.elim
     | _ :: _ :: _ :: _, h3 => exact h3.2.2.elim
   . subst h7
     match cs', h3 with
     | [c0, c1], h3 =>
       obtain ⟨h31, h32, _⟩ := h3
       have e1 : c1 = .d (.lit bp.m) := by
         rcases h32 with h4 | ⟨y, rfl, hy⟩
         . exact h4.symm
         . rcases hy with rfl | ⟨hy, _⟩
           . rfl
           . exact absurd (D.lit.inj hy) h9.m_ne
       rw [e1]
       have hcc : V.isCell c0 = true := by
         rcases h31 with rfl | ⟨d, rfl, _⟩
         . exact h11
         . rfl
       exact .inr (.inr ⟨h5, h0, hno id _ _ hid h2 h5 h6, .inr (.inr ⟨hz, c0, bp, bv, rfl, h8, h9, h31.one hB hin (R1.ac h10 (AC.mono (fun _ _ => trivial) (fun _ h => h) (hI.wh id _ h2 bx (by simp)))) h10, hcc⟩)⟩)
     | [], h3 => exact h3.elim
     | [_], h3 => exact h3.2.elim
     | _ :: _ :: _ :: _, h3 => exact h3.2.2.elim
 . obtain ⟨h1, cs, h2, h3⟩ := hh id cs' hid
   intro c hc
   obtain ⟨i, hi⟩ := List.getElem?_of_mem hc
   obtain ⟨w, hw, hwy⟩ := h3.get2 hi
   rcases hwy with rfl | ⟨d, rfl, _⟩
   . exact hI.wh id cs h2 _ (List.mem_of_getElem? hw)
   . trivial
 . obtain ⟨cs', hc⟩ := Option.isSome_iff_exists.1 hid
   obtain ⟨h1, cs, h2, h3⟩ := hh id cs' hc
   exact hI.dom id (by show (H id).isSome = true; rw [h2]; rfl)
 . obtain ⟨x, hx⟩ := Option.isSome_iff_exists.1 h1
   obtain ⟨y, hy⟩ := Option.isSome_iff_exists.1 h2
   obtain ⟨_, cs, e1, _⟩ := hh i x hx
   obtain ⟨_, ds, e2, _⟩ := hh j y hy
   exact hI.inj i j (by show (H i).isSome = true; rw [e1]; rfl) (by show (H j).isSome = true; rw [e2]; rfl)
 . obtain ⟨x, hx⟩ := Option.isSome_iff_exists.1 h1
   obtain ⟨_, cs, e1, _⟩ := hh i x hx
   exact hI.own i (by show (H i).isSome = true; rw [e1]; rfl)
 . rcases hb with hb | ⟨i, hi, hp, rfl⟩
   . exact hI.im b hb
   . obtain ⟨x, hx⟩ := Option.isSome_iff_exists.1 hi
     obtain ⟨h5, h6⟩ := hF i x hx
     exact ⟨(hI.hp i x h6).lt hp, .inr (hI.own i (by show (H i).isSome = true; rw [h6]; rfl) hp)⟩
 . obtain ⟨x, hx⟩ := Option.isSome_iff_exists.1 h2
   obtain ⟨_, cs, e1, _⟩ := hh i x hx
   exact hI.stab i h1 (by show (H i).isSome = true; rw [e1]; rfl)
 . obtain ⟨ds, h1, h2⟩ := hI.df
   refine ⟨ds, h1, h2.nodup, fun D hD => ?_, h2.nm⟩
   obtain ⟨h3, h4, h5⟩ := h2.at' D hD
   refine ⟨h3, h4, ?_⟩
   rintro (h6 | ⟨i, hi, hp, rfl⟩)
   . exact h5 h6
   . obtain ⟨x, hx⟩ := Option.isSome_iff_exists.1 hi
     exact (hI.hp i x (hF i x hx).2).kind hp h3
theorem Weak.frzR (ids : List Nat) {f : Nat -> V} {m : List (Nat × V)} {H : Hp} {h : List (Nat × List V)} {n : Nat} (hs : ∀ i, ¬ E.stab i) (hf : ∀ p ∈ m, FzE (hpOf H ids) (f p.1) p.2) (hh : ∀ p ∈ h, p.1 ∉ ids /\ ∃ cs, H p.1 = some cs /\ All2 (FzK (hpOf H ids)) cs p.2) : Weak P E ⟨f, H, n⟩ ⟨slots m, lk h, n⟩ := by
 refine Weak.frz ids (fun i _ => hs i) (fun t => ?_) fun i cs' hi => ?_
 . show FzE _ _ ((lk m t).getD .junk)
   cases h1 : lk m t with
   | none => exact .inl rfl
   | some v =>
     have : ∃ p ∈ m, p.1 = t /\ p.2 = v := by
       clear hf
       induction m with
       | nil => simp [lk] at h1
       | cons p r ih =>
         simp only [lk] at h1
         split at h1
         . rename_i e; exact ⟨p, by simp, e.symm, Option.some.inj h1⟩
         . obtain ⟨q, hq, e⟩ := ih h1; exact ⟨q, by simp [hq], e⟩
     obtain ⟨p, hp, rfl, rfl⟩ := this
     exact hf p hp
 . have : ∃ p ∈ h, p.1 = i /\ p.2 = cs' := by
     clear hh
     induction h with
     | nil => simp [lk] at hi
     | cons p r ih =>
       simp only [lk] at hi
       split at hi
       . rename_i e; exact ⟨p, by simp, e.symm, Option.some.inj hi⟩
       . obtain ⟨q, hq, e⟩ := ih hi; exact ⟨q, by simp [hq], e⟩
   obtain ⟨p, hp, rfl, rfl⟩ := this
   exact hh p hp
end Go.Psl
namespace Go.Psl
variable {P : Program} {Γ : Tys} {eqs : Eqs}
theorem Cm.byW (hΓ : GOk P Γ) (hE : EqOk P eqs) (hm : P.follows .mixedOrders = true) {f : FuncId} {fn : Func} {p : PC} {args : List V} {Hin : Hp} {ks : List Nat} {res : Res} {H1 : List (Nat × List V)} (N : Nat) (hf : P.funcs[f]? = some fn) (hc : fn.body.bind (comp fn.ntmps) = some p) (hname : (fn.name == "runtime.NumGoroutine") = false)
   (hn : args.length <= fn.ntmps) (hcl : ∀ v ∈ args, A2 (· < N) anyD v) (hids : IdsFn N Hin) (hks : ∀ i ∈ ks, i < N) (hri : ResIds res.v H1) (h : ∀ E : Ent, (∀ i, E.stab i ↔ i ∈ ks) -> E.nt = fn.ntmps /\ E.rq -> PW P Γ eqs E p (clQ P E (retM Γ fn ks res H1)) ⟨argF 0 args, Hin, N⟩) : Cm P f args Hin ks res (lk H1) := by
 cases hb : fn.body with
 | none => rw [hb] at hc; cases hc
 | some c => rw [hb] at hc; exact Cm.intro hΓ N hf hb hname hn hcl hids hks hri fun E hE' hs hrd => AW.clQ (PW.sound hΓ hE hm c p (by rw [hE']; exact hc) _ _ (h E hs ⟨hE', hrd⟩))
theorem Ct.byW (hΓ : GOk P Γ) (hE : EqOk P eqs) (hm : P.follows .mixedOrders = true) {f : FuncId} {fn : Func} {p : PC} {args : List V} {r : V} {H1 : List (Nat × List V)} (hf : P.funcs[f]? = some fn) (hc : fn.body.bind (comp fn.ntmps) = some p) (hname : (fn.name == "runtime.NumGoroutine") = false)
   (hn : args.length <= fn.ntmps) (hcl : ∀ v ∈ args, Closed v) (hri : ResIds r H1) (h : ∀ E : Ent, (∀ i, ¬ E.stab i) -> PW P Γ eqs E p (clQ P E (retQ Γ fn r H1)) ⟨argF 0 args, fun _ => none, 0⟩) : Ct P f args r H1 :=
 Cm.byW hΓ hE hm 0 hf hc hname hn (fun v hv => A2.mono (fun _ h => h.elim) (fun _ h => h) (hcl v hv)) nofun nofun hri fun E hs hn => h E (fun i hi => by have := (hs i).1 hi; cases this)
theorem ret_data {E : Ent} {fn : Func} {st : St} {v : V} {y : D} {t : Nat} (ids : List Nat) (hs : ∀ i, ¬ E.stab i) (hv : st.fr t = v) (hf : Fz (hpOf st.H ids) v (.d y)) (hr : RetM Γ fn [] (.d y) [] ⟨slots [(t, .d y)], lk [], st.nx⟩) : clQ P E (retQ Γ fn (.d y) []) .ret st := by
 refine .inr ⟨⟨slots [(t, .d y)], lk [], st.nx⟩, ?_, hr, nofun⟩
 obtain ⟨f, H, n⟩ := st
 exact Weak.frzR ids hs (fun p hp => by
   obtain rfl := List.mem_singleton.1 hp
   exact .inr (.inr (by rw [show f t = v from hv]; exact hf))) (fun p hp => by cases hp)
end Go.Psl
namespace Go.Log
theorem ordS_ents {es : List Etr} {last : Int} (h : ordS last es = true) : ∀ x ∈ es, entS x = true := by
 intro x hx
 obtain ⟨i, hi⟩ := List.getElem?_of_mem hx
 exact (ordS_drop h hi).1
theorem ent_time {x : Etr} (h : entS x = true) : 0 <= x.t /\ x.t <= 1000000 := by
 simp only [entS, betw, Bool.and_eq_true, decide_eq_true_eq] at h
 exact h.1.1.1.1
theorem ok_all {l : Lg} (h : okLg l = true) : shipS l.s = true /\ l.es.length <= 200 /\ ordS 0 l.es = true := by
 simp only [okLg, Bool.and_eq_true, decide_eq_true_eq] at h
 exact ⟨h.1.1, h.1.2, h.2⟩
end Go.Log
namespace Go.Proofs.Tryd
open Go.Psl
open Go.Stb
open Go.Log
theorem clone_nil0 : Ct prog 16 [.d (.sl 1 [])] (.d (.sl 1 [])) [] := by
 refine Ct.byW gok eok mixed func16 c16 rfl (by simp [ntmps16]) (by simp) (by simp [ResIds]) fun E hE => ?_
 simp [p16, repl]
 refine ⟨ret_data [] hE (v := .d (.lit (.slice none 0 0))) (t := 2) (by simp) (.inr ⟨rfl, _, rfl⟩) ?_, ret_data [5242880] hE (v := .ls 5242880 0 0 1) (t := 2) (by simp) (bor_fcel (f := intL) (fun _ => rfl) (l := []) (by simp [hpOf, fcel])) ?_⟩
 . apply RZ
   simp [results16]
 . apply RZ
   simp [results16]
theorem ints_flat (q : List Int) : (q.map intL).flatten = q.map di := by
 induction q with
 | nil => rfl
 | cons n q ih => simp [ih]
theorem fcel_int (q : List Int) : fcel intL q = (q.map di).map .d := by
 unfold fcel
 rw [ints_flat]
theorem clone_raw (q : List Int) (h0 : q ≠ []) (hq : q.length <= 1000000) : Ct prog 16 [.d (intsD q)] (.ls 0 0 q.length 1) [(0, fcel intL q)] := by
 obtain ⟨a, r, rfl⟩ := List.exists_cons_of_ne_nil h0
 have hmx : (r.length + 1) * 8 <= 140737488355328 /\ r.length + 1 <= 9223372036854775807 := by simp at hq; omega
 have e : intsD (a :: r) = .sl 1 ([di a] :: r.map intL) := rfl
 have ef := ints_flat r
 have hR : (r.map di).length = r.length := by simp
 rw [fcel_int, List.map_cons, List.map_cons]
 generalize r.map di = R at ef hR ⊢
 refine CB func16 c16 fun E hE => ?_
 simp [p16, e, ef, repl, hmx]
 refine RetOk.by (lk [(0, 5242880)]) ?_
 simp [results16]
theorem fn16 (q : List Int) (hq : q.length <= 1000000) : Ct prog 16 [.d (intsD q)] (.d (intsD q)) [] := by
 by_cases h0 : q = []
 . rw [h0]; exact clone_nil0
 . exact Cm.freeze (clone_raw q h0 hq) (bor_fcel (f := intL) (fun _ => rfl) (l := q) (by simp [lk]))
theorem pw_ord : ∀ {es : List Etr} {last : Int}, ordS last es = true -> (∀ x ∈ es, last <= x.t) /\ es.Pairwise fun x y => x.t <= y.t
 | [], _, _ => ⟨fun x hx => (by cases hx), List.Pairwise.nil⟩
 | x :: r, last, h => by
   simp only [ordS, Bool.and_eq_true, decide_eq_true_eq] at h
   obtain ⟨h1, h2⟩ := h
   have ih := pw_ord h2
   have hl : last <= x.t := h1.2
   refine ⟨fun y hy => ?_, List.Pairwise.cons ih.1 ih.2⟩
   rcases List.mem_cons.1 hy with rfl | hy
   . exact hl
   . exact Int.le_trans hl (ih.1 y hy)
theorem ok_tm {l : Lg} (h : okLg l = true) : (∀ x ∈ l.es, tmD x) /\ l.es.Pairwise fun x y => x.t <= y.t := by
 obtain ⟨_, _, h3⟩ := ok_all h
 exact ⟨fun x hx => ent_time (ordS_ents h3 x hx), (pw_ord h3).2⟩
def mrgS (a b : Lg) : Lg × Int := if okLg a = false \/ okLg b = false then (⟨[], []⟩, 90) else if a.s ≠ b.s then (⟨[], []⟩, 95) else if 200 < a.es.length + b.es.length then (⟨[], []⟩, 4) else (⟨a.s, mergeK Etr.t a.es b.es⟩, 0)
theorem mrg_no {e : Int} : Fz (lk []) (.tup [.agg [vS [], .d (.lit (.slice none 0 0))], vi e]) (.tup [logV ⟨[], []⟩, vi e]) := ⟨⟨⟨_, rfl, .inl rfl⟩, ⟨_, rfl, .inr ⟨rfl, _, rfl⟩⟩, trivial⟩, .inl rfl, trivial⟩
theorem args_at {M : List Etr} {i : Nat} {x : Etr} (h : M[i]? = some x) : List.take 1 (List.drop (i * 4 + 2) (cellsI M)) = [.d (intsD x.a)] := by
 have := congrArg (fun z => (z.drop 2).take 1) (cells_at h)
 simp only [List.drop_take, List.drop_drop, List.take_take] at this
 simpa using this
theorem splice_keep {C : List V} {k : Nat} {v : V} (h : (C.drop k).take 1 = [v]) : splice C k [v] = C := by
 have h2 : C.drop k = v :: C.drop (k + 1) := by
   have e := List.take_append_drop 1 (C.drop k)
   rw [h, List.drop_drop] at e
   exact e.symm
 show C.take k ++ [v] ++ C.drop (k + 1) = C
 rw [List.append_assoc]
 show C.take k ++ (v :: C.drop (k + 1)) = C
 rw [<- h2, List.take_append_drop]
theorem mrg_raw_ok (a b : Lg) (ha : okLg a = true) (hb : okLg b = true) (sa : SizedL a) (sb : SizedL b) (hs : a.s = b.s) (hn : ¬ 200 < a.es.length + b.es.length) : Ct prog 7 [logV a, logV b] (.tup [.agg [vS a.s, .ls 0 0 (mergeK Etr.t a.es b.es).length 4], vi 0]) [(0, cellsI (mergeK Etr.t a.es b.es))] := by
 have ca := fn12 a sa
 have cb := fn12 b sb
 rw [ha, if_pos rfl] at ca
 rw [hb, if_pos rfl] at cb
 obtain ⟨ta, pa⟩ := ok_tm ha
 obtain ⟨tb, pb⟩ := ok_tm hb
 have cu := fn14 a.es b.es (by omega) (by omega) ta tb pa pb
 have hl : (mergeK Etr.t a.es b.es).length = a.es.length + b.es.length := by rw [(mergeK_perm _ _ _).length_eq, List.length_append]
 have w1 : IntKind.wrap .i64 ((a.es.length : Int) + b.es.length) = ((a.es.length + b.es.length : Nat) : Int) := by rw [wrap64 (by omega) (by omega)]; omega
 have n1 : ¬ (200 : Int) < (a.es.length : Int) + b.es.length := by omega
 have hA : ∀ x ∈ mergeK Etr.t a.es b.es, x.a.length <= 1000000 := fun x hx => by
   have hm := (mergeK_perm Etr.t a.es b.es).mem_iff.1 hx
   have he : entS x = true := by
     rcases List.mem_append.1 hm with h | h
     . exact ordS_ents (ok_all ha).2.2 x h
     . exact ordS_ents (ok_all hb).2.2 x h
   simp only [entS, Bool.and_eq_true, decide_eq_true_eq] at he
   omega
 generalize mergeK Etr.t a.es b.es = M at cu hl hA ⊢
 refine CB func7 c7 fun E hE => ?_
 simp [p7]
 refine CLa ca ?_
 simp
 refine CLa cb ?_
 simp [hs, w1, n1]
 refine CLb (cu) (by first | (simp; done) | simp [Bor_ls, Bor1_ls, inC, Nat.testBit]) ?_
 simp [splice]
 refine pw_loop (α := Nat) (fun i => ⟨slots [(4, .lp 1 0), (6, .lp 2 0), (42, vi M.length), (43, vi i)], lk [(0, cellsI M), (1, [vS [], .d (.lit (.slice none 0 0))]), (2, [vS b.s, .ls 0 0 M.length 4])], 3⟩) (fun i => i <= M.length) (fun i => M.length - i) 0 ?_ ?_ ?_
 . omega
 . exact WK hE (lk [(0, 32505856), (1, 2097152), (2, 34603008)])
 . intro i hi
   have hz := @wz i (by omega)
   by_cases h : i < M.length
   . obtain ⟨x, hx⟩ := gE h
     have hI : (i : Int) < M.length := by omega
     have hld := args_at hx
     have hsk := splice_keep hld
     have h5 : i * 4 + 2 + 1 <= M.length * 4 := by omega
     have h6 : i * 4 + 2 < M.length * 4 := by omega
     have cc := fn16 x.a (hA x (List.mem_of_getElem? hx))
     simp [p7l0, hI, inC, Nat.testBit, hld, h5]
     refine CLb (cc) (by first | (simp; done) | simp [Bor_ls, Bor1_ls, inC, Nat.testBit]) ?_
     simp [hI, hz, hsk, h5]
     refine ⟨i + 1, by omega, by omega, ?_⟩
     exact WK hE (lk [(0, 0), (1, 1), (2, 2)])
   . have hI : ¬ (i : Int) < M.length := by omega
     simp [p7l0, hI, splice]
     refine RetOk.by (lk [(0, 0)]) ?_
     simp [results7]
theorem fn7 (a b : Lg) (sa : SizedL a) (sb : SizedL b) : Ct prog 7 [logV a, logV b] (.tup [logV (mrgS a b).1, vi (mrgS a b).2]) [] := by
 have ca := fn12 a sa
 have cb := fn12 b sb
 by_cases h1 : okLg a = true
 case neg =>
   rw [if_neg h1] at ca
   have e : mrgS a b = (⟨[], []⟩, 90) := by unfold mrgS; rw [if_pos (.inl (by simpa using h1))]
   rw [e]
   refine Cm.freeze (?_ : Ct prog 7 [logV a, logV b] (.tup [.agg [vS [], .d (.lit (.slice none 0 0))], vi 90]) []) mrg_no
   refine CB func7 c7 fun E hE => ?_
   simp [p7]
   refine CLa ca ?_
   simp [splice]
   apply RZ
   simp [results7]
 have h1' := h1
 rw [h1, if_pos rfl] at ca
 by_cases h2 : okLg b = true
 case neg =>
   rw [if_neg h2] at cb
   have e : mrgS a b = (⟨[], []⟩, 90) := by unfold mrgS; rw [if_pos (.inr (by simpa using h2))]
   rw [e]
   refine Cm.freeze (?_ : Ct prog 7 [logV a, logV b] (.tup [.agg [vS [], .d (.lit (.slice none 0 0))], vi 90]) []) mrg_no
   refine CB func7 c7 fun E hE => ?_
   simp [p7]
   refine CLa ca ?_
   simp
   refine CLa cb ?_
   simp [splice]
   apply RZ
   simp [results7]
 have cb' := cb
 rw [h2, if_pos rfl] at cb
 have hno : ¬ (okLg a = false \/ okLg b = false) := by simp [h1, h2]
 by_cases h3 : a.s = b.s
 case neg =>
   have e : mrgS a b = (⟨[], []⟩, 95) := by unfold mrgS; rw [if_neg hno, if_pos h3]
   rw [e]
   refine Cm.freeze (?_ : Ct prog 7 [logV a, logV b] (.tup [.agg [vS [], .d (.lit (.slice none 0 0))], vi 95]) []) mrg_no
   refine CB func7 c7 fun E hE => ?_
   simp [p7]
   refine CLa ca ?_
   simp
   refine CLa cb ?_
   simp [splice, h3]
   apply RZ
   simp [results7]
 have la := (ok_all h1).2.1
 have lb := (ok_all h2).2.1
 have w1 : IntKind.wrap .i64 ((a.es.length : Int) + b.es.length) = (a.es.length : Int) + b.es.length := wrap64 (by omega) (by omega)
 by_cases h4 : 200 < a.es.length + b.es.length
 . have e : mrgS a b = (⟨[], []⟩, 4) := by unfold mrgS; rw [if_neg hno, if_neg (by simp [h3]), if_pos h4]
   have n1 : (200 : Int) < (a.es.length : Int) + b.es.length := by omega
   rw [e]
   refine Cm.freeze (?_ : Ct prog 7 [logV a, logV b] (.tup [.agg [vS [], .d (.lit (.slice none 0 0))], vi 4]) []) mrg_no
   refine CB func7 c7 fun E hE => ?_
   simp [p7]
   refine CLa ca ?_
   simp
   refine CLa cb ?_
   simp [splice, h3, w1, n1]
   apply RZ
   simp [results7]
 . have e : mrgS a b = (⟨a.s, mergeK Etr.t a.es b.es⟩, 0) := by unfold mrgS; rw [if_neg hno, if_neg (by simp [h3]), if_neg h4]
   rw [e]
   refine Cm.freeze (mrg_raw_ok a b h1 h2 sa sb h3 h4) ?_
   refine ⟨⟨⟨_, rfl, .inl rfl⟩, ⟨_, rfl, ?_⟩, trivial⟩, .inl rfl, trivial⟩
   exact bor_fcel (f := entL) (fun _ => rfl) (l := mergeK Etr.t a.es b.es) (by simp [lk, spD_fcel])
end Go.Proofs.Tryd
namespace Go.Psl
variable {P : Program} {G : Gh} {W : World} {H : Hp}
def NB0 (H : Hp) : V -> V -> Prop
 | .ls id off len sz, .d (.sl sz' es) => sz' = sz /\ es.length = len /\ (∀ e ∈ es, e.length = sz) /\ ∃ cs, H id = some cs /\ All2 (fun c y => Bor0 H c (.d y)) ((cs.drop off).take (len * sz)) es.flatten
 | _, _ => False
theorem nb0 (hp : ∀ id cs, H id = some cs -> HB G W id cs) {v c : V} {x : Value} (hb : NB0 H v c) (hx : RV G W v x) : R0 { G with Im := fzIm G H } W c x := by
 unfold NB0 at hb
 split at hb
 . rename_i id off len sz sz' es
   obtain ⟨rfl, hl, hes, cs, hh, hcs⟩ := hb
   obtain ⟨hml, ⟨hph, h0, rfl⟩ | ⟨hph, o', cap, rfl, hcap, hoff⟩⟩ := hx
   . have : es = [] := List.eq_nil_of_length_eq_zero (by omega)
     subst this
     exact RD.sl sz' [] none 0 (fun _ _ => undef) (by simp) (by simp [maxL]) (by simp) (by simp) (by simp)
   . obtain ⟨_, c, T, ⟨fz, hg, _⟩, hbs, hcl, hcr, _⟩ := (hp id cs hh).read hph
     have hfl := flatten_len es hes
     have hlen : ((cs.drop off).take (len * sz')).length = len * sz' := by rw [hcs.length, hfl, hl]
     have hfit : off + len * sz' <= cs.length \/ len * sz' = 0 := by simp at hlen; omega
     subst hl
     refine RD.sl sz' es (some ⟨G.β id, o', none⟩) cap (fun i j => c.toList.getD (off + i * sz' + j) undef) hes hml hcap (fun i e he => ⟨_, rfl, .inr ⟨id, by show (H id).isSome = true; rw [hh]; rfl, hph.1, rfl⟩, fun j y hy => ?_⟩) (fun i e he j y hy => ?_)
     all_goals
       have hil : i < es.length := (List.getElem?_eq_some_iff.1 he).1
       have hel := hes e (List.mem_of_getElem? he)
       have hjl : j < sz' := by have := (List.getElem?_eq_some_iff.1 hy).1; omega
       have hij : i * sz' + j < es.length * sz' := by
         have : (i + 1) * sz' <= es.length * sz' := Nat.mul_le_mul_right _ hil
         rw [Nat.add_mul] at this; omega
       have hfit' : off + es.length * sz' <= cs.length := by omega
       have hfy : es.flatten[i * sz' + j]? = some y := by
         rw [flatten_get (by omega) es hes]
         have e1 : (i * sz' + j) / sz' = i := by rw [Nat.add_comm, Nat.add_mul_div_right _ _ (by omega), Nat.div_eq_of_lt hjl]; omega
         have e2 : (i * sz' + j) % sz' = j := by rw [Nat.add_comm, Nat.add_mul_mod_self_right, Nat.mod_eq_of_lt hjl]
         rw [e1, e2, he]; simp [hy]
       obtain ⟨v, hv, hvy⟩ := hcs.get2 hfy
       rw [List.getElem?_take, if_pos hij, List.getElem?_drop] at hv
       obtain ⟨u, hu, hru⟩ := hcr.get hv
       rw [List.getElem?_take] at hu
       split at hu
       rotate_left
       . cases hu
     . obtain ⟨rfl, _⟩ := hoff (by omega)
       rw [add_plain]
       simp only [World.cell?, hg]
       rw [Array.getElem?_toList] at hu
       have h2 : c.toList.getD (o' + i * sz' + j) undef = u := by
         rw [List.getD_eq_getElem?_getD, Array.getElem?_toList, show o' + i * sz' + j = o' + (i * sz' + j) by omega, hu]; rfl
       rw [h2]
       simpa using hu
     . have h2 : c.toList.getD (off + i * sz' + j) undef = u := by
         rw [List.getD_eq_getElem?_getD, show off + i * sz' + j = off + (i * sz' + j) by omega, hu]; rfl
       show RD _ _ y (c.toList.getD (off + i * sz' + j) undef)
       rw [h2]
       exact fz0 hp hvy (R2.rv (R1.r2 hru))
 . exact hb.elim
def NBA (H : Hp) : V -> V -> Prop
 | .agg cs, .agg ds => All2 (fun v c => FzC H v c \/ NB0 H v c) cs ds
 | _, _ => False
theorem nba (hp : ∀ id cs, H id = some cs -> HB G W id cs) {v c : V} {x : Value} (hb : NBA H v c) (hx : R2 G W v x) : R2 { G with Im := fzIm G H } W c x := by
 unfold NBA at hb
 split at hb
 . rename_i cs ds
   obtain ⟨cv, rfl, hr⟩ := hx
   refine ⟨cv, rfl, All2.of_get (by rw [<- hb.length, hr.length]) fun i d z hd hz => ?_⟩
   obtain ⟨c, hc, hy⟩ := hb.get2 hd
   obtain ⟨u, hu, hru⟩ := hr.get hc
   rw [hz] at hu; cases hu
   rcases hy with ⟨y, rfl, hy⟩ | hy
   . exact R0.r1 (fz0 hp hy (R2.rv (R1.r2 hru)))
   . exact R0.r1 (nb0 hp hy (R2.rv (R1.r2 hru)))
 . exact hb.elim
theorem Cm.lendN {f : FuncId} {args az : List V} {v : Value} {ks : List Nat} (h : Cm P f args (fun _ => none) [] (.ret (.d (.lit v))) (fun _ => none)) (hb : All2 (NBA H) az args) (hw : ∀ i cs, H i = some cs -> ∀ c ∈ cs, AC (InH H) anyD c) : Cm P f az H ks (.ret (.d (.lit v))) H := by
 refine ⟨h.1, fun G W xs him hargs hpre => ?_⟩
 have hlt : ∀ b, fzIm G H b -> b < W.heap.size := by
   rintro b (hb | ⟨i, hi, hph, rfl⟩)
   . exact him.1 b hb
   . obtain ⟨cs, hcs⟩ := Option.isSome_iff_exists.1 hi
     exact (hpre.hb i cs hcs).lt hph
 have hgw : GW (fzIm G H) W := ⟨hlt, him.2.mono fun b hb => ⟨.inl hb, rfl⟩⟩
 have hargs' : All2 (R2 { G with Im := fzIm G H } W) args xs.toList := All2.of_get (by rw [<- hb.length, hargs.length]) fun i d z hd hz => by
   obtain ⟨c, hc, hy⟩ := hb.get2 hd
   obtain ⟨u, hu, hru⟩ := hargs.get hc
   rw [hz] at hu; cases hu
   exact nba hpre.hb hy hru
 refine Calls.mono (h.2 { G with Im := fzIm G H } W xs hgw hargs' ⟨fun i cs h => (by cases h), fun i j h => (by simp [InH] at h), fun i h => (by cases h)⟩) fun e W' ⟨G', p⟩ => ?_
 have hblk : ∀ b, b < W.heap.size -> W'.heap[b]? = W.heap[b]? := fun b hb => p.block b hb fun ⟨i, hi, _⟩ => by simp [InH] at hi
 have hchg : Chg (fun _ => True) G W G W' := ⟨fun i _ => ⟨rfl, rfl, rfl, rfl⟩, fun b hb => ⟨hb, hblk b (him.1 b hb)⟩⟩
 refine ⟨G, p.os, p.tape, p.output, p.drawn, p.size, fun b hb _ => hblk b hb, fun b hb => ⟨Nat.lt_of_lt_of_le (him.1 b hb) p.size, .inl hb⟩, fun b hb => hb, ?_, trivial, fun i cs hcs => ⟨?_, fun hph => .inr ⟨i, by show (H i).isSome = true; rw [hcs]; rfl, hph, rfl⟩, hw i cs hcs⟩, hpre.inj, fun i hi _ => ⟨rfl, rfl, (hpre.st i hi).2, rfl⟩⟩
 . have hrv := p.rv
   cases e with
   | returned z =>
     have := rv_lit hrv
     subst this
     cases (show RD _ _ _ _ from hrv) with
     | lit _ hf => exact RD.lit _ hf
   | _ => exact hrv.elim
 . exact hchg.hb trivial (fun c hc => AC.mono (fun _ _ => trivial) (fun _ h => h) (hw i cs hcs c hc)) (hpre.hb i cs hcs) (fun hph => hblk _ ((hpre.hb i cs hcs).lt hph)) fun hx _ => hx
theorem ren1_keep {ρ : Nat -> Nat} {p : Nat -> Prop} (hρ : ∀ i, p i -> ρ i = i) {v : V} (hv : V.isCell v = true) (h : A1 p anyD v) : renC ρ v = v := by
 cases v with
 | d x => rfl
 | lp i off => show V.lp (ρ i) off = _; rw [hρ i h]
 | ls i off len sz => show V.ls (ρ i) off len sz = _; rw [hρ i h]
 | yl i => show V.yl (ρ i) = _; rw [hρ i h]
 | cl f caps =>
   show V.cl f (caps.map (ren0 ρ)) = _
   have : caps.map (ren0 ρ) = caps.map id := List.map_congr_left fun c hc => by
     have := h c hc
     cases c with
     | lp i off => show V.lp (ρ i) off = _; rw [hρ i this]; rfl
     | ls i off len sz => show V.ls (ρ i) off len sz = _; rw [hρ i this]; rfl
     | yl i => show V.yl (ρ i) = _; rw [hρ i this]; rfl
     | _ => rfl
   rw [this, List.map_id]
 | _ => simp [V.isCell] at hv
theorem ACall.nest {m : CM} {Hr H : Hp} {b : Nat} {g : FuncId} {az : List V} {Kc Kx : V -> Hp -> Prop} (args : List V) (N : List Nat) {v : Value} (hf : Cm P g args (fun _ => none) [] (.ret (.d (.lit v))) (fun _ => none))
   (hN : ∀ i ∈ N, ∃ cs, Hr i = some cs /\ H i = some cs /\ cs ≠ [] /\ ∀ c ∈ cs, V.isCell c = true /\ A1 (fun i => i ∈ N) anyD c)
   (hr : All2 (Bor noH) az az) (hb : All2 (NBA (hpOf Hr N)) az args) (hk : Kc (.d (.lit v)) H) : ACall P m Hr H b g az Kc Kx := by
 have hin : ∀ i cs, hpOf Hr N i = some cs -> i ∈ N /\ Hr i = some cs := fun i cs h => by
   unfold hpOf at h; split at h
   . rename_i hi; exact ⟨hi, h⟩
   . cases h
 have his : ∀ i, InH (hpOf Hr N) i -> i ∈ N := fun i h => by
   obtain ⟨cs, hcs⟩ := Option.isSome_iff_exists.1 h
   exact (hin i cs hcs).1
 have hsi : ∀ i, i ∈ N -> InH (hpOf Hr N) i := fun i hi => by
   obtain ⟨cs, h1, _⟩ := hN i hi
   show (hpOf Hr N i).isSome = true
   unfold hpOf; rw [if_pos hi, h1]; rfl
 have hkeep : ∀ i, i ∈ N -> ∀ cs, Hr i = some cs -> cs.map (renC (sg N b)) = cs := fun i hi cs h => by
   obtain ⟨cs', h1, _, _, h3⟩ := hN i hi
   rw [h] at h1; cases h1
   have : cs.map (renC (sg N b)) = cs.map id := List.map_congr_left fun c hc => ren1_keep (fun j hj => by unfold sg; rw [if_pos hj]) (h3 c hc).1 (h3 c hc).2
   rw [this, List.map_id]
 have hHeap : heapM H b (hpOf Hr N) N (hpOf Hr N) = H := by
   funext id
   unfold heapM
   by_cases hi : id ∈ N
   . obtain ⟨cs, h1, h2, _⟩ := hN id hi
     rw [if_pos hi, show hpOf Hr N id = some cs by unfold hpOf; rw [if_pos hi, h1], h2]
     exact congrArg some (hkeep id hi cs h1)
   . rw [if_neg hi, if_neg (show ¬ (hpOf Hr N id).isSome = true from fun h => hi (his id h))]
     split
     . by_cases hj : id - b ∈ N
       . rw [if_pos hj]
       . rw [if_neg hj, show hpOf Hr N (id - b) = none by unfold hpOf; rw [if_neg hj]]
     . rfl
 refine ⟨az, hpOf Hr N, N, .ret (.d (.lit v)), hpOf Hr N, _, ⟨Cm.lendN hf hb fun i cs h c hc => ?_, fun i cs h => (hin i cs h).2, fun i h hn => absurd (his i h) hn, fun i hi => ?_, .inl hr⟩, ?_, rfl, ?_⟩
 . obtain ⟨hi, h1⟩ := hin i cs h
   obtain ⟨cs', h2, _, _, h3⟩ := hN i hi
   rw [h1] at h2; cases h2
   exact (A1.mono hsi (fun _ h => h) (h3 c hc).2).ac
 . obtain ⟨cs, h1, _, h2, _⟩ := hN i hi
   exact ⟨cs, by unfold hpOf; rw [if_pos hi, h1], h2⟩
 . cases m with
   | none => trivial
   | some p =>
     refine ⟨fun r _ id h => ?_, fun r h => by cases h⟩
     rcases h with ⟨hi, hne⟩ | ⟨hi, hs⟩
     . obtain ⟨cs, h1, _⟩ := hN id hi
       rw [show hpOf Hr N id = some cs by unfold hpOf; rw [if_pos hi, h1]] at hne
       exact absurd (congrArg some (hkeep id hi cs h1)) hne
     . exact absurd (his id hs) hi
 . show Kc _ _
   rw [hHeap]
   exact hk
end Go.Psl
namespace Go.Psl
variable {P : Program} {E : Ent}
theorem HpOk.of {ρ : Nat -> Option Nat} {H : Hp} : ∀ {l : List (Nat × List V)}, (∀ p ∈ l, ∃ j cs, ρ p.1 = some j /\ H j = some cs /\ All2 (WC ρ) cs p.2 /\ cellsOk p.2) -> HpOk ρ H l
 | [], _ => trivial
 | p :: r, h => by
   refine ⟨?_, HpOk.of fun q hq => h q (by simp [hq])⟩
   obtain ⟨j, cs, h1, h2, h3, h4⟩ := h p (by simp)
   rw [h1]
   exact ⟨⟨cs, h2, h3⟩, h4⟩
theorem RhoInj.of {ρ : Nat -> Option Nat} : ∀ {l : List (Nat × List V)}, (∀ p ∈ l, ∀ q ∈ l, ρ q.1 = ρ p.1 -> q.1 = p.1) -> RhoInj ρ l
 | [], _ => trivial
 | p :: r, h => ⟨fun q hq => by
     by_cases e : ρ q.1 = ρ p.1
     . exact .inr (.inr (h p (by simp) q (by simp [hq]) e))
     . exact .inr (.inl e), RhoInj.of fun a ha b hb => h a (by simp [ha]) b (by simp [hb])⟩
theorem HpIds.of {n : Nat} : ∀ {l : List (Nat × List V)}, (∀ p ∈ l, p.1 < n /\ ∀ c ∈ p.2, AC (· < n) anyD c) -> HpIds n l
 | [], _ => trivial
 | p :: r, h => ⟨(h p (by simp)).1, (h p (by simp)).2, HpIds.of fun q hq => h q (by simp [hq])⟩
theorem lk_app {α : Type} : ∀ (l m : List (Nat × α)) (i : Nat), lk (l ++ m) i = (lk l i).or (lk m i)
 | [], m, i => by simp [lk]
 | p :: r, m, i => by
   simp only [List.cons_append, lk]
   split
   . rfl
   . exact lk_app r m i
theorem lk_memE {α : Type} : ∀ {l : List (Nat × α)} {i : Nat} {x : α}, lk l i = some x -> (i, x) ∈ l
 | [], _, _, h => by simp [lk] at h
 | p :: r, i, x, h => by
   simp only [lk] at h
   split at h
   . rename_i e; cases h; subst e; simp
   . exact List.mem_cons_of_mem _ (lk_memE h)
theorem wc_same {ρ : Nat -> Option Nat} (p : Nat -> Prop) (hρ : ∀ i, p i -> ρ i = some i) : ∀ {cs : List V}, (∀ c ∈ cs, (∃ x, c = .d x) \/ ∃ i o l z, c = .ls i o l z /\ p i) -> All2 (WC ρ) cs cs
 | [], _ => trivial
 | c :: r, h => by
   refine ⟨?_, wc_same p hρ fun d hd => h d (by simp [hd])⟩
   rcases h c (by simp) with ⟨x, rfl⟩ | ⟨i, o, l, z, rfl, hp⟩
   . simp
   . simp [hρ i hp]
theorem ok_dls {cs : List V} (h : ∀ c ∈ cs, (∃ x, c = .d x) \/ ∃ i o l z, c = .ls i o l z /\ True) : cellsOk cs := .inl (List.all_eq_true.2 fun c hc => by
 rcases h c hc with ⟨x, rfl⟩ | ⟨i, o, l, z, rfl, _⟩ <;> rfl)
theorem Weak.sub {st : St} (hs : ∀ i, ¬ E.stab i) (l : List (Nat × V)) (h : Hp) (n : Nat) (h1 : SlotsOk (fun i => some i) st.fr l) (h2 : ∀ i cs, h i = some cs -> st.H i = some cs /\ (∀ c ∈ cs, (∃ x, c = .d x) \/ ∃ i o l z, c = .ls i o l z /\ True)) (h4 : SlotsIds n l) (h5 : IdsFn n h) : Weak P E st ⟨slots l, h, n⟩ :=
 Weak.fn (fun i => some i) _ _ n h1.at (fun i cs hi => .inl ⟨i, cs, rfl, (h2 i cs hi).1, wc_same (fun _ => True) (fun _ _ => rfl) (h2 i cs hi).2, ok_dls (h2 i cs hi).2⟩) (fun i i' j _ _ e e' => by cases e; cases e'; rfl) h4.at h5 fun i hi => absurd hi (hs i)
end Go.Psl
namespace Go.Proofs.Tryd
open Go.Psl
open Go.Stb
open Go.Log
def mgArg (k : Nat) (x : Etr) : V := if x.a = [] then .d (intsD []) else .ls (k + 3) 0 x.a.length 1
def mgRow (k : Nat) (x : Etr) : List V := [vi x.t, vS x.w, mgArg k x, vS x.n]
def mgC : Nat -> List Etr -> List V
 | _, [] => []
 | k, x :: r => mgRow k x ++ mgC (k + 1) r
def mgB : Nat -> List Etr -> List (Nat × List V)
 | _, [] => []
 | k, x :: r => (if x.a = [] then [] else [(k + 3, fcel intL x.a)]) ++ mgB (k + 1) r
def mgS (M : List Etr) (i : Nat) : List V := mgC 0 (M.take i) ++ cellsI (M.drop i)
theorem mgC_len : ∀ (A : List Etr) (k : Nat), (mgC k A).length = A.length * 4
 | [], _ => rfl
 | x :: r, k => by rw [mgC, List.length_append, mgC_len r, List.length_cons]; show 4 + _ = _; omega
theorem mgC_app : ∀ (A B : List Etr) (k : Nat), mgC k (A ++ B) = mgC k A ++ mgC (k + A.length) B
 | [], B, k => rfl
 | x :: r, B, k => by
   rw [List.cons_append, mgC, mgC_app r B, mgC, List.append_assoc, List.length_cons, show k + 1 + r.length = k + (r.length + 1) by omega]
theorem mgB_app : ∀ (A B : List Etr) (k : Nat), mgB k (A ++ B) = mgB k A ++ mgB (k + A.length) B
 | [], B, k => rfl
 | x :: r, B, k => by
   rw [List.cons_append, mgB, mgB_app r B, mgB, List.append_assoc, List.length_cons, show k + 1 + r.length = k + (r.length + 1) by omega]
theorem mgB_mem : ∀ {A : List Etr} {k : Nat} {p : Nat × List V}, p ∈ mgB k A -> ∃ i x, A[i]? = some x /\ x.a ≠ [] /\ p = (k + i + 3, fcel intL x.a)
 | [], _, _, h => by cases h
 | x :: r, k, p, h => by
   rw [mgB] at h
   rcases List.mem_append.1 h with h | h
   . by_cases h0 : x.a = []
     . rw [if_pos h0] at h; cases h
     . rw [if_neg h0] at h
       exact ⟨0, x, rfl, h0, List.mem_singleton.1 h⟩
   . obtain ⟨i, y, h1, h2, h3⟩ := mgB_mem h
     exact ⟨i + 1, y, h1, h2, by rw [h3, show k + 1 + i + 3 = k + (i + 1) + 3 by omega]⟩
theorem mgB_lk : ∀ {A : List Etr} {k i : Nat} {x : Etr}, A[i]? = some x -> x.a ≠ [] -> lk (mgB k A) (k + i + 3) = some (fcel intL x.a)
 | [], _, _, _, h, _ => by simp at h
 | y :: r, k, 0, x, h, h0 => by
   simp at h; subst h
   rw [mgB, if_neg h0]
   simp
 | y :: r, k, i + 1, x, h, h0 => by
   have ih := mgB_lk (A := r) (k := k + 1) (i := i) (by simpa using h) h0
   rw [mgB, lk_app, show k + (i + 1) + 3 = k + 1 + i + 3 by omega, ih]
   split
   . rfl
   . simp only [lk]
     rw [if_neg (by omega)]
     rfl
theorem mgB_in {A : List Etr} {k j : Nat} {cs : List V} (h : lk (mgB k A) j = some cs) : ∃ i x, A[i]? = some x /\ x.a ≠ [] /\ j = k + i + 3 /\ cs = fcel intL x.a := by
 obtain ⟨i, x, h1, h2, h3⟩ := mgB_mem (lk_memE h)
 cases h3
 exact ⟨i, x, h1, h2, rfl, rfl⟩
theorem mgC_cell : ∀ {A : List Etr} {k : Nat}, ∀ c ∈ mgC k A, (∃ x, c = .d x) \/ ∃ i o l z, c = .ls i o l z /\ ∃ n y, A[n]? = some y /\ y.a ≠ [] /\ i = k + n + 3
 | [], _, _, h => by cases h
 | x :: r, k, c, h => by
   rw [mgC] at h
   rcases List.mem_append.1 h with h | h
   . simp only [mgRow, List.mem_cons, List.not_mem_nil, or_false] at h
     rcases h with rfl | rfl | rfl | rfl
     . exact .inl ⟨_, rfl⟩
     . exact .inl ⟨_, rfl⟩
     . unfold mgArg
       split
       . exact .inl ⟨_, rfl⟩
       . rename_i h0
         exact .inr ⟨_, _, _, _, rfl, 0, x, rfl, h0, rfl⟩
     . exact .inl ⟨_, rfl⟩
   . rcases mgC_cell c h with h | ⟨i, o, l, z, h1, n, y, h2, h3, h4⟩
     . exact .inl h
     . exact .inr ⟨i, o, l, z, h1, n + 1, y, h2, h3, by omega⟩
theorem mgS_zero (M : List Etr) : mgS M 0 = cellsI M := by simp [mgS, mgC]
theorem mgS_all (M : List Etr) : mgS M M.length = mgC 0 M := by simp [mgS, spD]
theorem mgS_len (M : List Etr) {i : Nat} (h : i <= M.length) : (mgS M i).length = M.length * 4 := by
 have e : (cellsI (M.drop i)).length = (M.length - i) * 4 := by rw [spD_fcel, fcel_len (sz := 4) (fun _ => rfl), List.length_drop]
 rw [mgS, List.length_append, mgC_len, e, List.length_take]
 omega
theorem mgS_split {M : List Etr} {i : Nat} {x : Etr} (h : M[i]? = some x) : mgS M i = mgC 0 (M.take i) ++ ([vi x.t, vS x.w, .d (intsD x.a), vS x.n] ++ cellsI (M.drop (i + 1))) /\ (mgC 0 (M.take i)).length = i * 4 := by
 have hi := (List.getElem?_eq_some_iff.1 h).1
 refine ⟨?_, by rw [mgC_len, List.length_take, Nat.min_eq_left (by omega)]⟩
 rw [mgS, List.drop_eq_getElem_cons hi, (List.getElem?_eq_some_iff.1 h).2]
 simp [cellsI, spD]
theorem dropAll {l : List V} {n : Nat} (h : l.length <= n) : l.drop n = [] := List.drop_eq_nil_of_le h
theorem mgS_args {M : List Etr} {i : Nat} {x : Etr} (h : M[i]? = some x) : List.take 1 (List.drop (i * 4 + 2) (mgS M i)) = [.d (intsD x.a)] := by
 obtain ⟨e, hl⟩ := mgS_split h
 rw [e, List.drop_append, dropAll (l := mgC 0 (M.take i)) (by omega), hl, show i * 4 + 2 - i * 4 = 2 by omega]
 rfl
theorem mgS_put {M : List Etr} {i : Nat} {x : Etr} (h : M[i]? = some x) (v : V) : splice (mgS M i) (i * 4 + 2) [v] = mgC 0 (M.take i) ++ ([vi x.t, vS x.w, v, vS x.n] ++ cellsI (M.drop (i + 1))) := by
 obtain ⟨e, hl⟩ := mgS_split h
 rw [e]
 show List.take (i * 4 + 2) _ ++ [v] ++ List.drop (i * 4 + 2 + 1) _ = _
 rw [List.drop_append, dropAll (l := mgC 0 (M.take i)) (by omega), hl, show i * 4 + 2 + 1 - i * 4 = 3 by omega, List.take_append, List.take_of_length_le (l := mgC 0 (M.take i)) (by omega), hl, show i * 4 + 2 - i * 4 = 2 by omega]
 simp
theorem mgS_succ {M : List Etr} {i : Nat} {x : Etr} (h : M[i]? = some x) : mgS M (i + 1) = mgC 0 (M.take i) ++ (mgRow i x ++ cellsI (M.drop (i + 1))) /\ mgB 0 (M.take (i + 1)) = mgB 0 (M.take i) ++ (if x.a = [] then [] else [(i + 3, fcel intL x.a)]) := by
 have hi := (List.getElem?_eq_some_iff.1 h).1
 have e : M.take (i + 1) = M.take i ++ [x] := by rw [List.take_add_one, h]; rfl
 have el : (M.take i).length = i := by rw [List.length_take]; omega
 constructor
 . rw [mgS, e, mgC_app, el]
   simp [mgC]
 . rw [e, mgB_app, el]
   simp [mgB]
theorem mg_ids (s : By) (M : List Etr) : ResIds (.tup [.agg [vS s, .ls 0 0 M.length 4], vi 0]) ((0, mgC 0 M) :: mgB 0 M) := by
 refine ⟨by simp [InB, lk], fun p hp c hc => ?_⟩
 rcases List.mem_cons.1 hp with rfl | hp
 . rcases mgC_cell c hc with ⟨x, rfl⟩ | ⟨i, o, l, z, rfl, n, y, h1, h2, rfl⟩
   . trivial
   . show (lk ((0, mgC 0 M) :: mgB 0 M) (0 + n + 3)).isSome = true
     simp only [lk]
     rw [if_neg (by omega), mgB_lk h1 h2]
     rfl
 . obtain ⟨i, x, _, _, rfl⟩ := mgB_mem hp
   obtain ⟨y, _, rfl⟩ := List.mem_map.1 hc
   trivial
theorem mg_at {A : List Etr} {j : Nat} {cs : List V} (h : lk (mgB 0 A) j = some cs) : j ≠ 0 /\ j ≠ 1 /\ j ≠ 2 /\ j < A.length + 3 := by
 obtain ⟨i, x, e1, e2, rfl, e4⟩ := mgB_in h
 have := (List.getElem?_eq_some_iff.1 e1).1
 exact ⟨by omega, by omega, by omega, by omega⟩
theorem mgC_wc {ρ : Nat -> Option Nat} {A : List Etr} (h : ∀ i, i < A.length -> ρ (i + 3) = some (i + 3)) : All2 (WC ρ) (mgC 0 A) (mgC 0 A) :=
 wc_same (fun i => ∃ n, n < A.length /\ i = n + 3) (fun i ⟨n, h1, h2⟩ => by rw [h2]; exact h n h1) fun c hc => by
   rcases mgC_cell c hc with h | ⟨i, o, l, z, h1, n, y, h2, h3, h4⟩
   . exact .inl h
   . exact .inr ⟨i, o, l, z, h1, n, (List.getElem?_eq_some_iff.1 h2).1, by omega⟩
theorem dls_wc {ρ : Nat -> Option Nat} (ds : List D) : All2 (WC ρ) (ds.map .d) (ds.map .d) := wc_same (fun _ => False) (fun _ h => h.elim) fun c hc => by
 obtain ⟨y, _, rfl⟩ := List.mem_map.1 hc
 exact .inl ⟨_, rfl⟩
theorem mgS_cell {M : List Etr} {n : Nat} : ∀ c ∈ mgS M n, (∃ x, c = .d x) \/ ∃ i o l z, c = .ls i o l z /\ ∃ k, k < M.length /\ i = k + 3 := fun c hc => by
 rcases List.mem_append.1 hc with hc | hc
 . rcases mgC_cell c hc with h | ⟨i, o, l, z, h1, k, y, h2, h3, h4⟩
   . exact .inl h
   . refine .inr ⟨i, o, l, z, h1, k, ?_, by omega⟩
     have := (List.getElem?_eq_some_iff.1 h2).1
     rw [List.length_take] at this
     omega
 . obtain ⟨y, _, rfl⟩ := List.mem_map.1 hc
   exact .inl ⟨_, rfl⟩
theorem mg_weak {E : Ent} (hE : ∀ i, ¬ E.stab i) {st : St} (r : Nat -> Nat) (M : List Etr) (n : Nat) (hM : M.length <= 900) (hr : ∀ i j, i < 1000 -> j < 1000 -> r i = r j -> i = j) (l : List (Nat × V)) (c1 c2 : List V)
   (hs : SlotsOk (fun i => some (r i)) st.fr l) (hi : SlotsIds 1000 l) (h0 : ∃ cs, st.H (r 0) = some cs /\ All2 (WC fun i => some (r i)) cs (mgS M n))
   (h1 : ∃ cs, st.H (r 1) = some cs /\ All2 (WC fun i => some (r i)) cs c1) (h2 : ∃ cs, st.H (r 2) = some cs /\ All2 (WC fun i => some (r i)) cs c2)
   (k1 : cellsOk c1 /\ ∀ c ∈ c1, AC (· < 1000) anyD c) (k2 : cellsOk c2 /\ ∀ c ∈ c2, AC (· < 1000) anyD c)
   (hB : ∀ j cs, lk (mgB 0 (M.take n)) j = some cs -> st.H (r j) = some cs) : Weak prog E st ⟨slots l, lk ((0, mgS M n) :: (1, c1) :: (2, c2) :: mgB 0 (M.take n)), 1000⟩ := by
 have hB' : ∀ p ∈ mgB 0 (M.take n), st.H (r p.1) = some p.2 /\ p.1 < 1000 /\ ∃ q, p.2 = fcel intL q := fun p hp => by
   obtain ⟨i, x, e1, e2, rfl⟩ := mgB_mem hp
   have hlt := (List.getElem?_eq_some_iff.1 e1).1
   rw [List.length_take] at hlt
   exact ⟨hB _ _ (mgB_lk e1 e2), by show 0 + i + 3 < 1000; omega, _, rfl⟩
 have hlt : ∀ p ∈ ((0, mgS M n) :: (1, c1) :: (2, c2) :: mgB 0 (M.take n)), p.1 < 1000 := fun p hp => by
   rcases List.mem_cons.1 hp with rfl | hp
   . show (_ : Nat) < 1000; simp
   rcases List.mem_cons.1 hp with rfl | hp
   . show (_ : Nat) < 1000; simp
   rcases List.mem_cons.1 hp with rfl | hp
   . show (_ : Nat) < 1000; simp
   exact (hB' p hp).2.1
 refine Weak.mk hE (fun i => some (r i)) _ _ _ hs ⟨⟨h0, .inl (List.all_eq_true.2 fun c hc => ?_)⟩, ⟨h1, k1.1⟩, ⟨h2, k2.1⟩, HpOk.of fun p hp => ?_⟩ (RhoInj.of fun p hp q hq e => hr _ _ (hlt q hq) (hlt p hp) (Option.some.inj e)) hi ⟨by show 0 < 1000; omega, fun c hc => ?_, by show 1 < 1000; omega, k1.2, by show 2 < 1000; omega, k2.2, HpIds.of fun p hp => ⟨(hB' p hp).2.1, fun c hc => ?_⟩⟩
 . rcases mgS_cell c hc with ⟨x, rfl⟩ | ⟨i, o, l, z, rfl, _⟩ <;> rfl
 . obtain ⟨e1, _, q, e2⟩ := hB' p hp
   refine ⟨_, _, rfl, e1, by rw [e2]; exact dls_wc _, .inl (List.all_eq_true.2 fun c hc => ?_)⟩
   rw [e2] at hc
   obtain ⟨y, _, rfl⟩ := List.mem_map.1 hc
   rfl
 . rcases mgS_cell c hc with ⟨x, rfl⟩ | ⟨i, o, l, z, rfl, k, hk, rfl⟩
   . trivial
   . show k + 3 < 1000; omega
 . obtain ⟨_, _, q, e2⟩ := hB' p hp
   rw [e2] at hc
   obtain ⟨y, _, rfl⟩ := List.mem_map.1 hc
   trivial
theorem mg_raw (a b : Lg) (ha : okLg a = true) (hb : okLg b = true) (sa : SizedL a) (sb : SizedL b) (hs : a.s = b.s) (hn : ¬ 200 < a.es.length + b.es.length) : Ct prog 7 [logV a, logV b] (.tup [.agg [vS a.s, .ls 0 0 (mergeK Etr.t a.es b.es).length 4], vi 0]) ((0, mgC 0 (mergeK Etr.t a.es b.es)) :: mgB 0 (mergeK Etr.t a.es b.es)) := by
 have ca := fn12 a sa
 have cb := fn12 b sb
 rw [ha, if_pos rfl] at ca
 rw [hb, if_pos rfl] at cb
 obtain ⟨ta, pa⟩ := ok_tm ha
 obtain ⟨tb, pb⟩ := ok_tm hb
 have cu := fn14 a.es b.es (by omega) (by omega) ta tb pa pb
 have hl : (mergeK Etr.t a.es b.es).length = a.es.length + b.es.length := by rw [(mergeK_perm _ _ _).length_eq, List.length_append]
 have w1 : IntKind.wrap .i64 ((a.es.length : Int) + b.es.length) = ((a.es.length + b.es.length : Nat) : Int) := by rw [wrap64 (by omega) (by omega)]; omega
 have n1 : ¬ (200 : Int) < (a.es.length : Int) + b.es.length := by omega
 have hA : ∀ x ∈ mergeK Etr.t a.es b.es, x.a.length <= 1000000 := fun x hx => by
   have hm := (mergeK_perm Etr.t a.es b.es).mem_iff.1 hx
   have he : entS x = true := by
     rcases List.mem_append.1 hm with h | h
     . exact ordS_ents (ok_all ha).2.2 x h
     . exact ordS_ents (ok_all hb).2.2 x h
   simp only [entS, Bool.and_eq_true, decide_eq_true_eq] at he
   omega
 generalize mergeK Etr.t a.es b.es = M at cu hl hA ⊢
 refine Ct.by gok eok mixed func7 c7 rfl (by simp [ntmps7]) (by simp) (mg_ids _ _) fun E hE => ?_
 simp [p7]
 refine CLa ca ?_
 simp
 refine CLa cb ?_
 simp [hs, w1, n1]
 refine CLb (cu) (by first | (simp; done) | simp [Bor_ls, Bor1_ls, inC, Nat.testBit]) ?_
 simp [splice]
 refine pw_loop (α := Nat) (fun i => ⟨slots [(4, .lp 1 0), (6, .lp 2 0), (42, vi M.length), (43, vi i)], lk ((0, mgS M i) :: (1, [vS [], .d (.lit (.slice none 0 0))]) :: (2, [vS b.s, .ls 0 0 M.length 4]) :: mgB 0 (M.take i)), 1000⟩) (fun i => i <= M.length) (fun i => M.length - i) 0 ?_ ?_ ?_
 . omega
 . rw [mgS_zero]
   show Weak _ _ _ ⟨_, lk [_, _, _], _⟩
   exact WK hE (lk [(0, 32505856), (1, 2097152), (2, 34603008)])
 . intro i hi
   have hz := @wz i (by omega)
   have hSl := mgS_len M hi
   by_cases h : i < M.length
   . obtain ⟨x, hx⟩ := gE h
     have hI : (i : Int) < M.length := by omega
     have hld := mgS_args hx
     have hsp := mgS_put hx
     obtain ⟨hs1, hs2⟩ := mgS_succ hx
     have h5 : i * 4 + 2 + 1 <= M.length * 4 := by omega
     have h6 : i * 4 + 2 < M.length * 4 := by omega
     by_cases h0 : x.a = []
     . have cc := clone_nil0
       rw [h0] at hld
       simp [p7l0, hI, inC, Nat.testBit, hld, h5, hSl]
       refine CLb (cc) (by first | (simp; done) | simp [Bor_ls, Bor1_ls, inC, Nat.testBit]) ?_
       simp [hI, hz, hsp, h5, hSl]
       refine ⟨i + 1, by omega, by omega, ?_⟩
       rw [if_pos h0, List.append_nil] at hs2
       have hro : mgRow i x = [vi x.t, vS x.w, .d (.sl 1 []), vS x.n] := by unfold mgRow mgArg; rw [if_pos h0]; rfl
       refine mg_weak hE (fun i => i) M (i + 1) (by omega) (fun _ _ _ _ e => e) _ _ _ (by simp) (by simp) ⟨_, by simp; rfl, ?_⟩ ⟨_, by simp; rfl, by simp⟩ ⟨_, by simp; rfl, by simp⟩ ⟨by simp, by simp⟩ ⟨by simp, by simp⟩ fun j cs hj => ?_
       . rw [hs1, hro]
         exact All2.append (mgC_wc fun _ _ => rfl) ⟨by simp, by simp, by simp, by simp, dls_wc _⟩
       . rw [hs2] at hj
         obtain ⟨k2, k3, k4, k5⟩ := mg_at hj
         simp [hj, k2, k3, k4]
     . have cc := clone_raw x.a h0 (hA x (List.mem_of_getElem? hx))
       simp [p7l0, hI, inC, Nat.testBit, hld, h5, hSl]
       refine CLb (cc) (by first | (simp; done) | simp [Bor_ls, Bor1_ls, inC, Nat.testBit]) ?_
       simp [hI, hz, hsp, h5, hSl]
       refine ⟨i + 1, by omega, by omega, ?_⟩
       rw [if_neg h0] at hs2
       have hro : mgRow i x = [vi x.t, vS x.w, .ls (i + 3) 0 x.a.length 1, vS x.n] := by unfold mgRow mgArg; rw [if_neg h0]
       have q0 : ¬ 0 = i + 3 := by omega
       have q1 : ¬ 1 = i + 3 := by omega
       have q2 : ¬ 2 = i + 3 := by omega
       have q3 : i + 3 ≠ 12583912 := by omega
       refine mg_weak hE (fun j => if j = i + 3 then 12583912 else j) M (i + 1) (by omega) (fun a b _ _ e => by
         by_cases ha : a = i + 3
         . by_cases hb : b = i + 3
           . rw [ha, hb]
           . rw [if_pos ha, if_neg hb] at e; omega
         . by_cases hb : b = i + 3
           . rw [if_neg ha, if_pos hb] at e; omega
           . rw [if_neg ha, if_neg hb] at e; exact e) _ _ _ (by simp) (by simp) ⟨_, by simp; rfl, ?_⟩ ⟨_, by simp; rfl, by simp⟩ ⟨_, by simp; rfl, by simp⟩ ⟨by simp, by simp⟩ ⟨by simp, by simp⟩ fun j cs hj => ?_
       . rw [hs1, hro]
         refine All2.append (mgC_wc fun k hk => ?_) ⟨by simp, by simp, by simp, by simp, dls_wc _⟩
         rw [List.length_take] at hk
         rw [if_neg (by omega)]
       . rw [hs2, lk_app] at hj
         cases hj2 : lk (mgB 0 (M.take i)) j with
         | some y =>
           rw [hj2] at hj
           cases hj
           obtain ⟨k2, k3, k4, k5⟩ := mg_at hj2
           rw [List.length_take] at k5
           have k6 : j ≠ i + 3 := by omega
           have k7 : j ≠ 12583912 := by omega
           simp [hj2, k2, k3, k4, k6, k7]
         | none =>
           rw [hj2] at hj
           simp only [lk, Option.none_or] at hj
           split at hj
           . rename_i e; cases hj; simp [e]
           . cases hj
   . have hI : ¬ (i : Int) < M.length := by omega
     obtain rfl : i = M.length := by omega
     rw [mgS_all, List.take_length]
     simp [p7l0, hI, splice]
     refine RetOk.by (fun i => some i) ?_
     simp [results7]
     refine ⟨⟨⟨mgC_wc fun _ _ => rfl, .inl (List.all_eq_true.2 fun c hc => ?_)⟩, HpOk.of fun p hp => ?_⟩, fun a _ _ => by omega, RhoInj.of fun p hp q hq e => Option.some.inj e⟩
     . rcases mgC_cell c hc with ⟨x, rfl⟩ | ⟨i, o, l, z, rfl, _⟩ <;> rfl
     . obtain ⟨k, x, e1, e2, rfl⟩ := mgB_mem hp
       have hj := mgB_lk (k := 0) e1 e2
       obtain ⟨k2, k3, k4, k5⟩ := mg_at hj
       refine ⟨_, fcel intL x.a, rfl, ?_, dls_wc _, .inl (List.all_eq_true.2 fun c hc => ?_)⟩
       . clear hp
         show upd _ _ _ (0 + k + 3) = _
         generalize 0 + k + 3 = j at *
         generalize fcel intL x.a = cs at *
         simp [hj, k2, k3, k4]
       obtain ⟨y, _, rfl⟩ := List.mem_map.1 hc
       rfl
end Go.Proofs.Tryd
