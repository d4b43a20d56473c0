/- Contracts: what each function of the program computes, for the arguments that its theorem names; and from there the given statement. Conditions: those that each theorem states. -/
import Derived.Test.YtaedloehfgmcnaaRb
import Derived.Test.YtaedloehfgmcnaaRc
import Derived.Test.YtaedloehfgmcnaaFr
namespace Go.Proofs.Try
open Go.Psl
open Go.Geo (cross cyc InR box hullS)
/-- the greatest value over the corners -/
theorem al_step (l : List (Int × Int)) (dx dy : Int) : ∀ i, i ≤ l.length → (∀ (j : Nat) q, j < i → l[j]? = some q → (alN l dx dy i).1 ≤ dotS dx dy q ∧ dotS dx dy q ≤ (alN l dx dy i).2) ∧ (0 < i → (∃ (j : Nat) (q : Int × Int), j < i ∧ l[j]? = some q ∧ dotS dx dy q = (alN l dx dy i).2) ∧ ∃ (j : Nat) (q : Int × Int), j < i ∧ l[j]? = some q ∧ dotS dx dy q = (alN l dx dy i).1)
  | 0, _ => ⟨fun j q hj => by omega, fun h => by omega⟩
  | i + 1, hi => by
    obtain ⟨h1, h2⟩ := al_step l dx dy i (by omega)
    obtain ⟨p, hp⟩ : ∃ p, l[i]? = some p := ⟨_, List.getElem?_eq_getElem (by omega)⟩
    by_cases h0 : i = 0
    · subst h0
      have e : alN l dx dy (0 + 1) = (dotS dx dy p, dotS dx dy p) := by simp [alN, hp]
      rw [e]
      refine ⟨fun j q hj hq => ?_, fun _ => ⟨⟨0, p, by omega, hp, rfl⟩, 0, p, by omega, hp, rfl⟩⟩
      have : j = 0 := by omega
      subst this
      rw [hp] at hq; cases hq
      exact ⟨Int.le_refl _, Int.le_refl _⟩
    · have e : alN l dx dy (i + 1) = (min (alN l dx dy i).1 (dotS dx dy p), max (alN l dx dy i).2 (dotS dx dy p)) := by simp [alN, hp, h0]
      rw [e]
      obtain ⟨⟨j1, q1, a1, a2, a3⟩, j2, q2, b1, b2, b3⟩ := h2 (by omega)
      refine ⟨fun j q hj hq => ?_, fun _ => ⟨?_, ?_⟩⟩
      · by_cases hji : j = i
        · subst hji
          rw [hp] at hq; cases hq
          simp only; omega
        · have := h1 j q (by omega) hq
          simp only; omega
      · by_cases hm : (alN l dx dy i).2 ≤ dotS dx dy p
        · exact ⟨i, p, by omega, hp, by simp only; omega⟩
        · exact ⟨j1, q1, by omega, a2, by simp only; omega⟩
      · by_cases hm : dotS dx dy p ≤ (alN l dx dy i).1
        · exact ⟨i, p, by omega, hp, by simp only; omega⟩
        · exact ⟨j2, q2, by omega, b2, by simp only; omega⟩
theorem al_max {l : List (Int × Int)} {dx dy : Int} {q : Int × Int} (hq : q ∈ l) : (alongS l dx dy).1 ≤ dotS dx dy q ∧ dotS dx dy q ≤ (alongS l dx dy).2 := by
  obtain ⟨j, hj⟩ := List.getElem?_of_mem hq
  exact (al_step l dx dy l.length (Nat.le_refl _)).1 j q (List.getElem?_eq_some_iff.1 hj).1 hj
theorem al_at {l : List (Int × Int)} {dx dy : Int} (h : 0 < l.length) : (∃ q ∈ l, dotS dx dy q = (alongS l dx dy).2) ∧ ∃ q ∈ l, dotS dx dy q = (alongS l dx dy).1 := by
  obtain ⟨⟨j, q, _, a, b⟩, j', q', _, a', b'⟩ := (al_step l dx dy l.length (Nat.le_refl _)).2 h
  exact ⟨⟨q, List.mem_of_getElem? a, b⟩, q', List.mem_of_getElem? a', b'⟩
/-- no point of a region goes further than its corners -/
theorem in_reach {r : List (Int × Int)} (h : regS r = true) {p : Int × Int} (hp : insS r p = true) (dx dy : Int) : (alongS r dx dy).1 ≤ dotS dx dy p ∧ dotS dx dy p ≤ (alongS r dx dy).2 := by
  obtain ⟨hr, hne⟩ := reg_hull h
  have hi := (insS_iff h p).1 hp
  have hs := sorted_dd r
  constructor
  · have := Go.Geo.in_max (l := ddC (sortC r)) hs (α := -dx) (β := -dy) (M := -(alongS r dx dy).1) (fun v hv => by
      rw [← hr] at hv
      have := (al_max (dx := dx) (dy := dy) hv).1
      unfold dotS at this
      have e1 : -dx * v.1 = -(dx * v.1) := Int.neg_mul _ _
      have e2 : -dy * v.2 = -(dy * v.2) := Int.neg_mul _ _
      omega) (p := p) (by rw [← hr]; exact hi)
    unfold dotS
    have e1 : -dx * p.1 = -(dx * p.1) := Int.neg_mul _ _
    have e2 : -dy * p.2 = -(dy * p.2) := Int.neg_mul _ _
    omega
  · exact Go.Geo.in_max (l := ddC (sortC r)) hs (α := dx) (β := dy) (M := (alongS r dx dy).2) (fun v hv => by
      rw [← hr] at hv
      exact (al_max hv).2) (p := p) (by rw [← hr]; exact hi)
end Go.Proofs.Try
namespace Go.Proofs.Try
open Go.Psl
open Go.Geo (cross cyc InR box hullS)
def rchB (dx dy m : Int) (l : List (Int × Int)) : Bool := l.any fun q => decide (dotS dx dy q = m)
theorem rchB_take {dx dy m : Int} {l : List (Int × Int)} {i : Nat} {q : Int × Int} (h : l[i]? = some q) : rchB dx dy m (l.take (i + 1)) = (rchB dx dy m (l.take i) || decide (dotS dx dy q = m)) := by
  unfold rchB; rw [List.take_add_one, h, List.any_append]; simp
theorem insS_big {r : List (Int × Int)} {p : Int × Int} (h : 3 ≤ r.length) : insS r p = leftL p (cyc r) := by
  match r, h with
  | a :: b :: c :: t, _ => unfold insS; simp
set_option maxHeartbeats 4000000 in
set_option maxRecDepth 20000 in
theorem edg_left (r : List (Int × Int)) (p : Int × Int) (IS : Bool) (hr : ∀ q ∈ r, bd 268435456 q) (hp : bd 268435456 p) (hl : r.length ≤ 64) (h3 : 3 ≤ r.length) {E : Ent} (hE : ∀ i, ¬ E.stab i) {Q : AExit → St → Prop} : ∀ i : Nat, i ≤ r.length → PW prog tys eqs E p15l1
    (seqQ (fun st' => ∃ j, j ≤ r.length ∧ r.length - j < r.length - i ∧ Weak prog E st' ⟨slots [(0, .d (spansD r)), (5, .lp 0 0), (9, vb true), (10, vb IS), (18, vb (leftL p ((cyc r).take j))), (138, .d (spansD r)), (139, vi r.length), (140, vi j)], lk [(0, [vi p.1, vi p.2])], 1⟩)
      (exC prog E Q 2 (fun _ : Unit => ⟨slots [(9, vb true), (10, vb IS), (18, vb (leftL p (cyc r)))], lk [], 0⟩) (fun _ => True)))
    ⟨slots [(0, .d (spansD r)), (5, .lp 0 0), (9, vb true), (10, vb IS), (18, vb (leftL p ((cyc r).take i))), (138, .d (spansD r)), (139, vi r.length), (140, vi i)], lk [(0, [vi p.1, vi p.2])], 1⟩ := by
  intro i hi
  have hcl := Go.Geo.cyc_len r
  obtain ⟨n, hn⟩ : ∃ n, r.length = n := ⟨_, rfl⟩
  rw [hn] at hi hl h3 hcl ⊢
  simp [p15l1]
  refine cR_split (fun h => ?_) (fun h => ?_)
  · simp at h
    obtain ⟨x, hx⟩ : ∃ x, r[i]? = some x := ⟨r[i], by simp [show i < r.length by omega]⟩
    obtain ⟨j, hj⟩ : ∃ j, j = (i + 1) % n := ⟨_, rfl⟩
    have hjn : j < n := by rw [hj]; exact Nat.mod_lt _ (by omega)
    obtain ⟨y, hy⟩ : ∃ y, r[j]? = some y := ⟨r[j], by simp [show j < r.length by omega]⟩
    have hcy := Go.Geo.cyc_at hx (by rw [hn]; exact hj) hy
    have hst := leftL_take (p := p) hcy
    obtain ⟨i1, hi1⟩ : ∃ i1, i1 = i + 1 := ⟨_, rfl⟩
    have hz : IntKind.wrap .i64 ((i : Int) + 1) = (i1 : Int) := by rw [wrap64 (by omega) (by omega)]; omega
    rw [← hi1] at hj hst
    have q1 : (0 : Int) ≤ (i1 : Int).tmod (n : Int) := Int.natCast_nonneg (i1 % n)
    have q2 : ((i1 : Int).tmod (n : Int)).toNat = j := by rw [hj]; rfl
    have hnz : ¬ (n : Int) = 0 := by omega
    have hnz' : ¬ n = 0 := by omega
    have bx := hr x (List.mem_of_getElem? hx)
    have by' := hr y (List.mem_of_getElem? hy)
    have cb := cross_bd (bd_mono bx (show (268435456 : Int) ≤ 536870912 by omega)) (bd_mono by' (show (268435456 : Int) ≤ 536870912 by omega)) (bd_mono hp (show (268435456 : Int) ≤ 536870912 by omega))
    unfold bd at bx by' hp
    have w1 : IntKind.wrap .i64 (y.1 - x.1) = y.1 - x.1 := wrap64 (by omega) (by omega)
    have w2 : IntKind.wrap .i64 (p.2 - x.2) = p.2 - x.2 := wrap64 (by omega) (by omega)
    have w3 : IntKind.wrap .i64 (y.2 - x.2) = y.2 - x.2 := wrap64 (by omega) (by omega)
    have w4 : IntKind.wrap .i64 (p.1 - x.1) = p.1 - x.1 := wrap64 (by omega) (by omega)
    have w5 : IntKind.wrap .i64 ((y.1 - x.1) * (p.2 - x.2)) = (y.1 - x.1) * (p.2 - x.2) := wrap64 (by omega) (by omega)
    have w6 : IntKind.wrap .i64 ((y.2 - x.2) * (p.1 - x.1)) = (y.2 - x.2) * (p.1 - x.1) := wrap64 (by omega) (by omega)
    have w7 : IntKind.wrap .i64 ((y.1 - x.1) * (p.2 - x.2) - (y.2 - x.2) * (p.1 - x.1)) = cross x y p := by unfold cross; exact wrap64 (by omega) (by omega)
    obtain ⟨B, hB⟩ : ∃ B, leftL p ((cyc r).take i) = B := ⟨_, rfl⟩
    rw [hB] at hst ⊢
    cases B
    · simp [hx, hz, hn, splice, hnz', q1, q2, hy]
      refine ⟨i1, by omega, by omega, ?_⟩
      rw [hst]
      refine Weak.mk hE (lk [(0, 0)]) _ _ _ ?_ ?_ ?_ ?_ ?_ <;> simp
    · simp [hx, hz, hn, splice, hnz', q1, q2, hy, w1, w2, w3, w4, w5, w6, w7]
      refine ⟨i1, by omega, by omega, ?_⟩
      rw [hst, Bool.true_and]
      refine Weak.mk hE (lk [(0, 0)]) _ _ _ ?_ ?_ ?_ ?_ ?_ <;> simp
  · simp at h
    have e : i = n := by omega
    rw [e, ← hcl, List.take_length]
    simp
    refine Weak.mk hE (lk []) _ _ _ ?_ ?_ ?_ ?_ ?_ <;> simp
set_option maxHeartbeats 4000000 in
set_option maxRecDepth 20000 in
theorem edg_reach (r : List (Int × Int)) (p : Int × Int) (IS : Bool) (dx dy m : Int) (hr : ∀ q ∈ r, bd 268435456 q) (hd : bd 1073741824 (dx, dy)) (hl : r.length ≤ 64) (hm : ∀ q ∈ r, dotS dx dy q ≤ m) {E : Ent} (hE : ∀ i, ¬ E.stab i) {Q : AExit → St → Prop} : ∀ i : Nat, i ≤ r.length → PW prog tys eqs E p15l0
    (seqQ (fun st' => ∃ j, j ≤ r.length ∧ r.length - j < r.length - i ∧ Weak prog E st' ⟨slots [(0, .d (spansD r)), (2, vi dx), (3, vi dy), (5, .lp 0 0), (9, vb true), (10, vb IS), (12, vi m), (14, vb (rchB dx dy m (r.take j))), (75, .d (spansD r)), (76, vi r.length), (77, vi j)], lk [(0, [vi p.1, vi p.2])], 1⟩)
      (exC prog E Q 0 (fun _ : Unit => ⟨slots [(0, .d (spansD r)), (2, vi dx), (3, vi dy), (5, .lp 0 0), (9, vb true), (10, vb IS), (12, vi m), (14, vb (rchB dx dy m r))], lk [(0, [vi p.1, vi p.2])], 1⟩) (fun _ => True)))
    ⟨slots [(0, .d (spansD r)), (2, vi dx), (3, vi dy), (5, .lp 0 0), (9, vb true), (10, vb IS), (12, vi m), (14, vb (rchB dx dy m (r.take i))), (75, .d (spansD r)), (76, vi r.length), (77, vi i)], lk [(0, [vi p.1, vi p.2])], 1⟩ := by
  intro i hi
  simp [p15l0]
  refine cR_split (fun h => ?_) (fun h => ?_)
  · simp at h
    obtain ⟨x, hx⟩ : ∃ x, r[i]? = some x := ⟨_, List.getElem?_eq_getElem h⟩
    have hst := rchB_take (dx := dx) (dy := dy) (m := m) hx
    have hmx := hm x (List.mem_of_getElem? hx)
    have b := dot_bd hd (bd_mono (hr x (List.mem_of_getElem? hx)) (by omega))
    have w1 : IntKind.wrap .i64 (dx * x.1) = dx * x.1 := wrap64 (by omega) (by omega)
    have w2 : IntKind.wrap .i64 (dy * x.2) = dy * x.2 := wrap64 (by omega) (by omega)
    have w3 : IntKind.wrap .i64 (dx * x.1 + dy * x.2) = dotS dx dy x := wrap64 (by omega) (by omega)
    have hz : IntKind.wrap .i64 ((i : Int) + 1) = ((i + 1 : Nat) : Int) := by rw [wrap64 (by omega) (by omega)]; omega
    have hn : ¬ m < dotS dx dy x := by omega
    obtain ⟨B, hB⟩ : ∃ B, rchB dx dy m (r.take i) = B := ⟨_, rfl⟩
    rw [hB] at hst ⊢
    cases B
    · simp [hx, hz, splice, w1, w2, w3, hn]
      refine ⟨i + 1, by omega, by omega, ?_⟩
      rw [hst, Bool.false_or]
      refine Weak.mk hE (lk [(0, 0)]) _ _ _ ?_ ?_ ?_ ?_ ?_ <;> simp
    · simp [hx, hz, splice, w1, w2, w3, hn]
      refine ⟨i + 1, by omega, by omega, ?_⟩
      rw [hst]
      refine Weak.mk hE (lk [(0, 0)]) _ _ _ ?_ ?_ ?_ ?_ ?_ <;> simp
  · simp at h
    have e : i = r.length := by omega
    rw [e, List.take_length]
    simp
    refine Weak.mk hE (lk [(0, 0)]) _ _ _ ?_ ?_ ?_ ?_ ?_ <;> simp
set_option maxHeartbeats 16000000 in
set_option maxRecDepth 20000 in
theorem fn15 (hS : SortOk) (r : List (Int × Int)) (p : Int × Int) (dx dy : Int) : Ct prog 15 [.d (spansD r), vsp p.1 p.2, vi dx, vi dy] (vb true) [] := by
  have c0 := fn58 hS
  refine Ct.by gok eok mixed func15 c15 rfl (by simp [ntmps15]) (by simp) (by simp [ResIds]) fun E hE => ?_
  simp [p15]
  refine ACall.mk _ _ _ (c0) (by first | (simp; done) | simp [Bor_ls, Bor1_ls]) (by simp) (by first | (left; simp; done) | (right; simp; done)) ?_
  simp
  refine ACall.mk _ _ _ (fn48 r) (by first | (simp; done) | simp [Bor_ls, Bor1_ls]) (by simp) (by first | (left; simp; done) | (right; simp; done)) ?_
  by_cases g1 : 80 < r.length
  · simp [g1]
    refine RetOk.by (fun _ => none) ?_
    simp [results15]
  simp [g1]
  refine ACall.mk _ _ _ (fn55 hS r (by omega)) (by first | (simp; done) | simp [Bor_ls, Bor1_ls]) (by simp) (by first | (left; simp; done) | (right; simp; done)) ?_
  cases h1 : regS r
  · simp
    refine RetOk.by (fun _ => none) ?_
    simp [results15]
  have hb := regS_bd h1
  have hlen := regS_len h1
  simp
  refine ACall.mk _ _ _ (fn51 hS r p (by omega)) (by first | (simp; done) | simp [Bor_ls, Bor1_ls]) (by simp) (by first | (left; simp; done) | (right; simp; done)) ?_
  have hRE : regE r = 0 := by unfold regE; rw [h1]; rfl
  have hin : inV r p = (okC p && insS r p) := by unfold inV; rw [h1]; rfl
  obtain ⟨IS, hIS⟩ : ∃ IS, inV r p = IS := ⟨_, rfl⟩
  rw [hRE, hIS]
  simp
  refine ACall.mk _ _ _ (fn60 hS r dx dy (by omega)) (by first | (simp; done) | simp [Bor_ls, Bor1_ls]) (by simp) (by first | (left; simp; done) | (right; simp; done)) ?_
  cases hst : strS dx dy
  · have e1 : reachE r dx dy = 2 := by unfold reachE; rw [h1, hst]; rfl
    rw [e1]
    cases IS
    · simp
      by_cases h3 : r.length < 3
      · have h3' : (r.length : Int) < 3 := by omega
        simp [h3']
        refine RetOk.by (fun _ => none) ?_
        simp [results15]
      have h3' : ¬ (r.length : Int) < 3 := by omega
      by_cases hx : 268435456 < max p.1 p.2
      · simp [h3', hx]
        refine RetOk.by (fun _ => none) ?_
        simp [results15]
      by_cases hy : min p.1 p.2 < -268435456
      · simp [h3', hx, hy]
        refine RetOk.by (fun _ => none) ?_
        simp [results15]
      have hok : bd 268435456 p := by unfold bd; omega
      have hokb : okC p = true := okC_iff.2 hok
      have hfin : leftL p (cyc r) = false := by rw [← insS_big (by omega), ← hIS, hin, hokb, Bool.true_and]
      simp [h3', hx, hy]
      refine pw_loopC (α := Nat) 2 (fun _ : Unit => ⟨slots [(9, vb true), (10, vb false), (18, vb (leftL p (cyc r)))], lk [], 0⟩) (fun _ => True) (fun i => ⟨slots [(0, .d (spansD r)), (5, .lp 0 0), (9, vb true), (10, vb false), (18, vb (leftL p ((cyc r).take i))), (138, .d (spansD r)), (139, vi r.length), (140, vi i)], lk [(0, [vi p.1, vi p.2])], 1⟩) (fun i => i ≤ r.length) (fun i => r.length - i) 0 ?_ ?_ ?_ fun _ _ => ?_
      · simp
      · refine Weak.mk hE (lk [(0, 0)]) _ _ _ ?_ ?_ ?_ ?_ ?_ <;> simp [leftL]
      · exact edg_left r p false hb hok (by omega) (by omega) hE
      · rw [hfin]
        simp
        refine RetOk.by (fun _ => none) ?_
        simp [results15]
    · have hokp : okC p = true := by rw [hIS] at hin; cases h : okC p; rw [h] at hin; cases hin; rfl
      have hbp := okC_iff.1 hokp
      have n1 : IntKind.wrap .i64 (-p.1) = -p.1 := by unfold bd at hbp; exact wrap64 (by omega) (by omega)
      have n2 : IntKind.wrap .i64 (-p.2) = -p.2 := by unfold bd at hbp; exact wrap64 (by omega) (by omega)
      simp [n1, n2]
      refine cR_split (fun h => ?_) (fun _ => ?_)
      · exfalso
        simp only [decide_eq_true_eq] at h
        unfold bd at hbp; omega
      simp
      by_cases h3 : r.length < 3
      · have h3' : (r.length : Int) < 3 := by omega
        simp [h3']
        refine RetOk.by (fun _ => none) ?_
        simp [results15]
      have h3' : ¬ (r.length : Int) < 3 := by omega
      by_cases hx : 268435456 < max p.1 p.2
      · simp [h3', hx]
        refine RetOk.by (fun _ => none) ?_
        simp [results15]
      by_cases hy : min p.1 p.2 < -268435456
      · simp [h3', hx, hy]
        refine RetOk.by (fun _ => none) ?_
        simp [results15]
      have hok : bd 268435456 p := by unfold bd; omega
      have hokb : okC p = true := okC_iff.2 hok
      have hfin : leftL p (cyc r) = true := by rw [← insS_big (by omega), ← hIS, hin, hokb, Bool.true_and]
      simp [h3', hx, hy]
      refine pw_loopC (α := Nat) 2 (fun _ : Unit => ⟨slots [(9, vb true), (10, vb true), (18, vb (leftL p (cyc r)))], lk [], 0⟩) (fun _ => True) (fun i => ⟨slots [(0, .d (spansD r)), (5, .lp 0 0), (9, vb true), (10, vb true), (18, vb (leftL p ((cyc r).take i))), (138, .d (spansD r)), (139, vi r.length), (140, vi i)], lk [(0, [vi p.1, vi p.2])], 1⟩) (fun i => i ≤ r.length) (fun i => r.length - i) 0 ?_ ?_ ?_ fun _ _ => ?_
      · simp
      · refine Weak.mk hE (lk [(0, 0)]) _ _ _ ?_ ?_ ?_ ?_ ?_ <;> simp [leftL]
      · exact edg_left r p true hb hok (by omega) (by omega) hE
      · rw [hfin]
        simp
        refine RetOk.by (fun _ => none) ?_
        simp [results15]
  · have e1 : reachE r dx dy = 0 := by unfold reachE; rw [h1, hst]; rfl
    have e2 : reachV r dx dy = (alongS r dx dy).2 := by unfold reachV; rw [if_pos e1]
    have hd := strS_iff.1 hst
    have hmx : ∀ q ∈ r, dotS dx dy q ≤ (alongS r dx dy).2 := fun q hq => (al_max hq).2
    have hat : rchB dx dy (alongS r dx dy).2 r = true := by
      obtain ⟨⟨q, hq, e⟩, _⟩ := al_at (dx := dx) (dy := dy) (l := r) (by omega)
      unfold rchB
      exact List.any_eq_true.2 ⟨q, hq, by simp [e]⟩
    have hpm : IS = true → dotS dx dy p ≤ (alongS r dx dy).2 := fun h => by
      rw [h, hin, Bool.and_eq_true] at hIS
      exact (in_reach h1 hIS.2 dx dy).2
    obtain ⟨m, hm⟩ : ∃ m, (alongS r dx dy).2 = m := ⟨_, rfl⟩
    rw [hm] at e2 hmx hat hpm
    rw [e1, e2]
    cases IS
    · simp
      refine pw_loopC (α := Nat) 0 (fun _ : Unit => ⟨slots [(0, .d (spansD r)), (2, vi dx), (3, vi dy), (5, .lp 0 0), (9, vb true), (10, vb false), (12, vi m), (14, vb (rchB dx dy m r))], lk [(0, [vi p.1, vi p.2])], 1⟩) (fun _ => True) (fun i => ⟨slots [(0, .d (spansD r)), (2, vi dx), (3, vi dy), (5, .lp 0 0), (9, vb true), (10, vb false), (12, vi m), (14, vb (rchB dx dy m (r.take i))), (75, .d (spansD r)), (76, vi r.length), (77, vi i)], lk [(0, [vi p.1, vi p.2])], 1⟩) (fun i => i ≤ r.length) (fun i => r.length - i) 0 (by simp) ?_ (edg_reach r p false dx dy m hb hd (by omega) hmx hE) fun _ _ => ?_
      · refine Weak.mk hE (lk [(0, 0)]) _ _ _ ?_ ?_ ?_ ?_ ?_ <;> simp [rchB]
      rw [hat]
      simp
      by_cases h3 : r.length < 3
      · have h3' : (r.length : Int) < 3 := by omega
        simp [h3']
        refine RetOk.by (fun _ => none) ?_
        simp [results15]
      have h3' : ¬ (r.length : Int) < 3 := by omega
      by_cases hx : 268435456 < max p.1 p.2
      · simp [h3', hx]
        refine RetOk.by (fun _ => none) ?_
        simp [results15]
      by_cases hy : min p.1 p.2 < -268435456
      · simp [h3', hx, hy]
        refine RetOk.by (fun _ => none) ?_
        simp [results15]
      have hok : bd 268435456 p := by unfold bd; omega
      have hokb : okC p = true := okC_iff.2 hok
      have hfin : leftL p (cyc r) = false := by rw [← insS_big (by omega), ← hIS, hin, hokb, Bool.true_and]
      simp [h3', hx, hy]
      refine pw_loopC (α := Nat) 2 (fun _ : Unit => ⟨slots [(9, vb true), (10, vb false), (18, vb (leftL p (cyc r)))], lk [], 0⟩) (fun _ => True) (fun i => ⟨slots [(0, .d (spansD r)), (5, .lp 0 0), (9, vb true), (10, vb false), (18, vb (leftL p ((cyc r).take i))), (138, .d (spansD r)), (139, vi r.length), (140, vi i)], lk [(0, [vi p.1, vi p.2])], 1⟩) (fun i => i ≤ r.length) (fun i => r.length - i) 0 ?_ ?_ ?_ fun _ _ => ?_
      · simp
      · refine Weak.mk hE (lk [(0, 0)]) _ _ _ ?_ ?_ ?_ ?_ ?_ <;> simp [leftL]
      · exact edg_left r p false hb hok (by omega) (by omega) hE
      · rw [hfin]
        simp
        refine RetOk.by (fun _ => none) ?_
        simp [results15]
    · have hokp : okC p = true := by rw [hIS] at hin; cases h : okC p; rw [h] at hin; cases hin; rfl
      have hbp := okC_iff.1 hokp
      have n1 : IntKind.wrap .i64 (-p.1) = -p.1 := by unfold bd at hbp; exact wrap64 (by omega) (by omega)
      have n2 : IntKind.wrap .i64 (-p.2) = -p.2 := by unfold bd at hbp; exact wrap64 (by omega) (by omega)
      have hpm' := hpm rfl
      have b := dot_bd hd (bd_mono hbp (by omega))
      have w1 : IntKind.wrap .i64 (dx * p.1) = dx * p.1 := wrap64 (by omega) (by omega)
      have w2 : IntKind.wrap .i64 (dy * p.2) = dy * p.2 := wrap64 (by omega) (by omega)
      have w3 : IntKind.wrap .i64 (dx * p.1 + dy * p.2) = dotS dx dy p := wrap64 (by omega) (by omega)
      have hnm : ¬ m < dotS dx dy p := by omega
      simp [n1, n2]
      refine cR_split (fun h => ?_) (fun _ => ?_)
      · exfalso
        simp only [decide_eq_true_eq] at h
        unfold bd at hbp; omega
      simp
      refine pw_loopC (α := Nat) 0 (fun _ : Unit => ⟨slots [(0, .d (spansD r)), (2, vi dx), (3, vi dy), (5, .lp 0 0), (9, vb true), (10, vb true), (12, vi m), (14, vb (rchB dx dy m r))], lk [(0, [vi p.1, vi p.2])], 1⟩) (fun _ => True) (fun i => ⟨slots [(0, .d (spansD r)), (2, vi dx), (3, vi dy), (5, .lp 0 0), (9, vb true), (10, vb true), (12, vi m), (14, vb (rchB dx dy m (r.take i))), (75, .d (spansD r)), (76, vi r.length), (77, vi i)], lk [(0, [vi p.1, vi p.2])], 1⟩) (fun i => i ≤ r.length) (fun i => r.length - i) 0 (by simp) ?_ (edg_reach r p true dx dy m hb hd (by omega) hmx hE) fun _ _ => ?_
      · refine Weak.mk hE (lk [(0, 0)]) _ _ _ ?_ ?_ ?_ ?_ ?_ <;> simp [rchB]
      rw [hat]
      simp [w1, w2, w3, hnm]
      by_cases h3 : r.length < 3
      · have h3' : (r.length : Int) < 3 := by omega
        simp [h3']
        refine RetOk.by (fun _ => none) ?_
        simp [results15]
      have h3' : ¬ (r.length : Int) < 3 := by omega
      by_cases hx : 268435456 < max p.1 p.2
      · simp [h3', hx]
        refine RetOk.by (fun _ => none) ?_
        simp [results15]
      by_cases hy : min p.1 p.2 < -268435456
      · simp [h3', hx, hy]
        refine RetOk.by (fun _ => none) ?_
        simp [results15]
      have hok : bd 268435456 p := by unfold bd; omega
      have hokb : okC p = true := okC_iff.2 hok
      have hfin : leftL p (cyc r) = true := by rw [← insS_big (by omega), ← hIS, hin, hokb, Bool.true_and]
      simp [h3', hx, hy]
      refine pw_loopC (α := Nat) 2 (fun _ : Unit => ⟨slots [(9, vb true), (10, vb true), (18, vb (leftL p (cyc r)))], lk [], 0⟩) (fun _ => True) (fun i => ⟨slots [(0, .d (spansD r)), (5, .lp 0 0), (9, vb true), (10, vb true), (18, vb (leftL p ((cyc r).take i))), (138, .d (spansD r)), (139, vi r.length), (140, vi i)], lk [(0, [vi p.1, vi p.2])], 1⟩) (fun i => i ≤ r.length) (fun i => r.length - i) 0 ?_ ?_ ?_ fun _ _ => ?_
      · simp
      · refine Weak.mk hE (lk [(0, 0)]) _ _ _ ?_ ?_ ?_ ?_ ?_ <;> simp [leftL]
      · exact edg_left r p true hb hok (by omega) (by omega) hE
      · rw [hfin]
        simp
        refine RetOk.by (fun _ => none) ?_
        simp [results15]
end Go.Proofs.Try
