/- Contracts: what each function of the program computes, for the arguments that its theorem names; and from there the given statement. Conditions: those that each theorem states. -/
import Derived.Test.YtaedloehfgmcnaaRd
import Derived.Test.YtaedloehfgmcnaaRc
import Derived.Test.YtaedloehfgmcnaaFr
namespace Go.Proofs.Try
open Go.Psl
open Go.Geo (cross cyc InR box hullS)
theorem sort_self {l m : List (Int × Int)} (h : ∀ x, x ∈ m ↔ x ∈ l) : ddC (sortC m) = ddC (sortC l) :=
  sorted_unique (sorted_dd m) (sorted_dd l) fun x => by rw [ddC_mem, sortC_mem, ddC_mem, sortC_mem]; exact h x
/-- a hull is the hull of its corners -/
theorem hullP_again (l : List (Int × Int)) : hullP (hullP l) = hullP l := by
  unfold hullP
  exact Go.Geo.hullS_again (sorted_dd l) (sorted_dd _) fun x => by rw [ddC_mem, sortC_mem]
theorem hullP_le (l : List (Int × Int)) : (hullP l).length ≤ l.length := by
  have h1 := Go.Geo.hull_le (sorted_dd l)
  have h2 : (ddC (sortC l)).length ≤ l.length := by
    have := dd_len (sortC l) (sortC l).length
    rw [List.take_length, sortC_len] at this; exact this
  unfold hullP; omega
theorem hullP_sub {l : List (Int × Int)} {q : Int × Int} (h : q ∈ hullP l) : q ∈ l := by
  have := Go.Geo.hull_sub (sorted_dd l) q h
  rwa [ddC_mem, sortC_mem] at this
/-- the hull of points that are near and not too many is a region -/
theorem reg_of_hull {l : List (Int × Int)} (h : hullE l = 0) : regS (hullP l) = true := by
  unfold hullE at h
  split at h
  · cases h
  rename_i h1
  split at h
  · cases h
  rename_i h2
  simp only [not_or] at h2
  have hn : nearC l = true := by cases hc : nearC l; exact absurd hc h2.2; rfl
  have hne := hullP_ne (l := l) (by omega)
  have hle := hullP_le l
  have hpos : 0 < (hullP l).length := List.length_pos_iff.2 hne
  have hn2 : nearC (hullP l) = true := List.all_eq_true.2 fun q hq => List.all_eq_true.1 hn q (hullP_sub hq)
  unfold regS
  rw [decide_eq_true (by omega), decide_eq_true (by omega), hn2, decide_eq_true (hullP_again l)]; rfl
/-- a hull holds its points -/
theorem hull_ins {l : List (Int × Int)} (h : hullE l = 0) {q : Int × Int} (hq : q ∈ l) : insS (hullP l) q = true := by
  rw [insS_iff (reg_of_hull h)]
  exact Go.Geo.hull_in (sorted_dd l) q (by rw [ddC_mem, sortC_mem]; exact hq)
/-- a region that holds all corners of another one holds all that this one holds -/
theorem ins_trans {r s : List (Int × Int)} (hr : regS r = true) (hs : regS s = true) (h : ∀ v ∈ r, insS s v = true) {p : Int × Int} (hp : insS r p = true) : insS s p = true := by
  obtain ⟨er, _⟩ := reg_hull hr
  have hi := (insS_iff hr p).1 hp
  rw [insS_iff hs]
  have key : ∀ α β M : Int, (∀ v ∈ r, α * v.1 + β * v.2 ≤ M) → α * p.1 + β * p.2 ≤ M := fun α β M hv =>
    Go.Geo.in_max (l := ddC (sortC r)) (sorted_dd r) (by rw [← er]; exact hv) (p := p) (by rw [← er]; exact hi)
  have hc : ∀ v ∈ r, InR s v := fun v hv => (insS_iff hs v).1 (h v hv)
  refine ⟨fun e he => ?_, ?_⟩
  · have := key (e.2.2 - e.1.2) (e.1.1 - e.2.1) ((e.2.2 - e.1.2) * e.1.1 + (e.1.1 - e.2.1) * e.1.2) fun v hv => by
      have := (hc v hv).1 e he
      have k : cross e.1 e.2 v = ((e.2.2 - e.1.2) * e.1.1 + (e.1.1 - e.2.1) * e.1.2) - ((e.2.2 - e.1.2) * v.1 + (e.1.1 - e.2.1) * v.2) := by unfold cross; grind
      omega
    have k : cross e.1 e.2 p = ((e.2.2 - e.1.2) * e.1.1 + (e.1.1 - e.2.1) * e.1.2) - ((e.2.2 - e.1.2) * p.1 + (e.1.1 - e.2.1) * p.2) := by unfold cross; grind
    omega
  · by_cases hl : 2 < s.length
    · exact Or.inl hl
    · right
      obtain ⟨a, b, ha, hb⟩ : ∃ a b, s.head? = some a ∧ s.getLast? = some b := by
        have h1 := regS_len hs
        cases e1 : s.head? with
        | none => rw [List.head?_eq_none_iff] at e1; rw [e1] at h1; simp at h1
        | some a =>
          cases e2 : s.getLast? with
          | none => rw [List.getLast?_eq_none_iff] at e2; rw [e2] at h1; simp at h1
          | some b => exact ⟨a, b, rfl, rfl⟩
      have hbx : ∀ v ∈ r, box a b v := fun v hv => by
        rcases (hc v hv).2 with h | ⟨a', b', h1, h2, h3⟩
        · exact absurd h hl
        · rw [ha] at h1; rw [hb] at h2; cases h1; cases h2; exact h3
      refine ⟨a, b, ha, hb, ?_⟩
      have k1 := key 1 0 (max a.1 b.1) fun v hv => by have := hbx v hv; unfold box at this; omega
      have k2 := key (-1) 0 (-(min a.1 b.1)) fun v hv => by have := hbx v hv; unfold box at this; omega
      have k3 := key 0 1 (max a.2 b.2) fun v hv => by have := hbx v hv; unfold box at this; omega
      have k4 := key 0 (-1) (-(min a.2 b.2)) fun v hv => by have := hbx v hv; unfold box at this; omega
      unfold box; omega
theorem ins_corner {r : List (Int × Int)} (h : regS r = true) {q : Int × Int} (hq : q ∈ r) : insS r q = true := by
  rw [insS_iff h]
  obtain ⟨er, _⟩ := reg_hull h
  rw [er] at hq ⊢
  exact Go.Geo.hull_in (sorted_dd r) q (Go.Geo.hull_sub (sorted_dd r) q hq)
/-- a region holds the hull just if it holds all points -/
theorem all_hull {l s : List (Int × Int)} (h : hullE l = 0) (hs : regS s = true) : (hullP l).all (insS s) = l.all (insS s) := by
  rw [Bool.eq_iff_iff, List.all_eq_true, List.all_eq_true]
  constructor
  · intro hc q hq
    exact ins_trans (reg_of_hull h) hs hc (hull_ins h hq)
  · intro hc q hq
    exact hc q (hullP_sub hq)
end Go.Proofs.Try
namespace Go.Proofs.Try
open Go.Psl
open Go.Geo (cross cyc InR box hullS)
theorem hull_fz (hS : SortOk) (l : List (Int × Int)) (hl : l.length ≤ 1000000000) : Ct prog 49 [.d (spansD l)] (.tup [.d (spansD (hullO l)), vi (hullE l)]) [] := by
  obtain ⟨z, c⟩ := fn49 hS l hl
  exact Cm.freeze c ⟨fz_outZ _ z, Or.inl rfl, trivial⟩
def hitC (c : Int × Int) (l : List (Int × Int)) : Bool := l.any fun q => decide (q.1 = c.1) && decide (q.2 = c.2)
theorem hitC_take {c : Int × Int} {l : List (Int × Int)} {i : Nat} {q : Int × Int} (h : l[i]? = some q) : hitC c (l.take (i + 1)) = (hitC c (l.take i) || (decide (q.1 = c.1) && decide (q.2 = c.2))) := by
  unfold hitC; rw [List.take_add_one, h, List.any_append]; simp
theorem hitC_mem {c : Int × Int} {l : List (Int × Int)} (h : c ∈ l) : hitC c l = true := List.any_eq_true.2 ⟨c, h, by simp⟩
def allM (m l : List (Int × Int)) : Bool := regS m && l.all (insS m)
theorem allM_take {m l : List (Int × Int)} {i : Nat} {q : Int × Int} (h : l[i]? = some q) : allM m (l.take (i + 1)) = (allM m (l.take i) && insS m q) := by
  unfold allM; rw [List.take_add_one, h, List.all_append]; simp [Bool.and_assoc]
set_option maxHeartbeats 4000000 in
set_option maxRecDepth 20000 in
theorem hul_pts (hS : SortOk) (l m H : List (Int × Int)) (hl : l.length ≤ 80) (hm : m.length ≤ 80) (hH : H.length ≤ 80) (rH : regS H = true) (hin : ∀ q ∈ l, insS H q = true) (hok : ∀ q ∈ l, okC q = true) {E : Ent} (hE : ∀ i, ¬ E.stab i) {Q : AExit → St → Prop} : ∀ i : Nat, i ≤ l.length → PW prog tys eqs E p16l0
    (seqQ (fun st' => ∃ j, j ≤ l.length ∧ l.length - j < l.length - i ∧ Weak prog E st' ⟨slots [(0, .d (spansD l)), (1, .d (spansD m)), (5, vb true), (6, .d (spansD H)), (10, vb (allM m (l.take j))), (72, .d (spansD l)), (73, vi l.length), (74, vi j)], lk [], 0⟩)
      (exC prog E Q 0 (fun _ : Unit => ⟨slots [(0, .d (spansD l)), (1, .d (spansD m)), (5, vb true), (6, .d (spansD H)), (10, vb (allM m l))], lk [], 0⟩) (fun _ => True)))
    ⟨slots [(0, .d (spansD l)), (1, .d (spansD m)), (5, vb true), (6, .d (spansD H)), (10, vb (allM m (l.take i))), (72, .d (spansD l)), (73, vi l.length), (74, vi i)], lk [], 0⟩ := by
  intro i hi
  simp [p16l0]
  refine cR_split (fun h => ?_) (fun h => ?_)
  · simp at h
    obtain ⟨x, hx⟩ : ∃ x, l[i]? = some x := ⟨_, List.getElem?_eq_getElem h⟩
    have hxm := List.mem_of_getElem? hx
    have hst := allM_take (m := m) hx
    have hz : IntKind.wrap .i64 ((i : Int) + 1) = ((i + 1 : Nat) : Int) := by rw [wrap64 (by omega) (by omega)]; omega
    have e1 : inV H x = true := by unfold inV; rw [rH, hok x hxm, hin x hxm]; rfl
    have e2 : regE H = 0 := by unfold regE; rw [rH]; rfl
    have d1 := fn51 hS H x (by omega)
    have d2 := fn51 hS m x (by omega)
    rw [e1, e2] at d1
    obtain ⟨B, hB⟩ : ∃ B, allM m (l.take i) = B := ⟨_, rfl⟩
    rw [hB] at hst ⊢
    cases hr : regS m
    · have e3 : regE m = 14 := by unfold regE; rw [hr]; rfl
      have hB0 : B = false := by rw [← hB]; unfold allM; rw [hr]; rfl
      subst hB0
      rw [e3] at d2
      simp [hx, splice]
      refine ACall.mk _ _ _ (d1) (by first | (simp; done) | simp [Bor_ls, Bor1_ls]) (by simp) (by first | (left; simp; done) | (right; simp; done)) ?_
      simp
      refine ACall.mk _ _ _ (d2) (by first | (simp; done) | simp [Bor_ls, Bor1_ls]) (by simp) (by first | (left; simp; done) | (right; simp; done)) ?_
      simp [hz]
      refine ⟨i + 1, by omega, by omega, ?_⟩
      rw [hst]
      refine Weak.mk hE (lk []) _ _ _ ?_ ?_ ?_ ?_ ?_ <;> simp
    · have e3 : regE m = 0 := by unfold regE; rw [hr]; rfl
      have e4 : inV m x = insS m x := by unfold inV; rw [hr, hok x hxm]; rfl
      rw [e3, e4] at d2
      simp [hx, splice]
      refine ACall.mk _ _ _ (d1) (by first | (simp; done) | simp [Bor_ls, Bor1_ls]) (by simp) (by first | (left; simp; done) | (right; simp; done)) ?_
      simp
      refine ACall.mk _ _ _ (d2) (by first | (simp; done) | simp [Bor_ls, Bor1_ls]) (by simp) (by first | (left; simp; done) | (right; simp; done)) ?_
      cases B
      · simp [hz]
        refine ⟨i + 1, by omega, by omega, ?_⟩
        rw [hst]
        refine Weak.mk hE (lk []) _ _ _ ?_ ?_ ?_ ?_ ?_ <;> simp
      · simp [hz]
        refine ⟨i + 1, by omega, by omega, ?_⟩
        rw [hst]
        refine Weak.mk hE (lk []) _ _ _ ?_ ?_ ?_ ?_ ?_ <;> simp
  · simp at h
    have e : i = l.length := by omega
    rw [e, List.take_length]
    simp
    refine Weak.mk hE (lk []) _ _ _ ?_ ?_ ?_ ?_ ?_ <;> simp
set_option maxHeartbeats 4000000 in
set_option maxRecDepth 20000 in
theorem hul_find (l m H : List (Int × Int)) (A : Bool) (c : Int × Int) (k : Nat) (hl : l.length ≤ 80) {E : Ent} (hE : ∀ i, ¬ E.stab i) {Q : AExit → St → Prop} : ∀ i : Nat, i ≤ l.length → PW prog tys eqs E p16l1
    (seqQ (fun st' => ∃ j, j ≤ l.length ∧ l.length - j < l.length - i ∧ Weak prog E st' ⟨slots [(0, .d (spansD l)), (1, .d (spansD m)), (5, vb true), (6, .d (spansD H)), (10, vb A), (18, .lp 0 0), (19, vb (hitC c (l.take j))), (105, .d (spansD H)), (106, vi H.length), (107, vi k), (111, .d (spansD l)), (112, vi l.length), (113, vi j)], lk [(0, [vi c.1, vi c.2])], 1⟩)
      (exC prog E Q 4 (fun _ : Unit => ⟨slots [(0, .d (spansD l)), (1, .d (spansD m)), (5, vb true), (6, .d (spansD H)), (10, vb A), (19, vb (hitC c l)), (105, .d (spansD H)), (106, vi H.length), (107, vi k)], lk [], 0⟩) (fun _ => True)))
    ⟨slots [(0, .d (spansD l)), (1, .d (spansD m)), (5, vb true), (6, .d (spansD H)), (10, vb A), (18, .lp 0 0), (19, vb (hitC c (l.take i))), (105, .d (spansD H)), (106, vi H.length), (107, vi k), (111, .d (spansD l)), (112, vi l.length), (113, vi i)], lk [(0, [vi c.1, vi c.2])], 1⟩ := by
  intro i hi
  simp [p16l1]
  refine cR_split (fun h => ?_) (fun h => ?_)
  · simp at h
    obtain ⟨x, hx⟩ : ∃ x, l[i]? = some x := ⟨_, List.getElem?_eq_getElem h⟩
    have hst := hitC_take (c := c) hx
    have hz : IntKind.wrap .i64 ((i : Int) + 1) = ((i + 1 : Nat) : Int) := by rw [wrap64 (by omega) (by omega)]; omega
    obtain ⟨B, hB⟩ : ∃ B, hitC c (l.take i) = B := ⟨_, rfl⟩
    rw [hB] at hst ⊢
    cases B
    · simp [hx, hz, splice]
      refine ⟨i + 1, by omega, by omega, ?_⟩
      rw [hst, Bool.false_or]
      refine Weak.mk hE (lk [(0, 0)]) _ _ _ ?_ ?_ ?_ ?_ ?_ <;> simp
    · simp [hx, hz, splice]
      refine ⟨i + 1, by omega, by omega, ?_⟩
      rw [hst, Bool.true_or]
      refine Weak.mk hE (lk [(0, 0)]) _ _ _ ?_ ?_ ?_ ?_ ?_ <;> simp
  · simp at h
    have e : i = l.length := by omega
    rw [e, List.take_length]
    simp
    refine Weak.mk hE (lk []) _ _ _ ?_ ?_ ?_ ?_ ?_ <;> simp
set_option maxHeartbeats 4000000 in
set_option maxRecDepth 20000 in
theorem hul_cor (l m H : List (Int × Int)) (A : Bool) (hl : l.length ≤ 80) (hH : H.length ≤ 80) (hsub : ∀ c ∈ H, c ∈ l) {E : Ent} (hE : ∀ i, ¬ E.stab i) {Q : AExit → St → Prop} : ∀ k : Nat, k ≤ H.length → PW prog tys eqs E p16l2
    (seqQ (fun st' => ∃ j, j ≤ H.length ∧ H.length - j < H.length - k ∧ Weak prog E st' ⟨slots [(0, .d (spansD l)), (1, .d (spansD m)), (5, vb true), (6, .d (spansD H)), (10, vb A), (105, .d (spansD H)), (106, vi H.length), (107, vi j)], lk [], 0⟩)
      (exC prog E Q 2 (fun _ : Unit => ⟨slots [(0, .d (spansD l)), (1, .d (spansD m)), (5, vb true), (6, .d (spansD H)), (10, vb A)], lk [], 0⟩) (fun _ => True)))
    ⟨slots [(0, .d (spansD l)), (1, .d (spansD m)), (5, vb true), (6, .d (spansD H)), (10, vb A), (105, .d (spansD H)), (106, vi H.length), (107, vi k)], lk [], 0⟩ := by
  intro k hk
  simp [p16l2]
  refine cR_split (fun h => ?_) (fun h => ?_)
  · simp at h
    obtain ⟨c, hc⟩ : ∃ c, H[k]? = some c := ⟨_, List.getElem?_eq_getElem h⟩
    have hz : IntKind.wrap .i64 ((k : Int) + 1) = ((k + 1 : Nat) : Int) := by rw [wrap64 (by omega) (by omega)]; omega
    have hhit : hitC c l = true := hitC_mem (hsub c (List.mem_of_getElem? hc))
    simp [hc, splice]
    refine pw_loopC (α := Nat) 4 (fun _ : Unit => ⟨slots [(0, .d (spansD l)), (1, .d (spansD m)), (5, vb true), (6, .d (spansD H)), (10, vb A), (19, vb (hitC c l)), (105, .d (spansD H)), (106, vi H.length), (107, vi k)], lk [], 0⟩) (fun _ => True) (fun j => ⟨slots [(0, .d (spansD l)), (1, .d (spansD m)), (5, vb true), (6, .d (spansD H)), (10, vb A), (18, .lp 0 0), (19, vb (hitC c (l.take j))), (105, .d (spansD H)), (106, vi H.length), (107, vi k), (111, .d (spansD l)), (112, vi l.length), (113, vi j)], lk [(0, [vi c.1, vi c.2])], 1⟩) (fun j => j ≤ l.length) (fun j => l.length - j) 0 ?_ ?_ ?_ fun _ _ => ?_
    · simp
    · refine Weak.mk hE (lk [(0, 3145728)]) _ _ _ ?_ ?_ ?_ ?_ ?_ <;> simp [hitC]
    · exact hul_find l m H A c k hl hE
    · rw [hhit]
      simp [hz]
      refine ⟨k + 1, by omega, by omega, ?_⟩
      refine Weak.mk hE (lk []) _ _ _ ?_ ?_ ?_ ?_ ?_ <;> simp
  · simp at h
    have e : k = H.length := by omega
    simp
    refine Weak.mk hE (lk []) _ _ _ ?_ ?_ ?_ ?_ ?_ <;> simp
end Go.Proofs.Try
namespace Go.Proofs.Try
open Go.Psl
open Go.Geo (cross cyc InR box hullS)
set_option maxHeartbeats 16000000 in
set_option maxRecDepth 20000 in
theorem fn16 (hS : SortOk) (l m : List (Int × Int)) : Ct prog 16 [.d (spansD l), .d (spansD m)] (vb true) [] := by
  have c0 := fn58 hS
  refine Ct.by gok eok mixed func16 c16 rfl (by simp [ntmps16]) (by simp) (by simp [ResIds]) fun E hE => ?_
  simp [p16]
  refine ACall.mk _ _ _ (c0) (by first | (simp; done) | simp [Bor_ls, Bor1_ls]) (by simp) (by first | (left; simp; done) | (right; simp; done)) ?_
  simp
  refine ACall.mk _ _ _ (fn48 l) (by first | (simp; done) | simp [Bor_ls, Bor1_ls]) (by simp) (by first | (left; simp; done) | (right; simp; done)) ?_
  by_cases g1 : 80 < l.length
  · simp [g1]
    refine RetOk.by (fun _ => none) ?_
    simp [results16]
  simp [g1]
  refine ACall.mk _ _ _ (fn48 m) (by first | (simp; done) | simp [Bor_ls, Bor1_ls]) (by simp) (by first | (left; simp; done) | (right; simp; done)) ?_
  by_cases g2 : 80 < m.length
  · simp [g2]
    refine RetOk.by (fun _ => none) ?_
    simp [results16]
  simp [g2]
  refine ACall.mk _ _ _ (hull_fz hS l (by omega)) (by first | (simp; done) | simp [Bor_ls, Bor1_ls]) (by simp) (by first | (left; simp; done) | (right; simp; done)) ?_
  by_cases he : hullE l = 0
  case neg =>
    have e1 : hullO l = [] := hullE_pos he
    rw [e1]
    simp [he]
    refine RetOk.by (fun _ => none) ?_
    simp [results16]
  have rH := reg_of_hull he
  have eO : hullO l = hullP l := by unfold hullO; rw [if_pos he]
  have hin : ∀ q ∈ l, insS (hullP l) q = true := fun q hq => hull_ins he hq
  have hsub : ∀ c ∈ hullP l, c ∈ l := fun c hc => hullP_sub hc
  have hle := hullP_le l
  have hok : ∀ q ∈ l, okC q = true := by
    intro q hq
    have hn : nearC l = true := by
      unfold hullE at he
      split at he
      · cases he
      split at he
      · cases he
      · rename_i h; cases hc : nearC l; exact absurd (Or.inr hc) h; rfl
    exact List.all_eq_true.1 hn q hq
  have hall := fun h => all_hull he (s := m) h
  have hag := hullP_again l
  have eE : hullE (hullP l) = 0 := by
    have hb := rH
    unfold regS at hb
    simp only [Bool.and_eq_true, decide_eq_true_eq] at hb
    unfold hullE
    rw [if_neg (by omega), if_neg]
    rintro (h | h)
    · omega
    · rw [h] at hb; cases hb.1.2
  have eO2 : hullO (hullP l) = hullP l := by unfold hullO; rw [if_pos eE, hag]
  have rl := regS_len rH
  rw [eO, he]
  obtain ⟨H, hH⟩ : ∃ H, hullP l = H := ⟨_, rfl⟩
  rw [hH] at rH hin hsub hall eE eO2 rl hle ⊢
  have d1 := hull_fz hS H (by omega)
  rw [eE, eO2] at d1
  have d2 := fn55 hS H (by omega)
  rw [rH] at d2
  have d3 := fn57 H H (by omega) (by omega)
  have d4 := fn55 hS m (by omega)
  have d5 := fn53 hS H m (by omega) (by omega)
  have d6 := fn53 hS H H (by omega) (by omega)
  have w1 : wiV H H = true := by
    unfold wiV; rw [rH]
    have : H.all (insS H) = true := List.all_eq_true.2 fun q hq => ins_corner rH hq
    rw [this]; rfl
  have w2 : regE2 H H = 0 := by unfold regE2; rw [rH]; rfl
  rw [w1, w2] at d6
  simp
  repeat ((first | (refine ACall.mk _ _ _ (d1) ?_ ?_ ?_ ?_; (focus (simp; done)); (focus (simp; done)); (focus (first | (left; simp; done) | (right; simp; done)))) | (refine ACall.mk _ _ _ (d2) ?_ ?_ ?_ ?_; (focus (simp; done)); (focus (simp; done)); (focus (first | (left; simp; done) | (right; simp; done)))) | (refine ACall.mk _ _ _ (d3) ?_ ?_ ?_ ?_; (focus (simp; done)); (focus (simp; done)); (focus (first | (left; simp; done) | (right; simp; done)))) | (refine ACall.mk _ _ _ (d4) ?_ ?_ ?_ ?_; (focus (simp; done)); (focus (simp; done)); (focus (first | (left; simp; done) | (right; simp; done))))); simp)
  have ea : allM m ([] : List (Int × Int)) = regS m := by unfold allM; simp
  refine pw_loopC (α := Nat) 0 (fun _ : Unit => ⟨slots [(0, .d (spansD l)), (1, .d (spansD m)), (5, vb true), (6, .d (spansD H)), (10, vb (allM m l))], lk [], 0⟩) (fun _ => True) (fun j => ⟨slots [(0, .d (spansD l)), (1, .d (spansD m)), (5, vb true), (6, .d (spansD H)), (10, vb (allM m (l.take j))), (72, .d (spansD l)), (73, vi l.length), (74, vi j)], lk [], 0⟩) (fun j => j ≤ l.length) (fun j => l.length - j) 0 ?_ ?_ ?_ fun _ _ => ?_
  · simp
  · refine Weak.mk hE (lk []) _ _ _ ?_ ?_ ?_ ?_ ?_ <;> simp [ea]
  · exact hul_pts hS l m H (by omega) (by omega) (by omega) rH hin hok hE
  · simp
    refine pw_loopC (α := Nat) 2 (fun _ : Unit => ⟨slots [(0, .d (spansD l)), (1, .d (spansD m)), (5, vb true), (6, .d (spansD H)), (10, vb (allM m l))], lk [], 0⟩) (fun _ => True) (fun j => ⟨slots [(0, .d (spansD l)), (1, .d (spansD m)), (5, vb true), (6, .d (spansD H)), (10, vb (allM m l)), (105, .d (spansD H)), (106, vi H.length), (107, vi j)], lk [], 0⟩) (fun j => j ≤ H.length) (fun j => H.length - j) 0 ?_ ?_ ?_ fun _ _ => ?_
    · simp
    · refine Weak.mk hE (lk []) _ _ _ ?_ ?_ ?_ ?_ ?_ <;> simp
    · exact hul_cor l m H (allM m l) (by omega) (by omega) hsub hE
    · cases hr : regS m
      · have e1 : wiV H m = false := by unfold wiV; rw [hr, Bool.and_false]; rfl
        have e2 : regE2 H m = 14 := by unfold regE2; rw [hr, Bool.and_false]; rfl
        rw [e1, e2] at d5
        rw [hr] at d4
        simp
        refine ACall.mk _ _ _ (d5) (by first | (simp; done) | simp [Bor_ls, Bor1_ls]) (by simp) (by first | (left; simp; done) | (right; simp; done)) ?_
        simp
        refine ACall.mk _ _ _ (d4) (by first | (simp; done) | simp [Bor_ls, Bor1_ls]) (by simp) (by first | (left; simp; done) | (right; simp; done)) ?_
        simp
        refine RetOk.by (fun _ => none) ?_
        simp [results16]
      · have e1 : wiV H m = allM m l := by unfold wiV allM; rw [hr, rH, hall hr]; rfl
        have e2 : regE2 H m = 0 := by unfold regE2; rw [hr, rH]; rfl
        rw [e1, e2] at d5
        rw [hr] at d4
        simp
        refine ACall.mk _ _ _ (d5) (by first | (simp; done) | simp [Bor_ls, Bor1_ls]) (by simp) (by first | (left; simp; done) | (right; simp; done)) ?_
        simp
        refine ACall.mk _ _ _ (d4) (by first | (simp; done) | simp [Bor_ls, Bor1_ls]) (by simp) (by first | (left; simp; done) | (right; simp; done)) ?_
        simp
        refine ACall.mk _ _ _ (d6) (by first | (simp; done) | simp [Bor_ls, Bor1_ls]) (by simp) (by first | (left; simp; done) | (right; simp; done)) ?_
        simp
        refine RetOk.by (fun _ => none) ?_
        simp [results16]
end Go.Proofs.Try
