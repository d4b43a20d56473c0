/- Contracts: what each function of the program computes, for the arguments that its theorem names; and from there the given statement. Conditions: those that each theorem states. -/
import Derived.Test.YtaedloehfgmcnaaHw
import Derived.Test.YtaedloehfgmcnaaHm
import Derived.Test.YtaedloehfgmcnaaFn
namespace Go.Proofs.Try
open Go.Psl
def hitB (out : List (Int × Int)) (x : Int) : Bool := out.any fun p => inS p x
theorem hitB_iff {out : List (Int × Int)} {x : Int} : hitB out x = true ↔ hits out x := by
  unfold hitB hits inS
  simp [List.any_eq_true, Bool.and_eq_true]
theorem hitB_take {out : List (Int × Int)} {x : Int} {m : Nat} {p : Int × Int} (h : out[m]? = some p) : hitB (out.take (m + 1)) x = (hitB (out.take m) x || inS p x) := by
  unfold hitB
  rw [List.take_add_one, h]
  simp
def setN (A : Nat → Bool) (j : Nat) (x : Bool) (n : Nat) : Bool := if n = j then x else A n
set_option maxHeartbeats 4000000 in
set_option maxRecDepth 20000 in
theorem where_inner (l : List (Int × Int × Int)) (y : Int × Int) (c z : Int) (M U out : List (Int × Int)) (A : Nat → Bool) (a b : Int × Int × Int) (e : Nat) (ha : l[0]? = some a) (hb : l[e]? = some b) (we : IntKind.wrap .i64 ((l.length : Int) - 1) = (e : Int)) (hsep : sepd out) (hsh : ∀ p ∈ out, p.1 ≤ p.2 ∧ a.1 ≤ p.1 ∧ p.2 ≤ b.1) (hab : -1073741824 ≤ a.1 ∧ b.1 ≤ 1073741824) (hl : out.length ≤ 1000) {E : Ent} (hE : ∀ i, ¬ E.stab i) {Q : AExit → St → Prop} (i k : Nat) (hik : (i = 0 ∨ i = 1) ∧ (k = 0 ∨ k = 1)) :
    ∀ m : Nat, m ≤ out.length → PW prog tys eqs E p10l0 (seqQ (fun st' => ∃ n, n ≤ out.length ∧ out.length - n < out.length - m ∧ Weak prog E st' ⟨slots [(0, .d (knotsD l)), (9, vb true), (11, vi z), (12, .lp 0 0), (65, .ls 1 0 2 2), (66, vi 2), (67, vi i), (13, vi i), (92, .ls 2 0 2 1), (93, vi 2), (94, vi k), (19, vi k), (20, .d (spansD out)), (99, .d (spansD out)), (100, vi out.length), (101, vi n)], lk [(0, [vb ((setN A (2 * i + k) (hitB (out.take n) z)) 0), vb ((setN A (2 * i + k) (hitB (out.take n) z)) 1), vb ((setN A (2 * i + k) (hitB (out.take n) z)) 2), vb ((setN A (2 * i + k) (hitB (out.take n) z)) 3)]), (1, [vi y.1, vi y.2, vi c, vi y.2]), (2, [.d (spansD M), .d (spansD U)])], 3⟩)
      (exC prog E Q 4 (fun _ : Unit => ⟨slots [(0, .d (knotsD l)), (9, vb true), (11, vi z), (12, .lp 0 0), (65, .ls 1 0 2 2), (66, vi 2), (67, vi i), (13, vi i), (92, .ls 2 0 2 1), (93, vi 2), (94, vi k)], lk [(0, [vb ((setN A (2 * i + k) (hitB out z)) 0), vb ((setN A (2 * i + k) (hitB out z)) 1), vb ((setN A (2 * i + k) (hitB out z)) 2), vb ((setN A (2 * i + k) (hitB out z)) 3)]), (1, [vi y.1, vi y.2, vi c, vi y.2]), (2, [.d (spansD M), .d (spansD U)])], 3⟩) (fun _ => True)))
      ⟨slots [(0, .d (knotsD l)), (9, vb true), (11, vi z), (12, .lp 0 0), (65, .ls 1 0 2 2), (66, vi 2), (67, vi i), (13, vi i), (92, .ls 2 0 2 1), (93, vi 2), (94, vi k), (19, vi k), (20, .d (spansD out)), (99, .d (spansD out)), (100, vi out.length), (101, vi m)], lk [(0, [vb ((setN A (2 * i + k) (hitB (out.take m) z)) 0), vb ((setN A (2 * i + k) (hitB (out.take m) z)) 1), vb ((setN A (2 * i + k) (hitB (out.take m) z)) 2), vb ((setN A (2 * i + k) (hitB (out.take m) z)) 3)]), (1, [vi y.1, vi y.2, vi c, vi y.2]), (2, [.d (spansD M), .d (spansD U)])], 3⟩ := by
  intro m hm
  obtain ⟨hi, hk⟩ := hik
  have w0 : IntKind.wrap .i64 0 = 0 := by decide
  have w1 : IntKind.wrap .i64 1 = 1 := by decide
  have w2 : IntKind.wrap .i64 2 = 2 := by decide
  have w3 : IntKind.wrap .i64 3 = 3 := by decide
  rcases hi with rfl | rfl <;> rcases hk with rfl | rfl <;> simp [p10l0]
  · refine cR_split (fun h => ?_) (fun h => ?_)
    · simp at h
      obtain ⟨p, hp⟩ : ∃ p, out[m]? = some p := ⟨_, List.getElem?_eq_getElem h⟩
      obtain ⟨q1, q2, q3⟩ := hsh p (List.mem_of_getElem? hp)
      have hz : IntKind.wrap .i64 ((m : Int) + 1) = (m : Int) + 1 := wrap64 (by omega) (by omega)
      have n1 : ¬ p.2 < p.1 := by omega
      have n2 : ¬ p.1 < a.1 := by omega
      have n3 : ¬ b.1 < p.2 := by omega
      have ht := hitB_take (x := z) hp
      obtain ⟨B, hB⟩ : ∃ B, hitB (out.take m) z = B := ⟨_, rfl⟩
      rw [hB] at ht
      have d1 := fn71 p z
      have key : 0 < m → ∃ r, out[m - 1]? = some r ∧ ¬ p.1 ≤ IntKind.wrap .i64 (r.2 + 1) := fun h0 => by
        obtain ⟨r, hr⟩ : ∃ r, out[m - 1]? = some r := ⟨_, List.getElem?_eq_getElem (by omega)⟩
        have e1 := hsep (m - 1) r p hr (by rw [show m - 1 + 1 = m by omega]; exact hp)
        have e2 := hsh r (List.mem_of_getElem? hr)
        refine ⟨r, hr, ?_⟩
        rw [wrap64 (by omega) (by omega)]; omega
      have wm : 0 < m → IntKind.wrap .i64 ((m : Int) - 1) = ((m - 1 : Nat) : Int) := fun h0 => by rw [wrap64 (by omega) (by omega)]; omega
      rw [hB]
      by_cases h0 : 0 < m
      · obtain ⟨r, hr, hr2⟩ := key h0
        have hw := wm h0
        cases B
        · simp [hp, splice, inC, Nat.testBit, n1, n2, n3, ha, hb, we, h0, hw, hr, hr2, setN, w0]
          refine ACall.mk _ _ _ (d1) (by first | (simp; done) | simp [Bor_ls, Bor1_ls]) (by simp) (by first | (left; simp; done) | (right; simp; done)) ?_
          simp [splice, hz]
          refine ⟨m + 1, by omega, by omega, ?_⟩
          rw [ht]
          refine Weak.mk hE (lk [(0, 0), (1, 1), (2, 2)]) _ _ _ ?_ ?_ ?_ ?_ ?_ <;> simp
        · simp [hp, splice, inC, Nat.testBit, n1, n2, n3, ha, hb, we, h0, hw, hr, hr2, hz, w0, setN]
          refine ⟨m + 1, by omega, by omega, ?_⟩
          rw [ht]
          refine Weak.mk hE (lk [(0, 0), (1, 1), (2, 2)]) _ _ _ ?_ ?_ ?_ ?_ ?_ <;> simp
      · cases B
        · simp [hp, splice, inC, Nat.testBit, n1, n2, n3, ha, hb, we, h0, setN, w0]
          refine ACall.mk _ _ _ (d1) (by first | (simp; done) | simp [Bor_ls, Bor1_ls]) (by simp) (by first | (left; simp; done) | (right; simp; done)) ?_
          simp [splice, hz]
          refine ⟨m + 1, by omega, by omega, ?_⟩
          rw [ht]
          refine Weak.mk hE (lk [(0, 0), (1, 1), (2, 2)]) _ _ _ ?_ ?_ ?_ ?_ ?_ <;> simp
        · simp [hp, splice, inC, Nat.testBit, n1, n2, n3, ha, hb, we, h0, hz, w0, setN]
          refine ⟨m + 1, by omega, by omega, ?_⟩
          rw [ht]
          refine Weak.mk hE (lk [(0, 0), (1, 1), (2, 2)]) _ _ _ ?_ ?_ ?_ ?_ ?_ <;> simp
    · simp at h
      have e : out.take m = out := List.take_of_length_le h
      simp [e]
      refine Weak.mk hE (lk [(0, 0), (1, 1), (2, 2)]) _ _ _ ?_ ?_ ?_ ?_ ?_ <;> simp [setN]
  · refine cR_split (fun h => ?_) (fun h => ?_)
    · simp at h
      obtain ⟨p, hp⟩ : ∃ p, out[m]? = some p := ⟨_, List.getElem?_eq_getElem h⟩
      obtain ⟨q1, q2, q3⟩ := hsh p (List.mem_of_getElem? hp)
      have hz : IntKind.wrap .i64 ((m : Int) + 1) = (m : Int) + 1 := wrap64 (by omega) (by omega)
      have n1 : ¬ p.2 < p.1 := by omega
      have n2 : ¬ p.1 < a.1 := by omega
      have n3 : ¬ b.1 < p.2 := by omega
      have ht := hitB_take (x := z) hp
      obtain ⟨B, hB⟩ : ∃ B, hitB (out.take m) z = B := ⟨_, rfl⟩
      rw [hB] at ht
      have d1 := fn71 p z
      have key : 0 < m → ∃ r, out[m - 1]? = some r ∧ ¬ p.1 ≤ IntKind.wrap .i64 (r.2 + 1) := fun h0 => by
        obtain ⟨r, hr⟩ : ∃ r, out[m - 1]? = some r := ⟨_, List.getElem?_eq_getElem (by omega)⟩
        have e1 := hsep (m - 1) r p hr (by rw [show m - 1 + 1 = m by omega]; exact hp)
        have e2 := hsh r (List.mem_of_getElem? hr)
        refine ⟨r, hr, ?_⟩
        rw [wrap64 (by omega) (by omega)]; omega
      have wm : 0 < m → IntKind.wrap .i64 ((m : Int) - 1) = ((m - 1 : Nat) : Int) := fun h0 => by rw [wrap64 (by omega) (by omega)]; omega
      rw [hB]
      by_cases h0 : 0 < m
      · obtain ⟨r, hr, hr2⟩ := key h0
        have hw := wm h0
        cases B
        · simp [hp, splice, inC, Nat.testBit, n1, n2, n3, ha, hb, we, h0, hw, hr, hr2, setN, w0, w1]
          refine ACall.mk _ _ _ (d1) (by first | (simp; done) | simp [Bor_ls, Bor1_ls]) (by simp) (by first | (left; simp; done) | (right; simp; done)) ?_
          simp [splice, hz]
          refine ⟨m + 1, by omega, by omega, ?_⟩
          rw [ht]
          refine Weak.mk hE (lk [(0, 0), (1, 1), (2, 2)]) _ _ _ ?_ ?_ ?_ ?_ ?_ <;> simp
        · simp [hp, splice, inC, Nat.testBit, n1, n2, n3, ha, hb, we, h0, hw, hr, hr2, hz, w0, w1, setN]
          refine ⟨m + 1, by omega, by omega, ?_⟩
          rw [ht]
          refine Weak.mk hE (lk [(0, 0), (1, 1), (2, 2)]) _ _ _ ?_ ?_ ?_ ?_ ?_ <;> simp
      · cases B
        · simp [hp, splice, inC, Nat.testBit, n1, n2, n3, ha, hb, we, h0, setN, w0, w1]
          refine ACall.mk _ _ _ (d1) (by first | (simp; done) | simp [Bor_ls, Bor1_ls]) (by simp) (by first | (left; simp; done) | (right; simp; done)) ?_
          simp [splice, hz]
          refine ⟨m + 1, by omega, by omega, ?_⟩
          rw [ht]
          refine Weak.mk hE (lk [(0, 0), (1, 1), (2, 2)]) _ _ _ ?_ ?_ ?_ ?_ ?_ <;> simp
        · simp [hp, splice, inC, Nat.testBit, n1, n2, n3, ha, hb, we, h0, hz, w0, w1, setN]
          refine ⟨m + 1, by omega, by omega, ?_⟩
          rw [ht]
          refine Weak.mk hE (lk [(0, 0), (1, 1), (2, 2)]) _ _ _ ?_ ?_ ?_ ?_ ?_ <;> simp
    · simp at h
      have e : out.take m = out := List.take_of_length_le h
      simp [e]
      refine Weak.mk hE (lk [(0, 0), (1, 1), (2, 2)]) _ _ _ ?_ ?_ ?_ ?_ ?_ <;> simp [setN]
  · refine cR_split (fun h => ?_) (fun h => ?_)
    · simp at h
      obtain ⟨p, hp⟩ : ∃ p, out[m]? = some p := ⟨_, List.getElem?_eq_getElem h⟩
      obtain ⟨q1, q2, q3⟩ := hsh p (List.mem_of_getElem? hp)
      have hz : IntKind.wrap .i64 ((m : Int) + 1) = (m : Int) + 1 := wrap64 (by omega) (by omega)
      have n1 : ¬ p.2 < p.1 := by omega
      have n2 : ¬ p.1 < a.1 := by omega
      have n3 : ¬ b.1 < p.2 := by omega
      have ht := hitB_take (x := z) hp
      obtain ⟨B, hB⟩ : ∃ B, hitB (out.take m) z = B := ⟨_, rfl⟩
      rw [hB] at ht
      have d1 := fn71 p z
      have key : 0 < m → ∃ r, out[m - 1]? = some r ∧ ¬ p.1 ≤ IntKind.wrap .i64 (r.2 + 1) := fun h0 => by
        obtain ⟨r, hr⟩ : ∃ r, out[m - 1]? = some r := ⟨_, List.getElem?_eq_getElem (by omega)⟩
        have e1 := hsep (m - 1) r p hr (by rw [show m - 1 + 1 = m by omega]; exact hp)
        have e2 := hsh r (List.mem_of_getElem? hr)
        refine ⟨r, hr, ?_⟩
        rw [wrap64 (by omega) (by omega)]; omega
      have wm : 0 < m → IntKind.wrap .i64 ((m : Int) - 1) = ((m - 1 : Nat) : Int) := fun h0 => by rw [wrap64 (by omega) (by omega)]; omega
      rw [hB]
      by_cases h0 : 0 < m
      · obtain ⟨r, hr, hr2⟩ := key h0
        have hw := wm h0
        cases B
        · simp [hp, splice, inC, Nat.testBit, n1, n2, n3, ha, hb, we, h0, hw, hr, hr2, setN, w2]
          refine ACall.mk _ _ _ (d1) (by first | (simp; done) | simp [Bor_ls, Bor1_ls]) (by simp) (by first | (left; simp; done) | (right; simp; done)) ?_
          simp [splice, hz]
          refine ⟨m + 1, by omega, by omega, ?_⟩
          rw [ht]
          refine Weak.mk hE (lk [(0, 0), (1, 1), (2, 2)]) _ _ _ ?_ ?_ ?_ ?_ ?_ <;> simp
        · simp [hp, splice, inC, Nat.testBit, n1, n2, n3, ha, hb, we, h0, hw, hr, hr2, hz, w2, setN]
          refine ⟨m + 1, by omega, by omega, ?_⟩
          rw [ht]
          refine Weak.mk hE (lk [(0, 0), (1, 1), (2, 2)]) _ _ _ ?_ ?_ ?_ ?_ ?_ <;> simp
      · cases B
        · simp [hp, splice, inC, Nat.testBit, n1, n2, n3, ha, hb, we, h0, setN, w2]
          refine ACall.mk _ _ _ (d1) (by first | (simp; done) | simp [Bor_ls, Bor1_ls]) (by simp) (by first | (left; simp; done) | (right; simp; done)) ?_
          simp [splice, hz]
          refine ⟨m + 1, by omega, by omega, ?_⟩
          rw [ht]
          refine Weak.mk hE (lk [(0, 0), (1, 1), (2, 2)]) _ _ _ ?_ ?_ ?_ ?_ ?_ <;> simp
        · simp [hp, splice, inC, Nat.testBit, n1, n2, n3, ha, hb, we, h0, hz, w2, setN]
          refine ⟨m + 1, by omega, by omega, ?_⟩
          rw [ht]
          refine Weak.mk hE (lk [(0, 0), (1, 1), (2, 2)]) _ _ _ ?_ ?_ ?_ ?_ ?_ <;> simp
    · simp at h
      have e : out.take m = out := List.take_of_length_le h
      simp [e]
      refine Weak.mk hE (lk [(0, 0), (1, 1), (2, 2)]) _ _ _ ?_ ?_ ?_ ?_ ?_ <;> simp [setN]
  · refine cR_split (fun h => ?_) (fun h => ?_)
    · simp at h
      obtain ⟨p, hp⟩ : ∃ p, out[m]? = some p := ⟨_, List.getElem?_eq_getElem h⟩
      obtain ⟨q1, q2, q3⟩ := hsh p (List.mem_of_getElem? hp)
      have hz : IntKind.wrap .i64 ((m : Int) + 1) = (m : Int) + 1 := wrap64 (by omega) (by omega)
      have n1 : ¬ p.2 < p.1 := by omega
      have n2 : ¬ p.1 < a.1 := by omega
      have n3 : ¬ b.1 < p.2 := by omega
      have ht := hitB_take (x := z) hp
      obtain ⟨B, hB⟩ : ∃ B, hitB (out.take m) z = B := ⟨_, rfl⟩
      rw [hB] at ht
      have d1 := fn71 p z
      have key : 0 < m → ∃ r, out[m - 1]? = some r ∧ ¬ p.1 ≤ IntKind.wrap .i64 (r.2 + 1) := fun h0 => by
        obtain ⟨r, hr⟩ : ∃ r, out[m - 1]? = some r := ⟨_, List.getElem?_eq_getElem (by omega)⟩
        have e1 := hsep (m - 1) r p hr (by rw [show m - 1 + 1 = m by omega]; exact hp)
        have e2 := hsh r (List.mem_of_getElem? hr)
        refine ⟨r, hr, ?_⟩
        rw [wrap64 (by omega) (by omega)]; omega
      have wm : 0 < m → IntKind.wrap .i64 ((m : Int) - 1) = ((m - 1 : Nat) : Int) := fun h0 => by rw [wrap64 (by omega) (by omega)]; omega
      rw [hB]
      by_cases h0 : 0 < m
      · obtain ⟨r, hr, hr2⟩ := key h0
        have hw := wm h0
        cases B
        · simp [hp, splice, inC, Nat.testBit, n1, n2, n3, ha, hb, we, h0, hw, hr, hr2, setN, w2, w3]
          refine ACall.mk _ _ _ (d1) (by first | (simp; done) | simp [Bor_ls, Bor1_ls]) (by simp) (by first | (left; simp; done) | (right; simp; done)) ?_
          simp [splice, hz]
          refine ⟨m + 1, by omega, by omega, ?_⟩
          rw [ht]
          refine Weak.mk hE (lk [(0, 0), (1, 1), (2, 2)]) _ _ _ ?_ ?_ ?_ ?_ ?_ <;> simp
        · simp [hp, splice, inC, Nat.testBit, n1, n2, n3, ha, hb, we, h0, hw, hr, hr2, hz, w2, w3, setN]
          refine ⟨m + 1, by omega, by omega, ?_⟩
          rw [ht]
          refine Weak.mk hE (lk [(0, 0), (1, 1), (2, 2)]) _ _ _ ?_ ?_ ?_ ?_ ?_ <;> simp
      · cases B
        · simp [hp, splice, inC, Nat.testBit, n1, n2, n3, ha, hb, we, h0, setN, w2, w3]
          refine ACall.mk _ _ _ (d1) (by first | (simp; done) | simp [Bor_ls, Bor1_ls]) (by simp) (by first | (left; simp; done) | (right; simp; done)) ?_
          simp [splice, hz]
          refine ⟨m + 1, by omega, by omega, ?_⟩
          rw [ht]
          refine Weak.mk hE (lk [(0, 0), (1, 1), (2, 2)]) _ _ _ ?_ ?_ ?_ ?_ ?_ <;> simp
        · simp [hp, splice, inC, Nat.testBit, n1, n2, n3, ha, hb, we, h0, hz, w2, w3, setN]
          refine ⟨m + 1, by omega, by omega, ?_⟩
          rw [ht]
          refine Weak.mk hE (lk [(0, 0), (1, 1), (2, 2)]) _ _ _ ?_ ?_ ?_ ?_ ?_ <;> simp
    · simp at h
      have e : out.take m = out := List.take_of_length_le h
      simp [e]
      refine Weak.mk hE (lk [(0, 0), (1, 1), (2, 2)]) _ _ _ ?_ ?_ ?_ ?_ ?_ <;> simp [setN]
def accM (A : Nat → Bool) (i : Nat) (hm hu : Bool) : Nat → Nat → Bool
  | 0 => A
  | 1 => setN A (2 * i) hm
  | _ => setN (setN A (2 * i) hm) (2 * i + 1) hu
set_option maxHeartbeats 4000000 in
set_option maxRecDepth 20000 in
theorem where_mid (l : List (Int × Int × Int)) (y : Int × Int) (c z : Int) (M U : List (Int × Int)) (A : Nat → Bool) (a b : Int × Int × Int) (e : Nat) (ha : l[0]? = some a) (hb : l[e]? = some b) (we : IntKind.wrap .i64 ((l.length : Int) - 1) = (e : Int)) (hsM : sepd M) (hM : ∀ p ∈ M, p.1 ≤ p.2 ∧ a.1 ≤ p.1 ∧ p.2 ≤ b.1) (hsU : sepd U) (hU : ∀ p ∈ U, p.1 ≤ p.2 ∧ a.1 ≤ p.1 ∧ p.2 ≤ b.1) (hab : -1073741824 ≤ a.1 ∧ b.1 ≤ 1073741824) (hlM : M.length ≤ 1000) (hlU : U.length ≤ 1000) {E : Ent} (hE : ∀ i, ¬ E.stab i) {Q : AExit → St → Prop} (i : Nat) (hi : i = 0 ∨ i = 1) (h0 : A (2 * i) = false) (h1 : A (2 * i + 1) = false) :
    ∀ k : Nat, k ≤ 2 → PW prog tys eqs E p10l1 (seqQ (fun st' => ∃ n, n ≤ 2 ∧ 2 - n < 2 - k ∧ Weak prog E st' ⟨slots [(0, .d (knotsD l)), (9, vb true), (11, vi z), (12, .lp 0 0), (65, .ls 1 0 2 2), (66, vi 2), (67, vi i), (13, vi i), (92, .ls 2 0 2 1), (93, vi 2), (94, vi n)], lk [(0, [vb ((accM A i (hitB M z) (hitB U z) n) 0), vb ((accM A i (hitB M z) (hitB U z) n) 1), vb ((accM A i (hitB M z) (hitB U z) n) 2), vb ((accM A i (hitB M z) (hitB U z) n) 3)]), (1, [vi y.1, vi y.2, vi c, vi y.2]), (2, [.d (spansD M), .d (spansD U)])], 3⟩)
      (exC prog E Q 2 (fun _ : Unit => ⟨slots [(0, .d (knotsD l)), (9, vb true), (11, vi z), (12, .lp 0 0), (65, .ls 1 0 2 2), (66, vi 2), (67, vi i)], lk [(0, [vb (accM A i (hitB M z) (hitB U z) 2 0), vb (accM A i (hitB M z) (hitB U z) 2 1), vb (accM A i (hitB M z) (hitB U z) 2 2), vb (accM A i (hitB M z) (hitB U z) 2 3)]), (1, [vi y.1, vi y.2, vi c, vi y.2])], 2⟩) (fun _ => True)))
      ⟨slots [(0, .d (knotsD l)), (9, vb true), (11, vi z), (12, .lp 0 0), (65, .ls 1 0 2 2), (66, vi 2), (67, vi i), (13, vi i), (92, .ls 2 0 2 1), (93, vi 2), (94, vi k)], lk [(0, [vb ((accM A i (hitB M z) (hitB U z) k) 0), vb ((accM A i (hitB M z) (hitB U z) k) 1), vb ((accM A i (hitB M z) (hitB U z) k) 2), vb ((accM A i (hitB M z) (hitB U z) k) 3)]), (1, [vi y.1, vi y.2, vi c, vi y.2]), (2, [.d (spansD M), .d (spansD U)])], 3⟩ := by
  intro k hk
  have hk3 : k = 0 ∨ k = 1 ∨ k = 2 := by omega
  simp [p10l1]
  rcases hk3 with rfl | rfl | rfl
  · simp
    refine pw_loopC (α := Nat) 4 (fun _ : Unit => ⟨slots [(0, .d (knotsD l)), (9, vb true), (11, vi z), (12, .lp 0 0), (65, .ls 1 0 2 2), (66, vi 2), (67, vi i), (13, vi i), (92, .ls 2 0 2 1), (93, vi 2), (94, vi 0)], lk [(0, [vb ((setN A (2 * i + 0) (hitB M z)) 0), vb ((setN A (2 * i + 0) (hitB M z)) 1), vb ((setN A (2 * i + 0) (hitB M z)) 2), vb ((setN A (2 * i + 0) (hitB M z)) 3)]), (1, [vi y.1, vi y.2, vi c, vi y.2]), (2, [.d (spansD M), .d (spansD U)])], 3⟩) (fun _ => True) (fun m => ⟨slots [(0, .d (knotsD l)), (9, vb true), (11, vi z), (12, .lp 0 0), (65, .ls 1 0 2 2), (66, vi 2), (67, vi i), (13, vi i), (92, .ls 2 0 2 1), (93, vi 2), (94, vi 0), (19, vi 0), (20, .d (spansD M)), (99, .d (spansD M)), (100, vi M.length), (101, vi m)], lk [(0, [vb ((setN A (2 * i + 0) (hitB (M.take m) z)) 0), vb ((setN A (2 * i + 0) (hitB (M.take m) z)) 1), vb ((setN A (2 * i + 0) (hitB (M.take m) z)) 2), vb ((setN A (2 * i + 0) (hitB (M.take m) z)) 3)]), (1, [vi y.1, vi y.2, vi c, vi y.2]), (2, [.d (spansD M), .d (spansD U)])], 3⟩) (fun m => m ≤ M.length) (fun m => M.length - m) 0 ?_ ?_ ?_ fun _ _ => ?_
    · simp
    · rcases hi with rfl | rfl
      · simp at h0 h1
        refine Weak.mk hE (lk [(0, 0), (1, 1), (2, 2)]) _ _ _ ?_ ?_ ?_ ?_ ?_ <;> simp [setN, hitB, h0, h1, accM]
      · simp at h0 h1
        refine Weak.mk hE (lk [(0, 0), (1, 1), (2, 2)]) _ _ _ ?_ ?_ ?_ ?_ ?_ <;> simp [setN, hitB, h0, h1, accM]
    · exact where_inner l y c z M U M A a b e ha hb we hsM hM hab hlM hE i 0 ⟨hi, (Or.inl rfl)⟩
    · simp
      refine ⟨1, by omega, by omega, ?_⟩
      rcases hi with rfl | rfl
      · refine Weak.mk hE (lk [(0, 0), (1, 1), (2, 2)]) _ _ _ ?_ ?_ ?_ ?_ ?_ <;> simp [accM, setN, wrap64]
      · refine Weak.mk hE (lk [(0, 0), (1, 1), (2, 2)]) _ _ _ ?_ ?_ ?_ ?_ ?_ <;> simp [accM, setN, wrap64]
  · simp
    refine pw_loopC (α := Nat) 4 (fun _ : Unit => ⟨slots [(0, .d (knotsD l)), (9, vb true), (11, vi z), (12, .lp 0 0), (65, .ls 1 0 2 2), (66, vi 2), (67, vi i), (13, vi i), (92, .ls 2 0 2 1), (93, vi 2), (94, vi 1)], lk [(0, [vb ((setN (setN A (2 * i) (hitB M z)) (2 * i + 1) (hitB U z)) 0), vb ((setN (setN A (2 * i) (hitB M z)) (2 * i + 1) (hitB U z)) 1), vb ((setN (setN A (2 * i) (hitB M z)) (2 * i + 1) (hitB U z)) 2), vb ((setN (setN A (2 * i) (hitB M z)) (2 * i + 1) (hitB U z)) 3)]), (1, [vi y.1, vi y.2, vi c, vi y.2]), (2, [.d (spansD M), .d (spansD U)])], 3⟩) (fun _ => True) (fun m => ⟨slots [(0, .d (knotsD l)), (9, vb true), (11, vi z), (12, .lp 0 0), (65, .ls 1 0 2 2), (66, vi 2), (67, vi i), (13, vi i), (92, .ls 2 0 2 1), (93, vi 2), (94, vi 1), (19, vi 1), (20, .d (spansD U)), (99, .d (spansD U)), (100, vi U.length), (101, vi m)], lk [(0, [vb ((setN (setN A (2 * i) (hitB M z)) (2 * i + 1) (hitB (U.take m) z)) 0), vb ((setN (setN A (2 * i) (hitB M z)) (2 * i + 1) (hitB (U.take m) z)) 1), vb ((setN (setN A (2 * i) (hitB M z)) (2 * i + 1) (hitB (U.take m) z)) 2), vb ((setN (setN A (2 * i) (hitB M z)) (2 * i + 1) (hitB (U.take m) z)) 3)]), (1, [vi y.1, vi y.2, vi c, vi y.2]), (2, [.d (spansD M), .d (spansD U)])], 3⟩) (fun m => m ≤ U.length) (fun m => U.length - m) 0 ?_ ?_ ?_ fun _ _ => ?_
    · simp
    · rcases hi with rfl | rfl
      · simp at h0 h1
        refine Weak.mk hE (lk [(0, 0), (1, 1), (2, 2)]) _ _ _ ?_ ?_ ?_ ?_ ?_ <;> simp [setN, hitB, h1, accM]
      · simp at h0 h1
        refine Weak.mk hE (lk [(0, 0), (1, 1), (2, 2)]) _ _ _ ?_ ?_ ?_ ?_ ?_ <;> simp [setN, hitB, h1, accM]
    · exact where_inner l y c z M U U (setN A (2 * i) (hitB M z)) a b e ha hb we hsU hU hab hlU hE i 1 ⟨hi, (Or.inr rfl)⟩
    · simp
      refine ⟨2, by omega, by omega, ?_⟩
      rcases hi with rfl | rfl
      · refine Weak.mk hE (lk [(0, 0), (1, 1), (2, 2)]) _ _ _ ?_ ?_ ?_ ?_ ?_ <;> simp [accM, setN, wrap64]
      · refine Weak.mk hE (lk [(0, 0), (1, 1), (2, 2)]) _ _ _ ?_ ?_ ?_ ?_ ?_ <;> simp [accM, setN, wrap64]
  · simp
    refine Weak.mk hE (lk [(0, 0), (1, 1)]) _ _ _ ?_ ?_ ?_ ?_ ?_ <;> simp [accM]
end Go.Proofs.Try
