/- Contracts: what each function of the program computes, for the arguments that its theorem names; and from there the given statement. Conditions: those that each theorem states. -/
import Derived.Test.YtaedloehfgmcnaaSp
import Derived.Test.YtaedloehfgmcnaaFo
namespace Go.Proofs.Try
open Go.Psl
def fitP (s : Int × Int) : Prop := okS s = true ∧ ¬ 1073741824 < max s.2 (-s.1)
def lgB (x y z : Int) : Bool := decide (IntKind.wrap .i64 (z * 1099511627776) < IntKind.wrap .i64 (x * y)) || decide (IntKind.wrap .i64 (x * y) < IntKind.wrap .i64 (IntKind.wrap .i64 (-z) * 1099511627776))
def loB (r x y z : Int) : Bool := decide (IntKind.wrap .i64 (x * y) < IntKind.wrap .i64 (IntKind.wrap .i64 (r + 1) * z))
def hiB (r x y z : Int) : Bool := decide (IntKind.wrap .i64 (IntKind.wrap .i64 (r - 1) * z) < IntKind.wrap .i64 (x * y))
def lgN (a b c : Int × Int) (n : Nat) : Bool := lgB (cxN a 1 n) (cxN b 2 n) (cxN c 4 n)
def loN (a b c : Int × Int) (r : Int) (n : Nat) : Bool := loB r (cxN a 1 n) (cxN b 2 n) (cxN c 4 n)
def hiN (a b c : Int × Int) (r : Int) (n : Nat) : Bool := hiB r (cxN a 1 n) (cxN b 2 n) (cxN c 4 n)
set_option maxHeartbeats 16000000 in
set_option maxRecDepth 20000 in
theorem shares_round (a b c : Int × Int) (i j k e r0 r1 : Int) (E : Ent) (hE : ∀ i, ¬ E.stab i) {R : AExit → St → Prop} (n : Nat) (hn : n ≤ 8) (hlt : n < 8) : PW prog tys eqs E p7l1 (seqQ (fun st' => ∃ y, y ≤ 8 ∧ 8 - y < 8 - n ∧ Weak prog E st' ⟨slots [(3, vi i), (4, vi j), (5, vi k), (6, .lp 0 0), (7, .lp 1 0), (8, .lp 2 0), (13, vb true), (16, .lp 3 0), (17, vi e), (18, vb (anyN (loN a b c r0) y)), (19, vb (anyN (hiN a b c r1) y)), (20, vb (anyN (lgN a b c) y)), (71, vi y)], lk [(0, [vi a.1, vi a.2]), (1, [vi b.1, vi b.2]), (2, [vi c.1, vi c.2]), (3, [vi r0, vi r1])], 4⟩) R)
  ⟨slots [(3, vi i), (4, vi j), (5, vi k), (6, .lp 0 0), (7, .lp 1 0), (8, .lp 2 0), (13, vb true), (16, .lp 3 0), (17, vi e), (18, vb (anyN (loN a b c r0) n)), (19, vb (anyN (hiN a b c r1) n)), (20, vb (anyN (lgN a b c) n)), (71, vi n)], lk [(0, [vi a.1, vi a.2]), (1, [vi b.1, vi b.2]), (2, [vi c.1, vi c.2]), (3, [vi r0, vi r1])], 4⟩ := by
  have hlt' : (n : Int) < 8 := by omega
  have hz : IntKind.wrap .i64 ((n : Int) + 1) = (n : Int) + 1 := wrap64 (by omega) (by omega)
  obtain ⟨L, hL⟩ : ∃ L, anyN (lgN a b c) n = L := ⟨_, rfl⟩
  obtain ⟨A, hA⟩ : ∃ A, anyN (loN a b c r0) n = A := ⟨_, rfl⟩
  obtain ⟨B, hB⟩ : ∃ B, anyN (hiN a b c r1) n = B := ⟨_, rfl⟩
  rw [hL, hA, hB]
  simp [p7l1, hlt', hz]
  by_cases h0 : bits .and .i64 (n : Int) 1 = 0 <;> by_cases h1 : bits .and .i64 (n : Int) 2 = 0 <;> by_cases h2 : bits .and .i64 (n : Int) 4 = 0 <;> cases A <;> cases B <;> cases L
  · by_cases ht : IntKind.wrap .i64 (c.1 * 1099511627776) < IntKind.wrap .i64 (a.1 * b.1) <;> (
    simp [h0, h1, h2, ht, inC, Nat.testBit, splice, hz]
    refine ⟨n + 1, by omega, by omega, ?_⟩
    refine Weak.mk hE (lk [(0, 0), (1, 1), (2, 2), (3, 3)]) _ _ _ ?_ ?_ ?_ ?_ ?_ <;> simp [anyN, hL, hA, hB, lgN, lgB, loN, hiN, loB, hiB, cxN, h0, h1, h2, ht]
    skip)
  · simp [h0, h1, h2, inC, Nat.testBit, splice, hz]
    refine ⟨n + 1, by omega, by omega, ?_⟩
    refine Weak.mk hE (lk [(0, 0), (1, 1), (2, 2), (3, 3)]) _ _ _ ?_ ?_ ?_ ?_ ?_ <;> simp [anyN, hL, hA, hB, loN, hiN, loB, hiB, cxN, h0, h1, h2]
  · by_cases ht : IntKind.wrap .i64 (c.1 * 1099511627776) < IntKind.wrap .i64 (a.1 * b.1) <;> (
    simp [h0, h1, h2, ht, inC, Nat.testBit, splice, hz]
    refine ⟨n + 1, by omega, by omega, ?_⟩
    refine Weak.mk hE (lk [(0, 0), (1, 1), (2, 2), (3, 3)]) _ _ _ ?_ ?_ ?_ ?_ ?_ <;> simp [anyN, hL, hA, hB, lgN, lgB, loN, hiN, loB, hiB, cxN, h0, h1, h2, ht]
    skip)
  · simp [h0, h1, h2, inC, Nat.testBit, splice, hz]
    refine ⟨n + 1, by omega, by omega, ?_⟩
    refine Weak.mk hE (lk [(0, 0), (1, 1), (2, 2), (3, 3)]) _ _ _ ?_ ?_ ?_ ?_ ?_ <;> simp [anyN, hL, hA, hB, loN, hiN, loB, hiB, cxN, h0, h1, h2]
  · by_cases ht : IntKind.wrap .i64 (c.1 * 1099511627776) < IntKind.wrap .i64 (a.1 * b.1) <;> (
    simp [h0, h1, h2, ht, inC, Nat.testBit, splice, hz]
    refine ⟨n + 1, by omega, by omega, ?_⟩
    refine Weak.mk hE (lk [(0, 0), (1, 1), (2, 2), (3, 3)]) _ _ _ ?_ ?_ ?_ ?_ ?_ <;> simp [anyN, hL, hA, hB, lgN, lgB, loN, hiN, loB, hiB, cxN, h0, h1, h2, ht]
    skip)
  · simp [h0, h1, h2, inC, Nat.testBit, splice, hz]
    refine ⟨n + 1, by omega, by omega, ?_⟩
    refine Weak.mk hE (lk [(0, 0), (1, 1), (2, 2), (3, 3)]) _ _ _ ?_ ?_ ?_ ?_ ?_ <;> simp [anyN, hL, hA, hB, loN, hiN, loB, hiB, cxN, h0, h1, h2]
  · by_cases ht : IntKind.wrap .i64 (c.1 * 1099511627776) < IntKind.wrap .i64 (a.1 * b.1) <;> (
    simp [h0, h1, h2, ht, inC, Nat.testBit, splice, hz]
    refine ⟨n + 1, by omega, by omega, ?_⟩
    refine Weak.mk hE (lk [(0, 0), (1, 1), (2, 2), (3, 3)]) _ _ _ ?_ ?_ ?_ ?_ ?_ <;> simp [anyN, hL, hA, hB, lgN, lgB, loN, hiN, loB, hiB, cxN, h0, h1, h2, ht]
    skip)
  · simp [h0, h1, h2, inC, Nat.testBit, splice, hz]
    refine ⟨n + 1, by omega, by omega, ?_⟩
    refine Weak.mk hE (lk [(0, 0), (1, 1), (2, 2), (3, 3)]) _ _ _ ?_ ?_ ?_ ?_ ?_ <;> simp [anyN, hL, hA, hB, loN, hiN, loB, hiB, cxN, h0, h1, h2]
  · by_cases ht : IntKind.wrap .i64 (c.2 * 1099511627776) < IntKind.wrap .i64 (a.1 * b.1) <;> (
    simp [h0, h1, h2, ht, inC, Nat.testBit, splice, hz]
    refine ⟨n + 1, by omega, by omega, ?_⟩
    refine Weak.mk hE (lk [(0, 0), (1, 1), (2, 2), (3, 3)]) _ _ _ ?_ ?_ ?_ ?_ ?_ <;> simp [anyN, hL, hA, hB, lgN, lgB, loN, hiN, loB, hiB, cxN, h0, h1, h2, ht]
    skip)
  · simp [h0, h1, h2, inC, Nat.testBit, splice, hz]
    refine ⟨n + 1, by omega, by omega, ?_⟩
    refine Weak.mk hE (lk [(0, 0), (1, 1), (2, 2), (3, 3)]) _ _ _ ?_ ?_ ?_ ?_ ?_ <;> simp [anyN, hL, hA, hB, loN, hiN, loB, hiB, cxN, h0, h1, h2]
  · by_cases ht : IntKind.wrap .i64 (c.2 * 1099511627776) < IntKind.wrap .i64 (a.1 * b.1) <;> (
    simp [h0, h1, h2, ht, inC, Nat.testBit, splice, hz]
    refine ⟨n + 1, by omega, by omega, ?_⟩
    refine Weak.mk hE (lk [(0, 0), (1, 1), (2, 2), (3, 3)]) _ _ _ ?_ ?_ ?_ ?_ ?_ <;> simp [anyN, hL, hA, hB, lgN, lgB, loN, hiN, loB, hiB, cxN, h0, h1, h2, ht]
    skip)
  · simp [h0, h1, h2, inC, Nat.testBit, splice, hz]
    refine ⟨n + 1, by omega, by omega, ?_⟩
    refine Weak.mk hE (lk [(0, 0), (1, 1), (2, 2), (3, 3)]) _ _ _ ?_ ?_ ?_ ?_ ?_ <;> simp [anyN, hL, hA, hB, loN, hiN, loB, hiB, cxN, h0, h1, h2]
  · by_cases ht : IntKind.wrap .i64 (c.2 * 1099511627776) < IntKind.wrap .i64 (a.1 * b.1) <;> (
    simp [h0, h1, h2, ht, inC, Nat.testBit, splice, hz]
    refine ⟨n + 1, by omega, by omega, ?_⟩
    refine Weak.mk hE (lk [(0, 0), (1, 1), (2, 2), (3, 3)]) _ _ _ ?_ ?_ ?_ ?_ ?_ <;> simp [anyN, hL, hA, hB, lgN, lgB, loN, hiN, loB, hiB, cxN, h0, h1, h2, ht]
    skip)
  · simp [h0, h1, h2, inC, Nat.testBit, splice, hz]
    refine ⟨n + 1, by omega, by omega, ?_⟩
    refine Weak.mk hE (lk [(0, 0), (1, 1), (2, 2), (3, 3)]) _ _ _ ?_ ?_ ?_ ?_ ?_ <;> simp [anyN, hL, hA, hB, loN, hiN, loB, hiB, cxN, h0, h1, h2]
  · by_cases ht : IntKind.wrap .i64 (c.2 * 1099511627776) < IntKind.wrap .i64 (a.1 * b.1) <;> (
    simp [h0, h1, h2, ht, inC, Nat.testBit, splice, hz]
    refine ⟨n + 1, by omega, by omega, ?_⟩
    refine Weak.mk hE (lk [(0, 0), (1, 1), (2, 2), (3, 3)]) _ _ _ ?_ ?_ ?_ ?_ ?_ <;> simp [anyN, hL, hA, hB, lgN, lgB, loN, hiN, loB, hiB, cxN, h0, h1, h2, ht]
    skip)
  · simp [h0, h1, h2, inC, Nat.testBit, splice, hz]
    refine ⟨n + 1, by omega, by omega, ?_⟩
    refine Weak.mk hE (lk [(0, 0), (1, 1), (2, 2), (3, 3)]) _ _ _ ?_ ?_ ?_ ?_ ?_ <;> simp [anyN, hL, hA, hB, loN, hiN, loB, hiB, cxN, h0, h1, h2]
  · by_cases ht : IntKind.wrap .i64 (c.1 * 1099511627776) < IntKind.wrap .i64 (a.1 * b.2) <;> (
    simp [h0, h1, h2, ht, inC, Nat.testBit, splice, hz]
    refine ⟨n + 1, by omega, by omega, ?_⟩
    refine Weak.mk hE (lk [(0, 0), (1, 1), (2, 2), (3, 3)]) _ _ _ ?_ ?_ ?_ ?_ ?_ <;> simp [anyN, hL, hA, hB, lgN, lgB, loN, hiN, loB, hiB, cxN, h0, h1, h2, ht]
    skip)
  · simp [h0, h1, h2, inC, Nat.testBit, splice, hz]
    refine ⟨n + 1, by omega, by omega, ?_⟩
    refine Weak.mk hE (lk [(0, 0), (1, 1), (2, 2), (3, 3)]) _ _ _ ?_ ?_ ?_ ?_ ?_ <;> simp [anyN, hL, hA, hB, loN, hiN, loB, hiB, cxN, h0, h1, h2]
  · by_cases ht : IntKind.wrap .i64 (c.1 * 1099511627776) < IntKind.wrap .i64 (a.1 * b.2) <;> (
    simp [h0, h1, h2, ht, inC, Nat.testBit, splice, hz]
    refine ⟨n + 1, by omega, by omega, ?_⟩
    refine Weak.mk hE (lk [(0, 0), (1, 1), (2, 2), (3, 3)]) _ _ _ ?_ ?_ ?_ ?_ ?_ <;> simp [anyN, hL, hA, hB, lgN, lgB, loN, hiN, loB, hiB, cxN, h0, h1, h2, ht]
    skip)
  · simp [h0, h1, h2, inC, Nat.testBit, splice, hz]
    refine ⟨n + 1, by omega, by omega, ?_⟩
    refine Weak.mk hE (lk [(0, 0), (1, 1), (2, 2), (3, 3)]) _ _ _ ?_ ?_ ?_ ?_ ?_ <;> simp [anyN, hL, hA, hB, loN, hiN, loB, hiB, cxN, h0, h1, h2]
  · by_cases ht : IntKind.wrap .i64 (c.1 * 1099511627776) < IntKind.wrap .i64 (a.1 * b.2) <;> (
    simp [h0, h1, h2, ht, inC, Nat.testBit, splice, hz]
    refine ⟨n + 1, by omega, by omega, ?_⟩
    refine Weak.mk hE (lk [(0, 0), (1, 1), (2, 2), (3, 3)]) _ _ _ ?_ ?_ ?_ ?_ ?_ <;> simp [anyN, hL, hA, hB, lgN, lgB, loN, hiN, loB, hiB, cxN, h0, h1, h2, ht]
    skip)
  · simp [h0, h1, h2, inC, Nat.testBit, splice, hz]
    refine ⟨n + 1, by omega, by omega, ?_⟩
    refine Weak.mk hE (lk [(0, 0), (1, 1), (2, 2), (3, 3)]) _ _ _ ?_ ?_ ?_ ?_ ?_ <;> simp [anyN, hL, hA, hB, loN, hiN, loB, hiB, cxN, h0, h1, h2]
  · by_cases ht : IntKind.wrap .i64 (c.1 * 1099511627776) < IntKind.wrap .i64 (a.1 * b.2) <;> (
    simp [h0, h1, h2, ht, inC, Nat.testBit, splice, hz]
    refine ⟨n + 1, by omega, by omega, ?_⟩
    refine Weak.mk hE (lk [(0, 0), (1, 1), (2, 2), (3, 3)]) _ _ _ ?_ ?_ ?_ ?_ ?_ <;> simp [anyN, hL, hA, hB, lgN, lgB, loN, hiN, loB, hiB, cxN, h0, h1, h2, ht]
    skip)
  · simp [h0, h1, h2, inC, Nat.testBit, splice, hz]
    refine ⟨n + 1, by omega, by omega, ?_⟩
    refine Weak.mk hE (lk [(0, 0), (1, 1), (2, 2), (3, 3)]) _ _ _ ?_ ?_ ?_ ?_ ?_ <;> simp [anyN, hL, hA, hB, loN, hiN, loB, hiB, cxN, h0, h1, h2]
  · by_cases ht : IntKind.wrap .i64 (c.2 * 1099511627776) < IntKind.wrap .i64 (a.1 * b.2) <;> (
    simp [h0, h1, h2, ht, inC, Nat.testBit, splice, hz]
    refine ⟨n + 1, by omega, by omega, ?_⟩
    refine Weak.mk hE (lk [(0, 0), (1, 1), (2, 2), (3, 3)]) _ _ _ ?_ ?_ ?_ ?_ ?_ <;> simp [anyN, hL, hA, hB, lgN, lgB, loN, hiN, loB, hiB, cxN, h0, h1, h2, ht]
    skip)
  · simp [h0, h1, h2, inC, Nat.testBit, splice, hz]
    refine ⟨n + 1, by omega, by omega, ?_⟩
    refine Weak.mk hE (lk [(0, 0), (1, 1), (2, 2), (3, 3)]) _ _ _ ?_ ?_ ?_ ?_ ?_ <;> simp [anyN, hL, hA, hB, loN, hiN, loB, hiB, cxN, h0, h1, h2]
  · by_cases ht : IntKind.wrap .i64 (c.2 * 1099511627776) < IntKind.wrap .i64 (a.1 * b.2) <;> (
    simp [h0, h1, h2, ht, inC, Nat.testBit, splice, hz]
    refine ⟨n + 1, by omega, by omega, ?_⟩
    refine Weak.mk hE (lk [(0, 0), (1, 1), (2, 2), (3, 3)]) _ _ _ ?_ ?_ ?_ ?_ ?_ <;> simp [anyN, hL, hA, hB, lgN, lgB, loN, hiN, loB, hiB, cxN, h0, h1, h2, ht]
    skip)
  · simp [h0, h1, h2, inC, Nat.testBit, splice, hz]
    refine ⟨n + 1, by omega, by omega, ?_⟩
    refine Weak.mk hE (lk [(0, 0), (1, 1), (2, 2), (3, 3)]) _ _ _ ?_ ?_ ?_ ?_ ?_ <;> simp [anyN, hL, hA, hB, loN, hiN, loB, hiB, cxN, h0, h1, h2]
  · by_cases ht : IntKind.wrap .i64 (c.2 * 1099511627776) < IntKind.wrap .i64 (a.1 * b.2) <;> (
    simp [h0, h1, h2, ht, inC, Nat.testBit, splice, hz]
    refine ⟨n + 1, by omega, by omega, ?_⟩
    refine Weak.mk hE (lk [(0, 0), (1, 1), (2, 2), (3, 3)]) _ _ _ ?_ ?_ ?_ ?_ ?_ <;> simp [anyN, hL, hA, hB, lgN, lgB, loN, hiN, loB, hiB, cxN, h0, h1, h2, ht]
    skip)
  · simp [h0, h1, h2, inC, Nat.testBit, splice, hz]
    refine ⟨n + 1, by omega, by omega, ?_⟩
    refine Weak.mk hE (lk [(0, 0), (1, 1), (2, 2), (3, 3)]) _ _ _ ?_ ?_ ?_ ?_ ?_ <;> simp [anyN, hL, hA, hB, loN, hiN, loB, hiB, cxN, h0, h1, h2]
  · by_cases ht : IntKind.wrap .i64 (c.2 * 1099511627776) < IntKind.wrap .i64 (a.1 * b.2) <;> (
    simp [h0, h1, h2, ht, inC, Nat.testBit, splice, hz]
    refine ⟨n + 1, by omega, by omega, ?_⟩
    refine Weak.mk hE (lk [(0, 0), (1, 1), (2, 2), (3, 3)]) _ _ _ ?_ ?_ ?_ ?_ ?_ <;> simp [anyN, hL, hA, hB, lgN, lgB, loN, hiN, loB, hiB, cxN, h0, h1, h2, ht]
    skip)
  · simp [h0, h1, h2, inC, Nat.testBit, splice, hz]
    refine ⟨n + 1, by omega, by omega, ?_⟩
    refine Weak.mk hE (lk [(0, 0), (1, 1), (2, 2), (3, 3)]) _ _ _ ?_ ?_ ?_ ?_ ?_ <;> simp [anyN, hL, hA, hB, loN, hiN, loB, hiB, cxN, h0, h1, h2]
  · by_cases ht : IntKind.wrap .i64 (c.1 * 1099511627776) < IntKind.wrap .i64 (a.2 * b.1) <;> (
    simp [h0, h1, h2, ht, inC, Nat.testBit, splice, hz]
    refine ⟨n + 1, by omega, by omega, ?_⟩
    refine Weak.mk hE (lk [(0, 0), (1, 1), (2, 2), (3, 3)]) _ _ _ ?_ ?_ ?_ ?_ ?_ <;> simp [anyN, hL, hA, hB, lgN, lgB, loN, hiN, loB, hiB, cxN, h0, h1, h2, ht]
    skip)
  · simp [h0, h1, h2, inC, Nat.testBit, splice, hz]
    refine ⟨n + 1, by omega, by omega, ?_⟩
    refine Weak.mk hE (lk [(0, 0), (1, 1), (2, 2), (3, 3)]) _ _ _ ?_ ?_ ?_ ?_ ?_ <;> simp [anyN, hL, hA, hB, loN, hiN, loB, hiB, cxN, h0, h1, h2]
  · by_cases ht : IntKind.wrap .i64 (c.1 * 1099511627776) < IntKind.wrap .i64 (a.2 * b.1) <;> (
    simp [h0, h1, h2, ht, inC, Nat.testBit, splice, hz]
    refine ⟨n + 1, by omega, by omega, ?_⟩
    refine Weak.mk hE (lk [(0, 0), (1, 1), (2, 2), (3, 3)]) _ _ _ ?_ ?_ ?_ ?_ ?_ <;> simp [anyN, hL, hA, hB, lgN, lgB, loN, hiN, loB, hiB, cxN, h0, h1, h2, ht]
    skip)
  · simp [h0, h1, h2, inC, Nat.testBit, splice, hz]
    refine ⟨n + 1, by omega, by omega, ?_⟩
    refine Weak.mk hE (lk [(0, 0), (1, 1), (2, 2), (3, 3)]) _ _ _ ?_ ?_ ?_ ?_ ?_ <;> simp [anyN, hL, hA, hB, loN, hiN, loB, hiB, cxN, h0, h1, h2]
  · by_cases ht : IntKind.wrap .i64 (c.1 * 1099511627776) < IntKind.wrap .i64 (a.2 * b.1) <;> (
    simp [h0, h1, h2, ht, inC, Nat.testBit, splice, hz]
    refine ⟨n + 1, by omega, by omega, ?_⟩
    refine Weak.mk hE (lk [(0, 0), (1, 1), (2, 2), (3, 3)]) _ _ _ ?_ ?_ ?_ ?_ ?_ <;> simp [anyN, hL, hA, hB, lgN, lgB, loN, hiN, loB, hiB, cxN, h0, h1, h2, ht]
    skip)
  · simp [h0, h1, h2, inC, Nat.testBit, splice, hz]
    refine ⟨n + 1, by omega, by omega, ?_⟩
    refine Weak.mk hE (lk [(0, 0), (1, 1), (2, 2), (3, 3)]) _ _ _ ?_ ?_ ?_ ?_ ?_ <;> simp [anyN, hL, hA, hB, loN, hiN, loB, hiB, cxN, h0, h1, h2]
  · by_cases ht : IntKind.wrap .i64 (c.1 * 1099511627776) < IntKind.wrap .i64 (a.2 * b.1) <;> (
    simp [h0, h1, h2, ht, inC, Nat.testBit, splice, hz]
    refine ⟨n + 1, by omega, by omega, ?_⟩
    refine Weak.mk hE (lk [(0, 0), (1, 1), (2, 2), (3, 3)]) _ _ _ ?_ ?_ ?_ ?_ ?_ <;> simp [anyN, hL, hA, hB, lgN, lgB, loN, hiN, loB, hiB, cxN, h0, h1, h2, ht]
    skip)
  · simp [h0, h1, h2, inC, Nat.testBit, splice, hz]
    refine ⟨n + 1, by omega, by omega, ?_⟩
    refine Weak.mk hE (lk [(0, 0), (1, 1), (2, 2), (3, 3)]) _ _ _ ?_ ?_ ?_ ?_ ?_ <;> simp [anyN, hL, hA, hB, loN, hiN, loB, hiB, cxN, h0, h1, h2]
  · by_cases ht : IntKind.wrap .i64 (c.2 * 1099511627776) < IntKind.wrap .i64 (a.2 * b.1) <;> (
    simp [h0, h1, h2, ht, inC, Nat.testBit, splice, hz]
    refine ⟨n + 1, by omega, by omega, ?_⟩
    refine Weak.mk hE (lk [(0, 0), (1, 1), (2, 2), (3, 3)]) _ _ _ ?_ ?_ ?_ ?_ ?_ <;> simp [anyN, hL, hA, hB, lgN, lgB, loN, hiN, loB, hiB, cxN, h0, h1, h2, ht]
    skip)
  · simp [h0, h1, h2, inC, Nat.testBit, splice, hz]
    refine ⟨n + 1, by omega, by omega, ?_⟩
    refine Weak.mk hE (lk [(0, 0), (1, 1), (2, 2), (3, 3)]) _ _ _ ?_ ?_ ?_ ?_ ?_ <;> simp [anyN, hL, hA, hB, loN, hiN, loB, hiB, cxN, h0, h1, h2]
  · by_cases ht : IntKind.wrap .i64 (c.2 * 1099511627776) < IntKind.wrap .i64 (a.2 * b.1) <;> (
    simp [h0, h1, h2, ht, inC, Nat.testBit, splice, hz]
    refine ⟨n + 1, by omega, by omega, ?_⟩
    refine Weak.mk hE (lk [(0, 0), (1, 1), (2, 2), (3, 3)]) _ _ _ ?_ ?_ ?_ ?_ ?_ <;> simp [anyN, hL, hA, hB, lgN, lgB, loN, hiN, loB, hiB, cxN, h0, h1, h2, ht]
    skip)
  · simp [h0, h1, h2, inC, Nat.testBit, splice, hz]
    refine ⟨n + 1, by omega, by omega, ?_⟩
    refine Weak.mk hE (lk [(0, 0), (1, 1), (2, 2), (3, 3)]) _ _ _ ?_ ?_ ?_ ?_ ?_ <;> simp [anyN, hL, hA, hB, loN, hiN, loB, hiB, cxN, h0, h1, h2]
  · by_cases ht : IntKind.wrap .i64 (c.2 * 1099511627776) < IntKind.wrap .i64 (a.2 * b.1) <;> (
    simp [h0, h1, h2, ht, inC, Nat.testBit, splice, hz]
    refine ⟨n + 1, by omega, by omega, ?_⟩
    refine Weak.mk hE (lk [(0, 0), (1, 1), (2, 2), (3, 3)]) _ _ _ ?_ ?_ ?_ ?_ ?_ <;> simp [anyN, hL, hA, hB, lgN, lgB, loN, hiN, loB, hiB, cxN, h0, h1, h2, ht]
    skip)
  · simp [h0, h1, h2, inC, Nat.testBit, splice, hz]
    refine ⟨n + 1, by omega, by omega, ?_⟩
    refine Weak.mk hE (lk [(0, 0), (1, 1), (2, 2), (3, 3)]) _ _ _ ?_ ?_ ?_ ?_ ?_ <;> simp [anyN, hL, hA, hB, loN, hiN, loB, hiB, cxN, h0, h1, h2]
  · by_cases ht : IntKind.wrap .i64 (c.2 * 1099511627776) < IntKind.wrap .i64 (a.2 * b.1) <;> (
    simp [h0, h1, h2, ht, inC, Nat.testBit, splice, hz]
    refine ⟨n + 1, by omega, by omega, ?_⟩
    refine Weak.mk hE (lk [(0, 0), (1, 1), (2, 2), (3, 3)]) _ _ _ ?_ ?_ ?_ ?_ ?_ <;> simp [anyN, hL, hA, hB, lgN, lgB, loN, hiN, loB, hiB, cxN, h0, h1, h2, ht]
    skip)
  · simp [h0, h1, h2, inC, Nat.testBit, splice, hz]
    refine ⟨n + 1, by omega, by omega, ?_⟩
    refine Weak.mk hE (lk [(0, 0), (1, 1), (2, 2), (3, 3)]) _ _ _ ?_ ?_ ?_ ?_ ?_ <;> simp [anyN, hL, hA, hB, loN, hiN, loB, hiB, cxN, h0, h1, h2]
  · by_cases ht : IntKind.wrap .i64 (c.1 * 1099511627776) < IntKind.wrap .i64 (a.2 * b.2) <;> (
    simp [h0, h1, h2, ht, inC, Nat.testBit, splice, hz]
    refine ⟨n + 1, by omega, by omega, ?_⟩
    refine Weak.mk hE (lk [(0, 0), (1, 1), (2, 2), (3, 3)]) _ _ _ ?_ ?_ ?_ ?_ ?_ <;> simp [anyN, hL, hA, hB, lgN, lgB, loN, hiN, loB, hiB, cxN, h0, h1, h2, ht]
    skip)
  · simp [h0, h1, h2, inC, Nat.testBit, splice, hz]
    refine ⟨n + 1, by omega, by omega, ?_⟩
    refine Weak.mk hE (lk [(0, 0), (1, 1), (2, 2), (3, 3)]) _ _ _ ?_ ?_ ?_ ?_ ?_ <;> simp [anyN, hL, hA, hB, loN, hiN, loB, hiB, cxN, h0, h1, h2]
  · by_cases ht : IntKind.wrap .i64 (c.1 * 1099511627776) < IntKind.wrap .i64 (a.2 * b.2) <;> (
    simp [h0, h1, h2, ht, inC, Nat.testBit, splice, hz]
    refine ⟨n + 1, by omega, by omega, ?_⟩
    refine Weak.mk hE (lk [(0, 0), (1, 1), (2, 2), (3, 3)]) _ _ _ ?_ ?_ ?_ ?_ ?_ <;> simp [anyN, hL, hA, hB, lgN, lgB, loN, hiN, loB, hiB, cxN, h0, h1, h2, ht]
    skip)
  · simp [h0, h1, h2, inC, Nat.testBit, splice, hz]
    refine ⟨n + 1, by omega, by omega, ?_⟩
    refine Weak.mk hE (lk [(0, 0), (1, 1), (2, 2), (3, 3)]) _ _ _ ?_ ?_ ?_ ?_ ?_ <;> simp [anyN, hL, hA, hB, loN, hiN, loB, hiB, cxN, h0, h1, h2]
  · by_cases ht : IntKind.wrap .i64 (c.1 * 1099511627776) < IntKind.wrap .i64 (a.2 * b.2) <;> (
    simp [h0, h1, h2, ht, inC, Nat.testBit, splice, hz]
    refine ⟨n + 1, by omega, by omega, ?_⟩
    refine Weak.mk hE (lk [(0, 0), (1, 1), (2, 2), (3, 3)]) _ _ _ ?_ ?_ ?_ ?_ ?_ <;> simp [anyN, hL, hA, hB, lgN, lgB, loN, hiN, loB, hiB, cxN, h0, h1, h2, ht]
    skip)
  · simp [h0, h1, h2, inC, Nat.testBit, splice, hz]
    refine ⟨n + 1, by omega, by omega, ?_⟩
    refine Weak.mk hE (lk [(0, 0), (1, 1), (2, 2), (3, 3)]) _ _ _ ?_ ?_ ?_ ?_ ?_ <;> simp [anyN, hL, hA, hB, loN, hiN, loB, hiB, cxN, h0, h1, h2]
  · by_cases ht : IntKind.wrap .i64 (c.1 * 1099511627776) < IntKind.wrap .i64 (a.2 * b.2) <;> (
    simp [h0, h1, h2, ht, inC, Nat.testBit, splice, hz]
    refine ⟨n + 1, by omega, by omega, ?_⟩
    refine Weak.mk hE (lk [(0, 0), (1, 1), (2, 2), (3, 3)]) _ _ _ ?_ ?_ ?_ ?_ ?_ <;> simp [anyN, hL, hA, hB, lgN, lgB, loN, hiN, loB, hiB, cxN, h0, h1, h2, ht]
    skip)
  · simp [h0, h1, h2, inC, Nat.testBit, splice, hz]
    refine ⟨n + 1, by omega, by omega, ?_⟩
    refine Weak.mk hE (lk [(0, 0), (1, 1), (2, 2), (3, 3)]) _ _ _ ?_ ?_ ?_ ?_ ?_ <;> simp [anyN, hL, hA, hB, loN, hiN, loB, hiB, cxN, h0, h1, h2]
  · by_cases ht : IntKind.wrap .i64 (c.2 * 1099511627776) < IntKind.wrap .i64 (a.2 * b.2) <;> (
    simp [h0, h1, h2, ht, inC, Nat.testBit, splice, hz]
    refine ⟨n + 1, by omega, by omega, ?_⟩
    refine Weak.mk hE (lk [(0, 0), (1, 1), (2, 2), (3, 3)]) _ _ _ ?_ ?_ ?_ ?_ ?_ <;> simp [anyN, hL, hA, hB, lgN, lgB, loN, hiN, loB, hiB, cxN, h0, h1, h2, ht]
    skip)
  · simp [h0, h1, h2, inC, Nat.testBit, splice, hz]
    refine ⟨n + 1, by omega, by omega, ?_⟩
    refine Weak.mk hE (lk [(0, 0), (1, 1), (2, 2), (3, 3)]) _ _ _ ?_ ?_ ?_ ?_ ?_ <;> simp [anyN, hL, hA, hB, loN, hiN, loB, hiB, cxN, h0, h1, h2]
  · by_cases ht : IntKind.wrap .i64 (c.2 * 1099511627776) < IntKind.wrap .i64 (a.2 * b.2) <;> (
    simp [h0, h1, h2, ht, inC, Nat.testBit, splice, hz]
    refine ⟨n + 1, by omega, by omega, ?_⟩
    refine Weak.mk hE (lk [(0, 0), (1, 1), (2, 2), (3, 3)]) _ _ _ ?_ ?_ ?_ ?_ ?_ <;> simp [anyN, hL, hA, hB, lgN, lgB, loN, hiN, loB, hiB, cxN, h0, h1, h2, ht]
    skip)
  · simp [h0, h1, h2, inC, Nat.testBit, splice, hz]
    refine ⟨n + 1, by omega, by omega, ?_⟩
    refine Weak.mk hE (lk [(0, 0), (1, 1), (2, 2), (3, 3)]) _ _ _ ?_ ?_ ?_ ?_ ?_ <;> simp [anyN, hL, hA, hB, loN, hiN, loB, hiB, cxN, h0, h1, h2]
  · by_cases ht : IntKind.wrap .i64 (c.2 * 1099511627776) < IntKind.wrap .i64 (a.2 * b.2) <;> (
    simp [h0, h1, h2, ht, inC, Nat.testBit, splice, hz]
    refine ⟨n + 1, by omega, by omega, ?_⟩
    refine Weak.mk hE (lk [(0, 0), (1, 1), (2, 2), (3, 3)]) _ _ _ ?_ ?_ ?_ ?_ ?_ <;> simp [anyN, hL, hA, hB, lgN, lgB, loN, hiN, loB, hiB, cxN, h0, h1, h2, ht]
    skip)
  · simp [h0, h1, h2, inC, Nat.testBit, splice, hz]
    refine ⟨n + 1, by omega, by omega, ?_⟩
    refine Weak.mk hE (lk [(0, 0), (1, 1), (2, 2), (3, 3)]) _ _ _ ?_ ?_ ?_ ?_ ?_ <;> simp [anyN, hL, hA, hB, loN, hiN, loB, hiB, cxN, h0, h1, h2]
  · by_cases ht : IntKind.wrap .i64 (c.2 * 1099511627776) < IntKind.wrap .i64 (a.2 * b.2) <;> (
    simp [h0, h1, h2, ht, inC, Nat.testBit, splice, hz]
    refine ⟨n + 1, by omega, by omega, ?_⟩
    refine Weak.mk hE (lk [(0, 0), (1, 1), (2, 2), (3, 3)]) _ _ _ ?_ ?_ ?_ ?_ ?_ <;> simp [anyN, hL, hA, hB, lgN, lgB, loN, hiN, loB, hiB, cxN, h0, h1, h2, ht]
    skip)
  · simp [h0, h1, h2, inC, Nat.testBit, splice, hz]
    refine ⟨n + 1, by omega, by omega, ?_⟩
    refine Weak.mk hE (lk [(0, 0), (1, 1), (2, 2), (3, 3)]) _ _ _ ?_ ?_ ?_ ?_ ?_ <;> simp [anyN, hL, hA, hB, loN, hiN, loB, hiB, cxN, h0, h1, h2]
end Go.Proofs.Try
