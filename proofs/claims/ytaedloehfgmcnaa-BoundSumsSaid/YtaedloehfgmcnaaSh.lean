/- Own lemmas and contracts of functions, used by the last text of this claim for the given statement. Conditions: those that each theorem states. -/
import Derived.Test.YtaedloehfgmcnaaSg
namespace Go.Proofs.Try
open Go.Psl
open Go.Stb
theorem sym1 {f : FuncId} {ds : List D} {dom : Int × Int → Prop} {c : Int × Int → Int × Int → Bool} (hc : CmpOk f ds dom c) (l : List (Int × Int)) (a m b : Nat) (hd : ∀ x ∈ l, dom x) (ha : m - a = 1) (hm : m < b) (hb : b ≤ l.length) (hl : l.length ≤ 1000000000) : Cm prog 161 [.ls 0 0 l.length 2, vi a, vi m, vi b, .d (.fn f ds)] (lk [(0, cellsI l)]) [0] (.ret (.tup [])) (lk [(0, cellsI (movR l a (srch (fun h => lessAt c l h a) m b - 1 - a)))]) := by
  refine Cm.by gok eok mixed 1 func161 c161 rfl (by simp [ntmps161]) (by simp) (HpIds.at ?_) (by simp) ?_ fun E hE hs => ?_
  · simp
  · simp [ResIds]
  have z1 : IntKind.wrap .i64 ((m : Int) - a) = 1 := by rw [wrap64 (by omega) (by omega)]; omega
  simp [p161, z1]
  obtain ⟨R, hR⟩ : ∃ R, srch (fun h => lessAt c l h a) m b = R := ⟨_, rfl⟩
  have hsp := srch_spec (fun h => lessAt c l h a) (i := m) (j := b) (by omega)
  rw [hR] at hsp ⊢
  have hdl := spD_len l
  obtain ⟨u, hu⟩ : ∃ u, l[a]? = some u := ⟨_, List.getElem?_eq_getElem (by omega)⟩
  have cu := cells_at hu
  have i1 : a < l.length := by omega
  have q1 : a * 2 + 2 ≤ l.length * 2 := by omega
  refine pw_loopC (α := Nat × Nat) 0 (fun _ : Unit => ⟨slots [(0, .ls 0 0 l.length 2), (1, vi a), (10, vi R)], lk [(0, cellsI l)], 1⟩) (fun _ => True)
    (fun y => ⟨slots [(0, .ls 0 0 l.length 2), (1, vi a), (2, vi m), (3, vi b), (4, .d (.fn f ds)), (10, vi y.1), (11, vi y.2)], lk [(0, cellsI l)], 1⟩)
    (fun y => m ≤ y.1 ∧ y.1 ≤ y.2 ∧ y.2 ≤ b ∧ srch (fun h => lessAt c l h a) y.1 y.2 = R) (fun y => y.2 - y.1) (m, b) ?_ ?_ ?_ fun _ _ => ?_
  · exact ⟨Nat.le_refl _, by simp only; omega, Nat.le_refl _, hR⟩
  · refine Weak.mkM hE (lk [(0, 0)]) _ _ _ ?_ ?_ ?_ ?_ ?_ ?_ <;> simp
  · rintro ⟨i, j⟩ ⟨g1, g2, g3, g4⟩
    simp only at g1 g2 g3 g4
    simp [p161l0]
    by_cases h : i < j
    · rw [srch_step _ h] at g4
      obtain ⟨k, hk⟩ : ∃ k : Nat, k = (i + j) / 2 := ⟨_, rfl⟩
      rw [← hk] at g4
      have e1 : IntKind.wrap .i64 ((i : Int) + j) = (i : Int) + j := wrap64 (by omega) (by omega)
      have e2 : IntKind.wrap .u64 ((i : Int) + j) = (i : Int) + j := wrapu64 (by omega) (by omega)
      have e3 : IntKind.wrap .i64 (((i : Int) + j) / 2) = (k : Int) := by rw [wrap64 (by omega) (by omega)]; omega
      have e4 : IntKind.wrap .i64 ((k : Int) + 1) = ((k + 1 : Nat) : Int) := by rw [wrap64 (by omega) (by omega)]; rfl
      simp only [Int.natCast_add, Int.cast_ofNat_Int] at e4
      obtain ⟨v, hv⟩ : ∃ v, l[k]? = some v := ⟨_, List.getElem?_eq_getElem (by omega)⟩
      have cv := cells_at hv
      have i2 : k < l.length := by omega
      have q2 : k * 2 + 2 ≤ l.length * 2 := by omega
      obtain ⟨r, hr, hcr⟩ := hc v u (hd v (List.mem_of_getElem? hv)) (hd u (List.mem_of_getElem? hu))
      rw [lessAt_eq hv hu] at g4
      simp [h, e1, e2, e3, inC, Nat.testBit, i1, i2, q1, q2, cu, cv, hdl]
      refine ACall.mk _ _ _ (hcr) (by first | (simp; done) | simp [Bor_ls, Bor1_ls]) (by simp) (by first | (left; simp; done) | (right; simp; done)) ?_
      by_cases hr0 : r < 0
      · rw [if_pos (hr.2 hr0)] at g4
        simp [hr0, e4]
        refine ⟨k + 1, j, ⟨by omega, by omega, by omega, g4⟩, by omega, ?_⟩
        refine Weak.mkM hE (lk [(0, 0)]) _ _ _ ?_ ?_ ?_ ?_ ?_ ?_ <;> simp
      · rw [if_neg (fun e => hr0 (hr.1 e))] at g4
        simp [hr0]
        refine ⟨i, k, ⟨by omega, by omega, by omega, g4⟩, by omega, ?_⟩
        refine Weak.mkM hE (lk [(0, 0)]) _ _ _ ?_ ?_ ?_ ?_ ?_ ?_ <;> simp
    · rw [srch_end _ h] at g4
      subst g4
      simp [h]
      refine Weak.mkM hE (lk [(0, 0)]) _ _ _ ?_ ?_ ?_ ?_ ?_ ?_ <;> simp
  · obtain ⟨T, hT⟩ : ∃ T, movR l a (R - 1 - a) = T := ⟨_, rfl⟩
    rw [hT]
    have z2 : IntKind.wrap .i64 ((R : Int) - 1) = ((R - 1 : Nat) : Int) := by rw [wrap64 (by omega) (by omega)]; omega
    simp
    refine pw_loop (α := Nat × List (Int × Int)) (fun y => ⟨slots [(0, .ls 0 0 l.length 2), (10, vi R), (13, vi y.1)], lk [(0, cellsI y.2)], 1⟩) (fun y => a ≤ y.1 ∧ y.1 ≤ R - 1 ∧ y.2.length = l.length ∧ movR y.2 y.1 (R - 1 - y.1) = T) (fun y => R - 1 - y.1) (a, l) ?_ ?_ ?_
    · exact ⟨Nat.le_refl _, by simp only; omega, rfl, hT⟩
    · refine Weak.mkM hE (lk [(0, 0)]) _ _ _ ?_ ?_ ?_ ?_ ?_ ?_ <;> simp
    · rintro ⟨k, M⟩ ⟨g1, g2, g3, g4⟩
      simp only at g1 g2 g3 g4
      simp [p161l1, z2]
      by_cases h : k < R - 1
      · obtain ⟨k1, hk1⟩ : ∃ k1, k1 = k + 1 := ⟨_, rfl⟩
        rw [show R - 1 - k = (R - 1 - k1) + 1 by omega, movR, ← hk1] at g4
        obtain ⟨u, hu⟩ : ∃ u, M[k]? = some u := ⟨_, List.getElem?_eq_getElem (by omega)⟩
        obtain ⟨v, hv⟩ : ∃ v, M[k1]? = some v := ⟨_, List.getElem?_eq_getElem (by omega)⟩
        have cu := cells_at hu
        have cv := cells_at hv
        have s0 := sw_eq hu hv
        have s1 := cells_set (l := M) (i := k) v (by omega)
        have s2 := cells_set (l := M.set k v) (i := k1) u (by rw [List.length_set]; omega)
        rw [← s0] at s2
        have hdl := spD_len M
        have hdl2 := spD_len (M.set k v)
        rw [List.length_set, g3] at hdl2
        rw [g3] at hdl
        have i1 : k < l.length := by omega
        have i2 : k1 < l.length := by omega
        have q1 : k * 2 + 2 ≤ l.length * 2 := by omega
        have q2 : k1 * 2 + 2 ≤ l.length * 2 := by omega
        have z3 : IntKind.wrap .i64 ((k : Int) + 1) = (k1 : Int) := by rw [wrap64 (by omega) (by omega)]; omega
        simp [h]
        refine pw_drawW [(15, 0)] (by kernel_rfl) ?_
        simp [inC, Nat.testBit, i1, i2, q1, q2, cu, cv, s1, s2, z3, hdl, hdl2]
        refine ⟨k1, sw M k k1, ⟨by omega, by omega, by rw [sw_len]; exact g3, g4⟩, by omega, ?_⟩
        refine Weak.mkM hE (lk [(0, 0)]) _ _ _ ?_ ?_ ?_ ?_ ?_ ?_ <;> simp
      · have : R - 1 - k = 0 := by omega
        rw [this, movR] at g4
        subst g4
        simp [h]
        refine RetOk.by (lk [(0, 0)]) ?_
        simp [results161]
end Go.Proofs.Try
namespace Go.Proofs.Try
open Go.Psl
open Go.Stb
theorem sym2 {f : FuncId} {ds : List D} {dom : Int × Int → Prop} {c : Int × Int → Int × Int → Bool} (hc : CmpOk f ds dom c) (l : List (Int × Int)) (a m b : Nat) (hd : ∀ x ∈ l, dom x) (ha : 2 ≤ m - a) (hm : b - m = 1) (hb : b ≤ l.length) (hl : l.length ≤ 1000000000) : Cm prog 161 [.ls 0 0 l.length 2, vi a, vi m, vi b, .d (.fn f ds)] (lk [(0, cellsI l)]) [0] (.ret (.tup [])) (lk [(0, cellsI (movL l m (m - srch (fun h => !lessAt c l m h) a m)))]) := by
  refine Cm.by gok eok mixed 1 func161 c161 rfl (by simp [ntmps161]) (by simp) (HpIds.at ?_) (by simp) ?_ fun E hE hs => ?_
  · simp
  · simp [ResIds]
  have z1 : IntKind.wrap .i64 ((m : Int) - a) = (m : Int) - a := by rw [wrap64 (by omega) (by omega)]
  have z1' : IntKind.wrap .i64 ((b : Int) - m) = 1 := by rw [wrap64 (by omega) (by omega)]; omega
  have z1n : ¬ (m : Int) - a = 1 := by omega
  simp [p161, z1, z1', z1n]
  obtain ⟨R, hR⟩ : ∃ R, srch (fun h => !lessAt c l m h) a m = R := ⟨_, rfl⟩
  have hsp := srch_spec (fun h => !lessAt c l m h) (i := a) (j := m) (by omega)
  rw [hR] at hsp ⊢
  have hdl := spD_len l
  obtain ⟨u, hu⟩ : ∃ u, l[m]? = some u := ⟨_, List.getElem?_eq_getElem (by omega)⟩
  have cu := cells_at hu
  have i1 : m < l.length := by omega
  have q1 : m * 2 + 2 ≤ l.length * 2 := by omega
  refine pw_loopC (α := Nat × Nat) 4 (fun _ : Unit => ⟨slots [(0, .ls 0 0 l.length 2), (2, vi m), (14, vi R)], lk [(0, cellsI l)], 1⟩) (fun _ => True)
    (fun y => ⟨slots [(0, .ls 0 0 l.length 2), (1, vi a), (2, vi m), (3, vi b), (4, .d (.fn f ds)), (14, vi y.1), (15, vi y.2)], lk [(0, cellsI l)], 1⟩)
    (fun y => a ≤ y.1 ∧ y.1 ≤ y.2 ∧ y.2 ≤ m ∧ srch (fun h => !lessAt c l m h) y.1 y.2 = R) (fun y => y.2 - y.1) (a, m) ?_ ?_ ?_ fun _ _ => ?_
  · exact ⟨Nat.le_refl _, by simp only; omega, Nat.le_refl _, hR⟩
  · refine Weak.mkM hE (lk [(0, 0)]) _ _ _ ?_ ?_ ?_ ?_ ?_ ?_ <;> simp
  · rintro ⟨i, j⟩ ⟨g1, g2, g3, g4⟩
    simp only at g1 g2 g3 g4
    simp [p161l2]
    by_cases h : i < j
    · rw [srch_step _ h] at g4
      obtain ⟨k, hk⟩ : ∃ k : Nat, k = (i + j) / 2 := ⟨_, rfl⟩
      rw [← hk] at g4
      have e1 : IntKind.wrap .i64 ((i : Int) + j) = (i : Int) + j := wrap64 (by omega) (by omega)
      have e2 : IntKind.wrap .u64 ((i : Int) + j) = (i : Int) + j := wrapu64 (by omega) (by omega)
      have e3 : IntKind.wrap .i64 (((i : Int) + j) / 2) = (k : Int) := by rw [wrap64 (by omega) (by omega)]; omega
      have e4 : IntKind.wrap .i64 ((k : Int) + 1) = ((k + 1 : Nat) : Int) := by rw [wrap64 (by omega) (by omega)]; rfl
      simp only [Int.natCast_add, Int.cast_ofNat_Int] at e4
      obtain ⟨v, hv⟩ : ∃ v, l[k]? = some v := ⟨_, List.getElem?_eq_getElem (by omega)⟩
      have cv := cells_at hv
      have i2 : k < l.length := by omega
      have q2 : k * 2 + 2 ≤ l.length * 2 := by omega
      obtain ⟨r, hr, hcr⟩ := hc u v (hd u (List.mem_of_getElem? hu)) (hd v (List.mem_of_getElem? hv))
      rw [lessAt_eq hu hv] at g4
      simp [h, e1, e2, e3, inC, Nat.testBit, i1, i2, q1, q2, cu, cv, hdl]
      refine ACall.mk _ _ _ (hcr) (by first | (simp; done) | simp [Bor_ls, Bor1_ls]) (by simp) (by first | (left; simp; done) | (right; simp; done)) ?_
      by_cases hr0 : r < 0
      · rw [hr.2 hr0] at g4
        simp only [Bool.not_true, Bool.false_eq_true, if_false] at g4
        simp [hr0]
        refine ⟨i, k, ⟨by omega, by omega, by omega, g4⟩, by omega, ?_⟩
        refine Weak.mkM hE (lk [(0, 0)]) _ _ _ ?_ ?_ ?_ ?_ ?_ ?_ <;> simp
      · rw [show c u v = false by cases e : c u v with | false => rfl | true => exact absurd (hr.1 e) hr0] at g4
        simp only [Bool.not_false, if_true] at g4
        simp [hr0, e4]
        refine ⟨k + 1, j, ⟨by omega, by omega, by omega, g4⟩, by omega, ?_⟩
        refine Weak.mkM hE (lk [(0, 0)]) _ _ _ ?_ ?_ ?_ ?_ ?_ ?_ <;> simp
    · rw [srch_end _ h] at g4
      subst g4
      simp [h]
      refine Weak.mkM hE (lk [(0, 0)]) _ _ _ ?_ ?_ ?_ ?_ ?_ ?_ <;> simp
  · obtain ⟨T, hT⟩ : ∃ T, movL l m (m - R) = T := ⟨_, rfl⟩
    rw [hT]
    simp
    refine pw_loop (α := Nat × List (Int × Int)) (fun y => ⟨slots [(0, .ls 0 0 l.length 2), (14, vi R), (17, vi y.1)], lk [(0, cellsI y.2)], 1⟩) (fun y => R ≤ y.1 ∧ y.1 ≤ m ∧ y.2.length = l.length ∧ movL y.2 y.1 (y.1 - R) = T) (fun y => y.1) (m, l) ?_ ?_ ?_
    · exact ⟨by simp only; omega, Nat.le_refl _, rfl, hT⟩
    · refine Weak.mkM hE (lk [(0, 0)]) _ _ _ ?_ ?_ ?_ ?_ ?_ ?_ <;> simp
    · rintro ⟨k, M⟩ ⟨g1, g2, g3, g4⟩
      simp only at g1 g2 g3 g4
      simp [p161l3]
      by_cases h : R < k
      · obtain ⟨k1, hk1⟩ : ∃ k1, k1 = k - 1 := ⟨_, rfl⟩
        rw [show k - R = (k1 - R) + 1 by omega, movL, ← hk1] at g4
        obtain ⟨u, hu⟩ : ∃ u, M[k]? = some u := ⟨_, List.getElem?_eq_getElem (by omega)⟩
        obtain ⟨v, hv⟩ : ∃ v, M[k1]? = some v := ⟨_, List.getElem?_eq_getElem (by omega)⟩
        have cu := cells_at hu
        have cv := cells_at hv
        have s0 := sw_eq hu hv
        have s1 := cells_set (l := M) (i := k) v (by omega)
        have s2 := cells_set (l := M.set k v) (i := k1) u (by rw [List.length_set]; omega)
        rw [← s0] at s2
        have hdl := spD_len M
        have hdl2 := spD_len (M.set k v)
        rw [List.length_set, g3] at hdl2
        rw [g3] at hdl
        have i1 : k < l.length := by omega
        have i2 : k1 < l.length := by omega
        have q1 : k * 2 + 2 ≤ l.length * 2 := by omega
        have q2 : k1 * 2 + 2 ≤ l.length * 2 := by omega
        have z3 : IntKind.wrap .i64 ((k : Int) - 1) = (k1 : Int) := by rw [wrap64 (by omega) (by omega)]; omega
        simp [h]
        refine pw_drawW [(15, 0)] (by kernel_rfl) ?_
        simp [inC, Nat.testBit, i1, i2, q1, q2, cu, cv, s1, s2, z3, hdl, hdl2]
        refine ⟨k1, sw M k k1, ⟨by omega, by omega, by rw [sw_len]; exact g3, g4⟩, by omega, ?_⟩
        refine Weak.mkM hE (lk [(0, 0)]) _ _ _ ?_ ?_ ?_ ?_ ?_ ?_ <;> simp
      · have : k - R = 0 := by omega
        rw [this, movL] at g4
        subst g4
        simp [h]
        refine RetOk.by (lk [(0, 0)]) ?_
        simp [results161]
end Go.Proofs.Try
namespace Go.Proofs.Try
open Go.Psl
open Go.Stb
set_option maxHeartbeats 1000000
def symT3 : PC := (.seq (.reg [⟨some 206, .move (.tmp 18), none⟩, ⟨some 207, .move (.tmp 24), none⟩, ⟨some 208, .binOp .lss 3 (.tmp 206) (.tmp 207) 3, none⟩, ⟨some 209, .move (.tmp 208), none⟩, ⟨some 210, .move (.tmp 24), some ((some 209), true)⟩, ⟨some 211, .move (.tmp 3), some ((some 209), true)⟩, ⟨some 212, .binOp .lss 3 (.tmp 210) (.tmp 211) 3, some ((some 209), true)⟩, ⟨some 213, .pick (.tmp 209) (.tmp 212) (.const (.bool false)), none⟩]) (.cond (.tmp 213) (.reg [⟨some 214, .move (.tmp 0), none⟩, ⟨some 215, .move (.tmp 18), none⟩, ⟨some 216, .move (.tmp 24), none⟩, ⟨some 217, .move (.tmp 3), none⟩, ⟨some 218, .move (.tmp 4), none⟩, ⟨some 219, .call ⟨.value (.func 161), #[(.tmp 214), (.tmp 215), (.tmp 216), (.tmp 217), (.tmp 218)], #[54, 3, 3, 3, 148]⟩, none⟩]) .skip))
def symT2 : PC := .seq (.seq (.reg [⟨some 192, .move (.tmp 1), none⟩, ⟨some 193, .move (.tmp 20), none⟩, ⟨some 194, .binOp .lss 3 (.tmp 192) (.tmp 193) 3, none⟩, ⟨some 195, .move (.tmp 194), none⟩, ⟨some 196, .move (.tmp 20), some ((some 195), true)⟩, ⟨some 197, .move (.tmp 18), some ((some 195), true)⟩, ⟨some 198, .binOp .lss 3 (.tmp 196) (.tmp 197) 3, some ((some 195), true)⟩, ⟨some 199, .pick (.tmp 195) (.tmp 198) (.const (.bool false)), none⟩]) (.cond (.tmp 199) (.reg [⟨some 200, .move (.tmp 0), none⟩, ⟨some 201, .move (.tmp 1), none⟩, ⟨some 202, .move (.tmp 20), none⟩, ⟨some 203, .move (.tmp 18), none⟩, ⟨some 204, .move (.tmp 4), none⟩, ⟨some 205, .call ⟨.value (.func 161), #[(.tmp 200), (.tmp 201), (.tmp 202), (.tmp 203), (.tmp 204)], #[54, 3, 3, 3, 148]⟩, none⟩]) .skip)) symT3
def symT1 : PC := .seq (.seq (.reg [⟨some 178, .move (.tmp 20), none⟩, ⟨some 179, .move (.tmp 2), none⟩, ⟨some 180, .binOp .lss 3 (.tmp 178) (.tmp 179) 3, none⟩, ⟨some 181, .move (.tmp 180), none⟩, ⟨some 182, .move (.tmp 2), some ((some 181), true)⟩, ⟨some 183, .move (.tmp 24), some ((some 181), true)⟩, ⟨some 184, .binOp .lss 3 (.tmp 182) (.tmp 183) 3, some ((some 181), true)⟩, ⟨some 185, .pick (.tmp 181) (.tmp 184) (.const (.bool false)), none⟩]) (.cond (.tmp 185) (.reg [⟨some 186, .move (.tmp 0), none⟩, ⟨some 187, .move (.tmp 20), none⟩, ⟨some 188, .move (.tmp 2), none⟩, ⟨some 189, .move (.tmp 24), none⟩, ⟨some 190, .move (.tmp 4), none⟩, ⟨some 191, .call ⟨.value (.func 167), #[(.tmp 186), (.tmp 187), (.tmp 188), (.tmp 189), (.tmp 190)], #[54, 3, 3, 3, 148]⟩, none⟩]) .skip)) symT2
def symT0 : PC := .seq (.reg [⟨some 175, .move (.tmp 19), none⟩, ⟨some 176, .move (.tmp 20), none⟩, ⟨some 177, .binOp .sub 3 (.tmp 175) (.tmp 176) 3, none⟩, ⟨some 24, .assign (.tmp 177), none⟩]) symT1
theorem sym_t3_20 {f : FuncId} {ds : List D} {l D1 D2 D3 : List (Int × Int)} {a m b s mid e N : Nat} {g : Nat → V} (f0 : g 0 = .ls 0 0 N 2) (_ : g 1 = vi a) (_ : g 2 = vi m) (f3 : g 3 = vi b) (f4 : g 4 = .d (.fn f ds)) (f18 : g 18 = vi mid) (_ : g 20 = vi s) (f24 : g 24 = vi e) {H : Hp} (h0 : H 0 = some (cellsI D2)) {E : Ent} (_ : ∀ i, E.stab i ↔ i ∈ [0]) (_ : E.nt = f161.ntmps ∧ E.rd = none) (n2 : spD D2 ≠ [])
    (c3 : mid < e → e < b → Cm prog 161 [.ls 0 0 N 2, vi mid, vi e, vi b, .d (.fn f ds)] (lk [(0, cellsI D2)]) [0] (.ret (.tup [])) (lk [(0, cellsI D3)])) (k3 : ¬ (mid < e ∧ e < b) → D3 = D2) :
    PW prog tys eqs E symT3 (retM tys f161 [0] (.ret (.tup [])) [(0, cellsI D3)]) ⟨g, H, 20971521⟩ := by
  by_cases x1 : mid < e
  · by_cases x2 : e < b
    · simp [symT3, f0, f3, f4, f18, f24, x1, x2]
      have q := c3 x1 x2
      refine ACall.mkR _ _ _ _ _ (q) (by simp [h0]) (by simp) (by simp [n2]) (by simp) (by first | (left; simp; done) | (right; simp [n2, h0]; done)) ?_
      simp
      refine RetOk.by (lk [(0, 0)]) ?_
      simp [results161]
    · have k := k3 (fun h => x2 h.2)
      subst k
      simp [symT3, f3, f18, f24, x1, x2]
      refine RetOk.by (lk [(0, 0)]) ?_
      simp [results161, h0]
  · have k := k3 (fun h => x1 h.1)
    subst k
    simp [symT3, f18, f24, x1]
    refine RetOk.by (lk [(0, 0)]) ?_
    simp [results161, h0]
theorem sym_t3_26 {f : FuncId} {ds : List D} {l D1 D2 D3 : List (Int × Int)} {a m b s mid e N : Nat} {g : Nat → V} (f0 : g 0 = .ls 0 0 N 2) (_ : g 1 = vi a) (_ : g 2 = vi m) (f3 : g 3 = vi b) (f4 : g 4 = .d (.fn f ds)) (f18 : g 18 = vi mid) (_ : g 20 = vi s) (f24 : g 24 = vi e) {H : Hp} (h0 : H 0 = some (cellsI D2)) {E : Ent} (_ : ∀ i, E.stab i ↔ i ∈ [0]) (_ : E.nt = f161.ntmps ∧ E.rd = none) (n2 : spD D2 ≠ [])
    (c3 : mid < e → e < b → Cm prog 161 [.ls 0 0 N 2, vi mid, vi e, vi b, .d (.fn f ds)] (lk [(0, cellsI D2)]) [0] (.ret (.tup [])) (lk [(0, cellsI D3)])) (k3 : ¬ (mid < e ∧ e < b) → D3 = D2) :
    PW prog tys eqs E symT3 (retM tys f161 [0] (.ret (.tup [])) [(0, cellsI D3)]) ⟨g, H, 27262977⟩ := by
  by_cases x1 : mid < e
  · by_cases x2 : e < b
    · simp [symT3, f0, f3, f4, f18, f24, x1, x2]
      have q := c3 x1 x2
      refine ACall.mkR _ _ _ _ _ (q) (by simp [h0]) (by simp) (by simp [n2]) (by simp) (by first | (left; simp; done) | (right; simp [n2, h0]; done)) ?_
      simp
      refine RetOk.by (lk [(0, 0)]) ?_
      simp [results161]
    · have k := k3 (fun h => x2 h.2)
      subst k
      simp [symT3, f3, f18, f24, x1, x2]
      refine RetOk.by (lk [(0, 0)]) ?_
      simp [results161, h0]
  · have k := k3 (fun h => x1 h.1)
    subst k
    simp [symT3, f18, f24, x1]
    refine RetOk.by (lk [(0, 0)]) ?_
    simp [results161, h0]
theorem sym_t3_32 {f : FuncId} {ds : List D} {l D1 D2 D3 : List (Int × Int)} {a m b s mid e N : Nat} {g : Nat → V} (f0 : g 0 = .ls 0 0 N 2) (_ : g 1 = vi a) (_ : g 2 = vi m) (f3 : g 3 = vi b) (f4 : g 4 = .d (.fn f ds)) (f18 : g 18 = vi mid) (_ : g 20 = vi s) (f24 : g 24 = vi e) {H : Hp} (h0 : H 0 = some (cellsI D2)) {E : Ent} (_ : ∀ i, E.stab i ↔ i ∈ [0]) (_ : E.nt = f161.ntmps ∧ E.rd = none) (n2 : spD D2 ≠ [])
    (c3 : mid < e → e < b → Cm prog 161 [.ls 0 0 N 2, vi mid, vi e, vi b, .d (.fn f ds)] (lk [(0, cellsI D2)]) [0] (.ret (.tup [])) (lk [(0, cellsI D3)])) (k3 : ¬ (mid < e ∧ e < b) → D3 = D2) :
    PW prog tys eqs E symT3 (retM tys f161 [0] (.ret (.tup [])) [(0, cellsI D3)]) ⟨g, H, 33554433⟩ := by
  by_cases x1 : mid < e
  · by_cases x2 : e < b
    · simp [symT3, f0, f3, f4, f18, f24, x1, x2]
      have q := c3 x1 x2
      refine ACall.mkR _ _ _ _ _ (q) (by simp [h0]) (by simp) (by simp [n2]) (by simp) (by first | (left; simp; done) | (right; simp [n2, h0]; done)) ?_
      simp
      refine RetOk.by (lk [(0, 0)]) ?_
      simp [results161]
    · have k := k3 (fun h => x2 h.2)
      subst k
      simp [symT3, f3, f18, f24, x1, x2]
      refine RetOk.by (lk [(0, 0)]) ?_
      simp [results161, h0]
  · have k := k3 (fun h => x1 h.1)
    subst k
    simp [symT3, f18, f24, x1]
    refine RetOk.by (lk [(0, 0)]) ?_
    simp [results161, h0]
theorem sym_t2_12 {f : FuncId} {ds : List D} {l D1 D2 D3 : List (Int × Int)} {a m b s mid e N : Nat} {g : Nat → V} (f0 : g 0 = .ls 0 0 N 2) (f1 : g 1 = vi a) (f2 : g 2 = vi m) (f3 : g 3 = vi b) (f4 : g 4 = .d (.fn f ds)) (f18 : g 18 = vi mid) (f20 : g 20 = vi s) (f24 : g 24 = vi e) {H : Hp} (h0 : H 0 = some (cellsI D1)) {E : Ent} (hE : ∀ i, E.stab i ↔ i ∈ [0]) (hs : E.nt = f161.ntmps ∧ E.rd = none) (n1 : spD D1 ≠ []) (n2 : spD D2 ≠ [])
    (c2 : a < s → s < mid → Cm prog 161 [.ls 0 0 N 2, vi a, vi s, vi mid, .d (.fn f ds)] (lk [(0, cellsI D1)]) [0] (.ret (.tup [])) (lk [(0, cellsI D2)])) (k2 : ¬ (a < s ∧ s < mid) → D2 = D1)
    (c3 : mid < e → e < b → Cm prog 161 [.ls 0 0 N 2, vi mid, vi e, vi b, .d (.fn f ds)] (lk [(0, cellsI D2)]) [0] (.ret (.tup [])) (lk [(0, cellsI D3)])) (k3 : ¬ (mid < e ∧ e < b) → D3 = D2) :
    PW prog tys eqs E symT2 (retM tys f161 [0] (.ret (.tup [])) [(0, cellsI D3)]) ⟨g, H, 12582913⟩ := by
  by_cases x1 : a < s
  · by_cases x2 : s < mid
    · simp [symT2, f0, f1, f4, f18, f20, x1, x2]
      have q := c2 x1 x2
      refine ACall.mkR _ _ _ _ _ (q) (by simp [h0]) (by simp) (by simp [n1]) (by simp) (by first | (left; simp; done) | (right; simp [n1, h0]; done)) ?_
      simp
      refine sym_t3_26 (l := l) (D1 := D1) (a := a) (m := m) (s := s) ?_ ?_ ?_ ?_ ?_ ?_ ?_ ?_ ?_ hE hs n2 c3 k3 <;> simp [f0, f1, f2, f3, f4, f18, f20, f24]
    · have k := k2 (fun h => x2 h.2)
      subst k
      simp [symT2, f1, f18, f20, x1, x2]
      refine sym_t3_20 (l := l) (D1 := D2) (a := a) (m := m) (s := s) ?_ ?_ ?_ ?_ ?_ ?_ ?_ ?_ ?_ hE hs n2 c3 k3 <;> simp [f0, f1, f2, f3, f4, f18, f20, f24, h0]
  · have k := k2 (fun h => x1 h.1)
    subst k
    simp [symT2, f1, f20, x1]
    refine sym_t3_20 (l := l) (D1 := D2) (a := a) (m := m) (s := s) ?_ ?_ ?_ ?_ ?_ ?_ ?_ ?_ ?_ hE hs n2 c3 k3 <;> simp [f0, f1, f2, f3, f4, f18, f20, f24, h0]
theorem sym_t2_18 {f : FuncId} {ds : List D} {l D1 D2 D3 : List (Int × Int)} {a m b s mid e N : Nat} {g : Nat → V} (f0 : g 0 = .ls 0 0 N 2) (f1 : g 1 = vi a) (f2 : g 2 = vi m) (f3 : g 3 = vi b) (f4 : g 4 = .d (.fn f ds)) (f18 : g 18 = vi mid) (f20 : g 20 = vi s) (f24 : g 24 = vi e) {H : Hp} (h0 : H 0 = some (cellsI D1)) {E : Ent} (hE : ∀ i, E.stab i ↔ i ∈ [0]) (hs : E.nt = f161.ntmps ∧ E.rd = none) (n1 : spD D1 ≠ []) (n2 : spD D2 ≠ [])
    (c2 : a < s → s < mid → Cm prog 161 [.ls 0 0 N 2, vi a, vi s, vi mid, .d (.fn f ds)] (lk [(0, cellsI D1)]) [0] (.ret (.tup [])) (lk [(0, cellsI D2)])) (k2 : ¬ (a < s ∧ s < mid) → D2 = D1)
    (c3 : mid < e → e < b → Cm prog 161 [.ls 0 0 N 2, vi mid, vi e, vi b, .d (.fn f ds)] (lk [(0, cellsI D2)]) [0] (.ret (.tup [])) (lk [(0, cellsI D3)])) (k3 : ¬ (mid < e ∧ e < b) → D3 = D2) :
    PW prog tys eqs E symT2 (retM tys f161 [0] (.ret (.tup [])) [(0, cellsI D3)]) ⟨g, H, 18874369⟩ := by
  by_cases x1 : a < s
  · by_cases x2 : s < mid
    · simp [symT2, f0, f1, f4, f18, f20, x1, x2]
      have q := c2 x1 x2
      refine ACall.mkR _ _ _ _ _ (q) (by simp [h0]) (by simp) (by simp [n1]) (by simp) (by first | (left; simp; done) | (right; simp [n1, h0]; done)) ?_
      simp
      refine sym_t3_32 (l := l) (D1 := D1) (a := a) (m := m) (s := s) ?_ ?_ ?_ ?_ ?_ ?_ ?_ ?_ ?_ hE hs n2 c3 k3 <;> simp [f0, f1, f2, f3, f4, f18, f20, f24]
    · have k := k2 (fun h => x2 h.2)
      subst k
      simp [symT2, f1, f18, f20, x1, x2]
      refine sym_t3_26 (l := l) (D1 := D2) (a := a) (m := m) (s := s) ?_ ?_ ?_ ?_ ?_ ?_ ?_ ?_ ?_ hE hs n2 c3 k3 <;> simp [f0, f1, f2, f3, f4, f18, f20, f24, h0]
  · have k := k2 (fun h => x1 h.1)
    subst k
    simp [symT2, f1, f20, x1]
    refine sym_t3_26 (l := l) (D1 := D2) (a := a) (m := m) (s := s) ?_ ?_ ?_ ?_ ?_ ?_ ?_ ?_ ?_ hE hs n2 c3 k3 <;> simp [f0, f1, f2, f3, f4, f18, f20, f24, h0]
theorem sym_t1_4 {f : FuncId} {ds : List D} {l D1 D2 D3 : List (Int × Int)} {a m b s mid e N : Nat} {g : Nat → V} (f0 : g 0 = .ls 0 0 N 2) (f1 : g 1 = vi a) (f2 : g 2 = vi m) (f3 : g 3 = vi b) (f4 : g 4 = .d (.fn f ds)) (f18 : g 18 = vi mid) (f20 : g 20 = vi s) (f24 : g 24 = vi e) {H : Hp} (h0 : H 0 = some (cellsI l)) {E : Ent} (hE : ∀ i, E.stab i ↔ i ∈ [0]) (hs : E.nt = f161.ntmps ∧ E.rd = none) (n0 : spD l ≠ []) (n1 : spD D1 ≠ []) (n2 : spD D2 ≠ [])
    (c1 : s < m → m < e → Cm prog 167 [.ls 0 0 N 2, vi s, vi m, vi e, .d (.fn f ds)] (lk [(0, cellsI l)]) [0] (.ret (.tup [])) (lk [(0, cellsI D1)])) (k1 : ¬ (s < m ∧ m < e) → D1 = l)
    (c2 : a < s → s < mid → Cm prog 161 [.ls 0 0 N 2, vi a, vi s, vi mid, .d (.fn f ds)] (lk [(0, cellsI D1)]) [0] (.ret (.tup [])) (lk [(0, cellsI D2)])) (k2 : ¬ (a < s ∧ s < mid) → D2 = D1)
    (c3 : mid < e → e < b → Cm prog 161 [.ls 0 0 N 2, vi mid, vi e, vi b, .d (.fn f ds)] (lk [(0, cellsI D2)]) [0] (.ret (.tup [])) (lk [(0, cellsI D3)])) (k3 : ¬ (mid < e ∧ e < b) → D3 = D2) :
    PW prog tys eqs E symT1 (retM tys f161 [0] (.ret (.tup [])) [(0, cellsI D3)]) ⟨g, H, 4194305⟩ := by
  by_cases x1 : s < m
  · by_cases x2 : m < e
    · simp [symT1, f0, f2, f4, f20, f24, x1, x2]
      have q := c1 x1 x2
      refine ACall.mkR _ _ _ _ _ (q) (by simp [h0]) (by simp) (by simp [n0]) (by simp) (by first | (left; simp; done) | (right; simp [n0, h0]; done)) ?_
      simp
      refine sym_t2_18 (l := l) (m := m) ?_ ?_ ?_ ?_ ?_ ?_ ?_ ?_ ?_ hE hs n1 n2 c2 k2 c3 k3 <;> simp [f0, f1, f2, f3, f4, f18, f20, f24]
    · have k := k1 (fun h => x2 h.2)
      subst k
      simp [symT1, f2, f20, f24, x1, x2]
      refine sym_t2_12 (l := D1) (m := m) ?_ ?_ ?_ ?_ ?_ ?_ ?_ ?_ ?_ hE hs n1 n2 c2 k2 c3 k3 <;> simp [f0, f1, f2, f3, f4, f18, f20, f24, h0]
  · have k := k1 (fun h => x1 h.1)
    subst k
    simp [symT1, f2, f20, x1]
    refine sym_t2_12 (l := D1) (m := m) ?_ ?_ ?_ ?_ ?_ ?_ ?_ ?_ ?_ hE hs n1 n2 c2 k2 c3 k3 <;> simp [f0, f1, f2, f3, f4, f18, f20, f24, h0]
end Go.Proofs.Try
namespace Go.Proofs.Try
open Go.Psl
open Go.Stb
abbrev symS (l : List (Int × Int)) (f : FuncId) (ds : List D) (a m b mid nn n' : Nat) (y : Nat × Nat) : St := ⟨slots [(0, .ls 0 0 l.length 2), (1, vi a), (2, vi m), (3, vi b), (4, .d (.fn f ds)), (18, vi mid), (19, vi nn), (20, vi y.1), (21, vi y.2), (22, vi n')], lk [(0, cellsI l)], 1⟩
abbrev symC (l : List (Int × Int)) (f : FuncId) (ds : List D) (a m b mid nn s : Nat) : St := ⟨slots [(0, .ls 0 0 l.length 2), (1, vi a), (2, vi m), (3, vi b), (4, .d (.fn f ds)), (18, vi mid), (19, vi nn), (20, vi s)], lk [(0, cellsI l)], 1⟩
abbrev symI (c : Int × Int → Int × Int → Bool) (l : List (Int × Int)) (lo hi n' s : Nat) (y : Nat × Nat) : Prop := lo ≤ y.1 ∧ y.1 ≤ y.2 ∧ y.2 ≤ hi ∧ srch (fun x => !lessAt c l (n' - x) x) y.1 y.2 = s
theorem sym_round {f : FuncId} {ds : List D} {dom : Int × Int → Prop} {c : Int × Int → Int × Int → Bool} (hc : CmpOk f ds dom c) (l : List (Int × Int)) (hd : ∀ x ∈ l, dom x) (hl : l.length ≤ 1000000000) (a m b mid nn n' lo hi s : Nat) (hn : n' < lo + l.length) (hh : hi ≤ l.length) (hh2 : hi ≤ n') {E : Ent} (hE : ∀ i, E.stab i ↔ i ∈ [0]) {Q : AExit → St → Prop} (x : Nat × Nat) (hx : symI c l lo hi n' s x) :
    PW prog tys eqs E p161l4 (seqQ (fun st' => ∃ y, symI c l lo hi n' s y ∧ y.2 - y.1 < x.2 - x.1 ∧ Weak prog E st' (symS l f ds a m b mid nn n' y)) (exC prog E Q 8 (fun _ : Unit => symC l f ds a m b mid nn s) (fun _ => True))) (symS l f ds a m b mid nn n' x) := by
  have hdl := spD_len l
  obtain ⟨i, j⟩ := x
  obtain ⟨g1, g2, g3, g4⟩ := hx
  simp only at g1 g2 g3 g4
  simp [p161l4]
  by_cases h : i < j
  · rw [srch_step _ h] at g4
    obtain ⟨k, hk⟩ : ∃ k : Nat, k = (i + j) / 2 := ⟨_, rfl⟩
    rw [← hk] at g4
    obtain ⟨w, hw⟩ : ∃ w : Nat, n' - k = w := ⟨_, rfl⟩
    rw [hw] at g4
    have t1 : IntKind.wrap .i64 ((i : Int) + j) = (i : Int) + j := wrap64 (by omega) (by omega)
    have t2 : IntKind.wrap .u64 ((i : Int) + j) = (i : Int) + j := wrapu64 (by omega) (by omega)
    have t3 : IntKind.wrap .i64 (((i : Int) + j) / 2) = (k : Int) := by rw [wrap64 (by omega) (by omega)]; omega
    have t4 : IntKind.wrap .i64 ((k : Int) + 1) = ((k + 1 : Nat) : Int) := by rw [wrap64 (by omega) (by omega)]; rfl
    have t5 : IntKind.wrap .i64 ((n' : Int) - k) = (w : Int) := by rw [wrap64 (by omega) (by omega)]; omega
    simp only [Int.natCast_add, Int.cast_ofNat_Int] at t4
    obtain ⟨u, hu⟩ : ∃ u, l[w]? = some u := ⟨_, List.getElem?_eq_getElem (by omega)⟩
    obtain ⟨v, hv⟩ : ∃ v, l[k]? = some v := ⟨_, List.getElem?_eq_getElem (by omega)⟩
    have cu := cells_at hu
    have cv := cells_at hv
    have i1 : w < l.length := by omega
    have i2 : k < l.length := by omega
    have q1 : w * 2 + 2 ≤ l.length * 2 := by omega
    have q2 : k * 2 + 2 ≤ l.length * 2 := by omega
    obtain ⟨r, hr, hcr⟩ := hc u v (hd u (List.mem_of_getElem? hu)) (hd v (List.mem_of_getElem? hv))
    rw [lessAt_eq hu hv] at g4
    simp [h, t1, t2, t3, t5, inC, Nat.testBit, i1, i2, q1, q2, cu, cv, hdl]
    refine ACall.mk _ _ _ (hcr) (by first | (simp; done) | simp [Bor_ls, Bor1_ls]) (by simp) (by first | (left; simp; done) | (right; simp; done)) ?_
    by_cases hr0 : r < 0
    · rw [hr.2 hr0] at g4
      simp only [Bool.not_true, Bool.false_eq_true, if_false] at g4
      simp [hr0]
      refine ⟨i, k, ⟨by omega, by omega, by omega, g4⟩, by omega, ?_⟩
      refine Weak.mkM hE (lk [(0, 0)]) _ _ _ ?_ ?_ ?_ ?_ ?_ ?_ <;> simp
    · rw [show c u v = false by cases e : c u v with | false => rfl | true => exact absurd (hr.1 e) hr0] at g4
      simp only [Bool.not_false, if_true] at g4
      simp [hr0, t4]
      refine ⟨k + 1, j, ⟨by omega, by omega, by omega, g4⟩, by omega, ?_⟩
      refine Weak.mkM hE (lk [(0, 0)]) _ _ _ ?_ ?_ ?_ ?_ ?_ ?_ <;> simp
  · rw [srch_end _ h] at g4
    subst g4
    simp [h]
    refine Weak.mkM hE (lk [(0, 0)]) _ _ _ ?_ ?_ ?_ ?_ ?_ ?_ <;> simp
end Go.Proofs.Try
namespace Go.Proofs.Try
open Go.Psl
open Go.Stb
theorem sym_t0 {f : FuncId} {ds : List D} {l D1 D2 D3 : List (Int × Int)} {a m b s mid nn e : Nat} {E : Ent} (hE : ∀ i, E.stab i ↔ i ∈ [0]) (hs : E.nt = f161.ntmps ∧ E.rd = none) (e6 : IntKind.wrap .i64 ((nn : Int) - s) = (e : Int)) (n0 : spD l ≠ []) (n1 : spD D1 ≠ []) (n2 : spD D2 ≠ [])
    (c1 : s < m → m < e → Cm prog 167 [.ls 0 0 l.length 2, vi s, vi m, vi e, .d (.fn f ds)] (lk [(0, cellsI l)]) [0] (.ret (.tup [])) (lk [(0, cellsI D1)])) (k1 : ¬ (s < m ∧ m < e) → D1 = l)
    (c2 : a < s → s < mid → Cm prog 161 [.ls 0 0 l.length 2, vi a, vi s, vi mid, .d (.fn f ds)] (lk [(0, cellsI D1)]) [0] (.ret (.tup [])) (lk [(0, cellsI D2)])) (k2 : ¬ (a < s ∧ s < mid) → D2 = D1)
    (c3 : mid < e → e < b → Cm prog 161 [.ls 0 0 l.length 2, vi mid, vi e, vi b, .d (.fn f ds)] (lk [(0, cellsI D2)]) [0] (.ret (.tup [])) (lk [(0, cellsI D3)])) (k3 : ¬ (mid < e ∧ e < b) → D3 = D2) :
    PW prog tys eqs E symT0 (retM tys f161 [0] (.ret (.tup [])) [(0, cellsI D3)]) (symC l f ds a m b mid nn s) := by
  simp [symT0, e6]
  refine sym_t1_4 ?_ ?_ ?_ ?_ ?_ ?_ ?_ ?_ ?_ hE hs n0 n1 n2 c1 k1 c2 k2 c3 k3 <;> simp
theorem sym_cut {f : FuncId} {ds : List D} {dom : Int × Int → Prop} {c : Int × Int → Int × Int → Bool} (hc : CmpOk f ds dom c) (l D1 D2 D3 : List (Int × Int)) (a m b s mid e nn n' lo hi : Nat) (hd : ∀ x ∈ l, dom x) (hl : l.length ≤ 1000000000)
    (z1n : ¬ (m : Int) - a = 1) (z1m : ¬ (b : Int) - m = 1)
    (z1 : IntKind.wrap .i64 ((m : Int) - a) = (m : Int) - a) (z1' : IntKind.wrap .i64 ((b : Int) - m) = (b : Int) - m)
    (e1 : IntKind.wrap .i64 ((a : Int) + b) = (a : Int) + b) (e2 : IntKind.wrap .u64 ((a : Int) + b) = (a : Int) + b) (e3 : IntKind.wrap .i64 (((a : Int) + b) / 2) = (mid : Int))
    (e4 : IntKind.wrap .i64 ((mid : Int) + m) = (nn : Int)) (e5 : IntKind.wrap .i64 ((nn : Int) - 1) = (n' : Int)) (e6 : IntKind.wrap .i64 ((nn : Int) - s) = (e : Int))
    (hcs : (mid < m ∧ IntKind.wrap .i64 ((nn : Int) - b) = (lo : Int) ∧ hi = mid) ∨ (¬ mid < m ∧ lo = a ∧ hi = m))
    (hn : n' < lo + l.length) (hh : hi ≤ l.length) (hh2 : hi ≤ n') (hlh : lo ≤ hi) (hsr : srch (fun x => !lessAt c l (n' - x) x) lo hi = s)
    (n0 : spD l ≠ []) (n1 : spD D1 ≠ []) (n2 : spD D2 ≠ [])
    (c1 : s < m → m < e → Cm prog 167 [.ls 0 0 l.length 2, vi s, vi m, vi e, .d (.fn f ds)] (lk [(0, cellsI l)]) [0] (.ret (.tup [])) (lk [(0, cellsI D1)])) (k1 : ¬ (s < m ∧ m < e) → D1 = l)
    (c2 : a < s → s < mid → Cm prog 161 [.ls 0 0 l.length 2, vi a, vi s, vi mid, .d (.fn f ds)] (lk [(0, cellsI D1)]) [0] (.ret (.tup [])) (lk [(0, cellsI D2)])) (k2 : ¬ (a < s ∧ s < mid) → D2 = D1)
    (c3 : mid < e → e < b → Cm prog 161 [.ls 0 0 l.length 2, vi mid, vi e, vi b, .d (.fn f ds)] (lk [(0, cellsI D2)]) [0] (.ret (.tup [])) (lk [(0, cellsI D3)])) (k3 : ¬ (mid < e ∧ e < b) → D3 = D2) :
    Cm prog 161 [.ls 0 0 l.length 2, vi a, vi m, vi b, .d (.fn f ds)] (lk [(0, cellsI l)]) [0] (.ret (.tup [])) (lk [(0, cellsI D3)]) := by
  refine Cm.by gok eok mixed 1 func161 c161 rfl (by simp [ntmps161]) (by simp) (HpIds.at ?_) (by simp) ?_ fun E hE hs => ?_
  · simp
  · simp [ResIds]
  rcases hcs with ⟨hmm, e8, hhi⟩ | ⟨hmm, hlo, hhi⟩
  · simp [p161, z1, z1', z1n, z1m, e1, e2, e3, e4, hmm, e8, e5]
    refine pw_loopC (α := Nat × Nat) 8 (fun _ : Unit => symC l f ds a m b mid nn s) (fun _ => True) (symS l f ds a m b mid nn n') (symI c l lo hi n' s) (fun y => y.2 - y.1) (lo, hi) ⟨Nat.le_refl _, hlh, Nat.le_refl _, hsr⟩ ?_ (sym_round hc l hd hl a m b mid nn n' lo hi s hn hh hh2 hE) fun _ _ => ?_
    · refine Weak.mkM hE (lk [(0, 0)]) _ _ _ ?_ ?_ ?_ ?_ ?_ ?_ <;> simp [hhi]
    · simp only [blkQ_exit, if_true, seqQ_normal]
      exact sym_t0 hE hs e6 n0 n1 n2 c1 k1 c2 k2 c3 k3
  · simp [p161, z1, z1', z1n, z1m, e1, e2, e3, e4, hmm, e5]
    refine pw_loopC (α := Nat × Nat) 8 (fun _ : Unit => symC l f ds a m b mid nn s) (fun _ => True) (symS l f ds a m b mid nn n') (symI c l lo hi n' s) (fun y => y.2 - y.1) (lo, hi) ⟨Nat.le_refl _, hlh, Nat.le_refl _, hsr⟩ ?_ (sym_round hc l hd hl a m b mid nn n' lo hi s hn hh hh2 hE) fun _ _ => ?_
    · refine Weak.mkM hE (lk [(0, 0)]) _ _ _ ?_ ?_ ?_ ?_ ?_ ?_ <;> simp [hlo, hhi]
    · simp only [blkQ_exit, if_true, seqQ_normal]
      exact sym_t0 hE hs e6 n0 n1 n2 c1 k1 c2 k2 c3 k3
end Go.Proofs.Try
namespace Go.Proofs.Try
open Go.Psl
open Go.Stb
theorem spD_ne {l : List (Int × Int)} (h : 0 < l.length) : spD l ≠ [] := by
  intro e; have := congrArg List.length e; simp at this; omega
theorem cut_nums {a m b mid nn n' lo hi : Nat} (ha : 2 ≤ m - a) (hm : 2 ≤ b - m) {N : Nat} (hb : b ≤ N) (hl : N ≤ 1000000000) (hmid : (a + b) / 2 = mid) (hnn : mid + m = nn) (hn' : nn - 1 = n')
    (hcs : (mid < m ∧ lo = nn - b ∧ hi = mid) ∨ (¬ mid < m ∧ lo = a ∧ hi = m)) :
    a ≤ lo ∧ lo ≤ hi ∧ hi ≤ m ∧ hi ≤ mid ∧ nn - b ≤ lo ∧ n' < lo + N ∧ hi ≤ N ∧ hi ≤ n' ∧ a < mid ∧ mid < b := by
  rcases hcs with ⟨h1, h2, h3⟩ | ⟨h1, h2, h3⟩ <;> subst h2 <;> subst h3 <;> omega
theorem cut_wr {a m b mid nn n' : Nat} (ha : 2 ≤ m - a) (hm : 2 ≤ b - m) {N : Nat} (hb : b ≤ N) (hl : N ≤ 1000000000) (hmid : (a + b) / 2 = mid) (hnn : mid + m = nn) (hn' : nn - 1 = n') :
    (¬ (m : Int) - a = 1) ∧ (¬ (b : Int) - m = 1) ∧ IntKind.wrap .i64 ((m : Int) - a) = (m : Int) - a ∧ IntKind.wrap .i64 ((b : Int) - m) = (b : Int) - m ∧ IntKind.wrap .i64 ((a : Int) + b) = (a : Int) + b ∧ IntKind.wrap .u64 ((a : Int) + b) = (a : Int) + b ∧ IntKind.wrap .i64 (((a : Int) + b) / 2) = (mid : Int) ∧ IntKind.wrap .i64 ((mid : Int) + m) = (nn : Int) ∧ IntKind.wrap .i64 ((nn : Int) - 1) = (n' : Int) := by
  refine ⟨by omega, by omega, wrap64 (by omega) (by omega), wrap64 (by omega) (by omega), wrap64 (by omega) (by omega), wrapu64 (by omega) (by omega), ?_, ?_, ?_⟩
  · rw [wrap64 (by omega) (by omega)]; omega
  · rw [wrap64 (by omega) (by omega)]; omega
  · rw [wrap64 (by omega) (by omega)]; omega
theorem sym3 {f : FuncId} {ds : List D} {dom : Int × Int → Prop} {c : Int × Int → Int × Int → Bool} (hc : CmpOk f ds dom c) (n : Nat) (l : List (Int × Int)) (a m b : Nat) (hd : ∀ x ∈ l, dom x) (ha : 2 ≤ m - a) (hm : 2 ≤ b - m) (hb : b ≤ l.length) (hn : b - a ≤ n + 1) (hl : l.length ≤ 1000000000)
    (ih : ∀ (D : List (Int × Int)) (a m b : Nat), (∀ x ∈ D, dom x) → a < m → m < b → b ≤ D.length → b - a ≤ n → D.length ≤ 1000000000 → Cm prog 161 [.ls 0 0 D.length 2, vi a, vi m, vi b, .d (.fn f ds)] (lk [(0, cellsI D)]) [0] (.ret (.tup [])) (lk [(0, cellsI (symL c n D a m b))])) :
    Cm prog 161 [.ls 0 0 l.length 2, vi a, vi m, vi b, .d (.fn f ds)] (lk [(0, cellsI l)]) [0] (.ret (.tup [])) (lk [(0, cellsI (symL c (n + 1) l a m b))]) := by
  obtain ⟨mid, hmid⟩ : ∃ mid, (a + b) / 2 = mid := ⟨_, rfl⟩
  obtain ⟨s, hs⟩ : ∃ s, cutS c l a m b = s := ⟨_, rfl⟩
  obtain ⟨nn, hnn⟩ : ∃ nn, mid + m = nn := ⟨_, rfl⟩
  obtain ⟨n', hn'⟩ : ∃ n', nn - 1 = n' := ⟨_, rfl⟩
  obtain ⟨e, he⟩ : ∃ e, nn - s = e := ⟨_, rfl⟩
  obtain ⟨D1, hD1⟩ : ∃ D1, (if s < m ∧ m < e then rotF l m (m - s) (e - m) else l) = D1 := ⟨_, rfl⟩
  obtain ⟨D2, hD2⟩ : ∃ D2, (if a < s ∧ s < mid then symL c n D1 a s mid else D1) = D2 := ⟨_, rfl⟩
  obtain ⟨D3, hD3⟩ : ∃ D3, (if mid < e ∧ e < b then symL c n D2 mid e b else D2) = D3 := ⟨_, rfl⟩
  have hsym : symL c (n + 1) l a m b = D3 := by
    rw [symL, if_neg (by omega), if_neg (by omega)]
    simp only [hmid, hs, hnn, he, hD1, hD2, hD3]
  rw [hsym]
  clear hsym
  unfold cutS at hs
  rw [hmid, hnn, hn'] at hs
  obtain ⟨lo, hlo⟩ : ∃ lo, (if mid < m then nn - b else a) = lo := ⟨_, rfl⟩
  obtain ⟨hi, hhi⟩ : ∃ hi, (if mid < m then mid else m) = hi := ⟨_, rfl⟩
  rw [hlo, hhi] at hs
  have hcs : (mid < m ∧ lo = nn - b ∧ hi = mid) ∨ (¬ mid < m ∧ lo = a ∧ hi = m) := by
    by_cases h : mid < m
    · rw [if_pos h] at hlo hhi; exact .inl ⟨h, hlo.symm, hhi.symm⟩
    · rw [if_neg h] at hlo hhi; exact .inr ⟨h, hlo.symm, hhi.symm⟩
  clear hlo hhi
  obtain ⟨r1, r2, r3, r4, r5, r6, r7, r8, r9, r10⟩ := cut_nums ha hm hb hl hmid hnn hn' hcs
  have v1 : mid - a ≤ n := by omega
  have v2 : b - mid ≤ n := by omega
  obtain ⟨w1, w2, w3, w4, w5, w6, w7, w8, w9⟩ := cut_wr ha hm hb hl hmid hnn hn'
  have hsp := srch_spec (fun x => !lessAt c l (n' - x) x) r2
  rw [hs] at hsp
  have hs1 := hsp.1
  have hs2 := hsp.2.1
  clear hsp
  have hcs' : (mid < m ∧ IntKind.wrap .i64 ((nn : Int) - b) = (lo : Int) ∧ hi = mid) ∨ (¬ mid < m ∧ lo = a ∧ hi = m) := by
    rcases hcs with ⟨h1, h2, h3⟩ | h
    · refine .inl ⟨h1, ?_, h3⟩
      subst h2
      rw [wrap64 (by omega) (by omega)]; omega
    · exact .inr h
  clear hcs
  have e6 : IntKind.wrap .i64 ((nn : Int) - s) = (e : Int) := by rw [wrap64 (by omega) (by omega)]; omega
  have d1 : (∀ x ∈ D1, dom x) ∧ D1.length = l.length := by
    rw [← hD1]
    split
    · exact ⟨rotF_all hd _ _ _, rotF_len _ _ _ _⟩
    · exact ⟨hd, rfl⟩
  have d2 : (∀ x ∈ D2, dom x) ∧ D2.length = l.length := by
    rw [← hD2]
    split
    · exact ⟨symL_all c n _ _ _ _ d1.1, by rw [symL_len]; exact d1.2⟩
    · exact d1
  have eb : e ≤ b := by omega
  have em : mid ≤ e := by omega
  have g0 : 0 < l.length := by omega
  refine sym_cut hc l D1 D2 D3 a m b s mid e nn n' lo hi hd hl w1 w2 w3 w4 w5 w6 w7 w8 w9 e6 hcs' r6 r7 r8 r2 hs (spD_ne g0) (spD_ne (by rw [d1.2]; exact g0)) (spD_ne (by rw [d2.2]; exact g0)) ?_ (fun h => by rw [← hD1, if_neg h]) ?_ (fun h => by rw [← hD2, if_neg h]) ?_ (fun h => by rw [← hD3, if_neg h])
  · intro h1 h2
    have := fn167 l s m e (.fn f ds) h1 h2 (Nat.le_trans eb hb) hl
    rw [if_pos ⟨h1, h2⟩] at hD1
    rw [hD1] at this; exact this
  · intro h1 h2
    have := ih D1 a s mid d1.1 h1 h2 (by rw [d1.2]; exact Nat.le_trans (Nat.le_of_lt r10) hb) v1 (by rw [d1.2]; exact hl)
    rw [if_pos ⟨h1, h2⟩] at hD2
    rw [hD2, d1.2] at this; exact this
  · intro h1 h2
    have := ih D2 mid e b d2.1 h1 h2 (by rw [d2.2]; exact hb) v2 (by rw [d2.2]; exact hl)
    rw [if_pos ⟨h1, h2⟩] at hD3
    rw [hD3, d2.2] at this; exact this
theorem fn161 {f : FuncId} {ds : List D} {dom : Int × Int → Prop} {c : Int × Int → Int × Int → Bool} (hc : CmpOk f ds dom c) : ∀ (n : Nat) (l : List (Int × Int)) (a m b : Nat), (∀ x ∈ l, dom x) → a < m → m < b → b ≤ l.length → b - a ≤ n → l.length ≤ 1000000000 →
    Cm prog 161 [.ls 0 0 l.length 2, vi a, vi m, vi b, .d (.fn f ds)] (lk [(0, cellsI l)]) [0] (.ret (.tup [])) (lk [(0, cellsI (symL c n l a m b))])
  | 0, l, a, m, b, hd, h1, h2, h3, h4, h5 => by omega
  | n + 1, l, a, m, b, hd, h1, h2, h3, h4, h5 => by
    by_cases g1 : m - a = 1
    · have := sym1 hc l a m b hd g1 h2 h3 h5
      rw [symL, if_pos g1]; exact this
    by_cases g2 : b - m = 1
    · have := sym2 hc l a m b hd (by omega) g2 h3 h5
      rw [symL, if_neg g1, if_pos g2]; exact this
    exact sym3 hc n l a m b hd (by omega) (by omega) h3 h4 h5 (fn161 hc n)
end Go.Proofs.Try
namespace Go.Stb
variable {α : Type}
def SOn (lt : α → α → Prop) (D : List α) (lo hi : Nat) : Prop := ∀ p q x y, lo ≤ p → p < q → q < hi → D[p]? = some x → D[q]? = some y → lt x y
theorem SOn.of_pw {lt : α → α → Prop} {P R S : List α} (h : R.Pairwise lt) {a b : Nat} (ha : a = P.length) (hb : b = P.length + R.length) : SOn lt (P ++ R ++ S) a b := by
  intro p q x y h1 h2 h3 hx hy
  rw [List.append_assoc, List.getElem?_append_right (by omega), List.getElem?_append_left (by omega)] at hx hy
  have g1 := List.getElem?_eq_some_iff.1 hx
  have g2 := List.getElem?_eq_some_iff.1 hy
  have := List.pairwise_iff_getElem.1 h (p - P.length) (q - P.length) g1.1 g2.1 (by omega)
  rw [g1.2, g2.2] at this
  exact this
theorem SOn.to_pw {lt : α → α → Prop} {P R S : List α} {a b : Nat} (h : SOn lt (P ++ R ++ S) a b) (ha : a = P.length) (hb : b = P.length + R.length) : R.Pairwise lt := by
  refine List.pairwise_iff_getElem.2 fun i j hi hj hij => ?_
  refine h (P.length + i) (P.length + j) _ _ (by omega) (by omega) (by omega) ?_ ?_
  · rw [List.append_assoc, List.getElem?_append_right (by omega), List.getElem?_append_left (by omega), Nat.add_sub_cancel_left, List.getElem?_eq_getElem hi]
  · rw [List.append_assoc, List.getElem?_append_right (by omega), List.getElem?_append_left (by omega), Nat.add_sub_cancel_left, List.getElem?_eq_getElem hj]
theorem SOn.keep {lt : α → α → Prop} {D D' : List α} {lo hi : Nat} (h : SOn lt D lo hi) (he : ∀ p, lo ≤ p → p < hi → D'[p]? = D[p]?) : SOn lt D' lo hi := by
  intro p q x y h1 h2 h3 hx hy
  rw [he p h1 (by omega)] at hx
  rw [he q (by omega) h3] at hy
  exact h p q x y h1 h2 h3 hx hy
theorem SOn.wide {lt : α → α → Prop} {D : List α} {lo hi hi' : Nat} (h : SOn lt D lo hi) (hl : D.length ≤ hi) : SOn lt D lo hi' := by
  intro p q x y h1 h2 h3 hx hy
  exact h p q x y h1 h2 (Nat.lt_of_lt_of_le (List.getElem?_eq_some_iff.1 hy).1 hl) hx hy
theorem SOn.none {lt : α → α → Prop} {D : List α} {lo hi : Nat} (h : D.length ≤ lo) : SOn lt D lo hi := by
  intro p q x y h1 h2 h3 hx hy
  have := (List.getElem?_eq_some_iff.1 hx).1
  omega
theorem out_eq {P R R' S : List α} (h : R'.length = R.length) {p : Nat} (hp : p < P.length ∨ P.length + R.length ≤ p) : (P ++ R' ++ S)[p]? = (P ++ R ++ S)[p]? := by
  rcases hp with hp | hp
  · rw [List.append_assoc, List.append_assoc, List.getElem?_append_left hp, List.getElem?_append_left hp]
  · rw [List.getElem?_append_right (by rw [List.length_append]; omega), List.getElem?_append_right (by rw [List.length_append]; omega), List.length_append, List.length_append, h]
theorem cut3 (D : List α) {a b : Nat} (hab : a ≤ b) (hb : b ≤ D.length) : ∃ P R S, D = P ++ R ++ S ∧ a = P.length ∧ b = P.length + R.length := by
  refine ⟨D.take a, (D.take b).drop a, D.drop b, ?_, by rw [List.length_take]; omega, by rw [List.length_take, List.length_drop, List.length_take]; omega⟩
  have h1 : D.take a ++ (D.take b).drop a = D.take b := by
    have := List.take_append_drop a (D.take b)
    rw [List.take_take, Nat.min_eq_left hab] at this
    exact this
  rw [h1, List.take_append_drop]
structure Ord (c : α → α → Bool) (dom : α → Prop) (lt : α → α → Prop) : Prop where
  tr : ∀ x y z, lt x y → lt y z → lt x z
  yes : ∀ x y, dom x → dom y → c y x = true → lt y x
  no : ∀ x y, dom x → dom y → c y x = false → lt x y
theorem seg_ins {c : α → α → Bool} {dom : α → Prop} {lt : α → α → Prop} (ho : Ord c dom lt) {D : List α} (hd : ∀ x ∈ D, dom x) {a b : Nat} (hab : a ≤ b) (hb : b ≤ D.length) :
    (insF c D a b).Perm D ∧ (∀ p, p < a ∨ b ≤ p → (insF c D a b)[p]? = D[p]?) ∧ SOn lt (insF c D a b) a b := by
  obtain ⟨P, G, S, e, ha, hb'⟩ := cut3 D hab hb
  subst e
  have hG : ∀ x ∈ G, dom x := fun x hx => hd x (by simp [hx])
  obtain ⟨R, q1, q2, q3⟩ := insF_ok (c := c) ho.tr P G S ((List.pairwise_of_forall_mem_list (r := Rel c lt) fun x hx y hy => ⟨ho.yes x y (hG x hx) (hG y hy), ho.no x y (hG x hx) (hG y hy)⟩)) ha hb'
  rw [q1]
  refine ⟨(q2.append_left P).append_right S, fun p hp => out_eq q2.length_eq (by omega), SOn.of_pw q3 ha (by rw [q2.length_eq]; exact hb')⟩
theorem seg_sym {c : α → α → Bool} {dom : α → Prop} {lt : α → α → Prop} (ho : Ord c dom lt) {D : List α} (hd : ∀ x ∈ D, dom x) {n a m b : Nat} (ham : a < m) (hmb : m < b) (hb : b ≤ D.length) (hn : b - a ≤ n) (s1 : SOn lt D a m) (s2 : SOn lt D m b) :
    (symL c n D a m b).Perm D ∧ (∀ p, p < a ∨ b ≤ p → (symL c n D a m b)[p]? = D[p]?) ∧ SOn lt (symL c n D a m b) a b := by
  obtain ⟨P, G, S, e, ha, hb'⟩ := cut3 D (Nat.le_of_lt (Nat.lt_trans ham hmb)) hb
  obtain ⟨A, B, e2, hA⟩ : ∃ A B, G = A ++ B ∧ A.length = m - a := ⟨G.take (m - a), G.drop (m - a), (List.take_append_drop _ _).symm, by rw [List.length_take]; omega⟩
  subst e2
  rw [List.length_append] at hb'
  have e3 : P ++ (A ++ B) ++ S = P ++ A ++ B ++ S := by simp
  rw [e3] at e
  subst e
  have hdA : ∀ x ∈ A, dom x := fun x hx => hd x (by simp [hx])
  have hdB : ∀ x ∈ B, dom x := fun x hx => hd x (by simp [hx])
  have sA : A.Pairwise lt := by
    have e4 : P ++ A ++ B ++ S = P ++ A ++ (B ++ S) := by simp
    rw [e4] at s1
    exact s1.to_pw ha (by omega)
  have sB : B.Pairwise lt := s2.to_pw (by rw [List.length_append]; omega) (by rw [List.length_append]; omega)
  obtain ⟨R, q1, q2, q3⟩ := symL_ok (c := c) ho.tr n P A B S (a := a) (m := m) (b := b) ha (by omega) (by omega) (by omega) (by omega) (by omega) sA sB ⟨fun x hx y hy => ⟨ho.yes x y (hdA x hx) (hdB y hy), ho.no x y (hdA x hx) (hdB y hy)⟩⟩
  rw [q1, ← e3]
  have hl : R.length = (A ++ B).length := q2.length_eq
  refine ⟨(q2.append_left P).append_right S, fun p hp => out_eq hl (by rw [List.length_append]; omega), SOn.of_pw q3 ha (by rw [hl, List.length_append]; omega)⟩
def Runs (lt : α → α → Prop) (bs : Nat) (D : List α) : Prop := ∀ k, SOn lt D (bs * k) (bs * k + bs)
def I0 (lt : α → α → Prop) (D : List α) (a : Nat) : Prop := ∃ k, a = 20 * k ∧ ∀ j, j < k → SOn lt D (20 * j) (20 * j + 20)
theorem i0_init (lt : α → α → Prop) (D : List α) : I0 lt D 0 := ⟨0, rfl, fun j h => by omega⟩
theorem i0_step {lt : α → α → Prop} {D D' : List α} {a : Nat} (h : I0 lt D a) (he : ∀ p, p < a ∨ a + 20 ≤ p → D'[p]? = D[p]?) (hs : SOn lt D' a (a + 20)) : I0 lt D' (a + 20) := by
  obtain ⟨k, e, hk⟩ := h
  refine ⟨k + 1, by omega, fun j hj => ?_⟩
  by_cases h : j < k
  · exact (hk j h).keep fun p h1 h2 => he p (by omega)
  · have : j = k := by omega
    subst this; subst e; exact hs
theorem i0_end {lt : α → α → Prop} {D D' : List α} {a N : Nat} (h : I0 lt D a) (hN : D'.length = N) (h1 : N < a + 20) (he : ∀ p, p < a ∨ N ≤ p → D'[p]? = D[p]?) (hs : SOn lt D' a N) : Runs lt 20 D' := by
  obtain ⟨k, e, hk⟩ := h
  intro j
  by_cases h : j < k
  · exact (hk j h).keep fun p h1 h2 => he p (by omega)
  · by_cases h2 : j = k
    · subst h2; subst e; exact hs.wide (by omega)
    · exact SOn.none (by omega)
def I1 (lt : α → α → Prop) (bs : Nat) (D : List α) (a : Nat) : Prop := ∃ k, a = 2 * bs * k ∧ (∀ j, j < k → SOn lt D (2 * bs * j) (2 * bs * j + 2 * bs)) ∧ ∀ j, 2 * k ≤ j → SOn lt D (bs * j) (bs * j + bs)
theorem i1_init {lt : α → α → Prop} {bs : Nat} {D : List α} (h : Runs lt bs D) : I1 lt bs D 0 := ⟨0, by simp, fun j h => by omega, fun j _ => h j⟩
theorem m1 (bs k : Nat) : bs * (2 * k) = 2 * bs * k := by rw [← Nat.mul_assoc, Nat.mul_comm bs 2]
theorem m2 (bs k : Nat) : bs * (2 * k + 1) = 2 * bs * k + bs := by rw [Nat.mul_succ, m1]
theorem m3 {n j k : Nat} (h : j < k) : n * j + n ≤ n * k := by rw [← Nat.mul_succ]; exact Nat.mul_le_mul_left n h
theorem I1.one {lt : α → α → Prop} {bs : Nat} {D : List α} {a : Nat} (h : I1 lt bs D a) : SOn lt D a (a + bs) := by
  obtain ⟨k, e, _, h2⟩ := h
  have := h2 (2 * k) (Nat.le_refl _)
  rw [m1, ← e] at this; exact this
theorem I1.two {lt : α → α → Prop} {bs : Nat} {D : List α} {a : Nat} (h : I1 lt bs D a) : SOn lt D (a + bs) (a + bs + bs) := by
  obtain ⟨k, e, _, h2⟩ := h
  have := h2 (2 * k + 1) (by omega)
  rw [m2, ← e] at this; exact this
theorem i1_step {lt : α → α → Prop} {bs : Nat} {D D' : List α} {a : Nat} (h : I1 lt bs D a) (he : ∀ p, p < a ∨ a + 2 * bs ≤ p → D'[p]? = D[p]?) (hs : SOn lt D' a (a + 2 * bs)) : I1 lt bs D' (a + 2 * bs) := by
  obtain ⟨k, e, h1, h2⟩ := h
  refine ⟨k + 1, by rw [Nat.mul_succ, e], fun j hj => ?_, fun j hj => ?_⟩
  · by_cases h : j < k
    · have := m3 (n := 2 * bs) h
      exact (h1 j h).keep fun p h1 h2 => he p (by omega)
    · have : j = k := by omega
      subst this; subst e; exact hs
  · have g : 2 * bs * (k + 1) ≤ bs * j := by rw [← m1]; exact Nat.mul_le_mul_left bs hj
    rw [Nat.mul_succ] at g
    exact (h2 j (by omega)).keep fun p h1 h2 => he p (by omega)
theorem i1_end {lt : α → α → Prop} {bs : Nat} {D D' : List α} {a N : Nat} (h : I1 lt bs D a) (hN : D'.length = N) (h1 : N < a + 2 * bs) (he : ∀ p, p < a ∨ N ≤ p → D'[p]? = D[p]?) (hs : SOn lt D' a N) : Runs lt (2 * bs) D' := by
  obtain ⟨k, e, h3, _⟩ := h
  intro j
  by_cases h : j < k
  · have := m3 (n := 2 * bs) h
    exact (h3 j h).keep fun p h1 h2 => he p (by omega)
  · by_cases h2 : j = k
    · subst h2; subst e; exact hs.wide (by omega)
    · have := m3 (n := 2 * bs) (show k < j by omega)
      exact SOn.none (by omega)
theorem runs_end {lt : α → α → Prop} {bs : Nat} {D : List α} (h : Runs lt bs D) (hl : D.length ≤ bs) : D.Pairwise lt := by
  have := h 0
  rw [Nat.mul_zero, Nat.zero_add] at this
  have g : SOn lt ([] ++ D ++ []) 0 D.length := by
    simp only [List.nil_append, List.append_nil]
    intro p q x y h1 h2 h3 hx hy
    exact this p q x y h1 h2 (by omega) hx hy
  exact g.to_pw rfl (by simp)
end Go.Stb
namespace Go.Stb
variable {α : Type}
def st0 (c : α → α → Bool) (N : Nat) : Nat → Nat → List α → List α
  | 0, a, D => insF c D a N
  | n + 1, a, D => if a + 20 ≤ N then st0 c N n (a + 20) (insF c D a (a + 20)) else insF c D a N
def lst1 (c : α → α → Bool) (N bs a : Nat) (D : List α) : List α := if a + bs < N then symL c N D a (a + bs) N else D
def st1 (c : α → α → Bool) (N bs : Nat) : Nat → Nat → List α → List α
  | 0, a, D => lst1 c N bs a D
  | n + 1, a, D => if a + 2 * bs ≤ N then st1 c N bs n (a + 2 * bs) (symL c N D a (a + bs) (a + 2 * bs)) else lst1 c N bs a D
def st2 (c : α → α → Bool) (N : Nat) : Nat → Nat → List α → List α
  | 0, _, D => D
  | n + 1, bs, D => if bs < N then st2 c N n (bs * 2) (st1 c N bs N 0 D) else D
def stb (c : α → α → Bool) (D : List α) : List α := st2 c D.length D.length 20 (st0 c D.length D.length 0 D)
variable {c : α → α → Bool} {dom : α → Prop} {lt : α → α → Prop} {N : Nat}
theorem dom_perm {D D' : List α} (h : D'.Perm D) (hd : ∀ x ∈ D, dom x) : ∀ x ∈ D', dom x := fun x hx => hd x (h.mem_iff.1 hx)
theorem insE_ok (ho : Ord c dom lt) {D : List α} {a : Nat} (hd : ∀ x ∈ D, dom x) (hN : D.length = N) (hi : I0 lt D a) (ha : a ≤ N) (h : N < a + 20) : (insF c D a N).Perm D ∧ Runs lt 20 (insF c D a N) := by
  obtain ⟨p1, p2, p3⟩ := seg_ins ho hd ha (by omega)
  exact ⟨p1, i0_end hi (by rw [p1.length_eq]; exact hN) h p2 p3⟩
theorem st0_ok (ho : Ord c dom lt) : ∀ (n a : Nat) (D : List α), (∀ x ∈ D, dom x) → D.length = N → I0 lt D a → a ≤ N → N ≤ a + n → (st0 c N n a D).Perm D ∧ Runs lt 20 (st0 c N n a D)
  | 0, a, D, hd, hN, hi, ha, hn => insE_ok ho hd hN hi ha (by omega)
  | n + 1, a, D, hd, hN, hi, ha, hn => by
    unfold st0
    by_cases h : a + 20 ≤ N
    · rw [if_pos h]
      obtain ⟨p1, p2, p3⟩ := seg_ins ho hd (Nat.le_add_right a 20) (by omega)
      obtain ⟨q1, q2⟩ := st0_ok ho n (a + 20) _ (dom_perm p1 hd) (by rw [p1.length_eq]; exact hN) (i0_step hi p2 p3) h (by omega)
      exact ⟨q1.trans p1, q2⟩
    · rw [if_neg h]
      exact insE_ok ho hd hN hi ha (by omega)
theorem lst1_ok (ho : Ord c dom lt) {D : List α} {a bs : Nat} (_ : 0 < bs) (hd : ∀ x ∈ D, dom x) (hN : D.length = N) (hi : I1 lt bs D a) (ha : a ≤ N) (h : N < a + 2 * bs) : (lst1 c N bs a D).Perm D ∧ Runs lt (2 * bs) (lst1 c N bs a D) := by
  unfold lst1
  by_cases h1 : a + bs < N
  · rw [if_pos h1]
    have s2 : SOn lt D (a + bs) N := fun p q x y g1 g2 g3 => hi.two p q x y g1 g2 (by omega)
    obtain ⟨p1, p2, p3⟩ := seg_sym ho hd (n := N) (a := a) (m := a + bs) (b := N) (by omega) h1 (by omega) (by omega) hi.one s2
    exact ⟨p1, i1_end hi (by rw [p1.length_eq]; exact hN) h p2 p3⟩
  · rw [if_neg h1]
    exact ⟨.refl _, i1_end hi hN h (fun p _ => rfl) (fun p q x y g1 g2 g3 => hi.one p q x y g1 g2 (by omega))⟩
theorem st1_ok (ho : Ord c dom lt) {bs : Nat} (hb : 0 < bs) : ∀ (n a : Nat) (D : List α), (∀ x ∈ D, dom x) → D.length = N → I1 lt bs D a → a ≤ N → N ≤ a + n → (st1 c N bs n a D).Perm D ∧ Runs lt (2 * bs) (st1 c N bs n a D)
  | 0, a, D, hd, hN, hi, ha, hn => lst1_ok ho hb hd hN hi ha (by omega)
  | n + 1, a, D, hd, hN, hi, ha, hn => by
    unfold st1
    by_cases h : a + 2 * bs ≤ N
    · rw [if_pos h]
      have s2 : SOn lt D (a + bs) (a + 2 * bs) := fun p q x y g1 g2 g3 => hi.two p q x y g1 g2 (by omega)
      obtain ⟨p1, p2, p3⟩ := seg_sym ho hd (n := N) (a := a) (m := a + bs) (b := a + 2 * bs) (by omega) (by omega) (by omega) (by omega) hi.one s2
      obtain ⟨q1, q2⟩ := st1_ok ho hb n (a + 2 * bs) _ (dom_perm p1 hd) (by rw [p1.length_eq]; exact hN) (i1_step hi p2 p3) h (by omega)
      exact ⟨q1.trans p1, q2⟩
    · rw [if_neg h]
      exact lst1_ok ho hb hd hN hi ha (by omega)
theorem st2_ok (ho : Ord c dom lt) : ∀ (n bs : Nat) (D : List α), 0 < bs → (∀ x ∈ D, dom x) → D.length = N → Runs lt bs D → N ≤ bs + n → (st2 c N n bs D).Perm D ∧ (st2 c N n bs D).Pairwise lt
  | 0, bs, D, hb, hd, hN, hr, hn => ⟨.refl _, runs_end (D := D) hr (by omega)⟩
  | n + 1, bs, D, hb, hd, hN, hr, hn => by
    unfold st2
    by_cases h : bs < N
    · rw [if_pos h]
      obtain ⟨p1, p2⟩ := st1_ok (N := N) ho hb N 0 D hd hN (i1_init hr) (Nat.zero_le _) (by omega)
      rw [Nat.mul_comm] at p2
      obtain ⟨q1, q2⟩ := st2_ok ho n (bs * 2) _ (by omega) (dom_perm p1 hd) (by rw [p1.length_eq]; exact hN) p2 (by omega)
      exact ⟨q1.trans p1, q2⟩
    · rw [if_neg h]
      exact ⟨.refl _, runs_end hr (by omega)⟩
theorem stb_ok (ho : Ord c dom lt) {D : List α} (hd : ∀ x ∈ D, dom x) : (stb c D).Perm D ∧ (stb c D).Pairwise lt := by
  obtain ⟨p1, p2⟩ := st0_ok (N := D.length) ho D.length 0 D hd rfl (i0_init lt D) (Nat.zero_le _) (by omega)
  obtain ⟨q1, q2⟩ := st2_ok (N := D.length) ho D.length 20 _ (by omega) (dom_perm p1 hd) p1.length_eq p2 (by omega)
  exact ⟨q1.trans p1, q2⟩
theorem insF_len (c : α → α → Bool) (D : List α) (a b : Nat) : (insF c D a b).length = D.length := insN_len c a D _
theorem insF_all {p : α → Prop} (c : α → α → Bool) {D : List α} (h : ∀ x ∈ D, p x) (a b : Nat) : ∀ x ∈ insF c D a b, p x := insN_all c a h _
end Go.Stb
namespace Go.Proofs.Try
open Go.Psl
open Go.Stb
abbrev stF0 (N : Nat) (f : FuncId) (ds : List D) (y : Nat × Nat × List (Int × Int)) : St := ⟨slots [(0, .ls 0 0 N 2), (1, vi N), (2, .d (.fn f ds)), (6, vi 20), (7, vi y.2.1), (8, vi ((y.2.1 : Int) + 20))], lk [(0, cellsI y.2.2)], 1⟩
abbrev stI0 (dom : Int × Int → Prop) (c : Int × Int → Int × Int → Bool) (N : Nat) (T : List (Int × Int)) (y : Nat × Nat × List (Int × Int)) : Prop := N ≤ y.2.1 + y.1 ∧ y.2.1 ≤ N ∧ y.2.2.length = N ∧ (∀ x ∈ y.2.2, dom x) ∧ st0 c N y.1 y.2.1 y.2.2 = T
theorem stb_round0 {f : FuncId} {ds : List D} {dom : Int × Int → Prop} {c : Int × Int → Int × Int → Bool} (hc : CmpOk f ds dom c) (N : Nat) (hN : 0 < N) (hl : N ≤ 100000000) (T : List (Int × Int)) {E : Ent} (hE : ∀ i, E.stab i ↔ i ∈ [0]) {Q : AExit → St → Prop} (x : Nat × Nat × List (Int × Int)) (hx : stI0 dom c N T x) :
    PW prog tys eqs E p149l0 (seqQ (fun st' => ∃ y, stI0 dom c N T y ∧ y.1 < x.1 ∧ Weak prog E st' (stF0 N f ds y)) (exC prog E Q 0 (stF0 N f ds) (fun y => stI0 dom c N T y ∧ ¬ y.2.1 + 20 ≤ N))) (stF0 N f ds x) := by
  obtain ⟨n, a, M⟩ := x
  obtain ⟨g1, g2, g3, g4, g5⟩ := hx
  simp only at g1 g2 g3 g4 g5
  simp [p149l0]
  by_cases h : a + 20 ≤ N
  · have h' : (a : Int) + 20 ≤ N := by omega
    obtain ⟨n1, hn1⟩ : ∃ n1, n = n1 + 1 := ⟨n - 1, by omega⟩
    rw [hn1, st0, if_pos h] at g5
    have n0 : spD M ≠ [] := by intro e; have := congrArg List.length e; simp at this; omega
    obtain ⟨b, hb⟩ : ∃ b, a + 20 = b := ⟨_, rfl⟩
    have hb' : (a : Int) + 20 = (b : Int) := by omega
    have z1 : IntKind.wrap .i64 ((b : Int) + 20) = (b : Int) + 20 := wrap64 (by omega) (by omega)
    have q := fn152 hc M a b g4 (by omega) (by omega) (by omega)
    rw [g3] at q
    rw [hb'] at h'
    rw [hb] at g5
    have hle : b ≤ N := by omega
    simp [hb', hle]
    refine ACall.mkR _ _ _ _ _ (q) (by simp) (by simp) (by simp [n0]) (by simp) (by first | (left; simp; done) | (right; simp [n0]; done)) ?_
    simp [z1]
    refine ⟨n1, b, insF c M a b, ⟨by simp only; omega, by simp only; omega, by simp only; rw [insF_len]; exact g3, insF_all c g4 a b, g5⟩, by omega, ?_⟩
    refine Weak.mkM hE (lk [(0, 0)]) _ _ _ ?_ ?_ ?_ ?_ ?_ ?_ <;> simp
  · have h' : ¬ (a : Int) + 20 ≤ N := by omega
    simp [h']
    refine ⟨n, a, M, ⟨⟨g1, g2, g3, g4, g5⟩, by omega⟩, ?_⟩
    refine Weak.mkM hE (lk [(0, 0)]) _ _ _ ?_ ?_ ?_ ?_ ?_ ?_ <;> simp
end Go.Proofs.Try
namespace Go.Proofs.Try
open Go.Psl
open Go.Stb
abbrev stF1 (N : Nat) (f : FuncId) (ds : List D) (bs : Nat) (y : Nat × Nat × List (Int × Int)) : St := ⟨slots [(0, .ls 0 0 N 2), (1, vi N), (2, .d (.fn f ds)), (6, vi bs), (7, vi y.2.1), (8, vi ((y.2.1 : Int) + 2 * bs))], lk [(0, cellsI y.2.2)], 1⟩
abbrev stI1 (dom : Int × Int → Prop) (c : Int × Int → Int × Int → Bool) (N bs : Nat) (T : List (Int × Int)) (y : Nat × Nat × List (Int × Int)) : Prop := N ≤ y.2.1 + y.1 ∧ y.2.1 ≤ N ∧ y.2.2.length = N ∧ (∀ x ∈ y.2.2, dom x) ∧ st1 c N bs y.1 y.2.1 y.2.2 = T
theorem stb_round1 {f : FuncId} {ds : List D} {dom : Int × Int → Prop} {c : Int × Int → Int × Int → Bool} (hc : CmpOk f ds dom c) (N bs : Nat) (hbs : 0 < bs) (hb2 : bs < N) (hl : N ≤ 100000000) (T : List (Int × Int)) {E : Ent} (hE : ∀ i, E.stab i ↔ i ∈ [0]) {Q : AExit → St → Prop} (x : Nat × Nat × List (Int × Int)) (hx : stI1 dom c N bs T x) :
    PW prog tys eqs E p149l1 (seqQ (fun st' => ∃ y, stI1 dom c N bs T y ∧ y.1 < x.1 ∧ Weak prog E st' (stF1 N f ds bs y)) (exC prog E Q 4 (stF1 N f ds bs) (fun y => stI1 dom c N bs T y ∧ ¬ y.2.1 + 2 * bs ≤ N))) (stF1 N f ds bs x) := by
  obtain ⟨n, a, M⟩ := x
  obtain ⟨g1, g2, g3, g4, g5⟩ := hx
  simp only at g1 g2 g3 g4 g5
  simp [p149l1]
  by_cases h : a + 2 * bs ≤ N
  · obtain ⟨n1, hn1⟩ : ∃ n1, n = n1 + 1 := ⟨n - 1, by omega⟩
    rw [hn1, st1, if_pos h] at g5
    have n0 : spD M ≠ [] := by intro e; have := congrArg List.length e; simp at this; omega
    obtain ⟨b, hb⟩ : ∃ b, a + 2 * bs = b := ⟨_, rfl⟩
    obtain ⟨m, hm⟩ : ∃ m, a + bs = m := ⟨_, rfl⟩
    have hb' : (a : Int) + 2 * bs = (b : Int) := by omega
    have z0 : IntKind.wrap .i64 ((a : Int) + bs) = (m : Int) := by rw [wrap64 (by omega) (by omega)]; omega
    have z1 : IntKind.wrap .i64 (2 * (bs : Int)) = 2 * (bs : Int) := wrap64 (by omega) (by omega)
    have z2 : IntKind.wrap .i64 ((b : Int) + 2 * (bs : Int)) = (b : Int) + 2 * bs := wrap64 (by omega) (by omega)
    have q := fn161 hc N M a m b g4 (by omega) (by omega) (by omega) (by omega) (by omega)
    rw [g3] at q
    rw [hb, hm] at g5
    have hle : b ≤ N := by omega
    simp [hb', hle, z0]
    refine ACall.mkR _ _ _ _ _ (q) (by simp) (by simp) (by simp [n0]) (by simp) (by first | (left; simp; done) | (right; simp [n0]; done)) ?_
    simp [z1, z2]
    refine ⟨n1, b, symL c N M a m b, ⟨by simp only; omega, by simp only; omega, by simp only; rw [symL_len]; exact g3, symL_all c N M a m b g4, g5⟩, by omega, ?_⟩
    refine Weak.mkM hE (lk [(0, 0)]) _ _ _ ?_ ?_ ?_ ?_ ?_ ?_ <;> simp
  · have h' : ¬ (a : Int) + 2 * bs ≤ N := by omega
    simp [h']
    refine ⟨n, a, M, ⟨⟨g1, g2, g3, g4, g5⟩, by omega⟩, ?_⟩
    refine Weak.mkM hE (lk [(0, 0)]) _ _ _ ?_ ?_ ?_ ?_ ?_ ?_ <;> simp
abbrev stF2 (N : Nat) (f : FuncId) (ds : List D) (y : Nat × Nat × List (Int × Int)) : St := ⟨slots [(0, .ls 0 0 N 2), (1, vi N), (2, .d (.fn f ds)), (6, vi y.2.1)], lk [(0, cellsI y.2.2)], 1⟩
abbrev stI2 (dom : Int × Int → Prop) (c : Int × Int → Int × Int → Bool) (N : Nat) (T : List (Int × Int)) (y : Nat × Nat × List (Int × Int)) : Prop := N ≤ y.2.1 + y.1 ∧ 0 < y.2.1 ∧ y.2.1 ≤ 200000000 ∧ y.2.2.length = N ∧ (∀ x ∈ y.2.2, dom x) ∧ st2 c N y.1 y.2.1 y.2.2 = T
theorem st1_all {dom : Int × Int → Prop} {c : Int × Int → Int × Int → Bool} (N bs : Nat) : ∀ (n a : Nat) (M : List (Int × Int)), (∀ x ∈ M, dom x) → M.length = N → (∀ x ∈ st1 c N bs n a M, dom x) ∧ (st1 c N bs n a M).length = N
  | 0, a, M, h, hl => by
    unfold st1 lst1
    split
    · exact ⟨symL_all c N M _ _ _ h, by rw [symL_len]; exact hl⟩
    · exact ⟨h, hl⟩
  | n + 1, a, M, h, hl => by
    unfold st1
    split
    · exact st1_all N bs n _ _ (symL_all c N M _ _ _ h) (by rw [symL_len]; exact hl)
    · unfold lst1
      split
      · exact ⟨symL_all c N M _ _ _ h, by rw [symL_len]; exact hl⟩
      · exact ⟨h, hl⟩
theorem st1_end {c : Int × Int → Int × Int → Bool} {N bs n a : Nat} {M : List (Int × Int)} (h : ¬ a + 2 * bs ≤ N) : st1 c N bs n a M = lst1 c N bs a M := by
  cases n with
  | zero => rfl
  | succ n => rw [st1, if_neg h]
theorem st0_end {c : Int × Int → Int × Int → Bool} {N n a : Nat} {M : List (Int × Int)} (h : ¬ a + 20 ≤ N) : st0 c N n a M = insF c M a N := by
  cases n with
  | zero => rfl
  | succ n => rw [st0, if_neg h]
theorem st2_end {c : Int × Int → Int × Int → Bool} {N n a : Nat} {M : List (Int × Int)} (h : ¬ a < N) : st2 c N n a M = M := by
  cases n with
  | zero => rfl
  | succ n => rw [st2, if_neg h]
theorem stb_round2 {f : FuncId} {ds : List D} {dom : Int × Int → Prop} {c : Int × Int → Int × Int → Bool} (hc : CmpOk f ds dom c) (N : Nat) (hN : 0 < N) (hl : N ≤ 100000000) (T : List (Int × Int)) {E : Ent} (hE : ∀ i, E.stab i ↔ i ∈ [0]) {Q : AExit → St → Prop} (x : Nat × Nat × List (Int × Int)) (hx : stI2 dom c N T x) :
    PW prog tys eqs E p149l2 (seqQ (fun st' => ∃ y, stI2 dom c N T y ∧ y.1 < x.1 ∧ Weak prog E st' (stF2 N f ds y)) (exC prog E Q 2 (fun _ : Unit => ⟨slots [], lk [(0, cellsI T)], 1⟩) (fun _ => True))) (stF2 N f ds x) := by
  obtain ⟨n, bs, M⟩ := x
  obtain ⟨g1, g2, g3, g4, g5, g6⟩ := hx
  simp only at g1 g2 g3 g4 g5 g6
  simp [p149l2]
  by_cases h : bs < N
  · obtain ⟨n1, hn1⟩ : ∃ n1, n = n1 + 1 := ⟨n - 1, by omega⟩
    rw [hn1, st2, if_pos h] at g6
    obtain ⟨U, hU⟩ : ∃ U, st1 c N bs N 0 M = U := ⟨_, rfl⟩
    have hUa := st1_all (c := c) N bs N 0 M g5 g4
    rw [hU] at hUa g6
    have z1 : IntKind.wrap .i64 (2 * (bs : Int)) = 2 * (bs : Int) := wrap64 (by omega) (by omega)
    have z3 : IntKind.wrap .i64 ((bs : Int) * 2) = ((bs * 2 : Nat) : Int) := by rw [wrap64 (by omega) (by omega)]; omega
    simp [h, z1]
    refine pw_loopC (α := Nat × Nat × List (Int × Int)) 4 (stF1 N f ds bs) (fun y => stI1 dom c N bs U y ∧ ¬ y.2.1 + 2 * bs ≤ N) (stF1 N f ds bs) (stI1 dom c N bs U) (fun y => y.1) (N, 0, M) ⟨by simp only; omega, Nat.zero_le _, g4, g5, hU⟩ ?_ (stb_round1 hc N bs g2 h hl U hE) ?_
    · refine Weak.mkM hE (lk [(0, 0)]) _ _ _ ?_ ?_ ?_ ?_ ?_ ?_ <;> simp
    · rintro ⟨k, a, L⟩ ⟨⟨r1, r2, r3, r4, r5⟩, r6⟩
      simp only at r1 r2 r3 r4 r5 r6
      rw [st1_end r6, lst1] at r5
      obtain ⟨m, hm⟩ : ∃ m, a + bs = m := ⟨_, rfl⟩
      have z0 : IntKind.wrap .i64 ((a : Int) + bs) = (m : Int) := by rw [wrap64 (by omega) (by omega)]; omega
      rw [hm] at r5
      by_cases h2 : m < N
      · rw [if_pos h2] at r5
        have n0 : spD L ≠ [] := by intro e; have := congrArg List.length e; simp at this; omega
        have q := fn161 hc N L a m N r4 (by omega) h2 (by omega) (by omega) (by omega)
        rw [r3, r5] at q
        simp [z0, h2]
        refine ACall.mkR _ _ _ _ _ (q) (by simp) (by simp) (by simp [n0]) (by simp) (by first | (left; simp; done) | (right; simp [n0]; done)) ?_
        simp [z3]
        refine ⟨n1, bs * 2, U, ⟨by simp only; omega, by simp only; omega, by simp only; omega, hUa.2, hUa.1, g6⟩, by omega, ?_⟩
        refine Weak.mkM hE (lk [(0, 0)]) _ _ _ ?_ ?_ ?_ ?_ ?_ ?_ <;> simp
      · rw [if_neg h2] at r5
        simp [z0, h2, z3]
        refine ⟨n1, bs * 2, U, ⟨by simp only; omega, by simp only; omega, by simp only; omega, hUa.2, hUa.1, g6⟩, by omega, ?_⟩
        refine Weak.mkM hE (lk [(0, 0)]) _ _ _ ?_ ?_ ?_ ?_ ?_ ?_ <;> simp [r5]
  · rw [st2_end h] at g6
    simp [h]
    refine Weak.mkM hE (lk [(0, 0)]) _ _ _ ?_ ?_ ?_ ?_ ?_ ?_ <;> simp [g6]
end Go.Proofs.Try
namespace Go.Proofs.Try
open Go.Psl
open Go.Stb
theorem fn149 {f : FuncId} {ds : List D} {dom : Int × Int → Prop} {c : Int × Int → Int × Int → Bool} (hc : CmpOk f ds dom c) (l : List (Int × Int)) (hd : ∀ x ∈ l, dom x) (h0 : 0 < l.length) (hl : l.length ≤ 100000000) : Cm prog 149 [.ls 0 0 l.length 2, vi l.length, .d (.fn f ds)] (lk [(0, cellsI l)]) [0] (.ret (.tup [])) (lk [(0, cellsI (stb c l))]) := by
  obtain ⟨N, hN⟩ : ∃ N, l.length = N := ⟨_, rfl⟩
  obtain ⟨T0, hT0⟩ : ∃ T, st0 c N N 0 l = T := ⟨_, rfl⟩
  obtain ⟨T, hT⟩ : ∃ T, st2 c N N 20 T0 = T := ⟨_, rfl⟩
  have hs : stb c l = T := by unfold stb; rw [hN, hT0, hT]
  rw [hs]
  rw [hN] at h0 hl ⊢
  clear hs
  refine Cm.by gok eok mixed 1 func149 c149 rfl (by simp [ntmps149]) (by simp) (HpIds.at ?_) (by simp) ?_ fun E hE hs => ?_
  · simp
  · simp [ResIds]
  simp [p149]
  refine pw_loopC (α := Nat × Nat × List (Int × Int)) 0 (stF0 N f ds) (fun y => stI0 dom c N T0 y ∧ ¬ y.2.1 + 20 ≤ N) (stF0 N f ds) (stI0 dom c N T0) (fun y => y.1) (N, 0, l) ⟨by simp only; omega, Nat.zero_le _, hN, hd, hT0⟩ ?_ (stb_round0 hc N h0 hl T0 hE) ?_
  · refine Weak.mkM hE (lk [(0, 0)]) _ _ _ ?_ ?_ ?_ ?_ ?_ ?_ <;> simp
  · rintro ⟨k, a, L⟩ ⟨⟨r1, r2, r3, r4, r5⟩, r6⟩
    simp only at r1 r2 r3 r4 r5 r6
    rw [st0_end r6] at r5
    have n0 : spD L ≠ [] := by intro e; have := congrArg List.length e; simp at this; omega
    have q := fn152 hc L a N r4 r2 (by omega) (by omega)
    have tl : T0.length = N := by rw [← r5, insF_len]; exact r3
    have ta : ∀ x ∈ T0, dom x := by rw [← r5]; exact insF_all c r4 a N
    rw [r3, r5] at q
    simp
    refine ACall.mkR _ _ _ _ _ (q) (by simp) (by simp) (by simp [n0]) (by simp) (by first | (left; simp; done) | (right; simp [n0]; done)) ?_
    simp
    refine pw_loopC (α := Nat × Nat × List (Int × Int)) 2 (fun _ : Unit => ⟨slots [], lk [(0, cellsI T)], 1⟩) (fun _ => True) (stF2 N f ds) (stI2 dom c N T) (fun y => y.1) (N, 20, T0) ⟨by simp only; omega, by simp only; omega, by simp only; omega, tl, ta, hT⟩ ?_ (stb_round2 hc N h0 hl T hE) fun _ _ => ?_
    · refine Weak.mkM hE (lk [(0, 0)]) _ _ _ ?_ ?_ ?_ ?_ ?_ ?_ <;> simp
    · simp
      refine RetOk.by (lk [(0, 0)]) ?_
      simp [results149]
theorem fn138 {f : FuncId} {ds : List D} {dom : Int × Int → Prop} {c : Int × Int → Int × Int → Bool} (hc : CmpOk f ds dom c) (l : List (Int × Int)) (hd : ∀ x ∈ l, dom x) (h0 : 0 < l.length) (hl : l.length ≤ 100000000) : Cm prog 138 [.ls 0 0 l.length 2, .d (.fn f ds)] (lk [(0, cellsI l)]) [0] (.ret (.tup [])) (lk [(0, cellsI (stb c l))]) := by
  have q := fn149 hc l hd h0 hl
  have n0 : spD l ≠ [] := by intro e; have := congrArg List.length e; simp at this; omega
  refine Cm.by gok eok mixed 1 func138 c138 rfl (by simp [ntmps138]) (by simp) (HpIds.at ?_) (by simp) ?_ fun E hE hs => ?_
  · simp
  · simp [ResIds]
  simp [p138]
  refine ACall.mkR _ _ _ _ _ (q) (by simp) (by simp) (by simp [n0]) (by simp) (by first | (left; simp; done) | (right; simp [n0]; done)) ?_
  simp
  refine RetOk.by (lk [(0, 0)]) ?_
  simp [results138]
end Go.Proofs.Try
namespace Go.Proofs.Try
open Go.Psl
open Go.Stb
def halfS (p : Int × Int) : Int := if 0 < p.1 ∨ (p.1 = 0 ∧ 0 < p.2) then 0 else 1
theorem fn142 (p : Int × Int) : Ct prog 142 [vsp p.1 p.2] (vi (halfS p)) [] := by
  refine Ct.by gok eok mixed func142 c142 rfl (by simp [ntmps142]) (by simp) (by simp [ResIds]) fun E hE => ?_
  obtain ⟨x, y⟩ := p
  by_cases h1 : 0 < x
  · simp [p142, h1]
    refine RetOk.by (fun _ => none) ?_
    simp [results142, halfS, h1]
  · by_cases h2 : x = 0
    · by_cases h3 : 0 < y
      · simp [p142, h2, h3]
        refine RetOk.by (fun _ => none) ?_
        simp [results142, halfS, h3]
      · simp [p142, h2, h3]
        refine RetOk.by (fun _ => none) ?_
        simp [results142, halfS, h3]
    · simp [p142, h1, h2]
      refine RetOk.by (fun _ => none) ?_
      simp [results142, halfS, h1, h2]
def sumcS (a b : Int × Int) : Int := orI [cmpI (halfS a) (halfS b), cmpI 0 (turnS a b)]
theorem fn139 (a b : Int × Int) (ha : bd 2000000000 a) (hb : bd 2000000000 b) : Ct prog 139 [vsp a.1 a.2, vsp b.1 b.2] (vi (sumcS a b)) [] := by
  refine Ct.by gok eok mixed func139 c139 rfl (by simp [ntmps139]) (by simp) (by simp [ResIds]) fun E hE => ?_
  simp [p139, inC, Nat.testBit]
  refine ACall.mk _ _ _ (fn142 a) (by first | (simp; done) | simp [Bor_ls, Bor1_ls]) (by simp) (by first | (left; simp; done) | (right; simp; done)) ?_
  simp [inC, Nat.testBit]
  refine ACall.mk _ _ _ (fn142 b) (by first | (simp; done) | simp [Bor_ls, Bor1_ls]) (by simp) (by first | (left; simp; done) | (right; simp; done)) ?_
  simp
  refine ACall.mk _ _ _ (fn141 (halfS a) (halfS b)) (by first | (simp; done) | simp [Bor_ls, Bor1_ls]) (by simp) (by first | (left; simp; done) | (right; simp; done)) ?_
  simp [inC, Nat.testBit]
  refine ACall.mk _ _ _ (fn131 a b ha hb) (by first | (simp; done) | simp [Bor_ls, Bor1_ls]) (by simp) (by first | (left; simp; done) | (right; simp; done)) ?_
  simp
  refine ACall.mk _ _ _ (fn141 0 (turnS a b)) (by first | (simp; done) | simp [Bor_ls, Bor1_ls]) (by simp) (by first | (left; simp; done) | (right; simp; done)) ?_
  simp [splice, repl]
  refine ACall.mk _ _ _ (fn1402 (cmpI (halfS a) (halfS b)) (cmpI 0 (turnS a b))) (by simp [bor_two]) (by simp) (by first | (left; simp; done) | (right; simp; done)) ?_
  simp
  refine RetOk.by (fun _ => none) ?_
  simp [results139, sumcS]
def sumB (a b : Int × Int) : Bool := decide (sumcS a b < 0)
theorem sum_cmp : CmpOk 139 [] (bd 2000000000) sumB := fun x y hx hy => ⟨sumcS x y, by unfold sumB; simp, fn139 x y hx hy⟩
end Go.Proofs.Try
namespace Go.Proofs.Try
open Go.Psl
def ddStep (d : List (Int × Int)) (p : Int × Int) : List (Int × Int) := if d.getLast? = some p then d else d ++ [p]
def ddC (l : List (Int × Int)) : List (Int × Int) := l.foldl ddStep []
theorem dd_take {l : List (Int × Int)} {a : Nat} {p : Int × Int} (h : l[a]? = some p) : ddC (l.take (a + 1)) = ddStep (ddC (l.take a)) p := by
  simp [ddC, List.take_add_one, h]
theorem dd_last {l : List (Int × Int)} : ∀ a, a + 1 ≤ l.length → (ddC (l.take (a + 1))).getLast? = l[a]? := fun a h => by
  obtain ⟨p, hp⟩ : ∃ p, l[a]? = some p := ⟨l[a], by simp [show a < l.length by omega]⟩
  rw [dd_take hp, hp, ddStep]
  by_cases h : (ddC (l.take a)).getLast? = some p
  · rw [if_pos h, h]
  · rw [if_neg h]; simp
theorem dd_len (l : List (Int × Int)) : ∀ a, (ddC (l.take a)).length ≤ a
  | 0 => by simp [ddC]
  | a + 1 => by
    by_cases h : a < l.length
    · rw [dd_take (p := l[a]) (by simp [h]), ddStep]
      have := dd_len l a
      split
      · omega
      · simp; omega
    · have := dd_len l a
      rw [List.take_of_length_le (by omega)] at this ⊢
      omega
theorem spD_take : ∀ (l : List (Int × Int)) (i : Nat), (spD l).take (i * 2) = spD (l.take i)
  | l, 0 => by simp
  | [], i + 1 => by simp
  | a :: l, i + 1 => by
    rw [show (i + 1) * 2 = i * 2 + 1 + 1 by omega, spD_cons, List.take_succ_cons, List.take_succ_cons, List.take_succ_cons, spD_cons]
    rw [spD_take l i]
theorem repl_spD (n : Nat) : repl n [vi 0, vi 0] = List.map V.d (spD (List.replicate n ((0 : Int), (0 : Int)))) := by
  induction n with
  | zero => rfl
  | succ n ih => rw [List.replicate_succ, spD_cons, List.map_cons, List.map_cons, ← ih]; rfl
theorem clear_end {d m : List (Int × Int)} {n : Nat} (hm : (d ++ m).length = n) : splice (List.map V.d (spD (d ++ m))) (d.length * 2) (repl (n - d.length) [vi 0, vi 0]) = List.map V.d (spD (d ++ List.replicate (n - d.length) (0, 0))) := by
  have hl : m.length = n - d.length := by simp at hm; omega
  unfold splice
  rw [repl_spD, ← List.map_take, spD_take, ← List.map_drop]
  have h1 : (spD (d ++ m)).drop (d.length * 2 + (List.map V.d (spD (List.replicate (n - d.length) ((0 : Int), (0 : Int))))).length) = [] := by
    apply List.drop_of_length_le
    simp; omega
  rw [h1, List.take_left, spD_app, List.map_append]
  simp
theorem fn129 (l : List (Int × Int)) (hl : l.length ≤ 1000000000) : Cm prog 129 [.ls 0 0 l.length 2] (lk [(0, cellsI l)]) [0] (.ret (.ls 0 0 (ddC l).length 2)) (lk [(0, cellsI (ddC l ++ List.replicate (l.length - (ddC l).length) (0, 0)))]) := by
  refine Cm.by gok eok mixed 1 func129 c129 rfl (by simp [ntmps129]) (by simp) (HpIds.at ?_) (by simp) ?_ fun E hE hs => ?_
  · simp
  · simp [ResIds]
  by_cases h2 : l.length < 2
  · have h2' : (l.length : Int) < 2 := by omega
    have e : ddC l = l := by
      clear hE h2'
      match l, h2 with
      | [], _ => rfl
      | [a], _ => rfl
      | _ :: _ :: _, h => simp at h; omega
    simp [p129, h2']
    refine RetOk.by (lk [(0, 0)]) ?_
    simp [results129, e]
  have h2' : ¬ (l.length : Int) < 2 := by omega
  simp [p129, h2']
  refine pw_loop (α := Nat) (fun k => ⟨slots [(0, .ls 0 0 l.length 2), (3, vi k)], lk [(0, cellsI l)], 1⟩) (fun k => 1 ≤ k ∧ k ≤ l.length ∧ ddC (l.take k) = l.take k) (fun k => l.length - k) 1 ?_ ?_ ?_
  · refine ⟨by omega, by omega, ?_⟩
    cases l with
    | nil => rfl
    | cons a l => rfl
  · refine Weak.mkM hE (lk [(0, 0)]) _ _ _ ?_ ?_ ?_ ?_ ?_ ?_ <;> simp
  rintro k ⟨k1, k2, hdd⟩
  simp [p129l1]
  refine cR_split (fun h => ?_) (fun h => ?_)
  · simp at h
    obtain ⟨j, hj⟩ : ∃ j, k = j + 1 := ⟨k - 1, by omega⟩
    obtain ⟨a, ha⟩ : ∃ a, l[k]? = some a := ⟨l[k], by simp [h]⟩
    obtain ⟨b, hb⟩ : ∃ b, l[j]? = some b := ⟨l[j], by simp [show j < l.length by omega]⟩
    have ca := cells_at ha
    have cb := cells_at hb
    have q1 : k * 2 + 2 ≤ l.length * 2 := by omega
    have q2 : j * 2 + 2 ≤ l.length * 2 := by omega
    have hj1 : j < l.length := by omega
    have w1 : IntKind.wrap .i64 ((k : Int) - 1) = (j : Int) := by rw [wrap64 (by omega) (by omega)]; omega
    have w2 : IntKind.wrap .i64 ((k : Int) + 1) = ((k + 1 : Nat) : Int) := by rw [wrap64 (by omega) (by omega)]; omega
    have hlast := dd_last (l := l) j (by omega)
    rw [hb, ← hj] at hlast
    by_cases hab : a.1 = b.1 ∧ a.2 = b.2
    · have hab' : a = b := by ext; exact hab.1; exact hab.2
      have hst : ddC (l.take (k + 1)) = l.take k := by rw [dd_take ha, ddStep, hlast, hab', if_pos rfl, hdd]
      simp [inC, Nat.testBit, h, hj1, q1, q2, ca, cb, w1, hab, k2]
      have hkl : (k : Int) ≤ l.length := by omega
      refine pw_loopC (α := Nat) 2 (fun _ : Unit => ⟨slots [(0, .ls 0 0 l.length 2), (3, vi (ddC l).length)], lk [(0, cellsI (ddC l ++ l.drop (ddC l).length))], 1⟩) (fun _ => (ddC l).length < l.length)
        (fun x => ⟨slots [(0, .ls 0 0 l.length 2), (3, vi (ddC (l.take (k + x))).length), (4, .ls 0 (k * 2) (l.length - k) 2), (5, vi x)], lk [(0, cellsI (ddC (l.take (k + x)) ++ l.drop (ddC (l.take (k + x))).length))], 1⟩)
        (fun x => 1 ≤ x ∧ k + x ≤ l.length ∧ (ddC (l.take (k + x))).length < k + x) (fun x => l.length - x) 1 ?_ ?_ ?_ fun _ hc => ?_
      · refine ⟨by omega, by omega, ?_⟩
        rw [hst, List.length_take]; omega
      · rw [hst, List.length_take, Nat.min_eq_left (by omega), List.take_append_drop]
        refine Weak.mkM hE (lk [(0, 0)]) _ _ _ ?_ ?_ ?_ ?_ ?_ ?_ <;> simp
      · rintro x ⟨x1, x2, x3⟩
        obtain ⟨dl, hdl⟩ : ∃ dl, (ddC (l.take (k + x))).length = dl := ⟨_, rfl⟩
        simp [p129l0]
        by_cases hx : x < l.length - k
        · obtain ⟨y, hy⟩ : ∃ y, x = y + 1 := ⟨x - 1, by omega⟩
          obtain ⟨c, hc⟩ : ∃ c, l[k + x]? = some c := ⟨l[k + x], by simp [show k + x < l.length by omega]⟩
          obtain ⟨e, he⟩ : ∃ e, l[k + y]? = some e := ⟨l[k + y], by simp [show k + y < l.length by omega]⟩
          have hnext := dd_take hc
          have hlst := dd_last (l := l) (k + y) (by omega)
          rw [show k + y + 1 = k + x by omega, he] at hlst
          rw [hdl] at x3
          have hMl : ∀ t, dl ≤ t → (ddC (l.take (k + x)) ++ l.drop dl)[t]? = l[t]? := fun t ht => by
            rw [List.getElem?_append_right (by omega), List.getElem?_drop, hdl]; congr 1; omega
          have hc' : (ddC (l.take (k + x)) ++ l.drop dl)[k + x]? = some c := by rw [hMl _ (by omega), hc]
          have he' : (ddC (l.take (k + x)) ++ l.drop dl)[k + y]? = some e := by rw [hMl _ (by omega), he]
          have hML : (ddC (l.take (k + x)) ++ l.drop dl).length = l.length := by rw [List.length_append, hdl, List.length_drop]; omega
          have hset : (ddC (l.take (k + x)) ++ l.drop dl).set dl c = (ddC (l.take (k + x)) ++ [c]) ++ l.drop (dl + 1) := by
            rw [List.set_append_right _ _ (by omega), hdl, Nat.sub_self]
            cases hd : l.drop dl with
            | nil => have := congrArg List.length hd; simp at this; omega
            | cons p r =>
              have hr : l.drop (dl + 1) = r := by
                have := congrArg (List.drop 1) hd
                rw [List.drop_drop] at this
                simpa [Nat.add_comm] using this
              rw [hr]; simp
          have cc := cells_at hc'
          have ce := cells_at he'
          have sc := cells_set c (l := ddC (l.take (k + x)) ++ l.drop dl) (i := dl) (by omega)
          rw [hset] at sc
          have hsl := spD_len (ddC (l.take (k + x)) ++ l.drop dl)
          rw [hML] at hsl
          rw [hdl]
          obtain ⟨M, hM⟩ : ∃ M, ddC (l.take (k + x)) ++ l.drop dl = M := ⟨_, rfl⟩
          rw [hM] at cc ce sc hsl ⊢
          have z1 : IntKind.wrap .i64 ((x : Int) - 1) = (y : Int) := by rw [wrap64 (by omega) (by omega)]; omega
          have z2 : IntKind.wrap .i64 ((x : Int) + 1) = ((x + 1 : Nat) : Int) := by rw [wrap64 (by omega) (by omega)]; omega
          have z3 : IntKind.wrap .i64 ((dl : Int) + 1) = ((dl + 1 : Nat) : Int) := by rw [wrap64 (by omega) (by omega)]; omega
          have r1 : (k + x) * 2 + 2 ≤ l.length * 2 := by omega
          have r2 : (k + y) * 2 + 2 ≤ l.length * 2 := by omega
          have r3 : dl * 2 + 2 ≤ l.length * 2 := by omega
          have m1 : k * 2 + x * 2 = (k + x) * 2 := by omega
          have m2 : k * 2 + y * 2 = (k + y) * 2 := by omega
          have y1 : y < l.length - k := by omega
          have d1 : dl < l.length := by omega
          have xx : (x : Int) < ((l.length - k : Nat) : Int) := by omega
          by_cases hce : c.1 = e.1 ∧ c.2 = e.2
          · have hce' : c = e := by ext; exact hce.1; exact hce.2
            have hd2 : ddC (l.take (k + (x + 1))) = ddC (l.take (k + x)) := by rw [← Nat.add_assoc, hnext, ddStep, hlst, hce', if_pos rfl]
            simp [xx, inC, Nat.testBit, hx, y1, hsl, r1, r2, m1, m2, cc, ce, z1, z2, hce]
            refine ⟨x + 1, ⟨by omega, by omega, by rw [hd2]; omega⟩, by omega, ?_⟩
            rw [hd2, hdl, hM]
            refine Weak.mkM hE (lk [(0, 0)]) _ _ _ ?_ ?_ ?_ ?_ ?_ ?_ <;> simp
          · have hd2 : ddC (l.take (k + (x + 1))) = ddC (l.take (k + x)) ++ [c] := by rw [← Nat.add_assoc, hnext, ddStep, hlst, if_neg]; intro h; cases h; exact hce ⟨rfl, rfl⟩
            have hne : (!decide (c.1 = e.1) || !decide (c.2 = e.2)) = true := by simp; omega
            have hdl2 : (ddC (l.take (k + x)) ++ [c]).length = dl + 1 := by simp [hdl]
            simp [xx, inC, Nat.testBit, hx, y1, hsl, r1, r2, r3, m1, m2, cc, ce, z1, z2, z3, hne, d1, sc]
            refine ⟨x + 1, ⟨by omega, by omega, by rw [hd2, hdl2]; omega⟩, by omega, ?_⟩
            rw [hd2, hdl2]
            refine Weak.mkM hE (lk [(0, 0)]) _ _ _ ?_ ?_ ?_ ?_ ?_ ?_ <;> simp
        · have hkx : k + x = l.length := by omega
          rw [hkx, List.take_length] at x3 hdl
          rw [hkx, List.take_length]
          simp [hx]
          refine ⟨by omega, ?_⟩
          refine Weak.mkM hE (lk [(0, 0)]) _ _ _ ?_ ?_ ?_ ?_ ?_ ?_ <;> simp
      · obtain ⟨d, hd⟩ : ∃ d, ddC l = d := ⟨_, rfl⟩
        rw [hd] at hc ⊢
        have hML : (d ++ l.drop d.length).length = l.length := by simp; omega
        have hcl := clear_end hML
        have hsl := spD_len (d ++ l.drop d.length)
        rw [hML] at hsl
        have hne : ¬ l.length - d.length = 0 := by omega
        have hle : d.length ≤ l.length := by omega
        have hfit : d.length * 2 + (l.length - d.length) * 2 ≤ l.length * 2 := by omega
        simp [hle, hne, hfit, hsl, hcl]
        refine RetOk.by (lk [(0, 0)]) ?_
        simp [results129]
    · have hd : (decide (a.1 = b.1) && decide (a.2 = b.2)) = false := by simp; omega
      simp [inC, Nat.testBit, h, hj1, q1, q2, ca, cb, w1, w2, hd]
      refine ⟨k + 1, ⟨by omega, by omega, ?_⟩, by omega, ?_⟩
      · rw [dd_take ha, ddStep, hlast, if_neg, hdd, List.take_add_one (i := k), ha]; rfl
        intro e; cases e; exact hab ⟨rfl, rfl⟩
      · refine Weak.mkM hE (lk [(0, 0)]) _ _ _ ?_ ?_ ?_ ?_ ?_ ?_ <;> simp
  · simp at h
    have hk : k = l.length := by omega
    subst hk
    rw [List.take_length] at hdd
    simp
    refine RetOk.by (lk [(0, 0)]) ?_
    simp [results129, hdd]
end Go.Proofs.Try
namespace Go.Geo
abbrev C := Int × Int
def lt (a b : C) : Prop := a.1 < b.1 ∨ (a.1 = b.1 ∧ a.2 < b.2)
def cross (a b c : C) : Int := (b.1 - a.1) * (c.2 - a.2) - (b.2 - a.2) * (c.1 - a.1)
def xp (u v : C) : Int := u.1 * v.2 - u.2 * v.1
def pos (u : C) : Prop := 0 < u.1 ∨ (u.1 = 0 ∧ 0 < u.2)
def sb (a b : C) : C := (a.1 - b.1, a.2 - b.2)
theorem lt_irr (a : C) : ¬ lt a a := by unfold lt; omega
theorem lt_trans {a b c : C} (h1 : lt a b) (h2 : lt b c) : lt a c := by unfold lt at *; omega
theorem lt_tri (a b : C) : lt a b ∨ a = b ∨ lt b a := by
  rcases a with ⟨a1, a2⟩; rcases b with ⟨b1, b2⟩
  simp only [lt, Prod.mk.injEq]; omega
theorem pos_sb {a b : C} (h : lt a b) : pos (sb b a) := by unfold lt at h; unfold pos sb; omega
theorem xp_key (u v w : C) : v.1 * xp u w = w.1 * xp u v + u.1 * xp v w := by unfold xp; grind
theorem cross_xp (a b c : C) : cross a b c = xp (sb b a) (sb c a) := by unfold cross xp sb; grind
theorem cross_xp2 (a b c : C) : cross a b c = xp (sb b a) (sb c b) := by unfold cross xp sb; grind
theorem cross_xp3 (a b c : C) : cross a b c = xp (sb c a) (sb c b) := by unfold cross xp sb; grind
theorem xp_neg (u v : C) : xp u v = - xp v u := by unfold xp; grind
theorem cross_swap (a b c : C) : cross a b c = - cross a c b := by unfold cross; grind
theorem cross_swap2 (a b c : C) : cross a b c = - cross b a c := by unfold cross; grind
theorem cross_self (a b : C) : cross a b a = 0 := by unfold cross; grind
theorem cross_self2 (a b : C) : cross a b b = 0 := by unfold cross; grind
theorem le_of_pmul {x y : Int} (h : 0 < x) (hy : 0 ≤ x * y) : 0 ≤ y := by
  apply Int.not_lt.1; intro hn
  have := Int.mul_neg_of_pos_of_neg h hn
  omega
theorem lt_of_pmul {x y : Int} (h : 0 < x) (hy : 0 < x * y) : 0 < y := by
  apply Int.not_le.1; intro hn
  have := Int.mul_nonpos_of_nonneg_of_nonpos (Int.le_of_lt h) hn
  omega
theorem tr {u v w : C} (hu : pos u) (hv : pos v) (hw : pos w) (h1 : 0 ≤ xp u v) (h2 : 0 ≤ xp v w) : 0 ≤ xp u w := by
  rcases hv with hv | ⟨hv, hv2⟩
  · refine le_of_pmul hv ?_
    rw [xp_key]
    have a := Int.mul_nonneg (show 0 ≤ w.1 by unfold pos at hw; omega) h1
    have b := Int.mul_nonneg (show 0 ≤ u.1 by unfold pos at hu; omega) h2
    omega
  · have e1 : xp v w = v.2 * -w.1 := by unfold xp; rw [hv]; grind
    rw [e1] at h2
    have := le_of_pmul hv2 h2
    have hw1 : w.1 = 0 := by unfold pos at hw; omega
    have hw2 : 0 < w.2 := by unfold pos at hw; omega
    have e2 : xp u w = u.1 * w.2 := by unfold xp; rw [hw1]; grind
    rw [e2]
    exact Int.mul_nonneg (by unfold pos at hu; omega) (by omega)
theorem tr_s1 {u v w : C} (hu : pos u) (hv : pos v) (hw : pos w) (h1 : 0 < xp u v) (h2 : 0 ≤ xp v w) : 0 < xp u w := by
  have hu1 : 0 < u.1 := by
    apply Int.not_le.1; intro hn
    have : u.1 = 0 := by unfold pos at hu; omega
    have h3 : 0 < u.2 := by unfold pos at hu; omega
    have e : xp u v = -(u.2 * v.1) := by unfold xp; rw [this]; grind
    have := Int.mul_nonneg (Int.le_of_lt h3) (show 0 ≤ v.1 by unfold pos at hv; omega)
    omega
  rcases hv with hv | ⟨hv, hv2⟩
  · refine lt_of_pmul hv ?_
    rw [xp_key]
    by_cases hw1 : 0 < w.1
    · have a := Int.mul_pos hw1 h1
      have b := Int.mul_nonneg (Int.le_of_lt hu1) h2
      omega
    · have hw0 : w.1 = 0 := by unfold pos at hw; omega
      have hw2 : 0 < w.2 := by unfold pos at hw; omega
      have e : xp v w = v.1 * w.2 := by unfold xp; rw [hw0]; grind
      rw [e, hw0]
      have := Int.mul_pos hu1 (Int.mul_pos hv hw2)
      omega
  · have e1 : xp v w = v.2 * -w.1 := by unfold xp; rw [hv]; grind
    rw [e1] at h2
    have := le_of_pmul hv2 h2
    have hw1 : w.1 = 0 := by unfold pos at hw; omega
    have hw2 : 0 < w.2 := by unfold pos at hw; omega
    have e2 : xp u w = u.1 * w.2 := by unfold xp; rw [hw1]; grind
    rw [e2]
    exact Int.mul_pos hu1 hw2
theorem tr_s2 {u v w : C} (hu : pos u) (hv : pos v) (hw : pos w) (h1 : 0 ≤ xp u v) (h2 : 0 < xp v w) : 0 < xp u w := by
  have hv1 : 0 < v.1 := by
    apply Int.not_le.1; intro hn
    have h0 : v.1 = 0 := by unfold pos at hv; omega
    have h3 : 0 < v.2 := by unfold pos at hv; omega
    have e : xp v w = -(v.2 * w.1) := by unfold xp; rw [h0]; grind
    have := Int.mul_nonneg (Int.le_of_lt h3) (show 0 ≤ w.1 by unfold pos at hw; omega)
    omega
  refine lt_of_pmul hv1 ?_
  rw [xp_key]
  by_cases hu1 : 0 < u.1
  · have a := Int.mul_pos hu1 h2
    have b := Int.mul_nonneg (show 0 ≤ w.1 by unfold pos at hw; omega) h1
    omega
  · have hu0 : u.1 = 0 := by unfold pos at hu; omega
    have hu2 : 0 < u.2 := by unfold pos at hu; omega
    have e : xp u v = -(u.2 * v.1) := by unfold xp; rw [hu0]; grind
    have := Int.mul_pos hu2 hv1
    omega
def pushS : List C → C → List C
  | b :: a :: r, p => if cross a b p ≤ 0 then pushS (a :: r) p else p :: b :: a :: r
  | st, p => p :: st
def chainR (l : List C) : List C := l.foldl pushS []
def edg : List C → List (C × C)
  | b :: a :: r => (a, b) :: edg (a :: r)
  | _ => []
def Good (done : List C) : List C → Prop
  | c :: b :: a :: r => lt b c ∧ 0 < cross a b c ∧ (∀ q ∈ done, 0 ≤ cross b c q) ∧ Good done (b :: a :: r)
  | c :: b :: [] => lt b c ∧ ∀ q ∈ done, 0 ≤ cross b c q
  | _ => True
theorem Good.tail {done : List C} {b : C} : ∀ {r : List C}, Good done (b :: r) → Good done r
  | [], _ => trivial
  | [_], _ => trivial
  | _ :: _ :: _, h => h.2.2.2
theorem Good.lt2 {done : List C} {c b : C} : ∀ {r : List C}, Good done (c :: b :: r) → lt b c
  | [], h => h.1
  | _ :: _, h => h.1
theorem Good.above {done : List C} {c b : C} : ∀ {r : List C}, Good done (c :: b :: r) → ∀ q ∈ done, 0 ≤ cross b c q
  | [], h => h.2
  | _ :: _, h => h.2.2.1
theorem Good.one {done : List C} {q : C} : ∀ {st : List C}, Good done st → (∀ e ∈ edg st, 0 ≤ cross e.1 e.2 q) → Good (done ++ [q]) st
  | [], _, _ => trivial
  | [_], _, _ => trivial
  | [c, b], h, hq => ⟨h.1, fun x hx => by
      rcases List.mem_append.1 hx with hx | hx
      · exact h.2 x hx
      · rw [List.mem_singleton.1 hx]; exact hq (b, c) (by simp [edg])⟩
  | c :: b :: a :: r, h, hq => ⟨h.1, h.2.1, fun x hx => by
      rcases List.mem_append.1 hx with hx | hx
      · exact h.2.2.1 x hx
      · rw [List.mem_singleton.1 hx]; exact hq (b, c) (by simp [edg]), Good.one h.2.2.2 fun e he => hq e (by simp only [edg, List.mem_cons] at he ⊢; exact Or.inr he)⟩
theorem on_left {done : List C} {p : C} : ∀ {st : List C}, Good done st → (∀ b ∈ st, lt b p) → (∀ b a r, st = b :: a :: r → 0 ≤ cross a b p) → ∀ e ∈ edg st, 0 ≤ cross e.1 e.2 p
  | [], _, _, _, _, he => by simp [edg] at he
  | [_], _, _, _, _, he => by simp [edg] at he
  | [c, b], _, _, h, e, he => by simp [edg] at he; subst he; exact h c b [] rfl
  | c :: b :: a :: r, hg, hl, h, e, he => by
    simp only [edg, List.mem_cons] at he
    have h0 := h c b (a :: r) rfl
    have hba : lt a b := hg.2.2.2.lt2
    have hcb := hg.1
    rcases he with rfl | he
    · exact h0
    · refine on_left hg.2.2.2 (fun x hx => hl x (by simp [hx])) (fun x y s hs => ?_) e (by simp only [edg, List.mem_cons]; exact he)
      cases hs
      have h1 := hg.2.1
      rw [cross_xp2] at h1 ⊢
      rw [cross_xp] at h0
      exact tr (pos_sb hba) (pos_sb hcb) (pos_sb (hl b (by simp))) (Int.le_of_lt h1) h0
theorem mem_lt_top {done : List C} {b : C} : ∀ {r : List C}, Good done (b :: r) → ∀ x ∈ r, lt x b
  | [], _, _, hx => by simp at hx
  | c :: r, h, x, hx => by
    have h1 := h.lt2
    rcases List.mem_cons.1 hx with rfl | hx
    · exact h1
    · exact lt_trans (mem_lt_top h.tail x hx) h1
theorem push_good {done : List C} {p : C} (hp : ∀ q ∈ done, lt q p) : ∀ {st : List C}, Good done st → (∀ b ∈ st, b ∈ done) → (∀ b r, st = b :: r → ∀ q ∈ done, ¬ lt q b → 0 ≤ cross b p q) → (∀ f, st.getLast? = some f → ∀ q ∈ done, ¬ lt q f) → Good (done ++ [p]) (pushS st p)
  | [], _, _, _, _ => trivial
  | [b], _, hs, hk, h1 => by
    refine ⟨hp b (hs b (by simp)), fun q hq => ?_⟩
    rcases List.mem_append.1 hq with hq | hq
    · exact hk b [] rfl q hq (h1 b rfl q hq)
    · rw [List.mem_singleton.1 hq, cross_self2]; omega
  | b :: a :: r, hg, hs, hk, h1 => by
    have hab := hg.lt2
    have hbp := hp b (hs b (by simp))
    have hap := hp a (hs a (by simp))
    unfold pushS
    by_cases hc : cross a b p ≤ 0
    · rw [if_pos hc]
      refine push_good hp hg.tail (fun x hx => hs x (by simp [hx])) (fun a' r' e q hq hqa => ?_) (fun f e q hq => h1 f (by rw [List.getLast?_cons_cons]; exact e) q hq)
      cases e
      have hqp := hp q hq
      have hba : 0 ≤ xp (sb p a) (sb b a) := by rw [cross_swap, cross_xp] at hc; omega
      have hbp2 : 0 ≤ xp (sb p b) (sb p a) := by rw [cross_xp3] at hc; rw [xp_neg]; omega
      rcases lt_tri q b with hqb | rfl | hbq
      · rcases lt_tri a q with haq | rfl | hqa2
        · have h2 := hg.above q hq
          rw [cross_xp] at h2 ⊢
          exact tr (pos_sb hap) (pos_sb hab) (pos_sb haq) hba h2
        · rw [cross_self]; omega
        · exact absurd hqa2 hqa
      · rw [cross_xp]; exact hba
      · have h2 := hk b (a :: r) rfl q hq (fun h => lt_irr _ (lt_trans h hbq))
        rw [cross_swap, cross_xp3] at h2
        rw [cross_swap, cross_xp3]
        have h3 : 0 ≤ xp (sb p q) (sb p b) := by rw [xp_neg]; omega
        have := tr (pos_sb hqp) (pos_sb hbp) (pos_sb hap) h3 hbp2
        rw [xp_neg] at this
        omega
    · rw [if_neg hc]
      refine ⟨hbp, by omega, fun q hq => ?_, hg.one (on_left hg (fun x hx => hp x (hs x hx)) fun b' a' r' e => by cases e; omega)⟩
      rcases List.mem_append.1 hq with hq | hq
      · rcases lt_tri q b with hqb | rfl | hbq
        · have h2 := hg.above q hq
          have h3 : 0 ≤ xp (sb b q) (sb b a) := by
            have : cross a b q = xp (sb b q) (sb b a) := by unfold cross xp sb; grind
            omega
          have h4 : 0 ≤ xp (sb b a) (sb p b) := by rw [← cross_xp2]; omega
          have := tr (pos_sb hqb) (pos_sb hab) (pos_sb hbp) h3 h4
          have e : cross b p q = xp (sb b q) (sb p b) := by unfold cross xp sb; grind
          omega
        · rw [cross_self]; omega
        · exact hk b (a :: r) rfl q hq fun h => lt_irr _ (lt_trans h hbq)
      · rw [List.mem_singleton.1 hq, cross_self2]; omega
def Sorted : List C → Prop := List.Pairwise lt
theorem pushS_head (p : C) : ∀ st : List C, ∃ r, pushS st p = p :: r ∧ (st = [] → r = []) ∧ (st ≠ [] → r ≠ [] ∧ r.getLast? = st.getLast?) ∧ r.Sublist st
  | [] => ⟨[], rfl, fun _ => rfl, fun h => absurd rfl h, List.Sublist.refl _⟩
  | [b] => ⟨[b], rfl, fun h => by simp at h, fun _ => ⟨by simp, rfl⟩, List.Sublist.refl _⟩
  | b :: a :: r => by
    unfold pushS
    by_cases h : cross a b p ≤ 0
    · rw [if_pos h]
      obtain ⟨r', h1, _, h3, h4⟩ := pushS_head p (a :: r)
      exact ⟨r', h1, fun h => by simp at h, fun _ => by rw [List.getLast?_cons_cons]; exact h3 (by simp), h4.cons b⟩
    · rw [if_neg h]
      exact ⟨b :: a :: r, rfl, fun h => by simp at h, fun _ => ⟨by simp, rfl⟩, List.Sublist.refl _⟩
structure ChainOf (l st : List C) : Prop where
  good : Good l st
  sub : st.reverse.Sublist l
  top : st.head? = l.getLast?
  bot : st.getLast? = l.head?
theorem chainR_snoc (l : List C) (p : C) : chainR (l ++ [p]) = pushS (chainR l) p := by simp [chainR]
theorem sorted_first {l : List C} (h : Sorted l) {f : C} (hf : l.head? = some f) : ∀ q ∈ l, ¬ lt q f := by
  cases l with
  | nil => simp at hf
  | cons a r =>
    simp at hf; subst hf
    intro q hq hlt
    rcases List.mem_cons.1 hq with rfl | hq
    · exact lt_irr _ hlt
    · exact lt_irr _ (lt_trans hlt ((List.pairwise_cons.1 h).1 q hq))
theorem chain_is (l : List C) (h : Sorted l) : ChainOf l (chainR l) := by
  have key : ∀ n, ∀ l : List C, l.length = n → Sorted l → ChainOf l (chainR l) := by
    intro n
    induction n with
    | zero =>
      intro l hl _
      rw [List.length_eq_zero_iff] at hl
      subst hl
      exact ⟨trivial, List.Sublist.refl _, rfl, rfl⟩
    | succ n ih =>
      intro l hl hs
      rcases List.eq_nil_or_concat l with rfl | ⟨l', p, rfl⟩
      · simp at hl
      rw [List.concat_eq_append] at hl hs ⊢
      have hs' : Sorted l' := (List.pairwise_append.1 hs).1
      have hp : ∀ q ∈ l', lt q p := fun q hq => (List.pairwise_append.1 hs).2.2 q hq p (by simp)
      have hi := ih l' (by simpa using hl) hs'
      rw [chainR_snoc]
      obtain ⟨r, e, e1, e2, e3⟩ := pushS_head p (chainR l')
      have hmem : ∀ b ∈ chainR l', b ∈ l' := fun b hb => hi.sub.subset (List.mem_reverse.2 hb)
      refine ⟨push_good hp hi.good hmem ?_ ?_, ?_, ?_, ?_⟩
      · intro b r' hb q hq hqb
        have ht := hi.top
        rw [hb] at ht
        simp at ht
        have hql : q = b := by
          rcases List.eq_nil_or_concat l' with rfl | ⟨l2, x, rfl⟩
          · simp at hq
          · rw [List.concat_eq_append] at ht hq hs'
            simp at ht
            subst ht
            rcases List.mem_append.1 hq with hq | hq
            · exact absurd ((List.pairwise_append.1 hs').2.2 q hq b (by simp)) hqb
            · exact List.mem_singleton.1 hq
        rw [hql, cross_self]; omega
      · intro f hf
        exact sorted_first hs' (by rw [← hi.bot]; exact hf)
      · rw [e, List.reverse_cons]
        exact ((List.reverse_sublist.2 e3).trans hi.sub).append (List.Sublist.refl _)
      · rw [e]; simp
      · rw [e]
        by_cases h0 : chainR l' = []
        · have hl' : l' = [] := by
            have := hi.top
            rw [h0] at this
            simp at this
            cases l' with
            | nil => rfl
            | cons a b => simp [List.getLast?_cons] at this
          subst hl'
          rw [e1 h0]; rfl
        · obtain ⟨h1, h2⟩ := e2 h0
          cases r with
          | nil => exact absurd rfl h1
          | cons x r =>
            rw [List.getLast?_cons_cons, h2, hi.bot]
            cases l' with
            | nil => exact absurd rfl h0
            | cons a b => rfl
  exact key _ l rfl h
end Go.Geo
namespace Go.Geo
def steps : List C → List (C × C)
  | a :: b :: r => (a, b) :: steps (b :: r)
  | _ => []
theorem steps_snoc (a b : C) : ∀ l : List C, steps (l ++ [a, b]) = steps (l ++ [a]) ++ [(a, b)]
  | [] => rfl
  | [x] => rfl
  | x :: y :: r => by
    have := steps_snoc a b (y :: r)
    simp only [List.cons_append, steps] at this ⊢
    rw [this]
theorem steps_rev : ∀ st : List C, steps st.reverse = (edg st).reverse
  | [] => rfl
  | [_] => rfl
  | b :: a :: r => by
    have h := steps_rev (a :: r)
    rw [edg, List.reverse_cons (a := (a, b)), ← h, List.reverse_cons (a := b), List.reverse_cons, List.append_assoc]
    exact steps_snoc a b r.reverse
theorem steps_app (x : C) (u : List C) : ∀ l : List C, steps (l ++ x :: u) = steps (l ++ [x]) ++ steps (x :: u)
  | [] => rfl
  | [a] => by simp [steps]
  | a :: b :: r => by
    have := steps_app x u (b :: r)
    simp only [List.cons_append, steps] at this ⊢
    rw [this]
def cyc (r : List C) : List (C × C) := match r with | [] => [] | a :: t => steps (a :: t ++ [a])
def neg (p : C) : C := (-p.1, -p.2)
theorem neg_neg (p : C) : neg (neg p) = p := by simp [neg]
theorem cross_neg (a b c : C) : cross (neg a) (neg b) (neg c) = cross a b c := by unfold cross neg; grind
theorem lt_neg {a b : C} : lt (neg a) (neg b) ↔ lt b a := by unfold lt neg; omega
theorem push_neg (p : C) : ∀ st : List C, pushS (st.map neg) (neg p) = (pushS st p).map neg
  | [] => rfl
  | [_] => rfl
  | b :: a :: r => by
    have ih := push_neg p (a :: r)
    simp only [List.map_cons] at ih ⊢
    unfold pushS
    simp only [cross_neg]
    split
    · exact ih
    · rfl
theorem chainR_neg (l : List C) : chainR (l.map neg) = (chainR l).map neg := by
  have key : ∀ (l st : List C), (l.map neg).foldl pushS (st.map neg) = (l.foldl pushS st).map neg := by
    intro l
    induction l with
    | nil => intro st; rfl
    | cons a l ih => intro st; simp only [List.map_cons, List.foldl_cons]; rw [push_neg, ih]
  exact key l []
theorem sorted_neg {l : List C} (h : Sorted l) : Sorted (l.reverse.map neg) := by
  unfold Sorted at *
  rw [List.pairwise_map, List.pairwise_reverse]
  exact h.imp fun h => lt_neg.2 h
theorem edg_map (f : C → C) : ∀ st : List C, edg (st.map f) = (edg st).map fun e => (f e.1, f e.2)
  | [] => rfl
  | [_] => rfl
  | b :: a :: r => by
    have := edg_map f (a :: r)
    simp only [List.map_cons, edg] at this ⊢
    rw [this]
def hullS (l : List C) : List C := if l.length < 3 then l else (chainR l).tail.reverse ++ (chainR l.reverse).tail.reverse
theorem up_is {l : List C} (h : Sorted l) : ChainOf (l.reverse.map neg) ((chainR l.reverse).map neg) := by
  rw [← chainR_neg]
  exact chain_is _ (sorted_neg h)
theorem top_of {l st : List C} (h : ChainOf l st) {a : C} (ha : l.getLast? = some a) : ∃ t, st = a :: t := by
  have := h.top
  rw [ha] at this
  cases st with
  | nil => simp at this
  | cons b t => simp at this; exact ⟨t, by rw [this]⟩
theorem chains {l : List C} (h : Sorted l) (h2 : 2 ≤ l.length) : ∃ f g lo up, l.head? = some f ∧ l.getLast? = some g ∧ f ≠ g ∧ chainR l = g :: lo ∧ chainR l.reverse = f :: up ∧ lo.getLast? = some f ∧ up.getLast? = some g := by
  cases l with
  | nil => simp at h2
  | cons f r =>
    rcases List.eq_nil_or_concat r with rfl | ⟨m, g, rfl⟩
    · simp at h2
    rw [List.concat_eq_append] at *
    have hfg : f ≠ g := by
      intro e
      have := (List.pairwise_cons.1 h).1 g (by simp)
      rw [e] at this
      exact lt_irr _ this
    have hl : (f :: (m ++ [g])).getLast? = some g := by rw [show f :: (m ++ [g]) = (f :: m) ++ [g] from rfl, List.getLast?_append]; rfl
    obtain ⟨lo, hlo⟩ := top_of (chain_is _ h) hl
    have hu := up_is h
    have hl2 : ((f :: (m ++ [g])).reverse.map neg).getLast? = some (neg f) := by rw [List.getLast?_map, List.getLast?_reverse]; rfl
    obtain ⟨u', hu'⟩ := top_of hu hl2
    have hb := (chain_is _ h).bot
    rw [hlo] at hb
    have hub := hu.bot
    obtain ⟨up, hup⟩ : ∃ up, chainR (f :: (m ++ [g])).reverse = f :: up := by
      cases hc : chainR (f :: (m ++ [g])).reverse with
      | nil => rw [hc] at hu'; simp at hu'
      | cons a t =>
        rw [hc] at hu'
        simp only [List.map_cons, List.cons.injEq] at hu'
        have : a = f := by rw [← neg_neg a, hu'.1, neg_neg]
        exact ⟨t, by rw [this]⟩
    refine ⟨f, g, lo, up, rfl, hl, hfg, hlo, hup, ?_, ?_⟩
    · cases lo with
      | nil => simp at hb; exact absurd hb.symm hfg
      | cons a t => rw [List.getLast?_cons_cons] at hb; rw [hb]; rfl
    · rw [hup] at hub
      simp at hub
      cases up with
      | nil =>
        simp at hub
        have : f = g := by rw [← neg_neg f, hub, neg_neg]
        exact absurd this hfg
      | cons a t =>
        simp [List.getLast?_cons_cons] at hub
        rw [← List.map_cons, List.getLast?_map, Option.map_eq_some_iff] at hub
        obtain ⟨x, hx1, hx2⟩ := hub
        rw [hx1, show x = g by rw [← neg_neg x, hx2, neg_neg]]
end Go.Geo
namespace Go.Geo
def le (a b : C) : Prop := ¬ lt b a
theorem steps_mem_edg (st : List C) (e : C × C) : e ∈ steps st.reverse ↔ e ∈ edg st := by rw [steps_rev, List.mem_reverse]
theorem cyc_hull {l : List C} (h : Sorted l) (h3 : 3 ≤ l.length) (e : C × C) : e ∈ cyc (hullS l) ↔ e ∈ edg (chainR l) ∨ e ∈ edg (chainR l.reverse) := by
  obtain ⟨f, g, lo, up, hf, hg, hfg, e1, e2, b1, b2⟩ := chains h (by omega)
  unfold hullS
  rw [if_neg (by omega), e1, e2]
  simp only [List.tail_cons]
  obtain ⟨lo', rfl⟩ : ∃ lo', lo = lo' ++ [f] := by
    rcases List.eq_nil_or_concat lo with rfl | ⟨x, y, rfl⟩
    · simp at b1
    · rw [List.concat_eq_append] at b1 ⊢; simp at b1; exact ⟨x, by rw [b1]⟩
  obtain ⟨up', rfl⟩ : ∃ up', up = up' ++ [g] := by
    rcases List.eq_nil_or_concat up with rfl | ⟨x, y, rfl⟩
    · simp at b2
    · rw [List.concat_eq_append] at b2 ⊢; simp at b2; exact ⟨x, by rw [b2]⟩
  have hc : cyc ((lo' ++ [f]).reverse ++ (up' ++ [g]).reverse) = steps ((g :: (lo' ++ [f])).reverse) ++ steps ((f :: (up' ++ [g])).reverse) := by
    simp only [List.reverse_append, List.reverse_cons, List.reverse_nil, List.nil_append, List.cons_append, cyc]
    have := steps_app g (up'.reverse ++ [f]) (f :: lo'.reverse)
    simpa [List.append_assoc] using this
  rw [hc, List.mem_append, steps_mem_edg, steps_mem_edg]
theorem good_edge {done : List C} : ∀ {st : List C}, Good done st → ∀ e ∈ edg st, lt e.1 e.2 ∧ ∀ q ∈ done, 0 ≤ cross e.1 e.2 q
  | [], _, _, he => by simp [edg] at he
  | [_], _, _, he => by simp [edg] at he
  | c :: b :: r, h, e, he => by
    simp only [edg, List.mem_cons] at he
    rcases he with rfl | he
    · exact ⟨h.lt2, h.above⟩
    · exact good_edge h.tail e he
theorem up_edge {l : List C} (h : Sorted l) : ∀ e ∈ edg (chainR l.reverse), lt e.2 e.1 ∧ ∀ q ∈ l, 0 ≤ cross e.1 e.2 q := fun e he => by
  have hg := (up_is h).good
  obtain ⟨h1, h2⟩ := good_edge hg (neg e.1, neg e.2) (by rw [edg_map]; exact List.mem_map.2 ⟨e, he, rfl⟩)
  refine ⟨lt_neg.1 h1, fun q hq => ?_⟩
  have := h2 (neg q) (List.mem_map.2 ⟨q, List.mem_reverse.2 hq, rfl⟩)
  rwa [cross_neg] at this
theorem hull_left {l : List C} (h : Sorted l) (h3 : 3 ≤ l.length) : ∀ e ∈ cyc (hullS l), ∀ q ∈ l, 0 ≤ cross e.1 e.2 q := fun e he => by
  rcases (cyc_hull h h3 e).1 he with he | he
  · exact (good_edge (chain_is l h).good e he).2
  · exact (up_edge h e he).2
theorem hull_sub {l : List C} (h : Sorted l) : ∀ p ∈ hullS l, p ∈ l := fun p hp => by
  unfold hullS at hp
  split at hp
  · exact hp
  · rcases List.mem_append.1 hp with hp | hp
    · exact (chain_is l h).sub.subset (List.mem_reverse.2 (List.mem_of_mem_tail (List.mem_reverse.1 hp)))
    · have h1 := List.mem_of_mem_tail (List.mem_reverse.1 hp)
      have h2 := (up_is h).sub.subset (List.mem_reverse.2 (List.mem_map.2 ⟨p, h1, rfl⟩))
      obtain ⟨q, hq, e⟩ := List.mem_map.1 h2
      have : p = q := by rw [← neg_neg p, ← e, neg_neg]
      rw [this]; exact List.mem_reverse.1 hq
theorem straddle {done : List C} {q t f : C} : ∀ {st : List C}, Good done st → st.head? = some t → st.getLast? = some f → 2 ≤ st.length → le f q → le q t → ∃ e ∈ edg st, le e.1 q ∧ le q e.2
  | [], _, h, _, _, _, _ => by simp at h
  | [_], _, _, _, h, _, _ => by simp at h
  | [c, b], _, h1, h2, _, h3, h4 => by
    simp at h1 h2; subst h1; subst h2
    exact ⟨(b, c), by simp [edg], h3, h4⟩
  | c :: b :: a :: r, hg, h1, h2, _, h3, h4 => by
    simp at h1; subst h1
    by_cases hb : le q b
    · rw [List.getLast?_cons_cons] at h2
      obtain ⟨e, he, h5⟩ := straddle (st := b :: a :: r) hg.tail rfl h2 (by simp) h3 hb
      exact ⟨e, by simp only [edg, List.mem_cons] at he ⊢; exact Or.inr he, h5⟩
    · exact ⟨(b, c), by simp [edg], fun h => hb (fun h' => lt_irr _ (lt_trans h h')), h4⟩
theorem val_max {α β M : Int} {a b q : C} (hab : lt a b) (h1 : le a q) (h2 : le q b) (hc : 0 ≤ cross a b q) (hβ : β ≤ 0 ∨ cross a b q = 0) (ha : α * a.1 + β * a.2 ≤ M) (hb : α * b.1 + β * b.2 ≤ M) : α * q.1 + β * q.2 ≤ M := by
  have hk : (b.1 - a.1) * (α * q.1 + β * q.2) = (b.1 - q.1) * (α * a.1 + β * a.2) + (q.1 - a.1) * (α * b.1 + β * b.2) + β * cross a b q := by unfold cross; grind
  have hbc : β * cross a b q ≤ 0 := by
    rcases hβ with h | h
    · exact Int.mul_nonpos_of_nonpos_of_nonneg h hc
    · rw [h]; omega
  by_cases hx : a.1 < b.1
  · have q1 : a.1 ≤ q.1 := by unfold le lt at h1; omega
    have q2 : q.1 ≤ b.1 := by unfold le lt at h2; omega
    have k1 := Int.mul_le_mul_of_nonneg_left ha (show 0 ≤ b.1 - q.1 by omega)
    have k2 := Int.mul_le_mul_of_nonneg_left hb (show 0 ≤ q.1 - a.1 by omega)
    have e : (b.1 - q.1) * M + (q.1 - a.1) * M = (b.1 - a.1) * M := by grind
    have : (b.1 - a.1) * (α * q.1 + β * q.2) ≤ (b.1 - a.1) * M := by omega
    exact Int.le_of_mul_le_mul_left this (by omega)
  · have e1 : a.1 = b.1 := by unfold lt at hab; omega
    have e2 : a.2 < b.2 := by unfold lt at hab; omega
    have e3 : q.1 = a.1 := by unfold le lt at h1 h2; omega
    have e4 : a.2 ≤ q.2 := by unfold le lt at h1; omega
    have e5 : q.2 ≤ b.2 := by unfold le lt at h2; omega
    rw [e3]
    rw [← e1] at hb
    by_cases hb0 : 0 ≤ β
    · have := Int.mul_le_mul_of_nonneg_left e5 hb0
      omega
    · have := Int.mul_le_mul_of_nonpos_left (show β ≤ 0 by omega) e4
      omega
end Go.Geo
namespace Go.Geo
theorem hull_max {l : List C} (h : Sorted l) {α β M : Int} (hv : ∀ v ∈ hullS l, α * v.1 + β * v.2 ≤ M) : ∀ q ∈ l, α * q.1 + β * q.2 ≤ M := by
  intro q hq
  by_cases h3 : l.length < 3
  · refine hv q ?_
    unfold hullS; rw [if_pos h3]; exact hq
  obtain ⟨f, g, lo, up, hf, hg, hfg, e1, e2, b1, b2⟩ := chains h (by omega)
  have hlo : ∀ v ∈ chainR l, v ∈ hullS l := fun v hm => by
    unfold hullS
    rw [if_neg h3, e1, e2]
    rw [e1] at hm
    simp only [List.tail_cons, List.mem_append, List.mem_reverse]
    rcases List.mem_cons.1 hm with rfl | hm
    · right; exact List.mem_of_getLast? b2
    · left; exact hm
  have hup : ∀ v ∈ chainR l.reverse, v ∈ hullS l := fun v hm => by
    unfold hullS
    rw [if_neg h3, e1, e2]
    rw [e2] at hm
    simp only [List.tail_cons, List.mem_append, List.mem_reverse]
    rcases List.mem_cons.1 hm with rfl | hm
    · left; exact List.mem_of_getLast? b1
    · right; exact hm
  have hfirst := sorted_first h hf q hq
  have hlast : le q g := by
    have hs := sorted_neg h
    have := sorted_first hs (f := neg g) (by rw [List.head?_map, List.head?_reverse, hg]; rfl) (neg q) (List.mem_map.2 ⟨q, List.mem_reverse.2 hq, rfl⟩)
    intro hlt
    exact this (lt_neg.2 hlt)
  have mem_edg : ∀ {st : List C} {e : C × C}, e ∈ edg st → e.1 ∈ st ∧ e.2 ∈ st := by
    intro st
    induction st with
    | nil => intro e he; simp [edg] at he
    | cons c r ih =>
      intro e he
      cases r with
      | nil => simp [edg] at he
      | cons b r =>
        simp only [edg, List.mem_cons] at he
        rcases he with rfl | he
        · simp
        · have := ih he
          exact ⟨List.mem_cons_of_mem _ this.1, List.mem_cons_of_mem _ this.2⟩
  by_cases hβ : β ≤ 0
  · have hc := chain_is l h
    obtain ⟨e, he, h4, h5⟩ := straddle hc.good (q := q) (t := g) (f := f) (by rw [e1]; rfl) (by rw [hc.bot, hf]) (by rw [e1]; cases lo with | nil => simp at b1 | cons => simp) hfirst hlast
    obtain ⟨k1, k2⟩ := good_edge hc.good e he
    exact val_max k1 h4 h5 (k2 q hq) (Or.inl hβ) (hv _ (hlo _ (mem_edg he).1)) (hv _ (hlo _ (mem_edg he).2))
  · have hu := up_is h
    obtain ⟨e, he, h4, h5⟩ := straddle hu.good (q := neg q) (t := neg f) (f := neg g) (by rw [e2]; rfl) (by rw [hu.bot, List.head?_map, List.head?_reverse, hg]; rfl) (by rw [e2]; cases up with | nil => simp at b2 | cons => simp) (fun hh => hlast (lt_neg.1 hh)) (fun hh => hfirst (lt_neg.1 hh))
    obtain ⟨k1, k2⟩ := good_edge hu.good e he
    rw [edg_map] at he
    obtain ⟨e', he', rfl⟩ := List.mem_map.1 he
    have hn := k2 (neg q) (List.mem_map.2 ⟨q, List.mem_reverse.2 hq, rfl⟩)
    have r := val_max (α := -α) (β := -β) (M := M) k1 h4 h5 hn (Or.inl (by omega)) (by
      have := hv _ (hup _ (mem_edg he').1)
      simp only [neg]; rw [Int.neg_mul_neg, Int.neg_mul_neg]; exact this) (by
      have := hv _ (hup _ (mem_edg he').2)
      simp only [neg]; rw [Int.neg_mul_neg, Int.neg_mul_neg]; exact this)
    simp only [neg] at r
    rw [Int.neg_mul_neg, Int.neg_mul_neg] at r
    exact r
theorem good_mid {done : List C} {y v x : C} {t : List C} : ∀ {s : List C}, Good done (s ++ y :: v :: x :: t) → lt v y ∧ lt x v ∧ 0 < cross x v y ∧ (∀ q ∈ done, 0 ≤ cross v y q) ∧ ∀ q ∈ done, 0 ≤ cross x v q
  | [], h => ⟨h.1, h.2.2.2.lt2, h.2.1, h.2.2.1, h.2.2.2.above⟩
  | _ :: s, h => good_mid (s := s) h.tail
theorem mem_cases {v : C} : ∀ {st : List C}, v ∈ st → st.head? = some v ∨ st.getLast? = some v ∨ ∃ s y x t, st = s ++ y :: v :: x :: t
  | [], h => by simp at h
  | [a], h => by simp at h; left; simp [h]
  | a :: b :: r, h => by
    rcases List.mem_cons.1 h with rfl | h
    · left; rfl
    · rcases mem_cases h with h1 | h1 | ⟨s, y, x, t, h1⟩
      · simp at h1; subst h1
        cases r with
        | nil => right; left; rfl
        | cons x t => right; right; exact ⟨[], a, x, t, rfl⟩
      · right; left; rw [List.getLast?_cons_cons]; exact h1
      · right; right; exact ⟨a :: s, y, x, t, by rw [h1]; rfl⟩
theorem good_desc {done : List C} : ∀ {st : List C}, Good done st → List.Pairwise (fun a b => lt b a) st
  | [], _ => List.Pairwise.nil
  | _ :: _, h => List.pairwise_cons.2 ⟨fun x hx => mem_lt_top h x hx, good_desc h.tail⟩
theorem chain_mem {l st st' : List C} (h : ChainOf l st) (h' : ChainOf l st') : ∀ v ∈ st, v ∈ st' := by
  intro v hv
  have hmem : ∀ x ∈ st, x ∈ l := fun x hx => h.sub.subset (List.mem_reverse.2 hx)
  have hmem' : ∀ x ∈ st', x ∈ l := fun x hx => h'.sub.subset (List.mem_reverse.2 hx)
  rcases mem_cases hv with h1 | h1 | ⟨s, y, x, t, rfl⟩
  · rw [h.top, ← h'.top] at h1; exact List.mem_of_head? h1
  · rw [h.bot, ← h'.bot] at h1; exact List.mem_of_getLast? h1
  · obtain ⟨vy, xv, hc, a1, a2⟩ := good_mid h.good
    by_cases hin : v ∈ st'
    · exact hin
    exfalso
    have hd := good_desc h.good
    obtain ⟨g, hg⟩ : ∃ g, l.getLast? = some g := by
      cases hl : l.getLast? with
      | some g => exact ⟨g, rfl⟩
      | none =>
        rw [List.getLast?_eq_none_iff] at hl
        have := hmem v hv
        rw [hl] at this; simp at this
    obtain ⟨f, hf⟩ : ∃ f, l.head? = some f := by
      cases hl : l.head? with
      | some g => exact ⟨g, rfl⟩
      | none =>
        rw [List.head?_eq_none_iff] at hl
        have := hmem v hv
        rw [hl] at this; simp at this
    have hvg : lt v g := by
      have ht := h.top
      rw [hg] at ht
      cases s with
      | nil => simp at ht; subst ht; exact vy
      | cons c s =>
        simp at ht; subst ht
        exact (List.pairwise_cons.1 hd).1 v (by simp)
    have hfv : lt f v := by
      have ht := h.bot
      rw [hf] at ht
      have hlast : (x :: t).getLast? = some f := by
        rw [← ht]
        rw [show s ++ y :: v :: x :: t = (s ++ [y, v]) ++ (x :: t) by simp, List.getLast?_append]
        cases hx : (x :: t).getLast? with
        | none => simp [List.getLast?_cons] at hx
        | some z => rfl
      have hfm : f ∈ x :: t := List.mem_of_getLast? hlast
      have h3 := (List.pairwise_append.1 hd).2.1
      have h4 := (List.pairwise_cons.1 (List.pairwise_cons.1 h3).2).1
      exact h4 f hfm
    have hlen : 2 ≤ st'.length := by
      have t1 := h'.top; have t2 := h'.bot
      rw [hg] at t1; rw [hf] at t2
      match st', t1, t2 with
      | [], t1, _ => simp at t1
      | [c], t1, t2 => simp at t1 t2; subst t1; subst t2; exact absurd (lt_trans hvg hfv) (lt_irr _)
      | _ :: _ :: _, _, _ => simp
    obtain ⟨e, he, h5, h6⟩ := straddle h'.good (q := v) (by rw [h'.top, hg]) (by rw [h'.bot, hf]) hlen (fun hh => lt_irr _ (lt_trans hfv hh)) (fun hh => lt_irr _ (lt_trans hvg hh))
    obtain ⟨k1, k2⟩ := good_edge h'.good e he
    have m1 : e.1 ∈ st' ∧ e.2 ∈ st' := by
      have : ∀ {st : List C} {e : C × C}, e ∈ edg st → e.1 ∈ st ∧ e.2 ∈ st := by
        intro st
        induction st with
        | nil => intro e he; simp [edg] at he
        | cons c r ih =>
          intro e he
          cases r with
          | nil => simp [edg] at he
          | cons b r =>
            simp only [edg, List.mem_cons] at he
            rcases he with rfl | he
            · simp
            · have := ih he
              exact ⟨List.mem_cons_of_mem _ this.1, List.mem_cons_of_mem _ this.2⟩
      exact this he
    have n1 : e.1 ≠ v := fun e0 => hin (e0 ▸ m1.1)
    have n2 : e.2 ≠ v := fun e0 => hin (e0 ▸ m1.2)
    have l1 : lt e.1 v := by rcases lt_tri e.1 v with h | h | h; exact h; exact absurd h n1; exact absurd h h5
    have l2 : lt v e.2 := by rcases lt_tri v e.2 with h | h | h; exact h; exact absurd h.symm n2; exact absurd h h6
    have c1 := a2 e.1 (hmem' _ m1.1)
    have c2 := a1 e.2 (hmem' _ m1.2)
    have c3 := k2 v (hmem v hv)
    have d1 : 0 ≤ xp (sb v e.1) (sb v x) := by have : cross x v e.1 = xp (sb v e.1) (sb v x) := by unfold cross xp sb; grind
                                               omega
    have d2 : 0 < xp (sb v x) (sb y v) := by rw [← cross_xp2]; exact hc
    have d3 : 0 ≤ xp (sb y v) (sb e.2 v) := by rw [← cross_xp]; exact c2
    have d4 := tr_s2 (pos_sb l1) (pos_sb xv) (pos_sb vy) d1 d2
    have d5 := tr_s1 (pos_sb l1) (pos_sb vy) (pos_sb l2) d4 d3
    have d6 : cross e.1 e.2 v = - xp (sb v e.1) (sb e.2 v) := by unfold cross xp sb; grind
    omega
theorem sub_eq {l : List C} (hl : Sorted l) : ∀ {s s' : List C}, s.Sublist l → s'.Sublist l → (∀ x, x ∈ s ↔ x ∈ s') → s = s' := by
  induction l with
  | nil => intro s s' h h' _; rw [List.sublist_nil.1 h, List.sublist_nil.1 h']
  | cons a l ih =>
    intro s s' h h' hm
    have hl' : Sorted l := (List.pairwise_cons.1 hl).2
    have hna : a ∉ l := fun hc => lt_irr _ ((List.pairwise_cons.1 hl).1 a hc)
    have hin : ∀ {s : List C}, s.Sublist (a :: l) → (s.Sublist l ∧ a ∉ s) ∨ ∃ r, s = a :: r ∧ r.Sublist l := by
      intro s h
      cases h with
      | cons _ h => exact Or.inl ⟨h, fun hc => hna (h.subset hc)⟩
      | cons_cons _ h => exact Or.inr ⟨_, rfl, h⟩
    rcases hin h with ⟨h1, n1⟩ | ⟨r, rfl, h1⟩ <;> rcases hin h' with ⟨h2, n2⟩ | ⟨r', rfl, h2⟩
    · exact ih hl' h1 h2 hm
    · exact absurd ((hm a).2 (by simp)) n1
    · exact absurd ((hm a).1 (by simp)) n2
    · have : r = r' := ih hl' h1 h2 fun x => by
        have := hm x
        simp only [List.mem_cons] at this
        constructor
        · intro hx
          rcases this.1 (Or.inr hx) with rfl | h
          · exact absurd (h1.subset hx) hna
          · exact h
        · intro hx
          rcases this.2 (Or.inr hx) with rfl | h
          · exact absurd (h2.subset hx) hna
          · exact h
      rw [this]
theorem chain_unique {l st st' : List C} (hl : Sorted l) (h : ChainOf l st) (h' : ChainOf l st') : st = st' := by
  have := sub_eq hl h.sub h'.sub fun x => by
    rw [List.mem_reverse, List.mem_reverse]
    exact ⟨chain_mem h h' x, chain_mem h' h x⟩
  exact List.reverse_inj.1 this
end Go.Geo
