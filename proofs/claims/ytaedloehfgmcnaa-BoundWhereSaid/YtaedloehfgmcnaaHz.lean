/- Contracts: what each function of the program computes, for the arguments that its theorem names; and from there the given statement. Conditions: those that each theorem states. -/
import Derived.Test.YtaedloehfgmcnaaHy
import Derived.Test.YtaedloehfgmcnaaFn
namespace Go.Proofs.Try
open Go.Psl
def accO (m0 u0 m1 u1 : Bool) : Nat → Nat → Bool
  | 0 => fun _ => false
  | 1 => setN (setN (fun _ => false) 0 m0) 1 u0
  | _ => setN (setN (setN (setN (fun _ => false) 0 m0) 1 u0) 2 m1) 3 u1
set_option maxHeartbeats 4000000 in
set_option maxRecDepth 20000 in
theorem fn10 (hS : SortOk) (l : List (Int × Int × Int)) (y : Int × Int) (n x : Int) : Ct prog 10 [.d (knotsD l), vsp y.1 y.2, vi n, vi x] (vb true) [] := by
  have c0 := fn58 hS
  refine Ct.by gok eok mixed func10 c10 rfl (by simp [ntmps10]) (by simp) (by simp [ResIds]) fun E hE => ?_
  by_cases h40 : 40 < l.length
  · have h40' : (40 : Int) < l.length := by omega
    simp [p10]
    repeat ((first | (refine ACall.mk _ _ _ (c0) ?_ ?_ ?_ ?_; (focus (simp; done)); (focus (simp; done)); (focus (first | (left; simp; done) | (right; simp; done))))); simp [h40'])
    refine RetOk.by (fun _ => none) ?_
    simp [results10]
  have h40' : ¬ (40 : Int) < l.length := by omega
  have c1 := fn27 l (by omega)
  have c2 := fn46 y
  by_cases ht : tabS l = true
  · by_cases hy : okS y = true
    · rw [if_pos ht] at c1
      rw [if_pos hy] at c2
      have hlen := tab_len ht
      obtain ⟨a, ha⟩ : ∃ a, l[0]? = some a := ⟨l[0], by simp⟩
      obtain ⟨e, he⟩ : ∃ e, e = l.length - 1 := ⟨_, rfl⟩
      obtain ⟨b, hb⟩ : ∃ b, l[e]? = some b := ⟨l[e], by simp [show e < l.length by omega]⟩
      have we : IntKind.wrap .i64 ((l.length : Int) - 1) = (e : Int) := by rw [wrap64 (by omega) (by omega)]; omega
      have hab : a.1 < b.1 := tab_mono ht ha hb (by omega)
      have oa := okK_iff.1 (tab_okK ht ha)
      have ob := okK_iff.1 (tab_okK ht hb)
      have iy := okS_iff.1 hy
      have d1 := fn59 y n (by omega)
      have s1 := someS_in iy.1 n
      have d2 := fn59 (a.1, b.1) x (by simp only; omega)
      generalize someS y n = c at *
      generalize someS (a.1, b.1) x = z at *
      have d3 := fn69 c y.2
      have d4 := fn69 a.1 b.1
      simp [p10]
      repeat ((first | (refine ACall.mk _ _ _ (c0) ?_ ?_ ?_ ?_; (focus (simp; done)); (focus (simp; done)); (focus (first | (left; simp; done) | (right; simp; done)))) | (refine ACall.mk _ _ _ (c1) ?_ ?_ ?_ ?_; (focus (simp; done)); (focus (simp; done)); (focus (first | (left; simp; done) | (right; simp; done)))) | (refine ACall.mk _ _ _ (c2) ?_ ?_ ?_ ?_; (focus (simp; done)); (focus (simp; done)); (focus (first | (left; simp; done) | (right; simp; done)))) | (refine ACall.mk _ _ _ (d1) ?_ ?_ ?_ ?_; (focus (simp; done)); (focus (simp; done)); (focus (first | (left; simp; done) | (right; simp; done)))) | (refine ACall.mk _ _ _ (d3) ?_ ?_ ?_ ?_; (focus (simp; done)); (focus (simp; done)); (focus (first | (left; simp; done) | (right; simp; done)))) | (refine ACall.mk _ _ _ (d4) ?_ ?_ ?_ ?_; (focus (simp; done)); (focus (simp; done)); (focus (first | (left; simp; done) | (right; simp; done)))) | (refine ACall.mk _ _ _ (d2) ?_ ?_ ?_ ?_; (focus (simp; done)); (focus (simp; done)); (focus (first | (left; simp; done) | (right; simp; done))))); simp [h40', splice, inC, Nat.testBit, ha, hb, we, repl])
      have sy : okS (c, y.2) = true := by rw [okS_iff]; simp only; omega
      have eM0 : mayS (pickM true) l y = (findS (pickM true) l y, 0) := by simp [mayS, ht, hy]
      have eU0 : mayS (pickM false) l y = (findS (pickM false) l y, 0) := by simp [mayS, ht, hy]
      have eM1 : mayS (pickM true) l (c, y.2) = (findS (pickM true) l (c, y.2), 0) := by simp [mayS, ht, sy]
      have eU1 : mayS (pickM false) l (c, y.2) = (findS (pickM false) l (c, y.2), 0) := by simp [mayS, ht, sy]
      have f1 := fn22d l y (by omega)
      have f2 := fn24d l y (by omega)
      have f3 := fn22d l (c, y.2) (by omega)
      have f4 := fn24d l (c, y.2) (by omega)
      rw [eM0] at f1
      rw [eU0] at f2
      rw [eM1] at f3
      rw [eU1] at f4
      have hb' : l[l.length - 1]? = some b := by rw [← he]; exact hb
      obtain ⟨sM0, hM0⟩ := find_shape (may := true) (y := y) ht ha hb'
      obtain ⟨sU0, hU0⟩ := find_shape (may := false) (y := y) ht ha hb'
      obtain ⟨sM1, hM1⟩ := find_shape (may := true) (y := (c, y.2)) ht ha hb'
      obtain ⟨sU1, hU1⟩ := find_shape (may := false) (y := (c, y.2)) ht ha hb'
      have lM0 := mayS_len (pickM true) l y
      have lU0 := mayS_len (pickM false) l y
      have lM1 := mayS_len (pickM true) l (c, y.2)
      have lU1 := mayS_len (pickM false) l (c, y.2)
      rw [eM0] at lM0
      rw [eU0] at lU0
      rw [eM1] at lM1
      rw [eU1] at lU1
      have k1 : hitB (findS (pickM false) l y) z = true → hitB (findS (pickM true) l y) z = true := fun h => hitB_iff.2 (must_may ht (hitB_iff.1 h))
      have k2 : hitB (findS (pickM false) l (c, y.2)) z = true → hitB (findS (pickM true) l (c, y.2)) z = true := fun h => hitB_iff.2 (must_may ht (hitB_iff.1 h))
      have k3 : hitB (findS (pickM true) l (c, y.2)) z = true → hitB (findS (pickM true) l y) z = true := fun h => hitB_iff.2 (find_mono ht (by simp only; omega) (by simp only; omega) (hitB_iff.1 h))
      have k4 : hitB (findS (pickM false) l (c, y.2)) z = true → hitB (findS (pickM false) l y) z = true := fun h => hitB_iff.2 (find_mono ht (by simp only; omega) (by simp only; omega) (hitB_iff.1 h))
      generalize findS (pickM true) l y = M0 at *
      generalize findS (pickM false) l y = U0 at *
      generalize findS (pickM true) l (c, y.2) = M1 at *
      generalize findS (pickM false) l (c, y.2) = U1 at *
      simp only at lM0 lU0 lM1 lU1
      obtain ⟨m0, em0⟩ : ∃ m0, hitB M0 z = m0 := ⟨_, rfl⟩
      obtain ⟨u0, eu0⟩ : ∃ u0, hitB U0 z = u0 := ⟨_, rfl⟩
      obtain ⟨m1, em1⟩ : ∃ m1, hitB M1 z = m1 := ⟨_, rfl⟩
      obtain ⟨u1, eu1⟩ : ∃ u1, hitB U1 z = u1 := ⟨_, rfl⟩
      rw [em0, eu0] at k1
      rw [em1, eu1] at k2
      rw [em1, em0] at k3
      rw [eu1, eu0] at k4
      have e1 : IntKind.wrap .i64 1 = 1 := by decide
      have e2 : IntKind.wrap .i64 2 = 2 := by decide
      refine pw_loopC (α := Nat) 0 (fun _ : Unit => ⟨slots [(9, vb true), (12, .lp 0 0)], lk [(0, [vb m0, vb u0, vb m1, vb u1])], 1⟩) (fun _ => True) (fun i => ⟨slots [(0, .d (knotsD l)), (9, vb true), (11, vi z), (12, .lp 0 0), (65, .ls 1 0 2 2), (66, vi 2), (67, vi i)], lk [(0, [vb ((accO m0 u0 m1 u1 i) 0), vb ((accO m0 u0 m1 u1 i) 1), vb ((accO m0 u0 m1 u1 i) 2), vb ((accO m0 u0 m1 u1 i) 3)]), (1, [vi y.1, vi y.2, vi c, vi y.2])], 2⟩) (fun i => i ≤ 2) (fun i => 2 - i) 0 ?_ ?_ ?_ fun _ _ => ?_
      · simp
      · refine Weak.mk hE (lk [(0, 47185920), (1, 51380224)]) _ _ _ ?_ ?_ ?_ ?_ ?_ <;> simp [accO]
      · intro i hi
        simp [p10l2]
        have hi3 : i = 0 ∨ i = 1 ∨ i = 2 := by omega
        rcases hi3 with rfl | rfl | rfl
        · simp [splice]
          refine ACall.mk _ _ _ (f1) (by first | (simp; done) | simp [Bor_ls, Bor1_ls]) (by simp) (by first | (left; simp; done) | (right; simp; done)) ?_
          simp
          refine ACall.mk _ _ _ (f2) (by first | (simp; done) | simp [Bor_ls, Bor1_ls]) (by simp) (by first | (left; simp; done) | (right; simp; done)) ?_
          simp [splice, repl]
          refine pw_loopC (α := Nat) 2 (fun _ : Unit => ⟨slots [(0, .d (knotsD l)), (9, vb true), (11, vi z), (12, .lp 0 0), (65, .ls 1 0 2 2), (66, vi 2), (67, vi 0)], lk [(0, [vb (accM (fun _ => false) 0 (hitB M0 z) (hitB U0 z) 2 0), vb (accM (fun _ => false) 0 (hitB M0 z) (hitB U0 z) 2 1), vb (accM (fun _ => false) 0 (hitB M0 z) (hitB U0 z) 2 2), vb (accM (fun _ => false) 0 (hitB M0 z) (hitB U0 z) 2 3)]), (1, [vi y.1, vi y.2, vi c, vi y.2])], 2⟩) (fun _ => True) (fun k => ⟨slots [(0, .d (knotsD l)), (9, vb true), (11, vi z), (12, .lp 0 0), (65, .ls 1 0 2 2), (66, vi 2), (67, vi 0), (13, vi 0), (92, .ls 2 0 2 1), (93, vi 2), (94, vi k)], lk [(0, [vb (accM (fun _ => false) 0 (hitB M0 z) (hitB U0 z) k 0), vb (accM (fun _ => false) 0 (hitB M0 z) (hitB U0 z) k 1), vb (accM (fun _ => false) 0 (hitB M0 z) (hitB U0 z) k 2), vb (accM (fun _ => false) 0 (hitB M0 z) (hitB U0 z) k 3)]), (1, [vi y.1, vi y.2, vi c, vi y.2]), (2, [.d (spansD M0), .d (spansD U0)])], 3⟩) (fun k => k ≤ 2) (fun k => 2 - k) 0 ?_ ?_ ?_ fun _ _ => ?_
          · simp
          · refine Weak.mk hE (lk [(0, 0), (1, 1), (2, 32505858)]) _ _ _ ?_ ?_ ?_ ?_ ?_ <;> simp [accM, accO]
          · exact where_mid l y c z M0 U0 (fun _ => false) a b e ha hb we sM0 hM0 sU0 hU0 ⟨oa.1, ob.2.1⟩ (by omega) (by omega) hE 0 (Or.inl rfl) rfl rfl
          · simp [e1]
            refine ⟨1, by omega, by omega, ?_⟩
            refine Weak.mk hE (lk [(0, 0), (1, 1)]) _ _ _ ?_ ?_ ?_ ?_ ?_ <;> simp [accM, accO, em0, eu0, setN]
        · simp [splice]
          refine ACall.mk _ _ _ (f3) (by first | (simp; done) | simp [Bor_ls, Bor1_ls]) (by simp) (by first | (left; simp; done) | (right; simp; done)) ?_
          simp
          refine ACall.mk _ _ _ (f4) (by first | (simp; done) | simp [Bor_ls, Bor1_ls]) (by simp) (by first | (left; simp; done) | (right; simp; done)) ?_
          simp [splice, repl]
          refine pw_loopC (α := Nat) 2 (fun _ : Unit => ⟨slots [(0, .d (knotsD l)), (9, vb true), (11, vi z), (12, .lp 0 0), (65, .ls 1 0 2 2), (66, vi 2), (67, vi 1)], lk [(0, [vb (accM (accO m0 u0 m1 u1 1) 1 (hitB M1 z) (hitB U1 z) 2 0), vb (accM (accO m0 u0 m1 u1 1) 1 (hitB M1 z) (hitB U1 z) 2 1), vb (accM (accO m0 u0 m1 u1 1) 1 (hitB M1 z) (hitB U1 z) 2 2), vb (accM (accO m0 u0 m1 u1 1) 1 (hitB M1 z) (hitB U1 z) 2 3)]), (1, [vi y.1, vi y.2, vi c, vi y.2])], 2⟩) (fun _ => True) (fun k => ⟨slots [(0, .d (knotsD l)), (9, vb true), (11, vi z), (12, .lp 0 0), (65, .ls 1 0 2 2), (66, vi 2), (67, vi 1), (13, vi 1), (92, .ls 2 0 2 1), (93, vi 2), (94, vi k)], lk [(0, [vb (accM (accO m0 u0 m1 u1 1) 1 (hitB M1 z) (hitB U1 z) k 0), vb (accM (accO m0 u0 m1 u1 1) 1 (hitB M1 z) (hitB U1 z) k 1), vb (accM (accO m0 u0 m1 u1 1) 1 (hitB M1 z) (hitB U1 z) k 2), vb (accM (accO m0 u0 m1 u1 1) 1 (hitB M1 z) (hitB U1 z) k 3)]), (1, [vi y.1, vi y.2, vi c, vi y.2]), (2, [.d (spansD M1), .d (spansD U1)])], 3⟩) (fun k => k ≤ 2) (fun k => 2 - k) 0 ?_ ?_ ?_ fun _ _ => ?_
          · simp
          · refine Weak.mk hE (lk [(0, 0), (1, 1), (2, 32505858)]) _ _ _ ?_ ?_ ?_ ?_ ?_ <;> simp [accM, accO]
          · exact where_mid l y c z M1 U1 (accO m0 u0 m1 u1 1) a b e ha hb we sM1 hM1 sU1 hU1 ⟨oa.1, ob.2.1⟩ (by omega) (by omega) hE 1 (Or.inr rfl) rfl rfl
          · simp [e2]
            refine ⟨2, by omega, by omega, ?_⟩
            refine Weak.mk hE (lk [(0, 0), (1, 1)]) _ _ _ ?_ ?_ ?_ ?_ ?_ <;> simp [accM, accO, em1, eu1, setN]
        · simp
          refine Weak.mk hE (lk [(0, 0)]) _ _ _ ?_ ?_ ?_ ?_ ?_ <;> simp [accO, setN]
      · cases m0 <;> cases u0 <;> cases m1 <;> cases u1 <;> (first | (exact Bool.noConfusion (k1 rfl)) | (exact Bool.noConfusion (k2 rfl)) | (exact Bool.noConfusion (k3 rfl)) | (exact Bool.noConfusion (k4 rfl)) | skip) <;> (
          simp
          refine RetOk.by (fun _ => none) ?_
          simp [results10])
    · have hy : okS y = false := by simpa using hy
      rw [if_pos ht] at c1
      rw [hy] at c2
      simp [p10]
      repeat ((first | (refine ACall.mk _ _ _ (c0) ?_ ?_ ?_ ?_; (focus (simp; done)); (focus (simp; done)); (focus (first | (left; simp; done) | (right; simp; done)))) | (refine ACall.mk _ _ _ (c1) ?_ ?_ ?_ ?_; (focus (simp; done)); (focus (simp; done)); (focus (first | (left; simp; done) | (right; simp; done)))) | (refine ACall.mk _ _ _ (c2) ?_ ?_ ?_ ?_; (focus (simp; done)); (focus (simp; done)); (focus (first | (left; simp; done) | (right; simp; done))))); simp [h40'])
      refine RetOk.by (fun _ => none) ?_
      simp [results10]
  · rw [if_neg ht] at c1
    simp [p10]
    repeat ((first | (refine ACall.mk _ _ _ (c0) ?_ ?_ ?_ ?_; (focus (simp; done)); (focus (simp; done)); (focus (first | (left; simp; done) | (right; simp; done)))) | (refine ACall.mk _ _ _ (c1) ?_ ?_ ?_ ?_; (focus (simp; done)); (focus (simp; done)); (focus (first | (left; simp; done) | (right; simp; done))))); simp [h40'])
    refine RetOk.by (fun _ => none) ?_
    simp [results10]
end Go.Proofs.Try
