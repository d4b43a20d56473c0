/- Own lemmas and contracts of functions, used by the last text of this claim for the given statement. Conditions: those that each theorem states. -/
import Derived.Test.YtigekgfbcfbobaaGreatAj
namespace Go.Proofs.Tryz
open Go.Psl
open Go.Air
set_option maxRecDepth 20000
set_option maxHeartbeats 8000000
theorem burst_fit (s : Shp) (a : Atm) : (0 ≤ ixF (nofit a) s.gas.cs ↔ allFit s a = false) ∧ (ixF (nofit a) s.gas.cs < 0 ↔ allFit s a = true) := by
  have h := ixF_any (nofit a) s.gas.cs
  have e : s.gas.cs.any (nofit a) = !allFit s a := by
    show s.gas.cs.any (fun c => !decide (fitV c a = 1)) = _
    rw [any_nt]; rfl
  rw [e] at h
  cases hf : allFit s a
  · rw [hf] at h
    have : 0 ≤ ixF (nofit a) s.gas.cs := by simpa using h
    simp; omega
  · rw [hf] at h
    have : ¬ 0 ≤ ixF (nofit a) s.gas.cs := by simpa using h
    simp; omega
theorem rtops_loop (k : Sky) (s : Shp) (h1 : k.s.length ≤ 1000000) (hb : ShpB s) (L : Int) (hL : L ≤ 9000) (hin : ∀ h : Int, s.hh ≤ h → h ≤ L → AtOk k.s s.hl h) {E : Ent} (hE : ∀ i, ¬ E.stab i) {Q : AExit → St → Prop} : ∀ y : Int × Int, ((s.hh - 1 ≤ y.1 ∧ y.1 ≤ y.2 ∧ y.2 ≤ L) ∧ (s.hh ≤ y.1 → allFit s (atA k.s s.hl y.1).1 = true) ∧ (y.2 < L → allFit s (atA k.s s.hl (y.2 + 1)).1 = false)) → PW prog tys eqs E p26l0
    (seqQ (fun st' => ∃ z : Int × Int, ((s.hh - 1 ≤ z.1 ∧ z.1 ≤ z.2 ∧ z.2 ≤ L) ∧ (s.hh ≤ z.1 → allFit s (atA k.s s.hl z.1).1 = true) ∧ (z.2 < L → allFit s (atA k.s s.hl (z.2 + 1)).1 = false)) ∧ (z.2 - z.1).toNat < (y.2 - y.1).toNat ∧ Weak prog E st' ⟨slots [(2, .lp 0 0), (3, .lp 1 0), (8, vi z.1), (9, vi z.2)], lk [(0, [.d (levsD k.s), .d (galsD k.w)]), (1, [vi s.xl, vi s.xh, vi s.yl, vi s.yh, vi s.hl, vi s.hh, vi s.fl, vi s.fh, vi s.wl, vi s.wh, vi s.bl, vi s.bh, vi s.dry, vi s.bal, vi s.drp, .d (cellsD s.gas.cs), vi s.gas.bt, vi s.gas.ih, vi s.gas.ia, vi s.gas.vh, vi s.gas.va, vi s.gas.lh, vi s.gas.la, vi s.gas.ph, vi s.gas.pa])], 2⟩)
      (exC prog E Q 0 (fun m : Int => ⟨slots [(3, .lp 1 0), (8, vi m)], lk [(1, [vi s.xl, vi s.xh, vi s.yl, vi s.yh, vi s.hl, vi s.hh, vi s.fl, vi s.fh, vi s.wl, vi s.wh, vi s.bl, vi s.bh, vi s.dry, vi s.bal, vi s.drp, .d (cellsD s.gas.cs), vi s.gas.bt, vi s.gas.ih, vi s.gas.ia, vi s.gas.vh, vi s.gas.va, vi s.gas.lh, vi s.gas.la, vi s.gas.ph, vi s.gas.pa])], 2⟩) (fun m => (s.hh - 1 ≤ m ∧ m ≤ L) ∧ (s.hh ≤ m → allFit s (atA k.s s.hl m).1 = true) ∧ (m < L → allFit s (atA k.s s.hl (m + 1)).1 = false))))
    ⟨slots [(2, .lp 0 0), (3, .lp 1 0), (8, vi y.1), (9, vi y.2)], lk [(0, [.d (levsD k.s), .d (galsD k.w)]), (1, [vi s.xl, vi s.xh, vi s.yl, vi s.yh, vi s.hl, vi s.hh, vi s.fl, vi s.fh, vi s.wl, vi s.wh, vi s.bl, vi s.bh, vi s.dry, vi s.bal, vi s.drp, .d (cellsD s.gas.cs), vi s.gas.bt, vi s.gas.ih, vi s.gas.ia, vi s.gas.vh, vi s.gas.va, vi s.gas.lh, vi s.gas.la, vi s.gas.ph, vi s.gas.pa])], 2⟩ := by
  rintro ⟨lo, hi⟩ ⟨⟨g1, g2, g3⟩, g4, g5⟩
  simp only at g1 g2 g3 g4 g5
  have hq := hb.h
  by_cases hlt : lo < hi
  · obtain ⟨m, hm⟩ : ∃ m, hi - (hi - lo) / 2 = m := ⟨_, rfl⟩
    have w1 : IntKind.wrap .i64 (hi - lo) = hi - lo := wrap64 (by omega) (by omega)
    have t1 : (hi - lo).tdiv 2 = (hi - lo) / 2 := tdiv_nn (by omega)
    have w2 : IntKind.wrap .i64 ((hi - lo) / 2) = (hi - lo) / 2 := wrap64 (by omega) (by omega)
    have w3 : IntKind.wrap .i64 m = m := wrap64 (by omega) (by omega)
    have w4 : IntKind.wrap .i64 (m - 1) = m - 1 := wrap64 (by omega) (by omega)
    have ho := hin m (by omega) (by omega)
    have c1 := fn73 k.s s.hl m h1
    have haB := at_air ho
    have c2 := fn82 s (atA k.s s.hl m).1 hb haB
    have hbf := burst_fit s (atA k.s s.hl m).1
    unfold atV at c1
    generalize hae : atA k.s s.hl m = ae at *
    generalize hbu : ixF (nofit ae.1) s.gas.cs = bu at *
    cases hf : allFit s ae.1
    · have hneg : ¬ bu < 0 := fun hh => by rw [hbf.2.1 hh] at hf; cases hf
      simp [p26l0, hlt, splice, w1, t1, w2, hm, w3]
      refine ACall.mk _ _ _ (c1) (by first | (simp; done) | simp [Bor_ls, Bor1_ls]) (by simp) (by first | (left; simp; done) | (right; simp; done)) ?_
      simp [splice]
      refine ACall.mk _ _ _ (c2) (by first | (simp; done) | simp [Bor_ls, Bor1_ls]) (by simp) (by first | (left; simp; done) | (right; simp; done)) ?_
      simp [hneg, w4]
      refine ⟨lo, m - 1, ⟨⟨by omega, by omega, by omega⟩, fun h => g4 h, fun h => ?_⟩, by omega, ?_⟩
      · rw [show m - 1 + 1 = m by omega, hae]; exact hf
      · refine Weak.mk hE (lk [(0, 0), (1, 1)]) _ _ _ ?_ ?_ ?_ ?_ ?_ <;> simp
    · have hneg : bu < 0 := hbf.2.2 hf
      simp [p26l0, hlt, splice, w1, t1, w2, hm, w3]
      refine ACall.mk _ _ _ (c1) (by first | (simp; done) | simp [Bor_ls, Bor1_ls]) (by simp) (by first | (left; simp; done) | (right; simp; done)) ?_
      simp [splice]
      refine ACall.mk _ _ _ (c2) (by first | (simp; done) | simp [Bor_ls, Bor1_ls]) (by simp) (by first | (left; simp; done) | (right; simp; done)) ?_
      simp [hneg]
      refine ⟨m, hi, ⟨⟨by omega, by omega, by omega⟩, fun h => by rw [hae]; exact hf, fun h => g5 h⟩, by omega, ?_⟩
      refine Weak.mk hE (lk [(0, 0), (1, 1)]) _ _ _ ?_ ?_ ?_ ?_ ?_ <;> simp
  · have e : hi = lo := by omega
    subst e
    simp [p26l0]
    refine ⟨hi, ⟨⟨by omega, by omega⟩, g4, g5⟩, ?_⟩
    refine Weak.mk hE (lk [(1, 1)]) _ _ _ ?_ ?_ ?_ ?_ ?_ <;> simp
end Go.Proofs.Tryz
namespace Go.Proofs.Tryz
open Go.Psl
open Go.Air
set_option maxRecDepth 20000
set_option maxHeartbeats 8000000
theorem fn26 (k : Sky) (s : Shp) (h1 : k.s.length ≤ 1000000) (h2 : k.w.length ≤ 1000000) (h3 : s.gas.cs.length ≤ 1000000) : Ct prog 26 [skyV k, shpV s (.d (cellsD s.gas.cs))] (.tup [vi (topA k s).1, vi (topA k s).2]) [] := by
  have c1 := fn71 k h1 h2
  have c2 := fn72 s h3
  have c4 := fn73 k.s s.hl s.hh h1
  obtain ⟨a1, a2, a3⟩ := ask_ref k s
  cases k1 : okSky k
  · have e : topA k s = (0, 50) := by unfold topA; rw [a1 k1]; rfl
    rw [k1] at c1
    rw [e]
    refine Ct.by gok eok mixed func26 c26 rfl (by simp [ntmps26]) (by simp) (by simp [ResIds]) fun E hE => ?_
    simp [p26]
    refine ACall.mk _ _ _ (c1) (by first | (simp; done) | simp [Bor_ls, Bor1_ls]) (by simp) (by first | (left; simp; done) | (right; simp; done)) ?_
    simp
    refine RetOk.by (fun _ => none) ?_
    simp [results26]
  rw [k1] at c1
  cases k2 : okShp s
  · have e : topA k s = (0, 52) := by unfold topA; rw [a2 k1 k2]; rfl
    rw [k2] at c2
    rw [e]
    refine Ct.by gok eok mixed func26 c26 rfl (by simp [ntmps26]) (by simp) (by simp [ResIds]) fun E hE => ?_
    simp [p26]
    refine ACall.mk _ _ _ (c1) (by first | (simp; done) | simp [Bor_ls, Bor1_ls]) (by simp) (by first | (left; simp; done) | (right; simp; done)) ?_
    simp
    refine ACall.mk _ _ _ (c2) (by first | (simp; done) | simp [Bor_ls, Bor1_ls]) (by simp) (by first | (left; simp; done) | (right; simp; done)) ?_
    simp
    refine RetOk.by (fun _ => none) ?_
    simp [results26]
  rw [k2] at c2
  have ha := a3 k1 k2
  by_cases he : (atA k.s s.hl s.hh).2 = 0
  · have hb := okShp_B k2
    have ho := at_ok he
    have hlen := ho.ok.len
    obtain ⟨n, hn⟩ : ∃ n, n = k.s.length - 1 := ⟨_, rfl⟩
    obtain ⟨z, hz⟩ : ∃ z, k.s[n]? = some z := ⟨_, List.getElem?_eq_getElem (by omega)⟩
    have hzb := ho.ok.at' z (List.mem_of_getElem? hz)
    have hzh := ho.inb.2 z (by rw [← hn]; exact hz)
    have hq := hb.h
    have elast : lastH k.s = z.h := by unfold lastH; rw [← hn, hz]
    have hw : IntKind.wrap .i64 ((k.s.length : Int) - 1) = (n : Int) := by rw [wrap64 (by omega) (by omega)]; omega
    have hw2 : IntKind.wrap .i64 (s.hh - 1) = s.hh - 1 := wrap64 (by omega) (by omega)
    have hI : (n : Int) < k.s.length := by omega
    have hin : ∀ h : Int, s.hh ≤ h → h ≤ z.h → AtOk k.s s.hl h := fun h q1 q2 => at_make ho.ok ho.fit (by omega) ho.ina ⟨fun w hw => by have := ho.inb.1 w hw; omega, fun w hw => by rw [← hn, hz] at hw; cases hw; omega⟩
    obtain ⟨N, hN⟩ : ∃ N : Nat, (z.h - s.hh + 1).toNat = N := ⟨_, rfl⟩
    have law : ∀ m : Int, ((s.hh - 1 ≤ m ∧ m ≤ z.h) ∧ (s.hh ≤ m → allFit s (atA k.s s.hl m).1 = true) ∧ (m < z.h → allFit s (atA k.s s.hl (m + 1)).1 = false)) → (topR k s N : Int) = m + 1 - s.hh := fun m ⟨⟨q1, q2⟩, q3, q4⟩ => by
      have hle : topR k s N ≤ N := fstP_le _ _
      have hlo : m + 1 - s.hh ≤ (topR k s N : Int) := by
        refine Int.not_lt.1 fun hlt => ?_
        have hat : (!allFit s (atA k.s s.hl (s.hh + (topR k s N : Int))).1) = true := fstP_at (n := N) (p := fun i => !allFit s (atA k.s s.hl (s.hh + i)).1) (by unfold topR at hlt hle; omega)
        have hfm := q3 (by omega)
        have := allFit_down hb (b := s.hh + (topR k s N : Int)) (c := m) (by omega) (by omega) (hin m (by omega) (by omega)) hfm
        rw [this] at hat; cases hat
      have hhi : (topR k s N : Int) ≤ m + 1 - s.hh := by
        refine Int.not_lt.1 fun hlt => ?_
        have hfm := q4 (by omega)
        have := fstP_in (n := N) (p := fun i => !allFit s (atA k.s s.hl (s.hh + i)).1) (i := (m + 1 - s.hh).toNat) (by unfold topR at hlt; omega)
        rw [show s.hh + ((m + 1 - s.hh).toNat : Int) = m + 1 by omega, hfm] at this
        cases this
      omega
    unfold atV at c4
    rw [he] at c4
    have e : topA k s = if topR k s N = 0 then (0, 6) else (s.hh + topR k s N - 1, 0) := by unfold topA; rw [if_pos ha, if_pos he, elast, hN]
    have hloop := fun (E : Ent) (hE : ∀ i, ¬ E.stab i) (Q : AExit → St → Prop) => rtops_loop k s h1 hb z.h (by omega) hin (E := E) hE (Q := Q)
    rw [e]
    clear e
    generalize (atA k.s s.hl s.hh).1 = a at *
    refine Ct.by gok eok mixed func26 c26 rfl (by simp [ntmps26]) (by simp) (by simp [ResIds]) fun E hE => ?_
    simp [p26]
    refine ACall.mk _ _ _ (c1) (by first | (simp; done) | simp [Bor_ls, Bor1_ls]) (by simp) (by first | (left; simp; done) | (right; simp; done)) ?_
    simp
    refine ACall.mk _ _ _ (c2) (by first | (simp; done) | simp [Bor_ls, Bor1_ls]) (by simp) (by first | (left; simp; done) | (right; simp; done)) ?_
    simp
    refine ACall.mk _ _ _ (c4) (by first | (simp; done) | simp [Bor_ls, Bor1_ls]) (by simp) (by first | (left; simp; done) | (right; simp; done)) ?_
    simp [splice, hw, hw2, hz, inC, Nat.testBit]
    refine pw_loopC (α := Int × Int) 0 (fun m : Int => ⟨slots [(3, .lp 1 0), (8, vi m)], lk [(1, [vi s.xl, vi s.xh, vi s.yl, vi s.yh, vi s.hl, vi s.hh, vi s.fl, vi s.fh, vi s.wl, vi s.wh, vi s.bl, vi s.bh, vi s.dry, vi s.bal, vi s.drp, .d (cellsD s.gas.cs), vi s.gas.bt, vi s.gas.ih, vi s.gas.ia, vi s.gas.vh, vi s.gas.va, vi s.gas.lh, vi s.gas.la, vi s.gas.ph, vi s.gas.pa])], 2⟩) (fun m => (s.hh - 1 ≤ m ∧ m ≤ z.h) ∧ (s.hh ≤ m → allFit s (atA k.s s.hl m).1 = true) ∧ (m < z.h → allFit s (atA k.s s.hl (m + 1)).1 = false)) (fun y => ⟨slots [(2, .lp 0 0), (3, .lp 1 0), (8, vi y.1), (9, vi y.2)], lk [(0, [.d (levsD k.s), .d (galsD k.w)]), (1, [vi s.xl, vi s.xh, vi s.yl, vi s.yh, vi s.hl, vi s.hh, vi s.fl, vi s.fh, vi s.wl, vi s.wh, vi s.bl, vi s.bh, vi s.dry, vi s.bal, vi s.drp, .d (cellsD s.gas.cs), vi s.gas.bt, vi s.gas.ih, vi s.gas.ia, vi s.gas.vh, vi s.gas.va, vi s.gas.lh, vi s.gas.la, vi s.gas.ph, vi s.gas.pa])], 2⟩) (fun y => (s.hh - 1 ≤ y.1 ∧ y.1 ≤ y.2 ∧ y.2 ≤ z.h) ∧ (s.hh ≤ y.1 → allFit s (atA k.s s.hl y.1).1 = true) ∧ (y.2 < z.h → allFit s (atA k.s s.hl (y.2 + 1)).1 = false)) (fun y => (y.2 - y.1).toNat) (s.hh - 1, z.h) ?_ ?_ (hloop E hE _) fun m hm => ?_
    · exact ⟨⟨by simp only; omega, by simp only; omega, by simp only; omega⟩, fun h => by simp only at h; omega, fun h => by simp only at h; omega⟩
    · refine Weak.mk hE (lk [(0, 0), (1, 1048576)]) _ _ _ ?_ ?_ ?_ ?_ ?_ <;> simp
    · have hl := law m hm
      have hm1 := hm.1
      by_cases hlt : m < s.hh
      · have hr : topR k s N = 0 := by omega
        rw [if_pos hr]
        simp [hlt]
        refine RetOk.by (fun _ => none) ?_
        simp [results26]
      · have hr : ¬ topR k s N = 0 := by omega
        have ev : s.hh + (topR k s N : Int) - 1 = m := by omega
        rw [if_neg hr, ev]
        simp [hlt]
        refine RetOk.by (fun _ => none) ?_
        simp [results26]
  · have e : topA k s = (0, (atA k.s s.hl s.hh).2) := by unfold topA; rw [if_pos ha, if_neg he]
    rw [e]
    unfold atV at c4
    generalize (atA k.s s.hl s.hh).1 = a at *
    generalize (atA k.s s.hl s.hh).2 = er at *
    refine Ct.by gok eok mixed func26 c26 rfl (by simp [ntmps26]) (by simp) (by simp [ResIds]) fun E hE => ?_
    simp [p26]
    refine ACall.mk _ _ _ (c1) (by first | (simp; done) | simp [Bor_ls, Bor1_ls]) (by simp) (by first | (left; simp; done) | (right; simp; done)) ?_
    simp
    refine ACall.mk _ _ _ (c2) (by first | (simp; done) | simp [Bor_ls, Bor1_ls]) (by simp) (by first | (left; simp; done) | (right; simp; done)) ?_
    simp
    refine ACall.mk _ _ _ (c4) (by first | (simp; done) | simp [Bor_ls, Bor1_ls]) (by simp) (by first | (left; simp; done) | (right; simp; done)) ?_
    simp [splice, he]
    refine RetOk.by (fun _ => none) ?_
    simp [results26]
end Go.Proofs.Tryz
namespace Go.Proofs.Tryz
open Go.Psl
open Go.Air
set_option maxRecDepth 20000
set_option maxHeartbeats 8000000
theorem fn150s (l : List Cel) (hl : l.length ≤ 1000000) : Ct prog 150 [.d (cellsD l), .d (cellsD l)] (vb true) [] := by
  refine Ct.by gok eok mixed func150 c150 rfl (by simp [ntmps150]) (by simp) (by simp [ResIds]) fun E hE => ?_
  simp [p150]
  refine pw_loop (α := Nat) (fun i => ⟨slots [(0, .d (cellsD l)), (1, .d (cellsD l)), (5, vi i)], lk [], 0⟩) (fun i => i ≤ l.length) (fun i => l.length - i) 0 ?_ ?_ ?_
  · omega
  · refine Weak.mk hE (lk []) _ _ _ ?_ ?_ ?_ ?_ ?_ <;> simp
  · intro i hi
    by_cases h : i < l.length
    · obtain ⟨x, hx⟩ : ∃ x, l[i]? = some x := ⟨_, List.getElem?_eq_getElem h⟩
      have hz : IntKind.wrap .i64 ((i : Int) + 1) = ((i + 1 : Nat) : Int) := by rw [wrap64 (by omega) (by omega)]; omega
      have hI : (i : Int) < l.length := by omega
      simp [p150l0, hI, hx, hz]
      refine ⟨i + 1, by omega, by omega, ?_⟩
      refine Weak.mk hE (lk []) _ _ _ ?_ ?_ ?_ ?_ ?_ <;> simp
    · have hn : ¬ (i : Int) < l.length := by omega
      simp [p150l0, hn]
      refine RetOk.by (fun _ => none) ?_
      simp [results150]
theorem fn27s (l : List Act) (hl : l.length ≤ 1000000) : Ct prog 27 [.d (actsD l), .d (actsD l)] (vb true) [] := by
  refine Ct.by gok eok mixed func27 c27 rfl (by simp [ntmps27]) (by simp) (by simp [ResIds]) fun E hE => ?_
  simp [p27]
  refine pw_loop (α := Nat) (fun i => ⟨slots [(0, .d (actsD l)), (1, .d (actsD l)), (5, vi i)], lk [], 0⟩) (fun i => i ≤ l.length) (fun i => l.length - i) 0 ?_ ?_ ?_
  · omega
  · refine Weak.mk hE (lk []) _ _ _ ?_ ?_ ?_ ?_ ?_ <;> simp
  · intro i hi
    by_cases h : i < l.length
    · obtain ⟨x, hx⟩ : ∃ x, l[i]? = some x := ⟨_, List.getElem?_eq_getElem h⟩
      have hz : IntKind.wrap .i64 ((i : Int) + 1) = ((i + 1 : Nat) : Int) := by rw [wrap64 (by omega) (by omega)]; omega
      have hI : (i : Int) < l.length := by omega
      simp [p27l0, hI, hx, hz]
      refine ⟨i + 1, by omega, by omega, ?_⟩
      refine Weak.mk hE (lk []) _ _ _ ?_ ?_ ?_ ?_ ?_ <;> simp
    · have hn : ¬ (i : Int) < l.length := by omega
      simp [p27l0, hn]
      refine RetOk.by (fun _ => none) ?_
      simp [results27]
theorem fn83s (p : Plt) (hl : p.cs.length ≤ 1000000) : Ct prog 83 [pltV p (.d (cellsD p.cs)), pltV p (.d (cellsD p.cs))] (vb true) [] := by
  have c := fn150s p.cs hl
  refine Ct.by gok eok mixed func83 c83 rfl (by simp [ntmps83]) (by simp) (by simp [ResIds]) fun E hE => ?_
  simp [p83]
  refine ACall.mk _ _ _ (c) (by first | (simp; done) | simp [Bor_ls, Bor1_ls]) (by simp) (by first | (left; simp; done) | (right; simp; done)) ?_
  simp
  refine RetOk.by (fun _ => none) ?_
  simp [results83]
theorem fn28s (s : Shp) (hl : s.gas.cs.length ≤ 1000000) : Ct prog 28 [shpV s (.d (cellsD s.gas.cs)), shpV s (.d (cellsD s.gas.cs))] (vb true) [] := by
  have c := fn83s s.gas hl
  refine Ct.by gok eok mixed func28 c28 rfl (by simp [ntmps28]) (by simp) (by simp [ResIds]) fun E hE => ?_
  simp [p28]
  refine ACall.mk _ _ _ (c) (by first | (simp; done) | simp [Bor_ls, Bor1_ls]) (by simp) (by first | (left; simp; done) | (right; simp; done)) ?_
  simp
  refine RetOk.by (fun _ => none) ?_
  simp [results28]
theorem fn19 (s : Shp) : Ct prog 19 [shpV s (.d (cellsD s.gas.cs))] (vb (decide (20 < s.gas.cs.length))) [] := by
  have e : decide ((20 : Int) < s.gas.cs.length) = decide (20 < s.gas.cs.length) := decide_eq_decide.2 (by omega)
  refine Ct.by gok eok mixed func19 c19 rfl (by simp [ntmps19]) (by simp) (by simp [ResIds]) fun E hE => ?_
  simp [p19]
  refine RetOk.by (fun _ => none) ?_
  simp [results19, e]
theorem fn18 (k : Sky) : Ct prog 18 [skyV k] (vb (decide (24 < k.s.length) || decide (24 < k.w.length))) [] := by
  have e : decide ((24 : Int) < k.w.length) = decide (24 < k.w.length) := decide_eq_decide.2 (by omega)
  by_cases h : 24 < k.s.length
  · have hI : (24 : Int) < k.s.length := by omega
    refine Ct.by gok eok mixed func18 c18 rfl (by simp [ntmps18]) (by simp) (by simp [ResIds]) fun E hE => ?_
    simp [p18, hI]
    refine RetOk.by (fun _ => none) ?_
    simp [results18, h]
  · have hI : ¬ (24 : Int) < k.s.length := by omega
    refine Ct.by gok eok mixed func18 c18 rfl (by simp [ntmps18]) (by simp) (by simp [ResIds]) fun E hE => ?_
    simp [p18, hI]
    refine RetOk.by (fun _ => none) ?_
    simp [results18, h, e]
end Go.Proofs.Tryz
namespace Go.Proofs.Tryz
open Go.Psl
open Go.Air
set_option maxRecDepth 20000
set_option maxHeartbeats 8000000
theorem fn68 (p : Plt) (hl : p.cs.length ≤ 1000000) : Ct prog 68 [pltV p (.d (cellsD p.cs))] (pltV p (.ls 0 0 p.cs.length 7)) [(0, fcel cellL p.cs)] := by
  by_cases h0 : p.cs = []
  · have e1 : cellsD p.cs = .sl 7 [] := by rw [h0]; rfl
    have e2 : fcel cellL p.cs = [] := by rw [h0]; rfl
    have e3 : p.cs.length = 0 := by rw [h0]; rfl
    rw [e1, e2, e3]
    refine Ct.by gok eok mixed func68 c68 rfl (by simp [ntmps68]) (by simp) (by simp [ResIds]) fun E hE => ?_
    simp [p68, splice, repl]
    refine RetOk.by (lk [(0, 5242880)]) ?_
    simp [results68]
  · obtain ⟨a, r, e⟩ := List.exists_cons_of_ne_nil h0
    have hmx : (r.length + 1) * 56 ≤ 140737488355328 ∧ r.length + 1 ≤ 9223372036854775807 := by rw [e] at hl; simp at hl; omega
    have ee : cellsD p.cs = .sl 7 (cellL a :: r.map cellL) := by rw [e]; rfl
    have ef : (r.map (List.map V.d ∘ cellL)).flatten = fcel cellL r := by simp [fcel, List.map_flatten]
    have hcl : (∀ x ∈ fcel cellL r, x.isCell = true) = True := eq_true fcel_cell
    have eln : p.cs.length = r.length + 1 := by rw [e]; simp
    have efc : fcel cellL p.cs = vi a.rm :: vi a.he :: vi a.ai :: vi a.wl :: vi a.wh :: vi a.lk :: vi a.ow :: fcel cellL r := by rw [e, fcel_cons]; rfl
    rw [ee, eln, efc]
    refine Ct.by gok eok mixed func68 c68 rfl (by simp [ntmps68]) (by simp) (by simp [ResIds]) fun E hE => ?_
    simp [p68, splice, repl, ef, hcl, hmx]

    refine RetOk.by (lk [(0, 5242880)]) ?_
    simp [results68, hcl]
theorem fn20 (s : Shp) (hl : s.gas.cs.length ≤ 1000000) : Ct prog 20 [shpV s (.d (cellsD s.gas.cs))] (shpV s (.ls 0 0 s.gas.cs.length 7)) [(0, fcel cellL s.gas.cs)] := by
  have c := fn68 s.gas hl
  refine Ct.by gok eok mixed func20 c20 rfl (by simp [ntmps20]) (by simp) (by simp [ResIds]) fun E hE => ?_
  simp [p20]
  refine ACall.mk _ _ _ (c) (by first | (simp; done) | simp [Bor_ls, Bor1_ls]) (by simp) (by first | (left; simp; done) | (right; simp; done)) ?_
  simp [splice]
  refine RetOk.by (lk [(0, 4194304)]) ?_
  simp [results20]
end Go.Proofs.Tryz
namespace Go.Proofs.Tryz
open Go.Psl
open Go.Air
set_option maxRecDepth 20000
set_option maxHeartbeats 8000000
theorem acl_act {l : List Act} {p : Nat → Prop} : (∀ c, c ∈ fcel actL l → AC p litD c) = True := eq_true (acl_fcel fun x y hy => by
  simp only [List.mem_cons, List.not_mem_nil, or_false] at hy
  rcases hy with rfl | rfl | rfl | rfl <;> exact ⟨_, rfl⟩)
theorem bor_cs {l : List Cel} : ∀ (H : Hp) (b : Nat), H b = some (fcel cellL l) → Bor1 H (.ls b 0 l.length 7) (.d (cellsD l)) := fun _ _ hh => bor_fcel (f := cellL) hfc (l := l) hh
theorem bor_as {l : List Act} : ∀ (H : Hp) (b : Nat), H b = some (fcel actL l) → Bor H (.ls b 0 l.length 4) (.d (actsD l)) := fun _ _ hh => bor_fcel (f := actL) hfa (l := l) hh
theorem fn3 (k : Sky) (s : Shp) (u v : Int) : Ct prog 3 [skyV k, shpV s (.d (cellsD s.gas.cs)), vsp u v] (vb true) [] := by
  have d1 := fn18 k
  cases hg : (decide (24 < k.s.length) || decide (24 < k.w.length))
  case true =>
    rw [hg] at d1
    refine Ct.by gok eok mixed func3 c3 rfl (by simp [ntmps3]) (by simp) (by simp [ResIds]) fun E hE => ?_
    simp [p3]
    refine ACall.mk _ _ _ (d1) (by first | (simp; done) | simp [Bor_ls, Bor1_ls]) (by simp) (by first | (left; simp; done) | (right; simp; done)) ?_
    simp
    refine RetOk.by (fun _ => none) ?_
    simp [results3]
  rw [hg] at d1
  simp only [Bool.or_eq_false_iff, decide_eq_false_iff_not] at hg
  have d2 := fn19 s
  cases hs : decide (20 < s.gas.cs.length)
  case true =>
    rw [hs] at d2
    refine Ct.by gok eok mixed func3 c3 rfl (by simp [ntmps3]) (by simp) (by simp [ResIds]) fun E hE => ?_
    simp [p3]
    refine ACall.mk _ _ _ (d1) (by first | (simp; done) | simp [Bor_ls, Bor1_ls]) (by simp) (by first | (left; simp; done) | (right; simp; done)) ?_
    simp
    refine ACall.mk _ _ _ (d2) (by first | (simp; done) | simp [Bor_ls, Bor1_ls]) (by simp) (by first | (left; simp; done) | (right; simp; done)) ?_
    simp
    refine RetOk.by (fun _ => none) ?_
    simp [results3]
  rw [hs] at d2
  simp only [decide_eq_false_iff_not] at hs
  have d3 := fn20 s (by omega)
  have d4 := fn21 k s (by omega) (by omega) (by omega)
  have d5 := fn22 k s (by omega) (by omega) (by omega)
  have d6 := vent0 k s u v (by omega) (by omega) (by omega)
  have d7 := fn24 k s u v (by omega) (by omega) (by omega)
  have d8 := fn25 k s (by omega) (by omega) (by omega)
  have d9 := fn26 k s (by omega) (by omega) (by omega)
  have hal : (vnA k s u v).1.length ≤ 1000000 := by
    unfold vnA
    split
    · split
      · have := vnK_len (a := (atA k.s u v).1) (l := s.gas.cs) s.gas.cs.length
        simp only; omega
      · simp
    · simp
  have dA := fn27s (vnA k s u v).1 hal
  have dB := fn28s s (by omega)
  generalize hvA k s = hv at *
  generalize (vnA k s u v).1 = al at *
  generalize (vnA k s u v).2 = ae at *
  generalize topA k s = tp at *
  by_cases hne : al = []
  · subst hne
    rw [hdF_nil, ouF_nil] at d6
    refine Ct.by gok eok mixed func3 c3 rfl (by simp [ntmps3]) (by simp) (by simp [ResIds]) fun E hE => ?_
    simp [p3]
    refine ACall.mk _ _ _ (d1) (by first | (simp; done) | simp [Bor_ls, Bor1_ls]) (by simp) (by first | (left; simp; done) | (right; simp; done)) ?_
    simp
    refine ACall.mk _ _ _ (d2) (by first | (simp; done) | simp [Bor_ls, Bor1_ls]) (by simp) (by first | (left; simp; done) | (right; simp; done)) ?_
    simp
    refine ACall.mk _ _ _ (d3) (by first | (simp; done) | simp [Bor_ls, Bor1_ls]) (by simp) (by first | (left; simp; done) | (right; simp; done)) ?_
    simp [splice]
    refine ACall.mk _ _ _ (d4) (by simp [bor_cs]) (by simp) (by first | (left; simp; done) | (right; simp; done)) ?_
    simp [splice]
    refine ACall.mk _ _ _ (d5) (by first | (simp; done) | simp [Bor_ls, Bor1_ls]) (by simp) (by first | (left; simp; done) | (right; simp; done)) ?_
    simp [splice]
    refine ACall.mk _ _ _ (d6) (by simp [bor_cs]) (by simp) (by first | (left; simp; done) | (right; simp; done) | (right; simp; exact of_eq_true acl_act)) ?_
    simp
    refine ACall.mk _ _ _ (d7) (by first | (simp; done) | simp [Bor_ls, Bor1_ls]) (by simp) (by first | (left; simp; done) | (right; simp; done)) ?_
    simp
    refine ACall.mk _ _ _ (d8) (by simp [bor_cs]) (by simp) (by first | (left; simp; done) | (right; simp; done)) ?_
    simp
    refine ACall.mk _ _ _ (d9) (by first | (simp; done) | simp [Bor_ls, Bor1_ls]) (by simp) (by first | (left; simp; done) | (right; simp; done)) ?_
    simp
    refine ACall.mk _ _ _ (dA) (by simp) (by simp) (by first | (left; simp; done) | (right; simp; done)) ?_
    simp
    refine ACall.mk _ _ _ (dB) (by simp [bor_cs]) (by simp) (by first | (left; simp; done) | (right; simp; done)) ?_
    simp
    refine RetOk.by (fun _ => none) ?_
    simp [results3]
  · rw [hdF_ne hne, ouF_ne hne] at d6
    refine Ct.by gok eok mixed func3 c3 rfl (by simp [ntmps3]) (by simp) (by simp [ResIds]) fun E hE => ?_
    simp [p3]
    refine ACall.mk _ _ _ (d1) (by first | (simp; done) | simp [Bor_ls, Bor1_ls]) (by simp) (by first | (left; simp; done) | (right; simp; done)) ?_
    simp
    refine ACall.mk _ _ _ (d2) (by first | (simp; done) | simp [Bor_ls, Bor1_ls]) (by simp) (by first | (left; simp; done) | (right; simp; done)) ?_
    simp
    refine ACall.mk _ _ _ (d3) (by first | (simp; done) | simp [Bor_ls, Bor1_ls]) (by simp) (by first | (left; simp; done) | (right; simp; done)) ?_
    simp [splice]
    refine ACall.mk _ _ _ (d4) (by simp [bor_cs]) (by simp) (by first | (left; simp; done) | (right; simp; done)) ?_
    simp [splice]
    refine ACall.mk _ _ _ (d5) (by first | (simp; done) | simp [Bor_ls, Bor1_ls]) (by simp) (by first | (left; simp; done) | (right; simp; done)) ?_
    simp [splice]
    refine ACall.mk _ _ _ (d6) (by simp [bor_cs]) (by simp) (by first | (left; simp; done) | (right; simp; done) | (right; simp; exact of_eq_true acl_act)) ?_
    simp
    refine ACall.mk _ _ _ (d7) (by first | (simp; done) | simp [Bor_ls, Bor1_ls]) (by simp) (by first | (left; simp; done) | (right; simp; done)) ?_
    simp
    refine ACall.mk _ _ _ (d8) (by simp [bor_cs]) (by simp) (by first | (left; simp; done) | (right; simp; done)) ?_
    simp
    refine ACall.mk _ _ _ (d9) (by first | (simp; done) | simp [Bor_ls, Bor1_ls]) (by simp) (by first | (left; simp; done) | (right; simp; done)) ?_
    simp
    refine ACall.mk _ _ _ (dA) (by simp [bor_as]) (by simp) (by first | (left; simp; done) | (right; simp; done)) ?_
    simp
    refine ACall.mk _ _ _ (dB) (by simp [bor_cs]) (by simp) (by first | (left; simp; done) | (right; simp; done)) ?_
    simp
    refine RetOk.by (fun _ => none) ?_
    simp [results3]
end Go.Proofs.Tryz
