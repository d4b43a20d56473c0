/- Own lemmas and contracts of functions, used by the last text of this claim for the given statement. Conditions: those that each theorem states. -/
import Derived.Test.YtigekgfbcfbobaaGreatAi
import Derived.Test.YtigekgfbcfbobaaGreatAf
namespace Go.Proofs.Tryz
open Go.Psl
open Go.Air
set_option maxRecDepth 20000
set_option maxHeartbeats 8000000
theorem fn208 (a b lo hi : Int) : Ct prog 208 [vsp a b, vi lo, vi hi] (vb (spB lo hi a b)) [] := by
  have e : spB lo hi a b = (decide (a ≤ b) && decide (lo ≤ a) && decide (b ≤ hi)) := by
    rw [Bool.eq_iff_iff, spB_iff]; simp; omega
  rw [e]
  by_cases h : a ≤ b
  · by_cases h2 : lo ≤ a
    · refine Ct.by gok eok mixed func208 c208 rfl (by simp [ntmps208]) (by simp) (by simp [ResIds]) fun E hE => ?_
      simp [p208, h, h2]
      refine RetOk.by (fun _ => none) ?_
      simp [results208]
    · refine Ct.by gok eok mixed func208 c208 rfl (by simp [ntmps208]) (by simp) (by simp [ResIds]) fun E hE => ?_
      simp [p208, h, h2]
      refine RetOk.by (fun _ => none) ?_
      simp [results208]
  · refine Ct.by gok eok mixed func208 c208 rfl (by simp [ntmps208]) (by simp) (by simp [ResIds]) fun E hE => ?_
    simp [p208, h]
    refine RetOk.by (fun _ => none) ?_
    simp [results208]
theorem fn136 (a b lo hi : Int) : Ct prog 136 [vsp a b, vi lo, vi hi] (vb (spB lo hi a b)) [] := by
  have e : spB lo hi a b = (decide (a ≤ b) && decide (lo ≤ a) && decide (b ≤ hi)) := by
    rw [Bool.eq_iff_iff, spB_iff]; simp; omega
  rw [e]
  by_cases h : a ≤ b
  · by_cases h2 : lo ≤ a
    · refine Ct.by gok eok mixed func136 c136 rfl (by simp [ntmps136]) (by simp) (by simp [ResIds]) fun E hE => ?_
      simp [p136, h, h2]
      refine RetOk.by (fun _ => none) ?_
      simp [results136]
    · refine Ct.by gok eok mixed func136 c136 rfl (by simp [ntmps136]) (by simp) (by simp [ResIds]) fun E hE => ?_
      simp [p136, h, h2]
      refine RetOk.by (fun _ => none) ?_
      simp [results136]
  · refine Ct.by gok eok mixed func136 c136 rfl (by simp [ntmps136]) (by simp) (by simp [ResIds]) fun E hE => ?_
    simp [p136, h]
    refine RetOk.by (fun _ => none) ?_
    simp [results136]
theorem fn72 (s : Shp) (hl : s.gas.cs.length ≤ 1000000) : Ct prog 72 [shpV s (.d (cellsD s.gas.cs))] (vb (okShp s)) [] := by
  have c1 := fn136 s.xl s.xh (-10000000) 10000000
  have c2 := fn136 s.yl s.yh (-10000000) 10000000
  have c3 := fn136 s.hl s.hh (-500) 9000
  have c4 := fn136 s.fl s.fh 0 1000000000
  have c5 := fn136 s.wl s.wh 0 1000000000
  have c6 := fn136 s.bl s.bh 0 1000000000000
  have c7 := fn137 s.dry 0 1000000000
  have c8 := fn137 s.bal 0 1000000000
  have c9 := fn137 s.drp 0 1000000000000
  have cA := fn138 s.gas hl
  have e : okShp s = ((spB (-10000000) 10000000 s.xl s.xh && spB (-10000000) 10000000 s.yl s.yh) && spB (-500) 9000 s.hl s.hh && (spB 0 1000000000 s.fl s.fh && spB 0 1000000000 s.wl s.wh) && spB 0 1000000000000 s.bl s.bh && (rgB 0 1000000000 [s.dry] && rgB 0 1000000000 [s.bal]) && rgB 0 1000000000000 [s.drp] && okPlt s.gas) := by unfold okShp; rw [rgB_pair]
  rw [e]
  generalize spB (-10000000) 10000000 s.xl s.xh = b1 at *
  generalize spB (-10000000) 10000000 s.yl s.yh = b2 at *
  generalize spB (-500) 9000 s.hl s.hh = b3 at *
  generalize spB 0 1000000000 s.fl s.fh = b4 at *
  generalize spB 0 1000000000 s.wl s.wh = b5 at *
  generalize spB 0 1000000000000 s.bl s.bh = b6 at *
  generalize rgB 0 1000000000 [s.dry] = b7 at *
  generalize rgB 0 1000000000 [s.bal] = b8 at *
  generalize rgB 0 1000000000000 [s.drp] = b9 at *
  generalize okPlt s.gas = bA at *
  cases b1
  · refine Ct.by gok eok mixed func72 c72 rfl (by simp [ntmps72]) (by simp) (by simp [ResIds]) fun E hE => ?_
    simp [p72]
    repeat ((first | (refine ACall.mk _ _ _ (c1) ?_ ?_ ?_ ?_; (focus (simp; done)); (focus (simp; done)); (focus (first | (left; simp; done) | (right; simp; done)))) | (refine ACall.mk _ _ _ (c2) ?_ ?_ ?_ ?_; (focus (simp; done)); (focus (simp; done)); (focus (first | (left; simp; done) | (right; simp; done)))) | (refine ACall.mk _ _ _ (c3) ?_ ?_ ?_ ?_; (focus (simp; done)); (focus (simp; done)); (focus (first | (left; simp; done) | (right; simp; done)))) | (refine ACall.mk _ _ _ (c4) ?_ ?_ ?_ ?_; (focus (simp; done)); (focus (simp; done)); (focus (first | (left; simp; done) | (right; simp; done)))) | (refine ACall.mk _ _ _ (c5) ?_ ?_ ?_ ?_; (focus (simp; done)); (focus (simp; done)); (focus (first | (left; simp; done) | (right; simp; done)))) | (refine ACall.mk _ _ _ (c6) ?_ ?_ ?_ ?_; (focus (simp; done)); (focus (simp; done)); (focus (first | (left; simp; done) | (right; simp; done)))) | (refine ACall.mk _ _ _ (c7) ?_ ?_ ?_ ?_; (focus (simp; done)); (focus (simp; done)); (focus (first | (left; simp; done) | (right; simp; done)))) | (refine ACall.mk _ _ _ (c8) ?_ ?_ ?_ ?_; (focus (simp; done)); (focus (simp; done)); (focus (first | (left; simp; done) | (right; simp; done)))) | (refine ACall.mk _ _ _ (c9) ?_ ?_ ?_ ?_; (focus (simp; done)); (focus (simp; done)); (focus (first | (left; simp; done) | (right; simp; done)))) | (refine ACall.mk _ _ _ (cA) ?_ ?_ ?_ ?_; (focus (simp; done)); (focus (simp; done)); (focus (first | (left; simp; done) | (right; simp; done))))); simp)
    refine RetOk.by (fun _ => none) ?_
    simp [results72]
  cases b2
  · refine Ct.by gok eok mixed func72 c72 rfl (by simp [ntmps72]) (by simp) (by simp [ResIds]) fun E hE => ?_
    simp [p72]
    repeat ((first | (refine ACall.mk _ _ _ (c1) ?_ ?_ ?_ ?_; (focus (simp; done)); (focus (simp; done)); (focus (first | (left; simp; done) | (right; simp; done)))) | (refine ACall.mk _ _ _ (c2) ?_ ?_ ?_ ?_; (focus (simp; done)); (focus (simp; done)); (focus (first | (left; simp; done) | (right; simp; done)))) | (refine ACall.mk _ _ _ (c3) ?_ ?_ ?_ ?_; (focus (simp; done)); (focus (simp; done)); (focus (first | (left; simp; done) | (right; simp; done)))) | (refine ACall.mk _ _ _ (c4) ?_ ?_ ?_ ?_; (focus (simp; done)); (focus (simp; done)); (focus (first | (left; simp; done) | (right; simp; done)))) | (refine ACall.mk _ _ _ (c5) ?_ ?_ ?_ ?_; (focus (simp; done)); (focus (simp; done)); (focus (first | (left; simp; done) | (right; simp; done)))) | (refine ACall.mk _ _ _ (c6) ?_ ?_ ?_ ?_; (focus (simp; done)); (focus (simp; done)); (focus (first | (left; simp; done) | (right; simp; done)))) | (refine ACall.mk _ _ _ (c7) ?_ ?_ ?_ ?_; (focus (simp; done)); (focus (simp; done)); (focus (first | (left; simp; done) | (right; simp; done)))) | (refine ACall.mk _ _ _ (c8) ?_ ?_ ?_ ?_; (focus (simp; done)); (focus (simp; done)); (focus (first | (left; simp; done) | (right; simp; done)))) | (refine ACall.mk _ _ _ (c9) ?_ ?_ ?_ ?_; (focus (simp; done)); (focus (simp; done)); (focus (first | (left; simp; done) | (right; simp; done)))) | (refine ACall.mk _ _ _ (cA) ?_ ?_ ?_ ?_; (focus (simp; done)); (focus (simp; done)); (focus (first | (left; simp; done) | (right; simp; done))))); simp)
    refine RetOk.by (fun _ => none) ?_
    simp [results72]
  cases b3
  · refine Ct.by gok eok mixed func72 c72 rfl (by simp [ntmps72]) (by simp) (by simp [ResIds]) fun E hE => ?_
    simp [p72]
    repeat ((first | (refine ACall.mk _ _ _ (c1) ?_ ?_ ?_ ?_; (focus (simp; done)); (focus (simp; done)); (focus (first | (left; simp; done) | (right; simp; done)))) | (refine ACall.mk _ _ _ (c2) ?_ ?_ ?_ ?_; (focus (simp; done)); (focus (simp; done)); (focus (first | (left; simp; done) | (right; simp; done)))) | (refine ACall.mk _ _ _ (c3) ?_ ?_ ?_ ?_; (focus (simp; done)); (focus (simp; done)); (focus (first | (left; simp; done) | (right; simp; done)))) | (refine ACall.mk _ _ _ (c4) ?_ ?_ ?_ ?_; (focus (simp; done)); (focus (simp; done)); (focus (first | (left; simp; done) | (right; simp; done)))) | (refine ACall.mk _ _ _ (c5) ?_ ?_ ?_ ?_; (focus (simp; done)); (focus (simp; done)); (focus (first | (left; simp; done) | (right; simp; done)))) | (refine ACall.mk _ _ _ (c6) ?_ ?_ ?_ ?_; (focus (simp; done)); (focus (simp; done)); (focus (first | (left; simp; done) | (right; simp; done)))) | (refine ACall.mk _ _ _ (c7) ?_ ?_ ?_ ?_; (focus (simp; done)); (focus (simp; done)); (focus (first | (left; simp; done) | (right; simp; done)))) | (refine ACall.mk _ _ _ (c8) ?_ ?_ ?_ ?_; (focus (simp; done)); (focus (simp; done)); (focus (first | (left; simp; done) | (right; simp; done)))) | (refine ACall.mk _ _ _ (c9) ?_ ?_ ?_ ?_; (focus (simp; done)); (focus (simp; done)); (focus (first | (left; simp; done) | (right; simp; done)))) | (refine ACall.mk _ _ _ (cA) ?_ ?_ ?_ ?_; (focus (simp; done)); (focus (simp; done)); (focus (first | (left; simp; done) | (right; simp; done))))); simp)
    refine RetOk.by (fun _ => none) ?_
    simp [results72]
  cases b4
  · refine Ct.by gok eok mixed func72 c72 rfl (by simp [ntmps72]) (by simp) (by simp [ResIds]) fun E hE => ?_
    simp [p72]
    repeat ((first | (refine ACall.mk _ _ _ (c1) ?_ ?_ ?_ ?_; (focus (simp; done)); (focus (simp; done)); (focus (first | (left; simp; done) | (right; simp; done)))) | (refine ACall.mk _ _ _ (c2) ?_ ?_ ?_ ?_; (focus (simp; done)); (focus (simp; done)); (focus (first | (left; simp; done) | (right; simp; done)))) | (refine ACall.mk _ _ _ (c3) ?_ ?_ ?_ ?_; (focus (simp; done)); (focus (simp; done)); (focus (first | (left; simp; done) | (right; simp; done)))) | (refine ACall.mk _ _ _ (c4) ?_ ?_ ?_ ?_; (focus (simp; done)); (focus (simp; done)); (focus (first | (left; simp; done) | (right; simp; done)))) | (refine ACall.mk _ _ _ (c5) ?_ ?_ ?_ ?_; (focus (simp; done)); (focus (simp; done)); (focus (first | (left; simp; done) | (right; simp; done)))) | (refine ACall.mk _ _ _ (c6) ?_ ?_ ?_ ?_; (focus (simp; done)); (focus (simp; done)); (focus (first | (left; simp; done) | (right; simp; done)))) | (refine ACall.mk _ _ _ (c7) ?_ ?_ ?_ ?_; (focus (simp; done)); (focus (simp; done)); (focus (first | (left; simp; done) | (right; simp; done)))) | (refine ACall.mk _ _ _ (c8) ?_ ?_ ?_ ?_; (focus (simp; done)); (focus (simp; done)); (focus (first | (left; simp; done) | (right; simp; done)))) | (refine ACall.mk _ _ _ (c9) ?_ ?_ ?_ ?_; (focus (simp; done)); (focus (simp; done)); (focus (first | (left; simp; done) | (right; simp; done)))) | (refine ACall.mk _ _ _ (cA) ?_ ?_ ?_ ?_; (focus (simp; done)); (focus (simp; done)); (focus (first | (left; simp; done) | (right; simp; done))))); simp)
    refine RetOk.by (fun _ => none) ?_
    simp [results72]
  cases b5
  · refine Ct.by gok eok mixed func72 c72 rfl (by simp [ntmps72]) (by simp) (by simp [ResIds]) fun E hE => ?_
    simp [p72]
    repeat ((first | (refine ACall.mk _ _ _ (c1) ?_ ?_ ?_ ?_; (focus (simp; done)); (focus (simp; done)); (focus (first | (left; simp; done) | (right; simp; done)))) | (refine ACall.mk _ _ _ (c2) ?_ ?_ ?_ ?_; (focus (simp; done)); (focus (simp; done)); (focus (first | (left; simp; done) | (right; simp; done)))) | (refine ACall.mk _ _ _ (c3) ?_ ?_ ?_ ?_; (focus (simp; done)); (focus (simp; done)); (focus (first | (left; simp; done) | (right; simp; done)))) | (refine ACall.mk _ _ _ (c4) ?_ ?_ ?_ ?_; (focus (simp; done)); (focus (simp; done)); (focus (first | (left; simp; done) | (right; simp; done)))) | (refine ACall.mk _ _ _ (c5) ?_ ?_ ?_ ?_; (focus (simp; done)); (focus (simp; done)); (focus (first | (left; simp; done) | (right; simp; done)))) | (refine ACall.mk _ _ _ (c6) ?_ ?_ ?_ ?_; (focus (simp; done)); (focus (simp; done)); (focus (first | (left; simp; done) | (right; simp; done)))) | (refine ACall.mk _ _ _ (c7) ?_ ?_ ?_ ?_; (focus (simp; done)); (focus (simp; done)); (focus (first | (left; simp; done) | (right; simp; done)))) | (refine ACall.mk _ _ _ (c8) ?_ ?_ ?_ ?_; (focus (simp; done)); (focus (simp; done)); (focus (first | (left; simp; done) | (right; simp; done)))) | (refine ACall.mk _ _ _ (c9) ?_ ?_ ?_ ?_; (focus (simp; done)); (focus (simp; done)); (focus (first | (left; simp; done) | (right; simp; done)))) | (refine ACall.mk _ _ _ (cA) ?_ ?_ ?_ ?_; (focus (simp; done)); (focus (simp; done)); (focus (first | (left; simp; done) | (right; simp; done))))); simp)
    refine RetOk.by (fun _ => none) ?_
    simp [results72]
  cases b6
  · refine Ct.by gok eok mixed func72 c72 rfl (by simp [ntmps72]) (by simp) (by simp [ResIds]) fun E hE => ?_
    simp [p72]
    repeat ((first | (refine ACall.mk _ _ _ (c1) ?_ ?_ ?_ ?_; (focus (simp; done)); (focus (simp; done)); (focus (first | (left; simp; done) | (right; simp; done)))) | (refine ACall.mk _ _ _ (c2) ?_ ?_ ?_ ?_; (focus (simp; done)); (focus (simp; done)); (focus (first | (left; simp; done) | (right; simp; done)))) | (refine ACall.mk _ _ _ (c3) ?_ ?_ ?_ ?_; (focus (simp; done)); (focus (simp; done)); (focus (first | (left; simp; done) | (right; simp; done)))) | (refine ACall.mk _ _ _ (c4) ?_ ?_ ?_ ?_; (focus (simp; done)); (focus (simp; done)); (focus (first | (left; simp; done) | (right; simp; done)))) | (refine ACall.mk _ _ _ (c5) ?_ ?_ ?_ ?_; (focus (simp; done)); (focus (simp; done)); (focus (first | (left; simp; done) | (right; simp; done)))) | (refine ACall.mk _ _ _ (c6) ?_ ?_ ?_ ?_; (focus (simp; done)); (focus (simp; done)); (focus (first | (left; simp; done) | (right; simp; done)))) | (refine ACall.mk _ _ _ (c7) ?_ ?_ ?_ ?_; (focus (simp; done)); (focus (simp; done)); (focus (first | (left; simp; done) | (right; simp; done)))) | (refine ACall.mk _ _ _ (c8) ?_ ?_ ?_ ?_; (focus (simp; done)); (focus (simp; done)); (focus (first | (left; simp; done) | (right; simp; done)))) | (refine ACall.mk _ _ _ (c9) ?_ ?_ ?_ ?_; (focus (simp; done)); (focus (simp; done)); (focus (first | (left; simp; done) | (right; simp; done)))) | (refine ACall.mk _ _ _ (cA) ?_ ?_ ?_ ?_; (focus (simp; done)); (focus (simp; done)); (focus (first | (left; simp; done) | (right; simp; done))))); simp)
    refine RetOk.by (fun _ => none) ?_
    simp [results72]
  cases b7
  · refine Ct.by gok eok mixed func72 c72 rfl (by simp [ntmps72]) (by simp) (by simp [ResIds]) fun E hE => ?_
    simp [p72]
    repeat ((first | (refine ACall.mk _ _ _ (c1) ?_ ?_ ?_ ?_; (focus (simp; done)); (focus (simp; done)); (focus (first | (left; simp; done) | (right; simp; done)))) | (refine ACall.mk _ _ _ (c2) ?_ ?_ ?_ ?_; (focus (simp; done)); (focus (simp; done)); (focus (first | (left; simp; done) | (right; simp; done)))) | (refine ACall.mk _ _ _ (c3) ?_ ?_ ?_ ?_; (focus (simp; done)); (focus (simp; done)); (focus (first | (left; simp; done) | (right; simp; done)))) | (refine ACall.mk _ _ _ (c4) ?_ ?_ ?_ ?_; (focus (simp; done)); (focus (simp; done)); (focus (first | (left; simp; done) | (right; simp; done)))) | (refine ACall.mk _ _ _ (c5) ?_ ?_ ?_ ?_; (focus (simp; done)); (focus (simp; done)); (focus (first | (left; simp; done) | (right; simp; done)))) | (refine ACall.mk _ _ _ (c6) ?_ ?_ ?_ ?_; (focus (simp; done)); (focus (simp; done)); (focus (first | (left; simp; done) | (right; simp; done)))) | (refine ACall.mk _ _ _ (c7) ?_ ?_ ?_ ?_; (focus (simp; done)); (focus (simp; done)); (focus (first | (left; simp; done) | (right; simp; done)))) | (refine ACall.mk _ _ _ (c8) ?_ ?_ ?_ ?_; (focus (simp; done)); (focus (simp; done)); (focus (first | (left; simp; done) | (right; simp; done)))) | (refine ACall.mk _ _ _ (c9) ?_ ?_ ?_ ?_; (focus (simp; done)); (focus (simp; done)); (focus (first | (left; simp; done) | (right; simp; done)))) | (refine ACall.mk _ _ _ (cA) ?_ ?_ ?_ ?_; (focus (simp; done)); (focus (simp; done)); (focus (first | (left; simp; done) | (right; simp; done))))); simp)
    refine RetOk.by (fun _ => none) ?_
    simp [results72]
  cases b8
  · refine Ct.by gok eok mixed func72 c72 rfl (by simp [ntmps72]) (by simp) (by simp [ResIds]) fun E hE => ?_
    simp [p72]
    repeat ((first | (refine ACall.mk _ _ _ (c1) ?_ ?_ ?_ ?_; (focus (simp; done)); (focus (simp; done)); (focus (first | (left; simp; done) | (right; simp; done)))) | (refine ACall.mk _ _ _ (c2) ?_ ?_ ?_ ?_; (focus (simp; done)); (focus (simp; done)); (focus (first | (left; simp; done) | (right; simp; done)))) | (refine ACall.mk _ _ _ (c3) ?_ ?_ ?_ ?_; (focus (simp; done)); (focus (simp; done)); (focus (first | (left; simp; done) | (right; simp; done)))) | (refine ACall.mk _ _ _ (c4) ?_ ?_ ?_ ?_; (focus (simp; done)); (focus (simp; done)); (focus (first | (left; simp; done) | (right; simp; done)))) | (refine ACall.mk _ _ _ (c5) ?_ ?_ ?_ ?_; (focus (simp; done)); (focus (simp; done)); (focus (first | (left; simp; done) | (right; simp; done)))) | (refine ACall.mk _ _ _ (c6) ?_ ?_ ?_ ?_; (focus (simp; done)); (focus (simp; done)); (focus (first | (left; simp; done) | (right; simp; done)))) | (refine ACall.mk _ _ _ (c7) ?_ ?_ ?_ ?_; (focus (simp; done)); (focus (simp; done)); (focus (first | (left; simp; done) | (right; simp; done)))) | (refine ACall.mk _ _ _ (c8) ?_ ?_ ?_ ?_; (focus (simp; done)); (focus (simp; done)); (focus (first | (left; simp; done) | (right; simp; done)))) | (refine ACall.mk _ _ _ (c9) ?_ ?_ ?_ ?_; (focus (simp; done)); (focus (simp; done)); (focus (first | (left; simp; done) | (right; simp; done)))) | (refine ACall.mk _ _ _ (cA) ?_ ?_ ?_ ?_; (focus (simp; done)); (focus (simp; done)); (focus (first | (left; simp; done) | (right; simp; done))))); simp)
    refine RetOk.by (fun _ => none) ?_
    simp [results72]
  cases b9
  · refine Ct.by gok eok mixed func72 c72 rfl (by simp [ntmps72]) (by simp) (by simp [ResIds]) fun E hE => ?_
    simp [p72]
    repeat ((first | (refine ACall.mk _ _ _ (c1) ?_ ?_ ?_ ?_; (focus (simp; done)); (focus (simp; done)); (focus (first | (left; simp; done) | (right; simp; done)))) | (refine ACall.mk _ _ _ (c2) ?_ ?_ ?_ ?_; (focus (simp; done)); (focus (simp; done)); (focus (first | (left; simp; done) | (right; simp; done)))) | (refine ACall.mk _ _ _ (c3) ?_ ?_ ?_ ?_; (focus (simp; done)); (focus (simp; done)); (focus (first | (left; simp; done) | (right; simp; done)))) | (refine ACall.mk _ _ _ (c4) ?_ ?_ ?_ ?_; (focus (simp; done)); (focus (simp; done)); (focus (first | (left; simp; done) | (right; simp; done)))) | (refine ACall.mk _ _ _ (c5) ?_ ?_ ?_ ?_; (focus (simp; done)); (focus (simp; done)); (focus (first | (left; simp; done) | (right; simp; done)))) | (refine ACall.mk _ _ _ (c6) ?_ ?_ ?_ ?_; (focus (simp; done)); (focus (simp; done)); (focus (first | (left; simp; done) | (right; simp; done)))) | (refine ACall.mk _ _ _ (c7) ?_ ?_ ?_ ?_; (focus (simp; done)); (focus (simp; done)); (focus (first | (left; simp; done) | (right; simp; done)))) | (refine ACall.mk _ _ _ (c8) ?_ ?_ ?_ ?_; (focus (simp; done)); (focus (simp; done)); (focus (first | (left; simp; done) | (right; simp; done)))) | (refine ACall.mk _ _ _ (c9) ?_ ?_ ?_ ?_; (focus (simp; done)); (focus (simp; done)); (focus (first | (left; simp; done) | (right; simp; done)))) | (refine ACall.mk _ _ _ (cA) ?_ ?_ ?_ ?_; (focus (simp; done)); (focus (simp; done)); (focus (first | (left; simp; done) | (right; simp; done))))); simp)
    refine RetOk.by (fun _ => none) ?_
    simp [results72]
  · refine Ct.by gok eok mixed func72 c72 rfl (by simp [ntmps72]) (by simp) (by simp [ResIds]) fun E hE => ?_
    simp [p72]
    repeat ((first | (refine ACall.mk _ _ _ (c1) ?_ ?_ ?_ ?_; (focus (simp; done)); (focus (simp; done)); (focus (first | (left; simp; done) | (right; simp; done)))) | (refine ACall.mk _ _ _ (c2) ?_ ?_ ?_ ?_; (focus (simp; done)); (focus (simp; done)); (focus (first | (left; simp; done) | (right; simp; done)))) | (refine ACall.mk _ _ _ (c3) ?_ ?_ ?_ ?_; (focus (simp; done)); (focus (simp; done)); (focus (first | (left; simp; done) | (right; simp; done)))) | (refine ACall.mk _ _ _ (c4) ?_ ?_ ?_ ?_; (focus (simp; done)); (focus (simp; done)); (focus (first | (left; simp; done) | (right; simp; done)))) | (refine ACall.mk _ _ _ (c5) ?_ ?_ ?_ ?_; (focus (simp; done)); (focus (simp; done)); (focus (first | (left; simp; done) | (right; simp; done)))) | (refine ACall.mk _ _ _ (c6) ?_ ?_ ?_ ?_; (focus (simp; done)); (focus (simp; done)); (focus (first | (left; simp; done) | (right; simp; done)))) | (refine ACall.mk _ _ _ (c7) ?_ ?_ ?_ ?_; (focus (simp; done)); (focus (simp; done)); (focus (first | (left; simp; done) | (right; simp; done)))) | (refine ACall.mk _ _ _ (c8) ?_ ?_ ?_ ?_; (focus (simp; done)); (focus (simp; done)); (focus (first | (left; simp; done) | (right; simp; done)))) | (refine ACall.mk _ _ _ (c9) ?_ ?_ ?_ ?_; (focus (simp; done)); (focus (simp; done)); (focus (first | (left; simp; done) | (right; simp; done)))) | (refine ACall.mk _ _ _ (cA) ?_ ?_ ?_ ?_; (focus (simp; done)); (focus (simp; done)); (focus (first | (left; simp; done) | (right; simp; done))))); simp)
    refine RetOk.by (fun _ => none) ?_
    simp [results72]
theorem fn264 (a b : Int) (ha : 0 ≤ a ∧ a ≤ 3000000000000000000) (hb : 0 < b) : Ct prog 264 [vi a, vi b] (vi (a / b)) [] := by
  have h0 : ¬ a < 0 := by omega
  have hz : ¬ b = 0 := by omega
  have t := tdiv_nn (b := b) ha.1
  have d := div_bd ha hb
  have w : IntKind.wrap .i64 (a / b) = a / b := wrap64 (by omega) (by omega)
  refine Ct.by gok eok mixed func264 c264 rfl (by simp [ntmps264]) (by simp) (by simp [ResIds]) fun E hE => ?_
  simp [p264, h0, hz, t, w]
  refine RetOk.by (fun _ => none) ?_
  simp [results264]
theorem fn264n (a b : Int) (ha : 0 ≤ a ∧ a ≤ 3000000000000000000) (hb : 0 < b ∧ b ≤ 1000000000000000000) : Ct prog 264 [vi (-a), vi b] (vi (-cdv a b)) [] := by
  have hz : ¬ b = 0 := by omega
  by_cases h0 : 0 < a
  · have w0 : IntKind.wrap .i64 a = a := wrap64 (by omega) (by omega)
    have w1 : IntKind.wrap .i64 (a + b) = a + b := wrap64 (by omega) (by omega)
    have w2 : IntKind.wrap .i64 (a + b - 1) = a + b - 1 := wrap64 (by omega) (by omega)
    have t := tdiv_nn (a := a + b - 1) (b := b) (by omega)
    have d := div_bd (a := a + b - 1) (b := b) (M := 4000000000000000000) (by omega) hb.1
    have w3 : IntKind.wrap .i64 ((a + b - 1) / b) = (a + b - 1) / b := wrap64 (by omega) (by omega)
    have w4 : IntKind.wrap .i64 (-((a + b - 1) / b)) = -((a + b - 1) / b) := wrap64 (by omega) (by omega)
    refine Ct.by gok eok mixed func264 c264 rfl (by simp [ntmps264]) (by simp) (by simp [ResIds]) fun E hE => ?_
    simp [p264, h0, hz, w0, w1, w2, w3, w4, t]
    refine RetOk.by (fun _ => none) ?_
    simp [results264, cdv]
  · have e : a = 0 := by omega
    subst e
    have ed : (b - 1) / b = 0 := Int.ediv_eq_zero_of_lt (by omega) (by omega)
    refine Ct.by gok eok mixed func264 c264 rfl (by simp [ntmps264]) (by simp) (by simp [ResIds]) fun E hE => ?_
    simp [p264, hz]
    refine RetOk.by (fun _ => none) ?_
    simp [results264, cdv, ed]
    decide
theorem fn265 (a b : Int) (ha : 0 ≤ a ∧ a ≤ 3000000000000000000) (hb : 0 < b ∧ b ≤ 1000000000000000000) : Ct prog 265 [vi a, vi b] (vi (cdv a b)) [] := by
  have c := fn264n a b ha hb
  have w0 : IntKind.wrap .i64 (-a) = -a := wrap64 (by omega) (by omega)
  have d := div_bd (a := a + b - 1) (b := b) (M := 4000000000000000000) (by omega) hb.1
  have w1 : IntKind.wrap .i64 (cdv a b) = cdv a b := wrap64 (by unfold cdv; omega) (by unfold cdv; omega)
  refine Ct.by gok eok mixed func265 c265 rfl (by simp [ntmps265]) (by simp) (by simp [ResIds]) fun E hE => ?_
  simp [p265, w0]
  refine ACall.mk _ _ _ (c) (by first | (simp; done) | simp [Bor_ls, Bor1_ls]) (by simp) (by first | (left; simp; done) | (right; simp; done)) ?_
  simp [w1]
  refine RetOk.by (fun _ => none) ?_
  simp [results265]
theorem fn261 (a b c d : Int) : Ct prog 261 [vsp a b, vsp c d] (vsp (max a c) (min b d)) [] := by
  refine Ct.by gok eok mixed func261 c261 rfl (by simp [ntmps261]) (by simp) (by simp [ResIds]) fun E hE => ?_
  simp [p261, splice]
  refine RetOk.by (fun _ => none) ?_
  simp [results261]
theorem fn213 (x y c tl th : Int) (hx : 0 ≤ x ∧ x ≤ 400000000) (hy : 0 ≤ y ∧ y ≤ 400000000) (hc : 0 < c ∧ c ≤ 2000) (ht : 1500 ≤ tl ∧ tl ≤ th ∧ th ≤ 3500) : Ct prog 213 [vsp x y, vi c, vsp tl th] (vsp (upLo (1000000 * tl) (341632 * c) x) (upHi (1000000 * th) (341632 * c) y)) [] := by
  obtain ⟨A, hA⟩ : ∃ A, 1000000 * tl = A := ⟨_, rfl⟩
  obtain ⟨B, hB⟩ : ∃ B, 1000000 * th = B := ⟨_, rfl⟩
  obtain ⟨S, hS⟩ : ∃ S, 341632 * c = S := ⟨_, rfl⟩
  have w1 : IntKind.wrap .i64 S = S := wrap64 (by omega) (by omega)
  have w2 : IntKind.wrap .i64 A = A := wrap64 (by omega) (by omega)
  have w3 : IntKind.wrap .i64 B = B := wrap64 (by omega) (by omega)
  have w4 : IntKind.wrap .i64 (A - S) = A - S := wrap64 (by omega) (by omega)
  have w10 : IntKind.wrap .i64 (B + S) = B + S := wrap64 (by omega) (by omega)
  have m1 := mul_le3 (x := x) (y := A - S) (X := 400000000) (Y := 5000000000) hx (by omega)
  have m2 := mul_le3 (x := y) (y := B) (X := 400000000) (Y := 3500000000) hy (by omega)
  have w5 : IntKind.wrap .i64 (x * (A - S)) = x * (A - S) := wrap64 (by omega) (by omega)
  have w6 : IntKind.wrap .i64 (y * B) = y * B := wrap64 (by omega) (by omega)
  have c1 := fn264 (x * (A - S)) A (by omega) (by omega)
  have c2 := fn265 (y * B) (B + S) (by omega) (by omega)
  rw [hA, hB, hS]
  refine Ct.by gok eok mixed func213 c213 rfl (by simp [ntmps213]) (by simp) (by simp [ResIds]) fun E hE => ?_
  simp [p213, inC, Nat.testBit, hA, hB, hS, w1, w2, w3, w4, w5]
  refine ACall.mk _ _ _ (c1) (by first | (simp; done) | simp [Bor_ls, Bor1_ls]) (by simp) (by first | (left; simp; done) | (right; simp; done)) ?_
  simp [inC, Nat.testBit, hS, w1, w6, w10]
  refine ACall.mk _ _ _ (c2) (by first | (simp; done) | simp [Bor_ls, Bor1_ls]) (by simp) (by first | (left; simp; done) | (right; simp; done)) ?_
  simp [splice]
  refine RetOk.by (fun _ => none) ?_
  simp [results213, upLo, upHi]
theorem fn262 (x y c tl th : Int) (hx : 0 ≤ x ∧ x ≤ 400000000) (hy : 0 ≤ y ∧ y ≤ 400000000) (hc : 0 < c ∧ c ≤ 2000) (ht : 1500 ≤ tl ∧ tl ≤ th ∧ th ≤ 3500) : Ct prog 262 [vsp x y, vi c, vsp tl th] (vsp (dnLo (1000000 * th) (341632 * c) x) (dnHi (1000000 * tl) (341632 * c) y)) [] := by
  obtain ⟨A, hA⟩ : ∃ A, 1000000 * tl = A := ⟨_, rfl⟩
  obtain ⟨B, hB⟩ : ∃ B, 1000000 * th = B := ⟨_, rfl⟩
  obtain ⟨S, hS⟩ : ∃ S, 341632 * c = S := ⟨_, rfl⟩
  have w1 : IntKind.wrap .i64 S = S := wrap64 (by omega) (by omega)
  have w2 : IntKind.wrap .i64 A = A := wrap64 (by omega) (by omega)
  have w3 : IntKind.wrap .i64 B = B := wrap64 (by omega) (by omega)
  have w4 : IntKind.wrap .i64 (A - S) = A - S := wrap64 (by omega) (by omega)
  have w10 : IntKind.wrap .i64 (B + S) = B + S := wrap64 (by omega) (by omega)
  have m1 := mul_le3 (x := x) (y := B + S) (X := 400000000) (Y := 5000000000) hx (by omega)
  have m2 := mul_le3 (x := y) (y := A) (X := 400000000) (Y := 3500000000) hy (by omega)
  have w5 : IntKind.wrap .i64 (x * (B + S)) = x * (B + S) := wrap64 (by omega) (by omega)
  have w6 : IntKind.wrap .i64 (y * A) = y * A := wrap64 (by omega) (by omega)
  have c1 := fn264 (x * (B + S)) B (by omega) (by omega)
  have c2 := fn265 (y * A) (A - S) (by omega) (by omega)
  rw [hA, hB, hS]
  refine Ct.by gok eok mixed func262 c262 rfl (by simp [ntmps262]) (by simp) (by simp [ResIds]) fun E hE => ?_
  simp [p262, inC, Nat.testBit, hA, hB, hS, w1, w2, w3, w5, w10]
  refine ACall.mk _ _ _ (c1) (by first | (simp; done) | simp [Bor_ls, Bor1_ls]) (by simp) (by first | (left; simp; done) | (right; simp; done)) ?_
  simp [inC, Nat.testBit, hS, w1, w4, w6]
  refine ACall.mk _ _ _ (c2) (by first | (simp; done) | simp [Bor_ls, Bor1_ls]) (by simp) (by first | (left; simp; done) | (right; simp; done)) ?_
  simp [splice]
  refine RetOk.by (fun _ => none) ?_
  simp [results262, dnLo, dnHi]
end Go.Proofs.Tryz
namespace Go.Proofs.Tryz
open Go.Psl
open Go.Air
set_option maxRecDepth 20000
set_option maxHeartbeats 8000000
theorem fn142 (l : List Lev) (lo hi : Int) (hl : l.length ≤ 1000000) (h0 : l ≠ []) (hlh : lo ≤ hi) : Ct prog 142 [.d (levsD l), vi lo, vi hi] (vsp (tmS (knT l) lo hi).1 (tmS (knT l) lo hi).2) [] := by
  have ev : tmS (knT l) lo hi = (valS (knT l) (lo, hi)).1 := by unfold tmS; rw [show min lo hi = lo by omega, show max lo hi = hi by omega]
  have c := fn214 (knT l) (lo, hi) (by rw [knT_len]; omega)
  have ekl : (knT l).length = l.length := knT_len
  have bk : ∀ H : Hp, H 1 = some (fcel knL (knT l)) → Bor H (.ls 1 0 l.length 3) (.d (knotsD (knT l))) := fun H hh => by
    have := bor_fcel (f := knL) hfk (l := knT l) hh
    rw [ekl] at this; exact this
  rw [ev]
  refine Ct.by gok eok mixed func142 c142 rfl (by simp [ntmps142]) (by simp) (by simp [ResIds]) fun E hE => ?_
  simp [p142]
  refine pw_loop (α := Nat) (fun i => ⟨slots [(0, .d (levsD l)), (1, vi lo), (2, vi hi), (6, .lp 0 0), (7, hdF 3 (accT l i) 1), (8, vi i)], lk ([(0, [vi 0, vi 0])] ++ ouF knL (accT l i) 1), 2⟩) (fun i => i ≤ l.length) (fun i => l.length - i) 0 ?_ ?_ ?_
  · omega
  · rw [show accT l 0 = [] from rfl, hdF_nil, ouF_nil]
    refine Weak.mk hE (lk [(0, 0)]) _ _ _ ?_ ?_ ?_ ?_ ?_ <;> simp
  · intro i hi
    by_cases h : i < l.length
    · obtain ⟨x, hx⟩ : ∃ x, l[i]? = some x := ⟨_, List.getElem?_eq_getElem h⟩
      have hz : IntKind.wrap .i64 ((i : Int) + 1) = ((i + 1 : Nat) : Int) := by rw [wrap64 (by omega) (by omega)]; omega
      have hI : (i : Int) < l.length := by omega
      have hnx := accT_next hx
      have hO : (accT l i).length ≤ 1000000 := by unfold accT; simp; omega
      obtain ⟨O, hOe⟩ : ∃ O, accT l i = O := ⟨_, rfl⟩
      rw [hOe] at hnx hO ⊢
      by_cases hne : O = []
      · subst hne
        rw [hdF_nil, ouF_nil]
        simp [p142l0, hI, hx, splice, repl, hz]
        refine ⟨i + 1, by omega, by omega, ?_⟩
        rw [hnx, hdF_ne (by simp), ouF_ne (by simp)]
        refine Weak.mk hE (lk [(0, 0), (1, 17825794)]) _ _ _ ?_ ?_ ?_ ?_ ?_ <;> simp [fcel, knOf]
      · have hsl := fcel_len hfk O
        have hwh := fcel_whole hfk O
        have n1 : (O.length + 1) * 24 ≤ 140737488355328 := by omega
        have n2 : O.length + 1 ≤ 9223372036854775807 := by omega
        rw [hdF_ne hne, ouF_ne hne]
        simp [p142l0, hI, hx, splice, repl, hz, hsl, hwh, n1, n2]
        refine ⟨i + 1, by omega, by omega, ?_⟩
        rw [hnx, hdF_ne (by simp), ouF_ne (by simp), fcel_one]
        refine Weak.mk hE (lk [(0, 0), (1, 17825794)]) _ _ _ ?_ ?_ ?_ ?_ ?_ <;> simp [knOf]
    · have e : i = l.length := by omega
      have hn : ¬ (i : Int) < l.length := by omega
      have ek : accT l i = knT l := by unfold accT knT; rw [e, List.take_length]
      have ene : knT l ≠ [] := by unfold knT; simpa using h0
      rw [ek, hdF_ne ene, ouF_ne ene, ekl]
      simp [p142l0, hn, splice]
      refine ACall.mk _ _ _ (c) (by simp [bk]) (by simp) (by first | (left; simp; done) | (right; simp; done)) ?_
      simp [splice]
      refine RetOk.by (fun _ => none) ?_
      simp [results142]
def goodL (l : List Lev) (i : Nat) : Bool := match l[i]? with
  | some x => stepB l i && spB 1000 12000 x.pl x.ph && spB 1500 3500 x.tl x.th
  | none => true
theorem snd_no {l : List Lev} {i : Nat} (hi : i < l.length) (h : goodL l i = false) : okSnd l = false := by
  obtain ⟨x, hx⟩ : ∃ x, l[i]? = some x := ⟨_, List.getElem?_eq_getElem hi⟩
  unfold goodL at h
  rw [hx] at h
  simp only at h
  cases h1 : stepB l i
  · unfold okSnd; rw [climb_no hi h1]; rfl
  · rw [h1] at h
    have : l.all okLev = false := by
      rw [List.all_eq_false]
      exact ⟨x, List.mem_of_getElem? hx, by unfold okLev; rw [Bool.true_and] at h; rw [h]; simp⟩
    unfold okSnd; rw [this]; simp
theorem snd_all {l : List Lev} (hn : rgB 2 16 [(l.length : Int)] = true) (h : ∀ j, j < l.length → goodL l j = true) : okSnd l = true := by
  unfold okSnd
  rw [climb_all fun j hj => ?_, hn, Bool.true_and, List.all_eq_true]
  · intro x hx
    obtain ⟨j, hj⟩ := List.getElem?_of_mem hx
    have := h j (List.getElem?_eq_some_iff.1 hj).1
    unfold goodL at this
    rw [hj] at this
    simp only [Bool.and_eq_true] at this
    unfold okLev
    rw [this.1.2, this.2]; rfl
  · have := h j hj
    obtain ⟨x, hx⟩ : ∃ x, l[j]? = some x := ⟨_, List.getElem?_eq_getElem hj⟩
    unfold goodL at this
    rw [hx] at this
    simp only [Bool.and_eq_true] at this
    exact this.1.1
theorem fn139 (l : List Lev) (hl : l.length ≤ 1000000) : Ct prog 139 [.d (levsD l)] (vb (okSnd l)) [] := by
  have c1 := fn207 (l.length : Int) 2 16
  cases hn : rgB 2 16 [(l.length : Int)]
  · rw [hn] at c1
    have hbad : okSnd l = false := by unfold okSnd climbB; simp [hn]
    refine Ct.by gok eok mixed func139 c139 rfl (by simp [ntmps139]) (by simp) (by simp [ResIds]) fun E hE => ?_
    simp [p139]
    refine ACall.mk _ _ _ (c1) (by first | (simp; done) | simp [Bor_ls, Bor1_ls]) (by simp) (by first | (left; simp; done) | (right; simp; done)) ?_
    simp
    refine RetOk.by (fun _ => none) ?_
    simp [results139, hbad]
  rw [hn] at c1
  refine Ct.by gok eok mixed func139 c139 rfl (by simp [ntmps139]) (by simp) (by simp [ResIds]) fun E hE => ?_
  simp [p139]
  refine ACall.mk _ _ _ (c1) (by first | (simp; done) | simp [Bor_ls, Bor1_ls]) (by simp) (by first | (left; simp; done) | (right; simp; done)) ?_
  simp
  refine pw_loop (α := Nat) (fun i => ⟨slots [(0, .d (levsD l)), (3, vi i)], lk [], 0⟩) (fun i => i ≤ l.length ∧ ∀ j, j < i → goodL l j = true) (fun i => l.length - i) 0 ?_ ?_ ?_
  · exact ⟨by omega, fun j hj => by omega⟩
  · refine Weak.mk hE (lk []) _ _ _ ?_ ?_ ?_ ?_ ?_ <;> simp
  · rintro i ⟨hi, hg⟩
    by_cases h : i < l.length
    · obtain ⟨x, hx⟩ : ∃ x, l[i]? = some x := ⟨_, List.getElem?_eq_getElem h⟩
      have hz : IntKind.wrap .i64 ((i : Int) + 1) = ((i + 1 : Nat) : Int) := by rw [wrap64 (by omega) (by omega)]; omega
      have hI : (i : Int) < l.length := by omega
      have c2 := fn207 x.h (-500) 9000
      have c3 := fn208 x.pl x.ph 1000 12000
      have c4 := fn208 x.tl x.th 1500 3500
      have eg : goodL l i = (stepB l i && spB 1000 12000 x.pl x.ph && spB 1500 3500 x.tl x.th) := by unfold goodL; rw [hx]
      have fin : goodL l i = true → ∀ j, j < i + 1 → goodL l j = true := fun he j hj => by
        by_cases e : j = i
        · rw [e]; exact he
        · exact hg j (by omega)
      generalize spB 1000 12000 x.pl x.ph = b3 at *
      generalize spB 1500 3500 x.tl x.th = b4 at *
      cases hb1 : rgB (-500) 9000 [x.h]
      · rw [hb1] at c2
        have es : stepB l i = false := by unfold stepB; rw [hx]; simp [hb1]
        have hbad := snd_no h (by rw [eg, es]; rfl)
        simp [p139l0, hI, hx, splice, inC, Nat.testBit]
        refine ACall.mk _ _ _ (c2) (by first | (simp; done) | simp [Bor_ls, Bor1_ls]) (by simp) (by first | (left; simp; done) | (right; simp; done)) ?_
        simp
        refine RetOk.by (fun _ => none) ?_
        simp [results139, hbad]
      · rw [hb1] at c2
        by_cases h0 : i = 0
        · have es : stepB l i = true := by unfold stepB; rw [hx]; simp [hb1, h0]
          rw [es] at eg
          have hI0 : ¬ 0 < i := by omega
          have c6 := c2
          cases b3
          · have hbad := snd_no h (by rw [eg]; rfl)
            simp [p139l0, hI, hx, splice, inC, Nat.testBit]
            repeat ((first | (refine ACall.mk _ _ _ (c2) ?_ ?_ ?_ ?_; (focus (simp; done)); (focus (simp; done)); (focus (first | (left; simp; done) | (right; simp; done)))) | (refine ACall.mk _ _ _ (c6) ?_ ?_ ?_ ?_; (focus (simp; done)); (focus (simp; done)); (focus (first | (left; simp; done) | (right; simp; done))))); simp [hI0])
            refine ACall.mk _ _ _ (c3) (by first | (simp; done) | simp [Bor_ls, Bor1_ls]) (by simp) (by first | (left; simp; done) | (right; simp; done)) ?_
            simp
            refine RetOk.by (fun _ => none) ?_
            simp [results139, hbad]
          · simp [p139l0, hI, hx, splice, inC, Nat.testBit]
            repeat ((first | (refine ACall.mk _ _ _ (c2) ?_ ?_ ?_ ?_; (focus (simp; done)); (focus (simp; done)); (focus (first | (left; simp; done) | (right; simp; done)))) | (refine ACall.mk _ _ _ (c6) ?_ ?_ ?_ ?_; (focus (simp; done)); (focus (simp; done)); (focus (first | (left; simp; done) | (right; simp; done))))); simp [hI0])
            refine ACall.mk _ _ _ (c3) (by first | (simp; done) | simp [Bor_ls, Bor1_ls]) (by simp) (by first | (left; simp; done) | (right; simp; done)) ?_
            simp
            refine ACall.mk _ _ _ (c4) (by first | (simp; done) | simp [Bor_ls, Bor1_ls]) (by simp) (by first | (left; simp; done) | (right; simp; done)) ?_
            cases b4
            · have hbad := snd_no h (by rw [eg]; rfl)
              simp
              refine RetOk.by (fun _ => none) ?_
              simp [results139, hbad]
            · have hok := fin (by rw [eg]; rfl)
              simp [hz]
              refine ⟨i + 1, ⟨by omega, hok⟩, by omega, ?_⟩
              refine Weak.mk hE (lk []) _ _ _ ?_ ?_ ?_ ?_ ?_ <;> simp
        · obtain ⟨y, hy⟩ : ∃ y, l[i - 1]? = some y := ⟨_, List.getElem?_eq_getElem (by omega)⟩
          have hw : IntKind.wrap .i64 ((i : Int) - 1) = ((i - 1 : Nat) : Int) := by rw [wrap64 (by omega) (by omega)]; omega
          have hI0 : 0 < i := by omega
          have hxb : -500 ≤ x.h ∧ x.h ≤ 9000 := by simp [rgB] at hb1; omega
          have hyb : -500 ≤ y.h ∧ y.h ≤ 9000 := by
            have := hg (i - 1) (by omega)
            unfold goodL stepB at this
            rw [hy] at this
            simp [rgB] at this
            omega
          have hwd : IntKind.wrap .i64 (x.h - y.h) = x.h - y.h := wrap64 (by omega) (by omega)
          have c6 := fn207 (x.h - y.h) 1 2000
          have es : stepB l i = rgB 1 2000 [x.h - y.h] := by unfold stepB; rw [hx]; simp [hb1, h0, hy]
          cases h2 : rgB 1 2000 [x.h - y.h]
          · rw [h2] at c6
            have hbad := snd_no h (by rw [eg, es, h2]; rfl)
            simp [p139l0, hI, hx, splice, inC, Nat.testBit]
            refine ACall.mk _ _ _ (c2) (by first | (simp; done) | simp [Bor_ls, Bor1_ls]) (by simp) (by first | (left; simp; done) | (right; simp; done)) ?_
            simp [hI0, hw, hy, hwd, inC, Nat.testBit]
            refine ACall.mk _ _ _ (c6) (by first | (simp; done) | simp [Bor_ls, Bor1_ls]) (by simp) (by first | (left; simp; done) | (right; simp; done)) ?_
            simp
            refine RetOk.by (fun _ => none) ?_
            simp [results139, hbad]
          · rw [h2] at c6 es
            rw [es] at eg
            cases b3
            · have hbad := snd_no h (by rw [eg]; rfl)
              simp [p139l0, hI, hx, splice, inC, Nat.testBit]
              repeat ((first | (refine ACall.mk _ _ _ (c2) ?_ ?_ ?_ ?_; (focus (simp; done)); (focus (simp; done)); (focus (first | (left; simp; done) | (right; simp; done)))) | (refine ACall.mk _ _ _ (c6) ?_ ?_ ?_ ?_; (focus (simp; done)); (focus (simp; done)); (focus (first | (left; simp; done) | (right; simp; done))))); simp [inC, Nat.testBit, hI0, hw, hy, hwd])
              refine ACall.mk _ _ _ (c3) (by first | (simp; done) | simp [Bor_ls, Bor1_ls]) (by simp) (by first | (left; simp; done) | (right; simp; done)) ?_
              simp
              refine RetOk.by (fun _ => none) ?_
              simp [results139, hbad]
            · simp [p139l0, hI, hx, splice, inC, Nat.testBit]
              repeat ((first | (refine ACall.mk _ _ _ (c2) ?_ ?_ ?_ ?_; (focus (simp; done)); (focus (simp; done)); (focus (first | (left; simp; done) | (right; simp; done)))) | (refine ACall.mk _ _ _ (c6) ?_ ?_ ?_ ?_; (focus (simp; done)); (focus (simp; done)); (focus (first | (left; simp; done) | (right; simp; done))))); simp [inC, Nat.testBit, hI0, hw, hy, hwd])
              refine ACall.mk _ _ _ (c3) (by first | (simp; done) | simp [Bor_ls, Bor1_ls]) (by simp) (by first | (left; simp; done) | (right; simp; done)) ?_
              simp
              refine ACall.mk _ _ _ (c4) (by first | (simp; done) | simp [Bor_ls, Bor1_ls]) (by simp) (by first | (left; simp; done) | (right; simp; done)) ?_
              cases b4
              · have hbad := snd_no h (by rw [eg]; rfl)
                simp
                refine RetOk.by (fun _ => none) ?_
                simp [results139, hbad]
              · have hok := fin (by rw [eg]; rfl)
                simp [hz]
                refine ⟨i + 1, ⟨by omega, hok⟩, by omega, ?_⟩
                refine Weak.mk hE (lk []) _ _ _ ?_ ?_ ?_ ?_ ?_ <;> simp
    · have e : i = l.length := by omega
      have hnn : ¬ (i : Int) < l.length := by omega
      have hall := snd_all hn (by rw [← e]; exact hg)
      simp [p139l0, hnn]
      refine RetOk.by (fun _ => none) ?_
      simp [results139, hall]
end Go.Proofs.Tryz
namespace Go.Proofs.Tryz
open Go.Psl
open Go.Air
set_option maxRecDepth 20000
set_option maxHeartbeats 8000000
structure WrkB (S : List Lev) : Prop where
  len : 2 ≤ S.length ∧ S.length ≤ 16
  at' : ∀ x ∈ S, -500 ≤ x.h ∧ x.h ≤ 9000
  pr : ∀ x ∈ S, PrB x
  step : ∀ (i : Nat) (a b : Lev), S[i]? = some a → S[i + 1]? = some b → (0 < b.h - a.h ∧ b.h - a.h ≤ 2000) ∧ TmB (tmS (knT S)) a.h b.h
def btrS (S : List Lev) (i : Nat) (a : Lev) : Lev := gsB (tmS (knT S)) (gsA (tmS (knT S)) (if i = 0 then none else S[i - 1]?) a) a (S.drop (i + 1))
theorem fn206 (S : List Lev) (i : Nat) (a : Lev) (h : WrkB S) (ha : S[i]? = some a) : Ct prog 206 [.d (levsD S), vi i] (vsp (btrS S i a).pl (btrS S i a).ph) [] := by
  have hlen := h.len
  have hil := (List.getElem?_eq_some_iff.1 ha).1
  have hI : (i : Int) < S.length := by omega
  have hne : S ≠ [] := by intro e; rw [e] at hlen; simp at hlen
  obtain ⟨j, hj⟩ : ∃ j, j = i + 1 := ⟨_, rfl⟩
  have w1 : IntKind.wrap .i64 ((i : Int) + 1) = (j : Int) := by rw [wrap64 (by omega) (by omega)]; omega
  have hah := h.at' a (List.mem_of_getElem? ha)
  by_cases hi0 : 0 < i
  · have h0 : ¬ i = 0 := by omega
    obtain ⟨q, hq⟩ : ∃ q, S[i - 1]? = some q := ⟨_, List.getElem?_eq_getElem (by omega)⟩
    have hqs := h.step (i - 1) q a hq (by rw [show i - 1 + 1 = i by omega]; exact ha)
    have hqb := h.pr q (List.mem_of_getElem? hq)
    have hqh := h.at' q (List.mem_of_getElem? hq)
    have w0 : IntKind.wrap .i64 ((i : Int) - 1) = ((i - 1 : Nat) : Int) := by rw [wrap64 (by omega) (by omega)]; omega
    have wd : IntKind.wrap .i64 (a.h - q.h) = a.h - q.h := wrap64 (by omega) (by omega)
    have c1 := fn142 S q.h a.h (by omega) hne (by omega)
    have c2 := fn213 q.pl q.ph (a.h - q.h) (tmS (knT S) q.h a.h).1 (tmS (knT S) q.h a.h).2 hqb.l hqb.h hqs.1 hqs.2.p
    have c3 := fn261 a.pl a.ph (upLo (1000000 * (tmS (knT S) q.h a.h).1) (341632 * (a.h - q.h)) q.pl) (upHi (1000000 * (tmS (knT S) q.h a.h).2) (341632 * (a.h - q.h)) q.ph)
    have hA : gsA (tmS (knT S)) (if i = 0 then none else S[i - 1]?) a = mt a (cyu (tmS (knT S)) q a) := by rw [if_neg h0, hq]; rfl
    by_cases h1 : i + 1 < S.length
    · obtain ⟨b, hb⟩ : ∃ b, S[i + 1]? = some b := ⟨_, List.getElem?_eq_getElem (by omega)⟩
      have hbs := h.step i a b ha hb
      have hbb := h.pr b (List.mem_of_getElem? hb)
      have hbh := h.at' b (List.mem_of_getElem? hb)
      have wb : IntKind.wrap .i64 (b.h - a.h) = b.h - a.h := wrap64 (by omega) (by omega)
      have hdrop : ∃ r, S.drop (i + 1) = b :: r := ⟨_, by rw [List.drop_eq_getElem?_toList_append, hb]; rfl⟩
      obtain ⟨rr, hdrop⟩ := hdrop
      have hn1 : (j : Int) < S.length := by omega
      rw [← hj] at hb
      have c4 := fn142 S a.h b.h (by omega) hne (by omega)
      have c5 := fn262 b.pl b.ph (b.h - a.h) (tmS (knT S) a.h b.h).1 (tmS (knT S) a.h b.h).2 hbb.l hbb.h hbs.1 hbs.2.p
      have e : btrS S i a = mt (mt a (cyu (tmS (knT S)) q a)) (cyd (tmS (knT S)) a b) := by unfold btrS; rw [hA, hdrop]; rfl
      rw [e]
      have c6 := fn261 (max a.pl (upLo (1000000 * (tmS (knT S) q.h a.h).1) (341632 * (a.h - q.h)) q.pl)) (min a.ph (upHi (1000000 * (tmS (knT S) q.h a.h).2) (341632 * (a.h - q.h)) q.ph)) (dnLo (1000000 * (tmS (knT S) a.h b.h).2) (341632 * (b.h - a.h)) b.pl) (dnHi (1000000 * (tmS (knT S) a.h b.h).1) (341632 * (b.h - a.h)) b.ph)
      refine Ct.by gok eok mixed func206 c206 rfl (by simp [ntmps206]) (by simp) (by simp [ResIds]) fun E hE => ?_
      simp [p206, splice, ha, hi0, hq, w0, wd, inC, Nat.testBit]
      refine ACall.mk _ _ _ (c1) (by first | (simp; done) | simp [Bor_ls, Bor1_ls]) (by simp) (by first | (left; simp; done) | (right; simp; done)) ?_
      simp
      refine ACall.mk _ _ _ (c2) (by first | (simp; done) | simp [Bor_ls, Bor1_ls]) (by simp) (by first | (left; simp; done) | (right; simp; done)) ?_
      simp
      refine ACall.mk _ _ _ (c3) (by first | (simp; done) | simp [Bor_ls, Bor1_ls]) (by simp) (by first | (left; simp; done) | (right; simp; done)) ?_
      simp [splice, ha, hb, w1, wb, hn1, inC, Nat.testBit]
      refine ACall.mk _ _ _ (c4) (by first | (simp; done) | simp [Bor_ls, Bor1_ls]) (by simp) (by first | (left; simp; done) | (right; simp; done)) ?_
      simp
      refine ACall.mk _ _ _ (c5) (by first | (simp; done) | simp [Bor_ls, Bor1_ls]) (by simp) (by first | (left; simp; done) | (right; simp; done)) ?_
      simp
      refine ACall.mk _ _ _ (c6) (by first | (simp; done) | simp [Bor_ls, Bor1_ls]) (by simp) (by first | (left; simp; done) | (right; simp; done)) ?_
      simp [splice]
      refine RetOk.by (fun _ => none) ?_
      simp [results206, Air.mt, cyu, cyd, lc, lw, ls]
    · have hdrop : S.drop (i + 1) = [] := List.drop_eq_nil_of_le (by omega)
      have e : btrS S i a = mt a (cyu (tmS (knT S)) q a) := by unfold btrS; rw [hA, hdrop]; rfl
      rw [e]
      have hn1 : ¬ (j : Int) < S.length := by omega
      refine Ct.by gok eok mixed func206 c206 rfl (by simp [ntmps206]) (by simp) (by simp [ResIds]) fun E hE => ?_
      simp [p206, splice, ha, hi0, hq, w0, wd, inC, Nat.testBit]
      refine ACall.mk _ _ _ (c1) (by first | (simp; done) | simp [Bor_ls, Bor1_ls]) (by simp) (by first | (left; simp; done) | (right; simp; done)) ?_
      simp
      refine ACall.mk _ _ _ (c2) (by first | (simp; done) | simp [Bor_ls, Bor1_ls]) (by simp) (by first | (left; simp; done) | (right; simp; done)) ?_
      simp
      refine ACall.mk _ _ _ (c3) (by first | (simp; done) | simp [Bor_ls, Bor1_ls]) (by simp) (by first | (left; simp; done) | (right; simp; done)) ?_
      simp [splice, w1, hn1]
      refine RetOk.by (fun _ => none) ?_
      simp [results206, Air.mt, cyu, lc, lw, ls]
  · have h0 : i = 0 := by omega
    have hA : gsA (tmS (knT S)) (if i = 0 then none else S[i - 1]?) a = a := by rw [if_pos h0]; rfl
    have h1 : i + 1 < S.length := by omega
    obtain ⟨b, hb⟩ : ∃ b, S[i + 1]? = some b := ⟨_, List.getElem?_eq_getElem (by omega)⟩
    have hbs := h.step i a b ha hb
    have hbb := h.pr b (List.mem_of_getElem? hb)
    have hbh := h.at' b (List.mem_of_getElem? hb)
    have wb : IntKind.wrap .i64 (b.h - a.h) = b.h - a.h := wrap64 (by omega) (by omega)
    have hdrop : ∃ r, S.drop (i + 1) = b :: r := ⟨_, by rw [List.drop_eq_getElem?_toList_append, hb]; rfl⟩
    obtain ⟨rr, hdrop⟩ := hdrop
    have hn1 : (j : Int) < S.length := by omega
    rw [← hj] at hb
    have c4 := fn142 S a.h b.h (by omega) hne (by omega)
    have c5 := fn262 b.pl b.ph (b.h - a.h) (tmS (knT S) a.h b.h).1 (tmS (knT S) a.h b.h).2 hbb.l hbb.h hbs.1 hbs.2.p
    have e : btrS S i a = mt a (cyd (tmS (knT S)) a b) := by unfold btrS; rw [hA, hdrop]; rfl
    rw [e]
    have c6 := fn261 a.pl a.ph (dnLo (1000000 * (tmS (knT S) a.h b.h).2) (341632 * (b.h - a.h)) b.pl) (dnHi (1000000 * (tmS (knT S) a.h b.h).1) (341632 * (b.h - a.h)) b.ph)
    refine Ct.by gok eok mixed func206 c206 rfl (by simp [ntmps206]) (by simp) (by simp [ResIds]) fun E hE => ?_
    simp [p206, splice, ha, hi0, hb, w1, wb, hn1, inC, Nat.testBit]
    refine ACall.mk _ _ _ (c4) (by first | (simp; done) | simp [Bor_ls, Bor1_ls]) (by simp) (by first | (left; simp; done) | (right; simp; done)) ?_
    simp
    refine ACall.mk _ _ _ (c5) (by first | (simp; done) | simp [Bor_ls, Bor1_ls]) (by simp) (by first | (left; simp; done) | (right; simp; done)) ?_
    simp
    refine ACall.mk _ _ _ (c6) (by first | (simp; done) | simp [Bor_ls, Bor1_ls]) (by simp) (by first | (left; simp; done) | (right; simp; done)) ?_
    simp [splice]
    refine RetOk.by (fun _ => none) ?_
    simp [results206, Air.mt, cyd, lc, lw, ls]
end Go.Proofs.Tryz
namespace Go.Proofs.Tryz
open Go.Psl
open Go.Air
def gsK (T : Tm) : Nat → Option Lev → List Lev → List Lev
  | 0, _, l => l
  | i + 1, p, a :: r => gsB T (gsA T p a) a r :: gsK T i (some (gsB T (gsA T p a) a r)) r
  | _ + 1, _, [] => []
theorem gsK_all (T : Tm) : ∀ (i : Nat) (p : Option Lev) (l : List Lev), l.length ≤ i → gsK T i p l = gsP T p l
  | 0, p, [], _ => rfl
  | 0, p, _ :: _, h => by simp at h
  | i + 1, p, [], _ => rfl
  | i + 1, p, a :: r, h => by
    show gsB T (gsA T p a) a r :: gsK T i _ r = gsB T (gsA T p a) a r :: gsP T _ r
    rw [gsK_all T i _ r (by simpa using h)]
theorem gsK_le (T : Tm) : ∀ (i : Nat) (p : Option Lev) (l : List Lev), LeL l (gsK T i p l)
  | 0, _, l => LeL.refl l
  | _ + 1, _, [] => trivial
  | i + 1, p, a :: r => ⟨(gsA_le T p a).trans (gsB_le T _ a r), gsK_le T i _ r⟩
theorem gsK_part (T : Tm) : ∀ (i : Nat) (p : Option Lev) (l : List Lev), LeL (gsK T i p l) (gsP T p l)
  | 0, p, l => gs_le T l p
  | _ + 1, _, [] => trivial
  | i + 1, _, _ :: r => ⟨Le.refl _, gsK_part T i _ r⟩
theorem gsK_len (T : Tm) (i : Nat) (p : Option Lev) (l : List Lev) : (gsK T i p l).length = l.length := (gsK_le T i p l).len.symm
theorem gsK_here (T : Tm) : ∀ (i : Nat) (p : Option Lev) (l : List Lev) (j : Nat), i ≤ j → (gsK T i p l)[j]? = l[j]?
  | 0, p, l, j, _ => rfl
  | i + 1, p, [], j, _ => rfl
  | i + 1, p, a :: r, 0, h => by omega
  | i + 1, p, a :: r, j + 1, h => by
    show (gsK T i _ r)[j]? = r[j]?
    exact gsK_here T i _ r j (by omega)
theorem gsK_next (T : Tm) : ∀ (i : Nat) (p : Option Lev) (l : List Lev) (a : Lev), l[i]? = some a → gsK T (i + 1) p l = (gsK T i p l).set i (gsB T (gsA T (if i = 0 then p else (gsK T i p l)[i - 1]?) a) a ((gsK T i p l).drop (i + 1)))
  | _, p, [], a, h => by simp at h
  | 0, p, b :: r, a, h => by simp at h; subst h; rfl
  | i + 1, p, b :: r, a, h => by
    have h1 : gsK T (i + 1) p (b :: r) = gsB T (gsA T p b) b r :: gsK T i (some (gsB T (gsA T p b) b r)) r := rfl
    have h2 : gsK T (i + 1 + 1) p (b :: r) = gsB T (gsA T p b) b r :: gsK T (i + 1) (some (gsB T (gsA T p b) b r)) r := rfl
    have ih := gsK_next T i (some (gsB T (gsA T p b) b r)) r a (by simpa using h)
    rw [h2, h1, List.set_cons_succ, List.drop_succ_cons]
    have e0 : (if i + 1 = 0 then p else (gsB T (gsA T p b) b r :: gsK T i (some (gsB T (gsA T p b) b r)) r)[i + 1 - 1]?) = (if i = 0 then some (gsB T (gsA T p b) b r) else (gsK T i (some (gsB T (gsA T p b) b r)) r)[i - 1]?) := by
      cases i with
      | zero => rfl
      | succ j => rfl
    rw [e0, ← ih]
theorem gsK_knT {l m : List Lev} (h1 : LeL l m) (i : Nat) : knT (gsK (tmS (knT l)) i none m) = knT l := (le_knT (LeL.trans h1 (gsK_le _ i none m))).symm
section
variable {l m : List Lev} (h : OkS l) (h1 : LeL l m) (h2 : LeL m (swp l))
include h h1 h2
theorem gsK_wrk (i : Nat) : WrkB (gsK (tmS (knT l)) i none m) := by
  have hp := gs_pass h.lks h.pos h1 h2
  have a1 : LeL l (gsK (tmS (knT l)) i none m) := LeL.trans h1 (gsK_le _ i none m)
  have a2 : LeL (gsK (tmS (knT l)) i none m) (swp l) := LeL.trans (gsK_part _ i none m) hp.2.1
  have hlen := a1.len
  have key : ∀ (j : Nat) (y : Lev), (gsK (tmS (knT l)) i none m)[j]? = some y → ∃ x, l[j]? = some x ∧ Le x y := fun j y hy => lel_get a1 j y hy
  have upper : ∀ (j : Nat) (y : Lev), (gsK (tmS (knT l)) i none m)[j]? = some y → ∃ z, z ∈ swp l ∧ Le y z := fun j y hy => by
    obtain ⟨z, hz⟩ : ∃ z, (swp l)[j]? = some z := ⟨_, List.getElem?_eq_getElem (by have := (List.getElem?_eq_some_iff.1 hy).1; have := a2.len; omega)⟩
    obtain ⟨y', hy', q⟩ := lel_get a2 j z hz
    rw [hy] at hy'; cases hy'
    exact ⟨z, List.mem_of_getElem? hz, q⟩
  refine ⟨by rw [← hlen]; exact h.len, fun y hy => ?_, fun y hy => ?_, fun j a b ha hb => ?_⟩
  · obtain ⟨j, hj⟩ := List.getElem?_of_mem hy
    obtain ⟨x, hx, q⟩ := key j y hj
    have := h.at' x (List.mem_of_getElem? hx); have := q.s.1; omega
  · obtain ⟨j, hj⟩ := List.getElem?_of_mem hy
    obtain ⟨x, hx, q⟩ := key j y hj
    obtain ⟨z, hz, q'⟩ := upper j y hj
    have b1 := h.lev x (List.mem_of_getElem? hx)
    have b2 := swp_pb h z hz
    have c1 := q.lo; have c2 := q.hi; have c3 := q'.lo; have c4 := q'.hi
    have d1 := b2.1; have d2 := b2.2
    exact ⟨by omega, by omega⟩
  · obtain ⟨x, hx, q⟩ := key j a ha
    obtain ⟨y, hy, q'⟩ := key (j + 1) b hb
    have hs := h.step j x y hx hy
    have ht := tm_bd h (h.inS hx) (h.inS hy)
    have e1 := q.s.1; have e2 := q'.s.1
    rw [← le_knT a1]
    rw [e1, e2] at ht
    exact ⟨by omega, ht⟩
end
theorem gsK_btr {l m : List Lev} (h1 : LeL l m) (i : Nat) (a : Lev) (ha : m[i]? = some a) : gsK (tmS (knT l)) (i + 1) none m = (gsK (tmS (knT l)) i none m).set i (btrS (gsK (tmS (knT l)) i none m) i a) := by
  unfold btrS
  rw [gsK_knT h1 i]
  exact gsK_next _ i none m a ha
end Go.Proofs.Tryz
namespace Go.Proofs.Tryz
open Go.Psl
open Go.Air
set_option maxRecDepth 20000
set_option maxHeartbeats 8000000
theorem splice2 (a b c d : V) : splice [a, b] 0 [c, d] = [c, d] := rfl
theorem btr_le (S : List Lev) (i : Nat) (a : Lev) : Le a (btrS S i a) := (gsA_le _ _ a).trans (gsB_le _ _ a _)
theorem flag_next {L m : List Lev} {i : Nat} {a b : Lev} (ha : L[i]? = some a) (hm : m[i]? = some a) (hb : Le a b) : L.set i b = m ↔ (L = m ∧ b.pl = a.pl ∧ b.ph = a.ph) := by
  constructor
  · intro e
    have h1 : (L.set i b)[i]? = some b := by
      rw [List.getElem?_set_self (List.getElem?_eq_some_iff.1 ha).1]
    rw [e, hm] at h1
    cases h1
    rw [set_same ha] at e
    exact ⟨e, rfl, rfl⟩
  · rintro ⟨rfl, h1, h2⟩
    have : b = a := by
      obtain ⟨⟨q1, q2, q3⟩, _, _⟩ := hb
      cases a; cases b
      simp only [Lev.mk.injEq] at *
      exact ⟨q1.symm, h1, h2, q2.symm, q3.symm⟩
    rw [this, set_same ha]
theorem refs_in (m : List Lev) (n : Nat) (S : Nat → List Lev) (hn : n ≤ 16) (hml : m.length = n) (hW : ∀ i, WrkB (S i)) (hlen : ∀ i, (S i).length = n) (hm : ∀ i a, m[i]? = some a → (S i)[i]? = some a) (hnx : ∀ i a, m[i]? = some a → S (i + 1) = (S i).set i (btrS (S i) i a)) {E : Ent} (hE : ∀ i, ¬ E.stab i) {Q : AExit → St → Prop} : ∀ i : Nat, i ≤ n → PW prog tys eqs E p134l0
    (seqQ (fun st' => ∃ j, j ≤ n ∧ n - j < n - i ∧ Weak prog E st' ⟨slots [(5, .ls 0 0 n 5), (6, vb (!decide (S j = m))), (7, vi j)], lk [(0, fcel levL (S j))], 1⟩)
      (exC prog E Q 2 (fun _ : Unit => ⟨slots [(5, .ls 0 0 n 5), (6, vb (!decide (S n = m)))], lk [(0, fcel levL (S n))], 1⟩) (fun _ => True)))
    ⟨slots [(5, .ls 0 0 n 5), (6, vb (!decide (S i = m))), (7, vi i)], lk [(0, fcel levL (S i))], 1⟩ := by
  intro i hi
  by_cases h : i < n
  · obtain ⟨a, ha⟩ : ∃ a, m[i]? = some a := ⟨_, List.getElem?_eq_getElem (by omega)⟩
    have hSa := hm i a ha
    have hN := hnx i a ha
    have hz : IntKind.wrap .i64 ((i : Int) + 1) = ((i + 1 : Nat) : Int) := by rw [wrap64 (by omega) (by omega)]; omega
    have hI : (i : Int) < n := by omega
    have c := fn206 (S i) i a (hW i) hSa
    have hble := btr_le (S i) i a
    have hfl := flag_next hSa ha hble
    rw [← hN] at hfl
    have hl2 := hlen i
    generalize hbe : btrS (S i) i a = b at *
    generalize hLe : S i = L at *
    have bL := bw_blk (b := 0) hl2
    have e2 : List.take 2 (List.drop (i * 5 + 1) (fcel levL L)) = [vi a.pl, vi a.ph] := fcel_sub Tryz.hfl hSa (by omega)
    have e3 : splice (fcel levL L) (i * 5 + 1) [vi b.pl, vi b.ph] = fcel levL (S (i + 1)) := by
      rw [hN]
      refine fcel_put Tryz.hfl (vs := [di b.pl, di b.ph]) hSa (by simp) ?_
      simp [levL, hble.s.1, hble.s.2.1, hble.s.2.2]
    have hsl := fcel_len Tryz.hfl L
    have f3 : i * 5 + 1 + 2 ≤ n * 5 := by omega
    rw [hl2] at hsl
    by_cases hc : L = m
    · have hd : decide (L = m) = true := decide_eq_true hc
      have hd2 : decide (S (i + 1) = m) = (decide (b.pl = a.pl) && decide (b.ph = a.ph)) := by
        rw [Bool.eq_iff_iff]; simp only [decide_eq_true_eq, Bool.and_eq_true]; rw [hfl]; simp [hc]
      rw [hd]
      simp [p134l0, hI]
      refine ACall.mk _ _ _ (c) (by simp [bL]) (by simp) (by first | (left; simp; done) | (right; simp; done)) ?_
      simp [splice2, e2, e3, hsl, f3, hI, hz, inC, Nat.testBit]
      refine ⟨i + 1, by omega, by omega, ?_⟩
      rw [hd2]
      refine Weak.mk hE (lk [(0, 0)]) _ _ _ ?_ ?_ ?_ ?_ ?_ <;> simp
    · have hd : decide (L = m) = false := decide_eq_false hc
      have hd2 : decide (S (i + 1) = m) = false := decide_eq_false fun h => hc (hfl.1 h).1
      rw [hd]
      simp [p134l0, hI]
      refine ACall.mk _ _ _ (c) (by simp [bL]) (by simp) (by first | (left; simp; done) | (right; simp; done)) ?_
      simp [splice2, e3, hsl, f3, hI, hz]
      refine ⟨i + 1, by omega, by omega, ?_⟩
      rw [hd2]
      refine Weak.mk hE (lk [(0, 0)]) _ _ _ ?_ ?_ ?_ ?_ ?_ <;> simp
  · have e : i = n := by omega
    subst e
    simp [p134l0]
    refine Weak.mk hE (lk [(0, 0)]) _ _ _ ?_ ?_ ?_ ?_ ?_ <;> simp
end Go.Proofs.Tryz
namespace Go.Proofs.Tryz
open Go.Psl
open Go.Air
set_option maxRecDepth 20000
set_option maxHeartbeats 8000000
theorem refs_out (l : List Lev) (h : OkS l) {E : Ent} (hE : ∀ i, ¬ E.stab i) {Q : AExit → St → Prop} : ∀ y : List Lev × Bool, (LeL l y.1 ∧ LeL y.1 (swp l) ∧ (y.2 = false → y.1 = swp l)) → PW prog tys eqs E p134l1
    (seqQ (fun st' => ∃ z : List Lev × Bool, (LeL l z.1 ∧ LeL z.1 (swp l) ∧ (z.2 = false → z.1 = swp l)) ∧ (2 * far z.1 (swp l) + cond z.2 1 0) < (2 * far y.1 (swp l) + cond y.2 1 0) ∧ Weak prog E st' ⟨slots [(5, .ls 0 0 l.length 5), (6, vb z.2)], lk [(0, fcel levL z.1)], 1⟩)
      (exC prog E Q 0 (fun _ : Unit => ⟨slots [(5, .ls 0 0 l.length 5)], lk [(0, fcel levL (swp l))], 1⟩) (fun _ => True)))
    ⟨slots [(5, .ls 0 0 l.length 5), (6, vb y.2)], lk [(0, fcel levL y.1)], 1⟩ := by
  rintro ⟨m, c⟩ ⟨h1, h2, h3⟩
  simp only at h1 h2 h3
  have hlen := h.len
  cases c with
  | false =>
    have e := h3 rfl
    subst e
    simp [p134l1]
    refine Weak.mk hE (lk [(0, 0)]) _ _ _ ?_ ?_ ?_ ?_ ?_ <;> simp
  | true =>
    have hml := h1.len
    have hp := gs_pass h.lks h.pos h1 h2
    have eall : gsK (tmS (knT l)) l.length none m = gsP (tmS (knT l)) none m := gsK_all _ _ _ _ (by omega)
    simp [p134l1]
    refine pw_loopC (α := Nat) 2 (fun _ : Unit => ⟨slots [(5, .ls 0 0 l.length 5), (6, vb (!decide (gsK (tmS (knT l)) l.length none m = m)))], lk [(0, fcel levL (gsK (tmS (knT l)) l.length none m))], 1⟩) (fun _ => True) (fun j => ⟨slots [(5, .ls 0 0 l.length 5), (6, vb (!decide (gsK (tmS (knT l)) j none m = m))), (7, vi j)], lk [(0, fcel levL (gsK (tmS (knT l)) j none m))], 1⟩) (fun j => j ≤ l.length) (fun j => l.length - j) 0 ?_ ?_ (refs_in m l.length (fun i => gsK (tmS (knT l)) i none m) hlen.2 hml.symm (gsK_wrk h h1 h2) (fun i => by rw [gsK_len]; exact hml.symm) (fun i a ha => by rw [gsK_here _ i none m i (by omega)]; exact ha) (gsK_btr h1) hE) fun _ _ => ?_
    · omega
    · rw [show gsK (tmS (knT l)) 0 none m = m from rfl, decide_eq_true rfl]
      refine Weak.mk hE (lk [(0, 0)]) _ _ _ ?_ ?_ ?_ ?_ ?_ <;> simp
    · rw [eall]
      simp
      refine ⟨gsP (tmS (knT l)) none m, ?_⟩
      by_cases e : gsP (tmS (knT l)) none m = m
      · left
        have e2 := hp.2.2.1 e
        refine ⟨⟨hp.1, hp.2.1, by rw [e]; exact e2⟩, by rw [e]; omega, ?_⟩
        rw [decide_eq_true e]
        refine Weak.mk hE (lk [(0, 0)]) _ _ _ ?_ ?_ ?_ ?_ ?_ <;> simp
      · right
        refine ⟨⟨hp.1, hp.2.1⟩, hp.2.2.2 e, ?_⟩
        rw [decide_eq_false e]
        refine Weak.mk hE (lk [(0, 0)]) _ _ _ ?_ ?_ ?_ ?_ ?_ <;> simp
theorem refs_unfit (l : List Lev) (h : OkS l) (hq : 0 ≤ ixF unf (swp l)) : Ct prog 134 [.d (levsD l)] (.tup [.d (.lit (.slice none 0 0)), vi (ixF unf (swp l)), vi 21]) [] := by
  have hlen := h.len
  have h0 : l ≠ [] := by intro e; rw [e] at hlen; simp at hlen
  have hl2 := swp_len (l := l)
  have c1 := fn139 l (by omega)
  rw [okSnd_iff.2 h] at c1
  obtain ⟨x0, r0, e0⟩ := List.exists_cons_of_ne_nil h0
  have hmx : (r0.length + 1) * 40 ≤ 140737488355328 ∧ r0.length + 1 ≤ 9223372036854775807 := by rw [e0] at hlen; simp at hlen; omega
  have ee : levsD l = .sl 5 (levL x0 :: r0.map levL) := by rw [e0]; rfl
  have ef : (r0.map (List.map V.d ∘ levL)).flatten = fcel levL r0 := by simp [fcel, List.map_flatten]
  have hcl : (∀ x ∈ fcel levL r0, x.isCell = true) = True := eq_true fcel_cell
  have eln : l.length = r0.length + 1 := by rw [e0]; simp
  have efc : fcel levL l = vi x0.h :: vi x0.pl :: vi x0.ph :: vi x0.tl :: vi x0.th :: fcel levL r0 := by rw [e0, fcel_cons]; rfl
  refine Ct.by gok eok mixed func134 c134 rfl (by simp [ntmps134]) (by simp) (by simp [ResIds]) fun E hE => ?_
  simp [p134]
  refine ACall.mk _ _ _ (c1) (by first | (simp; done) | simp [Bor_ls, Bor1_ls]) (by simp) (by first | (left; simp; done) | (right; simp; done)) ?_
  simp [ee, ef, hcl, repl, hmx]
  refine pw_loopC (α := List Lev × Bool) 0 (fun _ : Unit => ⟨slots [(5, .ls 0 0 l.length 5)], lk [(0, fcel levL (swp l))], 1⟩) (fun _ => True) (fun z => ⟨slots [(5, .ls 0 0 l.length 5), (6, vb z.2)], lk [(0, fcel levL z.1)], 1⟩) (fun z => LeL l z.1 ∧ LeL z.1 (swp l) ∧ (z.2 = false → z.1 = swp l)) (fun z => 2 * far z.1 (swp l) + cond z.2 1 0) (l, true) ?_ ?_ (refs_out l h hE) fun _ _ => ?_
  · exact ⟨LeL.refl l, sweep_le l, by simp⟩
  · simp only
    rw [efc, eln]
    refine Weak.mk hE (lk [(0, 8388608)]) _ _ _ ?_ ?_ ?_ ?_ ?_ <;> simp [hcl]
  · simp
    refine pw_loop (α := Nat) (fun i => ⟨slots [(5, .ls 0 0 l.length 5), (9, vi i)], lk [(0, fcel levL (swp l))], 1⟩) (fun i => i ≤ l.length ∧ ∀ j, j < i → ((swp l)[j]?).all (fun x => !unf x) = true) (fun i => l.length - i) 0 ?_ ?_ ?_
    · exact ⟨by omega, fun j hj => by omega⟩
    · refine Weak.mk hE (lk [(0, 0)]) _ _ _ ?_ ?_ ?_ ?_ ?_ <;> simp
    · rintro i ⟨hi, hg3⟩
      have hg2 : ∀ (j : Nat) (x : Lev), j < i → (swp l)[j]? = some x → unf x = false := fun j x hj hx => by
        have := hg3 j hj
        rw [hx] at this
        have h9 : (!unf x) = true := this
        simpa using h9
      by_cases hil : i < l.length
      · obtain ⟨x, hx⟩ : ∃ x, (swp l)[i]? = some x := ⟨_, List.getElem?_eq_getElem (by omega)⟩
        have hz : IntKind.wrap .i64 ((i : Int) + 1) = ((i + 1 : Nat) : Int) := by rw [wrap64 (by omega) (by omega)]; omega
        have hI : (i : Int) < l.length := by omega
        have e1 : (fcel levL (swp l))[i * 5 + 1]? = some (vi x.pl) := fcel_cellat Tryz.hfl hx rfl
        have e2 : (fcel levL (swp l))[i * 5 + 2]? = some (vi x.ph) := fcel_cellat Tryz.hfl hx rfl
        have e3 : List.take 1 (List.drop (i * 5 + 1) (fcel levL (swp l))) = [vi x.pl] := fcel_sub Tryz.hfl hx (by omega)
        have e4 : List.take 1 (List.drop (i * 5 + 2) (fcel levL (swp l))) = [vi x.ph] := fcel_sub Tryz.hfl hx (by omega)
        have hsl := fcel_len Tryz.hfl (swp l)
        rw [hl2] at hsl
        have f1 : i * 5 + 1 + 1 ≤ l.length * 5 := by omega
        have f2 : i * 5 + 2 + 1 ≤ l.length * 5 := by omega
        have f3 : i * 5 + 1 < l.length * 5 := by omega
        have f4 : i * 5 + 2 < l.length * 5 := by omega
        by_cases hu : x.ph < x.pl
        · have hui : ixF unf (swp l) = i := ixF_some hx (decide_eq_true hu) fun j y hj hy => hg2 j y hj hy
          (rw [hui]; simp [p134l2, hI, e3, e4, hsl, f1, f2, hu, inC, Nat.testBit]; refine RetOk.by (fun _ => none) ?_; simp [results134])
        · simp [p134l2, hI, e3, e4, hsl, f1, f2, hu, hz, inC, Nat.testBit]
          refine ⟨i + 1, ⟨by omega, fun j hj => ?_⟩, by omega, ?_⟩
          · by_cases e : j = i
            · subst e; rw [hx]
              have : unf x = false := decide_eq_false hu
              show (!unf x) = true
              rw [this]; rfl
            · exact hg3 j (by omega)
          · refine Weak.mk hE (lk [(0, 0)]) _ _ _ ?_ ?_ ?_ ?_ ?_ <;> simp
      · have ei : i = l.length := by omega
        have hI : ¬ (i : Int) < l.length := by omega
        (have := ixF_none (q := unf) (l := swp l) fun j x hx => hg2 j x (by have := (List.getElem?_eq_some_iff.1 hx).1; omega) hx; omega)
theorem refs_fit (l : List Lev) (h : OkS l) (hq : ¬ 0 ≤ ixF unf (swp l)) : Ct prog 134 [.d (levsD l)] (.tup [.ls 0 0 l.length 5, vi 0, vi 0]) [(0, fcel levL (swp l))] := by
  have hlen := h.len
  have h0 : l ≠ [] := by intro e; rw [e] at hlen; simp at hlen
  have hl2 := swp_len (l := l)
  have c1 := fn139 l (by omega)
  rw [okSnd_iff.2 h] at c1
  obtain ⟨x0, r0, e0⟩ := List.exists_cons_of_ne_nil h0
  have hmx : (r0.length + 1) * 40 ≤ 140737488355328 ∧ r0.length + 1 ≤ 9223372036854775807 := by rw [e0] at hlen; simp at hlen; omega
  have ee : levsD l = .sl 5 (levL x0 :: r0.map levL) := by rw [e0]; rfl
  have ef : (r0.map (List.map V.d ∘ levL)).flatten = fcel levL r0 := by simp [fcel, List.map_flatten]
  have hcl : (∀ x ∈ fcel levL r0, x.isCell = true) = True := eq_true fcel_cell
  have eln : l.length = r0.length + 1 := by rw [e0]; simp
  have efc : fcel levL l = vi x0.h :: vi x0.pl :: vi x0.ph :: vi x0.tl :: vi x0.th :: fcel levL r0 := by rw [e0, fcel_cons]; rfl
  refine Ct.by gok eok mixed func134 c134 rfl (by simp [ntmps134]) (by simp) (by simp [ResIds]) fun E hE => ?_
  simp [p134]
  refine ACall.mk _ _ _ (c1) (by first | (simp; done) | simp [Bor_ls, Bor1_ls]) (by simp) (by first | (left; simp; done) | (right; simp; done)) ?_
  simp [ee, ef, hcl, repl, hmx]
  refine pw_loopC (α := List Lev × Bool) 0 (fun _ : Unit => ⟨slots [(5, .ls 0 0 l.length 5)], lk [(0, fcel levL (swp l))], 1⟩) (fun _ => True) (fun z => ⟨slots [(5, .ls 0 0 l.length 5), (6, vb z.2)], lk [(0, fcel levL z.1)], 1⟩) (fun z => LeL l z.1 ∧ LeL z.1 (swp l) ∧ (z.2 = false → z.1 = swp l)) (fun z => 2 * far z.1 (swp l) + cond z.2 1 0) (l, true) ?_ ?_ (refs_out l h hE) fun _ _ => ?_
  · exact ⟨LeL.refl l, sweep_le l, by simp⟩
  · simp only
    rw [efc, eln]
    refine Weak.mk hE (lk [(0, 8388608)]) _ _ _ ?_ ?_ ?_ ?_ ?_ <;> simp [hcl]
  · simp
    refine pw_loop (α := Nat) (fun i => ⟨slots [(5, .ls 0 0 l.length 5), (9, vi i)], lk [(0, fcel levL (swp l))], 1⟩) (fun i => i ≤ l.length ∧ ∀ j, j < i → ((swp l)[j]?).all (fun x => !unf x) = true) (fun i => l.length - i) 0 ?_ ?_ ?_
    · exact ⟨by omega, fun j hj => by omega⟩
    · refine Weak.mk hE (lk [(0, 0)]) _ _ _ ?_ ?_ ?_ ?_ ?_ <;> simp
    · rintro i ⟨hi, hg3⟩
      have hg2 : ∀ (j : Nat) (x : Lev), j < i → (swp l)[j]? = some x → unf x = false := fun j x hj hx => by
        have := hg3 j hj
        rw [hx] at this
        have h9 : (!unf x) = true := this
        simpa using h9
      by_cases hil : i < l.length
      · obtain ⟨x, hx⟩ : ∃ x, (swp l)[i]? = some x := ⟨_, List.getElem?_eq_getElem (by omega)⟩
        have hz : IntKind.wrap .i64 ((i : Int) + 1) = ((i + 1 : Nat) : Int) := by rw [wrap64 (by omega) (by omega)]; omega
        have hI : (i : Int) < l.length := by omega
        have e1 : (fcel levL (swp l))[i * 5 + 1]? = some (vi x.pl) := fcel_cellat Tryz.hfl hx rfl
        have e2 : (fcel levL (swp l))[i * 5 + 2]? = some (vi x.ph) := fcel_cellat Tryz.hfl hx rfl
        have e3 : List.take 1 (List.drop (i * 5 + 1) (fcel levL (swp l))) = [vi x.pl] := fcel_sub Tryz.hfl hx (by omega)
        have e4 : List.take 1 (List.drop (i * 5 + 2) (fcel levL (swp l))) = [vi x.ph] := fcel_sub Tryz.hfl hx (by omega)
        have hsl := fcel_len Tryz.hfl (swp l)
        rw [hl2] at hsl
        have f1 : i * 5 + 1 + 1 ≤ l.length * 5 := by omega
        have f2 : i * 5 + 2 + 1 ≤ l.length * 5 := by omega
        have f3 : i * 5 + 1 < l.length * 5 := by omega
        have f4 : i * 5 + 2 < l.length * 5 := by omega
        by_cases hu : x.ph < x.pl
        · have hui : ixF unf (swp l) = i := ixF_some hx (decide_eq_true hu) fun j y hj hy => hg2 j y hj hy
          omega
        · simp [p134l2, hI, e3, e4, hsl, f1, f2, hu, hz, inC, Nat.testBit]
          refine ⟨i + 1, ⟨by omega, fun j hj => ?_⟩, by omega, ?_⟩
          · by_cases e : j = i
            · subst e; rw [hx]
              have : unf x = false := decide_eq_false hu
              show (!unf x) = true
              rw [this]; rfl
            · exact hg3 j (by omega)
          · refine Weak.mk hE (lk [(0, 0)]) _ _ _ ?_ ?_ ?_ ?_ ?_ <;> simp
      · have ei : i = l.length := by omega
        have hI : ¬ (i : Int) < l.length := by omega
        (simp [p134l2, hI]; refine RetOk.by (lk [(0, 0)]) ?_; simp [results134])
theorem refs_bad (l : List Lev) (hl : l.length ≤ 1000000) (h : okSnd l = false) : Ct prog 134 [.d (levsD l)] (.tup [.d (.lit (.slice none 0 0)), vi 0, vi 20]) [] := by
  have c1 := fn139 l hl
  rw [h] at c1
  refine Ct.by gok eok mixed func134 c134 rfl (by simp [ntmps134]) (by simp) (by simp [ResIds]) fun E hE => ?_
  simp [p134]
  refine ACall.mk _ _ _ (c1) (by first | (simp; done) | simp [Bor_ls, Bor1_ls]) (by simp) (by first | (left; simp; done) | (right; simp; done)) ?_
  simp
  refine RetOk.by (fun _ => none) ?_
  simp [results134]
theorem fn134 (l : List Lev) (hl : l.length ≤ 1000000) : Ct prog 134 [.d (levsD l)] (setV (setS l)) [] := by
  cases h : okSnd l
  · refine Cm.freeze (refs_bad l hl h) ?_
    unfold setS
    rw [h]
    exact ⟨Or.inr ⟨rfl, 5, rfl⟩, Or.inl rfl, Or.inl rfl, trivial⟩
  · have ho := okSnd_iff.1 h
    by_cases hq : 0 ≤ ixF unf (swp l)
    · refine Cm.freeze (refs_unfit l ho hq) ?_
      unfold setS
      rw [h, if_pos rfl, if_pos hq]
      exact ⟨Or.inr ⟨rfl, 5, rfl⟩, Or.inl rfl, Or.inl rfl, trivial⟩
    · refine Cm.freeze (refs_fit l ho hq) ?_
      unfold setS
      rw [h, if_pos rfl, if_neg hq]
      refine ⟨?_, Or.inl rfl, Or.inl rfl, trivial⟩
      have := bw_blk (ws := swp l) (b := 0) (swp_len (l := l)) (lk [(0, fcel levL (swp l))]) (by simp)
      exact this
end Go.Proofs.Tryz
namespace Go.Proofs.Tryz
open Go.Psl
open Go.Air
set_option maxRecDepth 20000
set_option maxHeartbeats 8000000
theorem fn141 (s : List Lev) (x : Int) (h : OkS s) (hx : inSp s x) : Ct prog 141 [.d (levsD s), vi x] (vsp (prs (tmS (knT s)) s x).1 (prs (tmS (knT s)) s x).2) [] := by
  have hlen := h.len
  have hp := plc_le s x
  obtain ⟨e0, he0⟩ : ∃ e0, s[0]? = some e0 := ⟨_, List.getElem?_eq_getElem (by omega)⟩
  obtain ⟨e1, he1⟩ : ∃ e1, s[s.length - 1]? = some e1 := ⟨_, List.getElem?_eq_getElem (by omega)⟩
  have hx0 := hx.1 e0 he0
  have hx1 := hx.2 e1 he1
  have hb0 := h.at' e0 (List.mem_of_getElem? he0)
  have hb1 := h.at' e1 (List.mem_of_getElem? he1)
  have hlt : plcS s x < s.length := Nat.not_le.1 fun hge => by
    have := plc_in s x (s.length - 1) e1 he1 (by omega); omega
  obtain ⟨r, hr⟩ : ∃ r, plcS s x = r := ⟨_, rfl⟩
  rw [hr] at hlt
  obtain ⟨b, hb⟩ : ∃ b, s[r]? = some b := ⟨_, List.getElem?_eq_getElem hlt⟩
  have hbx : x ≤ b.h := plc_at s x b (by rw [hr]; exact hb)
  have hin : ∀ (j : Nat) (z : Lev), j < r → s[j]? = some z → z.h < x := fun j z hj hz => plc_in s x j z hz (by omega)
  have hbb := h.lev b (List.mem_of_getElem? hb)
  have hbh := h.at' b (List.mem_of_getElem? hb)
  have hI : (r : Int) < s.length := by omega
  have hbnx : ¬ b.h < x := by omega
  by_cases hit : b.h = x
  · rw [prs_hit r s b hb hit hin]
    refine Ct.by gok eok mixed func141 c141 rfl (by simp [ntmps141]) (by simp) (by simp [ResIds]) fun E hE => ?_
    simp [p141]
    refine pw_loopC (α := Nat) 0 (fun _ : Unit => ⟨slots [(0, .d (levsD s)), (1, vi x), (4, .lp 0 0), (5, vi r)], lk [(0, [vi 0, vi 0])], 1⟩) (fun _ => True) (fun i => ⟨slots [(0, .d (levsD s)), (1, vi x), (4, .lp 0 0), (5, vi i)], lk [(0, [vi 0, vi 0])], 1⟩) (fun i => i ≤ r) (fun i => r - i) 0 ?_ ?_ ?_ fun _ _ => ?_
    · omega
    · refine Weak.mk hE (lk [(0, 0)]) _ _ _ ?_ ?_ ?_ ?_ ?_ <;> simp
    · intro i hi
      have hIi : (i : Int) < s.length := by omega
      obtain ⟨z, hz⟩ : ∃ z, s[i]? = some z := ⟨_, List.getElem?_eq_getElem (by omega)⟩
      have hw : IntKind.wrap .i64 ((i : Int) + 1) = ((i + 1 : Nat) : Int) := by rw [wrap64 (by omega) (by omega)]; omega
      by_cases h2 : i < r
      · have hzx := hin i z h2 hz
        simp [p141l0, hz, hzx, hw]
        refine ⟨i + 1, by omega, by omega, ?_⟩
        refine Weak.mk hE (lk [(0, 0)]) _ _ _ ?_ ?_ ?_ ?_ ?_ <;> simp
      · have e : i = r := by omega
        subst e
        simp [p141l0, hb, hbnx]
        refine Weak.mk hE (lk [(0, 0)]) _ _ _ ?_ ?_ ?_ ?_ ?_ <;> simp
    simp [splice, hb, hit]
    refine RetOk.by (fun _ => none) ?_
    simp [results141]
  · have hr1 : 1 ≤ r := Nat.not_lt.1 fun h0 => by
      have : r = 0 := by omega
      subst this
      rw [he0] at hb; cases hb; omega
    obtain ⟨q, hq⟩ : ∃ q, r = q + 1 := ⟨r - 1, by omega⟩
    obtain ⟨a, ha⟩ : ∃ a, s[q]? = some a := ⟨_, List.getElem?_eq_getElem (by omega)⟩
    rw [prs_gap q s a b ha (by rw [← hq]; exact hb) (by omega) fun j z hj hz => hin j z (by omega) hz]
    have hax := hin q a (by omega) ha
    have hs := h.step q a b ha (by rw [← hq]; exact hb)
    have hal := (h.lev a (List.mem_of_getElem? ha)).1
    have hah := h.at' a (List.mem_of_getElem? ha)
    have ht := (tm_bd h (h.inS ha) (h.inS hb)).p
    have hw : IntKind.wrap .i64 ((r : Int) - 1) = (q : Int) := by rw [wrap64 (by omega) (by omega)]; omega
    have hw2 : IntKind.wrap .i64 (x - a.h) = x - a.h := wrap64 (by omega) (by omega)
    have hQ : (q : Int) < s.length := by omega
    have c2 := fn142 s a.h b.h (by omega) (by intro e; rw [e] at hlen; simp at hlen) (by omega)
    have c3 := fn213 a.pl a.ph (x - a.h) (tmS (knT s) a.h b.h).1 (tmS (knT s) a.h b.h).2 (by omega) (by omega) (by omega) ht
    refine Ct.by gok eok mixed func141 c141 rfl (by simp [ntmps141]) (by simp) (by simp [ResIds]) fun E hE => ?_
    simp [p141]
    refine pw_loopC (α := Nat) 0 (fun _ : Unit => ⟨slots [(0, .d (levsD s)), (1, vi x), (4, .lp 0 0), (5, vi r)], lk [(0, [vi 0, vi 0])], 1⟩) (fun _ => True) (fun i => ⟨slots [(0, .d (levsD s)), (1, vi x), (4, .lp 0 0), (5, vi i)], lk [(0, [vi 0, vi 0])], 1⟩) (fun i => i ≤ r) (fun i => r - i) 0 ?_ ?_ ?_ fun _ _ => ?_
    · omega
    · refine Weak.mk hE (lk [(0, 0)]) _ _ _ ?_ ?_ ?_ ?_ ?_ <;> simp
    · intro i hi
      have hIi : (i : Int) < s.length := by omega
      obtain ⟨z, hz⟩ : ∃ z, s[i]? = some z := ⟨_, List.getElem?_eq_getElem (by omega)⟩
      have hw : IntKind.wrap .i64 ((i : Int) + 1) = ((i + 1 : Nat) : Int) := by rw [wrap64 (by omega) (by omega)]; omega
      by_cases h2 : i < r
      · have hzx := hin i z h2 hz
        simp [p141l0, hz, hzx, hw]
        refine ⟨i + 1, by omega, by omega, ?_⟩
        refine Weak.mk hE (lk [(0, 0)]) _ _ _ ?_ ?_ ?_ ?_ ?_ <;> simp
      · have e : i = r := by omega
        subst e
        simp [p141l0, hb, hbnx]
        refine Weak.mk hE (lk [(0, 0)]) _ _ _ ?_ ?_ ?_ ?_ ?_ <;> simp
    simp [splice, ha, hb, hit, hw, hw2, inC, Nat.testBit]
    refine ACall.mk _ _ _ (c2) (by first | (simp; done) | simp [Bor_ls, Bor1_ls]) (by simp) (by first | (left; simp; done) | (right; simp; done)) ?_
    simp
    refine ACall.mk _ _ _ (c3) (by first | (simp; done) | simp [Bor_ls, Bor1_ls]) (by simp) (by first | (left; simp; done) | (right; simp; done)) ?_
    simp [splice, hb, inC, Nat.testBit]
    refine RetOk.by (fun _ => none) ?_
    simp [results141, lc, lw]
end Go.Proofs.Tryz
namespace Go.Proofs.Tryz
open Go.Psl
open Go.Air
set_option maxRecDepth 20000
set_option maxHeartbeats 8000000
theorem fn73 (l : List Lev) (a b : Int) (hl : l.length ≤ 1000000) : Ct prog 73 [.d (levsD l), vsp a b] (atV (atA l a b)) [] := by
  have c1 := fn139 l hl
  cases hk : okSnd l
  · rw [hk] at c1
    have e : atA l a b = (⟨0, 0, 0, 0⟩, 20) := by unfold atA; rw [hk]; rfl
    rw [e]
    refine Ct.by gok eok mixed func73 c73 rfl (by simp [ntmps73]) (by simp) (by simp [ResIds]) fun E hE => ?_
    simp [p73]
    refine ACall.mk _ _ _ (c1) (by first | (simp; done) | simp [Bor_ls, Bor1_ls]) (by simp) (by first | (left; simp; done) | (right; simp; done)) ?_
    simp [splice]
    refine RetOk.by (fun _ => none) ?_
    simp [results73]
  rw [hk] at c1
  have h := okSnd_iff.1 hk
  have hlen := h.len
  have c2 := fn140 (a, b)
  cases hs : okS (a, b)
  · rw [hs] at c2
    have e : atA l a b = (⟨0, 0, 0, 0⟩, 10) := by unfold atA; rw [hk, hs]; rfl
    rw [e]
    refine Ct.by gok eok mixed func73 c73 rfl (by simp [ntmps73]) (by simp) (by simp [ResIds]) fun E hE => ?_
    simp [p73]
    refine ACall.mk _ _ _ (c1) (by first | (simp; done) | simp [Bor_ls, Bor1_ls]) (by simp) (by first | (left; simp; done) | (right; simp; done)) ?_
    simp
    refine ACall.mk _ _ _ (c2) (by first | (simp; done) | simp [Bor_ls, Bor1_ls]) (by simp) (by first | (left; simp; done) | (right; simp; done)) ?_
    simp [splice]
    refine RetOk.by (fun _ => none) ?_
    simp [results73]
  rw [hs] at c2
  have hab := (okS_iff.1 hs).1
  simp only at hab
  obtain ⟨x, hx⟩ : ∃ x, l[0]? = some x := ⟨_, List.getElem?_eq_getElem (by omega)⟩
  obtain ⟨n, hn⟩ : ∃ n, n = l.length - 1 := ⟨_, rfl⟩
  obtain ⟨y, hy⟩ : ∃ y, l[n]? = some y := ⟨_, List.getElem?_eq_getElem (by omega)⟩
  have hw : IntKind.wrap .i64 ((l.length : Int) - 1) = (n : Int) := by rw [wrap64 (by omega) (by omega)]; omega
  have hI0 : (0 : Int) < l.length := by omega
  have hI : (n : Int) < l.length := by omega
  have ea : atA l a b = if rgB x.h y.h [a, b] then (if (setS l).2.2 = 0 then (airS (tmS (knT l)) (swp l) a b, 0) else (⟨0, 0, 0, 0⟩, (setS l).2.2)) else (⟨0, 0, 0, 0⟩, 2) := by
    unfold atA; rw [hk, hs, hx, ← hn, hy]; rfl
  by_cases g1 : a < x.h
  · have hr : rgB x.h y.h [a, b] = false := by
      cases e : rgB x.h y.h [a, b] with
      | false => rfl
      | true => have := rgB_two.1 e; omega
    rw [hr] at ea
    rw [ea]
    refine Ct.by gok eok mixed func73 c73 rfl (by simp [ntmps73]) (by simp) (by simp [ResIds]) fun E hE => ?_
    simp [p73]
    refine ACall.mk _ _ _ (c1) (by first | (simp; done) | simp [Bor_ls, Bor1_ls]) (by simp) (by first | (left; simp; done) | (right; simp; done)) ?_
    simp
    refine ACall.mk _ _ _ (c2) (by first | (simp; done) | simp [Bor_ls, Bor1_ls]) (by simp) (by first | (left; simp; done) | (right; simp; done)) ?_
    simp [splice, hx, g1, inC, Nat.testBit]
    refine RetOk.by (fun _ => none) ?_
    simp [results73]
  by_cases g2 : y.h < b
  · have hr : rgB x.h y.h [a, b] = false := by
      cases e : rgB x.h y.h [a, b] with
      | false => rfl
      | true => have := rgB_two.1 e; omega
    rw [hr] at ea
    rw [ea]
    refine Ct.by gok eok mixed func73 c73 rfl (by simp [ntmps73]) (by simp) (by simp [ResIds]) fun E hE => ?_
    simp [p73]
    refine ACall.mk _ _ _ (c1) (by first | (simp; done) | simp [Bor_ls, Bor1_ls]) (by simp) (by first | (left; simp; done) | (right; simp; done)) ?_
    simp
    refine ACall.mk _ _ _ (c2) (by first | (simp; done) | simp [Bor_ls, Bor1_ls]) (by simp) (by first | (left; simp; done) | (right; simp; done)) ?_
    simp [splice, hx, hy, hw, g1, g2, inC, Nat.testBit]
    refine RetOk.by (fun _ => none) ?_
    simp [results73]
  have hr : rgB x.h y.h [a, b] = true := rgB_two.2 (by omega)
  rw [hr, if_pos rfl] at ea
  have c3 := fn134 l hl
  by_cases hz : (setS l).2.2 = 0
  · rw [if_pos hz] at ea
    rw [ea]
    have hf := (set_zero h).1 hz
    have hS : setS l = (swp l, 0, 0) := by unfold setS; rw [hk, if_pos rfl, if_neg hf]
    rw [hS] at c3
    unfold setV at c3
    simp only at c3
    have hso := swp_ok h hf
    have hins : ∀ z, (z = a ∨ z = b) → inSp l z := fun z hzz => by
      refine ⟨fun k hk' => ?_, fun k hk' => ?_⟩
      · rw [hx] at hk'; cases hk'; rcases hzz with rfl | rfl <;> omega
      · rw [← hn, hy] at hk'; cases hk'; rcases hzz with rfl | rfl <;> omega
    have c5 := fn141 (swp l) b hso (swp_inS (hins b (Or.inr rfl)))
    have c6 := fn141 (swp l) a hso (swp_inS (hins a (Or.inl rfl)))
    have c8 := fn142 l a b hl (by intro e; rw [e] at hlen; simp at hlen) hab
    rw [swp_knT] at c5 c6
    refine Ct.by gok eok mixed func73 c73 rfl (by simp [ntmps73]) (by simp) (by simp [ResIds]) fun E hE => ?_
    simp [p73]
    refine ACall.mk _ _ _ (c1) (by first | (simp; done) | simp [Bor_ls, Bor1_ls]) (by simp) (by first | (left; simp; done) | (right; simp; done)) ?_
    simp
    refine ACall.mk _ _ _ (c2) (by first | (simp; done) | simp [Bor_ls, Bor1_ls]) (by simp) (by first | (left; simp; done) | (right; simp; done)) ?_
    simp [hx, hy, hw, g1, g2, inC, Nat.testBit]
    refine ACall.mk _ _ _ (c3) (by first | (simp; done) | simp [Bor_ls, Bor1_ls]) (by simp) (by first | (left; simp; done) | (right; simp; done)) ?_
    simp [inC, Nat.testBit]
    refine ACall.mk _ _ _ (c5) (by first | (simp; done) | simp [Bor_ls, Bor1_ls]) (by simp) (by first | (left; simp; done) | (right; simp; done)) ?_
    simp [inC, Nat.testBit]
    refine ACall.mk _ _ _ (c6) (by first | (simp; done) | simp [Bor_ls, Bor1_ls]) (by simp) (by first | (left; simp; done) | (right; simp; done)) ?_
    simp [splice, inC, Nat.testBit]
    refine ACall.mk _ _ _ (c8) (by first | (simp; done) | simp [Bor_ls, Bor1_ls]) (by simp) (by first | (left; simp; done) | (right; simp; done)) ?_
    simp [splice]
    refine RetOk.by (fun _ => none) ?_
    simp [results73, airS]
  · rw [if_neg hz] at ea
    rw [ea]
    unfold setV at c3
    generalize (setS l).2.2 = er at *
    generalize (setS l).2.1 = ei at *
    generalize (setS l).1 = es at *
    refine Ct.by gok eok mixed func73 c73 rfl (by simp [ntmps73]) (by simp) (by simp [ResIds]) fun E hE => ?_
    simp [p73]
    refine ACall.mk _ _ _ (c1) (by first | (simp; done) | simp [Bor_ls, Bor1_ls]) (by simp) (by first | (left; simp; done) | (right; simp; done)) ?_
    simp
    refine ACall.mk _ _ _ (c2) (by first | (simp; done) | simp [Bor_ls, Bor1_ls]) (by simp) (by first | (left; simp; done) | (right; simp; done)) ?_
    simp [hx, hy, hw, g1, g2, inC, Nat.testBit]
    refine ACall.mk _ _ _ (c3) (by first | (simp; done) | simp [Bor_ls, Bor1_ls]) (by simp) (by first | (left; simp; done) | (right; simp; done)) ?_
    simp [splice, hz]
    refine RetOk.by (fun _ => none) ?_
    simp [results73]
theorem fn135 (l : List Gal) (hl : l.length ≤ 1000000) : Ct prog 135 [.d (galsD l)] (vb (okWnd l)) [] := by
  have c1 := fn207 (l.length : Int) 1 16
  cases hn : rgB 1 16 [(l.length : Int)]
  · rw [hn] at c1
    have hbad : okWnd l = false := by unfold okWnd; simp [hn]
    refine Ct.by gok eok mixed func135 c135 rfl (by simp [ntmps135]) (by simp) (by simp [ResIds]) fun E hE => ?_
    simp [p135]
    refine ACall.mk _ _ _ (c1) (by first | (simp; done) | simp [Bor_ls, Bor1_ls]) (by simp) (by first | (left; simp; done) | (right; simp; done)) ?_
    simp
    refine RetOk.by (fun _ => none) ?_
    simp [results135, hbad]
  rw [hn] at c1
  refine Ct.by gok eok mixed func135 c135 rfl (by simp [ntmps135]) (by simp) (by simp [ResIds]) fun E hE => ?_
  simp [p135]
  refine ACall.mk _ _ _ (c1) (by first | (simp; done) | simp [Bor_ls, Bor1_ls]) (by simp) (by first | (left; simp; done) | (right; simp; done)) ?_
  simp
  refine pw_loop (α := Nat) (fun i => ⟨slots [(0, .d (galsD l)), (3, vi i)], lk [], 0⟩) (fun i => i ≤ l.length ∧ ∀ j, j < i → galB l j = true) (fun i => l.length - i) 0 ?_ ?_ ?_
  · exact ⟨by omega, fun j hj => by omega⟩
  · refine Weak.mk hE (lk []) _ _ _ ?_ ?_ ?_ ?_ ?_ <;> simp
  · rintro i ⟨hi, hg⟩
    by_cases h : i < l.length
    · obtain ⟨x, hx⟩ : ∃ x, l[i]? = some x := ⟨_, List.getElem?_eq_getElem h⟩
      have hz : IntKind.wrap .i64 ((i : Int) + 1) = ((i + 1 : Nat) : Int) := by rw [wrap64 (by omega) (by omega)]; omega
      have hI : (i : Int) < l.length := by omega
      have c2 := fn207 x.h (-500) 9000
      have c3 := fn207 x.g 0 500
      have c4 := fn208 x.xl x.xh (-1000) 1000
      have c5 := fn208 x.yl x.yh (-1000) 1000
      have eg : galB l i = (rgB (-500) 9000 [x.h] && (if i = 0 then true else match l[i - 1]? with | some y => decide (y.h < x.h) | none => true) && rgB 0 500 [x.g] && spB (-1000) 1000 x.xl x.xh && spB (-1000) 1000 x.yl x.yh) := by unfold galB; simp only [hx]; rfl
      have fin : galB l i = true → ∀ j, j < i + 1 → galB l j = true := fun he j hj => by
        by_cases e : j = i
        · rw [e]; exact he
        · exact hg j (by omega)
      generalize rgB (-500) 9000 [x.h] = b1 at *
      generalize rgB 0 500 [x.g] = b2 at *
      generalize spB (-1000) 1000 x.xl x.xh = b3 at *
      generalize spB (-1000) 1000 x.yl x.yh = b4 at *
      cases b1
      · have hbad := wnd_no h (by rw [eg]; rfl)
        simp [p135l0, hI, hx, splice, inC, Nat.testBit]
        refine ACall.mk _ _ _ (c2) (by first | (simp; done) | simp [Bor_ls, Bor1_ls]) (by simp) (by first | (left; simp; done) | (right; simp; done)) ?_
        simp
        refine RetOk.by (fun _ => none) ?_
        simp [results135, hbad]
      · by_cases h0 : i = 0
        · rw [if_pos h0] at eg
          have hI0 : ¬ 0 < i := by omega
          cases b3
          · have hbad := wnd_no h (by rw [eg]; simp)
            simp [p135l0, hI, hx, splice, inC, Nat.testBit]
            repeat ((first | (refine ACall.mk _ _ _ (c2) ?_ ?_ ?_ ?_; (focus (simp; done)); (focus (simp; done)); (focus (first | (left; simp; done) | (right; simp; done)))) | (refine ACall.mk _ _ _ (c4) ?_ ?_ ?_ ?_; (focus (simp; done)); (focus (simp; done)); (focus (first | (left; simp; done) | (right; simp; done)))) | (refine ACall.mk _ _ _ (c5) ?_ ?_ ?_ ?_; (focus (simp; done)); (focus (simp; done)); (focus (first | (left; simp; done) | (right; simp; done)))) | (refine ACall.mk _ _ _ (c3) ?_ ?_ ?_ ?_; (focus (simp; done)); (focus (simp; done)); (focus (first | (left; simp; done) | (right; simp; done))))); simp [hI0])
            refine RetOk.by (fun _ => none) ?_
            simp [results135, hbad]
          cases b4
          · have hbad := wnd_no h (by rw [eg]; simp)
            simp [p135l0, hI, hx, splice, inC, Nat.testBit]
            repeat ((first | (refine ACall.mk _ _ _ (c2) ?_ ?_ ?_ ?_; (focus (simp; done)); (focus (simp; done)); (focus (first | (left; simp; done) | (right; simp; done)))) | (refine ACall.mk _ _ _ (c4) ?_ ?_ ?_ ?_; (focus (simp; done)); (focus (simp; done)); (focus (first | (left; simp; done) | (right; simp; done)))) | (refine ACall.mk _ _ _ (c5) ?_ ?_ ?_ ?_; (focus (simp; done)); (focus (simp; done)); (focus (first | (left; simp; done) | (right; simp; done)))) | (refine ACall.mk _ _ _ (c3) ?_ ?_ ?_ ?_; (focus (simp; done)); (focus (simp; done)); (focus (first | (left; simp; done) | (right; simp; done))))); simp [hI0])
            refine RetOk.by (fun _ => none) ?_
            simp [results135, hbad]
          cases b2
          · have hbad := wnd_no h (by rw [eg]; simp)
            simp [p135l0, hI, hx, splice, inC, Nat.testBit]
            repeat ((first | (refine ACall.mk _ _ _ (c2) ?_ ?_ ?_ ?_; (focus (simp; done)); (focus (simp; done)); (focus (first | (left; simp; done) | (right; simp; done)))) | (refine ACall.mk _ _ _ (c4) ?_ ?_ ?_ ?_; (focus (simp; done)); (focus (simp; done)); (focus (first | (left; simp; done) | (right; simp; done)))) | (refine ACall.mk _ _ _ (c5) ?_ ?_ ?_ ?_; (focus (simp; done)); (focus (simp; done)); (focus (first | (left; simp; done) | (right; simp; done)))) | (refine ACall.mk _ _ _ (c3) ?_ ?_ ?_ ?_; (focus (simp; done)); (focus (simp; done)); (focus (first | (left; simp; done) | (right; simp; done))))); simp [hI0])
            refine RetOk.by (fun _ => none) ?_
            simp [results135, hbad]
          · have hok := fin (by rw [eg]; rfl)
            simp [p135l0, hI, hx, splice, inC, Nat.testBit]
            repeat ((first | (refine ACall.mk _ _ _ (c2) ?_ ?_ ?_ ?_; (focus (simp; done)); (focus (simp; done)); (focus (first | (left; simp; done) | (right; simp; done)))) | (refine ACall.mk _ _ _ (c4) ?_ ?_ ?_ ?_; (focus (simp; done)); (focus (simp; done)); (focus (first | (left; simp; done) | (right; simp; done)))) | (refine ACall.mk _ _ _ (c5) ?_ ?_ ?_ ?_; (focus (simp; done)); (focus (simp; done)); (focus (first | (left; simp; done) | (right; simp; done)))) | (refine ACall.mk _ _ _ (c3) ?_ ?_ ?_ ?_; (focus (simp; done)); (focus (simp; done)); (focus (first | (left; simp; done) | (right; simp; done))))); simp [hI0, hz])
            refine ⟨i + 1, ⟨by omega, hok⟩, by omega, ?_⟩
            refine Weak.mk hE (lk []) _ _ _ ?_ ?_ ?_ ?_ ?_ <;> simp
        · obtain ⟨y, hy⟩ : ∃ y, l[i - 1]? = some y := ⟨_, List.getElem?_eq_getElem (by omega)⟩
          have hw : IntKind.wrap .i64 ((i : Int) - 1) = ((i - 1 : Nat) : Int) := by rw [wrap64 (by omega) (by omega)]; omega
          have hI0 : 0 < i := by omega
          rw [if_neg h0, hy] at eg
          simp only at eg
          by_cases hc : x.h ≤ y.h
          · have hbad := wnd_no h (by rw [eg, decide_eq_false (by omega)]; simp)
            simp [p135l0, hI, hx, splice, inC, Nat.testBit]
            refine ACall.mk _ _ _ (c2) (by first | (simp; done) | simp [Bor_ls, Bor1_ls]) (by simp) (by first | (left; simp; done) | (right; simp; done)) ?_
            simp [hI0, hw, hy, hc, inC, Nat.testBit]
            refine RetOk.by (fun _ => none) ?_
            simp [results135, hbad]
          · rw [decide_eq_true (by omega : y.h < x.h)] at eg
            cases b3
            · have hbad := wnd_no h (by rw [eg]; simp)
              simp [p135l0, hI, hx, splice, inC, Nat.testBit]
              repeat ((first | (refine ACall.mk _ _ _ (c2) ?_ ?_ ?_ ?_; (focus (simp; done)); (focus (simp; done)); (focus (first | (left; simp; done) | (right; simp; done)))) | (refine ACall.mk _ _ _ (c4) ?_ ?_ ?_ ?_; (focus (simp; done)); (focus (simp; done)); (focus (first | (left; simp; done) | (right; simp; done)))) | (refine ACall.mk _ _ _ (c5) ?_ ?_ ?_ ?_; (focus (simp; done)); (focus (simp; done)); (focus (first | (left; simp; done) | (right; simp; done)))) | (refine ACall.mk _ _ _ (c3) ?_ ?_ ?_ ?_; (focus (simp; done)); (focus (simp; done)); (focus (first | (left; simp; done) | (right; simp; done))))); simp [inC, Nat.testBit, hI0, hw, hy, hc])
              refine RetOk.by (fun _ => none) ?_
              simp [results135, hbad]
            cases b4
            · have hbad := wnd_no h (by rw [eg]; simp)
              simp [p135l0, hI, hx, splice, inC, Nat.testBit]
              repeat ((first | (refine ACall.mk _ _ _ (c2) ?_ ?_ ?_ ?_; (focus (simp; done)); (focus (simp; done)); (focus (first | (left; simp; done) | (right; simp; done)))) | (refine ACall.mk _ _ _ (c4) ?_ ?_ ?_ ?_; (focus (simp; done)); (focus (simp; done)); (focus (first | (left; simp; done) | (right; simp; done)))) | (refine ACall.mk _ _ _ (c5) ?_ ?_ ?_ ?_; (focus (simp; done)); (focus (simp; done)); (focus (first | (left; simp; done) | (right; simp; done)))) | (refine ACall.mk _ _ _ (c3) ?_ ?_ ?_ ?_; (focus (simp; done)); (focus (simp; done)); (focus (first | (left; simp; done) | (right; simp; done))))); simp [inC, Nat.testBit, hI0, hw, hy, hc])
              refine RetOk.by (fun _ => none) ?_
              simp [results135, hbad]
            cases b2
            · have hbad := wnd_no h (by rw [eg]; simp)
              simp [p135l0, hI, hx, splice, inC, Nat.testBit]
              repeat ((first | (refine ACall.mk _ _ _ (c2) ?_ ?_ ?_ ?_; (focus (simp; done)); (focus (simp; done)); (focus (first | (left; simp; done) | (right; simp; done)))) | (refine ACall.mk _ _ _ (c4) ?_ ?_ ?_ ?_; (focus (simp; done)); (focus (simp; done)); (focus (first | (left; simp; done) | (right; simp; done)))) | (refine ACall.mk _ _ _ (c5) ?_ ?_ ?_ ?_; (focus (simp; done)); (focus (simp; done)); (focus (first | (left; simp; done) | (right; simp; done)))) | (refine ACall.mk _ _ _ (c3) ?_ ?_ ?_ ?_; (focus (simp; done)); (focus (simp; done)); (focus (first | (left; simp; done) | (right; simp; done))))); simp [inC, Nat.testBit, hI0, hw, hy, hc])
              refine RetOk.by (fun _ => none) ?_
              simp [results135, hbad]
            · have hok := fin (by rw [eg]; rfl)
              simp [p135l0, hI, hx, splice, inC, Nat.testBit]
              repeat ((first | (refine ACall.mk _ _ _ (c2) ?_ ?_ ?_ ?_; (focus (simp; done)); (focus (simp; done)); (focus (first | (left; simp; done) | (right; simp; done)))) | (refine ACall.mk _ _ _ (c4) ?_ ?_ ?_ ?_; (focus (simp; done)); (focus (simp; done)); (focus (first | (left; simp; done) | (right; simp; done)))) | (refine ACall.mk _ _ _ (c5) ?_ ?_ ?_ ?_; (focus (simp; done)); (focus (simp; done)); (focus (first | (left; simp; done) | (right; simp; done)))) | (refine ACall.mk _ _ _ (c3) ?_ ?_ ?_ ?_; (focus (simp; done)); (focus (simp; done)); (focus (first | (left; simp; done) | (right; simp; done))))); simp [inC, Nat.testBit, hI0, hw, hy, hc, hz])
              refine ⟨i + 1, ⟨by omega, hok⟩, by omega, ?_⟩
              refine Weak.mk hE (lk []) _ _ _ ?_ ?_ ?_ ?_ ?_ <;> simp
    · have e : i = l.length := by omega
      have hnn : ¬ (i : Int) < l.length := by omega
      have hall : okWnd l = true := by
        unfold okWnd
        rw [hn, Bool.true_and, List.all_eq_true]
        intro j hj
        exact hg j (by have : j < l.length := by simpa using hj
                       omega)
      simp [p135l0, hnn]
      refine RetOk.by (fun _ => none) ?_
      simp [results135, hall]
end Go.Proofs.Tryz
namespace Go.Proofs.Tryz
open Go.Psl
open Go.Air
set_option maxRecDepth 20000
set_option maxHeartbeats 8000000
theorem fn71 (k : Sky) (h1 : k.s.length ≤ 1000000) (h2 : k.w.length ≤ 1000000) : Ct prog 71 [skyV k] (vb (okSky k)) [] := by
  have c1 := fn134 k.s h1
  have c2 := fn135 k.w h2
  have e : okSky k = (decide ((setS k.s).2.2 = 0) && okWnd k.w) := rfl
  unfold setV at c1
  generalize (setS k.s).2.2 = er at *
  by_cases h : er = 0
  · rw [decide_eq_true h, Bool.true_and] at e
    refine Ct.by gok eok mixed func71 c71 rfl (by simp [ntmps71]) (by simp) (by simp [ResIds]) fun E hE => ?_
    simp [p71]
    refine ACall.mk _ _ _ (c1) (by first | (simp; done) | simp [Bor_ls, Bor1_ls]) (by simp) (by first | (left; simp; done) | (right; simp; done)) ?_
    simp [h]
    refine ACall.mk _ _ _ (c2) (by first | (simp; done) | simp [Bor_ls, Bor1_ls]) (by simp) (by first | (left; simp; done) | (right; simp; done)) ?_
    simp
    refine RetOk.by (fun _ => none) ?_
    simp [results71, e]
  · rw [decide_eq_false h, Bool.false_and] at e
    refine Ct.by gok eok mixed func71 c71 rfl (by simp [ntmps71]) (by simp) (by simp [ResIds]) fun E hE => ?_
    simp [p71]
    refine ACall.mk _ _ _ (c1) (by first | (simp; done) | simp [Bor_ls, Bor1_ls]) (by simp) (by first | (left; simp; done) | (right; simp; done)) ?_
    simp [h]
    refine RetOk.by (fun _ => none) ?_
    simp [results71, e]
theorem fn74 (s : Shp) (a : Atm) (hs : ShpB s) (ha : AirB a) : Ct prog 74 [shpV s (.d (cellsD s.gas.cs)), airV a] (vsp (hvS s a).1 (hvS s a).2) [] := by
  have q1 := hs.f; have q2 := hs.w; have q3 := hs.d; have q4 := hs.b; have q5 := hs.n
  have w1 : IntKind.wrap .i64 (s.dry + s.bal) = s.dry + s.bal := wrap64 (by omega) (by omega)
  have w2 : IntKind.wrap .i64 (s.dry + s.bal + s.fl) = s.dry + s.bal + s.fl := wrap64 (by omega) (by omega)
  have w3 : IntKind.wrap .i64 (s.dry + s.bal + s.fl + s.wl) = s.dry + s.bal + s.fl + s.wl := wrap64 (by omega) (by omega)
  have w4 : IntKind.wrap .i64 (s.dry + s.bal + s.fh) = s.dry + s.bal + s.fh := wrap64 (by omega) (by omega)
  have w5 : IntKind.wrap .i64 (s.dry + s.bal + s.fh + s.wh) = s.dry + s.bal + s.fh + s.wh := wrap64 (by omega) (by omega)
  have ho : (0 ≤ (hv0 s).1 ∧ (hv0 s).1 ≤ 4000000000) ∧ 0 ≤ (hv0 s).2 ∧ (hv0 s).2 ≤ 4000000000 := by unfold hv0; simp only; omega
  refine Ct.by gok eok mixed func74 c74 rfl (by simp [ntmps74]) (by simp) (by simp [ResIds]) fun E hE => ?_
  simp [p74, splice, w1, w2, w3, w4, w5]
  refine pw_loop (α := Nat) (fun i => ⟨slots [(2, .lp 3 0), (3, .lp 0 0), (4, .lp 1 0), (5, .lp 2 0), (6, vi i)], lk [(3, [vi s.xl, vi s.xh, vi s.yl, vi s.yh, vi s.hl, vi s.hh, vi s.fl, vi s.fh, vi s.wl, vi s.wh, vi s.bl, vi s.bh, vi s.dry, vi s.bal, vi s.drp, .d (cellsD s.gas.cs), vi s.gas.bt, vi s.gas.ih, vi s.gas.ia, vi s.gas.vh, vi s.gas.va, vi s.gas.lh, vi s.gas.la, vi s.gas.ph, vi s.gas.pa]), (0, [vi a.pl, vi a.ph, vi a.tl, vi a.th]), (1, [vi 0, vi 0]), (2, [vi (hvK a (s.gas.cs.take i) (hv0 s)).1, vi (hvK a (s.gas.cs.take i) (hv0 s)).2])], 4⟩) (fun i => i ≤ s.gas.cs.length) (fun i => s.gas.cs.length - i) 0 ?_ ?_ ?_
  · omega
  · refine Weak.mk hE (lk [(3, 0), (0, 1048576), (1, 2097152), (2, 31457280)]) _ _ _ ?_ ?_ ?_ ?_ ?_ <;> simp [hvK, hv0]
  · intro i hi
    by_cases h : i < s.gas.cs.length
    · obtain ⟨c, hc⟩ : ∃ c, s.gas.cs[i]? = some c := ⟨_, List.getElem?_eq_getElem h⟩
      have hz : IntKind.wrap .i64 ((i : Int) + 1) = ((i + 1 : Nat) : Int) := by rw [wrap64 (by omega) (by omega)]; omega
      have hI : (i : Int) < s.gas.cs.length := by omega
      have hcb := hs.c c (List.mem_of_getElem? hc)
      have c1 := fn143 c a hcb ha
      have hb := lift_bd hcb ha
      have hk := hvK_bd ha ho hs.c i hi
      have hnx := hvK_next (a := a) (o := hv0 s) hc
      generalize hvK a (s.gas.cs.take i) (hv0 s) = o at *
      have w6 : IntKind.wrap .i64 (o.1 - (liftV c a).2) = o.1 - (liftV c a).2 := wrap64 (by omega) (by omega)
      have w7 : IntKind.wrap .i64 (o.2 - (liftV c a).1) = o.2 - (liftV c a).1 := wrap64 (by omega) (by omega)
      simp [p74l0, hI]
      refine pw_drawW [(12, 17825796)] (by kernel_rfl) ?_
      simp [hc, inC, Nat.testBit]
      refine ACall.mk _ _ _ (c1) (by first | (simp; done) | simp [Bor_ls, Bor1_ls]) (by simp) (by first | (left; simp; done) | (right; simp; done)) ?_
      simp [splice, w6, w7, hz, inC, Nat.testBit]
      refine ⟨i + 1, by omega, by omega, ?_⟩
      rw [hnx]
      refine Weak.mk hE (lk [(3, 3), (0, 0), (1, 1), (2, 2)]) _ _ _ ?_ ?_ ?_ ?_ ?_ <;> simp
    · have e : i = s.gas.cs.length := by omega
      have hn : ¬ (i : Int) < s.gas.cs.length := by omega
      rw [e, List.take_length]
      simp [p74l0, splice]
      refine RetOk.by (fun _ => none) ?_
      simp [results74, hvS]
end Go.Proofs.Tryz
namespace Go.Proofs.Tryz
open Go.Psl
open Go.Air
set_option maxRecDepth 20000
set_option maxHeartbeats 8000000
theorem ask_ref (k : Sky) (s : Shp) : (okSky k = false → askS k s = 50) ∧ (okSky k = true → okShp s = false → askS k s = 52) ∧ (okSky k = true → okShp s = true → askS k s = 0) := by
  unfold askS
  refine ⟨fun h => by rw [h]; rfl, fun h h2 => by rw [h, h2]; rfl, fun h h2 => by rw [h, h2]; rfl⟩
theorem fn22 (k : Sky) (s : Shp) (h1 : k.s.length ≤ 1000000) (h2 : k.w.length ≤ 1000000) (h3 : s.gas.cs.length ≤ 1000000) : Ct prog 22 [skyV k, shpV s (.d (cellsD s.gas.cs))] (vse (hvA k s)) [] := by
  have c1 := fn71 k h1 h2
  have c2 := fn72 s h3
  have c4 := fn73 k.s s.hl s.hh h1
  obtain ⟨a1, a2, a3⟩ := ask_ref k s
  cases k1 : okSky k
  · have e : hvA k s = ((0, 0), 50) := by unfold hvA; rw [a1 k1]; rfl
    rw [k1] at c1
    rw [e]
    refine Ct.by gok eok mixed func22 c22 rfl (by simp [ntmps22]) (by simp) (by simp [ResIds]) fun E hE => ?_
    simp [p22]
    refine ACall.mk _ _ _ (c1) (by first | (simp; done) | simp [Bor_ls, Bor1_ls]) (by simp) (by first | (left; simp; done) | (right; simp; done)) ?_
    simp [splice]
    refine RetOk.by (fun _ => none) ?_
    simp [results22]
  rw [k1] at c1
  cases k2 : okShp s
  · have e : hvA k s = ((0, 0), 52) := by unfold hvA; rw [a2 k1 k2]; rfl
    rw [k2] at c2
    rw [e]
    refine Ct.by gok eok mixed func22 c22 rfl (by simp [ntmps22]) (by simp) (by simp [ResIds]) fun E hE => ?_
    simp [p22]
    refine ACall.mk _ _ _ (c1) (by first | (simp; done) | simp [Bor_ls, Bor1_ls]) (by simp) (by first | (left; simp; done) | (right; simp; done)) ?_
    simp
    refine ACall.mk _ _ _ (c2) (by first | (simp; done) | simp [Bor_ls, Bor1_ls]) (by simp) (by first | (left; simp; done) | (right; simp; done)) ?_
    simp [splice]
    refine RetOk.by (fun _ => none) ?_
    simp [results22]
  rw [k2] at c2
  have ha := a3 k1 k2
  by_cases he : (atA k.s s.hl s.hh).2 = 0
  · have e : hvA k s = (hvS s (atA k.s s.hl s.hh).1, 0) := by unfold hvA; rw [if_pos ha, if_pos he]
    have hb := okShp_B k2
    have c5 := fn74 s (atA k.s s.hl s.hh).1 hb (at_air (at_ok he))
    unfold atV at c4
    rw [he] at c4
    rw [e]
    generalize (atA k.s s.hl s.hh).1 = a at *
    refine Ct.by gok eok mixed func22 c22 rfl (by simp [ntmps22]) (by simp) (by simp [ResIds]) fun E hE => ?_
    simp [p22]
    refine ACall.mk _ _ _ (c1) (by first | (simp; done) | simp [Bor_ls, Bor1_ls]) (by simp) (by first | (left; simp; done) | (right; simp; done)) ?_
    simp
    refine ACall.mk _ _ _ (c2) (by first | (simp; done) | simp [Bor_ls, Bor1_ls]) (by simp) (by first | (left; simp; done) | (right; simp; done)) ?_
    simp
    refine ACall.mk _ _ _ (c4) (by first | (simp; done) | simp [Bor_ls, Bor1_ls]) (by simp) (by first | (left; simp; done) | (right; simp; done)) ?_
    simp [splice]
    refine ACall.mk _ _ _ (c5) (by first | (simp; done) | simp [Bor_ls, Bor1_ls]) (by simp) (by first | (left; simp; done) | (right; simp; done)) ?_
    simp [splice]
    refine RetOk.by (fun _ => none) ?_
    simp [results22]
  · have e : hvA k s = ((0, 0), (atA k.s s.hl s.hh).2) := by unfold hvA; rw [if_pos ha, if_neg he]
    rw [e]
    unfold atV at c4
    generalize (atA k.s s.hl s.hh).1 = a at *
    generalize (atA k.s s.hl s.hh).2 = er at *
    refine Ct.by gok eok mixed func22 c22 rfl (by simp [ntmps22]) (by simp) (by simp [ResIds]) fun E hE => ?_
    simp [p22]
    refine ACall.mk _ _ _ (c1) (by first | (simp; done) | simp [Bor_ls, Bor1_ls]) (by simp) (by first | (left; simp; done) | (right; simp; done)) ?_
    simp
    refine ACall.mk _ _ _ (c2) (by first | (simp; done) | simp [Bor_ls, Bor1_ls]) (by simp) (by first | (left; simp; done) | (right; simp; done)) ?_
    simp
    refine ACall.mk _ _ _ (c4) (by first | (simp; done) | simp [Bor_ls, Bor1_ls]) (by simp) (by first | (left; simp; done) | (right; simp; done)) ?_
    simp [splice, he]
    refine RetOk.by (fun _ => none) ?_
    simp [results22]
def nofit (a : Atm) (c : Cel) : Bool := !decide (fitV c a = 1)
theorem fn82 (s : Shp) (a : Atm) (hs : ShpB s) (ha : AirB a) : Ct prog 82 [shpV s (.d (cellsD s.gas.cs)), airV a] (vi (ixF (nofit a) s.gas.cs)) [] := by
  have q5 := hs.n
  refine Ct.by gok eok mixed func82 c82 rfl (by simp [ntmps82]) (by simp) (by simp [ResIds]) fun E hE => ?_
  simp [p82]
  refine pw_loop (α := Nat) (fun i => ⟨slots [(2, .lp 0 0), (3, .lp 1 0), (5, vi i)], lk [(0, [vi s.xl, vi s.xh, vi s.yl, vi s.yh, vi s.hl, vi s.hh, vi s.fl, vi s.fh, vi s.wl, vi s.wh, vi s.bl, vi s.bh, vi s.dry, vi s.bal, vi s.drp, .d (cellsD s.gas.cs), vi s.gas.bt, vi s.gas.ih, vi s.gas.ia, vi s.gas.vh, vi s.gas.va, vi s.gas.lh, vi s.gas.la, vi s.gas.ph, vi s.gas.pa]), (1, [vi a.pl, vi a.ph, vi a.tl, vi a.th])], 2⟩) (fun i => i ≤ s.gas.cs.length ∧ ∀ j, j < i → (s.gas.cs[j]?).all (fun c => !nofit a c) = true) (fun i => s.gas.cs.length - i) 0 ?_ ?_ ?_
  · exact ⟨by omega, fun j hj => by omega⟩
  · refine Weak.mk hE (lk [(0, 0), (1, 1048576)]) _ _ _ ?_ ?_ ?_ ?_ ?_ <;> simp
  · rintro i ⟨hi, hg3⟩
    have hg2 : ∀ (j : Nat) (c : Cel), j < i → s.gas.cs[j]? = some c → nofit a c = false := fun j c hj hc => by
      have := hg3 j hj
      rw [hc] at this
      have h9 : (!nofit a c) = true := this
      rw [Bool.not_eq_true'] at h9; exact h9
    by_cases h : i < s.gas.cs.length
    · obtain ⟨c, hc⟩ : ∃ c, s.gas.cs[i]? = some c := ⟨_, List.getElem?_eq_getElem h⟩
      have hz : IntKind.wrap .i64 ((i : Int) + 1) = ((i + 1 : Nat) : Int) := by rw [wrap64 (by omega) (by omega)]; omega
      have hI : (i : Int) < s.gas.cs.length := by omega
      have c1 := fn149 c a (hs.c c (List.mem_of_getElem? hc)) ha
      by_cases hf : fitV c a = 1
      · have hnf : nofit a c = false := by unfold nofit; rw [decide_eq_true hf]; rfl
        simp [p82l0, hI, hc, inC, Nat.testBit]
        refine ACall.mk _ _ _ (c1) (by first | (simp; done) | simp [Bor_ls, Bor1_ls]) (by simp) (by first | (left; simp; done) | (right; simp; done)) ?_
        simp [hf, hz]
        refine ⟨i + 1, ⟨by omega, fun j hj => ?_⟩, by omega, ?_⟩
        · by_cases e : j = i
          · subst e; rw [hc]
            show (!nofit a c) = true
            rw [hnf]; rfl
          · exact hg3 j (by omega)
        · refine Weak.mk hE (lk [(0, 0), (1, 1)]) _ _ _ ?_ ?_ ?_ ?_ ?_ <;> simp
      · have hnf : nofit a c = true := by unfold nofit; rw [decide_eq_false hf]; rfl
        have e : ixF (nofit a) s.gas.cs = i := ixF_some hc hnf hg2
        rw [e]
        simp [p82l0, hI, hc, inC, Nat.testBit]
        refine ACall.mk _ _ _ (c1) (by first | (simp; done) | simp [Bor_ls, Bor1_ls]) (by simp) (by first | (left; simp; done) | (right; simp; done)) ?_
        simp [hf]
        refine RetOk.by (fun _ => none) ?_
        simp [results82]
    · have hn : ¬ (i : Int) < s.gas.cs.length := by omega
      have e : ixF (nofit a) s.gas.cs = -1 := ixF_none fun j c hc => hg2 j c (by have := (List.getElem?_eq_some_iff.1 hc).1; omega) hc
      rw [e]
      simp [p82l0, hn]
      refine RetOk.by (fun _ => none) ?_
      simp [results82]
end Go.Proofs.Tryz
namespace Go.Proofs.Tryz
open Go.Psl
open Go.Air
set_option maxRecDepth 20000
set_option maxHeartbeats 8000000
theorem rvent0 (k : Sky) (s : Shp) (u v : Int) (h1 : k.s.length ≤ 1000000) (h2 : k.w.length ≤ 1000000) (h3 : s.gas.cs.length ≤ 1000000) : Ct prog 24 [skyV k, shpV s (.d (cellsD s.gas.cs)), vsp u v] (.tup [hdF 4 (vnA k s u v).1 0, vi (vnA k s u v).2]) (ouF actL (vnA k s u v).1 0) := by
  have c1 := fn71 k h1 h2
  have c2 := fn72 s h3
  have c4 := fn73 k.s u v h1
  obtain ⟨a1, a2, a3⟩ := ask_ref k s
  cases k1 : okSky k
  · have e : vnA k s u v = ([], 50) := by unfold vnA; rw [a1 k1]; rfl
    rw [k1] at c1
    rw [e]
    show Ct prog 24 _ (.tup [hdF 4 ([] : List Act) 0, vi 50]) (ouF actL [] 0)
    rw [hdF_nil, ouF_nil]
    refine Ct.by gok eok mixed func24 c24 rfl (by simp [ntmps24]) (by simp) (by simp [ResIds]) fun E hE => ?_
    simp [p24]
    refine ACall.mk _ _ _ (c1) (by first | (simp; done) | simp [Bor_ls, Bor1_ls]) (by simp) (by first | (left; simp; done) | (right; simp; done)) ?_
    simp
    refine RetOk.by (fun _ => none) ?_
    simp [results24]
  rw [k1] at c1
  cases k2 : okShp s
  · have e : vnA k s u v = ([], 52) := by unfold vnA; rw [a2 k1 k2]; rfl
    rw [k2] at c2
    rw [e]
    show Ct prog 24 _ (.tup [hdF 4 ([] : List Act) 0, vi 52]) (ouF actL [] 0)
    rw [hdF_nil, ouF_nil]
    refine Ct.by gok eok mixed func24 c24 rfl (by simp [ntmps24]) (by simp) (by simp [ResIds]) fun E hE => ?_
    simp [p24]
    refine ACall.mk _ _ _ (c1) (by first | (simp; done) | simp [Bor_ls, Bor1_ls]) (by simp) (by first | (left; simp; done) | (right; simp; done)) ?_
    simp
    refine ACall.mk _ _ _ (c2) (by first | (simp; done) | simp [Bor_ls, Bor1_ls]) (by simp) (by first | (left; simp; done) | (right; simp; done)) ?_
    simp
    refine RetOk.by (fun _ => none) ?_
    simp [results24]
  rw [k2] at c2
  have ha := a3 k1 k2
  by_cases he : (atA k.s u v).2 = 0
  · have e : vnA k s u v = (vnK (atA k.s u v).1 s.gas.cs s.gas.cs.length, 0) := by unfold vnA; rw [if_pos ha, if_pos he]
    have hb := okShp_B k2
    have hab := at_air (at_ok he)
    unfold atV at c4
    rw [he] at c4
    rw [e]
    generalize (atA k.s u v).1 = a at *
    have hn := hb.n
    obtain ⟨R, hR⟩ : ∃ R, vnK a s.gas.cs s.gas.cs.length = R := ⟨_, rfl⟩
    show Ct prog 24 _ (.tup [hdF 4 (vnK a s.gas.cs s.gas.cs.length) 0, vi 0]) (ouF actL (vnK a s.gas.cs s.gas.cs.length) 0)
    rw [hR]
    by_cases hne : R = []
    · rw [hne, hdF_nil, ouF_nil]
      refine Ct.by gok eok mixed func24 c24 rfl (by simp [ntmps24]) (by simp) (by simp [ResIds]) fun E hE => ?_
      simp [p24]
      refine ACall.mk _ _ _ (c1) (by first | (simp; done) | simp [Bor_ls, Bor1_ls]) (by simp) (by first | (left; simp; done) | (right; simp; done)) ?_
      simp
      refine ACall.mk _ _ _ (c2) (by first | (simp; done) | simp [Bor_ls, Bor1_ls]) (by simp) (by first | (left; simp; done) | (right; simp; done)) ?_
      simp
      refine ACall.mk _ _ _ (c4) (by first | (simp; done) | simp [Bor_ls, Bor1_ls]) (by simp) (by first | (left; simp; done) | (right; simp; done)) ?_
      simp [splice]
      refine pw_loop (α := Nat) (fun i => ⟨slots [(4, .lp 2 0), (8, .lp 0 0), (11, vi i), (10, hdF 4 (vnK a s.gas.cs i) 1)], lk ([(2, [vi s.xl, vi s.xh, vi s.yl, vi s.yh, vi s.hl, vi s.hh, vi s.fl, vi s.fh, vi s.wl, vi s.wh, vi s.bl, vi s.bh, vi s.dry, vi s.bal, vi s.drp, .d (cellsD s.gas.cs), vi s.gas.bt, vi s.gas.ih, vi s.gas.ia, vi s.gas.vh, vi s.gas.va, vi s.gas.lh, vi s.gas.la, vi s.gas.ph, vi s.gas.pa]), (0, [vi a.pl, vi a.ph, vi a.tl, vi a.th])] ++ ouF actL (vnK a s.gas.cs i) 1), 3⟩) (fun i => i ≤ s.gas.cs.length) (fun i => s.gas.cs.length - i) 0 ?_ ?_ ?_
      · omega
      · rw [show vnK a s.gas.cs 0 = [] from rfl, hdF_nil, ouF_nil]
        refine Weak.mk hE (lk [(2, 1048576), (0, 18874368)]) _ _ _ ?_ ?_ ?_ ?_ ?_ <;> simp
      · intro i hi
        by_cases h : i < s.gas.cs.length
        · obtain ⟨c, hc⟩ : ∃ c, s.gas.cs[i]? = some c := ⟨_, List.getElem?_eq_getElem h⟩
          have hz : IntKind.wrap .i64 ((i : Int) + 1) = ((i + 1 : Nat) : Int) := by rw [wrap64 (by omega) (by omega)]; omega
          have hI : (i : Int) < s.gas.cs.length := by omega
          have hcb := hb.c c (List.mem_of_getElem? hc)
          have cV := fn76 c a hcb hab
          have hnx := vnK_next (a := a) hc
          have hO := vnK_len (a := a) (l := s.gas.cs) i
          obtain ⟨O, hOe⟩ : ∃ O, vnK a s.gas.cs i = O := ⟨_, rfl⟩
          rw [hOe] at hnx hO
          rw [hOe]
          by_cases hp : 0 < (valV c a).2
          · rw [if_pos hp] at hnx
            by_cases hn0 : O = []
            · subst hn0
              rw [hdF_nil, ouF_nil]
              simp [p24l0, hI]
              refine pw_drawW [(12, 17825795)] (by kernel_rfl) ?_
              simp [hc, inC, Nat.testBit]
              refine ACall.mk _ _ _ (cV) (by first | (simp; done) | simp [Bor_ls, Bor1_ls]) (by simp) (by first | (left; simp; done) | (right; simp; done)) ?_
              simp [splice, repl, hp, hz, inC, Nat.testBit]
              refine ⟨i + 1, by omega, by omega, ?_⟩
              rw [hnx, hdF_ne (by simp), ouF_ne (by simp)]
              refine Weak.mk hE (lk [(2, 2), (0, 0), (1, 30408707)]) _ _ _ ?_ ?_ ?_ ?_ ?_ <;> simp [fcel]
            · have hsl := fcel_len hfa O
              have hwh := fcel_whole hfa O
              have n1 : (O.length + 1) * 32 ≤ 140737488355328 := by omega
              have n2 : O.length + 1 ≤ 9223372036854775807 := by omega
              rw [hdF_ne hn0, ouF_ne hn0]
              simp [p24l0, hI]
              refine pw_drawW [(12, 17825795)] (by kernel_rfl) ?_
              simp [hc, inC, Nat.testBit]
              refine ACall.mk _ _ _ (cV) (by first | (simp; done) | simp [Bor_ls, Bor1_ls]) (by simp) (by first | (left; simp; done) | (right; simp; done)) ?_
              simp [splice, repl, hp, hz, hsl, hwh, n1, n2, inC, Nat.testBit]
              refine ⟨i + 1, by omega, by omega, ?_⟩
              rw [hnx, hdF_ne (by simp), ouF_ne (by simp), fcel_one]
              refine Weak.mk hE (lk [(2, 2), (0, 0), (1, 30408707)]) _ _ _ ?_ ?_ ?_ ?_ ?_ <;> simp
          · rw [if_neg hp, List.append_nil] at hnx
            simp [p24l0, hI]
            refine pw_drawW [(12, 17825795)] (by kernel_rfl) ?_
            simp [hc, inC, Nat.testBit]
            refine ACall.mk _ _ _ (cV) (by first | (simp; done) | simp [Bor_ls, Bor1_ls]) (by simp) (by first | (left; simp; done) | (right; simp; done)) ?_
            simp [splice, hp, hz, inC, Nat.testBit]
            refine ⟨i + 1, by omega, by omega, ?_⟩
            rw [hnx]
            by_cases hn0 : O = []
            · subst hn0
              rw [hdF_nil, ouF_nil]
              refine Weak.mk hE (lk [(2, 2), (0, 0)]) _ _ _ ?_ ?_ ?_ ?_ ?_ <;> simp
            · rw [hdF_ne hn0, ouF_ne hn0]
              refine Weak.mk hE (lk [(2, 2), (0, 0), (1, 1)]) _ _ _ ?_ ?_ ?_ ?_ ?_ <;> simp
        · have ei : i = s.gas.cs.length := by omega
          have hI : ¬ (i : Int) < s.gas.cs.length := by omega
          rw [ei, hR]
          rw [hne, hdF_nil, ouF_nil]
          simp [p24l0]
          refine RetOk.by (fun _ => none) ?_
          simp [results24]
    · rw [hdF_ne hne, ouF_ne hne]
      refine Ct.by gok eok mixed func24 c24 rfl (by simp [ntmps24]) (by simp) (by simp [ResIds]) fun E hE => ?_
      simp [p24]
      refine ACall.mk _ _ _ (c1) (by first | (simp; done) | simp [Bor_ls, Bor1_ls]) (by simp) (by first | (left; simp; done) | (right; simp; done)) ?_
      simp
      refine ACall.mk _ _ _ (c2) (by first | (simp; done) | simp [Bor_ls, Bor1_ls]) (by simp) (by first | (left; simp; done) | (right; simp; done)) ?_
      simp
      refine ACall.mk _ _ _ (c4) (by first | (simp; done) | simp [Bor_ls, Bor1_ls]) (by simp) (by first | (left; simp; done) | (right; simp; done)) ?_
      simp [splice]
      refine pw_loop (α := Nat) (fun i => ⟨slots [(4, .lp 2 0), (8, .lp 0 0), (11, vi i), (10, hdF 4 (vnK a s.gas.cs i) 1)], lk ([(2, [vi s.xl, vi s.xh, vi s.yl, vi s.yh, vi s.hl, vi s.hh, vi s.fl, vi s.fh, vi s.wl, vi s.wh, vi s.bl, vi s.bh, vi s.dry, vi s.bal, vi s.drp, .d (cellsD s.gas.cs), vi s.gas.bt, vi s.gas.ih, vi s.gas.ia, vi s.gas.vh, vi s.gas.va, vi s.gas.lh, vi s.gas.la, vi s.gas.ph, vi s.gas.pa]), (0, [vi a.pl, vi a.ph, vi a.tl, vi a.th])] ++ ouF actL (vnK a s.gas.cs i) 1), 3⟩) (fun i => i ≤ s.gas.cs.length) (fun i => s.gas.cs.length - i) 0 ?_ ?_ ?_
      · omega
      · rw [show vnK a s.gas.cs 0 = [] from rfl, hdF_nil, ouF_nil]
        refine Weak.mk hE (lk [(2, 1048576), (0, 18874368)]) _ _ _ ?_ ?_ ?_ ?_ ?_ <;> simp
      · intro i hi
        by_cases h : i < s.gas.cs.length
        · obtain ⟨c, hc⟩ : ∃ c, s.gas.cs[i]? = some c := ⟨_, List.getElem?_eq_getElem h⟩
          have hz : IntKind.wrap .i64 ((i : Int) + 1) = ((i + 1 : Nat) : Int) := by rw [wrap64 (by omega) (by omega)]; omega
          have hI : (i : Int) < s.gas.cs.length := by omega
          have hcb := hb.c c (List.mem_of_getElem? hc)
          have cV := fn76 c a hcb hab
          have hnx := vnK_next (a := a) hc
          have hO := vnK_len (a := a) (l := s.gas.cs) i
          obtain ⟨O, hOe⟩ : ∃ O, vnK a s.gas.cs i = O := ⟨_, rfl⟩
          rw [hOe] at hnx hO
          rw [hOe]
          by_cases hp : 0 < (valV c a).2
          · rw [if_pos hp] at hnx
            by_cases hn0 : O = []
            · subst hn0
              rw [hdF_nil, ouF_nil]
              simp [p24l0, hI]
              refine pw_drawW [(12, 17825795)] (by kernel_rfl) ?_
              simp [hc, inC, Nat.testBit]
              refine ACall.mk _ _ _ (cV) (by first | (simp; done) | simp [Bor_ls, Bor1_ls]) (by simp) (by first | (left; simp; done) | (right; simp; done)) ?_
              simp [splice, repl, hp, hz, inC, Nat.testBit]
              refine ⟨i + 1, by omega, by omega, ?_⟩
              rw [hnx, hdF_ne (by simp), ouF_ne (by simp)]
              refine Weak.mk hE (lk [(2, 2), (0, 0), (1, 30408707)]) _ _ _ ?_ ?_ ?_ ?_ ?_ <;> simp [fcel]
            · have hsl := fcel_len hfa O
              have hwh := fcel_whole hfa O
              have n1 : (O.length + 1) * 32 ≤ 140737488355328 := by omega
              have n2 : O.length + 1 ≤ 9223372036854775807 := by omega
              rw [hdF_ne hn0, ouF_ne hn0]
              simp [p24l0, hI]
              refine pw_drawW [(12, 17825795)] (by kernel_rfl) ?_
              simp [hc, inC, Nat.testBit]
              refine ACall.mk _ _ _ (cV) (by first | (simp; done) | simp [Bor_ls, Bor1_ls]) (by simp) (by first | (left; simp; done) | (right; simp; done)) ?_
              simp [splice, repl, hp, hz, hsl, hwh, n1, n2, inC, Nat.testBit]
              refine ⟨i + 1, by omega, by omega, ?_⟩
              rw [hnx, hdF_ne (by simp), ouF_ne (by simp), fcel_one]
              refine Weak.mk hE (lk [(2, 2), (0, 0), (1, 30408707)]) _ _ _ ?_ ?_ ?_ ?_ ?_ <;> simp
          · rw [if_neg hp, List.append_nil] at hnx
            simp [p24l0, hI]
            refine pw_drawW [(12, 17825795)] (by kernel_rfl) ?_
            simp [hc, inC, Nat.testBit]
            refine ACall.mk _ _ _ (cV) (by first | (simp; done) | simp [Bor_ls, Bor1_ls]) (by simp) (by first | (left; simp; done) | (right; simp; done)) ?_
            simp [splice, hp, hz, inC, Nat.testBit]
            refine ⟨i + 1, by omega, by omega, ?_⟩
            rw [hnx]
            by_cases hn0 : O = []
            · subst hn0
              rw [hdF_nil, ouF_nil]
              refine Weak.mk hE (lk [(2, 2), (0, 0)]) _ _ _ ?_ ?_ ?_ ?_ ?_ <;> simp
            · rw [hdF_ne hn0, ouF_ne hn0]
              refine Weak.mk hE (lk [(2, 2), (0, 0), (1, 1)]) _ _ _ ?_ ?_ ?_ ?_ ?_ <;> simp
        · have ei : i = s.gas.cs.length := by omega
          have hI : ¬ (i : Int) < s.gas.cs.length := by omega
          rw [ei, hR]
          rw [hdF_ne hne, ouF_ne hne]
          simp [p24l0]
          refine RetOk.by (lk [(0, 1)]) ?_
          simp [results24]
  · have e : vnA k s u v = ([], (atA k.s u v).2) := by unfold vnA; rw [if_pos ha, if_neg he]
    rw [e]
    show Ct prog 24 _ (.tup [hdF 4 ([] : List Act) 0, vi (atA k.s u v).2]) (ouF actL [] 0)
    rw [hdF_nil, ouF_nil]
    unfold atV at c4
    generalize (atA k.s u v).1 = a at *
    generalize (atA k.s u v).2 = er at *
    refine Ct.by gok eok mixed func24 c24 rfl (by simp [ntmps24]) (by simp) (by simp [ResIds]) fun E hE => ?_
    simp [p24]
    refine ACall.mk _ _ _ (c1) (by first | (simp; done) | simp [Bor_ls, Bor1_ls]) (by simp) (by first | (left; simp; done) | (right; simp; done)) ?_
    simp
    refine ACall.mk _ _ _ (c2) (by first | (simp; done) | simp [Bor_ls, Bor1_ls]) (by simp) (by first | (left; simp; done) | (right; simp; done)) ?_
    simp
    refine ACall.mk _ _ _ (c4) (by first | (simp; done) | simp [Bor_ls, Bor1_ls]) (by simp) (by first | (left; simp; done) | (right; simp; done)) ?_
    simp [splice, he]
    refine RetOk.by (fun _ => none) ?_
    simp [results24]
theorem fn24 (k : Sky) (s : Shp) (u v : Int) (h1 : k.s.length ≤ 1000000) (h2 : k.w.length ≤ 1000000) (h3 : s.gas.cs.length ≤ 1000000) : Ct prog 24 [skyV k, shpV s (.d (cellsD s.gas.cs)), vsp u v] (.tup [.d (actsD (vnA k s u v).1), vi (vnA k s u v).2]) [] := by
  refine Cm.freeze (rvent0 k s u v h1 h2 h3) ?_
  have h := fz_fcel hfa (vnA k s u v).1
  generalize (vnA k s u v).1 = l at *
  exact ⟨h, Or.inl rfl, trivial⟩
end Go.Proofs.Tryz
