/- Contracts: what each function of the program computes, for the arguments that its theorem names; and from there the given statement. Conditions: those that each theorem states. -/
import Derived.Test.YtaedloehfgmcnaaRf
import Derived.Test.YtaedloehfgmcnaaF17
namespace Go.Proofs.Try
open Go.Psl
open Go.Geo (cross cyc InR box hullS Parted Tried dot)
set_option maxHeartbeats 16000000 in
set_option maxRecDepth 20000 in
theorem fn17 (hS : SortOk) (a b : List (Int × Int)) (p : Int × Int) (dx dy : Int) : Ct prog 17 [.d (spansD a), .d (spansD b), vsp p.1 p.2, vi dx, vi dy] (vb true) [] := by
  have k0 := fn58 hS
  refine Ct.by gok eok mixed func17 c17 rfl (by simp [ntmps17]) (by simp) (by simp [ResIds]) fun E hE => ?_
  simp [p17]
  refine ACall.mk _ _ _ (k0) (by first | (simp; done) | simp [Bor_ls, Bor1_ls]) (by simp) (by first | (left; simp; done) | (right; simp; done)) ?_
  simp
  refine ACall.mk _ _ _ (fn48 a) (by first | (simp; done) | simp [Bor_ls, Bor1_ls]) (by simp) (by first | (left; simp; done) | (right; simp; done)) ?_
  by_cases g1 : 80 < a.length
  · simp [g1]
    refine RetOk.by (fun _ => none) ?_
    simp [results17]
  simp [g1]
  refine ACall.mk _ _ _ (fn48 b) (by first | (simp; done) | simp [Bor_ls, Bor1_ls]) (by simp) (by first | (left; simp; done) | (right; simp; done)) ?_
  by_cases g2 : 80 < b.length
  · simp [g2]
    refine RetOk.by (fun _ => none) ?_
    simp [results17]
  have ca := fn55 hS a (by omega)
  have cb := fn55 hS b (by omega)
  have k1 := fn66 hS a b (by omega) (by omega)
  have k2 := fn66 hS b a (by omega) (by omega)
  cases ha : regS a
  · have e1 : apartS a b = (0, 0, 14) := by unfold apartS; rw [ha]; rfl
    have e2 : apartS b a = (0, 0, 14) := by unfold apartS; rw [ha, Bool.and_false]; rfl
    rw [e1] at k1
    rw [e2] at k2
    rw [ha] at ca
    simp [g2]
    repeat ((first | (refine ACall.mk _ _ _ (k1) ?_ ?_ ?_ ?_; (focus (simp; done)); (focus (simp; done)); (focus (first | (left; simp; done) | (right; simp; done)))) | (refine ACall.mk _ _ _ (k2) ?_ ?_ ?_ ?_; (focus (simp; done)); (focus (simp; done)); (focus (first | (left; simp; done) | (right; simp; done)))) | (refine ACall.mk _ _ _ (ca) ?_ ?_ ?_ ?_; (focus (simp; done)); (focus (simp; done)); (focus (first | (left; simp; done) | (right; simp; done))))); simp)
    refine RetOk.by (fun _ => none) ?_
    simp [results17]
  rw [ha] at ca
  cases hb : regS b
  · have e1 : apartS a b = (0, 0, 14) := by unfold apartS; rw [hb, Bool.and_false]; rfl
    have e2 : apartS b a = (0, 0, 14) := by unfold apartS; rw [hb]; rfl
    rw [e1] at k1
    rw [e2] at k2
    rw [hb] at cb
    simp [g2]
    repeat ((first | (refine ACall.mk _ _ _ (k1) ?_ ?_ ?_ ?_; (focus (simp; done)); (focus (simp; done)); (focus (first | (left; simp; done) | (right; simp; done)))) | (refine ACall.mk _ _ _ (k2) ?_ ?_ ?_ ?_; (focus (simp; done)); (focus (simp; done)); (focus (first | (left; simp; done) | (right; simp; done)))) | (refine ACall.mk _ _ _ (ca) ?_ ?_ ?_ ?_; (focus (simp; done)); (focus (simp; done)); (focus (first | (left; simp; done) | (right; simp; done)))) | (refine ACall.mk _ _ _ (cb) ?_ ?_ ?_ ?_; (focus (simp; done)); (focus (simp; done)); (focus (first | (left; simp; done) | (right; simp; done))))); simp)
    refine RetOk.by (fun _ => none) ?_
    simp [results17]
  rw [hb] at cb
  have la := regS_len ha
  have lb := regS_len hb
  have ba := regS_bd ha
  have bb := regS_bd hb
  have hsym := apart_sym ha hb
  have eA : apartS a b = match findP a b (candS a b) with | some d => (d.1, d.2, 0) | none => (0, 0, 6) := by unfold apartS; rw [ha, hb]; rfl
  have k3 := fn51 hS a p (by omega)
  have k4 := fn51 hS b p (by omega)
  have rEa : regE a = 0 := by unfold regE; rw [ha]; rfl
  have rEb : regE b = 0 := by unfold regE; rw [hb]; rfl
  rw [rEa] at k3
  rw [rEb] at k4
  have k5 := fn64 hS a b dx dy (by omega) (by omega)
  have hE02 : prtE a b dx dy = 0 ∨ prtE a b dx dy = 2 := by
    unfold prtE; rw [ha, hb]
    cases strS dx dy
    · right; rfl
    · left; rfl
  cases hf : findP a b (candS a b) with
  | none =>
    rw [hf] at eA
    replace eA : apartS a b = (0, 0, 6) := eA
    have hno := (find_none ha hb).1 hf
    have hv : prtV a b dx dy = false := by
      unfold prtV
      have : prtS a b dx dy = false := by
        rw [← Bool.not_eq_true, prt_iff (by omega) (by omega)]; exact hno _
      rw [this, Bool.and_false]
    rw [hv] at k5
    rw [eA] at hsym k1
    obtain ⟨fx, fy, fe, hfe⟩ : ∃ fx fy fe, apartS b a = (fx, fy, fe) := ⟨_, _, _, rfl⟩
    rw [hfe] at k2 hsym
    simp only at hsym
    subst hsym
    rcases hE02 with h5 | h5
    · rw [h5] at k5
      simp [g2]
      repeat ((first | (refine ACall.mk _ _ _ (k1) ?_ ?_ ?_ ?_; (focus (simp; done)); (focus (simp; done)); (focus (first | (left; simp; done) | (right; simp; done)))) | (refine ACall.mk _ _ _ (k2) ?_ ?_ ?_ ?_; (focus (simp; done)); (focus (simp; done)); (focus (first | (left; simp; done) | (right; simp; done)))) | (refine ACall.mk _ _ _ (ca) ?_ ?_ ?_ ?_; (focus (simp; done)); (focus (simp; done)); (focus (first | (left; simp; done) | (right; simp; done)))) | (refine ACall.mk _ _ _ (cb) ?_ ?_ ?_ ?_; (focus (simp; done)); (focus (simp; done)); (focus (first | (left; simp; done) | (right; simp; done)))) | (refine ACall.mk _ _ _ (k3) ?_ ?_ ?_ ?_; (focus (simp; done)); (focus (simp; done)); (focus (first | (left; simp; done) | (right; simp; done)))) | (refine ACall.mk _ _ _ (k4) ?_ ?_ ?_ ?_; (focus (simp; done)); (focus (simp; done)); (focus (first | (left; simp; done) | (right; simp; done)))) | (refine ACall.mk _ _ _ (k5) ?_ ?_ ?_ ?_; (focus (simp; done)); (focus (simp; done)); (focus (first | (left; simp; done) | (right; simp; done))))); simp)
      refine RetOk.by (fun _ => none) ?_
      simp [results17]
    · rw [h5] at k5
      simp [g2]
      repeat ((first | (refine ACall.mk _ _ _ (k1) ?_ ?_ ?_ ?_; (focus (simp; done)); (focus (simp; done)); (focus (first | (left; simp; done) | (right; simp; done)))) | (refine ACall.mk _ _ _ (k2) ?_ ?_ ?_ ?_; (focus (simp; done)); (focus (simp; done)); (focus (first | (left; simp; done) | (right; simp; done)))) | (refine ACall.mk _ _ _ (ca) ?_ ?_ ?_ ?_; (focus (simp; done)); (focus (simp; done)); (focus (first | (left; simp; done) | (right; simp; done)))) | (refine ACall.mk _ _ _ (cb) ?_ ?_ ?_ ?_; (focus (simp; done)); (focus (simp; done)); (focus (first | (left; simp; done) | (right; simp; done)))) | (refine ACall.mk _ _ _ (k3) ?_ ?_ ?_ ?_; (focus (simp; done)); (focus (simp; done)); (focus (first | (left; simp; done) | (right; simp; done)))) | (refine ACall.mk _ _ _ (k4) ?_ ?_ ?_ ?_; (focus (simp; done)); (focus (simp; done)); (focus (first | (left; simp; done) | (right; simp; done)))) | (refine ACall.mk _ _ _ (k5) ?_ ?_ ?_ ?_; (focus (simp; done)); (focus (simp; done)); (focus (first | (left; simp; done) | (right; simp; done))))); simp)
      refine RetOk.by (fun _ => none) ?_
      simp [results17]
  | some d =>
    rw [hf] at eA
    replace eA : apartS a b = (d.1, d.2, 0) := eA
    obtain ⟨hp, hdm⟩ := find_some hf
    have hbd := cand_bd ba bb (reg_hull ha).2 (reg_hull hb).2 d hdm
    have hs : strS d.1 d.2 = true := strS_iff.2 hbd
    have hbn : bd 1073741824 (-d.1, -d.2) := by unfold bd at *; simp only at *; omega
    have hsn : strS (-d.1) (-d.2) = true := strS_iff.2 hbn
    rw [eA] at hsym k1
    obtain ⟨fx, fy, fe, hfe⟩ : ∃ fx fy fe, apartS b a = (fx, fy, fe) := ⟨_, _, _, rfl⟩
    rw [hfe] at k2 hsym
    simp only at hsym
    subst hsym
    have k6 := fn64 hS a b d.1 d.2 (by omega) (by omega)
    have e6 : prtE a b d.1 d.2 = 0 := by unfold prtE; rw [ha, hb, hs]; rfl
    have v6 : prtV a b d.1 d.2 = true := by unfold prtV; rw [e6, hp]; rfl
    rw [e6, v6] at k6
    have k7 := fn60 hS a d.1 d.2 (by omega)
    have k8 := fn60 hS b (-d.1) (-d.2) (by omega)
    have e7 : reachE a d.1 d.2 = 0 := by unfold reachE; rw [ha, hs]; rfl
    have e8 : reachE b (-d.1) (-d.2) = 0 := by unfold reachE; rw [hb, hsn]; rfl
    have v7 : reachV a d.1 d.2 = (alongS a d.1 d.2).2 := by unfold reachV; rw [if_pos e7]
    have v8 : reachV b (-d.1) (-d.2) = -(alongS b d.1 d.2).1 := by unfold reachV; rw [if_pos e8, al_neg (by omega)]
    rw [e7, v7] at k7
    rw [e8, v8] at k8
    have hlt : (alongS a d.1 d.2).2 < (alongS b d.1 d.2).1 := by unfold prtS at hp; rwa [decide_eq_true_eq] at hp
    have hbn2 : -1152921504606846976 ≤ (alongS b d.1 d.2).1 ∧ (alongS b d.1 d.2).1 ≤ 1152921504606846976 := by
      obtain ⟨_, q, hq, e⟩ := al_at (dx := d.1) (dy := d.2) (l := b) (by omega)
      have k := dot_bd hbd (bd_mono (bb q hq) (by omega))
      unfold dotS at e
      omega
    have w1 : IntKind.wrap .i64 (-d.1) = -d.1 := by unfold bd at hbd; exact wrap64 (by omega) (by omega)
    have w2 : IntKind.wrap .i64 (-d.2) = -d.2 := by unfold bd at hbd; exact wrap64 (by omega) (by omega)
    have w3 : IntKind.wrap .i64 (alongS b d.1 d.2).1 = (alongS b d.1 d.2).1 := wrap64 (by omega) (by omega)
    have hnb : (inV a p && inV b p) = false := by
      have := not_both ha hb hp p
      unfold inV
      rw [ha, hb]
      cases okC p
      · rfl
      · simpa using this
    obtain ⟨I1, hI1⟩ : ∃ I1, inV a p = I1 := ⟨_, rfl⟩
    obtain ⟨I2, hI2⟩ : ∃ I2, inV b p = I2 := ⟨_, rfl⟩
    rw [hI1] at k3 hnb
    rw [hI2] at k4 hnb
    rcases hE02 with h5 | h5
    · rw [h5] at k5
      simp [g2]
      repeat ((first | (refine ACall.mk _ _ _ (k1) ?_ ?_ ?_ ?_; (focus (simp; done)); (focus (simp; done)); (focus (first | (left; simp; done) | (right; simp; done)))) | (refine ACall.mk _ _ _ (k2) ?_ ?_ ?_ ?_; (focus (simp; done)); (focus (simp; done)); (focus (first | (left; simp; done) | (right; simp; done)))) | (refine ACall.mk _ _ _ (ca) ?_ ?_ ?_ ?_; (focus (simp; done)); (focus (simp; done)); (focus (first | (left; simp; done) | (right; simp; done)))) | (refine ACall.mk _ _ _ (cb) ?_ ?_ ?_ ?_; (focus (simp; done)); (focus (simp; done)); (focus (first | (left; simp; done) | (right; simp; done)))) | (refine ACall.mk _ _ _ (k3) ?_ ?_ ?_ ?_; (focus (simp; done)); (focus (simp; done)); (focus (first | (left; simp; done) | (right; simp; done)))) | (refine ACall.mk _ _ _ (k4) ?_ ?_ ?_ ?_; (focus (simp; done)); (focus (simp; done)); (focus (first | (left; simp; done) | (right; simp; done)))) | (refine ACall.mk _ _ _ (k5) ?_ ?_ ?_ ?_; (focus (simp; done)); (focus (simp; done)); (focus (first | (left; simp; done) | (right; simp; done)))) | (refine ACall.mk _ _ _ (k6) ?_ ?_ ?_ ?_; (focus (simp; done)); (focus (simp; done)); (focus (first | (left; simp; done) | (right; simp; done)))) | (refine ACall.mk _ _ _ (k7) ?_ ?_ ?_ ?_; (focus (simp; done)); (focus (simp; done)); (focus (first | (left; simp; done) | (right; simp; done)))) | (refine ACall.mk _ _ _ (k8) ?_ ?_ ?_ ?_; (focus (simp; done)); (focus (simp; done)); (focus (first | (left; simp; done) | (right; simp; done))))); simp [w1, w2, w3, hlt])
      cases I1
      · (try simp)
        refine RetOk.by (fun _ => none) ?_
        simp [results17]
      · rw [Bool.true_and] at hnb
        subst hnb
        (try simp)
        refine RetOk.by (fun _ => none) ?_
        simp [results17]
    · rw [h5] at k5
      simp [g2]
      repeat ((first | (refine ACall.mk _ _ _ (k1) ?_ ?_ ?_ ?_; (focus (simp; done)); (focus (simp; done)); (focus (first | (left; simp; done) | (right; simp; done)))) | (refine ACall.mk _ _ _ (k2) ?_ ?_ ?_ ?_; (focus (simp; done)); (focus (simp; done)); (focus (first | (left; simp; done) | (right; simp; done)))) | (refine ACall.mk _ _ _ (ca) ?_ ?_ ?_ ?_; (focus (simp; done)); (focus (simp; done)); (focus (first | (left; simp; done) | (right; simp; done)))) | (refine ACall.mk _ _ _ (cb) ?_ ?_ ?_ ?_; (focus (simp; done)); (focus (simp; done)); (focus (first | (left; simp; done) | (right; simp; done)))) | (refine ACall.mk _ _ _ (k3) ?_ ?_ ?_ ?_; (focus (simp; done)); (focus (simp; done)); (focus (first | (left; simp; done) | (right; simp; done)))) | (refine ACall.mk _ _ _ (k4) ?_ ?_ ?_ ?_; (focus (simp; done)); (focus (simp; done)); (focus (first | (left; simp; done) | (right; simp; done)))) | (refine ACall.mk _ _ _ (k5) ?_ ?_ ?_ ?_; (focus (simp; done)); (focus (simp; done)); (focus (first | (left; simp; done) | (right; simp; done)))) | (refine ACall.mk _ _ _ (k6) ?_ ?_ ?_ ?_; (focus (simp; done)); (focus (simp; done)); (focus (first | (left; simp; done) | (right; simp; done)))) | (refine ACall.mk _ _ _ (k7) ?_ ?_ ?_ ?_; (focus (simp; done)); (focus (simp; done)); (focus (first | (left; simp; done) | (right; simp; done)))) | (refine ACall.mk _ _ _ (k8) ?_ ?_ ?_ ?_; (focus (simp; done)); (focus (simp; done)); (focus (first | (left; simp; done) | (right; simp; done))))); simp [w1, w2, w3, hlt])
      cases I1
      · (try simp)
        refine RetOk.by (fun _ => none) ?_
        simp [results17]
      · rw [Bool.true_and] at hnb
        subst hnb
        (try simp)
        refine RetOk.by (fun _ => none) ?_
        simp [results17]
end Go.Proofs.Try
