/- Own lemmas and contracts of functions, used by the last text of this claim for the given statement. Conditions: those that each theorem states. -/
import Derived.Test.YtigekgfbcfbobaaGreatBg
import Derived.Test.YtigekgfbcfbobaaGreatBf
import Derived.Test.YtigekgfbcfbobaaGreatBe
import Derived.Test.YtigekgfbcfbobaaGreatRows
namespace Go.Proofs.Tryz
open Go.Psl
open Go.Air
theorem fn161 (x : Lev) : Ct prog 161 [levV x] (vb (decide (x.ph < x.pl))) [] := by
  refine Ct.by gok eok mixed func161 c161 rfl (by simp [ntmps161]) (by simp) (by simp [ResIds]) fun E hE => ?_
  simp [p161]
  refine RetOk.by (fun _ => none) ?_
  simp [results161]
def setS (l : List Lev) : List Lev × Int × Int :=
  if okSnd l then (if 0 ≤ ixF (fun x : Lev => decide (x.ph < x.pl)) (swp l) then ([], ixF (fun x : Lev => decide (x.ph < x.pl)) (swp l), 21) else (swp l, 0, 0)) else ([], 0, 20)
abbrev setV (r : List Lev × Int × Int) : V := .tup [.d (levsD r.1), vi r.2.1, vi r.2.2]
theorem settle_bad (l : List Lev) (hl : l.length ≤ 1000000) (h : okSnd l = false) : Ct prog 88 [.d (levsD l)] (.tup [.d (.lit (.slice none 0 0)), vi 0, vi 20]) [] := by
  have c1 := fn119 l hl
  rw [h] at c1
  refine Ct.by gok eok mixed func88 c88 rfl (by simp [ntmps88]) (by simp) (by simp [ResIds]) fun E hE => ?_
  simp [p88]
  refine ACall.mk _ _ _ (c1) (by first | (simp; done) | simp [Bor_ls, Bor1_ls]) (by simp) (by first | (left; simp; done) | (right; simp; done)) ?_
  simp
  refine RetOk.by (fun _ => none) ?_
  simp [results88]
theorem bw_nil {ws : List Lev} (h : ws = []) : ∀ H : Hp, Bor H (.d (.lit (.slice none 0 0))) (.d (levsD ws)) := fun H => by
  subst h; exact Or.inr ⟨rfl, 5, rfl⟩
theorem bw_blk {ws : List Lev} {n : Nat} {b : Nat} (h : ws.length = n) : ∀ H : Hp, H b = some (fcel levL ws) → Bor H (.ls b 0 n 5) (.d (levsD ws)) := fun H hh => by
  subst h; exact bor_fcel (f := levL) hfl (l := ws) hh
set_option maxRecDepth 20000 in
set_option maxHeartbeats 4000000 in
theorem settle_first (l : List Lev) (h : OkS l) (m : List Lev) (SU SD : Nat → List Lev) (hlm : m.length = l.length) (hU : StU (knT l) l.length SU) (hD : StD (knT l) l.length SD) (lU : ∀ i, (SU i).length = l.length) (lD : ∀ i, (SD i).length = l.length) (e0 : SU 0 = m) (e1 : SU (l.length - 1) = SD (l.length - 1)) (e2 : SD 0 = swp l) (ws : List Lev) (hws : ws = []) (hd : decide (ws = m) = false) (k : Nat) (hk : k < 2) {E : Ent} (hE : ∀ i, ¬ E.stab i) (C : Nat → St) (hC : C (k + 1) = ⟨slots [(6, .lp 0 0), (8, .cl 156 [.lp 0 0, .lp 2 0]), (9, .ls 3 0 l.length 5)], lk [(0, [.ls 1 0 l.length 5]), (2, [.d (thD (knT l))]), (1, fcel levL (swp l)), (3, fcel levL m)], 4⟩) {Q : AExit → St → Prop} : PW prog tys eqs E p88l2
    (seqQ (fun st' => ∃ j, j ≤ 2 ∧ 2 - j < 2 - k ∧ Weak prog E st' (C j)) Q)
    ⟨slots [(6, .lp 0 0), (8, .cl 156 [.lp 0 0, .lp 2 0]), (9, .d (.lit (.slice none 0 0)))], lk [(0, [.ls 1 0 l.length 5]), (2, [.d (thD (knT l))]), (1, fcel levL m)], 3⟩ := by
  have bw := bw_nil hws
  have hlen := h.len
  have c1 := fn159 ws m (by first | (rw [hws]; simp; done) | omega) (by omega)
  rw [hd] at c1
  have hm0 : m ≠ [] := by intro e; rw [e] at hlm; simp at hlm; omega
  have c2 := fn155 m (by omega) hm0
  rw [hlm] at c2
  have bm : ∀ H : Hp, H 1 = some (fcel levL m) → Bor H (.ls 1 0 l.length 5) (.d (levsD m)) := fun H hh => by
    have := bor_fcel (f := levL) hfl (l := m) hh
    rw [hlm] at this; exact this
  have hn1 : IntKind.wrap .i64 ((l.length : Int) - 1) = (l.length : Int) - 1 := wrap64 (by omega) (by omega)
  simp [p88l2]
  refine ACall.mk _ _ _ (c1) (by simp [bw, bm]) (by simp) (by first | (left; simp; done) | (right; simp; done)) ?_
  simp
  refine ACall.mk _ _ _ (c2) (by simp [bm]) (by simp) (by first | (left; simp; done) | (right; simp; done) | (right; simp; exact of_eq_true acl_lev)) ?_
  simp [hn1]
  refine pw_loopC (α := Nat) 2 (fun _ : Unit => ⟨slots [(6, .lp 0 0), (8, .cl 156 [.lp 0 0, .lp 2 0]), (9, .ls 3 0 l.length 5)], lk [(0, [.ls 1 0 l.length 5]), (2, [.d (thD (knT l))]), (3, fcel levL m), (1, fcel levL (SU (l.length - 1)))], 4⟩) (fun _ => True) (fun j => ⟨slots [(6, .lp 0 0), (8, .cl 156 [.lp 0 0, .lp 2 0]), (9, .ls 3 0 l.length 5), (31, vi ((l.length : Int) - 1)), (32, vi j)], lk [(0, [.ls 1 0 l.length 5]), (2, [.d (thD (knT l))]), (3, fcel levL m), (1, fcel levL (SU j))], 4⟩) (fun j => j ≤ l.length - 1) (fun j => l.length - 1 - j) 0 ?_ ?_ (settle_up (knT l) m l.length SU (by rw [knT_len]; omega) (by omega) lU hU hE) fun _ _ => ?_
  · omega
  · rw [e0]
    refine Weak.mk hE (lk [(0, 0), (1, 1), (2, 2), (3, 5242883)]) _ _ _ ?_ ?_ ?_ ?_ ?_ <;> simp
  · simp [hn1]
    refine pw_loopC (α := Nat) 4 (fun _ : Unit => ⟨slots [(6, .lp 0 0), (8, .cl 156 [.lp 0 0, .lp 2 0]), (9, .ls 3 0 l.length 5)], lk [(0, [.ls 1 0 l.length 5]), (2, [.d (thD (knT l))]), (3, fcel levL m), (1, fcel levL (SD 0))], 4⟩) (fun _ => True) (fun j => ⟨slots [(6, .lp 0 0), (8, .cl 156 [.lp 0 0, .lp 2 0]), (9, .ls 3 0 l.length 5), (11, vi j)], lk [(0, [.ls 1 0 l.length 5]), (2, [.d (thD (knT l))]), (3, fcel levL m), (1, fcel levL (SD j))], 4⟩) (fun j => j ≤ l.length - 1) (fun j => j) (l.length - 1) ?_ ?_ (settle_dn (knT l) m l.length SD (by rw [knT_len]; omega) (by omega) lD hD hE) fun _ _ => ?_
    · omega
    · rw [← e1]
      have hc : ((l.length - 1 : Nat) : Int) = (l.length : Int) - 1 := by omega
      rw [hc]
      refine Weak.mk hE (lk [(0, 0), (1, 1), (2, 2), (3, 3)]) _ _ _ ?_ ?_ ?_ ?_ ?_ <;> simp
    · rw [e2]
      simp
      refine ⟨k + 1, by omega, by omega, ?_⟩
      rw [hC]
      refine Weak.mk hE (lk [(0, 0), (1, 1), (2, 2), (3, 3)]) _ _ _ ?_ ?_ ?_ ?_ ?_ <;> simp
set_option maxRecDepth 20000 in
set_option maxHeartbeats 4000000 in
theorem settle_more (l : List Lev) (h : OkS l) (m : List Lev) (SU SD : Nat → List Lev) (hlm : m.length = l.length) (hU : StU (knT l) l.length SU) (hD : StD (knT l) l.length SD) (lU : ∀ i, (SU i).length = l.length) (lD : ∀ i, (SD i).length = l.length) (e0 : SU 0 = m) (e1 : SU (l.length - 1) = SD (l.length - 1)) (e2 : SD 0 = swp l) (ws : List Lev) (hws : ws.length = l.length) (hd : decide (ws = m) = false) (k : Nat) (hk : k < 2) {E : Ent} (hE : ∀ i, ¬ E.stab i) (C : Nat → St) (hC : C (k + 1) = ⟨slots [(6, .lp 0 0), (8, .cl 156 [.lp 0 0, .lp 2 0]), (9, .ls 3 0 l.length 5)], lk [(0, [.ls 1 0 l.length 5]), (2, [.d (thD (knT l))]), (1, fcel levL (swp l)), (3, fcel levL m)], 4⟩) {Q : AExit → St → Prop} : PW prog tys eqs E p88l2
    (seqQ (fun st' => ∃ j, j ≤ 2 ∧ 2 - j < 2 - k ∧ Weak prog E st' (C j)) Q)
    ⟨slots [(6, .lp 0 0), (8, .cl 156 [.lp 0 0, .lp 2 0]), (9, .ls 3 0 l.length 5)], lk [(0, [.ls 1 0 l.length 5]), (2, [.d (thD (knT l))]), (1, fcel levL m), (3, fcel levL ws)], 4⟩ := by
  have bw := bw_blk (b := 3) hws
  have hlen := h.len
  have c1 := fn159 ws m (by first | (rw [hws]; simp; done) | omega) (by omega)
  rw [hd] at c1
  have hm0 : m ≠ [] := by intro e; rw [e] at hlm; simp at hlm; omega
  have c2 := fn155 m (by omega) hm0
  rw [hlm] at c2
  have bm : ∀ H : Hp, H 1 = some (fcel levL m) → Bor H (.ls 1 0 l.length 5) (.d (levsD m)) := fun H hh => by
    have := bor_fcel (f := levL) hfl (l := m) hh
    rw [hlm] at this; exact this
  have hn1 : IntKind.wrap .i64 ((l.length : Int) - 1) = (l.length : Int) - 1 := wrap64 (by omega) (by omega)
  simp [p88l2]
  refine ACall.mk _ _ _ (c1) (by simp [bw, bm]) (by simp) (by first | (left; simp; done) | (right; simp; done)) ?_
  simp
  refine ACall.mk _ _ _ (c2) (by simp [bm]) (by simp) (by first | (left; simp; done) | (right; simp; done) | (right; simp; exact of_eq_true acl_lev)) ?_
  simp [hn1]
  refine pw_loopC (α := Nat) 2 (fun _ : Unit => ⟨slots [(6, .lp 0 0), (8, .cl 156 [.lp 0 0, .lp 2 0]), (9, .ls 3 0 l.length 5)], lk [(0, [.ls 1 0 l.length 5]), (2, [.d (thD (knT l))]), (3, fcel levL m), (1, fcel levL (SU (l.length - 1)))], 4⟩) (fun _ => True) (fun j => ⟨slots [(6, .lp 0 0), (8, .cl 156 [.lp 0 0, .lp 2 0]), (9, .ls 3 0 l.length 5), (31, vi ((l.length : Int) - 1)), (32, vi j)], lk [(0, [.ls 1 0 l.length 5]), (2, [.d (thD (knT l))]), (3, fcel levL m), (1, fcel levL (SU j))], 4⟩) (fun j => j ≤ l.length - 1) (fun j => l.length - 1 - j) 0 ?_ ?_ (settle_up (knT l) m l.length SU (by rw [knT_len]; omega) (by omega) lU hU hE) fun _ _ => ?_
  · omega
  · rw [e0]
    refine Weak.mk hE (lk [(0, 0), (1, 1), (2, 2), (3, 5242884)]) _ _ _ ?_ ?_ ?_ ?_ ?_ <;> simp
  · simp [hn1]
    refine pw_loopC (α := Nat) 4 (fun _ : Unit => ⟨slots [(6, .lp 0 0), (8, .cl 156 [.lp 0 0, .lp 2 0]), (9, .ls 3 0 l.length 5)], lk [(0, [.ls 1 0 l.length 5]), (2, [.d (thD (knT l))]), (3, fcel levL m), (1, fcel levL (SD 0))], 4⟩) (fun _ => True) (fun j => ⟨slots [(6, .lp 0 0), (8, .cl 156 [.lp 0 0, .lp 2 0]), (9, .ls 3 0 l.length 5), (11, vi j)], lk [(0, [.ls 1 0 l.length 5]), (2, [.d (thD (knT l))]), (3, fcel levL m), (1, fcel levL (SD j))], 4⟩) (fun j => j ≤ l.length - 1) (fun j => j) (l.length - 1) ?_ ?_ (settle_dn (knT l) m l.length SD (by rw [knT_len]; omega) (by omega) lD hD hE) fun _ _ => ?_
    · omega
    · rw [← e1]
      have hc : ((l.length - 1 : Nat) : Int) = (l.length : Int) - 1 := by omega
      rw [hc]
      refine Weak.mk hE (lk [(0, 0), (1, 1), (2, 2), (3, 3)]) _ _ _ ?_ ?_ ?_ ?_ ?_ <;> simp
    · rw [e2]
      simp
      refine ⟨k + 1, by omega, by omega, ?_⟩
      rw [hC]
      refine Weak.mk hE (lk [(0, 0), (1, 1), (2, 2), (3, 3)]) _ _ _ ?_ ?_ ?_ ?_ ?_ <;> simp
end Go.Proofs.Tryz
namespace Go.Proofs.Tryz
open Go.Psl
open Go.Air
abbrev unf (x : Lev) : Bool := decide (x.ph < x.pl)
def rndC (l : List Lev) : Nat → St
  | 0 => ⟨slots [(6, .lp 0 0), (8, .cl 156 [.lp 0 0, .lp 2 0]), (9, .d (.lit (.slice none 0 0)))], lk [(0, [.ls 1 0 l.length 5]), (2, [.d (thD (knT l))]), (1, fcel levL l)], 3⟩
  | 1 => ⟨slots [(6, .lp 0 0), (8, .cl 156 [.lp 0 0, .lp 2 0]), (9, .ls 3 0 l.length 5)], lk [(0, [.ls 1 0 l.length 5]), (2, [.d (thD (knT l))]), (1, fcel levL (swp l)), (3, fcel levL l)], 4⟩
  | _ => ⟨slots [(6, .lp 0 0), (8, .cl 156 [.lp 0 0, .lp 2 0]), (9, .ls 3 0 l.length 5)], lk [(0, [.ls 1 0 l.length 5]), (2, [.d (thD (knT l))]), (1, fcel levL (swp l)), (3, fcel levL (swp l))], 4⟩
set_option maxRecDepth 20000 in
set_option maxHeartbeats 4000000 in
theorem settle_end (l : List Lev) (h : OkS l) (ws : List Lev) (hws : ws = swp l) (_ : Nat) {E : Ent} (hE : ∀ i, ¬ E.stab i) {Q : AExit → St → Prop} {S : St → Prop} : PW prog tys eqs E p88l2
    (seqQ S (exC prog E Q 0 (fun _ : Unit => ⟨slots [(6, .lp 0 0), (8, .cl 156 [.lp 0 0, .lp 2 0])], lk [(0, [.ls 1 0 l.length 5]), (2, [.d (thD (knT l))]), (1, fcel levL (swp l))], 3⟩) (fun _ => True)))
    ⟨slots [(6, .lp 0 0), (8, .cl 156 [.lp 0 0, .lp 2 0]), (9, .ls 3 0 l.length 5)], lk [(0, [.ls 1 0 l.length 5]), (2, [.d (thD (knT l))]), (1, fcel levL (swp l)), (3, fcel levL ws)], 4⟩ := by
  have hlen := h.len
  subst hws
  have hl2 := swp_len (l := l)
  have c1 := fn159 (swp l) (swp l) (by omega) (by omega)
  have bw := bw_blk (b := 3) hl2
  have bm := bw_blk (b := 1) hl2
  simp only [decide_true] at c1
  simp [p88l2]
  refine ACall.mk _ _ _ (c1) (by simp [bw, bm]) (by simp) (by first | (left; simp; done) | (right; simp; done)) ?_
  simp
  refine Weak.mk hE (lk [(0, 0), (1, 1), (2, 2)]) _ _ _ ?_ ?_ ?_ ?_ ?_ <;> simp
set_option maxRecDepth 20000 in
set_option maxHeartbeats 4000000 in
theorem settle_unfit (l : List Lev) (h : OkS l) (hq : 0 ≤ ixF unf (swp l)) : Ct prog 88 [.d (levsD l)] (.tup [.d (.lit (.slice none 0 0)), vi (ixF unf (swp l)), vi 21]) [] := by
  have hlen := h.len
  have h0 : l ≠ [] := by intro e; rw [e] at hlen; simp at hlen
  have hl2 := swp_len (l := l)
  have c1 := fn119 l (by omega)
  rw [okSnd_iff.2 h] at c1
  have c2 := fn155 l (by omega) h0
  have c3 := fn122 l (by omega) h0
  have c4 := fn160 (swp l) 161 [] unf (by omega) fun x _ => fn161 x
  have bm := bw_blk (b := 1) hl2
  refine Ct.by gok eok mixed func88 c88 rfl (by simp [ntmps88]) (by simp) (by simp [ResIds]) fun E hE => ?_
  simp [p88]
  refine ACall.mk _ _ _ (c1) (by first | (simp; done) | simp [Bor_ls, Bor1_ls]) (by simp) (by first | (left; simp; done) | (right; simp; done)) ?_
  simp
  refine ACall.mk _ _ _ (c2) (by first | (simp; done) | simp [Bor_ls, Bor1_ls]) (by simp) (by first | (left; simp; done) | (right; simp; done)) ?_
  simp
  refine ACall.mk _ _ _ (c3) (by first | (simp; done) | simp [Bor_ls, Bor1_ls]) (by simp) (by first | (left; simp; done) | (right; simp; done)) ?_
  simp [splice]
  refine pw_loopC (α := Nat) 0 (fun _ : Unit => ⟨slots [(6, .lp 0 0), (8, .cl 156 [.lp 0 0, .lp 2 0])], lk [(0, [.ls 1 0 l.length 5]), (2, [.d (thD (knT l))]), (1, fcel levL (swp l))], 3⟩) (fun _ => True) (rndC l) (fun k => k ≤ 2) (fun k => 2 - k) 0 ?_ ?_ ?_ fun _ _ => ?_
  · omega
  · unfold rndC
    refine Weak.mk hE (lk [(0, 12582912), (1, 9437184), (2, 13631488)]) _ _ _ ?_ ?_ ?_ ?_ ?_ <;> simp
  · intro k hk
    match k, hk with
    | 0, _ =>
      exact settle_first l h l _ _ rfl (round_up h) (round_dn h) (fun i => (upK_le _ i l).len.symm) (fun i => by rw [← (dnK_le _ i _).len, upSw_len]) rfl (by
        show upK _ _ l = dnK _ _ _
        rw [upK_all _ _ _ (by omega), dnK_last _ _ _ (by rw [upSw_len]; omega)]) rfl [] rfl (by simpa using h0) 0 (by omega) hE (rndC l) rfl
    | 1, _ =>
      by_cases he : l = swp l
      · exact settle_end l h l he 1 hE
      · exact settle_more l h (swp l) _ _ hl2 (again_up h) (again_dn h) (fun _ => hl2) (fun _ => hl2) rfl rfl rfl l rfl (by simpa using he) 1 (by omega) hE (rndC l) rfl
    | 2, _ => exact settle_end l h (swp l) rfl 2 hE
    | k + 3, hk => omega
  · simp
    refine ACall.mk _ _ _ (c4) (by simp [bm]) (by simp) (by first | (left; simp; done) | (right; simp; done)) ?_
    simp [hq]
    refine RetOk.by (fun _ => none) ?_
    simp [results88]
set_option maxRecDepth 20000 in
set_option maxHeartbeats 4000000 in
theorem settle_fit (l : List Lev) (h : OkS l) (hq : ¬ 0 ≤ ixF unf (swp l)) : Ct prog 88 [.d (levsD l)] (.tup [.ls 0 0 l.length 5, vi 0, vi 0]) [(0, fcel levL (swp l))] := by
  have hlen := h.len
  have h0 : l ≠ [] := by intro e; rw [e] at hlen; simp at hlen
  have hl2 := swp_len (l := l)
  have c1 := fn119 l (by omega)
  rw [okSnd_iff.2 h] at c1
  have c2 := fn155 l (by omega) h0
  have c3 := fn122 l (by omega) h0
  have c4 := fn160 (swp l) 161 [] unf (by omega) fun x _ => fn161 x
  have bm := bw_blk (b := 1) hl2
  refine Ct.by gok eok mixed func88 c88 rfl (by simp [ntmps88]) (by simp) (by simp [ResIds]) fun E hE => ?_
  simp [p88]
  refine ACall.mk _ _ _ (c1) (by first | (simp; done) | simp [Bor_ls, Bor1_ls]) (by simp) (by first | (left; simp; done) | (right; simp; done)) ?_
  simp
  refine ACall.mk _ _ _ (c2) (by first | (simp; done) | simp [Bor_ls, Bor1_ls]) (by simp) (by first | (left; simp; done) | (right; simp; done)) ?_
  simp
  refine ACall.mk _ _ _ (c3) (by first | (simp; done) | simp [Bor_ls, Bor1_ls]) (by simp) (by first | (left; simp; done) | (right; simp; done)) ?_
  simp [splice]
  refine pw_loopC (α := Nat) 0 (fun _ : Unit => ⟨slots [(6, .lp 0 0), (8, .cl 156 [.lp 0 0, .lp 2 0])], lk [(0, [.ls 1 0 l.length 5]), (2, [.d (thD (knT l))]), (1, fcel levL (swp l))], 3⟩) (fun _ => True) (rndC l) (fun k => k ≤ 2) (fun k => 2 - k) 0 ?_ ?_ ?_ fun _ _ => ?_
  · omega
  · unfold rndC
    refine Weak.mk hE (lk [(0, 12582912), (1, 9437184), (2, 13631488)]) _ _ _ ?_ ?_ ?_ ?_ ?_ <;> simp
  · intro k hk
    match k, hk with
    | 0, _ =>
      exact settle_first l h l _ _ rfl (round_up h) (round_dn h) (fun i => (upK_le _ i l).len.symm) (fun i => by rw [← (dnK_le _ i _).len, upSw_len]) rfl (by
        show upK _ _ l = dnK _ _ _
        rw [upK_all _ _ _ (by omega), dnK_last _ _ _ (by rw [upSw_len]; omega)]) rfl [] rfl (by simpa using h0) 0 (by omega) hE (rndC l) rfl
    | 1, _ =>
      by_cases he : l = swp l
      · exact settle_end l h l he 1 hE
      · exact settle_more l h (swp l) _ _ hl2 (again_up h) (again_dn h) (fun _ => hl2) (fun _ => hl2) rfl rfl rfl l rfl (by simpa using he) 1 (by omega) hE (rndC l) rfl
    | 2, _ => exact settle_end l h (swp l) rfl 2 hE
    | k + 3, hk => omega
  · simp
    refine ACall.mk _ _ _ (c4) (by simp [bm]) (by simp) (by first | (left; simp; done) | (right; simp; done)) ?_
    simp [hq]
    refine RetOk.by (lk [(0, 1)]) ?_
    simp [results88]
theorem fn88 (l : List Lev) (hl : l.length ≤ 1000000) : Ct prog 88 [.d (levsD l)] (setV (setS l)) [] := by
  cases h : okSnd l
  · refine Cm.freeze (settle_bad l hl h) ?_
    unfold setS
    rw [h]
    exact ⟨Or.inr ⟨rfl, 5, rfl⟩, Or.inl rfl, Or.inl rfl, trivial⟩
  · have ho := okSnd_iff.1 h
    by_cases hq : 0 ≤ ixF unf (swp l)
    · refine Cm.freeze (settle_unfit l ho hq) ?_
      unfold setS
      rw [h, if_pos rfl, if_pos hq]
      exact ⟨Or.inr ⟨rfl, 5, rfl⟩, Or.inl rfl, Or.inl rfl, trivial⟩
    · refine Cm.freeze (settle_fit l ho hq) ?_
      unfold setS
      rw [h, if_pos rfl, if_neg hq]
      refine ⟨?_, Or.inl rfl, Or.inl rfl, trivial⟩
      have := bw_blk (ws := swp l) (b := 0) (swp_len (l := l)) (lk [(0, fcel levL (swp l))]) (by simp)
      exact this
end Go.Proofs.Tryz
namespace Go.Proofs.Tryz
open Go.Psl
open Go.Air
theorem le_knT : ∀ {l m : List Lev}, LeL l m → knT l = knT m
  | [], [], _ => rfl
  | [], _ :: _, h => h.elim
  | _ :: _, [], h => h.elim
  | a :: l, b :: m, h => by
    unfold knT
    rw [List.map_cons, List.map_cons]
    have := le_knT h.2
    unfold knT at this
    rw [this]
    have e : knOf a = knOf b := by unfold knOf; rw [h.1.s.1, h.1.s.2.1, h.1.s.2.2]
    rw [e]
end Go.Proofs.Tryz
namespace Go.Proofs.Tryz
open Go.Psl
open Go.Air
structure Gal where
  h : Int
  xl : Int
  xh : Int
  yl : Int
  yh : Int
  g : Int
deriving DecidableEq
abbrev galL (x : Gal) : List D := [di x.h, di x.xl, di x.xh, di x.yl, di x.yh, di x.g]
abbrev galsD (l : List Gal) : D := .sl 6 (l.map galL)
theorem hfg : ∀ x : Gal, (galL x).length = 6 := fun _ => rfl
def galB (l : List Gal) (i : Nat) : Bool := match l[i]? with
  | some x => rgB (-500) 9000 [x.h] && (if i = 0 then true else match l[i - 1]? with | some y => decide (y.h < x.h) | none => true) && rgB 0 500 [x.g] && spB (-1000) 1000 x.xl x.xh && spB (-1000) 1000 x.yl x.yh
  | none => true
def okWnd (l : List Gal) : Bool := rgB 1 16 [(l.length : Int)] && (List.range l.length).all (galB l)
theorem wnd_no {l : List Gal} {i : Nat} (hi : i < l.length) (h : galB l i = false) : okWnd l = false := by
  unfold okWnd
  have : (List.range l.length).all (galB l) = false := by
    rw [List.all_eq_false]; exact ⟨i, by simp [hi], by simp [h]⟩
  simp [this]
set_option maxRecDepth 20000 in
set_option maxHeartbeats 8000000 in
theorem fn89 (l : List Gal) (hl : l.length ≤ 1000000) : Ct prog 89 [.d (galsD l)] (vi (if okWnd l then 0 else 22)) [] := by
  have c1 := fn120 1 16 [(l.length : Int)] (by simp)
  cases hn : rgB 1 16 [(l.length : Int)]
  · rw [hn] at c1
    have hbad : okWnd l = false := by unfold okWnd; simp [hn]
    refine Ct.by gok eok mixed func89 c89 rfl (by simp [ntmps89]) (by simp) (by simp [ResIds]) fun E hE => ?_
    simp [p89, splice, repl]
    refine ACall.mk _ _ _ (c1) (by simp [bor_i1]) (by simp) (by first | (left; simp; done) | (right; simp; done)) ?_
    simp
    refine RetOk.by (fun _ => none) ?_
    simp [results89, hbad]
  rw [hn] at c1
  refine Ct.by gok eok mixed func89 c89 rfl (by simp [ntmps89]) (by simp) (by simp [ResIds]) fun E hE => ?_
  simp [p89, splice, repl]
  refine ACall.mk _ _ _ (c1) (by simp [bor_i1]) (by simp) (by first | (left; simp; done) | (right; simp; done)) ?_
  simp
  refine pw_loop (α := Nat) (fun i => ⟨slots [(0, .d (galsD l)), (10, .d (galsD l)), (11, vi l.length), (12, vi i)], lk [], 0⟩) (fun i => i ≤ l.length ∧ ∀ j, j < i → galB l j = true) (fun i => l.length - i) 0 ?_ ?_ ?_
  · exact ⟨by omega, fun j hj => by omega⟩
  · refine Weak.mk hE (lk []) _ _ _ ?_ ?_ ?_ ?_ ?_ <;> simp
  · rintro i ⟨hi, hg⟩
    by_cases h : i < l.length
    · obtain ⟨x, hx⟩ : ∃ x, l[i]? = some x := ⟨_, List.getElem?_eq_getElem h⟩
      have hz : IntKind.wrap .i64 ((i : Int) + 1) = ((i + 1 : Nat) : Int) := by rw [wrap64 (by omega) (by omega)]; omega
      have hI : (i : Int) < l.length := by omega
      have c2 := fn120 (-500) 9000 [x.h] (by simp)
      have c3 := fn120 0 500 [x.g] (by simp)
      have c4 := fn162 x.xl x.xh (-1000) 1000
      have c5 := fn162 x.yl x.yh (-1000) 1000
      have eg : galB l i = (rgB (-500) 9000 [x.h] && (if i = 0 then true else match l[i - 1]? with | some y => decide (y.h < x.h) | none => true) && rgB 0 500 [x.g] && spB (-1000) 1000 x.xl x.xh && spB (-1000) 1000 x.yl x.yh) := by unfold galB; rw [hx]
      have fin : galB l i = true → ∀ j, j < i + 1 → galB l j = true := fun he j hj => by
        by_cases e : j = i
        · rw [e]; exact he
        · exact hg j (by omega)
      generalize rgB (-500) 9000 [x.h] = b1 at *
      generalize rgB 0 500 [x.g] = b2 at *
      generalize spB (-1000) 1000 x.xl x.xh = b3 at *
      generalize spB (-1000) 1000 x.yl x.yh = b4 at *
      cases b1
      · have hbad := wnd_no h (by rw [eg]; rfl)
        simp [p89l0, hI, hx, splice, repl, inC, Nat.testBit]
        refine ACall.mk _ _ _ (c2) (by simp [bor_i1, inC, Nat.testBit]) (by simp) (by first | (left; simp; done) | (right; simp; done)) ?_
        simp
        refine RetOk.by (fun _ => none) ?_
        simp [results89, hbad]
      · by_cases h0 : i = 0
        · rw [if_pos h0] at eg
          have hI0 : ¬ 0 < i := by omega
          cases b2
          · have hbad := wnd_no h (by rw [eg]; rfl)
            simp [p89l0, hI, hx, splice, repl, inC, Nat.testBit]
            refine ACall.mk _ _ _ (c2) (by simp [bor_i1, inC, Nat.testBit]) (by simp) (by first | (left; simp; done) | (right; simp; done)) ?_
            simp [splice, repl, hI0]
            refine ACall.mk _ _ _ (c3) (by simp [bor_i1]) (by simp) (by first | (left; simp; done) | (right; simp; done)) ?_
            simp
            refine RetOk.by (fun _ => none) ?_
            simp [results89, hbad]
          · cases b3
            · have hbad := wnd_no h (by rw [eg]; rfl)
              simp [p89l0, hI, hx, splice, repl, inC, Nat.testBit]
              refine ACall.mk _ _ _ (c2) (by simp [bor_i1, inC, Nat.testBit]) (by simp) (by first | (left; simp; done) | (right; simp; done)) ?_
              simp [splice, repl, hI0]
              refine ACall.mk _ _ _ (c3) (by simp [bor_i1]) (by simp) (by first | (left; simp; done) | (right; simp; done)) ?_
              simp
              refine ACall.mk _ _ _ (c4) (by first | (simp; done) | simp [Bor_ls, Bor1_ls]) (by simp) (by first | (left; simp; done) | (right; simp; done)) ?_
              simp
              refine RetOk.by (fun _ => none) ?_
              simp [results89, hbad]
            · simp [p89l0, hI, hx, splice, repl, inC, Nat.testBit]
              refine ACall.mk _ _ _ (c2) (by simp [bor_i1, inC, Nat.testBit]) (by simp) (by first | (left; simp; done) | (right; simp; done)) ?_
              simp [splice, repl, hI0]
              refine ACall.mk _ _ _ (c3) (by simp [bor_i1]) (by simp) (by first | (left; simp; done) | (right; simp; done)) ?_
              simp
              refine ACall.mk _ _ _ (c4) (by first | (simp; done) | simp [Bor_ls, Bor1_ls]) (by simp) (by first | (left; simp; done) | (right; simp; done)) ?_
              simp
              refine ACall.mk _ _ _ (c5) (by first | (simp; done) | simp [Bor_ls, Bor1_ls]) (by simp) (by first | (left; simp; done) | (right; simp; done)) ?_
              cases b4
              · have hbad := wnd_no h (by rw [eg]; rfl)
                simp
                refine RetOk.by (fun _ => none) ?_
                simp [results89, hbad]
              · have hok := fin (by rw [eg]; rfl)
                simp [hz]
                refine ⟨i + 1, ⟨by omega, hok⟩, by omega, ?_⟩
                refine Weak.mk hE (lk []) _ _ _ ?_ ?_ ?_ ?_ ?_ <;> simp
        · obtain ⟨y, hy⟩ : ∃ y, l[i - 1]? = some y := ⟨_, List.getElem?_eq_getElem (by omega)⟩
          have hw : IntKind.wrap .i64 ((i : Int) - 1) = ((i - 1 : Nat) : Int) := by rw [wrap64 (by omega) (by omega)]; omega
          have hI0 : 0 < i := by omega
          rw [if_neg h0, hy] at eg
          simp only at eg
          by_cases hc : x.h ≤ y.h
          · have hbad := wnd_no h (by rw [eg, decide_eq_false (by omega)]; simp)
            simp [p89l0, hI, hx, splice, repl, inC, Nat.testBit]
            refine ACall.mk _ _ _ (c2) (by simp [bor_i1, inC, Nat.testBit]) (by simp) (by first | (left; simp; done) | (right; simp; done)) ?_
            simp [hI0, hw, hy, hc, inC, Nat.testBit]
            refine RetOk.by (fun _ => none) ?_
            simp [results89, hbad]
          · rw [decide_eq_true (by omega : y.h < x.h)] at eg
            cases b2
            · have hbad := wnd_no h (by rw [eg]; rfl)
              simp [p89l0, hI, hx, splice, repl, inC, Nat.testBit]
              refine ACall.mk _ _ _ (c2) (by simp [bor_i1, inC, Nat.testBit]) (by simp) (by first | (left; simp; done) | (right; simp; done)) ?_
              simp [splice, repl, hI0, hw, hy, hc, inC, Nat.testBit]
              refine ACall.mk _ _ _ (c3) (by simp [bor_i1]) (by simp) (by first | (left; simp; done) | (right; simp; done)) ?_
              simp
              refine RetOk.by (fun _ => none) ?_
              simp [results89, hbad]
            · cases b3
              · have hbad := wnd_no h (by rw [eg]; rfl)
                simp [p89l0, hI, hx, splice, repl, inC, Nat.testBit]
                refine ACall.mk _ _ _ (c2) (by simp [bor_i1, inC, Nat.testBit]) (by simp) (by first | (left; simp; done) | (right; simp; done)) ?_
                simp [splice, repl, hI0, hw, hy, hc, inC, Nat.testBit]
                refine ACall.mk _ _ _ (c3) (by simp [bor_i1]) (by simp) (by first | (left; simp; done) | (right; simp; done)) ?_
                simp
                refine ACall.mk _ _ _ (c4) (by first | (simp; done) | simp [Bor_ls, Bor1_ls]) (by simp) (by first | (left; simp; done) | (right; simp; done)) ?_
                simp
                refine RetOk.by (fun _ => none) ?_
                simp [results89, hbad]
              · simp [p89l0, hI, hx, splice, repl, inC, Nat.testBit]
                refine ACall.mk _ _ _ (c2) (by simp [bor_i1, inC, Nat.testBit]) (by simp) (by first | (left; simp; done) | (right; simp; done)) ?_
                simp [splice, repl, hI0, hw, hy, hc, inC, Nat.testBit]
                refine ACall.mk _ _ _ (c3) (by simp [bor_i1]) (by simp) (by first | (left; simp; done) | (right; simp; done)) ?_
                simp
                refine ACall.mk _ _ _ (c4) (by first | (simp; done) | simp [Bor_ls, Bor1_ls]) (by simp) (by first | (left; simp; done) | (right; simp; done)) ?_
                simp
                refine ACall.mk _ _ _ (c5) (by first | (simp; done) | simp [Bor_ls, Bor1_ls]) (by simp) (by first | (left; simp; done) | (right; simp; done)) ?_
                cases b4
                · have hbad := wnd_no h (by rw [eg]; rfl)
                  simp
                  refine RetOk.by (fun _ => none) ?_
                  simp [results89, hbad]
                · have hok := fin (by rw [eg]; rfl)
                  simp [hz]
                  refine ⟨i + 1, ⟨by omega, hok⟩, by omega, ?_⟩
                  refine Weak.mk hE (lk []) _ _ _ ?_ ?_ ?_ ?_ ?_ <;> simp
    · have e : i = l.length := by omega
      have hnn : ¬ (i : Int) < l.length := by omega
      have hall : okWnd l = true := by
        unfold okWnd
        rw [hn, Bool.true_and, List.all_eq_true]
        intro j hj
        exact hg j (by have : j < l.length := by simpa using hj
                       omega)
      simp [p89l0, hnn]
      refine RetOk.by (fun _ => none) ?_
      simp [results89, hall]
end Go.Proofs.Tryz
namespace Go.Proofs.Tryz
open Go.Psl
open Go.Air
structure Plt where
  cs : List Cel
  bt : Int
  ih : Int
  ia : Int
  vh : Int
  va : Int
  lh : Int
  la : Int
  ph : Int
  pa : Int
deriving DecidableEq
abbrev pltV (p : Plt) (c : V) : V := .agg [c, vi p.bt, vi p.ih, vi p.ia, vi p.vh, vi p.va, vi p.lh, vi p.la, vi p.ph, vi p.pa]
abbrev bkB (p : Int × Int) : Bool := rgB 0 1000000000000 [p.1, p.2]
def accs (p : Plt) : List (Int × Int) := [(p.ih, p.ia), (p.vh, p.va), (p.lh, p.la), (p.ph, p.pa)]
def heS (l : List Cel) : Int := (l.map (·.he)).sum
def aiS (l : List Cel) : Int := (l.map (·.ai)).sum
def okBk (p : Plt) : Bool := decide (p.cs.length ≤ 12) && rgB 0 10000000 [p.bt] && (accs p).all bkB
def okPlt (p : Plt) : Bool := okBk p && p.cs.all okCel && decide (p.bt + p.vh + p.lh + p.ph + heS p.cs = p.ih ∧ p.va + p.la + p.pa + aiS p.cs = p.ia)
theorem heS_take {l : List Cel} {i : Nat} {c : Cel} (h : l[i]? = some c) : heS (l.take (i + 1)) = heS (l.take i) + c.he := by
  unfold heS; rw [List.take_add_one, h]; simp
theorem aiS_take {l : List Cel} {i : Nat} {c : Cel} (h : l[i]? = some c) : aiS (l.take (i + 1)) = aiS (l.take i) + c.ai := by
  unfold aiS; rw [List.take_add_one, h]; simp
theorem heS_bd : ∀ {l : List Cel}, (∀ c ∈ l, CelB c) → 0 ≤ heS l ∧ heS l ≤ l.length * 10000000
  | [], _ => by simp [heS]
  | c :: l, h => by
    have h1 := (h c (by simp)).he
    have h2 := heS_bd (l := l) fun x hx => h x (by simp [hx])
    unfold heS at h2 ⊢
    simp only [List.map_cons, List.sum_cons, List.length_cons]
    omega
theorem aiS_bd : ∀ {l : List Cel}, (∀ c ∈ l, CelB c) → 0 ≤ aiS l ∧ aiS l ≤ l.length * 10000000
  | [], _ => by simp [aiS]
  | c :: l, h => by
    have h1 := (h c (by simp)).ai
    have h2 := aiS_bd (l := l) fun x hx => h x (by simp [hx])
    unfold aiS at h2 ⊢
    simp only [List.map_cons, List.sum_cons, List.length_cons]
    omega
theorem fn115 (a b c d : Int) (h1 : IntKind.wrap .i64 (a + c) = a + c) (h2 : IntKind.wrap .i64 (b + d) = b + d) : Ct prog 115 [vsp a b, vsp c d] (vsp (a + c) (b + d)) [] := by
  refine Ct.by gok eok mixed func115 c115 rfl (by simp [ntmps115]) (by simp) (by simp [ResIds]) fun E hE => ?_
  simp [p115, splice, h1, h2]
  refine RetOk.by (fun _ => none) ?_
  simp [results115]
theorem fn114 (p : Int × Int) : Ct prog 114 [pairV p] (vb (!bkB p)) [] := by
  have c1 := fn112 0 1000000000000 [p.1, p.2] (by simp)
  refine Ct.by gok eok mixed func114 c114 rfl (by simp [ntmps114]) (by simp) (by simp [ResIds]) fun E hE => ?_
  simp [p114, splice, repl]
  refine ACall.mk _ _ _ (c1) (by simp [bor_i2]) (by simp) (by first | (left; simp; done) | (right; simp; done)) ?_
  simp
  refine RetOk.by (fun _ => none) ?_
  simp [results114]
end Go.Proofs.Tryz
namespace Go.Proofs.Tryz
open Go.Psl
open Go.Air
def bkI (p : Plt) : Nat → Int × Int
  | 0 => (p.bt, 0)
  | 1 => (p.bt + p.vh, p.va)
  | 2 => (p.bt + p.vh + p.lh, p.va + p.la)
  | _ => (p.bt + p.vh + p.lh + p.ph, p.va + p.la + p.pa)
theorem bor_i8 {H : Hp} {id : Nat} {p : Plt} (h : H id = some [vi p.ih, vi p.ia, vi p.vh, vi p.va, vi p.lh, vi p.la, vi p.ph, vi p.pa]) : Bor H (.ls id 0 4 2) (.d (spansD (accs p))) := by
  rw [Bor_ls]; exact ⟨rfl, rfl, by simp [accs], _, h, rfl⟩
theorem bk_all {p : Plt} (h : (accs p).all bkB = true) : (0 ≤ p.ih ∧ p.ih ≤ 1000000000000) ∧ (0 ≤ p.ia ∧ p.ia ≤ 1000000000000) ∧ (0 ≤ p.vh ∧ p.vh ≤ 1000000000000) ∧ (0 ≤ p.va ∧ p.va ≤ 1000000000000) ∧ (0 ≤ p.lh ∧ p.lh ≤ 1000000000000) ∧ (0 ≤ p.la ∧ p.la ≤ 1000000000000) ∧ (0 ≤ p.ph ∧ p.ph ≤ 1000000000000) ∧ (0 ≤ p.pa ∧ p.pa ≤ 1000000000000) := by
  unfold accs at h
  simp [rgB] at h
  omega
set_option maxRecDepth 20000 in
set_option maxHeartbeats 4000000 in
theorem chk_cells (p : Plt) (hl : p.cs.length ≤ 12) (hb : okBk p = true) {E : Ent} (hE : ∀ i, ¬ E.stab i) : ∀ i : Nat, (i ≤ p.cs.length ∧ ∀ c ∈ p.cs.take i, CelB c) → PW prog tys eqs E p53l1
    (seqQ (fun st' => ∃ k, (k ≤ p.cs.length ∧ ∀ c ∈ p.cs.take k, CelB c) ∧ p.cs.length - k < p.cs.length - i ∧ Weak prog E st' ⟨slots [(1, .lp 0 0), (4, .lp 2 0), (48, .d (cellsD p.cs)), (49, vi p.cs.length), (50, vi k)], lk [(0, [.d (cellsD p.cs), vi p.bt, vi p.ih, vi p.ia, vi p.vh, vi p.va, vi p.lh, vi p.la, vi p.ph, vi p.pa]), (2, [vi ((bkI p 3).1 + heS (p.cs.take k)), vi ((bkI p 3).2 + aiS (p.cs.take k))])], 3⟩)
      (exC prog E (retQ tys f53 (vi (if okPlt p then 0 else 32)) []) 2 (fun _ : Unit => ⟨slots [(1, .lp 0 0), (4, .lp 2 0)], lk [(0, [.d (cellsD p.cs), vi p.bt, vi p.ih, vi p.ia, vi p.vh, vi p.va, vi p.lh, vi p.la, vi p.ph, vi p.pa]), (2, [vi ((bkI p 3).1 + heS p.cs), vi ((bkI p 3).2 + aiS p.cs)])], 3⟩) (fun _ => ∀ c ∈ p.cs, CelB c)))
    ⟨slots [(1, .lp 0 0), (4, .lp 2 0), (48, .d (cellsD p.cs)), (49, vi p.cs.length), (50, vi i)], lk [(0, [.d (cellsD p.cs), vi p.bt, vi p.ih, vi p.ia, vi p.vh, vi p.va, vi p.lh, vi p.la, vi p.ph, vi p.pa]), (2, [vi ((bkI p 3).1 + heS (p.cs.take i)), vi ((bkI p 3).2 + aiS (p.cs.take i))])], 3⟩ := by
  rintro i ⟨hi, hcs⟩
  have hbk := bk_all (p := p) (by unfold okBk at hb; simp at hb; simpa using hb.2)
  have hbt : 0 ≤ p.bt ∧ p.bt ≤ 10000000 := by unfold okBk at hb; simp [rgB] at hb; omega
  by_cases h : i < p.cs.length
  · obtain ⟨c, hc⟩ : ∃ c, p.cs[i]? = some c := ⟨_, List.getElem?_eq_getElem h⟩
    have hz : IntKind.wrap .i64 ((i : Int) + 1) = ((i + 1 : Nat) : Int) := by rw [wrap64 (by omega) (by omega)]; omega
    have hI : (i : Int) < p.cs.length := by omega
    have c1 := fn116 c
    cases hok : okCel c
    · have hbad : okPlt p = false := by
        unfold okPlt
        have : p.cs.all okCel = false := by
          rw [List.all_eq_false]; exact ⟨c, List.mem_of_getElem? hc, by simp [hok]⟩
        simp [this]
      rw [hok] at c1
      simp [p53l1, hI, hc, splice]
      refine ACall.mk _ _ _ (c1) (by first | (simp; done) | simp [Bor_ls, Bor1_ls]) (by simp) (by first | (left; simp; done) | (right; simp; done)) ?_
      simp
      refine RetOk.by (fun _ => none) ?_
      simp [results53, hbad]
    · rw [hok] at c1
      have hcb := okCel_iff.1 hok
      have hx := hcb.he
      have hy := hcb.ai
      have e1 := heS_take hc
      have e2 := aiS_take hc
      have b1 := heS_bd hcs
      have b2 := aiS_bd hcs
      have hlen : ((p.cs.take i).length : Int) ≤ 12 := by simp; omega
      obtain ⟨X, hX⟩ : ∃ X, (bkI p 3).1 + heS (p.cs.take i) = X := ⟨_, rfl⟩
      obtain ⟨Y, hY⟩ : ∃ Y, (bkI p 3).2 + aiS (p.cs.take i) = Y := ⟨_, rfl⟩
      have q1 : (bkI p 3).1 = p.bt + p.vh + p.lh + p.ph := rfl
      have q2 : (bkI p 3).2 = p.va + p.la + p.pa := rfl
      have c2 := fn115 X Y c.he c.ai (wrap64 (by omega) (by omega)) (wrap64 (by omega) (by omega))
      have z1 : (bkI p 3).1 + heS (p.cs.take (i + 1)) = X + c.he := by omega
      have z2 : (bkI p 3).2 + aiS (p.cs.take (i + 1)) = Y + c.ai := by omega
      rw [hX, hY]
      simp [p53l1, hI, hc, splice]
      refine ACall.mk _ _ _ (c1) (by first | (simp; done) | simp [Bor_ls, Bor1_ls]) (by simp) (by first | (left; simp; done) | (right; simp; done)) ?_
      simp [splice]
      refine ACall.mk _ _ _ (c2) (by first | (simp; done) | simp [Bor_ls, Bor1_ls]) (by simp) (by first | (left; simp; done) | (right; simp; done)) ?_
      simp [splice, hz]
      refine ⟨i + 1, ⟨by omega, ?_⟩, by omega, ?_⟩
      · intro d hd
        rw [List.take_add_one, hc] at hd
        simp only [List.mem_append, Option.toList_some, List.mem_singleton] at hd
        rcases hd with hd | rfl
        · exact hcs d hd
        · exact hcb
      · rw [z1, z2]
        refine Weak.mk hE (lk [(0, 0), (2, 2)]) _ _ _ ?_ ?_ ?_ ?_ ?_ <;> simp
  · have e : i = p.cs.length := by omega
    rw [e, List.take_length] at hcs
    rw [e, List.take_length]
    simp [p53l1]
    refine ⟨hcs, ?_⟩
    refine Weak.mk hE (lk [(0, 0), (2, 2)]) _ _ _ ?_ ?_ ?_ ?_ ?_ <;> simp
set_option maxRecDepth 20000 in
set_option maxHeartbeats 4000000 in
theorem fn53 (p : Plt) (hl : p.cs.length ≤ 1000000000) : Ct prog 53 [pltV p (.d (cellsD p.cs))] (vi (if okPlt p then 0 else 32)) [] := by
  have c1 := fn112 0 10000000 [p.bt] (by simp)
  have c2 := fn113 (accs p) 114 [] (fun x => !bkB x) (by simp [accs]) fun x _ => fn114 x
  rw [any_nt] at c2
  by_cases hlen : p.cs.length ≤ 12
  case neg =>
    have hI : (12 : Int) < p.cs.length := by omega
    have hbad : okPlt p = false := by simp [okPlt, okBk, hlen]
    refine Ct.by gok eok mixed func53 c53 rfl (by simp [ntmps53]) (by simp) (by simp [ResIds]) fun E hE => ?_
    simp [p53, splice, repl, hI]
    refine RetOk.by (fun _ => none) ?_
    simp [results53, hbad]
  have hI : ¬ (12 : Int) < p.cs.length := by omega
  have hI2 : (p.cs.length : Int) ≤ 12 := by omega
  cases h1 : rgB 0 10000000 [p.bt]
  · have hbad : okPlt p = false := by simp [okPlt, okBk, h1]
    rw [h1] at c1
    refine Ct.by gok eok mixed func53 c53 rfl (by simp [ntmps53]) (by simp) (by simp [ResIds]) fun E hE => ?_
    simp [p53, splice, repl, hI]
    refine ACall.mk _ _ _ (c1) (by simp [bor_i1]) (by simp) (by first | (left; simp; done) | (right; simp; done)) ?_
    simp
    refine RetOk.by (fun _ => none) ?_
    simp [results53, hbad]
  rw [h1] at c1
  cases h2 : (accs p).all bkB
  · have hbad : okPlt p = false := by simp [okPlt, okBk, h2]
    rw [h2] at c2
    refine Ct.by gok eok mixed func53 c53 rfl (by simp [ntmps53]) (by simp) (by simp [ResIds]) fun E hE => ?_
    simp [p53, splice, repl, hI]
    refine ACall.mk _ _ _ (c1) (by simp [bor_i1]) (by simp) (by first | (left; simp; done) | (right; simp; done)) ?_
    simp
    refine ACall.mk _ _ _ (c2) (by simp [bor_i8]) (by simp) (by first | (left; simp; done) | (right; simp; done)) ?_
    simp
    refine RetOk.by (fun _ => none) ?_
    simp [results53, hbad]
  rw [h2] at c2
  have hb : okBk p = true := by simp [okBk, hlen, h1, h2]
  have hbk := bk_all h2
  have hbt : 0 ≤ p.bt ∧ p.bt ≤ 10000000 := by simp [rgB] at h1; omega
  have ww1 : IntKind.wrap .i64 1 = 1 := by decide
  have ww2 : IntKind.wrap .i64 2 = 2 := by decide
  have ww3 : IntKind.wrap .i64 3 = 3 := by decide
  refine Ct.by gok eok mixed func53 c53 rfl (by simp [ntmps53]) (by simp) (by simp [ResIds]) fun E hE => ?_
  simp [p53, splice, repl, hI]
  refine ACall.mk _ _ _ (c1) (by simp [bor_i1]) (by simp) (by first | (left; simp; done) | (right; simp; done)) ?_
  simp
  refine ACall.mk _ _ _ (c2) (by simp [bor_i8]) (by simp) (by first | (left; simp; done) | (right; simp; done)) ?_
  simp [splice]
  refine pw_loopC (α := Nat) 0 (fun _ : Unit => ⟨slots [(1, .lp 0 0), (4, .lp 2 0)], lk [(0, [.d (cellsD p.cs), vi p.bt, vi p.ih, vi p.ia, vi p.vh, vi p.va, vi p.lh, vi p.la, vi p.ph, vi p.pa]), (2, [vi (bkI p 3).1, vi (bkI p 3).2])], 3⟩) (fun _ => True) (fun k => ⟨slots [(1, .lp 0 0), (4, .lp 2 0), (37, .ls 1 2 3 2), (38, vi 3), (39, vi k)], lk [(0, [.d (cellsD p.cs), vi p.bt, vi p.ih, vi p.ia, vi p.vh, vi p.va, vi p.lh, vi p.la, vi p.ph, vi p.pa]), (1, [vi p.ih, vi p.ia, vi p.vh, vi p.va, vi p.lh, vi p.la, vi p.ph, vi p.pa]), (2, [vi (bkI p k).1, vi (bkI p k).2])], 3⟩) (fun k => k ≤ 3) (fun k => 3 - k) 0 ?_ ?_ ?_ fun _ _ => ?_
  · omega
  · refine Weak.mk hE (lk [(0, 0), (1, 10485760), (2, 31457280)]) _ _ _ ?_ ?_ ?_ ?_ ?_ <;> simp [bkI]
  · intro i hi
    match i, hi with
    | 0, _ =>
      have d := fn115 p.bt 0 p.vh p.va (wrap64 (by omega) (by omega)) (wrap64 (by omega) (by omega))
      simp [p53l0, splice, bkI]
      refine ACall.mk _ _ _ (d) (by first | (simp; done) | simp [Bor_ls, Bor1_ls]) (by simp) (by first | (left; simp; done) | (right; simp; done)) ?_
      simp [splice]
      refine ⟨1, by omega, by omega, ?_⟩
      refine Weak.mk hE (lk [(0, 0), (1, 1), (2, 2)]) _ _ _ ?_ ?_ ?_ ?_ ?_ <;> simp [ww1]
    | 1, _ =>
      have d := fn115 (p.bt + p.vh) p.va p.lh p.la (wrap64 (by omega) (by omega)) (wrap64 (by omega) (by omega))
      simp [p53l0, splice, bkI]
      refine ACall.mk _ _ _ (d) (by first | (simp; done) | simp [Bor_ls, Bor1_ls]) (by simp) (by first | (left; simp; done) | (right; simp; done)) ?_
      simp [splice]
      refine ⟨2, by omega, by omega, ?_⟩
      refine Weak.mk hE (lk [(0, 0), (1, 1), (2, 2)]) _ _ _ ?_ ?_ ?_ ?_ ?_ <;> simp [ww2]
    | 2, _ =>
      have d := fn115 (p.bt + p.vh + p.lh) (p.va + p.la) p.ph p.pa (wrap64 (by omega) (by omega)) (wrap64 (by omega) (by omega))
      simp [p53l0, splice, bkI]
      refine ACall.mk _ _ _ (d) (by first | (simp; done) | simp [Bor_ls, Bor1_ls]) (by simp) (by first | (left; simp; done) | (right; simp; done)) ?_
      simp [splice]
      refine ⟨3, by omega, by omega, ?_⟩
      refine Weak.mk hE (lk [(0, 0), (1, 1), (2, 2)]) _ _ _ ?_ ?_ ?_ ?_ ?_ <;> simp [ww3]
    | 3, _ =>
      simp [p53l0]
      refine Weak.mk hE (lk [(0, 0), (2, 2)]) _ _ _ ?_ ?_ ?_ ?_ ?_ <;> simp
    | i + 4, hi => omega
  · simp
    refine pw_loopC (α := Nat) 2 (fun _ : Unit => ⟨slots [(1, .lp 0 0), (4, .lp 2 0)], lk [(0, [.d (cellsD p.cs), vi p.bt, vi p.ih, vi p.ia, vi p.vh, vi p.va, vi p.lh, vi p.la, vi p.ph, vi p.pa]), (2, [vi ((bkI p 3).1 + heS p.cs), vi ((bkI p 3).2 + aiS p.cs)])], 3⟩) (fun _ => ∀ c ∈ p.cs, CelB c) (fun k => ⟨slots [(1, .lp 0 0), (4, .lp 2 0), (48, .d (cellsD p.cs)), (49, vi p.cs.length), (50, vi k)], lk [(0, [.d (cellsD p.cs), vi p.bt, vi p.ih, vi p.ia, vi p.vh, vi p.va, vi p.lh, vi p.la, vi p.ph, vi p.pa]), (2, [vi ((bkI p 3).1 + heS (p.cs.take k)), vi ((bkI p 3).2 + aiS (p.cs.take k))])], 3⟩) (fun k => k ≤ p.cs.length ∧ ∀ c ∈ p.cs.take k, CelB c) (fun k => p.cs.length - k) 0 ?_ ?_ (chk_cells p hlen hb hE) fun _ hcs => ?_
    · simp
    · refine Weak.mk hE (lk [(0, 0), (2, 2)]) _ _ _ ?_ ?_ ?_ ?_ ?_ <;> simp [heS, aiS]
    · have hall : p.cs.all okCel = true := by
        rw [List.all_eq_true]; exact fun c hc => okCel_iff.2 (hcs c hc)
      have q1 : (bkI p 3).1 = p.bt + p.vh + p.lh + p.ph := rfl
      have q2 : (bkI p 3).2 = p.va + p.la + p.pa := rfl
      rw [q1, q2]
      have e : okPlt p = decide (p.bt + p.vh + p.lh + p.ph + heS p.cs = p.ih ∧ p.va + p.la + p.pa + aiS p.cs = p.ia) := by simp [okPlt, hb, hall]
      by_cases hq : p.bt + p.vh + p.lh + p.ph + heS p.cs = p.ih ∧ p.va + p.la + p.pa + aiS p.cs = p.ia
      · rw [decide_eq_true hq] at e
        simp [hq]
        refine RetOk.by (fun _ => none) ?_
        simp [results53, e]
      · rw [decide_eq_false hq] at e
        have hd : (!decide (p.bt + p.vh + p.lh + p.ph + heS p.cs = p.ih) || !decide (p.va + p.la + p.pa + aiS p.cs = p.ia)) = true := by simp; omega
        simp [hd]
        refine RetOk.by (fun _ => none) ?_
        simp [results53, e]
end Go.Proofs.Tryz
namespace Go.Proofs.Tryz
open Go.Psl
open Go.Air
set_option maxHeartbeats 4000000 in
set_option maxRecDepth 20000 in
theorem fn163 (l : List (Int × Int)) (g : FuncId) (ds : List D) (q : (Int × Int) → Bool) (hl : l.length ≤ 1000000000) (hg : ∀ p ∈ l, Ct prog g (vsp p.1 p.2 :: ds.map .d) (vb (q p)) []) : Ct prog 163 [.d (spansD l), .d (.fn g ds)] (vb (l.all q)) [] := by
  refine Ct.by gok eok mixed func163 c163 rfl (by simp [ntmps163]) (by simp) (by simp [ResIds]) fun E hE => ?_
  simp [p163]
  refine pw_loop (α := Nat) (fun i => ⟨slots [(1, .d (.fn g ds)), (7, .d (spansD l)), (8, vi l.length), (9, vi i)], lk [], 0⟩) (fun i => i ≤ l.length ∧ ∀ j, j < i → (l[j]?).all q = true) (fun i => l.length - i) 0 ?_ ?_ ?_
  · exact ⟨by omega, fun j hj => by omega⟩
  · refine Weak.mk hE (lk []) _ _ _ ?_ ?_ ?_ ?_ ?_ <;> simp
  · rintro i ⟨hi, hg3⟩
    have hz : IntKind.wrap .i64 ((i : Int) + 1) = ((i + 1 : Nat) : Int) := by rw [wrap64 (by omega) (by omega)]; omega
    by_cases h : i < l.length
    · have hI : (i : Int) < l.length := by omega
      obtain ⟨p, hp⟩ : ∃ p, l[i]? = some p := ⟨_, List.getElem?_eq_getElem h⟩
      simp [p163l0, hI, hp, splice]
      refine ACall.mk _ _ _ (hg p (List.mem_of_getElem? hp)) (by first | (simp; done) | simp [Bor_ls, Bor1_ls]) (by simp) (by first | (left; simp; done) | (right; simp; done)) ?_
      cases hq : q p
      · have e : l.all q = false := by rw [List.all_eq_false]; exact ⟨p, List.mem_of_getElem? hp, by simp [hq]⟩
        simp
        refine RetOk.by (fun _ => none) ?_
        simp [results163, e]
      · simp [hz]
        refine ⟨i + 1, ⟨by omega, fun j hj => ?_⟩, by omega, ?_⟩
        · by_cases e : j = i
          · subst e; rw [hp]; simp [hq]
          · exact hg3 j (by omega)
        · refine Weak.mk hE (lk []) _ _ _ ?_ ?_ ?_ ?_ ?_ <;> simp
    · have hI : ¬ (i : Int) < l.length := by omega
      have e : l.all q = true := by
        rw [List.all_eq_true]
        intro x hx
        obtain ⟨j, hj⟩ := List.getElem?_of_mem hx
        have := hg3 j (by have := (List.getElem?_eq_some_iff.1 hj).1; omega)
        rw [hj] at this; simpa using this
      simp [p163l0, hI]
      refine RetOk.by (fun _ => none) ?_
      simp [results163, e]
theorem fn164 (lo hi : Int) (s : Int × Int) : Ct prog 164 [vsp s.1 s.2, .d (.ref [di lo]), .d (.ref [di hi])] (vb (spB lo hi s.1 s.2)) [] := by
  have c := fn91 lo hi [s.1, s.2] (by simp)
  by_cases h : s.1 ≤ s.2
  · have e : spB lo hi s.1 s.2 = rgB lo hi [s.1, s.2] := by unfold spB; simp [h]
    refine Ct.by gok eok mixed func164 c164 rfl (by simp [ntmps164]) (by simp) (by simp [ResIds]) fun E hE => ?_
    simp [p164, splice, repl, h]
    refine ACall.mk _ _ _ (c) (by simp [bor_i2]) (by simp) (by first | (left; simp; done) | (right; simp; done)) ?_
    simp
    refine RetOk.by (fun _ => none) ?_
    simp [results164, e]
  · have e : spB lo hi s.1 s.2 = false := by unfold spB; simp [h]
    refine Ct.by gok eok mixed func164 c164 rfl (by simp [ntmps164]) (by simp) (by simp [ResIds]) fun E hE => ?_
    simp [p164, h]
    refine RetOk.by (fun _ => none) ?_
    simp [results164, e]
theorem fn90 (lo hi : Int) (l : List (Int × Int)) (hl : l.length ≤ 1000000) : Ct prog 90 [vi lo, vi hi, .d (spansD l)] (vb (l.all fun s => spB lo hi s.1 s.2)) [] := by
  have c := fn163 l 164 [.ref [di lo], .ref [di hi]] (fun s => spB lo hi s.1 s.2) (by omega) fun s _ => fn164 lo hi s
  refine Ct.by gok eok mixed func90 c90 rfl (by simp [ntmps90]) (by simp) (by simp [ResIds]) fun E hE => ?_
  simp [p90]
  refine ACall.mk _ _ _ (c) (by first | (simp; done) | simp [Bor_ls, Bor1_ls]) (by simp) (by first | (left; simp; done) | (right; simp; done)) ?_
  simp
  refine RetOk.by (fun _ => none) ?_
  simp [results90]
theorem fn69 (a b : Int) : Ct prog 69 [.d (intsD [a, b])] (vi (if a = 0 then b else a)) [] := by
  have ww1 : IntKind.wrap .i64 1 = 1 := by decide
  have ww2 : IntKind.wrap .i64 2 = 2 := by decide
  refine Ct.by gok eok mixed func69 c69 rfl (by simp [ntmps69]) (by simp) (by simp [ResIds]) fun E hE => ?_
  simp [p69]
  refine pw_loop (α := Nat) (fun k => ⟨slots [(5, .d (intsD [a, b])), (6, vi 2), (7, vi k)], lk [], 0⟩) (fun k => k ≤ 2 ∧ (0 < k → a = 0) ∧ (1 < k → b = 0)) (fun k => 2 - k) 0 ?_ ?_ ?_
  · omega
  · refine Weak.mk hE (lk []) _ _ _ ?_ ?_ ?_ ?_ ?_ <;> simp
  · rintro i ⟨hi, h1, h2⟩
    match i, hi, h1, h2 with
    | 0, _, _, _ =>
      by_cases h : a = 0
      · simp [p69l0, h, ww1]
        refine ⟨1, ⟨by omega, by omega⟩, by omega, ?_⟩
        refine Weak.mk hE (lk []) _ _ _ ?_ ?_ ?_ ?_ ?_ <;> simp
      · simp [p69l0, h]
        refine RetOk.by (fun _ => none) ?_
        simp [results69]
    | 1, _, h1, _ =>
      have h1 := h1 (by omega)
      by_cases h : b = 0
      · simp [p69l0, h, ww2]
        refine ⟨2, ?_, by omega, ?_⟩
        · simp [h1]
        refine Weak.mk hE (lk []) _ _ _ ?_ ?_ ?_ ?_ ?_ <;> simp
      · simp [p69l0, h]
        refine RetOk.by (fun _ => none) ?_
        simp [results69, h1]
    | 2, _, h1, h2 =>
      have h1 := h1 (by omega)
      have h2 := h2 (by omega)
      simp [p69l0]
      refine RetOk.by (fun _ => none) ?_
      simp [results69, h1, h2]
    | i + 3, hi, _, _ => omega
structure Sky where
  s : List Lev
  w : List Gal
abbrev skyV (k : Sky) : V := .agg [.d (levsD k.s), .d (galsD k.w)]
def okSky (k : Sky) : Bool := decide ((setS k.s).2.2 = 0) && okWnd k.w
theorem fn32 (k : Sky) (h1 : k.s.length ≤ 1000000) (h2 : k.w.length ≤ 1000000) : Ct prog 32 [skyV k] (vi (if okSky k then 0 else 50)) [] := by
  have c1 := fn88 k.s h1
  have c2 := fn89 k.w h2
  have e : okSky k = (decide ((setS k.s).2.2 = 0) && okWnd k.w) := rfl
  unfold setV at c1
  generalize (setS k.s).2.2 = er at *
  by_cases h : er = 0
  · cases hw : okWnd k.w
    · rw [hw] at c2 e
      refine Ct.by gok eok mixed func32 c32 rfl (by simp [ntmps32]) (by simp) (by simp [ResIds]) fun E hE => ?_
      simp [p32]
      refine ACall.mk _ _ _ (c1) (by first | (simp; done) | simp [Bor_ls, Bor1_ls]) (by simp) (by first | (left; simp; done) | (right; simp; done)) ?_
      simp [h]
      refine ACall.mk _ _ _ (c2) (by first | (simp; done) | simp [Bor_ls, Bor1_ls]) (by simp) (by first | (left; simp; done) | (right; simp; done)) ?_
      simp
      refine RetOk.by (fun _ => none) ?_
      simp [results32, e]
    · rw [hw] at c2 e
      refine Ct.by gok eok mixed func32 c32 rfl (by simp [ntmps32]) (by simp) (by simp [ResIds]) fun E hE => ?_
      simp [p32]
      refine ACall.mk _ _ _ (c1) (by first | (simp; done) | simp [Bor_ls, Bor1_ls]) (by simp) (by first | (left; simp; done) | (right; simp; done)) ?_
      simp [h]
      refine ACall.mk _ _ _ (c2) (by first | (simp; done) | simp [Bor_ls, Bor1_ls]) (by simp) (by first | (left; simp; done) | (right; simp; done)) ?_
      simp
      refine RetOk.by (fun _ => none) ?_
      simp [results32, e, h]
  · refine Ct.by gok eok mixed func32 c32 rfl (by simp [ntmps32]) (by simp) (by simp [ResIds]) fun E hE => ?_
    simp [p32]
    refine ACall.mk _ _ _ (c1) (by first | (simp; done) | simp [Bor_ls, Bor1_ls]) (by simp) (by first | (left; simp; done) | (right; simp; done)) ?_
    simp [h]
    refine RetOk.by (fun _ => none) ?_
    simp [results32, e, h]
end Go.Proofs.Tryz
namespace Go.Proofs.Tryz
open Go.Psl
open Go.Air
structure Shp where
  xl : Int
  xh : Int
  yl : Int
  yh : Int
  hl : Int
  hh : Int
  fl : Int
  fh : Int
  wl : Int
  wh : Int
  bl : Int
  bh : Int
  dry : Int
  bal : Int
  drp : Int
  gas : Plt
abbrev shpV (s : Shp) (c : V) : V := .agg [vi s.xl, vi s.xh, vi s.yl, vi s.yh, vi s.hl, vi s.hh, vi s.fl, vi s.fh, vi s.wl, vi s.wh, vi s.bl, vi s.bh, vi s.dry, vi s.bal, vi s.drp, c, vi s.gas.bt, vi s.gas.ih, vi s.gas.ia, vi s.gas.vh, vi s.gas.va, vi s.gas.lh, vi s.gas.la, vi s.gas.ph, vi s.gas.pa]
def okShp (s : Shp) : Bool := (spB (-10000000) 10000000 s.xl s.xh && spB (-10000000) 10000000 s.yl s.yh) && spB (-500) 9000 s.hl s.hh && (spB 0 1000000000 s.fl s.fh && spB 0 1000000000 s.wl s.wh) && spB 0 1000000000000 s.bl s.bh && rgB 0 1000000000 [s.dry, s.bal] && rgB 0 1000000000000 [s.drp] && okPlt s.gas
theorem bor_s1 {H : Hp} {id : Nat} {a b : Int} (h : H id = some [vi a, vi b]) : Bor H (.ls id 0 1 2) (.d (spansD [(a, b)])) := by
  rw [Bor_ls]; exact ⟨rfl, rfl, by simp, _, h, rfl⟩
set_option maxRecDepth 20000 in
set_option maxHeartbeats 8000000 in
theorem fn36 (s : Shp) (hl : s.gas.cs.length ≤ 1000000000) : Ct prog 36 [shpV s (.d (cellsD s.gas.cs))] (vi (if okShp s then 0 else 52)) [] := by
  have c1 := fn90 (-10000000) 10000000 [(s.xl, s.xh), (s.yl, s.yh)] (by simp)
  have c2 := fn90 (-500) 9000 [(s.hl, s.hh)] (by simp)
  have c3 := fn90 0 1000000000 [(s.fl, s.fh), (s.wl, s.wh)] (by simp)
  have c4 := fn90 0 1000000000000 [(s.bl, s.bh)] (by simp)
  have c5 := fn91 0 1000000000 [s.dry, s.bal] (by simp)
  have c6 := fn91 0 1000000000000 [s.drp] (by simp)
  have c7 := fn53 s.gas hl
  simp only [List.all_cons, List.all_nil, Bool.and_true] at c1 c2 c3 c4
  have e : okShp s = ((spB (-10000000) 10000000 s.xl s.xh && spB (-10000000) 10000000 s.yl s.yh) && spB (-500) 9000 s.hl s.hh && (spB 0 1000000000 s.fl s.fh && spB 0 1000000000 s.wl s.wh) && spB 0 1000000000000 s.bl s.bh && rgB 0 1000000000 [s.dry, s.bal] && rgB 0 1000000000000 [s.drp] && okPlt s.gas) := rfl
  generalize (spB (-10000000) 10000000 s.xl s.xh && spB (-10000000) 10000000 s.yl s.yh) = b1 at *
  generalize spB (-500) 9000 s.hl s.hh = b2 at *
  generalize (spB 0 1000000000 s.fl s.fh && spB 0 1000000000 s.wl s.wh) = b3 at *
  generalize spB 0 1000000000000 s.bl s.bh = b4 at *
  generalize rgB 0 1000000000 [s.dry, s.bal] = b5 at *
  generalize rgB 0 1000000000000 [s.drp] = b6 at *
  generalize okPlt s.gas = b7 at *
  rw [e]
  cases b1
  · refine Ct.by gok eok mixed func36 c36 rfl (by simp [ntmps36]) (by simp) (by simp [ResIds]) fun E hE => ?_
    simp [p36, splice, repl]
    repeat ((first | (refine ACall.mk _ _ _ (c1) ?_ ?_ ?_ ?_; (focus (simp [bor_s2]; done)); (focus (simp; done)); (focus (first | (left; simp; done) | (right; simp; done)))) | (refine ACall.mk _ _ _ (c2) ?_ ?_ ?_ ?_; (focus (simp [bor_i1, bor_i2, bor_s1, bor_s2]; done)); (focus (simp; done)); (focus (first | (left; simp; done) | (right; simp; done)))) | (refine ACall.mk _ _ _ (c3) ?_ ?_ ?_ ?_; (focus (simp [bor_i1, bor_i2, bor_s1, bor_s2]; done)); (focus (simp; done)); (focus (first | (left; simp; done) | (right; simp; done)))) | (refine ACall.mk _ _ _ (c4) ?_ ?_ ?_ ?_; (focus (simp [bor_i1, bor_i2, bor_s1, bor_s2]; done)); (focus (simp; done)); (focus (first | (left; simp; done) | (right; simp; done)))) | (refine ACall.mk _ _ _ (c5) ?_ ?_ ?_ ?_; (focus (simp [bor_i1, bor_i2, bor_s1, bor_s2]; done)); (focus (simp; done)); (focus (first | (left; simp; done) | (right; simp; done)))) | (refine ACall.mk _ _ _ (c6) ?_ ?_ ?_ ?_; (focus (simp [bor_i1, bor_i2, bor_s1, bor_s2]; done)); (focus (simp; done)); (focus (first | (left; simp; done) | (right; simp; done)))) | (refine ACall.mk _ _ _ (c7) ?_ ?_ ?_ ?_; (focus (simp [bor_i1, bor_i2, bor_s1, bor_s2]; done)); (focus (simp; done)); (focus (first | (left; simp; done) | (right; simp; done))))); simp)
    refine RetOk.by (fun _ => none) ?_
    simp [results36]
  cases b2
  · refine Ct.by gok eok mixed func36 c36 rfl (by simp [ntmps36]) (by simp) (by simp [ResIds]) fun E hE => ?_
    simp [p36, splice, repl]
    repeat ((first | (refine ACall.mk _ _ _ (c1) ?_ ?_ ?_ ?_; (focus (simp [bor_s2]; done)); (focus (simp; done)); (focus (first | (left; simp; done) | (right; simp; done)))) | (refine ACall.mk _ _ _ (c2) ?_ ?_ ?_ ?_; (focus (simp [bor_s1]; done)); (focus (simp; done)); (focus (first | (left; simp; done) | (right; simp; done)))) | (refine ACall.mk _ _ _ (c3) ?_ ?_ ?_ ?_; (focus (simp [bor_i1, bor_i2, bor_s1, bor_s2]; done)); (focus (simp; done)); (focus (first | (left; simp; done) | (right; simp; done)))) | (refine ACall.mk _ _ _ (c4) ?_ ?_ ?_ ?_; (focus (simp [bor_i1, bor_i2, bor_s1, bor_s2]; done)); (focus (simp; done)); (focus (first | (left; simp; done) | (right; simp; done)))) | (refine ACall.mk _ _ _ (c5) ?_ ?_ ?_ ?_; (focus (simp [bor_i1, bor_i2, bor_s1, bor_s2]; done)); (focus (simp; done)); (focus (first | (left; simp; done) | (right; simp; done)))) | (refine ACall.mk _ _ _ (c6) ?_ ?_ ?_ ?_; (focus (simp [bor_i1, bor_i2, bor_s1, bor_s2]; done)); (focus (simp; done)); (focus (first | (left; simp; done) | (right; simp; done)))) | (refine ACall.mk _ _ _ (c7) ?_ ?_ ?_ ?_; (focus (simp [bor_i1, bor_i2, bor_s1, bor_s2]; done)); (focus (simp; done)); (focus (first | (left; simp; done) | (right; simp; done))))); simp [splice, repl])
    refine RetOk.by (fun _ => none) ?_
    simp [results36]
  cases b3
  · refine Ct.by gok eok mixed func36 c36 rfl (by simp [ntmps36]) (by simp) (by simp [ResIds]) fun E hE => ?_
    simp [p36, splice, repl]
    repeat ((first | (refine ACall.mk _ _ _ (c1) ?_ ?_ ?_ ?_; (focus (simp [bor_s2]; done)); (focus (simp; done)); (focus (first | (left; simp; done) | (right; simp; done)))) | (refine ACall.mk _ _ _ (c2) ?_ ?_ ?_ ?_; (focus (simp [bor_s1]; done)); (focus (simp; done)); (focus (first | (left; simp; done) | (right; simp; done)))) | (refine ACall.mk _ _ _ (c3) ?_ ?_ ?_ ?_; (focus (simp [bor_s2]; done)); (focus (simp; done)); (focus (first | (left; simp; done) | (right; simp; done)))) | (refine ACall.mk _ _ _ (c4) ?_ ?_ ?_ ?_; (focus (simp [bor_i1, bor_i2, bor_s1, bor_s2]; done)); (focus (simp; done)); (focus (first | (left; simp; done) | (right; simp; done)))) | (refine ACall.mk _ _ _ (c5) ?_ ?_ ?_ ?_; (focus (simp [bor_i1, bor_i2, bor_s1, bor_s2]; done)); (focus (simp; done)); (focus (first | (left; simp; done) | (right; simp; done)))) | (refine ACall.mk _ _ _ (c6) ?_ ?_ ?_ ?_; (focus (simp [bor_i1, bor_i2, bor_s1, bor_s2]; done)); (focus (simp; done)); (focus (first | (left; simp; done) | (right; simp; done)))) | (refine ACall.mk _ _ _ (c7) ?_ ?_ ?_ ?_; (focus (simp [bor_i1, bor_i2, bor_s1, bor_s2]; done)); (focus (simp; done)); (focus (first | (left; simp; done) | (right; simp; done))))); simp [splice, repl])
    refine RetOk.by (fun _ => none) ?_
    simp [results36]
  cases b4
  · refine Ct.by gok eok mixed func36 c36 rfl (by simp [ntmps36]) (by simp) (by simp [ResIds]) fun E hE => ?_
    simp [p36, splice, repl]
    repeat ((first | (refine ACall.mk _ _ _ (c1) ?_ ?_ ?_ ?_; (focus (simp [bor_s2]; done)); (focus (simp; done)); (focus (first | (left; simp; done) | (right; simp; done)))) | (refine ACall.mk _ _ _ (c2) ?_ ?_ ?_ ?_; (focus (simp [bor_s1]; done)); (focus (simp; done)); (focus (first | (left; simp; done) | (right; simp; done)))) | (refine ACall.mk _ _ _ (c3) ?_ ?_ ?_ ?_; (focus (simp [bor_s2]; done)); (focus (simp; done)); (focus (first | (left; simp; done) | (right; simp; done)))) | (refine ACall.mk _ _ _ (c4) ?_ ?_ ?_ ?_; (focus (simp [bor_s1]; done)); (focus (simp; done)); (focus (first | (left; simp; done) | (right; simp; done)))) | (refine ACall.mk _ _ _ (c5) ?_ ?_ ?_ ?_; (focus (simp [bor_i1, bor_i2, bor_s1, bor_s2]; done)); (focus (simp; done)); (focus (first | (left; simp; done) | (right; simp; done)))) | (refine ACall.mk _ _ _ (c6) ?_ ?_ ?_ ?_; (focus (simp [bor_i1, bor_i2, bor_s1, bor_s2]; done)); (focus (simp; done)); (focus (first | (left; simp; done) | (right; simp; done)))) | (refine ACall.mk _ _ _ (c7) ?_ ?_ ?_ ?_; (focus (simp [bor_i1, bor_i2, bor_s1, bor_s2]; done)); (focus (simp; done)); (focus (first | (left; simp; done) | (right; simp; done))))); simp [splice, repl])
    refine RetOk.by (fun _ => none) ?_
    simp [results36]
  cases b5
  · refine Ct.by gok eok mixed func36 c36 rfl (by simp [ntmps36]) (by simp) (by simp [ResIds]) fun E hE => ?_
    simp [p36, splice, repl]
    repeat ((first | (refine ACall.mk _ _ _ (c1) ?_ ?_ ?_ ?_; (focus (simp [bor_s2]; done)); (focus (simp; done)); (focus (first | (left; simp; done) | (right; simp; done)))) | (refine ACall.mk _ _ _ (c2) ?_ ?_ ?_ ?_; (focus (simp [bor_s1]; done)); (focus (simp; done)); (focus (first | (left; simp; done) | (right; simp; done)))) | (refine ACall.mk _ _ _ (c3) ?_ ?_ ?_ ?_; (focus (simp [bor_s2]; done)); (focus (simp; done)); (focus (first | (left; simp; done) | (right; simp; done)))) | (refine ACall.mk _ _ _ (c4) ?_ ?_ ?_ ?_; (focus (simp [bor_s1]; done)); (focus (simp; done)); (focus (first | (left; simp; done) | (right; simp; done)))) | (refine ACall.mk _ _ _ (c5) ?_ ?_ ?_ ?_; (focus (simp [bor_i2]; done)); (focus (simp; done)); (focus (first | (left; simp; done) | (right; simp; done)))) | (refine ACall.mk _ _ _ (c6) ?_ ?_ ?_ ?_; (focus (simp [bor_i1, bor_i2, bor_s1, bor_s2]; done)); (focus (simp; done)); (focus (first | (left; simp; done) | (right; simp; done)))) | (refine ACall.mk _ _ _ (c7) ?_ ?_ ?_ ?_; (focus (simp [bor_i1, bor_i2, bor_s1, bor_s2]; done)); (focus (simp; done)); (focus (first | (left; simp; done) | (right; simp; done))))); simp [splice, repl])
    refine RetOk.by (fun _ => none) ?_
    simp [results36]
  cases b6
  · refine Ct.by gok eok mixed func36 c36 rfl (by simp [ntmps36]) (by simp) (by simp [ResIds]) fun E hE => ?_
    simp [p36, splice, repl]
    repeat ((first | (refine ACall.mk _ _ _ (c1) ?_ ?_ ?_ ?_; (focus (simp [bor_s2]; done)); (focus (simp; done)); (focus (first | (left; simp; done) | (right; simp; done)))) | (refine ACall.mk _ _ _ (c2) ?_ ?_ ?_ ?_; (focus (simp [bor_s1]; done)); (focus (simp; done)); (focus (first | (left; simp; done) | (right; simp; done)))) | (refine ACall.mk _ _ _ (c3) ?_ ?_ ?_ ?_; (focus (simp [bor_s2]; done)); (focus (simp; done)); (focus (first | (left; simp; done) | (right; simp; done)))) | (refine ACall.mk _ _ _ (c4) ?_ ?_ ?_ ?_; (focus (simp [bor_s1]; done)); (focus (simp; done)); (focus (first | (left; simp; done) | (right; simp; done)))) | (refine ACall.mk _ _ _ (c5) ?_ ?_ ?_ ?_; (focus (simp [bor_i2]; done)); (focus (simp; done)); (focus (first | (left; simp; done) | (right; simp; done)))) | (refine ACall.mk _ _ _ (c6) ?_ ?_ ?_ ?_; (focus (simp [bor_i1]; done)); (focus (simp; done)); (focus (first | (left; simp; done) | (right; simp; done)))) | (refine ACall.mk _ _ _ (c7) ?_ ?_ ?_ ?_; (focus (simp [bor_i1, bor_i2, bor_s1, bor_s2]; done)); (focus (simp; done)); (focus (first | (left; simp; done) | (right; simp; done))))); simp [splice, repl])
    refine RetOk.by (fun _ => none) ?_
    simp [results36]
  cases b7
  · refine Ct.by gok eok mixed func36 c36 rfl (by simp [ntmps36]) (by simp) (by simp [ResIds]) fun E hE => ?_
    simp [p36, splice, repl]
    repeat ((first | (refine ACall.mk _ _ _ (c1) ?_ ?_ ?_ ?_; (focus (simp [bor_s2]; done)); (focus (simp; done)); (focus (first | (left; simp; done) | (right; simp; done)))) | (refine ACall.mk _ _ _ (c2) ?_ ?_ ?_ ?_; (focus (simp [bor_s1]; done)); (focus (simp; done)); (focus (first | (left; simp; done) | (right; simp; done)))) | (refine ACall.mk _ _ _ (c3) ?_ ?_ ?_ ?_; (focus (simp [bor_s2]; done)); (focus (simp; done)); (focus (first | (left; simp; done) | (right; simp; done)))) | (refine ACall.mk _ _ _ (c4) ?_ ?_ ?_ ?_; (focus (simp [bor_s1]; done)); (focus (simp; done)); (focus (first | (left; simp; done) | (right; simp; done)))) | (refine ACall.mk _ _ _ (c5) ?_ ?_ ?_ ?_; (focus (simp [bor_i2]; done)); (focus (simp; done)); (focus (first | (left; simp; done) | (right; simp; done)))) | (refine ACall.mk _ _ _ (c6) ?_ ?_ ?_ ?_; (focus (simp [bor_i1]; done)); (focus (simp; done)); (focus (first | (left; simp; done) | (right; simp; done)))) | (refine ACall.mk _ _ _ (c7) ?_ ?_ ?_ ?_; (focus (simp; done)); (focus (simp; done)); (focus (first | (left; simp; done) | (right; simp; done))))); simp [splice, repl])
    refine RetOk.by (fun _ => none) ?_
    simp [results36]
  · refine Ct.by gok eok mixed func36 c36 rfl (by simp [ntmps36]) (by simp) (by simp [ResIds]) fun E hE => ?_
    simp [p36, splice, repl]
    repeat ((first | (refine ACall.mk _ _ _ (c1) ?_ ?_ ?_ ?_; (focus (simp [bor_s2]; done)); (focus (simp; done)); (focus (first | (left; simp; done) | (right; simp; done)))) | (refine ACall.mk _ _ _ (c2) ?_ ?_ ?_ ?_; (focus (simp [bor_s1]; done)); (focus (simp; done)); (focus (first | (left; simp; done) | (right; simp; done)))) | (refine ACall.mk _ _ _ (c3) ?_ ?_ ?_ ?_; (focus (simp [bor_s2]; done)); (focus (simp; done)); (focus (first | (left; simp; done) | (right; simp; done)))) | (refine ACall.mk _ _ _ (c4) ?_ ?_ ?_ ?_; (focus (simp [bor_s1]; done)); (focus (simp; done)); (focus (first | (left; simp; done) | (right; simp; done)))) | (refine ACall.mk _ _ _ (c5) ?_ ?_ ?_ ?_; (focus (simp [bor_i2]; done)); (focus (simp; done)); (focus (first | (left; simp; done) | (right; simp; done)))) | (refine ACall.mk _ _ _ (c6) ?_ ?_ ?_ ?_; (focus (simp [bor_i1]; done)); (focus (simp; done)); (focus (first | (left; simp; done) | (right; simp; done)))) | (refine ACall.mk _ _ _ (c7) ?_ ?_ ?_ ?_; (focus (simp; done)); (focus (simp; done)); (focus (first | (left; simp; done) | (right; simp; done))))); simp [splice, repl])
    refine RetOk.by (fun _ => none) ?_
    simp [results36]
end Go.Proofs.Tryz
namespace Go.Proofs.Tryz
open Go.Psl
open Go.Air
abbrev vu8 (n : Int) : V := .d (.lit (.int .u8 n))
end Go.Proofs.Tryz
namespace Go.Proofs.Tryz
open Go.Psl
open Go.Air
structure ShpB (s : Shp) : Prop where
  h : -500 ≤ s.hl ∧ s.hl ≤ s.hh ∧ s.hh ≤ 9000
  f : 0 ≤ s.fl ∧ s.fl ≤ s.fh ∧ s.fh ≤ 1000000000
  w : 0 ≤ s.wl ∧ s.wl ≤ s.wh ∧ s.wh ≤ 1000000000
  d : 0 ≤ s.dry ∧ s.dry ≤ 1000000000
  b : 0 ≤ s.bal ∧ s.bal ≤ 1000000000
  n : s.gas.cs.length ≤ 12
  c : ∀ c ∈ s.gas.cs, CelB c
theorem okShp_B {s : Shp} (h : okShp s = true) : ShpB s := by
  unfold okShp okPlt okBk at h
  simp only [Bool.and_eq_true, spB_iff, List.all_eq_true, decide_eq_true_eq] at h
  obtain ⟨⟨⟨⟨⟨⟨h1, h2⟩, h3⟩, h4⟩, h5⟩, h6⟩, ⟨⟨⟨h7, h8⟩, h9⟩, h10⟩, h11⟩ := h
  have h5' : (0 ≤ s.dry ∧ s.dry ≤ 1000000000) ∧ 0 ≤ s.bal ∧ s.bal ≤ 1000000000 := by simpa [rgB] using h5
  exact ⟨h2, h3.1, h3.2, h5'.1, h5'.2, h7, fun c hc => okCel_iff.1 (h10 c hc)⟩
end Go.Proofs.Tryz
namespace Go.Proofs.Tryz
open Go.Psl
open Go.Air
structure Act where
  k : Int
  c : Int
  t : Int
  n : Int
deriving DecidableEq
abbrev actL (x : Act) : List D := [.lit (.int .u8 x.k), di x.c, di x.t, di x.n]
abbrev actV (x : Act) : V := .agg [vu8 x.k, vi x.c, vi x.t, vi x.n]
abbrev actsD (l : List Act) : D := .sl 4 (l.map actL)
end Go.Proofs.Tryz
namespace Go.Proofs.Tryz
open Go.Psl
open Go.Air
abbrev shpR (s : Shp) : List D := [di s.xl, di s.xh, di s.yl, di s.yh, di s.hl, di s.hh, di s.fl, di s.fh, di s.wl, di s.wh, di s.bl, di s.bh, di s.dry, di s.bal, di s.drp, cellsD s.gas.cs, di s.gas.bt, di s.gas.ih, di s.gas.ia, di s.gas.vh, di s.gas.va, di s.gas.lh, di s.gas.la, di s.gas.ph, di s.gas.pa]
end Go.Proofs.Tryz
namespace Go.Proofs.YtigekgfbcfbobaaGreat
open Go.Joins Go.ChangeShapes Go.WideShapes Go.ChangeAt Go.RowKit Go.Psl
set_option maxRecDepth 100000
theorem Tryz.own : ownKnob Tryz.prog.godebug = none := by kernel_rfl
theorem Tryz.laidOut : laidOutB Tryz.prog = true := by kernel_rfl
theorem all_map {α β : Type} {f : α → β} : ∀ {es : List β}, (∀ x ∈ es, ∃ k, x = f k) → ∃ t : List α, es = t.map f
  | [], _ => ⟨[], rfl⟩
  | e :: es, h => by
    obtain ⟨k, hk⟩ := h e (by simp)
    obtain ⟨t, ht⟩ := all_map (f := f) (es := es) fun x hx => h x (by simp [hx])
    exact ⟨k :: t, by rw [ht, hk]; rfl⟩
theorem sh_int {n : Nat} {ds : List D} (h : Sh' Tryz.prog (n + 1) 3 ds) : ∃ i : Int, ds = [.lit (.int .i64 i)] := by
  simp only [Sh', Tryz.underlying3] at h
  obtain ⟨i, h, _⟩ := h
  exact ⟨i, h⟩
theorem sh_span {n : Nat} {ds : List D} (h : Sh' Tryz.prog (n + 2) 27 ds) : ∃ k : Int × Int, ds = [.lit (.int .i64 k.1), .lit (.int .i64 k.2)] := by
  rw [Sh', Tryz.underlying27] at h
  obtain ⟨a, r, rfl, h1, b, r2, rfl, h2, rfl⟩ := h
  obtain ⟨i, rfl⟩ := sh_int h1
  obtain ⟨j, rfl⟩ := sh_int h2
  exact ⟨(i, j), rfl⟩
theorem sh_pair {n : Nat} {ds : List D} (h : Sh' Tryz.prog (n + 2) 30 ds) : ∃ k : Int × Int, ds = [.lit (.int .i64 k.1), .lit (.int .i64 k.2)] := by
  rw [Sh', Tryz.underlying30] at h
  obtain ⟨a, r, rfl, h1, b, r2, rfl, h2, rfl⟩ := h
  obtain ⟨i, rfl⟩ := sh_int h1
  obtain ⟨j, rfl⟩ := sh_int h2
  exact ⟨(i, j), rfl⟩
theorem sh_wind {n : Nat} {ds : List D} (h : Sh' Tryz.prog (n + 3) 74 ds) : ∃ k : (Int × Int) × Int × Int, ds = [.lit (.int .i64 k.1.1), .lit (.int .i64 k.1.2), .lit (.int .i64 k.2.1), .lit (.int .i64 k.2.2)] := by
  rw [Sh', Tryz.underlying74] at h
  obtain ⟨a, r, rfl, h1, b, r2, rfl, h2, rfl⟩ := h
  obtain ⟨i, rfl⟩ := sh_span h1
  obtain ⟨j, rfl⟩ := sh_span h2
  exact ⟨(i, j), rfl⟩
theorem sh_lev {n : Nat} {ds : List D} (h : Sh' Tryz.prog (n + 3) 128 ds) : ∃ k : Go.Air.Lev, ds = Tryz.levL k := by
  rw [Sh', Tryz.underlying128] at h
  obtain ⟨a, r, rfl, h1, b, r2, rfl, h2, c, r3, rfl, h3, rfl⟩ := h
  obtain ⟨i, rfl⟩ := sh_int h1
  obtain ⟨j, rfl⟩ := sh_span h2
  obtain ⟨k, rfl⟩ := sh_span h3
  exact ⟨⟨i, j.1, j.2, k.1, k.2⟩, rfl⟩
theorem sh_gal {n : Nat} {ds : List D} (h : Sh' Tryz.prog (n + 4) 174 ds) : ∃ k : Tryz.Gal, ds = Tryz.galL k := by
  rw [Sh', Tryz.underlying174] at h
  obtain ⟨a, r, rfl, h1, b, r2, rfl, h2, c, r3, rfl, h3, rfl⟩ := h
  obtain ⟨i, rfl⟩ := sh_int h1
  obtain ⟨j, rfl⟩ := sh_wind h2
  obtain ⟨k, rfl⟩ := sh_int h3
  exact ⟨⟨i, j.1.1, j.1.2, j.2.1, j.2.2, k⟩, rfl⟩
theorem sh_cell {n : Nat} {ds : List D} (h : Sh' Tryz.prog (n + 3) 88 ds) : ∃ k : Go.Air.Cel, ds = Tryz.cellL k := by
  rw [Sh', Tryz.underlying88] at h
  obtain ⟨a, r, rfl, h1, b, r2, rfl, h2, c, r3, rfl, h3, d, r4, rfl, h4, e, r5, rfl, h5, f, r6, rfl, h6, rfl⟩ := h
  obtain ⟨i1, rfl⟩ := sh_int h1
  obtain ⟨i2, rfl⟩ := sh_int h2
  obtain ⟨i3, rfl⟩ := sh_int h3
  obtain ⟨i4, rfl⟩ := sh_span h4
  obtain ⟨i5, rfl⟩ := sh_int h5
  obtain ⟨i6, rfl⟩ := sh_int h6
  exact ⟨⟨i1, i2, i3, i4.1, i4.2, i5, i6⟩, rfl⟩
theorem cells128 : Tryz.prog.cellsOf 128 = 5 := by kernel_rfl
theorem sh_levs {n : Nat} {ds : List D} (h : Sh' Tryz.prog (n + 4) 22 ds) : ∃ t : List Go.Air.Lev, ds = [.sl 5 (t.map Tryz.levL)] := by
  rw [Sh', Tryz.underlying22] at h
  obtain ⟨es, rfl, _, h⟩ := h
  obtain ⟨t, rfl⟩ := all_map fun x hx => sh_lev (h x hx)
  exact ⟨t, by rw [cells128]⟩
theorem cells174 : Tryz.prog.cellsOf 174 = 6 := by kernel_rfl
theorem sh_gals {n : Nat} {ds : List D} (h : Sh' Tryz.prog (n + 5) 23 ds) : ∃ t : List Tryz.Gal, ds = [.sl 6 (t.map Tryz.galL)] := by
  rw [Sh', Tryz.underlying23] at h
  obtain ⟨es, rfl, _, h⟩ := h
  obtain ⟨t, rfl⟩ := all_map fun x hx => sh_gal (h x hx)
  exact ⟨t, by rw [cells174]⟩
theorem cells88 : Tryz.prog.cellsOf 88 = 7 := by kernel_rfl
theorem sh_cells {n : Nat} {ds : List D} (h : Sh' Tryz.prog (n + 4) 28 ds) : ∃ t : List Go.Air.Cel, ds = [.sl 7 (t.map Tryz.cellL)] := by
  rw [Sh', Tryz.underlying28] at h
  obtain ⟨es, rfl, _, h⟩ := h
  obtain ⟨t, rfl⟩ := all_map fun x hx => sh_cell (h x hx)
  exact ⟨t, by rw [cells88]⟩
theorem sh_plant {n : Nat} {ds : List D} (h : Sh' Tryz.prog (n + 5) 32 ds) : ∃ p : Tryz.Plt, ds = [Tryz.cellsD p.cs, .lit (.int .i64 p.bt), .lit (.int .i64 p.ih), .lit (.int .i64 p.ia), .lit (.int .i64 p.vh), .lit (.int .i64 p.va), .lit (.int .i64 p.lh), .lit (.int .i64 p.la), .lit (.int .i64 p.ph), .lit (.int .i64 p.pa)] := by
  rw [Sh', Tryz.underlying32] at h
  obtain ⟨a, r, rfl, h1, b, r2, rfl, h2, c, r3, rfl, h3, d, r4, rfl, h4, e, r5, rfl, h5, f, r6, rfl, h6, rfl⟩ := h
  obtain ⟨i1, rfl⟩ := sh_cells h1
  obtain ⟨i2, rfl⟩ := sh_int h2
  obtain ⟨i3, rfl⟩ := sh_pair h3
  obtain ⟨i4, rfl⟩ := sh_pair h4
  obtain ⟨i5, rfl⟩ := sh_pair h5
  obtain ⟨i6, rfl⟩ := sh_pair h6
  exact ⟨⟨i1, i2, i3.1, i3.2, i4.1, i4.2, i5.1, i5.2, i6.1, i6.2⟩, rfl⟩
theorem sh_ship {n : Nat} {ds : List D} (h : Sh' Tryz.prog (n + 6) 34 ds) : ∃ s : Tryz.Shp, ds = Tryz.shpR s := by
  rw [Sh', Tryz.underlying34] at h
  obtain ⟨a1, r1, rfl, h1, a2, r2, rfl, h2, a3, r3, rfl, h3, a4, r4, rfl, h4, a5, r5, rfl, h5, a6, r6, rfl, h6, a7, r7, rfl, h7, a8, r8, rfl, h8, a9, r9, rfl, h9, a0, r0, rfl, h0, rfl⟩ := h
  obtain ⟨i1, rfl⟩ := sh_span h1
  obtain ⟨i2, rfl⟩ := sh_span h2
  obtain ⟨i3, rfl⟩ := sh_span h3
  obtain ⟨i4, rfl⟩ := sh_span h4
  obtain ⟨i5, rfl⟩ := sh_span h5
  obtain ⟨i6, rfl⟩ := sh_span h6
  obtain ⟨i7, rfl⟩ := sh_int h7
  obtain ⟨i8, rfl⟩ := sh_int h8
  obtain ⟨i9, rfl⟩ := sh_int h9
  obtain ⟨p, rfl⟩ := sh_plant h0
  exact ⟨⟨i1.1, i1.2, i2.1, i2.2, i3.1, i3.2, i4.1, i4.2, i5.1, i5.2, i6.1, i6.2, i7, i8, i9, p⟩, rfl⟩
theorem sh_sky {n : Nat} {ds : List D} (h : Sh' Tryz.prog (n + 6) 25 ds) : ∃ k : Tryz.Sky, ds = [Tryz.levsD k.s, Tryz.galsD k.w] := by
  rw [Sh', Tryz.underlying25] at h
  obtain ⟨a, r, rfl, h1, b, r2, rfl, h2, rfl⟩ := h
  obtain ⟨i, rfl⟩ := sh_levs h1
  obtain ⟨j, rfl⟩ := sh_gals h2
  exact ⟨⟨i, j⟩, rfl⟩
theorem all2_d {G : Gh} {W : World} : ∀ {ds : List D} {cv : List Value}, All2 (RD G.Im W) ds cv → All2 (R1 G W) (ds.map V.d) cv
  | [], [], _ => trivial
  | _ :: _, _ :: _, h => ⟨h.1, all2_d h.2⟩
abbrev GW (W : World) : Gh := ⟨fun _ => 0, fun _ => 0, fun _ => true, fun _ => true, InW W⟩
theorem struct_arg {H : Type} {enc : TypeId × Value → H} {W : World} {base : Nat} {v : Value} {d : DataW H} {p : List MemPlace} {t : TypeId} {fs : Array Field} {n : Nat} (hu : Tryz.prog.underlying t = some (.struct fs)) (hp : plainB Tryz.prog n t = true)
    (hval : Value.okWide Tryz.prog W .any base t v) (h : DataW.Trod enc Tryz.prog W 0 (fun _ => true) true t v d p) : ∃ ds : List D, Sh' Tryz.prog n t ds ∧ R2 (GW W) W (.agg (ds.map .d)) v := by
  obtain ⟨m, hm⟩ := h
  obtain ⟨cs, rfl, _⟩ := okWide_struct hu hval
  obtain ⟨ds, h1, h2⟩ := read_plain n t hp m _ _ hm
  exact ⟨ds, h1, _, rfl, all2_d h2⟩
theorem slice_arg {H : Type} {enc : TypeId × Value → H} {W : World} {base : Nat} {v : Value} {d : DataW H} {p : List MemPlace} {t e : TypeId} {n : Nat} (hu : Tryz.prog.underlying t = some (.slice e)) (hp : plainB Tryz.prog n t = true)
    (hval : Value.okWide Tryz.prog W .any base t v) (h : DataW.Trod enc Tryz.prog W 0 (fun _ => true) true t v d p) : ∃ D : D, Sh' Tryz.prog n t [D] ∧ R2 (GW W) W (.d D) v := by
  obtain ⟨m, hm⟩ := h
  obtain ⟨a, len, cap, rfl⟩ := okWide_slice hu hval
  obtain ⟨ds, h1, h2⟩ := read_plain n t hp m _ _ hm
  match ds, h2 with
  | [D], h2 => exact ⟨D, h1, h2.1⟩
theorem sky_arg {H : Type} {enc : TypeId × Value → H} {W : World} {base : Nat} {v : Value} {d : DataW H} {p : List MemPlace} (hval : Value.okWide Tryz.prog W .any base 25 v) (h : DataW.Trod enc Tryz.prog W 0 (fun _ => true) true 25 v d p) :
    ∃ k : Tryz.Sky, R2 (GW W) W (Tryz.skyV k) v := by
  obtain ⟨ds, h1, h2⟩ := struct_arg (n := 6) Tryz.underlying25 (by kernel_rfl) hval h
  obtain ⟨k, rfl⟩ := sh_sky h1
  exact ⟨k, h2⟩
theorem ship_arg {H : Type} {enc : TypeId × Value → H} {W : World} {base : Nat} {v : Value} {d : DataW H} {p : List MemPlace} (hval : Value.okWide Tryz.prog W .any base 34 v) (h : DataW.Trod enc Tryz.prog W 0 (fun _ => true) true 34 v d p) :
    ∃ k : Tryz.Shp, R2 (GW W) W (Tryz.shpV k (.d (Tryz.cellsD k.gas.cs))) v := by
  obtain ⟨ds, h1, h2⟩ := struct_arg (n := 6) Tryz.underlying34 (by kernel_rfl) hval h
  obtain ⟨k, rfl⟩ := sh_ship h1
  exact ⟨k, h2⟩
end Go.Proofs.YtigekgfbcfbobaaGreat
namespace Go.Proofs.Tryz
open Go.Psl
theorem bor_two {H : Hp} {id : Nat} {a b : Int} (h : H id = some [vi a, vi b]) : Bor H (.ls id 0 2 1) (.d (intsD [a, b])) := by
  rw [Bor_ls]
  exact ⟨rfl, rfl, by simp, _, h, rfl⟩
theorem fn222 (a b : Int × Int) : Ct prog 222 [vsp a.1 a.2, vsp b.1 b.2] (vi (orderS a b)) [] := by
  refine Ct.by gok eok mixed func222 c222 rfl (by simp [ntmps222]) (by simp) (by simp [ResIds]) fun E hE => ?_
  simp [p222, inC, Nat.testBit]
  refine ACall.mk _ _ _ (fn272 a.1 b.1) (by first | (simp; done) | simp [Bor_ls, Bor1_ls]) (by simp) (by first | (left; simp; done) | (right; simp; done)) ?_
  simp [inC, Nat.testBit]
  refine ACall.mk _ _ _ (fn272 a.2 b.2) (by first | (simp; done) | simp [Bor_ls, Bor1_ls]) (by simp) (by first | (left; simp; done) | (right; simp; done)) ?_
  simp [splice, repl]
  refine ACall.mk _ _ _ (fn2712 (cmpI a.1 b.1) (cmpI a.2 b.2)) (by simp [bor_two]) (by simp) (by first | (left; simp; done) | (right; simp; done)) ?_
  simp
  refine RetOk.by (fun _ => none) ?_
  simp [results222, orderS]
def okC (p : Int × Int) : Bool := decide (max p.1 p.2 ≤ 268435456) && decide (-268435456 ≤ min p.1 p.2)
theorem okC_iff {p : Int × Int} : okC p = true ↔ bd 268435456 p := by
  unfold okC bd; simp only [Bool.and_eq_true, decide_eq_true_eq]; omega
def nearC (l : List (Int × Int)) : Bool := l.all okC
theorem nearC_take {l : List (Int × Int)} {i : Nat} {s : Int × Int} (hs : l[i]? = some s) : nearC (l.take (i + 1)) = (nearC (l.take i) && okC s) := by
  simp [nearC, List.take_add_one, hs]
theorem nearC_false {l : List (Int × Int)} {i : Nat} {s : Int × Int} (hs : l[i]? = some s) (h : okC s = false) : nearC l = false := by
  unfold nearC
  rw [List.all_eq_false]
  exact ⟨s, List.mem_of_getElem? hs, by simp [h]⟩
theorem fn125 (l : List (Int × Int)) (hl : l.length ≤ 1000000000) : Ct prog 125 [.d (spansD l)] (vb (nearC l)) [] := by
  refine Ct.by gok eok mixed func125 c125 rfl (by simp [ntmps125]) (by simp) (by simp [ResIds]) fun E hE => ?_
  simp [p125]
  refine pw_loop (α := Nat) (fun i => ⟨slots [(5, .d (spansD l)), (6, vi l.length), (7, vi i)], lk [], 0⟩) (fun i => i ≤ l.length ∧ nearC (l.take i) = true) (fun i => l.length - i) 0 ?_ ?_ ?_
  · simp [nearC]
  · refine Weak.mk hE (lk []) _ _ _ ?_ ?_ ?_ ?_ ?_ <;> simp
  · rintro i ⟨hi, hg⟩
    have hz : IntKind.wrap .i64 ((i : Int) + 1) = ((i : Int) + 1) := wrap64 (by omega) (by omega)
    simp [p125l0]
    refine cR_split (fun h => ?_) (fun h => ?_)
    · simp at h
      have hil : i < l.length := by omega
      obtain ⟨p, hp⟩ : ∃ p, l[i]? = some p := ⟨l[i], by simp [hil]⟩
      by_cases h1 : 268435456 < max p.1 p.2
      · have hb : okC p = false := by unfold okC; rw [decide_eq_false (by omega)]; rfl
        simp [hp, h1, splice]
        refine RetOk.by (fun _ => none) ?_
        simp [results125, nearC_false hp hb]
      by_cases h2 : min p.1 p.2 < -268435456
      · have hb : okC p = false := by unfold okC; rw [decide_eq_false (p := -268435456 ≤ min p.1 p.2) (by omega)]; simp
        simp [hp, h1, h2, splice]
        refine RetOk.by (fun _ => none) ?_
        simp [results125, nearC_false hp hb]
      have hb : okC p = true := by unfold okC; simp only [Bool.and_eq_true, decide_eq_true_eq]; omega
      simp [hp, h1, h2, hz, splice]
      refine ⟨i + 1, ⟨by omega, by rw [nearC_take hp, hg, hb]; rfl⟩, by omega, ?_⟩
      refine Weak.mk hE (lk []) _ _ _ ?_ ?_ ?_ ?_ ?_ <;> simp
    · simp at h
      have hil : i = l.length := by omega
      subst hil
      rw [List.take_length] at hg
      simp
      refine RetOk.by (fun _ => none) ?_
      simp [results125, hg]
theorem fn167 (l m : List (Int × Int)) (hl : l.length ≤ 1000000000) (_ : m.length ≤ 1000000000) : Ct prog 167 [.d (spansD l), .d (spansD m)] (vb (decide (l = m))) [] := by
  refine Ct.by gok eok mixed func167 c167 rfl (by simp [ntmps167]) (by simp) (by simp [ResIds]) fun E hE => ?_
  by_cases hlen : l.length = m.length
  case neg =>
    have hn : ¬ (l.length : Int) = m.length := by omega
    have hne : ¬ l = m := fun h => hlen (by rw [h])
    simp [p167, hn]
    refine RetOk.by (fun _ => none) ?_
    simp [results167, hne]
  simp [p167, hlen]
  refine pw_loop (α := Nat) (fun i => ⟨slots [(0, .d (spansD l)), (1, .d (spansD m)), (12, vi m.length), (13, vi i)], lk [], 0⟩) (fun i => i ≤ l.length ∧ l.take i = m.take i) (fun i => l.length - i) 0 ?_ ?_ ?_
  · simp
  · refine Weak.mk hE (lk []) _ _ _ ?_ ?_ ?_ ?_ ?_ <;> simp
  · rintro i ⟨hi, hg⟩
    have hz : IntKind.wrap .i64 ((i : Int) + 1) = ((i : Int) + 1) := wrap64 (by omega) (by omega)
    simp [p167l0]
    refine cR_split (fun h => ?_) (fun h => ?_)
    · simp at h
      have hil : i < l.length := by omega
      obtain ⟨a, ha⟩ : ∃ a, l[i]? = some a := ⟨l[i], by simp [hil]⟩
      obtain ⟨b, hb⟩ : ∃ b, m[i]? = some b := ⟨m[i], by simp [show i < m.length by omega]⟩
      by_cases h1 : a.1 = b.1 ∧ a.2 = b.2
      · have hab : a = b := by ext; exact h1.1; exact h1.2
        simp [ha, hb, h1, hz]
        refine ⟨i + 1, ⟨by omega, by simp [List.take_add_one, hg, ha, hb, hab]⟩, by omega, ?_⟩
        refine Weak.mk hE (lk []) _ _ _ ?_ ?_ ?_ ?_ ?_ <;> simp
      · have hne : ¬ l = m := fun h => by
          rw [h, hb] at ha
          cases ha
          exact h1 ⟨rfl, rfl⟩
        have hd : (!decide (a.1 = b.1) || !decide (a.2 = b.2)) = true := by simp; omega
        simp [ha, hb, hd]
        refine RetOk.by (fun _ => none) ?_
        simp [results167, hne]
    · simp at h
      have hil : i = l.length := by omega
      have hlm : l = m := by rw [hil, List.take_length, hlen, List.take_length] at hg; exact hg
      simp
      refine RetOk.by (fun _ => none) ?_
      simp [results167, hlm]
end Go.Proofs.Tryz
namespace Go.Proofs.Tryz
open Go.Psl
def spD (l : List (Int × Int)) : List D := l.flatMap fun s => [di s.1, di s.2]
abbrev cellsI (l : List (Int × Int)) : List V := (spD l).map .d
@[simp] theorem spD_len (l : List (Int × Int)) : (spD l).length = l.length * 2 := by
  induction l with
  | nil => rfl
  | cons a l ih => simp [spD] at ih ⊢; omega
theorem spD_snoc (l : List (Int × Int)) (p : Int × Int) : spD (l ++ [p]) = spD l ++ [di p.1, di p.2] := by simp [spD]
end Go.Proofs.Tryz
namespace Go.Proofs.Tryz
open Go.Psl
abbrev v3 (a b c : Int) : V := .agg [vi a, vi b, vi c]
def hdrV (out : List (Int × Int)) (b : Nat) : V := if out.isEmpty then .d (.lit (.slice none 0 0)) else .ls b 0 out.length 2
def outB (out : List (Int × Int)) (b : Nat) : List (Nat × List V) := if out.isEmpty then [] else [(b, cellsI out)]
end Go.Proofs.Tryz
namespace Go.Proofs.Tryz
open Go.Psl
@[simp] theorem hdrV_nil (b : Nat) : hdrV [] b = .d (.lit (.slice none 0 0)) := rfl
@[simp] theorem hdrV_snoc (l : List (Int × Int)) (p : Int × Int) (b : Nat) : hdrV (l ++ [p]) b = .ls b 0 (l.length + 1) 2 := by simp [hdrV]
@[simp] theorem outB_nil (b : Nat) : outB [] b = [] := rfl
@[simp] theorem outB_snoc (l : List (Int × Int)) (p : Int × Int) (b : Nat) : outB (l ++ [p]) b = [(b, cellsI l ++ [vi p.1, vi p.2])] := by simp [outB, cellsI, spD_snoc]
@[simp] theorem hdrV_one (p : Int × Int) (b : Nat) : hdrV [p] b = .ls b 0 1 2 := rfl
@[simp] theorem outB_one (p : Int × Int) (b : Nat) : outB [p] b = [(b, [vi p.1, vi p.2])] := rfl
end Go.Proofs.Tryz
namespace Go.Proofs.Tryz
open Go.Psl
@[simp] theorem spD_nil : spD [] = [] := rfl
theorem spD_cons (p : Int × Int) (l : List (Int × Int)) : spD (p :: l) = di p.1 :: di p.2 :: spD l := rfl
theorem spD_app (l m : List (Int × Int)) : spD (l ++ m) = spD l ++ spD m := by simp [spD]
theorem spD_at : ∀ {l : List (Int × Int)} {i : Nat} {p : Int × Int}, l[i]? = some p → ((spD l).drop (i * 2)).take 2 = [di p.1, di p.2]
  | [], i, p, h => by simp at h
  | a :: l, 0, p, h => by simp at h; subst h; rfl
  | a :: l, i + 1, p, h => by
    simp at h
    rw [show (i + 1) * 2 = i * 2 + 2 by omega, spD_cons, List.drop_succ_cons, List.drop_succ_cons]
    exact spD_at h
theorem cells_at {l : List (Int × Int)} {i : Nat} {p : Int × Int} (h : l[i]? = some p) : List.take 2 (List.drop (i * 2) (List.map V.d (spD l))) = [vi p.1, vi p.2] := by
  rw [← List.map_drop, ← List.map_take, spD_at h]; rfl
theorem spD_set : ∀ {l : List (Int × Int)} {i : Nat} (p : Int × Int), i < l.length → (spD l).take (i * 2) ++ [di p.1, di p.2] ++ (spD l).drop (i * 2 + 2) = spD (l.set i p)
  | [], i, p, h => by simp at h
  | a :: l, 0, p, h => rfl
  | a :: l, i + 1, p, h => by
    have := spD_set (l := l) (i := i) p (by simpa using h)
    rw [show (i + 1) * 2 = i * 2 + 1 + 1 by omega, spD_cons, List.take_succ_cons, List.take_succ_cons, List.set_cons_succ, spD_cons, ← this]
    simp [List.drop_succ_cons]
theorem cells_set {l : List (Int × Int)} {i : Nat} (p : Int × Int) (h : i < l.length) : splice (List.map V.d (spD l)) (i * 2) [vi p.1, vi p.2] = List.map V.d (spD (l.set i p)) := by
  unfold splice
  rw [← spD_set p h, List.map_append, List.map_append, List.map_take, List.map_drop]
  rfl
theorem sp_flat' (l : List (Int × Int)) : (l.map fun s => [di s.1, di s.2]).flatten = spD l := rfl
theorem fn220 (l : List (Int × Int)) (hl : l.length ≤ 1000000000) (h0 : l ≠ []) : Ct prog 220 [.d (spansD l)] (.ls 0 0 l.length 2) [(0, cellsI l)] := by
  refine Ct.by gok eok mixed func220 c220 rfl (by simp [ntmps220]) (by simp) (by simp [ResIds]) fun E hE => ?_
  obtain ⟨a, r, rfl⟩ := List.exists_cons_of_ne_nil h0
  have hmx : (r.length + 1) * 16 ≤ 140737488355328 ∧ r.length + 1 ≤ 9223372036854775807 := by simp at hl; omega
  have e : spansD (a :: r) = .sl 2 ([di a.1, di a.2] :: r.map fun s => [di s.1, di s.2]) := rfl
  have ef : (r.map fun s => [di s.1, di s.2]).flatten = spD r := rfl
  simp [p220, e, ef, repl, hmx]
  refine RetOk.by (lk [(0, 5242880)]) ?_
  have ec : cellsI (a :: r) = V.d (di a.1) :: V.d (di a.2) :: (spD r).map .d := rfl
  simp [results220, ec]
end Go.Proofs.Tryz
namespace Go.Proofs.Tryz
open Go.Psl
def revN (l : List (Int × Int)) : Nat → List (Int × Int)
  | 0 => l
  | i + 1 => ((revN l i).set i (l.getD (l.length - 1 - i) (0, 0))).set (l.length - 1 - i) (l.getD i (0, 0))
theorem revN_len (l : List (Int × Int)) : ∀ i, (revN l i).length = l.length
  | 0 => rfl
  | i + 1 => by simp [revN, revN_len l i]
theorem revN_at (l : List (Int × Int)) : ∀ i, 2 * i ≤ l.length → ∀ k, k < l.length → (revN l i)[k]? = if k < i ∨ l.length - i ≤ k then l[l.length - 1 - k]? else l[k]?
  | 0, _, k, hk => by simp [revN]; omega
  | i + 1, h, k, hk => by
    have ih := revN_at l i (by omega) k hk
    have g : ∀ j, j < l.length → some (l.getD j (0, 0)) = l[j]? := fun j hj => by
      rw [List.getD_eq_getElem?_getD, List.getElem?_eq_getElem hj]; rfl
    simp only [revN]
    by_cases h1 : k = l.length - 1 - i
    · subst h1
      rw [List.getElem?_set_self (by simp [revN_len]; omega), g i (by omega), if_pos (by omega)]
      congr 1; omega
    · rw [List.getElem?_set_ne (by omega)]
      by_cases h2 : k = i
      · subst h2
        rw [List.getElem?_set_self (by simp [revN_len]; omega), g _ (by omega), if_pos (by omega)]
      · rw [List.getElem?_set_ne (by omega), ih]
        by_cases h3 : k < i ∨ l.length - i ≤ k
        · rw [if_pos h3, if_pos (by omega)]
        · rw [if_neg h3, if_neg (by omega)]
theorem revN_end {l : List (Int × Int)} {i : Nat} (h : 2 * i ≤ l.length) (h2 : l.length ≤ 2 * i + 1) : revN l i = l.reverse := by
  apply List.ext_getElem?
  intro k
  by_cases hk : k < l.length
  · rw [revN_at l i h k hk, List.getElem?_reverse hk]
    by_cases h3 : k < i ∨ l.length - i ≤ k
    · rw [if_pos h3]
    · rw [if_neg h3]; congr 1; omega
  · rw [List.getElem?_eq_none (by rw [revN_len]; omega), List.getElem?_eq_none (by rw [List.length_reverse]; omega)]
theorem fn225 (l z : List (Int × Int)) (hl : l.length ≤ 1000000000) : Cm prog 225 [.ls 0 0 l.length 2] (lk [(0, cellsI (l ++ z))]) [0] (.ret (.tup [])) (lk [(0, cellsI (l.reverse ++ z))]) := by
  refine Cm.by gok eok mixed 1 func225 c225 rfl (by simp [ntmps225]) (by simp) (HpIds.at ?_) (by simp) ?_ fun E hE hs => ?_
  · simp
  · simp [ResIds]
  have w0 : IntKind.wrap .i64 ((l.length : Int) - 1) = (l.length : Int) - 1 := wrap64 (by omega) (by omega)
  simp [p225, w0]
  refine pw_loop (α := Nat) (fun i => ⟨slots [(0, .ls 0 0 l.length 2), (2, vi i), (3, vi ((l.length : Int) - 1 - i))], lk [(0, cellsI (revN l i ++ z))], 1⟩) (fun i => 2 * i ≤ l.length) (fun i => l.length - i) 0 ?_ ?_ ?_
  · simp
  · refine Weak.mkM hE (lk [(0, 0)]) _ _ _ ?_ ?_ ?_ ?_ ?_ ?_ <;> simp [revN]
  · intro i hi
    simp [p225l0]
    by_cases h : (i : Int) < (l.length : Int) - 1 - i
    · obtain ⟨j, hj⟩ : ∃ j, j = l.length - 1 - i := ⟨_, rfl⟩
      have hj' : (l.length : Int) - 1 - i = (j : Int) := by omega
      obtain ⟨a, ha⟩ : ∃ a, l[i]? = some a := ⟨l[i], by simp [show i < l.length by omega]⟩
      obtain ⟨b, hb⟩ : ∃ b, l[j]? = some b := ⟨l[j], by simp [show j < l.length by omega]⟩
      have hlen := revN_len l i
      have ha' : (revN l i ++ z)[i]? = some a := by rw [List.getElem?_append_left (by omega), revN_at l i hi i (by omega), if_neg (by omega), ha]
      have hb' : (revN l i ++ z)[j]? = some b := by rw [List.getElem?_append_left (by omega), revN_at l i hi j (by omega), if_neg (by omega), hb]
      have hnx : ((revN l i ++ z).set i b).set j a = revN l (i + 1) ++ z := by
        have e1 : l.getD i (0, 0) = a := by rw [List.getD_eq_getElem?_getD, ha]; rfl
        have e2 : l.getD j (0, 0) = b := by rw [List.getD_eq_getElem?_getD, hb]; rfl
        rw [revN, ← hj, e1, e2, List.set_append_left _ _ (by omega), List.set_append_left _ _ (by simp; omega)]
      generalize revN l i ++ z = L at ha' hb' hnx ⊢
      have hL1 := (List.getElem?_eq_some_iff.1 ha').1
      have hL2 := (List.getElem?_eq_some_iff.1 hb').1
      have ca := cells_at ha'
      have cb := cells_at hb'
      have s1 := cells_set b hL1
      have s2 := cells_set (l := L.set i b) a (i := j) (by simpa using hL2)
      rw [hnx] at s2
      have hdl := spD_len L
      have hdl2 := spD_len (L.set i b)
      have q1 : i * 2 + 2 ≤ L.length * 2 := by omega
      have q2 : j * 2 + 2 ≤ L.length * 2 := by omega
      have z1 : IntKind.wrap .i64 ((i : Int) + 1) = ((i + 1 : Nat) : Int) := by rw [wrap64 (by omega) (by omega)]; omega
      have z2 : IntKind.wrap .i64 ((j : Int) - 1) = (j : Int) - 1 := wrap64 (by omega) (by omega)
      have i1 : i < l.length := by omega
      have j1 : j < l.length := by omega
      have hij : i < j := by omega
      rw [hj']
      simp [hij]
      refine pw_drawW [(13, 0)] (by kernel_rfl) ?_
      simp [inC, Nat.testBit, i1, j1, q1, q2, ca, cb, s1, s2, z1, z2]
      refine ⟨i + 1, by omega, by omega, ?_⟩
      refine Weak.mkM hE (lk [(0, 0)]) _ _ _ ?_ ?_ ?_ ?_ ?_ ?_ <;> simp
      omega
    · simp [h]
      have he : revN l i = l.reverse := revN_end hi (by omega)
      refine RetOk.by (lk [(0, 0)]) ?_
      simp [results225, he]
end Go.Proofs.Tryz
namespace Go.Proofs.Tryz
open Go.Psl
def ddStep (d : List (Int × Int)) (p : Int × Int) : List (Int × Int) := if d.getLast? = some p then d else d ++ [p]
def ddC (l : List (Int × Int)) : List (Int × Int) := l.foldl ddStep []
theorem dd_take {l : List (Int × Int)} {a : Nat} {p : Int × Int} (h : l[a]? = some p) : ddC (l.take (a + 1)) = ddStep (ddC (l.take a)) p := by
  simp [ddC, List.take_add_one, h]
theorem dd_last {l : List (Int × Int)} : ∀ a, a + 1 ≤ l.length → (ddC (l.take (a + 1))).getLast? = l[a]? := fun a h => by
  obtain ⟨p, hp⟩ : ∃ p, l[a]? = some p := ⟨l[a], by simp [show a < l.length by omega]⟩
  rw [dd_take hp, hp, ddStep]
  by_cases h : (ddC (l.take a)).getLast? = some p
  · rw [if_pos h, h]
  · rw [if_neg h]; simp
theorem dd_len (l : List (Int × Int)) : ∀ a, (ddC (l.take a)).length ≤ a
  | 0 => by simp [ddC]
  | a + 1 => by
    by_cases h : a < l.length
    · rw [dd_take (p := l[a]) (by simp [h]), ddStep]
      have := dd_len l a
      split
      · omega
      · simp; omega
    · have := dd_len l a
      rw [List.take_of_length_le (by omega)] at this ⊢
      omega
theorem spD_take : ∀ (l : List (Int × Int)) (i : Nat), (spD l).take (i * 2) = spD (l.take i)
  | l, 0 => by simp
  | [], i + 1 => by simp
  | a :: l, i + 1 => by
    rw [show (i + 1) * 2 = i * 2 + 1 + 1 by omega, spD_cons, List.take_succ_cons, List.take_succ_cons, List.take_succ_cons, spD_cons]
    rw [spD_take l i]
theorem repl_spD (n : Nat) : repl n [vi 0, vi 0] = List.map V.d (spD (List.replicate n ((0 : Int), (0 : Int)))) := by
  induction n with
  | zero => rfl
  | succ n ih => rw [List.replicate_succ, spD_cons, List.map_cons, List.map_cons, ← ih]; rfl
theorem clear_end {d m : List (Int × Int)} {n : Nat} (hm : (d ++ m).length = n) : splice (List.map V.d (spD (d ++ m))) (d.length * 2) (repl (n - d.length) [vi 0, vi 0]) = List.map V.d (spD (d ++ List.replicate (n - d.length) (0, 0))) := by
  have hl : m.length = n - d.length := by simp at hm; omega
  unfold splice
  rw [repl_spD, ← List.map_take, spD_take, ← List.map_drop]
  have h1 : (spD (d ++ m)).drop (d.length * 2 + (List.map V.d (spD (List.replicate (n - d.length) ((0 : Int), (0 : Int))))).length) = [] := by
    apply List.drop_of_length_le
    simp; omega
  rw [h1, List.take_left, spD_app, List.map_append]
  simp
theorem fn223 (l : List (Int × Int)) (hl : l.length ≤ 1000000000) : Cm prog 223 [.ls 0 0 l.length 2] (lk [(0, cellsI l)]) [0] (.ret (.ls 0 0 (ddC l).length 2)) (lk [(0, cellsI (ddC l ++ List.replicate (l.length - (ddC l).length) (0, 0)))]) := by
  refine Cm.by gok eok mixed 1 func223 c223 rfl (by simp [ntmps223]) (by simp) (HpIds.at ?_) (by simp) ?_ fun E hE hs => ?_
  · simp
  · simp [ResIds]
  by_cases h2 : l.length < 2
  · have h2' : (l.length : Int) < 2 := by omega
    have e : ddC l = l := by
      clear hE h2'
      match l, h2 with
      | [], _ => rfl
      | [a], _ => rfl
      | _ :: _ :: _, h => simp at h; omega
    simp [p223, h2']
    refine RetOk.by (lk [(0, 0)]) ?_
    simp [results223, e]
  have h2' : ¬ (l.length : Int) < 2 := by omega
  simp [p223, h2']
  refine pw_loop (α := Nat) (fun k => ⟨slots [(0, .ls 0 0 l.length 2), (3, vi k)], lk [(0, cellsI l)], 1⟩) (fun k => 1 ≤ k ∧ k ≤ l.length ∧ ddC (l.take k) = l.take k) (fun k => l.length - k) 1 ?_ ?_ ?_
  · refine ⟨by omega, by omega, ?_⟩
    cases l with
    | nil => rfl
    | cons a l => rfl
  · refine Weak.mkM hE (lk [(0, 0)]) _ _ _ ?_ ?_ ?_ ?_ ?_ ?_ <;> simp
  rintro k ⟨k1, k2, hdd⟩
  simp [p223l1]
  refine cR_split (fun h => ?_) (fun h => ?_)
  · simp at h
    obtain ⟨j, hj⟩ : ∃ j, k = j + 1 := ⟨k - 1, by omega⟩
    obtain ⟨a, ha⟩ : ∃ a, l[k]? = some a := ⟨l[k], by simp [h]⟩
    obtain ⟨b, hb⟩ : ∃ b, l[j]? = some b := ⟨l[j], by simp [show j < l.length by omega]⟩
    have ca := cells_at ha
    have cb := cells_at hb
    have q1 : k * 2 + 2 ≤ l.length * 2 := by omega
    have q2 : j * 2 + 2 ≤ l.length * 2 := by omega
    have hj1 : j < l.length := by omega
    have w1 : IntKind.wrap .i64 ((k : Int) - 1) = (j : Int) := by rw [wrap64 (by omega) (by omega)]; omega
    have w2 : IntKind.wrap .i64 ((k : Int) + 1) = ((k + 1 : Nat) : Int) := by rw [wrap64 (by omega) (by omega)]; omega
    have hlast := dd_last (l := l) j (by omega)
    rw [hb, ← hj] at hlast
    by_cases hab : a.1 = b.1 ∧ a.2 = b.2
    · have hab' : a = b := by ext; exact hab.1; exact hab.2
      have hst : ddC (l.take (k + 1)) = l.take k := by rw [dd_take ha, ddStep, hlast, hab', if_pos rfl, hdd]
      simp [inC, Nat.testBit, h, hj1, q1, q2, ca, cb, w1, hab, k2]
      have hkl : (k : Int) ≤ l.length := by omega
      refine pw_loopC (α := Nat) 2 (fun _ : Unit => ⟨slots [(0, .ls 0 0 l.length 2), (3, vi (ddC l).length)], lk [(0, cellsI (ddC l ++ l.drop (ddC l).length))], 1⟩) (fun _ => (ddC l).length < l.length)
        (fun x => ⟨slots [(0, .ls 0 0 l.length 2), (3, vi (ddC (l.take (k + x))).length), (4, .ls 0 (k * 2) (l.length - k) 2), (5, vi x)], lk [(0, cellsI (ddC (l.take (k + x)) ++ l.drop (ddC (l.take (k + x))).length))], 1⟩)
        (fun x => 1 ≤ x ∧ k + x ≤ l.length ∧ (ddC (l.take (k + x))).length < k + x) (fun x => l.length - x) 1 ?_ ?_ ?_ fun _ hc => ?_
      · refine ⟨by omega, by omega, ?_⟩
        rw [hst, List.length_take]; omega
      · rw [hst, List.length_take, Nat.min_eq_left (by omega), List.take_append_drop]
        refine Weak.mkM hE (lk [(0, 0)]) _ _ _ ?_ ?_ ?_ ?_ ?_ ?_ <;> simp
      · rintro x ⟨x1, x2, x3⟩
        obtain ⟨dl, hdl⟩ : ∃ dl, (ddC (l.take (k + x))).length = dl := ⟨_, rfl⟩
        simp [p223l0]
        by_cases hx : x < l.length - k
        · obtain ⟨y, hy⟩ : ∃ y, x = y + 1 := ⟨x - 1, by omega⟩
          obtain ⟨c, hc⟩ : ∃ c, l[k + x]? = some c := ⟨l[k + x], by simp [show k + x < l.length by omega]⟩
          obtain ⟨e, he⟩ : ∃ e, l[k + y]? = some e := ⟨l[k + y], by simp [show k + y < l.length by omega]⟩
          have hnext := dd_take hc
          have hlst := dd_last (l := l) (k + y) (by omega)
          rw [show k + y + 1 = k + x by omega, he] at hlst
          rw [hdl] at x3
          have hMl : ∀ t, dl ≤ t → (ddC (l.take (k + x)) ++ l.drop dl)[t]? = l[t]? := fun t ht => by
            rw [List.getElem?_append_right (by omega), List.getElem?_drop, hdl]; congr 1; omega
          have hc' : (ddC (l.take (k + x)) ++ l.drop dl)[k + x]? = some c := by rw [hMl _ (by omega), hc]
          have he' : (ddC (l.take (k + x)) ++ l.drop dl)[k + y]? = some e := by rw [hMl _ (by omega), he]
          have hML : (ddC (l.take (k + x)) ++ l.drop dl).length = l.length := by rw [List.length_append, hdl, List.length_drop]; omega
          have hset : (ddC (l.take (k + x)) ++ l.drop dl).set dl c = (ddC (l.take (k + x)) ++ [c]) ++ l.drop (dl + 1) := by
            rw [List.set_append_right _ _ (by omega), hdl, Nat.sub_self]
            cases hd : l.drop dl with
            | nil => have := congrArg List.length hd; simp at this; omega
            | cons p r =>
              have hr : l.drop (dl + 1) = r := by
                have := congrArg (List.drop 1) hd
                rw [List.drop_drop] at this
                simpa [Nat.add_comm] using this
              rw [hr]; simp
          have cc := cells_at hc'
          have ce := cells_at he'
          have sc := cells_set c (l := ddC (l.take (k + x)) ++ l.drop dl) (i := dl) (by omega)
          rw [hset] at sc
          have hsl := spD_len (ddC (l.take (k + x)) ++ l.drop dl)
          rw [hML] at hsl
          rw [hdl]
          obtain ⟨M, hM⟩ : ∃ M, ddC (l.take (k + x)) ++ l.drop dl = M := ⟨_, rfl⟩
          rw [hM] at cc ce sc hsl ⊢
          have z1 : IntKind.wrap .i64 ((x : Int) - 1) = (y : Int) := by rw [wrap64 (by omega) (by omega)]; omega
          have z2 : IntKind.wrap .i64 ((x : Int) + 1) = ((x + 1 : Nat) : Int) := by rw [wrap64 (by omega) (by omega)]; omega
          have z3 : IntKind.wrap .i64 ((dl : Int) + 1) = ((dl + 1 : Nat) : Int) := by rw [wrap64 (by omega) (by omega)]; omega
          have r1 : (k + x) * 2 + 2 ≤ l.length * 2 := by omega
          have r2 : (k + y) * 2 + 2 ≤ l.length * 2 := by omega
          have r3 : dl * 2 + 2 ≤ l.length * 2 := by omega
          have m1 : k * 2 + x * 2 = (k + x) * 2 := by omega
          have m2 : k * 2 + y * 2 = (k + y) * 2 := by omega
          have y1 : y < l.length - k := by omega
          have d1 : dl < l.length := by omega
          have xx : (x : Int) < ((l.length - k : Nat) : Int) := by omega
          by_cases hce : c.1 = e.1 ∧ c.2 = e.2
          · have hce' : c = e := by ext; exact hce.1; exact hce.2
            have hd2 : ddC (l.take (k + (x + 1))) = ddC (l.take (k + x)) := by rw [← Nat.add_assoc, hnext, ddStep, hlst, hce', if_pos rfl]
            simp [xx, inC, Nat.testBit, hx, y1, hsl, r1, r2, m1, m2, cc, ce, z1, z2, hce]
            refine ⟨x + 1, ⟨by omega, by omega, by rw [hd2]; omega⟩, by omega, ?_⟩
            rw [hd2, hdl, hM]
            refine Weak.mkM hE (lk [(0, 0)]) _ _ _ ?_ ?_ ?_ ?_ ?_ ?_ <;> simp
          · have hd2 : ddC (l.take (k + (x + 1))) = ddC (l.take (k + x)) ++ [c] := by rw [← Nat.add_assoc, hnext, ddStep, hlst, if_neg]; intro h; cases h; exact hce ⟨rfl, rfl⟩
            have hne : (!decide (c.1 = e.1) || !decide (c.2 = e.2)) = true := by simp; omega
            have hdl2 : (ddC (l.take (k + x)) ++ [c]).length = dl + 1 := by simp [hdl]
            simp [xx, inC, Nat.testBit, hx, y1, hsl, r1, r2, r3, m1, m2, cc, ce, z1, z2, z3, hne, d1, sc]
            refine ⟨x + 1, ⟨by omega, by omega, by rw [hd2, hdl2]; omega⟩, by omega, ?_⟩
            rw [hd2, hdl2]
            refine Weak.mkM hE (lk [(0, 0)]) _ _ _ ?_ ?_ ?_ ?_ ?_ ?_ <;> simp
        · have hkx : k + x = l.length := by omega
          rw [hkx, List.take_length] at x3 hdl
          rw [hkx, List.take_length]
          simp [hx]
          refine ⟨by omega, ?_⟩
          refine Weak.mkM hE (lk [(0, 0)]) _ _ _ ?_ ?_ ?_ ?_ ?_ ?_ <;> simp
      · obtain ⟨d, hd⟩ : ∃ d, ddC l = d := ⟨_, rfl⟩
        rw [hd] at hc ⊢
        have hML : (d ++ l.drop d.length).length = l.length := by simp; omega
        have hcl := clear_end hML
        have hsl := spD_len (d ++ l.drop d.length)
        rw [hML] at hsl
        have hne : ¬ l.length - d.length = 0 := by omega
        have hle : d.length ≤ l.length := by omega
        have hfit : d.length * 2 + (l.length - d.length) * 2 ≤ l.length * 2 := by omega
        simp [hle, hne, hfit, hsl, hcl]
        refine RetOk.by (lk [(0, 0)]) ?_
        simp [results223]
    · have hd : (decide (a.1 = b.1) && decide (a.2 = b.2)) = false := by simp; omega
      simp [inC, Nat.testBit, h, hj1, q1, q2, ca, cb, w1, w2, hd]
      refine ⟨k + 1, ⟨by omega, by omega, ?_⟩, by omega, ?_⟩
      · rw [dd_take ha, ddStep, hlast, if_neg, hdd, List.take_add_one (i := k), ha]; rfl
        intro e; cases e; exact hab ⟨rfl, rfl⟩
      · refine Weak.mkM hE (lk [(0, 0)]) _ _ _ ?_ ?_ ?_ ?_ ?_ ?_ <;> simp
  · simp at h
    have hk : k = l.length := by omega
    subst hk
    rw [List.take_length] at hdd
    simp
    refine RetOk.by (lk [(0, 0)]) ?_
    simp [results223, hdd]
end Go.Proofs.Tryz
namespace Go.Geo
abbrev C := Int × Int
def lt (a b : C) : Prop := a.1 < b.1 ∨ (a.1 = b.1 ∧ a.2 < b.2)
def cross (a b c : C) : Int := (b.1 - a.1) * (c.2 - a.2) - (b.2 - a.2) * (c.1 - a.1)
def xp (u v : C) : Int := u.1 * v.2 - u.2 * v.1
def pos (u : C) : Prop := 0 < u.1 ∨ (u.1 = 0 ∧ 0 < u.2)
def sb (a b : C) : C := (a.1 - b.1, a.2 - b.2)
theorem lt_irr (a : C) : ¬ lt a a := by unfold lt; omega
theorem lt_trans {a b c : C} (h1 : lt a b) (h2 : lt b c) : lt a c := by unfold lt at *; omega
theorem lt_tri (a b : C) : lt a b ∨ a = b ∨ lt b a := by
  rcases a with ⟨a1, a2⟩; rcases b with ⟨b1, b2⟩
  simp only [lt, Prod.mk.injEq]; omega
theorem pos_sb {a b : C} (h : lt a b) : pos (sb b a) := by unfold lt at h; unfold pos sb; omega
theorem xp_key (u v w : C) : v.1 * xp u w = w.1 * xp u v + u.1 * xp v w := by unfold xp; grind
theorem cross_xp (a b c : C) : cross a b c = xp (sb b a) (sb c a) := by unfold cross xp sb; grind
theorem cross_xp2 (a b c : C) : cross a b c = xp (sb b a) (sb c b) := by unfold cross xp sb; grind
theorem cross_xp3 (a b c : C) : cross a b c = xp (sb c a) (sb c b) := by unfold cross xp sb; grind
theorem xp_neg (u v : C) : xp u v = - xp v u := by unfold xp; grind
theorem cross_swap (a b c : C) : cross a b c = - cross a c b := by unfold cross; grind
theorem cross_self (a b : C) : cross a b a = 0 := by unfold cross; grind
theorem cross_self2 (a b : C) : cross a b b = 0 := by unfold cross; grind
theorem le_of_pmul {x y : Int} (h : 0 < x) (hy : 0 ≤ x * y) : 0 ≤ y := by
  apply Int.not_lt.1; intro hn
  have := Int.mul_neg_of_pos_of_neg h hn
  omega
theorem tr {u v w : C} (hu : pos u) (hv : pos v) (hw : pos w) (h1 : 0 ≤ xp u v) (h2 : 0 ≤ xp v w) : 0 ≤ xp u w := by
  rcases hv with hv | ⟨hv, hv2⟩
  · refine le_of_pmul hv ?_
    rw [xp_key]
    have a := Int.mul_nonneg (show 0 ≤ w.1 by unfold pos at hw; omega) h1
    have b := Int.mul_nonneg (show 0 ≤ u.1 by unfold pos at hu; omega) h2
    omega
  · have e1 : xp v w = v.2 * -w.1 := by unfold xp; rw [hv]; grind
    rw [e1] at h2
    have := le_of_pmul hv2 h2
    have hw1 : w.1 = 0 := by unfold pos at hw; omega
    have hw2 : 0 < w.2 := by unfold pos at hw; omega
    have e2 : xp u w = u.1 * w.2 := by unfold xp; rw [hw1]; grind
    rw [e2]
    exact Int.mul_nonneg (by unfold pos at hu; omega) (by omega)
def pushS : List C → C → List C
  | b :: a :: r, p => if cross a b p ≤ 0 then pushS (a :: r) p else p :: b :: a :: r
  | st, p => p :: st
def chainR (l : List C) : List C := l.foldl pushS []
def edg : List C → List (C × C)
  | b :: a :: r => (a, b) :: edg (a :: r)
  | _ => []
def Good (done : List C) : List C → Prop
  | c :: b :: a :: r => lt b c ∧ 0 < cross a b c ∧ (∀ q ∈ done, 0 ≤ cross b c q) ∧ Good done (b :: a :: r)
  | c :: b :: [] => lt b c ∧ ∀ q ∈ done, 0 ≤ cross b c q
  | _ => True
theorem Good.tail {done : List C} {b : C} : ∀ {r : List C}, Good done (b :: r) → Good done r
  | [], _ => trivial
  | [_], _ => trivial
  | _ :: _ :: _, h => h.2.2.2
theorem Good.lt2 {done : List C} {c b : C} : ∀ {r : List C}, Good done (c :: b :: r) → lt b c
  | [], h => h.1
  | _ :: _, h => h.1
theorem Good.above {done : List C} {c b : C} : ∀ {r : List C}, Good done (c :: b :: r) → ∀ q ∈ done, 0 ≤ cross b c q
  | [], h => h.2
  | _ :: _, h => h.2.2.1
theorem Good.one {done : List C} {q : C} : ∀ {st : List C}, Good done st → (∀ e ∈ edg st, 0 ≤ cross e.1 e.2 q) → Good (done ++ [q]) st
  | [], _, _ => trivial
  | [_], _, _ => trivial
  | [c, b], h, hq => ⟨h.1, fun x hx => by
      rcases List.mem_append.1 hx with hx | hx
      · exact h.2 x hx
      · rw [List.mem_singleton.1 hx]; exact hq (b, c) (by simp [edg])⟩
  | c :: b :: a :: r, h, hq => ⟨h.1, h.2.1, fun x hx => by
      rcases List.mem_append.1 hx with hx | hx
      · exact h.2.2.1 x hx
      · rw [List.mem_singleton.1 hx]; exact hq (b, c) (by simp [edg]), Good.one h.2.2.2 fun e he => hq e (by simp only [edg, List.mem_cons] at he ⊢; exact Or.inr he)⟩
theorem on_left {done : List C} {p : C} : ∀ {st : List C}, Good done st → (∀ b ∈ st, lt b p) → (∀ b a r, st = b :: a :: r → 0 ≤ cross a b p) → ∀ e ∈ edg st, 0 ≤ cross e.1 e.2 p
  | [], _, _, _, _, he => by simp [edg] at he
  | [_], _, _, _, _, he => by simp [edg] at he
  | [c, b], _, _, h, e, he => by simp [edg] at he; subst he; exact h c b [] rfl
  | c :: b :: a :: r, hg, hl, h, e, he => by
    simp only [edg, List.mem_cons] at he
    have h0 := h c b (a :: r) rfl
    have hba : lt a b := hg.2.2.2.lt2
    have hcb := hg.1
    rcases he with rfl | he
    · exact h0
    · refine on_left hg.2.2.2 (fun x hx => hl x (by simp [hx])) (fun x y s hs => ?_) e (by simp only [edg, List.mem_cons]; exact he)
      cases hs
      have h1 := hg.2.1
      rw [cross_xp2] at h1 ⊢
      rw [cross_xp] at h0
      exact tr (pos_sb hba) (pos_sb hcb) (pos_sb (hl b (by simp))) (Int.le_of_lt h1) h0
theorem push_good {done : List C} {p : C} (hp : ∀ q ∈ done, lt q p) : ∀ {st : List C}, Good done st → (∀ b ∈ st, b ∈ done) → (∀ b r, st = b :: r → ∀ q ∈ done, ¬ lt q b → 0 ≤ cross b p q) → (∀ f, st.getLast? = some f → ∀ q ∈ done, ¬ lt q f) → Good (done ++ [p]) (pushS st p)
  | [], _, _, _, _ => trivial
  | [b], _, hs, hk, h1 => by
    refine ⟨hp b (hs b (by simp)), fun q hq => ?_⟩
    rcases List.mem_append.1 hq with hq | hq
    · exact hk b [] rfl q hq (h1 b rfl q hq)
    · rw [List.mem_singleton.1 hq, cross_self2]; omega
  | b :: a :: r, hg, hs, hk, h1 => by
    have hab := hg.lt2
    have hbp := hp b (hs b (by simp))
    have hap := hp a (hs a (by simp))
    unfold pushS
    by_cases hc : cross a b p ≤ 0
    · rw [if_pos hc]
      refine push_good hp hg.tail (fun x hx => hs x (by simp [hx])) (fun a' r' e q hq hqa => ?_) (fun f e q hq => h1 f (by rw [List.getLast?_cons_cons]; exact e) q hq)
      cases e
      have hqp := hp q hq
      have hba : 0 ≤ xp (sb p a) (sb b a) := by rw [cross_swap, cross_xp] at hc; omega
      have hbp2 : 0 ≤ xp (sb p b) (sb p a) := by rw [cross_xp3] at hc; rw [xp_neg]; omega
      rcases lt_tri q b with hqb | rfl | hbq
      · rcases lt_tri a q with haq | rfl | hqa2
        · have h2 := hg.above q hq
          rw [cross_xp] at h2 ⊢
          exact tr (pos_sb hap) (pos_sb hab) (pos_sb haq) hba h2
        · rw [cross_self]; omega
        · exact absurd hqa2 hqa
      · rw [cross_xp]; exact hba
      · have h2 := hk b (a :: r) rfl q hq (fun h => lt_irr _ (lt_trans h hbq))
        rw [cross_swap, cross_xp3] at h2
        rw [cross_swap, cross_xp3]
        have h3 : 0 ≤ xp (sb p q) (sb p b) := by rw [xp_neg]; omega
        have := tr (pos_sb hqp) (pos_sb hbp) (pos_sb hap) h3 hbp2
        rw [xp_neg] at this
        omega
    · rw [if_neg hc]
      refine ⟨hbp, by omega, fun q hq => ?_, hg.one (on_left hg (fun x hx => hp x (hs x hx)) fun b' a' r' e => by cases e; omega)⟩
      rcases List.mem_append.1 hq with hq | hq
      · rcases lt_tri q b with hqb | rfl | hbq
        · have h2 := hg.above q hq
          have h3 : 0 ≤ xp (sb b q) (sb b a) := by
            have : cross a b q = xp (sb b q) (sb b a) := by unfold cross xp sb; grind
            omega
          have h4 : 0 ≤ xp (sb b a) (sb p b) := by rw [← cross_xp2]; omega
          have := tr (pos_sb hqb) (pos_sb hab) (pos_sb hbp) h3 h4
          have e : cross b p q = xp (sb b q) (sb p b) := by unfold cross xp sb; grind
          omega
        · rw [cross_self]; omega
        · exact hk b (a :: r) rfl q hq fun h => lt_irr _ (lt_trans h hbq)
      · rw [List.mem_singleton.1 hq, cross_self2]; omega
def Sorted : List C → Prop := List.Pairwise lt
theorem pushS_head (p : C) : ∀ st : List C, ∃ r, pushS st p = p :: r ∧ (st = [] → r = []) ∧ (st ≠ [] → r ≠ [] ∧ r.getLast? = st.getLast?) ∧ r.Sublist st
  | [] => ⟨[], rfl, fun _ => rfl, fun h => absurd rfl h, List.Sublist.refl _⟩
  | [b] => ⟨[b], rfl, fun h => by simp at h, fun _ => ⟨by simp, rfl⟩, List.Sublist.refl _⟩
  | b :: a :: r => by
    unfold pushS
    by_cases h : cross a b p ≤ 0
    · rw [if_pos h]
      obtain ⟨r', h1, _, h3, h4⟩ := pushS_head p (a :: r)
      exact ⟨r', h1, fun h => by simp at h, fun _ => by rw [List.getLast?_cons_cons]; exact h3 (by simp), h4.cons b⟩
    · rw [if_neg h]
      exact ⟨b :: a :: r, rfl, fun h => by simp at h, fun _ => ⟨by simp, rfl⟩, List.Sublist.refl _⟩
structure ChainOf (l st : List C) : Prop where
  good : Good l st
  sub : st.reverse.Sublist l
  top : st.head? = l.getLast?
  bot : st.getLast? = l.head?
theorem chainR_snoc (l : List C) (p : C) : chainR (l ++ [p]) = pushS (chainR l) p := by simp [chainR]
theorem sorted_first {l : List C} (h : Sorted l) {f : C} (hf : l.head? = some f) : ∀ q ∈ l, ¬ lt q f := by
  cases l with
  | nil => simp at hf
  | cons a r =>
    simp at hf; subst hf
    intro q hq hlt
    rcases List.mem_cons.1 hq with rfl | hq
    · exact lt_irr _ hlt
    · exact lt_irr _ (lt_trans hlt ((List.pairwise_cons.1 h).1 q hq))
theorem chain_is (l : List C) (h : Sorted l) : ChainOf l (chainR l) := by
  have key : ∀ n, ∀ l : List C, l.length = n → Sorted l → ChainOf l (chainR l) := by
    intro n
    induction n with
    | zero =>
      intro l hl _
      rw [List.length_eq_zero_iff] at hl
      subst hl
      exact ⟨trivial, List.Sublist.refl _, rfl, rfl⟩
    | succ n ih =>
      intro l hl hs
      rcases List.eq_nil_or_concat l with rfl | ⟨l', p, rfl⟩
      · simp at hl
      rw [List.concat_eq_append] at hl hs ⊢
      have hs' : Sorted l' := (List.pairwise_append.1 hs).1
      have hp : ∀ q ∈ l', lt q p := fun q hq => (List.pairwise_append.1 hs).2.2 q hq p (by simp)
      have hi := ih l' (by simpa using hl) hs'
      rw [chainR_snoc]
      obtain ⟨r, e, e1, e2, e3⟩ := pushS_head p (chainR l')
      have hmem : ∀ b ∈ chainR l', b ∈ l' := fun b hb => hi.sub.subset (List.mem_reverse.2 hb)
      refine ⟨push_good hp hi.good hmem ?_ ?_, ?_, ?_, ?_⟩
      · intro b r' hb q hq hqb
        have ht := hi.top
        rw [hb] at ht
        simp at ht
        have hql : q = b := by
          rcases List.eq_nil_or_concat l' with rfl | ⟨l2, x, rfl⟩
          · simp at hq
          · rw [List.concat_eq_append] at ht hq hs'
            simp at ht
            subst ht
            rcases List.mem_append.1 hq with hq | hq
            · exact absurd ((List.pairwise_append.1 hs').2.2 q hq b (by simp)) hqb
            · exact List.mem_singleton.1 hq
        rw [hql, cross_self]; omega
      · intro f hf
        exact sorted_first hs' (by rw [← hi.bot]; exact hf)
      · rw [e, List.reverse_cons]
        exact ((List.reverse_sublist.2 e3).trans hi.sub).append (List.Sublist.refl _)
      · rw [e]; simp
      · rw [e]
        by_cases h0 : chainR l' = []
        · have hl' : l' = [] := by
            have := hi.top
            rw [h0] at this
            simp at this
            cases l' with
            | nil => rfl
            | cons a b => simp [List.getLast?_cons] at this
          subst hl'
          rw [e1 h0]; rfl
        · obtain ⟨h1, h2⟩ := e2 h0
          cases r with
          | nil => exact absurd rfl h1
          | cons x r =>
            rw [List.getLast?_cons_cons, h2, hi.bot]
            cases l' with
            | nil => exact absurd rfl h0
            | cons a b => rfl
  exact key _ l rfl h
end Go.Geo
namespace Go.Geo
def neg (p : C) : C := (-p.1, -p.2)
theorem neg_neg (p : C) : neg (neg p) = p := by simp [neg]
theorem cross_neg (a b c : C) : cross (neg a) (neg b) (neg c) = cross a b c := by unfold cross neg; grind
theorem lt_neg {a b : C} : lt (neg a) (neg b) ↔ lt b a := by unfold lt neg; omega
theorem push_neg (p : C) : ∀ st : List C, pushS (st.map neg) (neg p) = (pushS st p).map neg
  | [] => rfl
  | [_] => rfl
  | b :: a :: r => by
    have ih := push_neg p (a :: r)
    simp only [List.map_cons] at ih ⊢
    unfold pushS
    simp only [cross_neg]
    split
    · exact ih
    · rfl
theorem chainR_neg (l : List C) : chainR (l.map neg) = (chainR l).map neg := by
  have key : ∀ (l st : List C), (l.map neg).foldl pushS (st.map neg) = (l.foldl pushS st).map neg := by
    intro l
    induction l with
    | nil => intro st; rfl
    | cons a l ih => intro st; simp only [List.map_cons, List.foldl_cons]; rw [push_neg, ih]
  exact key l []
theorem sorted_neg {l : List C} (h : Sorted l) : Sorted (l.reverse.map neg) := by
  unfold Sorted at *
  rw [List.pairwise_map, List.pairwise_reverse]
  exact h.imp fun h => lt_neg.2 h
def hullS (l : List C) : List C := if l.length < 3 then l else (chainR l).tail.reverse ++ (chainR l.reverse).tail.reverse
theorem up_is {l : List C} (h : Sorted l) : ChainOf (l.reverse.map neg) ((chainR l.reverse).map neg) := by
  rw [← chainR_neg]
  exact chain_is _ (sorted_neg h)
theorem top_of {l st : List C} (h : ChainOf l st) {a : C} (ha : l.getLast? = some a) : ∃ t, st = a :: t := by
  have := h.top
  rw [ha] at this
  cases st with
  | nil => simp at this
  | cons b t => simp at this; exact ⟨t, by rw [this]⟩
theorem chains {l : List C} (h : Sorted l) (h2 : 2 ≤ l.length) : ∃ f g lo up, l.head? = some f ∧ l.getLast? = some g ∧ f ≠ g ∧ chainR l = g :: lo ∧ chainR l.reverse = f :: up ∧ lo.getLast? = some f ∧ up.getLast? = some g := by
  cases l with
  | nil => simp at h2
  | cons f r =>
    rcases List.eq_nil_or_concat r with rfl | ⟨m, g, rfl⟩
    · simp at h2
    rw [List.concat_eq_append] at *
    have hfg : f ≠ g := by
      intro e
      have := (List.pairwise_cons.1 h).1 g (by simp)
      rw [e] at this
      exact lt_irr _ this
    have hl : (f :: (m ++ [g])).getLast? = some g := by rw [show f :: (m ++ [g]) = (f :: m) ++ [g] from rfl, List.getLast?_append]; rfl
    obtain ⟨lo, hlo⟩ := top_of (chain_is _ h) hl
    have hu := up_is h
    have hl2 : ((f :: (m ++ [g])).reverse.map neg).getLast? = some (neg f) := by rw [List.getLast?_map, List.getLast?_reverse]; rfl
    obtain ⟨u', hu'⟩ := top_of hu hl2
    have hb := (chain_is _ h).bot
    rw [hlo] at hb
    have hub := hu.bot
    obtain ⟨up, hup⟩ : ∃ up, chainR (f :: (m ++ [g])).reverse = f :: up := by
      cases hc : chainR (f :: (m ++ [g])).reverse with
      | nil => rw [hc] at hu'; simp at hu'
      | cons a t =>
        rw [hc] at hu'
        simp only [List.map_cons, List.cons.injEq] at hu'
        have : a = f := by rw [← neg_neg a, hu'.1, neg_neg]
        exact ⟨t, by rw [this]⟩
    refine ⟨f, g, lo, up, rfl, hl, hfg, hlo, hup, ?_, ?_⟩
    · cases lo with
      | nil => simp at hb; exact absurd hb.symm hfg
      | cons a t => rw [List.getLast?_cons_cons] at hb; rw [hb]; rfl
    · rw [hup] at hub
      simp at hub
      cases up with
      | nil =>
        simp at hub
        have : f = g := by rw [← neg_neg f, hub, neg_neg]
        exact absurd this hfg
      | cons a t =>
        simp [List.getLast?_cons_cons] at hub
        rw [← List.map_cons, List.getLast?_map, Option.map_eq_some_iff] at hub
        obtain ⟨x, hx1, hx2⟩ := hub
        rw [hx1, show x = g by rw [← neg_neg x, hx2, neg_neg]]
end Go.Geo
namespace Go.Geo
def le (a b : C) : Prop := ¬ lt b a
end Go.Geo
namespace Go.Proofs.Tryz
open Go.Psl
open Go.Geo (cross pushS chainR)
def popS : List (Int × Int) → Int × Int → List (Int × Int)
  | b :: a :: r, p => if cross a b p ≤ 0 then popS (a :: r) p else b :: a :: r
  | st, _ => st
theorem push_pop (p : Int × Int) : ∀ st, pushS st p = p :: popS st p
  | [] => rfl
  | [_] => rfl
  | b :: a :: r => by
    unfold pushS popS
    split
    · exact push_pop p (a :: r)
    · rfl
theorem popS_sub (p : Int × Int) : ∀ st q, q ∈ popS st p → q ∈ st
  | [], q, h => h
  | [_], q, h => h
  | b :: a :: r, q, h => by
    unfold popS at h
    split at h
    · exact List.mem_cons_of_mem _ (popS_sub p (a :: r) q h)
    · exact h
theorem popS_two {p a b : Int × Int} {r : List (Int × Int)} : popS (b :: a :: r) p = if cross a b p ≤ 0 then popS (a :: r) p else b :: a :: r := rfl
theorem popS_len (p : Int × Int) : ∀ st, (popS st p).length ≤ st.length
  | [] => Nat.le_refl _
  | [_] => Nat.le_refl _
  | b :: a :: r => by
    unfold popS
    split
    · exact Nat.le_succ_of_le (popS_len p (a :: r))
    · exact Nat.le_refl _
theorem chainR_len : ∀ (l : List (Int × Int)), (chainR l).length ≤ l.length := fun l => by
  have key : ∀ (l st : List (Int × Int)), (l.foldl pushS st).length ≤ st.length + l.length := by
    intro l
    induction l with
    | nil => intro st; simp
    | cons a l ih =>
      intro st
      have := ih (pushS st a)
      have h2 := popS_len a st
      rw [push_pop] at this
      simp only [List.foldl_cons, List.length_cons] at this ⊢
      rw [push_pop]; omega
  have := key l []
  simpa [chainR] using this
theorem chainR_mem {l : List (Int × Int)} : ∀ q ∈ chainR l, q ∈ l := fun q h => by
  have key : ∀ (l st : List (Int × Int)), ∀ q ∈ l.foldl pushS st, q ∈ l ∨ q ∈ st := by
    intro l
    induction l with
    | nil => intro st q h; exact Or.inr h
    | cons a l ih =>
      intro st q h
      rcases ih _ q h with h | h
      · exact Or.inl (List.mem_cons_of_mem _ h)
      · rw [push_pop] at h
        rcases List.mem_cons.1 h with rfl | h
        · exact Or.inl (List.mem_cons_self ..)
        · exact Or.inr (popS_sub a st q h)
  rcases key l [] q h with h | h
  · exact h
  · simp at h
theorem chain_take {l : List (Int × Int)} {i : Nat} {p : Int × Int} (h : l[i]? = some p) : chainR (l.take (i + 1)) = p :: popS (chainR (l.take i)) p := by
  rw [List.take_add_one, h]
  show chainR (l.take i ++ [p]) = _
  rw [Go.Geo.chainR_snoc, push_pop]
def outZ (out z : List (Int × Int)) (b : Nat) : List (Nat × List V) := if out.isEmpty then [] else [(b, cellsI (out ++ z))]
@[simp] theorem outZ_nil (z : List (Int × Int)) (b : Nat) : outZ [] z b = [] := rfl
theorem outZ_snoc (l z : List (Int × Int)) (p : Int × Int) (b : Nat) : outZ (l ++ [p]) z b = [(b, cellsI (l ++ [p] ++ z))] := by simp [outZ]
theorem cells_take (l z : List (Int × Int)) : List.take (l.length * 2) (List.map V.d (spD (l ++ z))) = List.map V.d (spD l) := by
  rw [← List.map_take, spD_take, List.take_left]
theorem spD_one (p : Int × Int) (l : List (Int × Int)) : List.map V.d (spD (l ++ [p])) = List.map V.d (spD l) ++ [vi p.1, vi p.2] := by rw [spD_snoc]; simp
end Go.Proofs.Tryz
