/- Contracts: what each function of the program computes, for the arguments that its theorem names; and from there the given statement. Conditions: those that each theorem states. -/
import Derived.Test.YtaedloehfgmcnaaRa
import Derived.Test.YtaedloehfgmcnaaGf
import Derived.Test.YtaedloehfgmcnaaPe
import Derived.Test.YtaedloehfgmcnaaHa
import Derived.Test.YtaedloehfgmcnaaFr
namespace Go.Proofs.Try
open Go.Psl
theorem okC_xy {p : Int × Int} : okC p = ((decide (-268435456 ≤ p.1) && decide (p.1 ≤ 268435456)) && (decide (-268435456 ≤ p.2) && decide (p.2 ≤ 268435456))) := by
  rw [Bool.eq_iff_iff, okC_iff]
  simp only [bd, Bool.and_eq_true, decide_eq_true_eq]
set_option maxRecDepth 20000 in
theorem fn94 (l : List (Int × Int)) (hl : l.length ≤ 1000000000) : Ct prog 94 [.d (spansD l)] (vb (nearC l)) [] := by
  refine Ct.by gok eok mixed func94 c94 rfl (by simp [ntmps94]) (by simp) (by simp [ResIds]) fun E hE => ?_
  simp [p94]
  refine pw_loop (α := Nat) (fun i => ⟨slots [(0, .d (spansD l)), (3, vi i)], lk [], 0⟩) (fun i => i ≤ l.length ∧ nearC (l.take i) = true) (fun i => l.length - i) 0 ?_ ?_ ?_
  · simp [nearC]
  · refine Weak.mk hE (lk []) _ _ _ ?_ ?_ ?_ ?_ ?_ <;> simp
  · rintro i ⟨hi, hg⟩
    have hz : IntKind.wrap .i64 ((i : Int) + 1) = ((i : Int) + 1) := wrap64 (by omega) (by omega)
    simp [p94l0]
    refine cR_split (fun h => ?_) (fun h => ?_)
    · simp at h
      have hil : i < l.length := by omega
      obtain ⟨p, hp⟩ : ∃ p, l[i]? = some p := ⟨l[i], by simp [hil]⟩
      obtain ⟨b1, hb1⟩ : ∃ b1, (decide (-268435456 ≤ p.1) && decide (p.1 ≤ 268435456)) = b1 := ⟨_, rfl⟩
      have hb := okC_xy (p := p)
      rw [hb1] at hb
      simp [hp]
      refine ACall.mk _ _ _ (fn79 p.1 (-268435456) 268435456) (by first | (simp; done) | simp [Bor_ls, Bor1_ls]) (by simp) (by first | (left; simp; done) | (right; simp; done)) ?_
      rw [hb1]
      cases b1
      · simp
        refine RetOk.by (fun _ => none) ?_
        simp [results94, nearC_false hp hb]
      · simp [hp]
        refine ACall.mk _ _ _ (fn79 p.2 (-268435456) 268435456) (by first | (simp; done) | simp [Bor_ls, Bor1_ls]) (by simp) (by first | (left; simp; done) | (right; simp; done)) ?_
        rw [Bool.true_and] at hb
        rw [← hb]
        cases hc : okC p
        · simp
          refine RetOk.by (fun _ => none) ?_
          simp [results94, nearC_false hp hc]
        · simp [hz]
          refine ⟨i + 1, ⟨by omega, by rw [nearC_take hp, hg, hc]; rfl⟩, by omega, ?_⟩
          refine Weak.mk hE (lk []) _ _ _ ?_ ?_ ?_ ?_ ?_ <;> simp
    · simp at h
      have hil : i = l.length := by omega
      subst hil
      rw [List.take_length] at hg
      simp
      refine RetOk.by (fun _ => none) ?_
      simp [results94, hg]
theorem regS_eq (r : List (Int × Int)) : regS r = ((decide ((1 : Int) ≤ r.length) && decide ((r.length : Int) ≤ 64)) && nearC r && decide (hullP r = r)) := by
  unfold regS
  rw [decide_eq_decide.2 (show 1 ≤ r.length ↔ (1 : Int) ≤ r.length by omega), decide_eq_decide.2 (show r.length ≤ 64 ↔ (r.length : Int) ≤ 64 by omega)]
set_option maxRecDepth 20000 in
theorem fn67 (r : List (Int × Int)) (hr : r.length ≤ 1000000000) : Ct prog 67 [.d (spansD r)] (vb (regS r)) [] := by
  refine Ct.by gok eok mixed func67 c67 rfl (by simp [ntmps67]) (by simp) (by simp [ResIds]) fun E hE => ?_
  have e := regS_eq r
  obtain ⟨b1, hb1⟩ : ∃ b1, (decide ((1 : Int) ≤ r.length) && decide ((r.length : Int) ≤ 64)) = b1 := ⟨_, rfl⟩
  rw [hb1] at e
  simp [p67]
  refine ACall.mk _ _ _ (fn79 (r.length : Int) 1 64) (by first | (simp; done) | simp [Bor_ls, Bor1_ls]) (by simp) (by first | (left; simp; done) | (right; simp; done)) ?_
  rw [hb1]
  cases b1
  · simp
    refine RetOk.by (fun _ => none) ?_
    simp [results67, e]
  · simp only [Bool.and_eq_true, decide_eq_true_eq] at hb1
    simp
    refine ACall.mk _ _ _ (fn94 r hr) (by first | (simp; done) | simp [Bor_ls, Bor1_ls]) (by simp) (by first | (left; simp; done) | (right; simp; done)) ?_
    cases hn : nearC r
    · rw [hn] at e
      simp
      refine RetOk.by (fun _ => none) ?_
      simp [results67, e]
    · rw [hn] at e
      have hpl := hullP_len r
      simp
      refine ACall.mk _ _ _ (fn95 r (by omega) (near_bd hn)) (by first | (simp; done) | simp [Bor_ls, Bor1_ls]) (by simp) (by first | (left; simp; done) | (right; simp; done)) ?_
      simp
      refine ACall.mk _ _ _ (fn57 (hullP r) r (by omega) hr) (by first | (simp; done) | simp [Bor_ls, Bor1_ls]) (by simp) (by first | (left; simp; done) | (right; simp; done)) ?_
      simp
      refine RetOk.by (fun _ => none) ?_
      simp [results67, e]
set_option maxRecDepth 20000 in
theorem fn56 (r : List (Int × Int)) (hr : r.length ≤ 1000000000) : Ct prog 56 [.d (spansD r)] (vi (if regS r then 0 else 14)) [] := by
  refine Ct.by gok eok mixed func56 c56 rfl (by simp [ntmps56]) (by simp) (by simp [ResIds]) fun E hE => ?_
  simp [p56]
  refine ACall.mk _ _ _ (fn67 r hr) (by first | (simp; done) | simp [Bor_ls, Bor1_ls]) (by simp) (by first | (left; simp; done) | (right; simp; done)) ?_
  cases regS r
  · simp
    refine RetOk.by (fun _ => none) ?_
    simp [results56]
  · simp
    refine RetOk.by (fun _ => none) ?_
    simp [results56]
theorem fz_nil2 {P : Program} {f : FuncId} {args : List V} {e : Int} (h : Ct P f args (.tup [.d (.lit (.slice none 0 0)), vi e]) []) : Ct P f args (.tup [.d (spansD []), vi e]) [] :=
  Cm.freeze h ⟨Or.inr ⟨rfl, 2, rfl⟩, Or.inl rfl, trivial⟩
theorem hullE_pos {l : List (Int × Int)} (h : ¬ hullE l = 0) : hullO l = [] := by unfold hullO; rw [if_neg h]
set_option maxRecDepth 20000 in
theorem fn50 (l : List (Int × Int)) (hl : l.length ≤ 1000000000) : Ct prog 50 [.d (spansD l)] (.tup [.d (spansD (hullO l)), vi (hullE l)]) [] := by
  by_cases h1 : 64 < l.length
  · have h1' : (64 : Int) < l.length := by omega
    have e : hullE l = 4 := by unfold hullE; rw [if_pos h1]
    rw [hullE_pos (by rw [e]; decide), e]
    refine fz_nil2 ?_
    refine Ct.by gok eok mixed func50 c50 rfl (by simp [ntmps50]) (by simp) (by simp [ResIds]) fun E hE => ?_
    simp [p50, h1']
    refine RetOk.by (fun _ => none) ?_
    simp [results50]
  have h1' : ¬ (64 : Int) < l.length := by omega
  by_cases h2 : l.length < 1
  · have h2' : (l.length : Int) = 0 := by omega
    have e : hullE l = 2 := by unfold hullE; rw [if_neg h1, if_pos (Or.inl h2)]
    rw [hullE_pos (by rw [e]; decide), e]
    refine fz_nil2 ?_
    refine Ct.by gok eok mixed func50 c50 rfl (by simp [ntmps50]) (by simp) (by simp [ResIds]) fun E hE => ?_
    simp [p50, h2']
    refine RetOk.by (fun _ => none) ?_
    simp [results50]
  have h2' : ¬ (l.length : Int) = 0 := by omega
  have hne : ¬ l = [] := fun e => by rw [e] at h2; simp at h2
  cases h3 : nearC l
  · have e : hullE l = 2 := by unfold hullE; rw [if_neg h1, if_pos (Or.inr h3)]
    rw [hullE_pos (by rw [e]; decide), e]
    refine fz_nil2 ?_
    refine Ct.by gok eok mixed func50 c50 rfl (by simp [ntmps50]) (by simp) (by simp [ResIds]) fun E hE => ?_
    simp [p50, h1', hne]
    refine ACall.mk _ _ _ (fn94 l hl) (by first | (simp; done) | simp [Bor_ls, Bor1_ls]) (by simp) (by first | (left; simp; done) | (right; simp; done)) ?_
    simp [h3]
    refine RetOk.by (fun _ => none) ?_
    simp [results50]
  · have e : hullE l = 0 := by unfold hullE; rw [if_neg h1, if_neg]; rintro (h | h); omega; rw [h] at h3; cases h3
    have e2 : hullO l = hullP l := by unfold hullO; rw [e]; rfl
    refine Ct.by gok eok mixed func50 c50 rfl (by simp [ntmps50]) (by simp) (by simp [ResIds]) fun E hE => ?_
    simp [p50, h1', hne]
    refine ACall.mk _ _ _ (fn94 l hl) (by first | (simp; done) | simp [Bor_ls, Bor1_ls]) (by simp) (by first | (left; simp; done) | (right; simp; done)) ?_
    simp [h3]
    refine ACall.mk _ _ _ (fn95 l (by omega) (near_bd h3)) (by first | (simp; done) | simp [Bor_ls, Bor1_ls]) (by simp) (by first | (left; simp; done) | (right; simp; done)) ?_
    simp
    refine RetOk.by (fun _ => none) ?_
    simp [results50, e, e2]
end Go.Proofs.Try
namespace Go.Proofs.Try
open Go.Psl
open Go.Geo (cross cyc InR box)
def leftL (p : Int × Int) (es : List ((Int × Int) × (Int × Int))) : Bool := es.all fun e => decide (0 ≤ cross e.1 e.2 p)
theorem leftL_take {p : Int × Int} {es : List ((Int × Int) × (Int × Int))} {i : Nat} {e : (Int × Int) × (Int × Int)} (h : es[i]? = some e) : leftL p (es.take (i + 1)) = (leftL p (es.take i) && decide (0 ≤ cross e.1 e.2 p)) := by
  unfold leftL
  rw [List.take_add_one, h, List.all_append]; simp
theorem leftL_no {p : Int × Int} {es : List ((Int × Int) × (Int × Int))} {i : Nat} {e : (Int × Int) × (Int × Int)} (h : es[i]? = some e) (hc : cross e.1 e.2 p < 0) : leftL p es = false := by
  unfold leftL
  rw [List.all_eq_false]
  exact ⟨e, List.mem_of_getElem? h, by simp; omega⟩
theorem leftL_iff {p : Int × Int} {es : List ((Int × Int) × (Int × Int))} : leftL p es = true ↔ ∀ e ∈ es, 0 ≤ cross e.1 e.2 p := by
  unfold leftL; simp [List.all_eq_true]
def winB (n lo hi : Int) : Bool := decide (lo ≤ n) && decide (n ≤ hi)
/-- the reference's word for it -/
def insS (r : List (Int × Int)) (p : Int × Int) : Bool := match r with
  | [] => false
  | [a] => decide (a = p)
  | a :: b :: t => leftL p (cyc r) && (decide (0 < t.length) || (winB p.1 a.1 b.1 && winB p.2 (min a.2 b.2) (max a.2 b.2)))
set_option maxHeartbeats 4000000 in
set_option maxRecDepth 20000 in
theorem fn97 (r : List (Int × Int)) (p : Int × Int) (h1 : 1 ≤ r.length) (hl : r.length ≤ 1000000) (hr : ∀ q ∈ r, bd 536870912 q) (hp : bd 536870912 p) : Ct prog 97 [.d (spansD r), vsp p.1 p.2] (vb (insS r p)) [] := by
  match r, h1, hl, hr with
  | [], h1, _, _ => simp at h1
  | [a], _, _, _ =>
    have e : insS [a] p = (decide (a.1 = p.1) && decide (a.2 = p.2)) := by
      unfold insS; rw [Bool.eq_iff_iff]; simp [Prod.ext_iff]
    refine Ct.by gok eok mixed func97 c97 rfl (by simp [ntmps97]) (by simp) (by simp [ResIds]) fun E hE => ?_
    simp [p97, inC, Nat.testBit]
    refine RetOk.by (fun _ => none) ?_
    simp [results97, e]
  | a :: b :: t, _, hl, hr =>
    obtain ⟨n, hn⟩ : ∃ n, (a :: b :: t).length = n := ⟨_, rfl⟩
    have hn2 : 2 ≤ n := by rw [← hn]; simp
    have e : insS (a :: b :: t) p = (leftL p (cyc (a :: b :: t)) && (decide ((2 : Int) < n) || (winB p.1 a.1 b.1 && winB p.2 (min a.2 b.2) (max a.2 b.2)))) := by
      show (leftL p (cyc (a :: b :: t)) && (decide (0 < t.length) || (winB p.1 a.1 b.1 && winB p.2 (min a.2 b.2) (max a.2 b.2)))) = _
      rw [decide_eq_decide.2 (show 0 < t.length ↔ (2 : Int) < n by rw [← hn]; simp; omega)]
    have g0 : (a :: b :: t)[0]? = some a := rfl
    have g1 : (a :: b :: t)[1]? = some b := rfl
    obtain ⟨R, hR⟩ : ∃ R, a :: b :: t = R := ⟨_, rfl⟩
    rw [hR] at hn e g0 g1 hr hl ⊢
    rw [hn] at hl
    have hn1 : ¬ (n : Int) = 1 := by omega
    have hcl := Go.Geo.cyc_len R
    refine Ct.by gok eok mixed func97 c97 rfl (by simp [ntmps97]) (by simp) (by simp [ResIds]) fun E hE => ?_
    simp [p97, hn, hn1]
    refine pw_loop (α := Nat) (fun i => ⟨slots [(0, .d (spansD R)), (3, .lp 0 0), (5, vi i)], lk [(0, [vi p.1, vi p.2])], 1⟩) (fun i => i ≤ n ∧ leftL p ((cyc R).take i) = true) (fun i => n - i) 0 ?_ ?_ ?_
    · simp [leftL]
    · refine Weak.mk hE (lk [(0, 0)]) _ _ _ ?_ ?_ ?_ ?_ ?_ <;> simp
    · rintro i ⟨hi, hg⟩
      simp [p97l0, hn]
      refine cR_split (fun h => ?_) (fun h => ?_)
      · simp at h
        have hil : i < R.length := by omega
        have hz : IntKind.wrap .i64 ((i : Int) + 1) = ((i + 1 : Nat) : Int) := by rw [wrap64 (by omega) (by omega)]; omega
        obtain ⟨x, hx⟩ : ∃ x, R[i]? = some x := ⟨R[i], by simp [hil]⟩
        obtain ⟨j, hj⟩ : ∃ j, j = (i + 1) % n := ⟨_, rfl⟩
        have hjn : j < n := by rw [hj]; exact Nat.mod_lt _ (by omega)
        obtain ⟨y, hy⟩ : ∃ y, R[j]? = some y := ⟨R[j], by simp [show j < R.length by omega]⟩
        have hcy := Go.Geo.cyc_at hx (by rw [hn]; exact hj) hy
        obtain ⟨i1, hi1⟩ : ∃ i1, i1 = i + 1 := ⟨_, rfl⟩
        rw [← hi1] at hz hj
        have q1 : (0 : Int) ≤ (i1 : Int).tmod (n : Int) := Int.natCast_nonneg (i1 % n)
        have q2 : ((i1 : Int).tmod (n : Int)).toNat = j := by rw [hj]; rfl
        have hnz : ¬ (n : Int) = 0 := by omega
        have hnz' : ¬ n = 0 := by omega
        have c := fn136 x y p (hr x (List.mem_of_getElem? hx)) (hr y (List.mem_of_getElem? hy)) hp
        simp [hx, hz, hn, inC, Nat.testBit, hnz', q1, q2, hy]
        refine ACall.mk _ _ _ (c) (by first | (simp; done) | simp [Bor_ls, Bor1_ls]) (by simp) (by first | (left; simp; done) | (right; simp; done)) ?_
        by_cases hc : cross x y p < 0
        · simp [hc]
          refine RetOk.by (fun _ => none) ?_
          simp [results97, e, leftL_no hcy hc]
        · simp [hc, hz]
          refine ⟨i1, ⟨by omega, by rw [hi1, leftL_take hcy, hg, decide_eq_true (by simp only; omega)]; rfl⟩, by omega, ?_⟩
          refine Weak.mk hE (lk [(0, 0)]) _ _ _ ?_ ?_ ?_ ?_ ?_ <;> simp
      · simp at h
        have ein : i = n := by omega
        have hg2 : leftL p (cyc R) = true := by rw [ein, ← hn, ← hcl, List.take_length] at hg; exact hg
        rw [hg2] at e
        by_cases h3 : (2 : Int) < n
        · rw [decide_eq_true h3] at e
          simp [hn, h3]
          refine RetOk.by (fun _ => none) ?_
          simp [results97, e]
        · rw [decide_eq_false h3] at e
          have d1 := fn79 p.1 a.1 b.1
          have d2 := fn79 p.2 (min a.2 b.2) (max a.2 b.2)
          obtain ⟨B, hB⟩ : ∃ B, winB p.1 a.1 b.1 = B := ⟨_, rfl⟩
          obtain ⟨B2, hB2⟩ : ∃ B2, winB p.2 (min a.2 b.2) (max a.2 b.2) = B2 := ⟨_, rfl⟩
          rw [hB, hB2] at e
          rw [show (decide (a.1 ≤ p.1) && decide (p.1 ≤ b.1)) = B from hB] at d1
          rw [show (decide (min a.2 b.2 ≤ p.2) && decide (p.2 ≤ max a.2 b.2)) = B2 from hB2] at d2
          have hn0i : (0 : Int) < (n : Int) ∧ (1 : Int) < (n : Int) := by omega
          simp [inC, Nat.testBit, hn, h3, g0, g1]
          refine ACall.mk _ _ _ (d1) (by first | (simp; done) | simp [Bor_ls, Bor1_ls]) (by simp) (by first | (left; simp; done) | (right; simp; done)) ?_
          cases B
          · simp
            refine RetOk.by (fun _ => none) ?_
            simp [results97, e]
          · simp [inC, Nat.testBit, g0, g1]
            refine ACall.mk _ _ _ (d2) (by first | (simp; done) | simp [Bor_ls, Bor1_ls]) (by simp) (by first | (left; simp; done) | (right; simp; done)) ?_
            cases B2
            · simp
              refine RetOk.by (fun _ => none) ?_
              simp [results97, e]
            · simp
              refine RetOk.by (fun _ => none) ?_
              simp [results97, e]
end Go.Proofs.Try
namespace Go.Proofs.Try
open Go.Psl
open Go.Geo (cross cyc InR box)
set_option maxRecDepth 20000 in
theorem fn135 (r : List (Int × Int)) : Ct prog 135 [.d (spansD r)] (.cl 148 [.lp 0 0]) [(0, [.d (spansD r)])] := by
  refine Ct.by gok eok mixed func135 c135 rfl (by simp [ntmps135]) (by simp) (by simp [ResIds]) fun E hE => ?_
  simp [p135]
  refine RetOk.by (lk [(0, 0)]) ?_
  simp [results135]
set_option maxHeartbeats 4000000 in
set_option maxRecDepth 20000 in
/-- the rounds of a loop over the sides -/
theorem edges_run (r : List (Int × Int)) (hl : r.length ≤ 1000000) (KS : List Nat) (k a m : Nat) (go : Nat → Bool) (L : Nat → List (Nat × List V)) (hk : k ∈ KS) (ha : a ∈ KS) (hN : ∀ i ∈ KS, i < 1000000000) (hm : m ≤ r.length) (hL : ∀ i, i ≤ m → KeepOk KS (L i))
    (hrec : ∀ i, i < m → ∃ fr nt ps pa pb jmp, lk (L i) k = some [.lr fr nt ps pa pb jmp] ∧ ps.length = 2) (hbox : ∀ i, i ≤ m → lk (L i) a = some [.d (spansD r)]) (hgo : ∀ j, j + 1 < m → go j = true) (hend : m = r.length ∨ (0 < m ∧ go (m - 1) = false))
    (hY : ∀ i x y, i < m → (cyc r)[i]? = some (x, y) → Ym prog k [vsp x.1 x.2, vsp y.1 y.2] (lk (L i)) KS (.ret (vb (go i))) (lk (L (i + 1)))) :
    Cm prog 148 [.yl k, .lp a 0] (lk (L 0)) KS (.ret (.tup [])) (lk (L m)) := by
  refine Cm.by gok eok mixed 1000000000 func148 c148 rfl (by simp [ntmps148]) (by simp; exact ⟨hN k hk, hN a ha⟩) (HpIds.at ((hL 0 (by omega)).ids hN)) hN ⟨by simp, (hL m (Nat.le_refl _)).res⟩ fun E hs hE => ?_
  have haN := hN a ha
  have na : ∀ x, 1000000000 ≤ x → ¬ a = x := fun x _ => by omega
  have la : ∀ x, 1000000000 ≤ x → a < x := fun x _ => by omega
  have b0 := hbox 0 (by omega)
  simp [p148, b0]
  refine pw_loop (α := Nat) (fun i => ⟨slots [(0, .yl k), (1, .lp a 0), (5, .d (spansD r)), (6, vi r.length), (7, vi i)], lk (L i), 1000000000⟩) (fun i => i ≤ m ∧ (i = m → m = r.length)) (fun i => m - i) 0 ?_ ?_ ?_
  · omega
  · refine Weak.keep hs (hL 0 (by omega)) (fun i _ => by simp) hN _ ?_ ?_
    · simp [rid_in hk, rid_in ha]
    · simp [hN k hk, hN a ha]
  · rintro i ⟨hi, him⟩
    simp [p148l0]
    refine cR_split (fun h => ?_) (fun h => ?_)
    · simp at h
      have him2 : i < m := by omega
      have bi := hbox i hi
      obtain ⟨x, hx⟩ : ∃ x, r[i]? = some x := ⟨_, List.getElem?_eq_getElem h⟩
      obtain ⟨n, hn⟩ : ∃ n, r.length = n := ⟨_, rfl⟩
      rw [hn] at h hl hm him hend
      obtain ⟨j, hj⟩ : ∃ j, j = (i + 1) % n := ⟨_, rfl⟩
      have hjn : j < n := by rw [hj]; exact Nat.mod_lt _ (by omega)
      obtain ⟨y, hy⟩ : ∃ y, r[j]? = some y := ⟨r[j], by simp [show j < r.length by omega]⟩
      have hcy := Go.Geo.cyc_at hx (by rw [hn]; exact hj) hy
      have hY' := hY i x y him2 hcy
      obtain ⟨fr, nt, ps, pa, pb, jmp, hr1, hr2⟩ := hrec i him2
      obtain ⟨i1, hi1⟩ : ∃ i1, i1 = i + 1 := ⟨_, rfl⟩
      have hz : IntKind.wrap .i64 ((i : Int) + 1) = (i1 : Int) := by rw [wrap64 (by omega) (by omega)]; omega
      rw [← hi1] at hj hY'
      have q1 : (0 : Int) ≤ (i1 : Int).tmod (n : Int) := Int.natCast_nonneg (i1 % n)
      have q2 : ((i1 : Int).tmod (n : Int)).toNat = j := by rw [hj]; rfl
      have hnz : ¬ (n : Int) = 0 := by omega
      have hnz' : ¬ n = 0 := by omega
      simp [hx, hz, hn, inC, Nat.testBit, splice, bi, na, la, hnz', q1, q2, hy]
      have hne : ∀ q ∈ KS, ¬ q = 1004194304 := fun q hq e => by have := hN q hq; omega
      refine AYield.keep [vsp x.1 x.2, vsp y.1 y.2] (L i) (L i1) KS _ hY' (hL i hi) (hL i1 (by omega)) ⟨fr, nt, ps, pa, pb, jmp, hr1, hr2⟩ (fun q hq => by simp [hne q hq]) (by simp) ?_
      cases hgi : go i
      · have e : i1 = m := by
          by_cases hlt : i + 1 < m
          · rw [hgo i hlt] at hgi; cases hgi
          · omega
        simp
        refine RetM.keep rfl (hL m (Nat.le_refl _)) fun q hq => by simp [hq, e]
      · simp [hz]
        refine ⟨i1, ⟨by omega, fun e => ?_⟩, by omega, ?_⟩
        · rcases hend with h1 | ⟨_, h1⟩
          · exact h1
          · rw [show m - 1 = i by omega, hgi] at h1; cases h1
        · refine Weak.keep hs (hL i1 (by omega)) (fun q hq => by simp [hq]) hN _ ?_ ?_
          · simp [rid_in hk, rid_in ha]
          · simp [hN k hk, hN a ha]
    · simp at h
      have e : i = m := by omega
      subst e
      simp
      exact RetM.keep rfl (hL i (Nat.le_refl _)) fun i _ => by simp
end Go.Proofs.Try
namespace Go.Proofs.Try
open Go.Psl
open Go.Geo (cross cyc InR box)
def onS (u v : Int × Int) : Bool := decide (0 ≤ v.1 * u.1) && (decide (0 ≤ v.2 * u.2) && (decide (v.1 * v.1 ≤ u.1 * u.1) && decide (v.2 * v.2 ≤ u.2 * u.2)))
def badS (sm : Bool) (p : Int × Int) (e : (Int × Int) × (Int × Int)) : Bool := decide (cross e.1 e.2 p < 0) || (decide (cross e.1 e.2 p = 0) && (sm && !onS (subC e.1 e.2) (subC e.1 p)))
/-- what a round of holds says -/
def sayS (sm : Bool) (p : Int × Int) (e : (Int × Int) × (Int × Int)) : Option Bool := if e.1.1 = p.1 ∧ e.1.2 = p.2 then some true else if badS sm p e then some false else none
def smS (r : List (Int × Int)) : Bool := decide ((r.length : Int) < 3)
def holS (r : List (Int × Int)) (p : Int × Int) : Bool := ((cyc r).findSome? (sayS (smS r) p)).getD (decide ((1 : Int) < r.length))
def hKS : List Nat := [5242880, 4194304, 0, 1048576, 2097152]
def hL (r : List (Int × Int)) (p : Int × Int) (f : Nat → V) (s : LSt) (v : Bool) : List (Nat × List V) := [(5242880, [.lr f 83 [12, 13] p96l0 p96l1 s]), (4194304, [.d (spansD r)]), (0, [.d (spansD r)]), (1048576, [vi p.1, vi p.2]), (2097152, [vb v])]
def hAft (r : List (Int × Int)) (p : Int × Int) (f : Nat → V) (o : Option Bool) : List (Nat × List V) := match o with | none => hL r p f .ready false | some v => hL r p f (.done .ret) v
theorem hKeep (r : List (Int × Int)) (p : Int × Int) (f : Nat → V) (s : LSt) (v : Bool) (hf : ∀ t, AV (· ∈ hKS) anyD (f t)) : KeepOk hKS (hL r p f s v) := by
  refine ⟨rfl, by decide, ?_⟩
  intro q hq
  simp only [hL, List.mem_cons, List.not_mem_nil, or_false] at hq
  have hw : WC (rid hKS) (.lr f 83 [12, 13] p96l0 p96l1 s) (.lr f 83 [12, 13] p96l0 p96l1 s) := ⟨rfl, fun t => AV.mono (fun i hi => rid_in hi) (fun _ h => h) (hf t)⟩
  rcases hq with rfl | rfl | rfl | rfl | rfl
  · exact ⟨by simp, Or.inr ⟨_, _, _, _, _, _, rfl⟩, fun c hc => by simp at hc; subst hc; exact hw⟩
  all_goals exact ⟨by simp, Or.inl rfl, fun c hc => by simp at hc; first | (subst hc; exact rfl) | (rcases hc with rfl | rfl <;> exact rfl)⟩
set_option maxHeartbeats 8000000 in
set_option maxRecDepth 20000 in
theorem hol_round (r : List (Int × Int)) (p : Int × Int) (f : Nat → V) (hf : ∀ t, AV (· ∈ hKS) anyD (f t)) (f2 : f 2 = .lp 0 0) (f3 : f 3 = .lp 1048576 0) (f4 : f 4 = .lp 2097152 0) (_ : r.length ≤ 1000000) (hp : bd 268435456 p) (a b : Int × Int) (ba : bd 268435456 a) (bb : bd 268435456 b) :
    Ym prog 5242880 [vsp a.1 a.2, vsp b.1 b.2] (lk (hL r p f .ready false)) hKS (.ret (vb (sayS (smS r) p (a, b)).isNone)) (lk (hAft r p f (sayS (smS r) p (a, b)))) := by
  have hK := fun s v => hKeep r p f s v hf
  have hlt : ∀ i ∈ hKS, i < 10000000 := by simp [hKS]
  have key : ∀ (s : LSt) (v : Bool), Rnd prog tys eqs 5242880 f 83 [12, 13] p96l0 p96l1 [vsp a.1 a.2, vsp b.1 b.2] (lk (hL r p f .ready false)) hKS s (hL r p f s v) 10000000 → Ym prog 5242880 [vsp a.1 a.2, vsp b.1 b.2] (lk (hL r p f .ready false)) hKS (.ret (.d (.lit (.bool (goesOn s))))) (lk (hL r p f s v)) := fun s v h =>
    Ym.ofR gok eok mixed 10000000 (hK .ready false) (hK s v) hlt (by simp [hL]) (by simp) (by simp) (by simp) h
  by_cases h1 : a.1 = p.1 ∧ a.2 = p.2
  · have e : sayS (smS r) p (a, b) = some true := by unfold sayS; rw [if_pos h1]
    rw [e]
    refine key (.done .ret) true ⟨fun E hE hs => ?_⟩
    have hKK := hK (.done .ret) true
    simp only [hL] at hKK ⊢
    generalize V.lr f 83 [12, 13] p96l0 p96l1 = rc at hKK ⊢
    simp [p96l0, frPuts, splice]
    simp [p96l1, h1, f3, f4, splice]
    refine ⟨trivial, RndM.keep hKK ?_ ?_⟩
    · simp
    · simp [hKS]
  · have c1 := fn110 a b (bd_mono ba (by omega)) (bd_mono bb (by omega))
    have c2 := fn110 a p (bd_mono ba (by omega)) (bd_mono hp (by omega))
    have bu : bd 536870912 (subC a b) := bd_sub ba bb rfl
    have bv : bd 536870912 (subC a p) := bd_sub ba hp rfl
    have c3 := fn131 (subC a b) (subC a p) (bd_mono bu (by omega)) (bd_mono bv (by omega))
    have ht : turnS (subC a b) (subC a p) = cross a b p := rfl
    rw [ht] at c3
    have e0 : sayS (smS r) p (a, b) = if badS (smS r) p (a, b) then some false else none := by unfold sayS; rw [if_neg h1]
    obtain ⟨u, hu⟩ : ∃ u, subC a b = u := ⟨_, rfl⟩
    obtain ⟨v, hv⟩ : ∃ v, subC a p = v := ⟨_, rfl⟩
    have eb : badS (smS r) p (a, b) = (decide (cross a b p < 0) || (decide (cross a b p = 0) && (smS r && !onS u v))) := by unfold badS; rw [hu, hv]
    rw [hu] at c1 c3 bu
    rw [hv] at c2 c3 bv
    obtain ⟨t, ht⟩ : ∃ t, cross a b p = t := ⟨_, rfl⟩
    rw [ht] at c3 eb
    have ne : ¬ (a.1 = p.1 ∧ a.2 = p.2) := h1
    have nb : (decide (a.1 = p.1) && decide (a.2 = p.2)) = false := by rw [← Bool.not_eq_true, Bool.and_eq_true, decide_eq_true_eq, decide_eq_true_eq]; exact h1
    by_cases t1 : t < 0
    · have e : sayS (smS r) p (a, b) = some false := by rw [e0, eb, decide_eq_true t1]; rfl
      rw [e]
      refine key (.done .ret) false ⟨fun E hE hs => ?_⟩
      have hKK := hK (.done .ret) false
      simp only [hL] at hKK ⊢
      generalize V.lr f 83 [12, 13] p96l0 p96l1 = rc at hKK ⊢
      simp [p96l0, frPuts, splice]
      simp [p96l1, nb, f3, inC, Nat.testBit]
      refine ACall.mk _ _ _ (c1) (by first | (simp; done) | simp [Bor_ls, Bor1_ls]) (by simp) (by first | (left; simp; done) | (right; simp; done)) ?_
      simp [f3, inC, Nat.testBit]
      refine ACall.mk _ _ _ (c2) (by first | (simp; done) | simp [Bor_ls, Bor1_ls]) (by simp) (by first | (left; simp; done) | (right; simp; done)) ?_
      simp [splice]
      refine ACall.mk _ _ _ (c3) (by first | (simp; done) | simp [Bor_ls, Bor1_ls]) (by simp) (by first | (left; simp; done) | (right; simp; done)) ?_
      simp [t1, f4, splice]
      refine ⟨trivial, RndM.keep hKK (by simp) (by simp [hKS])⟩
    by_cases t0 : t = 0
    case neg =>
      have e : sayS (smS r) p (a, b) = none := by rw [e0, eb, decide_eq_false t1, decide_eq_false t0]; rfl
      rw [e]
      refine key .ready false ⟨fun E hE hs => ?_⟩
      have hKK := hK .ready false
      simp only [hL] at hKK ⊢
      generalize V.lr f 83 [12, 13] p96l0 p96l1 = rc at hKK ⊢
      simp [p96l0, frPuts, splice]
      simp [p96l1, nb, f3, inC, Nat.testBit]
      refine ACall.mk _ _ _ (c1) (by first | (simp; done) | simp [Bor_ls, Bor1_ls]) (by simp) (by first | (left; simp; done) | (right; simp; done)) ?_
      simp [f3, inC, Nat.testBit]
      refine ACall.mk _ _ _ (c2) (by first | (simp; done) | simp [Bor_ls, Bor1_ls]) (by simp) (by first | (left; simp; done) | (right; simp; done)) ?_
      simp [splice]
      refine ACall.mk _ _ _ (c3) (by first | (simp; done) | simp [Bor_ls, Bor1_ls]) (by simp) (by first | (left; simp; done) | (right; simp; done)) ?_
      simp [t1, t0]
      refine ⟨trivial, RndM.keep hKK (by simp) (by simp [hKS])⟩
    subst t0
    by_cases sm : (r.length : Int) < 3
    case neg =>
      have e : sayS (smS r) p (a, b) = none := by rw [e0, eb]; unfold smS; rw [decide_eq_false sm]; rfl
      rw [e]
      refine key .ready false ⟨fun E hE hs => ?_⟩
      have hKK := hK .ready false
      simp only [hL] at hKK ⊢
      generalize V.lr f 83 [12, 13] p96l0 p96l1 = rc at hKK ⊢
      simp [p96l0, frPuts, splice]
      simp [p96l1, nb, f3, inC, Nat.testBit]
      refine ACall.mk _ _ _ (c1) (by first | (simp; done) | simp [Bor_ls, Bor1_ls]) (by simp) (by first | (left; simp; done) | (right; simp; done)) ?_
      simp [f3, inC, Nat.testBit]
      refine ACall.mk _ _ _ (c2) (by first | (simp; done) | simp [Bor_ls, Bor1_ls]) (by simp) (by first | (left; simp; done) | (right; simp; done)) ?_
      simp [splice]
      refine ACall.mk _ _ _ (c3) (by first | (simp; done) | simp [Bor_ls, Bor1_ls]) (by simp) (by first | (left; simp; done) | (right; simp; done)) ?_
      simp [sm, f2]
      refine ⟨trivial, RndM.keep hKK (by simp) (by simp [hKS])⟩
    have eb2 : badS (smS r) p (a, b) = !onS u v := by rw [eb]; unfold smS; rw [decide_eq_true sm]; simp
    rw [eb2] at e0
    have mb : ∀ x y : Int, (-536870912 ≤ x ∧ x ≤ 536870912) → (-536870912 ≤ y ∧ y ≤ 536870912) → IntKind.wrap .i64 (x * y) = x * y := fun x y hx hy => by
      have := mul_abs hx hy
      exact wrap64 (by omega) (by omega)
    have w1 := mb v.1 u.1 bv.1 bu.1
    have w2 := mb v.2 u.2 bv.2 bu.2
    have w3 := mb v.1 v.1 bv.1 bv.1
    have w4 := mb u.1 u.1 bu.1 bu.1
    have w5 := mb v.2 v.2 bv.2 bv.2
    have w6 := mb u.2 u.2 bu.2 bu.2
    by_cases g1 : 0 ≤ v.1 * u.1
    case neg =>
      have e : sayS (smS r) p (a, b) = some false := by rw [e0]; unfold onS; rw [decide_eq_false g1]; rfl
      rw [e]
      refine key (.done .ret) false ⟨fun E hE hs => ?_⟩
      have hKK := hK (.done .ret) false
      simp only [hL] at hKK ⊢
      generalize V.lr f 83 [12, 13] p96l0 p96l1 = rc at hKK ⊢
      simp [p96l0, frPuts, splice]
      simp [p96l1, nb, f3, inC, Nat.testBit]
      refine ACall.mk _ _ _ (c1) (by first | (simp; done) | simp [Bor_ls, Bor1_ls]) (by simp) (by first | (left; simp; done) | (right; simp; done)) ?_
      simp [f3, inC, Nat.testBit]
      refine ACall.mk _ _ _ (c2) (by first | (simp; done) | simp [Bor_ls, Bor1_ls]) (by simp) (by first | (left; simp; done) | (right; simp; done)) ?_
      simp [splice]
      refine ACall.mk _ _ _ (c3) (by first | (simp; done) | simp [Bor_ls, Bor1_ls]) (by simp) (by first | (left; simp; done) | (right; simp; done)) ?_
      simp [sm, f2, f4, w1, g1, splice]
      refine ⟨trivial, RndM.keep hKK (by simp) (by simp [hKS])⟩
    by_cases g2 : 0 ≤ v.2 * u.2
    case neg =>
      have e : sayS (smS r) p (a, b) = some false := by rw [e0]; unfold onS; rw [decide_eq_true g1, decide_eq_false g2]; rfl
      rw [e]
      refine key (.done .ret) false ⟨fun E hE hs => ?_⟩
      have hKK := hK (.done .ret) false
      simp only [hL] at hKK ⊢
      generalize V.lr f 83 [12, 13] p96l0 p96l1 = rc at hKK ⊢
      simp [p96l0, frPuts, splice]
      simp [p96l1, nb, f3, inC, Nat.testBit]
      refine ACall.mk _ _ _ (c1) (by first | (simp; done) | simp [Bor_ls, Bor1_ls]) (by simp) (by first | (left; simp; done) | (right; simp; done)) ?_
      simp [f3, inC, Nat.testBit]
      refine ACall.mk _ _ _ (c2) (by first | (simp; done) | simp [Bor_ls, Bor1_ls]) (by simp) (by first | (left; simp; done) | (right; simp; done)) ?_
      simp [splice]
      refine ACall.mk _ _ _ (c3) (by first | (simp; done) | simp [Bor_ls, Bor1_ls]) (by simp) (by first | (left; simp; done) | (right; simp; done)) ?_
      simp [sm, f2, f4, w1, w2, g1, g2, splice]
      refine ⟨trivial, RndM.keep hKK (by simp) (by simp [hKS])⟩
    by_cases g3 : v.1 * v.1 ≤ u.1 * u.1
    case neg =>
      have e : sayS (smS r) p (a, b) = some false := by rw [e0]; unfold onS; rw [decide_eq_true g1, decide_eq_true g2, decide_eq_false g3]; rfl
      rw [e]
      refine key (.done .ret) false ⟨fun E hE hs => ?_⟩
      have hKK := hK (.done .ret) false
      simp only [hL] at hKK ⊢
      generalize V.lr f 83 [12, 13] p96l0 p96l1 = rc at hKK ⊢
      simp [p96l0, frPuts, splice]
      simp [p96l1, nb, f3, inC, Nat.testBit]
      refine ACall.mk _ _ _ (c1) (by first | (simp; done) | simp [Bor_ls, Bor1_ls]) (by simp) (by first | (left; simp; done) | (right; simp; done)) ?_
      simp [f3, inC, Nat.testBit]
      refine ACall.mk _ _ _ (c2) (by first | (simp; done) | simp [Bor_ls, Bor1_ls]) (by simp) (by first | (left; simp; done) | (right; simp; done)) ?_
      simp [splice]
      refine ACall.mk _ _ _ (c3) (by first | (simp; done) | simp [Bor_ls, Bor1_ls]) (by simp) (by first | (left; simp; done) | (right; simp; done)) ?_
      simp [sm, f2, f4, w1, w2, w3, w4, g1, g2, g3, splice]
      refine ⟨trivial, RndM.keep hKK (by simp) (by simp [hKS])⟩
    by_cases g4 : v.2 * v.2 ≤ u.2 * u.2
    case neg =>
      have e : sayS (smS r) p (a, b) = some false := by rw [e0]; unfold onS; rw [decide_eq_true g1, decide_eq_true g2, decide_eq_true g3, decide_eq_false g4]; rfl
      rw [e]
      refine key (.done .ret) false ⟨fun E hE hs => ?_⟩
      have hKK := hK (.done .ret) false
      simp only [hL] at hKK ⊢
      generalize V.lr f 83 [12, 13] p96l0 p96l1 = rc at hKK ⊢
      simp [p96l0, frPuts, splice]
      simp [p96l1, nb, f3, inC, Nat.testBit]
      refine ACall.mk _ _ _ (c1) (by first | (simp; done) | simp [Bor_ls, Bor1_ls]) (by simp) (by first | (left; simp; done) | (right; simp; done)) ?_
      simp [f3, inC, Nat.testBit]
      refine ACall.mk _ _ _ (c2) (by first | (simp; done) | simp [Bor_ls, Bor1_ls]) (by simp) (by first | (left; simp; done) | (right; simp; done)) ?_
      simp [splice]
      refine ACall.mk _ _ _ (c3) (by first | (simp; done) | simp [Bor_ls, Bor1_ls]) (by simp) (by first | (left; simp; done) | (right; simp; done)) ?_
      simp [sm, f2, f4, w1, w2, w3, w4, w5, w6, g1, g2, g3, g4, splice]
      refine ⟨trivial, RndM.keep hKK (by simp) (by simp [hKS])⟩
    have e : sayS (smS r) p (a, b) = none := by rw [e0]; unfold onS; rw [decide_eq_true g1, decide_eq_true g2, decide_eq_true g3, decide_eq_true g4]; rfl
    rw [e]
    refine key .ready false ⟨fun E hE hs => ?_⟩
    have hKK := hK .ready false
    simp only [hL] at hKK ⊢
    generalize V.lr f 83 [12, 13] p96l0 p96l1 = rc at hKK ⊢
    simp [p96l0, frPuts, splice]
    simp [p96l1, nb, f3, inC, Nat.testBit]
    refine ACall.mk _ _ _ (c1) (by first | (simp; done) | simp [Bor_ls, Bor1_ls]) (by simp) (by first | (left; simp; done) | (right; simp; done)) ?_
    simp [f3, inC, Nat.testBit]
    refine ACall.mk _ _ _ (c2) (by first | (simp; done) | simp [Bor_ls, Bor1_ls]) (by simp) (by first | (left; simp; done) | (right; simp; done)) ?_
    simp [splice]
    refine ACall.mk _ _ _ (c3) (by first | (simp; done) | simp [Bor_ls, Bor1_ls]) (by simp) (by first | (left; simp; done) | (right; simp; done)) ?_
    simp [sm, f2, w1, w2, w3, w4, w5, w6, g1, g2, g3, g4]
    refine ⟨trivial, RndM.keep hKK (by simp) (by simp [hKS])⟩
end Go.Proofs.Try
namespace Go.Proofs.Try
open Go.Psl
open Go.Geo (cross cyc InR box)
theorem findSome_ix {α β : Type} {f : α → Option β} {l : List α} {v : β} (h : l.findSome? f = some v) : ∃ (j : Nat) (e : α), l[j]? = some e ∧ f e = some v ∧ ∀ (i : Nat) (e' : α), i < j → l[i]? = some e' → f e' = none := by
  obtain ⟨l1, a, l2, rfl, h1, h2⟩ := List.findSome?_eq_some_iff.1 h
  refine ⟨l1.length, a, by simp, h1, fun i e' hi he => ?_⟩
  rw [List.getElem?_append_left hi] at he
  exact h2 e' (List.mem_of_getElem? he)
set_option maxHeartbeats 8000000 in
set_option maxRecDepth 20000 in
theorem fn96 (r : List (Int × Int)) (p : Int × Int) (hl : r.length ≤ 1000000) (hr : ∀ q ∈ r, bd 268435456 q) (hp : bd 268435456 p) : Ct prog 96 [.d (spansD r), vsp p.1 p.2] (vb (holS r p)) [] := by
  refine Ct.byR gok eok mixed func96 c96 rfl (by simp [ntmps96]) (by simp) (by simp [ResIds]) fun E hE hE2 => ?_
  simp [p96]
  refine ACall.mk _ _ _ (fn135 r) (by first | (simp; done) | simp [Bor_ls, Bor1_ls]) (by simp) (by first | (left; simp; done) | (right; simp; done)) ?_
  simp
  have hnt : E.nt = 83 := by rw [hE2.1]; exact ntmps96
  rw [← pw_rangeF (Γ := tys) (eqs := eqs)]
  obtain ⟨f, hf⟩ : ∃ f, f = upd (upd (upd (upd (upd (argF 0 [V.d (spansD r), vsp p.1 p.2]) 2 (V.lp 0 0)) 3 (V.lp 1048576 0)) 4 (V.lp 2097152 0)) 10 (V.d (spansD r))) 11 (V.cl 148 [V.lp 4194304 0]) := ⟨_, rfl⟩
  have hfA : ∀ t, AV (· ∈ hKS) anyD (f t) := fun t => by
    rw [hf]
    simp only [upd_at]
    split
    · intro c hc; simp at hc; subst hc; exact (by simp [hKS] : (4194304 : Nat) ∈ hKS)
    · split
      · exact trivial
      · split
        · exact (by simp [hKS] : (2097152 : Nat) ∈ hKS)
        · split
          · exact (by simp [hKS] : (1048576 : Nat) ∈ hKS)
          · split
            · exact (by simp [hKS] : (0 : Nat) ∈ hKS)
            · simp only [argF]
              split
              · exact trivial
              · split
                · intro c hc; simp at hc; rcases hc with rfl | rfl <;> exact trivial
                · exact fun c hc => by simp at hc
  have f2 : f 2 = .lp 0 0 := by rw [hf]; simp
  have f3 : f 3 = .lp 1048576 0 := by rw [hf]; simp
  have f4 : f 4 = .lp 2097152 0 := by rw [hf]; simp
  have f11 : f 11 = .cl 148 [.lp 4194304 0] := by rw [hf]; simp
  rw [← hf]
  have hN : ∀ i ∈ hKS, i < 1000000000 := by simp [hKS]
  have hK := fun s v => hKeep r p f s v hfA
  have hcl := Go.Geo.cyc_len r
  have round : ∀ x y, (x, y) ∈ cyc r → _ := fun x y hxy => hol_round r p f hfA f2 f3 f4 hl hp x y (hr x (Go.Geo.cyc_mem hxy).1) (hr y (Go.Geo.cyc_mem hxy).2)
  have rec0 : ∀ s v, ∃ fr nt ps pa pb jmp, lk (hL r p f s v) 5242880 = some [.lr fr nt ps pa pb jmp] ∧ ps.length = 2 := fun s v => ⟨f, 83, [12, 13], p96l0, p96l1, s, by simp [hL], rfl⟩
  have box0 : ∀ s v, lk (hL r p f s v) 4194304 = some [.d (spansD r)] := fun s v => by simp [hL]
  cases hfs : (cyc r).findSome? (sayS (smS r) p) with
  | none =>
    have e : holS r p = decide ((1 : Int) < r.length) := by unfold holS; rw [hfs]; rfl
    have c := edges_run r hl hKS 5242880 4194304 r.length (fun _ => true) (fun _ => hL r p f .ready false) (by simp [hKS]) (by simp [hKS]) hN (Nat.le_refl _) (fun _ _ => hK .ready false) (fun _ _ => rec0 _ _) (fun _ _ => box0 _ _) (fun _ _ => rfl) (Or.inl rfl) (fun i x y hi hcy => by
      have h1 := round x y (List.mem_of_getElem? hcy)
      have h2 : sayS (smS r) p (x, y) = none := List.findSome?_eq_none_iff.1 hfs _ (List.mem_of_getElem? hcy)
      rw [h2] at h1; exact h1)
    refine PRange.keep (hL r p f .ready false).tail (hL r p f .ready false).tail [4194304, 0, 1048576, 2097152] (.tup []) .ready hE2.2 (g := 148) (caps := [.lp 4194304 0]) (by simp [f11]) (by rw [hnt]; exact c) (by rw [hnt]; exact hK .ready false) (by rw [hnt]; exact hK .ready false) (by simp [hL]) (by simp) ?_
    show blkQ 0 _ .normal _
    simp [hL, f2, f4]
    refine RetOk.by (fun _ => none) ?_
    simp [results96, f4, e, splice]
  | some v =>
    have e : holS r p = v := by unfold holS; rw [hfs]; rfl
    obtain ⟨j, e0, h1, h2, h3⟩ := findSome_ix hfs
    have hj := (List.getElem?_eq_some_iff.1 h1).1
    rw [hcl] at hj
    have c := edges_run r hl hKS 5242880 4194304 (j + 1) (fun i => decide (i ≠ j)) (fun i => if i ≤ j then hL r p f .ready false else hL r p f (.done .ret) v) (by simp [hKS]) (by simp [hKS]) hN (by omega)
      (fun i _ => by show KeepOk hKS (if i ≤ j then hL r p f .ready false else hL r p f (.done .ret) v); split <;> exact hK _ _)
      (fun i _ => by show ∃ fr nt ps pa pb jmp, lk (if i ≤ j then hL r p f .ready false else hL r p f (.done .ret) v) 5242880 = some [.lr fr nt ps pa pb jmp] ∧ ps.length = 2; split <;> exact rec0 _ _)
      (fun i _ => by show lk (if i ≤ j then hL r p f .ready false else hL r p f (.done .ret) v) 4194304 = _; split <;> exact box0 _ _)
      (fun i hi => decide_eq_true (by omega)) (Or.inr ⟨by omega, decide_eq_false (by omega)⟩) (fun i x y hi hcy => by
        have r1 := round x y (List.mem_of_getElem? hcy)
        by_cases hij : i = j
        · subst hij
          rw [h1] at hcy; cases hcy
          rw [h2] at r1
          simp only [Nat.le_refl, if_true, show ¬ i + 1 ≤ i by omega, if_false, ne_eq, not_true_eq_false, decide_false]
          exact r1
        · have h4 := h3 i (x, y) (by omega) hcy
          rw [h4] at r1
          simp only [show i ≤ j by omega, show i + 1 ≤ j by omega, if_true, ne_eq, hij, not_false_eq_true, decide_true]
          exact r1)
    simp only [Nat.zero_le, if_true, show ¬ j + 1 ≤ j by omega, if_false] at c
    refine PRange.keep (hL r p f .ready false).tail (hL r p f (.done .ret) v).tail [4194304, 0, 1048576, 2097152] (.tup []) (.done .ret) hE2.2 (g := 148) (caps := [.lp 4194304 0]) (by simp [f11]) (by rw [hnt]; exact c) (by rw [hnt]; exact hK .ready false) (by rw [hnt]; exact hK (.done .ret) v) (by simp [hL]) (by simp) ?_
    show blkQ 0 _ .ret _
    simp [hL]
    refine RetOk.by (fun _ => none) ?_
    simp [results96, f4, e]
end Go.Proofs.Try
namespace Go.Proofs.Try
open Go.Psl
open Go.Geo (cross cyc InR box hullS)
theorem sq_le {u v : Int} : (0 ≤ v * u ∧ v * v ≤ u * u) ↔ (min 0 u ≤ v ∧ v ≤ max 0 u) := by
  rcases Int.lt_trichotomy u 0 with hu | hu | hu
  · constructor
    · rintro ⟨h1, h2⟩
      have a : v ≤ 0 := by
        apply Int.not_lt.1; intro h
        have := Int.mul_neg_of_pos_of_neg h hu
        omega
      have b : u ≤ v := by
        apply Int.not_lt.1; intro h
        have h3 := Int.mul_pos_of_neg_of_neg (show v - u < 0 by omega) (show v + u < 0 by omega)
        have e : (v - u) * (v + u) = v * v - u * u := by grind
        omega
      omega
    · intro ⟨h1, h2⟩
      have a := Int.mul_nonneg_of_nonpos_of_nonpos (show v ≤ 0 by omega) (show u ≤ 0 by omega)
      have b := Int.mul_nonneg (show 0 ≤ v - u by omega) (show 0 ≤ -(v + u) by omega)
      have e : (v - u) * -(v + u) = u * u - v * v := by grind
      omega
  · subst hu
    constructor
    · rintro ⟨_, h2⟩
      have : v = 0 := by
        rcases Int.lt_trichotomy v 0 with h | h | h
        · have := Int.mul_pos_of_neg_of_neg h h; omega
        · exact h
        · have := Int.mul_pos h h; omega
      omega
    · rintro ⟨h1, h2⟩
      have : v = 0 := by omega
      subst this; simp
  · constructor
    · rintro ⟨h1, h2⟩
      have a : 0 ≤ v := by
        apply Int.not_lt.1; intro h
        have := Int.mul_neg_of_neg_of_pos h hu
        omega
      have b : v ≤ u := by
        apply Int.not_lt.1; intro h
        have h3 := Int.mul_pos (show 0 < v - u by omega) (show 0 < v + u by omega)
        have e : (v - u) * (v + u) = v * v - u * u := by grind
        omega
      omega
    · intro ⟨h1, h2⟩
      have a := Int.mul_nonneg (show 0 ≤ v by omega) (show 0 ≤ u by omega)
      have b := Int.mul_nonneg (show 0 ≤ u - v by omega) (show 0 ≤ u + v by omega)
      have e : (u - v) * (u + v) = u * u - v * v := by grind
      omega
theorem onS_iff {a b p : Int × Int} : onS (subC a b) (subC a p) = true ↔ box a b p := by
  unfold onS
  simp only [Bool.and_eq_true, decide_eq_true_eq]
  have h1 := @sq_le (b.1 - a.1) (p.1 - a.1)
  have h2 := @sq_le (b.2 - a.2) (p.2 - a.2)
  unfold box
  show (0 ≤ (p.1 - a.1) * (b.1 - a.1) ∧ 0 ≤ (p.2 - a.2) * (b.2 - a.2) ∧ (p.1 - a.1) * (p.1 - a.1) ≤ (b.1 - a.1) * (b.1 - a.1) ∧ (p.2 - a.2) * (p.2 - a.2) ≤ (b.2 - a.2) * (b.2 - a.2)) ↔ _
  constructor
  · rintro ⟨q1, q2, q3, q4⟩
    have := h1.1 ⟨q1, q3⟩
    have := h2.1 ⟨q2, q4⟩
    omega
  · intro h
    obtain ⟨q1, q3⟩ := h1.2 (by omega)
    obtain ⟨q2, q4⟩ := h2.2 (by omega)
    exact ⟨q1, q2, q3, q4⟩
theorem box_swap {a b p : Int × Int} : box a b p ↔ box b a p := by unfold box; omega
theorem box_end {a b : Int × Int} : box a b b := by unfold box; omega
/-- a valid region is a hull -/
theorem reg_hull {r : List (Int × Int)} (h : regS r = true) : r = hullS (ddC (sortC r)) ∧ r ≠ [] := by
  unfold regS at h
  simp only [Bool.and_eq_true, decide_eq_true_eq] at h
  refine ⟨h.2.symm, fun e => ?_⟩
  rw [e] at h; simp at h
theorem hull_seg {l : List (Int × Int)} (hs : Go.Geo.Sorted l) {a b : Int × Int} (h : hullS l = [a, b]) : Go.Geo.lt a b := by
  by_cases h3 : l.length < 3
  · have e : hullS l = l := by unfold hullS; rw [if_pos h3]
    rw [h] at e
    rw [← e] at hs
    exact (List.pairwise_cons.1 hs).1 b (by simp)
  · by_cases hn : 5 ≤ (Go.Geo.chainR l).length + (Go.Geo.chainR l.reverse).length
    · have := Go.Geo.hull_len h3
      have h2 := Go.Geo.chain_len2 hs (by omega)
      rw [h] at this; simp at this; omega
    · obtain ⟨f, g, _, _, hfg, e, _⟩ := Go.Geo.hull_two hs h3 hn
      rw [h] at e; cases e; exact hfg
theorem in_one {a p : Int × Int} : InR [a] p ↔ a = p := by
  constructor
  · rintro ⟨_, h⟩
    obtain ⟨x, y, h1, h2, hb⟩ : ∃ x y, [a].head? = some x ∧ [a].getLast? = some y ∧ box x y p := by simpa using h
    simp at h1 h2; subst h1; subst h2
    unfold box at hb
    ext <;> omega
  · rintro rfl
    refine ⟨fun e he => ?_, Or.inr ⟨a, a, rfl, rfl, by unfold box; omega⟩⟩
    simp [cyc, Go.Geo.steps] at he; subst he; rw [Go.Geo.cross_self]; omega
theorem in_two {a b p : Int × Int} : InR [a, b] p ↔ cross a b p = 0 ∧ box a b p := by
  constructor
  · rintro ⟨hc, h⟩
    obtain ⟨x, y, h1, h2, hb⟩ : ∃ x y, [a, b].head? = some x ∧ [a, b].getLast? = some y ∧ box x y p := by simpa using h
    simp at h1 h2; subst h1; subst h2
    have c1 := hc (a, b) (by simp [cyc, Go.Geo.steps])
    have c2 := hc (b, a) (by simp [cyc, Go.Geo.steps])
    simp only at c1 c2
    rw [Go.Geo.cross_swap2] at c2
    exact ⟨by omega, hb⟩
  · rintro ⟨hc, hb⟩
    refine ⟨fun e he => ?_, Or.inr ⟨a, b, rfl, rfl, hb⟩⟩
    simp [cyc, Go.Geo.steps] at he
    rcases he with rfl | rfl
    · simp only; omega
    · simp only; rw [Go.Geo.cross_swap2]; omega
theorem insS_iff {r : List (Int × Int)} (h : regS r = true) (p : Int × Int) : insS r p = true ↔ InR r p := by
  obtain ⟨hr, hne⟩ := reg_hull h
  match r, hne, hr with
  | [], hne, _ => exact absurd rfl hne
  | [a], _, _ => rw [in_one]; unfold insS; simp
  | [a, b], _, hr =>
    have hlt := hull_seg (sorted_dd _) hr.symm
    rw [in_two]
    unfold insS
    simp only [Bool.and_eq_true, Bool.or_eq_true, leftL_iff]
    have e : cyc [a, b] = [(a, b), (b, a)] := rfl
    rw [e]
    simp only [List.mem_cons, List.not_mem_nil, or_false, forall_eq_or_imp, forall_eq]
    rw [Go.Geo.cross_swap2 b a p]
    have hw : (winB p.1 a.1 b.1 = true ∧ winB p.2 (min a.2 b.2) (max a.2 b.2) = true) ↔ box a b p := by
      unfold winB box Go.Geo.lt at *
      simp only [Bool.and_eq_true, decide_eq_true_eq]
      omega
    rw [hw]
    simp
    omega
  | a :: b :: c :: t, _, _ =>
    unfold insS InR
    simp [leftL_iff]
theorem holS_iff {r : List (Int × Int)} (h : regS r = true) (p : Int × Int) : holS r p = true ↔ InR r p := by
  obtain ⟨hr, hne⟩ := reg_hull h
  have hcorner : ∀ q ∈ r, InR r q := fun q hq => by
    rw [hr] at hq ⊢
    exact Go.Geo.hull_in (sorted_dd _) q (Go.Geo.hull_sub (sorted_dd _) q hq)
  match r, hne, hcorner, hr with
  | [], hne, _, _ => exact absurd rfl hne
  | [a], _, _, _ =>
    rw [in_one]
    have e : cyc [a] = [(a, a)] := rfl
    unfold holS
    rw [e]
    simp only [List.findSome?_cons, List.findSome?_nil, sayS]
    by_cases h1 : a.1 = p.1 ∧ a.2 = p.2
    · rw [if_pos h1]
      have : a = p := by ext; exact h1.1; exact h1.2
      simp [this]
    · rw [if_neg h1]
      have hb : badS (smS [a]) p (a, a) = true := by
        unfold badS
        have : onS (subC a a) (subC a p) = false := by
          rw [← Bool.not_eq_true, onS_iff]
          intro hb; unfold box at hb; exact h1 (by omega)
        rw [show cross (a, a).1 (a, a).2 p = 0 from Go.Geo.cross_self3 a p]
        simp only
        rw [this]; rfl
      rw [hb]
      simp
      intro e; exact h1 (by rw [e]; exact ⟨rfl, rfl⟩)
  | [a, b], _, hcorner, hr =>
    have e : cyc [a, b] = [(a, b), (b, a)] := rfl
    have hsm : smS [a, b] = true := rfl
    unfold holS
    rw [e, hsm]
    simp only [List.findSome?_cons, List.findSome?_nil, sayS]
    by_cases h1 : a.1 = p.1 ∧ a.2 = p.2
    · rw [if_pos h1]
      have : a = p := by ext; exact h1.1; exact h1.2
      subst this
      simp; exact hcorner a (by simp)
    rw [if_neg h1, in_two]
    have hsw := Go.Geo.cross_swap2 b a p
    rcases Int.lt_trichotomy (cross a b p) 0 with hc | hc | hc
    · have hb : badS true p (a, b) = true := by unfold badS; rw [decide_eq_true hc]; rfl
      rw [hb]; simp; intro h; omega
    · by_cases hbx : box a b p
      · have hb : badS true p (a, b) = false := by unfold badS; rw [onS_iff.2 hbx]; simp; omega
        rw [hb]
        simp only [Bool.false_eq_true, if_false]
        by_cases h2 : b.1 = p.1 ∧ b.2 = p.2
        · rw [if_pos h2]; simp [hc, hbx]
        · rw [if_neg h2]
          have hb2 : badS true p (b, a) = false := by unfold badS; rw [onS_iff.2 (box_swap.1 hbx)]; simp; omega
          rw [hb2]; simp [hc, hbx]
      · have hb : badS true p (a, b) = true := by
          unfold badS
          have : onS (subC a b) (subC a p) = false := by rw [← Bool.not_eq_true, onS_iff]; exact hbx
          simp only; rw [this, hc]; rfl
        rw [hb]; simp [hbx]
    · have hb : badS true p (a, b) = false := by unfold badS; simp; omega
      rw [hb]
      simp only [Bool.false_eq_true, if_false]
      have h2 : ¬ (b.1 = p.1 ∧ b.2 = p.2) := fun h2 => by
        have : b = p := by ext; exact h2.1; exact h2.2
        rw [this, Go.Geo.cross_self2] at hc; omega
      rw [if_neg h2]
      have hb2 : badS true p (b, a) = true := by unfold badS; rw [decide_eq_true (p := cross (b, a).1 (b, a).2 p < 0) (by simp only; omega)]; rfl
      rw [hb2]; simp; intro h; omega
  | a :: b :: c :: t, _, hcorner, hr =>
    obtain ⟨R, hR⟩ : ∃ R, a :: b :: c :: t = R := ⟨_, rfl⟩
    have hl : 2 < R.length := by rw [← hR]; simp
    rw [hR] at hcorner ⊢
    have hsm : smS R = false := by unfold smS; rw [decide_eq_false (by omega)]
    have hin : InR R p ↔ ∀ e ∈ cyc R, 0 ≤ cross e.1 e.2 p := ⟨fun h => h.1, fun h => ⟨h, Or.inl hl⟩⟩
    unfold holS
    rw [hsm]
    cases hf : (cyc R).findSome? (sayS false p) with
    | none =>
      have := List.findSome?_eq_none_iff.1 hf
      simp only [Option.getD_none, decide_eq_true_eq]
      refine ⟨fun _ => hin.2 fun e he => ?_, fun _ => by omega⟩
      have h1 := this e he
      unfold sayS at h1
      split at h1
      · cases h1
      · split at h1
        · cases h1
        · rename_i h2
          unfold badS at h2; simp at h2; exact h2
    | some v =>
      obtain ⟨l1, e, l2, h1, h2, _⟩ := List.findSome?_eq_some_iff.1 hf
      have he : e ∈ cyc R := by rw [h1]; simp
      simp only [Option.getD_some]
      unfold sayS at h2
      split at h2
      · rename_i h3
        cases h2
        have : e.1 = p := by ext; exact h3.1; exact h3.2
        simp only [true_iff]
        rw [← this]; exact hcorner _ (Go.Geo.cyc_mem he).1
      · split at h2
        · rename_i h4
          cases h2
          unfold badS at h4; simp at h4
          simp only [Bool.false_eq_true, false_iff, hin]
          intro h5
          have := h5 e he
          omega
        · cases h2
/-- both say the same -/
theorem hol_ins {r : List (Int × Int)} (h : regS r = true) (p : Int × Int) : holS r p = insS r p := by
  rw [Bool.eq_iff_iff, holS_iff h, insS_iff h]
end Go.Proofs.Try
namespace Go.Proofs.Try
open Go.Psl
open Go.Geo (cross cyc InR box hullS)
/-- whether a region holds a point, or the error -/
def inV (r : List (Int × Int)) (p : Int × Int) : Bool := regS r && (okC p && insS r p)
def regE (r : List (Int × Int)) : Int := if regS r then 0 else 14
theorem near_one (p : Int × Int) : nearC [p] = okC p := by simp [nearC]
theorem bor_pt {H : Hp} {id : Nat} {p : Int × Int} (h : H id = some [vi p.1, vi p.2]) : Bor H (.ls id 0 1 2) (.d (spansD [p])) := bor_pairs [p] h rfl
set_option maxRecDepth 20000 in
theorem fn51 (hS : SortOk) (r : List (Int × Int)) (p : Int × Int) (hr : r.length ≤ 1000000000) : Ct prog 51 [.d (spansD r), vsp p.1 p.2] (.tup [vb (inV r p), vi (regE r)]) [] := by
  refine Ct.by gok eok mixed func51 c51 rfl (by simp [ntmps51]) (by simp) (by simp [ResIds]) fun E hE => ?_
  simp [p51]
  refine ACall.mk _ _ _ (fn55 hS r hr) (by first | (simp; done) | simp [Bor_ls, Bor1_ls]) (by simp) (by first | (left; simp; done) | (right; simp; done)) ?_
  cases h1 : regS r
  · simp
    refine RetOk.by (fun _ => none) ?_
    simp [results51, inV, regE, h1]
  · have hb := regS_bd h1
    have hlen := regS_len h1
    simp [splice, repl]
    refine ACall.mk _ _ _ (fn92 [p] (by simp)) (by simp [bor_pt]) (by simp) (by first | (left; simp; done) | (right; simp; done)) ?_
    rw [near_one]
    cases h2 : okC p
    · simp
      refine RetOk.by (fun _ => none) ?_
      simp [results51, inV, regE, h1, h2]
    · simp
      refine ACall.mk _ _ _ (fn96 r p (by omega) hb (okC_iff.1 h2)) (by first | (simp; done) | simp [Bor_ls, Bor1_ls]) (by simp) (by first | (left; simp; done) | (right; simp; done)) ?_
      rw [hol_ins h1]
      simp
      refine RetOk.by (fun _ => none) ?_
      simp [results51, inV, regE, h1, h2]
set_option maxRecDepth 20000 in
theorem fn52 (r : List (Int × Int)) (p : Int × Int) (hr : r.length ≤ 1000000000) : Ct prog 52 [.d (spansD r), vsp p.1 p.2] (.tup [vb (inV r p), vi (regE r)]) [] := by
  refine Ct.by gok eok mixed func52 c52 rfl (by simp [ntmps52]) (by simp) (by simp [ResIds]) fun E hE => ?_
  simp [p52]
  refine ACall.mk _ _ _ (fn67 r hr) (by first | (simp; done) | simp [Bor_ls, Bor1_ls]) (by simp) (by first | (left; simp; done) | (right; simp; done)) ?_
  cases h1 : regS r
  · simp
    refine RetOk.by (fun _ => none) ?_
    simp [results52, inV, regE, h1]
  · have hb := regS_bd h1
    have hlen := regS_len h1
    simp [splice, repl]
    refine ACall.mk _ _ _ (fn94 [p] (by simp)) (by simp [bor_pt]) (by simp) (by first | (left; simp; done) | (right; simp; done)) ?_
    rw [near_one]
    cases h2 : okC p
    · simp
      refine RetOk.by (fun _ => none) ?_
      simp [results52, inV, regE, h1, h2]
    · simp
      refine ACall.mk _ _ _ (fn97 r p (by omega) (by omega) (fun q hq => bd_mono (hb q hq) (by omega)) (bd_mono (okC_iff.1 h2) (by omega))) (by first | (simp; done) | simp [Bor_ls, Bor1_ls]) (by simp) (by first | (left; simp; done) | (right; simp; done)) ?_
      simp
      refine RetOk.by (fun _ => none) ?_
      simp [results52, inV, regE, h1, h2]
end Go.Proofs.Try
namespace Go.Proofs.Try
open Go.Psl
open Go.Geo (cross cyc InR box hullS)
set_option maxHeartbeats 4000000 in
set_option maxRecDepth 20000 in
theorem fn98 (hS : SortOk) (a b : List (Int × Int)) (ha : a.length ≤ 1000000000) (hb : b.length ≤ 1000000000) : Ct prog 98 [.d (.sl 1 [[spansD a], [spansD b]])] (vi (if regS a && regS b then 0 else 14)) [] := by
  refine Ct.by gok eok mixed func98 c98 rfl (by simp [ntmps98]) (by simp) (by simp [ResIds]) fun E hE => ?_
  simp [p98]
  refine pw_loop (α := Nat) (fun i => ⟨slots [(6, .d (.sl 1 [[spansD a], [spansD b]])), (7, vi 2), (8, vi i)], lk [], 0⟩) (fun i => i ≤ 2 ∧ (0 < i → regS a = true) ∧ (1 < i → regS b = true)) (fun i => 2 - i) 0 ?_ ?_ ?_
  · omega
  · refine Weak.mk hE (lk []) _ _ _ ?_ ?_ ?_ ?_ ?_ <;> simp
  · rintro i ⟨hi, h1, h2⟩
    match i, hi, h1, h2 with
    | 0, _, _, _ =>
      simp [p98l0]
      refine ACall.mk _ _ _ (fn55 hS a ha) (by first | (simp; done) | simp [Bor_ls, Bor1_ls]) (by simp) (by first | (left; simp; done) | (right; simp; done)) ?_
      cases h3 : regS a
      · simp
        refine RetOk.by (fun _ => none) ?_
        simp [results98]
      · have w : IntKind.wrap .i64 1 = 1 := by decide
        simp [w]
        refine ⟨1, by omega, by omega, ?_⟩
        refine Weak.mk hE (lk []) _ _ _ ?_ ?_ ?_ ?_ ?_ <;> simp
    | 1, _, h1, _ =>
      have h1' := h1 (by omega)
      simp [p98l0]
      refine ACall.mk _ _ _ (fn55 hS b hb) (by first | (simp; done) | simp [Bor_ls, Bor1_ls]) (by simp) (by first | (left; simp; done) | (right; simp; done)) ?_
      cases h3 : regS b
      · simp
        refine RetOk.by (fun _ => none) ?_
        simp [results98]
      · have w : IntKind.wrap .i64 2 = 2 := by decide
        simp [w]
        refine ⟨2, ?_, by omega, ?_⟩
        · simp [h1']
        · refine Weak.mk hE (lk []) _ _ _ ?_ ?_ ?_ ?_ ?_ <;> simp
    | 2, _, h1, h2 =>
      have h1' := h1 (by omega)
      have h2' := h2 (by omega)
      simp [p98l0]
      refine RetOk.by (fun _ => none) ?_
      simp [results98, h1', h2']
    | i + 3, hi, _, _ => omega
def ixS (q : Int × Int → Bool) (l : List (Int × Int)) : Int := match l.findIdx? q with | some i => i | none => -1
set_option maxHeartbeats 4000000 in
set_option maxRecDepth 20000 in
theorem fn137 (l : List (Int × Int)) (g : FuncId) (ds : List D) (q : Int × Int → Bool) (hl : l.length ≤ 1000000000) (hg : ∀ p ∈ l, Ct prog g (vsp p.1 p.2 :: ds.map .d) (vb (q p)) []) : Ct prog 137 [.d (spansD l), .d (.fn g ds)] (vi (ixS q l)) [] := by
  refine Ct.by gok eok mixed func137 c137 rfl (by simp [ntmps137]) (by simp) (by simp [ResIds]) fun E hE => ?_
  simp [p137]
  refine pw_loop (α := Nat) (fun i => ⟨slots [(0, .d (spansD l)), (1, .d (.fn g ds)), (7, vi l.length), (8, vi i)], lk [], 0⟩) (fun i => i ≤ l.length ∧ ∀ j, j < i → (l[j]?).all (fun p => !q p) = true) (fun i => l.length - i) 0 ?_ ?_ ?_
  · exact ⟨by omega, fun j hj => by omega⟩
  · refine Weak.mk hE (lk []) _ _ _ ?_ ?_ ?_ ?_ ?_ <;> simp
  · rintro i ⟨hi, hg3⟩
    have hg2 : ∀ (j : Nat) (p : Int × Int), j < i → l[j]? = some p → q p = false := fun j p hj hp => by
      have := hg3 j hj
      rw [hp] at this; simpa using this
    have hz : IntKind.wrap .i64 ((i : Int) + 1) = ((i + 1 : Nat) : Int) := by rw [wrap64 (by omega) (by omega)]; omega
    simp [p137l0]
    refine cR_split (fun h => ?_) (fun h => ?_)
    · simp at h
      obtain ⟨p, hp⟩ : ∃ p, l[i]? = some p := ⟨_, List.getElem?_eq_getElem h⟩
      simp [hp]
      refine ACall.mk _ _ _ (hg p (List.mem_of_getElem? hp)) (by first | (simp; done) | simp [Bor_ls, Bor1_ls]) (by simp) (by first | (left; simp; done) | (right; simp; done)) ?_
      cases hq : q p
      · simp [hz]
        refine ⟨i + 1, ⟨by omega, fun j hj => ?_⟩, by omega, ?_⟩
        · by_cases e : j = i
          · subst e; rw [hp]; simp [hq]
          · exact hg3 j (by omega)
        · refine Weak.mk hE (lk []) _ _ _ ?_ ?_ ?_ ?_ ?_ <;> simp
      · have e : ixS q l = i := by
          unfold ixS
          have : l.findIdx? q = some i := by
            rw [List.findIdx?_eq_some_iff_getElem]
            obtain ⟨h1, h2⟩ := List.getElem?_eq_some_iff.1 hp
            refine ⟨h1, by rw [h2]; exact hq, fun j hj => ?_⟩
            have := hg2 j l[j] hj (List.getElem?_eq_getElem (by omega))
            rw [this]; simp
          rw [this]
        simp
        refine RetOk.by (fun _ => none) ?_
        simp [results137, e]
    · simp at h
      have e : ixS q l = -1 := by
        unfold ixS
        have : l.findIdx? q = none := by
          rw [List.findIdx?_eq_none_iff]
          intro p hp
          obtain ⟨j, hj⟩ := List.getElem?_of_mem hp
          have := (List.getElem?_eq_some_iff.1 hj).1
          exact hg2 j p (by omega) hj
        rw [this]
      simp
      refine RetOk.by (fun _ => none) ?_
      simp [results137, e]
theorem ixS_any (q : Int × Int → Bool) (l : List (Int × Int)) : decide (0 ≤ ixS q l) = l.any q := by
  unfold ixS
  cases h : l.findIdx? q with
  | none =>
    rw [List.findIdx?_eq_none_iff] at h
    have h2 : l.any q = false := by rw [List.any_eq_false]; intro x hx; rw [h x hx]; simp
    rw [h2]; rfl
  | some i =>
    rw [List.findIdx?_eq_some_iff_getElem] at h
    obtain ⟨h1, h2, _⟩ := h
    have : l.any q = true := List.any_eq_true.2 ⟨_, List.getElem_mem h1, h2⟩
    rw [this]; simp
set_option maxRecDepth 20000 in
theorem fn99 (l : List (Int × Int)) (g : FuncId) (ds : List D) (q : Int × Int → Bool) (hl : l.length ≤ 1000000000) (hg : ∀ p ∈ l, Ct prog g (vsp p.1 p.2 :: ds.map .d) (vb (q p)) []) : Ct prog 99 [.d (spansD l), .d (.fn g ds)] (vb (l.any q)) [] := by
  refine Ct.by gok eok mixed func99 c99 rfl (by simp [ntmps99]) (by simp) (by simp [ResIds]) fun E hE => ?_
  simp [p99]
  refine ACall.mk _ _ _ (fn137 l g ds q hl hg) (by first | (simp; done) | simp [Bor_ls, Bor1_ls]) (by simp) (by first | (left; simp; done) | (right; simp; done)) ?_
  simp
  refine RetOk.by (fun _ => none) ?_
  simp [results99, ← ixS_any]
set_option maxRecDepth 20000 in
theorem fn100 (r : List (Int × Int)) (p : Int × Int) (h1 : regS r = true) (hp : bd 268435456 p) : Ct prog 100 [vsp p.1 p.2, .d (.ref [spansD r])] (vb (!insS r p)) [] := by
  have hb := regS_bd h1
  have hlen := regS_len h1
  refine Ct.by gok eok mixed func100 c100 rfl (by simp [ntmps100]) (by simp) (by simp [ResIds]) fun E hE => ?_
  simp [p100]
  refine ACall.mk _ _ _ (fn96 r p (by omega) hb hp) (by first | (simp; done) | simp [Bor_ls, Bor1_ls]) (by simp) (by first | (left; simp; done) | (right; simp; done)) ?_
  rw [hol_ins h1]
  simp
  refine RetOk.by (fun _ => none) ?_
  simp [results100]
end Go.Proofs.Try
namespace Go.Proofs.Try
open Go.Psl
open Go.Geo (cross cyc InR box hullS)
/-- whether b holds all that a holds, or the error -/
def wiV (a b : List (Int × Int)) : Bool := regS a && regS b && a.all (insS b)
def regE2 (a b : List (Int × Int)) : Int := if regS a && regS b then 0 else 14
theorem bor_two_ls {H : Hp} {id : Nat} {a b : List (Int × Int)} (h : H id = some [.d (spansD a), .d (spansD b)]) : Bor H (.ls id 0 2 1) (.d (.sl 1 [[spansD a], [spansD b]])) := by
  rw [Bor_ls]
  exact ⟨rfl, rfl, fun e he => by simp at he; rcases he with rfl | rfl <;> rfl, _, h, rfl⟩
theorem any_not (b a : List (Int × Int)) : (!a.any fun p => !insS b p) = a.all (insS b) := by
  rw [List.all_eq_not_any_not]
set_option maxHeartbeats 4000000 in
set_option maxRecDepth 20000 in
theorem fn53 (hS : SortOk) (a b : List (Int × Int)) (ha : a.length ≤ 1000000000) (hb : b.length ≤ 1000000000) : Ct prog 53 [.d (spansD a), .d (spansD b)] (.tup [vb (wiV a b), vi (regE2 a b)]) [] := by
  refine Ct.by gok eok mixed func53 c53 rfl (by simp [ntmps53]) (by simp) (by simp [ResIds]) fun E hE => ?_
  simp [p53, splice, repl]
  refine ACall.mk _ _ _ (fn98 hS a b ha hb) (by simp [bor_two_ls]) (by simp) (by first | (left; simp; done) | (right; simp; done)) ?_
  cases h : regS a && regS b
  · simp
    refine RetOk.by (fun _ => none) ?_
    simp [results53, wiV, regE2, h]
  · have h12 := h
    rw [Bool.and_eq_true] at h12
    simp
    refine ACall.mk _ _ _ (fn99 a 100 [.ref [spansD b]] (fun p => !insS b p) ha (fun p hp => fn100 b p h12.2 (regS_bd h12.1 p hp))) (by first | (simp; done) | simp [Bor_ls, Bor1_ls]) (by simp) (by first | (left; simp; done) | (right; simp; done)) ?_
    simp
    refine RetOk.by (fun _ => none) ?_
    simp [results53, wiV, regE2, h, any_not]
def allS (b l : List (Int × Int)) : Bool := l.all (insS b)
theorem allS_take {b l : List (Int × Int)} {i : Nat} {p : Int × Int} (h : l[i]? = some p) : allS b (l.take (i + 1)) = (allS b (l.take i) && insS b p) := by
  unfold allS; rw [List.take_add_one, h, List.all_append]; simp
set_option maxHeartbeats 4000000 in
set_option maxRecDepth 20000 in
theorem fn54 (a b : List (Int × Int)) (ha : a.length ≤ 1000000000) (hb : b.length ≤ 1000000000) : Ct prog 54 [.d (spansD a), .d (spansD b)] (.tup [vb (wiV a b), vi (regE2 a b)]) [] := by
  refine Ct.by gok eok mixed func54 c54 rfl (by simp [ntmps54]) (by simp) (by simp [ResIds]) fun E hE => ?_
  simp [p54]
  refine ACall.mk _ _ _ (fn67 a ha) (by first | (simp; done) | simp [Bor_ls, Bor1_ls]) (by simp) (by first | (left; simp; done) | (right; simp; done)) ?_
  cases h1 : regS a
  · simp
    refine RetOk.by (fun _ => none) ?_
    simp [results54, wiV, regE2, h1]
  simp
  refine ACall.mk _ _ _ (fn67 b hb) (by first | (simp; done) | simp [Bor_ls, Bor1_ls]) (by simp) (by first | (left; simp; done) | (right; simp; done)) ?_
  cases h2 : regS b
  · simp
    refine RetOk.by (fun _ => none) ?_
    simp [results54, wiV, regE2, h1, h2]
  have ba := regS_bd h1
  have bb := regS_bd h2
  have hlen := regS_len h2
  have hE0 : regE2 a b = 0 := by unfold regE2; rw [h1, h2]; rfl
  have hW : wiV a b = a.all (insS b) := by unfold wiV; rw [h1, h2]; rfl
  simp
  refine pw_loop (α := Nat) (fun i => ⟨slots [(0, .d (spansD a)), (1, .d (spansD b)), (6, vi i)], lk [], 0⟩) (fun i => i ≤ a.length ∧ allS b (a.take i) = true) (fun i => a.length - i) 0 ?_ ?_ ?_
  · simp [allS]
  · refine Weak.mk hE (lk []) _ _ _ ?_ ?_ ?_ ?_ ?_ <;> simp
  · rintro i ⟨hi, hg⟩
    have hz : IntKind.wrap .i64 ((i : Int) + 1) = ((i + 1 : Nat) : Int) := by rw [wrap64 (by omega) (by omega)]; omega
    simp [p54l0]
    refine cR_split (fun h => ?_) (fun h => ?_)
    · simp at h
      obtain ⟨p, hp⟩ : ∃ p, a[i]? = some p := ⟨_, List.getElem?_eq_getElem h⟩
      simp [hp]
      refine ACall.mk _ _ _ (fn97 b p (by omega) (by omega) (fun q hq => bd_mono (bb q hq) (by omega)) (bd_mono (ba p (List.mem_of_getElem? hp)) (by omega))) (by first | (simp; done) | simp [Bor_ls, Bor1_ls]) (by simp) (by first | (left; simp; done) | (right; simp; done)) ?_
      cases hq : insS b p
      · have e : a.all (insS b) = false := by rw [List.all_eq_false]; exact ⟨p, List.mem_of_getElem? hp, by simp [hq]⟩
        simp
        refine RetOk.by (fun _ => none) ?_
        simp [results54, hE0, hW, e]
      · simp [hz]
        refine ⟨i + 1, ⟨by omega, by rw [allS_take hp, hg, hq]; rfl⟩, by omega, ?_⟩
        refine Weak.mk hE (lk []) _ _ _ ?_ ?_ ?_ ?_ ?_ <;> simp
    · simp at h
      have e : i = a.length := by omega
      rw [e, List.take_length] at hg
      have hg' : a.all (insS b) = true := hg
      simp
      refine RetOk.by (fun _ => none) ?_
      simp [results54, hE0, hW, hg']
end Go.Proofs.Try
namespace Go.Proofs.Try
open Go.Psl
open Go.Geo (cross cyc InR box hullS)
theorem fn48 (l : List (Int × Int)) : Ct prog 48 [.d (spansD l)] (vb (decide (80 < l.length))) [] := by
  refine Ct.by gok eok mixed func48 c48 rfl (by simp [ntmps48]) (by simp) (by simp [ResIds]) fun E hE => ?_
  simp [p48]
  refine RetOk.by (fun _ => none) ?_
  simp [results48]
  omega
theorem cells_flat (L : List (Int × Int)) : (List.map (List.map V.d ∘ fun s : Int × Int => [di s.1, di s.2]) L).flatten = cellsI L := by
  show _ = (spD L).map V.d
  unfold spD
  rw [List.map_flatMap, List.flatMap_def]; rfl
theorem cells_cell (L : List (Int × Int)) : ∀ x : V, x ∈ cellsI L → x.isCell = true := fun x hx => by
  obtain ⟨y, _, rfl⟩ := List.mem_map.1 hx; rfl
theorem bor_own {H : Hp} {id : Nat} {l : List (Int × Int)} (h : H id = some (cellsI l)) : Bor H (.ls id 0 l.length 2) (.d (spansD l)) :=
  bor_cut (z := []) (by rw [List.append_nil]; exact h)
theorem bor_cut1 {H : Hp} {id : Nat} {o z : List (Int × Int)} {x : Int × Int} (h : H id = some (cellsI (o ++ [x] ++ z))) : Bor H (.ls id 0 (o.length + 1) 2) (.d (spansD (o ++ [x]))) := by
  have := bor_cut (l := o ++ [x]) (z := z) h
  rwa [show (o ++ [x]).length = o.length + 1 by simp] at this
end Go.Proofs.Try
