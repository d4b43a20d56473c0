/- Contracts: what each function of the program computes, for the arguments that its theorem names; and from there the given statement. Conditions: those that each theorem states. -/
import Derived.Test.YtaedloehfgmcnaaCb
import Derived.Test.YtaedloehfgmcnaaHm
import Derived.Test.YtaedloehfgmcnaaFn
namespace Go.Proofs.Try
open Go.Psl
def clampF (t : Int) : Int := max (-2199023255552) (min 2199023255552 t)
theorem clamp_mono {s t : Int} (h : s ≤ t) : clampF s ≤ clampF t := by unfold clampF; omega
theorem clamp_neg (t : Int) : clampF (-t) = -clampF t := by unfold clampF; omega
theorem ceil_eq (P z : Int) (hz : 1 ≤ z) : -(-P / z) = if 0 < P % z then P / z + 1 else P / z := by
  have e := Int.mul_ediv_add_emod P z
  have m0 := Int.emod_nonneg P (show z ≠ 0 by omega)
  have m1 := Int.emod_lt_of_pos P (show 0 < z by omega)
  split
  · rename_i h
    have : -P / z = -(P / z + 1) := by
      have h2 : -P = (z - P % z) + z * -(P / z + 1) := by rw [Int.mul_neg, Int.mul_add]; omega
      rw [h2, Int.add_mul_ediv_left _ _ (by omega), Int.ediv_eq_zero_of_lt (by omega) (by omega)]; omega
    omega
  · rename_i h
    have h0 : P % z = 0 := by omega
    have : -P / z = -(P / z) := by
      have h2 : -P = z * -(P / z) := by rw [Int.mul_neg]; omega
      rw [h2, Int.mul_ediv_cancel_left _ (by omega)]
    omega
theorem part_clamp {P z : Int} (hP : 0 ≤ P) (hz : 1 ≤ z) : (partS P z).1 = clampF (P / z) ∧ upS (partS P z) = clampF (-(-P / z)) := by
  have q0 : 0 ≤ P / z := Int.ediv_nonneg hP (by omega)
  rw [ceil_eq P z hz]
  unfold partS
  split
  · unfold upS clampF
    simp only
    constructor
    · omega
    · split <;> omega
  · unfold upS clampF
    simp only
    constructor
    · omega
    · split <;> omega
theorem share_clamp (x y z : Int) (hz : 1 ≤ z) : shareS x y z = (clampF (x * y / z), clampF (-(-(x * y) / z))) := by
  have key : ∀ P : Int, 0 ≤ P → max x (-x) * max y (-y) = P → (x * y = P ∧ (decide (x < 0) != decide (y < 0)) = false) ∨ (x * y = -P ∧ (decide (x < 0) != decide (y < 0)) = true) → shareS x y z = (clampF (x * y / z), clampF (-(-(x * y) / z))) := by
    intro P hP hm h
    obtain ⟨p1, p2⟩ := part_clamp hP hz
    unfold shareS
    rw [hm]
    rcases h with ⟨h1, h2⟩ | ⟨h1, h2⟩
    · rw [h2, h1, ← p1, ← p2]; rfl
    · rw [h2, h1, Int.neg_neg, clamp_neg, ← p1]
      simp only [if_true]
      rw [show clampF (-P / z) = -clampF (-(-P / z)) by rw [clamp_neg, Int.neg_neg], ← p2]
  by_cases hx : x < 0 <;> by_cases hy : y < 0
  · refine key (x * y) (Int.mul_nonneg_of_nonpos_of_nonpos (by omega) (by omega)) ?_ (Or.inl ⟨rfl, by simp [hx, hy]⟩)
    rw [show max x (-x) = -x by omega, show max y (-y) = -y by omega, Int.neg_mul_neg]
  · refine key (-(x * y)) (by have := Int.mul_nonpos_of_nonpos_of_nonneg (show x ≤ 0 by omega) (show 0 ≤ y by omega); omega) ?_ (Or.inr ⟨by omega, by simp [hx, hy]⟩)
    rw [show max x (-x) = -x by omega, show max y (-y) = y by omega, Int.neg_mul]
  · refine key (-(x * y)) (by have := Int.mul_nonpos_of_nonneg_of_nonpos (show 0 ≤ x by omega) (show y ≤ 0 by omega); omega) ?_ (Or.inr ⟨by omega, by simp [hx, hy]⟩)
    rw [show max x (-x) = x by omega, show max y (-y) = -y by omega, Int.mul_neg]
  · refine key (x * y) (Int.mul_nonneg (by omega) (by omega)) ?_ (Or.inl ⟨rfl, by simp [hx, hy]⟩)
    rw [show max x (-x) = x by omega, show max y (-y) = y by omega]
theorem around_le : ∀ (l : List (Int × Int)) (s : Int × Int), ∀ e ∈ s :: l, (aroundS s l).1 ≤ e.1 ∧ e.2 ≤ (aroundS s l).2
  | [], s, e, h => by rw [List.mem_singleton.1 h]; exact ⟨Int.le_refl _, Int.le_refl _⟩
  | a :: l, s, e, h => by
    have ih := around_le l (joinI s a)
    have e0 : aroundS s (a :: l) = aroundS (joinI s a) l := rfl
    rw [e0]
    have h0 := ih (joinI s a) (by simp)
    unfold joinI at h0
    simp only at h0
    rcases List.mem_cons.1 h with rfl | h
    · unfold joinI; omega
    · rcases List.mem_cons.1 h with rfl | h
      · unfold joinI; omega
      · exact ih e (List.mem_cons_of_mem _ h)
theorem around_at : ∀ (l : List (Int × Int)) (s : Int × Int), (∃ e ∈ s :: l, (aroundS s l).1 = e.1) ∧ ∃ e ∈ s :: l, (aroundS s l).2 = e.2
  | [], s => ⟨⟨s, by simp, rfl⟩, s, by simp, rfl⟩
  | a :: l, s => by
    obtain ⟨⟨e, he, h1⟩, f, hf, h2⟩ := around_at l (joinI s a)
    have e0 : aroundS s (a :: l) = aroundS (joinI s a) l := rfl
    rw [e0]
    constructor
    · rcases List.mem_cons.1 he with rfl | he
      · rw [h1]
        by_cases h : s.1 ≤ a.1
        · exact ⟨s, by simp, by unfold joinI; simp only; omega⟩
        · exact ⟨a, by simp, by unfold joinI; simp only; omega⟩
      · exact ⟨e, by simp [he], h1⟩
    · rcases List.mem_cons.1 hf with rfl | hf
      · rw [h2]
        by_cases h : a.2 ≤ s.2
        · exact ⟨s, by simp, by unfold joinI; simp only; omega⟩
        · exact ⟨a, by simp, by unfold joinI; simp only; omega⟩
      · exact ⟨f, by simp [hf], h2⟩
/-- one of both ends -/
def endOf (a : Int × Int) (x : Int) : Prop := x = a.1 ∨ x = a.2
theorem ends_mem {a b c : Int × Int} {x y z : Int} (hx : endOf a x) (hy : endOf b y) (hz : endOf c z) : shareS x y z ∈ endS a b c 0 :: endsS a b c := by
  unfold endsS endS
  rcases hx with rfl | rfl <;> rcases hy with rfl | rfl <;> rcases hz with rfl | rfl <;> simp
theorem mem_ends {a b c e : Int × Int} (h : e ∈ endS a b c 0 :: endsS a b c) : ∃ x y z, endOf a x ∧ endOf b y ∧ endOf c z ∧ e = shareS x y z := by
  have : ∃ k, e = endS a b c k ∧ k < 8 := by
    unfold endsS at h
    simp only [List.mem_cons, List.not_mem_nil, or_false] at h
    rcases h with h | h | h | h | h | h | h | h <;> exact ⟨_, h, by omega⟩
  obtain ⟨k, rfl, hk⟩ := this
  unfold endS
  refine ⟨_, _, _, ?_, ?_, ?_, rfl⟩
  · split; exact Or.inr rfl; exact Or.inl rfl
  · split; exact Or.inr rfl; exact Or.inl rfl
  · split; exact Or.inr rfl; exact Or.inl rfl
theorem mul_low {a b : Int × Int} {x y : Int} (hx : a.1 ≤ x ∧ x ≤ a.2) (hy : b.1 ≤ y ∧ y ≤ b.2) : ∃ X Y, endOf a X ∧ endOf b Y ∧ X * Y ≤ x * y := by
  have h1 : ∃ X, endOf a X ∧ X * y ≤ x * y := by
    by_cases h : 0 ≤ y
    · exact ⟨a.1, Or.inl rfl, Int.mul_le_mul_of_nonneg_right hx.1 h⟩
    · exact ⟨a.2, Or.inr rfl, Int.mul_le_mul_of_nonpos_right hx.2 (by omega)⟩
  obtain ⟨X, hX, h1⟩ := h1
  by_cases h : 0 ≤ X
  · exact ⟨X, b.1, hX, Or.inl rfl, Int.le_trans (Int.mul_le_mul_of_nonneg_left hy.1 h) h1⟩
  · exact ⟨X, b.2, hX, Or.inr rfl, Int.le_trans (Int.mul_le_mul_of_nonpos_left (by omega) hy.2) h1⟩
theorem div_low {a b c : Int × Int} {x y z : Int} (hx : a.1 ≤ x ∧ x ≤ a.2) (hy : b.1 ≤ y ∧ y ≤ b.2) (hz : c.1 ≤ z ∧ z ≤ c.2) (hc : 1 ≤ c.1) : ∃ X Y Z, endOf a X ∧ endOf b Y ∧ endOf c Z ∧ X * Y / Z ≤ x * y / z := by
  obtain ⟨X, Y, hX, hY, h⟩ := mul_low hx hy
  have h2 : X * Y / z ≤ x * y / z := Int.ediv_le_ediv (by omega) h
  have key : ∀ Z : Int, 1 ≤ Z → X * Y / Z * z ≤ X * Y / Z * Z → X * Y / Z ≤ x * y / z := fun Z h1 h3 => by
    refine Int.le_trans ?_ h2
    rw [Int.le_ediv_iff_mul_le (by omega)]
    exact Int.le_trans h3 (Int.ediv_mul_le _ (by omega))
  by_cases hp : 0 ≤ X * Y
  · refine ⟨X, Y, c.2, hX, hY, Or.inr rfl, key _ (by omega) ?_⟩
    exact Int.mul_le_mul_of_nonneg_left hz.2 (Int.ediv_nonneg hp (by omega))
  · refine ⟨X, Y, c.1, hX, hY, Or.inl rfl, key _ hc ?_⟩
    have : X * Y / c.1 ≤ 0 := Int.le_of_lt (Int.ediv_neg_of_neg_of_pos (by omega) (by omega))
    exact Int.mul_le_mul_of_nonpos_left this hz.1
/-- the least span of all quotients of products -/
def allS (a b c : Int × Int) : Int × Int := aroundS (endS a b c 0) (endsS a b c)
theorem end_pos {c : Int × Int} {z : Int} (hz : endOf c z) (h1 : 1 ≤ c.1) (h2 : c.1 ≤ c.2) : 1 ≤ z := by rcases hz with rfl | rfl <;> omega
theorem all_low {a b c : Int × Int} {x y z : Int} (hx : a.1 ≤ x ∧ x ≤ a.2) (hy : b.1 ≤ y ∧ y ≤ b.2) (hz : c.1 ≤ z ∧ z ≤ c.2) (hc : 1 ≤ c.1) : (allS a b c).1 ≤ clampF (x * y / z) := by
  obtain ⟨X, Y, Z, hX, hY, hZ, h⟩ := div_low hx hy hz hc
  have h1 := (around_le _ _ _ (ends_mem hX hY hZ)).1
  rw [share_clamp X Y Z (end_pos hZ hc (by omega))] at h1
  exact Int.le_trans h1 (clamp_mono h)
theorem all_high {a b c : Int × Int} {x y z : Int} (hx : a.1 ≤ x ∧ x ≤ a.2) (hy : b.1 ≤ y ∧ y ≤ b.2) (hz : c.1 ≤ z ∧ z ≤ c.2) (hc : 1 ≤ c.1) : clampF (-(-(x * y) / z)) ≤ (allS a b c).2 := by
  obtain ⟨X, Y, Z, hX, hY, hZ, h⟩ := div_low (a := (-a.2, -a.1)) (x := -x) (by simp only; omega) hy hz hc
  have hX' : endOf a (-X) := by rcases hX with rfl | rfl; exact Or.inr (by simp only; omega); exact Or.inl (by simp only; omega)
  have h1 := (around_le _ _ _ (ends_mem hX' hY hZ)).2
  rw [share_clamp (-X) Y Z (end_pos hZ hc (by omega))] at h1
  refine Int.le_trans ?_ h1
  simp only
  rw [clamp_neg, clamp_neg, Int.neg_mul, Int.neg_neg]
  have := clamp_mono h
  rw [Int.neg_mul] at this
  omega
theorem all_order {a b c : Int × Int} (ha : a.1 ≤ a.2) (hb : b.1 ≤ b.2) (hc : 1 ≤ c.1) (hc2 : c.1 ≤ c.2) : (allS a b c).1 ≤ (allS a b c).2 := by
  have h1 := all_low (a := a) (b := b) (c := c) (x := a.1) (y := b.1) (z := c.1) (by omega) (by omega) (by omega) hc
  have h2 := all_high (a := a) (b := b) (c := c) (x := a.1) (y := b.1) (z := c.1) (by omega) (by omega) (by omega) hc
  have h3 : a.1 * b.1 / c.1 ≤ -(-(a.1 * b.1) / c.1) := by rw [ceil_eq _ _ hc]; split <;> omega
  have := clamp_mono h3
  omega
/-- narrower spans, a narrower result -/
theorem all_narrow {a b c d f g : Int × Int} (hd : a.1 ≤ d.1 ∧ d.1 ≤ d.2 ∧ d.2 ≤ a.2) (hf : b.1 ≤ f.1 ∧ f.1 ≤ f.2 ∧ f.2 ≤ b.2) (hg : c.1 ≤ g.1 ∧ g.1 ≤ g.2 ∧ g.2 ≤ c.2) (hc : 1 ≤ c.1) : (allS a b c).1 ≤ (allS d f g).1 ∧ (allS d f g).2 ≤ (allS a b c).2 := by
  obtain ⟨⟨e, he, h1⟩, e', he', h2⟩ := around_at (endsS d f g) (endS d f g 0)
  obtain ⟨x, y, z, hx, hy, hz, rfl⟩ := mem_ends he
  obtain ⟨x', y', z', hx', hy', hz', rfl⟩ := mem_ends he'
  have in1 : ∀ {a d : Int × Int} {x : Int}, endOf d x → a.1 ≤ d.1 ∧ d.1 ≤ d.2 ∧ d.2 ≤ a.2 → a.1 ≤ x ∧ x ≤ a.2 := fun h h' => by rcases h with rfl | rfl <;> omega
  have p1 : 1 ≤ z := by have := in1 hz hg; omega
  have p2 : 1 ≤ z' := by have := in1 hz' hg; omega
  rw [share_clamp x y z p1] at h1
  rw [share_clamp x' y' z' p2] at h2
  refine ⟨?_, ?_⟩
  · show _ ≤ (aroundS (endS d f g 0) (endsS d f g)).1
    rw [h1]; exact all_low (in1 hx hd) (in1 hy hf) (in1 hz hg) hc
  · show (aroundS (endS d f g 0) (endsS d f g)).2 ≤ _
    rw [h2]; exact all_high (in1 hx' hd) (in1 hy' hf) (in1 hz' hg) hc
end Go.Proofs.Try
namespace Go.Proofs.Try
open Go.Psl
theorem overS_eq {a b c : Int × Int} (ha : okS a = true) (hb : okS b = true) (hc : okS c = true) (h1 : ¬ c.1 < 1) : overS a b c = sizedS (allS a b c) := by unfold overS; simp [ha, hb, hc, h1, allS]
theorem over_ok {a b c : Int × Int} (h : (overS a b c).2 = 0) : okS a = true ∧ okS b = true ∧ okS c = true ∧ 1 ≤ c.1 ∧ overS a b c = (allS a b c, 0) ∧ -1099511627776 ≤ (allS a b c).1 ∧ (allS a b c).2 ≤ 1099511627776 := by
  by_cases hab : (okS a && okS b && okS c) = true
  · simp only [Bool.and_eq_true] at hab
    obtain ⟨⟨ha, hb⟩, hc⟩ := hab
    by_cases h1 : c.1 < 1
    · unfold overS at h; simp [ha, hb, hc, h1] at h
    · rw [overS_eq ha hb hc h1] at h ⊢
      unfold sizedS at h ⊢
      split at h
      · simp at h
      · rename_i h2
        rw [if_neg h2]
        exact ⟨ha, hb, hc, by omega, rfl, by omega, by omega⟩
  · unfold overS at h; simp [hab] at h
theorem over_err {a b c : Int × Int} (h : (overS a b c).2 ≠ 0) : (overS a b c).1 = (0, 0) := by
  unfold overS sizedS at h ⊢
  split
  · split
    · rfl
    · split
      · rfl
      · rename_i h1 h2 h3; rw [if_pos h1, if_neg h2, if_neg h3] at h; exact absurd rfl h
  · rfl
set_option maxHeartbeats 4000000 in
set_option maxRecDepth 20000 in
theorem fn11 (hS : SortOk) (a b c : Int × Int) (i j k : Int) : Ct prog 11 [vsp a.1 a.2, vsp b.1 b.2, vsp c.1 c.2, vi i, vi j, vi k] (vb true) [] := by
  have c0 := fn58 hS
  have c1 := fn30 a b c
  by_cases he : (overS a b c).2 = 0
  · obtain ⟨ha, hb, hc, h1, ho, hlo, hhi⟩ := over_ok he
    have ia := okS_iff.1 ha
    have ib := okS_iff.1 hb
    have ic := okS_iff.1 hc
    rw [ho] at c1
    have sa := someS_in ia.1 i
    have sb := someS_in ib.1 j
    have sc := someS_in ic.1 k
    have c2 := fn59 a i (by omega)
    have c3 := fn59 b j (by omega)
    have c4 := fn59 c k (by omega)
    generalize someS a i = u at *
    generalize someS b j = v at *
    generalize someS c k = w at *
    have s2 := fn69 u a.2
    have s3 := fn69 b.1 v
    have s4 := fn69 w c.2
    have c5 := fn30 (u, a.2) (b.1, v) (w, c.2)
    have hn := all_narrow (a := a) (b := b) (c := c) (d := (u, a.2)) (f := (b.1, v)) (g := (w, c.2)) (by simp only; omega) (by simp only; omega) (by simp only; omega) h1
    have ho2 := all_order (a := (u, a.2)) (b := (b.1, v)) (c := (w, c.2)) (by simp only; omega) (by simp only; omega) (by simp only; omega) (by simp only; omega)
    have ho1 := all_order (a := a) (b := b) (c := c) ia.1 ib.1 h1 ic.1
    rw [overS_eq (by rw [okS_iff]; simp only; omega) (by rw [okS_iff]; simp only; omega) (by rw [okS_iff]; simp only; omega) (by simp only; omega)] at c5
    have hsz : sizedS (allS (u, a.2) (b.1, v) (w, c.2)) = (allS (u, a.2) (b.1, v) (w, c.2), 0) := by unfold sizedS; rw [if_neg (by omega)]
    rw [hsz] at c5
    generalize allS (u, a.2) (b.1, v) (w, c.2) = y at *
    generalize allS a b c = x at *
    have c6 := fn44 x y
    have hh : holdsS x y = (true, 0) := by
      have e1 : okS x = true := by rw [okS_iff]; omega
      have e2 : okS y = true := by rw [okS_iff]; omega
      unfold holdsS; simp [e1, e2]; omega
    rw [hh] at c6
    refine Ct.by gok eok mixed func11 c11 rfl (by simp [ntmps11]) (by simp) (by simp [ResIds]) fun E hE => ?_
    simp [p11]
    repeat ((first | (refine ACall.mk _ _ _ (c0) ?_ ?_ ?_ ?_; (focus (simp; done)); (focus (simp; done)); (focus (first | (left; simp; done) | (right; simp; done)))) | (refine ACall.mk _ _ _ (c1) ?_ ?_ ?_ ?_; (focus (simp; done)); (focus (simp; done)); (focus (first | (left; simp; done) | (right; simp; done)))) | (refine ACall.mk _ _ _ (c2) ?_ ?_ ?_ ?_; (focus (simp; done)); (focus (simp; done)); (focus (first | (left; simp; done) | (right; simp; done)))) | (refine ACall.mk _ _ _ (c3) ?_ ?_ ?_ ?_; (focus (simp; done)); (focus (simp; done)); (focus (first | (left; simp; done) | (right; simp; done)))) | (refine ACall.mk _ _ _ (c4) ?_ ?_ ?_ ?_; (focus (simp; done)); (focus (simp; done)); (focus (first | (left; simp; done) | (right; simp; done)))) | (refine ACall.mk _ _ _ (s2) ?_ ?_ ?_ ?_; (focus (simp; done)); (focus (simp; done)); (focus (first | (left; simp; done) | (right; simp; done)))) | (refine ACall.mk _ _ _ (s3) ?_ ?_ ?_ ?_; (focus (simp; done)); (focus (simp; done)); (focus (first | (left; simp; done) | (right; simp; done)))) | (refine ACall.mk _ _ _ (s4) ?_ ?_ ?_ ?_; (focus (simp; done)); (focus (simp; done)); (focus (first | (left; simp; done) | (right; simp; done)))) | (refine ACall.mk _ _ _ (c5) ?_ ?_ ?_ ?_; (focus (simp; done)); (focus (simp; done)); (focus (first | (left; simp; done) | (right; simp; done)))) | (refine ACall.mk _ _ _ (c6) ?_ ?_ ?_ ?_; (focus (simp; done)); (focus (simp; done)); (focus (first | (left; simp; done) | (right; simp; done))))); simp [splice, inC, Nat.testBit])
    refine RetOk.by (fun _ => none) ?_
    simp [results11]
  · have hz := over_err he
    obtain ⟨e, hee⟩ : ∃ e, (overS a b c).2 = e := ⟨_, rfl⟩
    have hov : overS a b c = ((0, 0), e) := by rw [← hz, ← hee]
    rw [hee] at he
    rw [hov] at c1
    refine Ct.by gok eok mixed func11 c11 rfl (by simp [ntmps11]) (by simp) (by simp [ResIds]) fun E hE => ?_
    simp [p11]
    repeat ((first | (refine ACall.mk _ _ _ (c0) ?_ ?_ ?_ ?_; (focus (simp; done)); (focus (simp; done)); (focus (first | (left; simp; done) | (right; simp; done)))) | (refine ACall.mk _ _ _ (c1) ?_ ?_ ?_ ?_; (focus (simp; done)); (focus (simp; done)); (focus (first | (left; simp; done) | (right; simp; done))))); simp [splice, he])
    refine RetOk.by (fun _ => none) ?_
    simp [results11]
end Go.Proofs.Try
