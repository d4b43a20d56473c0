/- Own lemmas and contracts of functions, used by the last text of this claim for the given statement. Conditions: those that each theorem states. -/
import Derived.Test.YtigekgfbcfbobaaGreatAg
import Derived.Test.YtigekgfbcfbobaaGreatAf
namespace Go.Proofs.Tryz
open Go.Psl
open Go.Air
def upK (T : Tm) : Nat → List Lev → List Lev
  | 0, l => l
  | i + 1, a :: b :: r => a :: upK T i (mt b (cyu T a b) :: r)
  | _ + 1, l => l
theorem lel_head {a b : Lev} (h : Le a b) (r : List Lev) : LeL (a :: r) (b :: r) := ⟨h, LeL.refl r⟩
theorem upK_le (T : Tm) : ∀ (i : Nat) (l : List Lev), LeL l (upK T i l)
  | 0, l => LeL.refl l
  | _ + 1, [] => trivial
  | _ + 1, [a] => ⟨Le.refl a, trivial⟩
  | i + 1, a :: b :: r => ⟨Le.refl a, LeL.trans (lel_head (mt_le b _) r) (upK_le T i _)⟩
theorem upK_next (T : Tm) : ∀ (i : Nat) (l : List Lev) (a b : Lev), (upK T i l)[i]? = some a → (upK T i l)[i + 1]? = some b → upK T (i + 1) l = (upK T i l).set (i + 1) (mt b (cyu T a b))
  | 0, [], _, _, h, _ => by simp [upK] at h
  | 0, [x], _, _, _, h => by simp [upK] at h
  | 0, x :: y :: r, a, b, ha, hb => by
    simp [upK] at ha hb
    subst ha hb
    rfl
  | i + 1, [], _, _, h, _ => by simp [upK] at h
  | i + 1, [x], _, _, _, h => by simp [upK] at h
  | i + 1, x :: y :: r, a, b, ha, hb => by
    have h1 : upK T (i + 1) (x :: y :: r) = x :: upK T i (mt y (cyu T x y) :: r) := rfl
    have h2 : upK T (i + 1 + 1) (x :: y :: r) = x :: upK T (i + 1) (mt y (cyu T x y) :: r) := rfl
    rw [h1] at ha hb
    rw [h1, h2, List.set_cons_succ]
    rw [upK_next T i _ a b (by simpa using ha) (by simpa using hb)]
theorem upK_all (T : Tm) : ∀ (i : Nat) (l : List Lev), l.length ≤ i + 1 → upK T i l = upSw T l
  | 0, [], _ => rfl
  | 0, [a], _ => rfl
  | 0, _ :: _ :: _, h => by simp at h
  | i + 1, [], _ => rfl
  | i + 1, [a], _ => rfl
  | i + 1, a :: b :: r, h => by
    show a :: upK T i (mt b (cyu T a b) :: r) = a :: mt b (cyu T a b) :: upL T (mt b (cyu T a b)) r
    rw [upK_all T i _ (by simpa using h)]
    rfl
def Pb (M : Int) (x : Lev) : Prop := (0 ≤ x.pl ∧ x.pl ≤ M) ∧ 0 ≤ x.ph ∧ x.ph ≤ 12000
theorem Pb.up {T : Tm} {M : Int} {a b : Lev} (hk : LkP T a b) (ha : Pb M a) (hb : Pb M b) : Pb M (mt b (cyu T a b)) := by
  have h1 := upLo_le (c := lc T a b) (s := ls a b) (x := a.pl) (by have := hk.s0; have := hk.sc; omega) (by have := hk.s0; omega) ha.1.1
  have h2 := Lk.pos3 hk (x := a.ph) ha.2.1
  have h3 := ha.1; have h4 := hb.1; have h5 := hb.2
  unfold Pb Air.mt cyu
  simp only
  omega
theorem dnLo_two {w s x : Int} (hw : 0 < w) (hs : s ≤ w) (hx : 0 ≤ x) : dnLo w s x ≤ 2 * x := by
  unfold dnLo
  have h1 : x * (w + s) ≤ 2 * x * w := by
    have : x * (w + s) ≤ x * (w + w) := Int.mul_le_mul_of_nonneg_left (by omega) hx
    have e : x * (w + w) = 2 * x * w := by grind
    omega
  have h2 := Int.ediv_le_ediv hw h1
  rw [Int.mul_ediv_cancel _ (by omega)] at h2
  exact h2
theorem Pb.dn {T : Tm} {M N : Int} {a b : Lev} (hk : LkP T a b) (ha : Pb N a) (hb : Pb M b) (hM : N ≤ 2 * M) : Pb (2 * M) (mt a (cyd T a b)) := by
  have q1 := hk.s0; have q2 := hk.sc; have q3 := hk.cw
  have h1 := dnLo_two (w := lw T a b) (s := ls a b) (x := b.pl) (by omega) (by omega) hb.1.1
  have h2 := Lk.pos2 hk (x := b.ph) hb.2.1
  have h3 := ha.1; have h4 := hb.1; have h5 := ha.2
  unfold Pb Air.mt cyd
  simp only
  omega
theorem upK_pb {T : Tm} {M : Int} : ∀ (i : Nat) (l : List Lev), Lks T l → (∀ x ∈ l, Pb M x) → ∀ x ∈ upK T i l, Pb M x
  | 0, l, _, h, x, hx => h x hx
  | i + 1, [], _, h, x, hx => h x hx
  | i + 1, [a], _, h, x, hx => h x hx
  | i + 1, a :: b :: r, hk, h, x, hx => by
    have hx' : x = a ∨ x ∈ upK T i (mt b (cyu T a b) :: r) := by simpa [upK] using hx
    rcases hx' with rfl | hx'
    · exact h _ (by simp)
    · refine upK_pb i _ (Lks.le (lel_head (mt_le b _) r) hk.2) ?_ x hx'
      intro y hy
      rcases List.mem_cons.1 hy with rfl | hy
      · exact Pb.up hk.1 (h a (by simp)) (h b (by simp))
      · exact h y (by simp [hy])
def dnK (T : Tm) : Nat → List Lev → List Lev
  | 0, l => dnS T l
  | i + 1, a :: r => a :: dnK T i r
  | _ + 1, [] => []
theorem dnK_le (T : Tm) : ∀ (i : Nat) (l : List Lev), LeL l (dnK T i l)
  | 0, l => dnS_le l
  | _ + 1, [] => trivial
  | i + 1, a :: r => ⟨Le.refl a, dnK_le T i r⟩
theorem dnK_last (T : Tm) : ∀ (i : Nat) (l : List Lev), l.length ≤ i + 1 → dnK T i l = l
  | 0, [], _ => rfl
  | 0, [a], _ => rfl
  | 0, _ :: _ :: _, h => by simp at h
  | i + 1, [], _ => rfl
  | i + 1, a :: r, h => by
    show a :: dnK T i r = a :: r
    rw [dnK_last T i r (by simpa using h)]
theorem dnK_next (T : Tm) : ∀ (j : Nat) (l : List Lev) (a b : Lev), (dnK T (j + 1) l)[j + 1]? = some a → (dnK T (j + 1) l)[j]? = some b → dnK T j l = (dnK T (j + 1) l).set j (mt b (cyd T b a))
  | 0, [], _, _, h, _ => by simp [dnK] at h
  | 0, x :: r, a, b, ha, hb => by
    have h1 : dnK T 1 (x :: r) = x :: dnS T r := rfl
    rw [h1] at ha hb ⊢
    have hbx : x = b := by simpa using hb
    subst hbx
    have ha' : (dnS T r)[0]? = some a := by simpa using ha
    cases hd : dnS T r with
    | nil => rw [hd] at ha'; cases ha'
    | cons y s =>
      rw [hd] at ha'
      cases ha'
      show dnC T x (dnS T r) = _
      rw [hd]
      rfl
  | j + 1, [], _, _, h, _ => by simp [dnK] at h
  | j + 1, x :: r, a, b, ha, hb => by
    have h1 : dnK T (j + 1 + 1) (x :: r) = x :: dnK T (j + 1) r := rfl
    rw [h1] at ha hb ⊢
    show x :: dnK T j r = _
    rw [List.set_cons_succ, ← dnK_next T j r a b (by simpa using ha) (by simpa using hb)]
theorem dnS_pb {T : Tm} {M : Int} (hM : 0 ≤ M) : ∀ (l : List Lev) (n : Nat), l.length ≤ n + 1 → Lks T l → (∀ x ∈ l, Pb M x) → ∀ x ∈ dnS T l, Pb (M * 2 ^ n) x
  | [], _, _, _, _, x, hx => by simp [dnS] at hx
  | [a], n, _, _, h, x, hx => by
    have e : x = a := by simpa [dnS, dnC] using hx
    subst e
    have := h x (by simp)
    have p : (1 : Int) ≤ 2 ^ n := by
      have := Nat.one_le_two_pow (n := n)
      exact_mod_cast this
    have q : M * 1 ≤ M * 2 ^ n := Int.mul_le_mul_of_nonneg_left p hM
    have h1 := this.1; have h2 := this.2
    unfold Pb; omega
  | a :: b :: r, 0, h, _, _, _, _ => by simp at h
  | a :: b :: r, n + 1, hl, hk, h, x, hx => by
    have ih := dnS_pb hM (b :: r) n (by simpa using hl) hk.2 fun y hy => h y (by simp [List.mem_cons.1 hy])
    have p : (1 : Int) ≤ 2 ^ n := by
      have := Nat.one_le_two_pow (n := n)
      exact_mod_cast this
    have q : M * 1 ≤ M * 2 ^ n := Int.mul_le_mul_of_nonneg_left p hM
    have e2 : M * 2 ^ (n + 1) = 2 * (M * 2 ^ n) := by rw [Int.pow_succ]; grind
    rw [e2]
    cases hd : dnS T (b :: r) with
    | nil =>
      have := (dnS_le (T := T) (b :: r)).len
      rw [hd] at this; simp at this
    | cons y s =>
      rw [hd] at ih
      have hx' : x = mt a (cyd T a y) ∨ x ∈ y :: s := by
        have : x ∈ dnC T a (dnS T (b :: r)) := hx
        rw [hd] at this
        exact List.mem_cons.1 this
      rcases hx' with rfl | hx'
      · have hle := dnS_le (T := T) (b :: r)
        rw [hd] at hle
        refine Pb.dn (LkP.sam ⟨rfl, rfl, rfl⟩ hle.1.s hk.1) (h a (by simp)) (ih y (by simp)) (by omega)
      · have := ih x hx'
        have h1 := this.1; have h2 := this.2
        unfold Pb; omega
theorem dnK_pb {T : Tm} {M : Int} (hM : 0 ≤ M) {n : Nat} : ∀ (i : Nat) (l : List Lev), l.length ≤ n + 1 → Lks T l → (∀ x ∈ l, Pb M x) → ∀ x ∈ dnK T i l, Pb (M * 2 ^ n) x
  | 0, l, hl, hk, h, x, hx => dnS_pb hM l n hl hk h x hx
  | i + 1, [], _, _, _, x, hx => by simp [dnK] at hx
  | i + 1, a :: r, hl, hk, h, x, hx => by
    have p : (1 : Int) ≤ 2 ^ n := by
      have := Nat.one_le_two_pow (n := n)
      exact_mod_cast this
    have q : M * 1 ≤ M * 2 ^ n := Int.mul_le_mul_of_nonneg_left p hM
    have hx' : x = a ∨ x ∈ dnK T i r := by simpa [dnK] using hx
    have hk2 : Lks T r := by cases r with | nil => trivial | cons b s => exact hk.2
    rcases hx' with rfl | hx'
    · have := h x (by simp)
      have h1 := this.1; have h2 := this.2
      unfold Pb; omega
    · exact dnK_pb hM i r (by simp at hl; omega) hk2 (fun y hy => h y (by simp [hy])) x hx'
end Go.Proofs.Tryz
namespace Go.Proofs.Tryz
open Go.Psl
open Go.Air
theorem lel_get : ∀ {l m : List Lev}, LeL l m → ∀ (i : Nat) (y : Lev), m[i]? = some y → ∃ x, l[i]? = some x ∧ Le x y
  | [], [], _, i, y, h => by simp at h
  | [], _ :: _, h, _, _, _ => h.elim
  | _ :: _, [], h, _, _, _ => h.elim
  | a :: l, b :: m, h, 0, y, hy => by simp at hy; subst hy; exact ⟨a, rfl, h.1⟩
  | a :: l, b :: m, h, i + 1, y, hy => by
    obtain ⟨x, hx, hl⟩ := lel_get h.2 i y (by simpa using hy)
    exact ⟨x, by simpa using hx, hl⟩
theorem OkS.mono {l : List Lev} (h : OkS l) : ∀ (d i : Nat) (x y : Lev), l[i]? = some x → l[i + d]? = some y → x.h ≤ y.h
  | 0, i, x, y, hx, hy => by
    rw [Nat.add_zero, hx] at hy; cases hy; omega
  | d + 1, i, x, y, hx, hy => by
    obtain ⟨z, hz⟩ : ∃ z, l[i + d]? = some z := ⟨_, List.getElem?_eq_getElem (by have := (List.getElem?_eq_some_iff.1 hy).1; omega)⟩
    have h1 := h.mono d i x z hx hz
    have h2 := h.step (i + d) z y hz hy
    omega
theorem OkS.inS {l : List Lev} (h : OkS l) {i : Nat} {x : Lev} (hx : l[i]? = some x) : inSp l x.h := by
  have hi := (List.getElem?_eq_some_iff.1 hx).1
  refine ⟨fun k hk => h.mono i 0 k x hk (by rw [Nat.zero_add]; exact hx), fun k hk => h.mono (l.length - 1 - i) i x k hx (by rw [show i + (l.length - 1 - i) = l.length - 1 by omega]; exact hk)⟩
theorem lks_of {T : Tm} : ∀ {l : List Lev}, (∀ (i : Nat) (x y : Lev), l[i]? = some x → l[i + 1]? = some y → LkP T x y) → Lks T l
  | [], _ => trivial
  | [_], _ => trivial
  | a :: b :: r, h => ⟨h 0 a b rfl rfl, lks_of fun i x y hx hy => h (i + 1) x y (by simpa using hx) (by simpa using hy)⟩
theorem OkS.lks {l : List Lev} (h : OkS l) : Lks (tmS (knT l)) l := by
  refine lks_of fun i x y hx hy => ?_
  have ht := (tm_bd h (h.inS hx) (h.inS hy)).p
  have hs := h.step i x y hx hy
  unfold LkP lc lw ls
  exact ⟨by omega, by omega, by omega⟩
theorem OkS.pos {l : List Lev} (h : OkS l) : ∀ x ∈ l, Pos x := fun x hx => by
  have := (h.lev x hx).1
  unfold Pos; omega
theorem OkS.pb {l : List Lev} (h : OkS l) : ∀ x ∈ l, Pb 12000 x := fun x hx => by
  have := (h.lev x hx).1
  unfold Pb; omega
theorem Pb.pr {x : Lev} {M : Int} (h : Pb M x) (hM : M ≤ 400000000) : PrB x := by
  have h1 := h.1; have h2 := h.2
  exact ⟨by omega, by omega⟩
theorem stU_of {l : List Lev} (h : OkS l) {S : Nat → List Lev} (hle : ∀ i, LeL l (S i)) (hpb : ∀ i, ∀ x ∈ S i, Pb 393216000 x) (hnx : ∀ i a b, (S i)[i]? = some a → (S i)[i + 1]? = some b → S (i + 1) = (S i).set (i + 1) (mt b (cyu (tmS (knT l)) a b))) : StU (knT l) l.length S := by
  intro i hi
  have hlen := (hle i).len
  obtain ⟨a, ha⟩ : ∃ a, (S i)[i]? = some a := ⟨_, List.getElem?_eq_getElem (by omega)⟩
  obtain ⟨b, hb⟩ : ∃ b, (S i)[i + 1]? = some b := ⟨_, List.getElem?_eq_getElem (by omega)⟩
  obtain ⟨x, hx, lx⟩ := lel_get (hle i) i a ha
  obtain ⟨y, hy, ly⟩ := lel_get (hle i) (i + 1) b hb
  have hs := h.step i x y hx hy
  have hr := h.at' x (List.mem_of_getElem? hx)
  have ht := tm_bd h (h.inS hx) (h.inS hy)
  have e1 := lx.s.1; have e2 := ly.s.1
  rw [e1, e2] at ht
  exact ⟨a, b, ha, hb, by omega, by omega, (hpb i a (List.mem_of_getElem? ha)).pr (by omega), ht, hnx i a b ha hb⟩
theorem stD_of {l : List Lev} (h : OkS l) {S : Nat → List Lev} (hle : ∀ i, LeL l (S i)) (hpb : ∀ i, ∀ x ∈ S i, Pb 393216000 x) (hnx : ∀ i a b, (S (i + 1))[i + 1]? = some a → (S (i + 1))[i]? = some b → S i = (S (i + 1)).set i (mt b (cyd (tmS (knT l)) b a))) : StD (knT l) l.length S := by
  intro i hi
  have hlen := (hle (i + 1)).len
  obtain ⟨a, ha⟩ : ∃ a, (S (i + 1))[i + 1]? = some a := ⟨_, List.getElem?_eq_getElem (by omega)⟩
  obtain ⟨b, hb⟩ : ∃ b, (S (i + 1))[i]? = some b := ⟨_, List.getElem?_eq_getElem (by omega)⟩
  obtain ⟨x, hx, lx⟩ := lel_get (hle (i + 1)) (i + 1) a ha
  obtain ⟨y, hy, ly⟩ := lel_get (hle (i + 1)) i b hb
  have hs := h.step i y x hy hx
  have hr := h.at' x (List.mem_of_getElem? hx)
  have ht := tm_bd h (h.inS hx) (h.inS hy)
  have e1 := lx.s.1; have e2 := ly.s.1
  rw [e1, e2] at ht
  exact ⟨a, b, ha, hb, by omega, by omega, (hpb (i + 1) a (List.mem_of_getElem? ha)).pr (by omega), ht, hnx i a b ha hb⟩
theorem clo_at {T : Tm} : ∀ {l : List Lev}, Clo T l → ∀ (i : Nat) (a b : Lev), l[i]? = some a → l[i + 1]? = some b → mt b (cyu T a b) = b ∧ mt a (cyd T a b) = a
  | [], _, _, _, _, h, _ => by simp at h
  | [_], _, _, _, _, _, h => by simp at h
  | x :: y :: r, h, 0, a, b, ha, hb => by
    simp at ha hb; subst ha hb
    exact ⟨mt_self h.1.1, mt_self h.1.2⟩
  | x :: y :: r, h, i + 1, a, b, ha, hb => clo_at h.2 i a b (by simpa using ha) (by simpa using hb)
theorem set_same {α : Type} {l : List α} {i : Nat} {x : α} (h : l[i]? = some x) : l.set i x = l := by
  obtain ⟨hi, rfl⟩ := List.getElem?_eq_some_iff.1 h
  exact List.set_getElem_self hi
abbrev swp (l : List Lev) : List Lev := sweep (tmS (knT l)) l
theorem upSw_len {T : Tm} {l : List Lev} : (upSw T l).length = l.length := (upSw_le l).len.symm
theorem swp_len {l : List Lev} : (swp l).length = l.length := (sweep_le l).len.symm
section
variable {l : List Lev} (h : OkS l)
include h
theorem round_up : StU (knT l) l.length (fun i => upK (tmS (knT l)) i l) :=
  stU_of h (fun i => upK_le _ i l) (fun i x hx => by
    have := upK_pb i l h.lks h.pb x hx
    have h1 := this.1; have h2 := this.2
    unfold Pb; omega) fun i a b ha hb => upK_next _ i l a b ha hb
theorem up_pb : ∀ x ∈ upSw (tmS (knT l)) l, Pb 12000 x := fun x hx => by
  rw [← upK_all _ l.length l (by omega)] at hx
  exact upK_pb _ l h.lks h.pb x hx
theorem round_dn : StD (knT l) l.length (fun i => dnK (tmS (knT l)) i (upSw (tmS (knT l)) l)) :=
  stD_of h (fun i => LeL.trans (upSw_le l) (dnK_le _ i _)) (fun i x hx => by
    have := dnK_pb (n := 15) (M := 12000) (by omega) i _ (by rw [upSw_len]; have := h.len; omega) (Lks.le (upSw_le l) h.lks) (up_pb h) x hx
    simpa using this) fun i a b ha hb => dnK_next _ i _ a b ha hb
theorem swp_clo : Clo (tmS (knT l)) (swp l) := (sweep_closed h.lks h.pos).1
theorem swp_pb : ∀ x ∈ swp l, Pb 393216000 x := fun x hx => by
  have := dnK_pb (n := 15) (M := 12000) (by omega) 0 _ (by rw [upSw_len]; have := h.len; omega) (Lks.le (upSw_le l) h.lks) (up_pb h) x hx
  simpa using this
theorem again_up : StU (knT l) l.length (fun _ => swp l) :=
  stU_of h (fun _ => sweep_le l) (fun _ => swp_pb h) fun i a b ha hb => by
    rw [(clo_at (swp_clo h) i a b ha hb).1, set_same hb]
theorem again_dn : StD (knT l) l.length (fun _ => swp l) :=
  stD_of h (fun _ => sweep_le l) (fun _ => swp_pb h) fun i a b ha hb => by
    rw [(clo_at (swp_clo h) i b a hb ha).2, set_same hb]
end
end Go.Proofs.Tryz
namespace Go.Proofs.Tryz
open Go.Psl
open Go.Air
theorem fn161 (x : Lev) : Ct prog 161 [levV x] (vb (decide (x.ph < x.pl))) [] := by
  refine Ct.by gok eok mixed func161 c161 rfl (by simp [ntmps161]) (by simp) (by simp [ResIds]) fun E hE => ?_
  simp [p161]
  refine RetOk.by (fun _ => none) ?_
  simp [results161]
def setS (l : List Lev) : List Lev × Int × Int :=
  if okSnd l then (if 0 ≤ ixF (fun x : Lev => decide (x.ph < x.pl)) (swp l) then ([], ixF (fun x : Lev => decide (x.ph < x.pl)) (swp l), 21) else (swp l, 0, 0)) else ([], 0, 20)
abbrev setV (r : List Lev × Int × Int) : V := .tup [.d (levsD r.1), vi r.2.1, vi r.2.2]
theorem settle_bad (l : List Lev) (hl : l.length ≤ 1000000) (h : okSnd l = false) : Ct prog 88 [.d (levsD l)] (.tup [.d (.lit (.slice none 0 0)), vi 0, vi 20]) [] := by
  have c1 := fn119 l hl
  rw [h] at c1
  refine Ct.by gok eok mixed func88 c88 rfl (by simp [ntmps88]) (by simp) (by simp [ResIds]) fun E hE => ?_
  simp [p88]
  refine ACall.mk _ _ _ (c1) (by first | (simp; done) | simp [Bor_ls, Bor1_ls]) (by simp) (by first | (left; simp; done) | (right; simp; done)) ?_
  simp
  refine RetOk.by (fun _ => none) ?_
  simp [results88]
theorem bw_nil {ws : List Lev} (h : ws = []) : ∀ H : Hp, Bor H (.d (.lit (.slice none 0 0))) (.d (levsD ws)) := fun H => by
  subst h; exact Or.inr ⟨rfl, 5, rfl⟩
theorem bw_blk {ws : List Lev} {n : Nat} {b : Nat} (h : ws.length = n) : ∀ H : Hp, H b = some (fcel levL ws) → Bor H (.ls b 0 n 5) (.d (levsD ws)) := fun H hh => by
  subst h; exact bor_fcel (f := levL) hfl (l := ws) hh
set_option maxRecDepth 20000 in
set_option maxHeartbeats 4000000 in
theorem settle_first (l : List Lev) (h : OkS l) (m : List Lev) (SU SD : Nat → List Lev) (hlm : m.length = l.length) (hU : StU (knT l) l.length SU) (hD : StD (knT l) l.length SD) (lU : ∀ i, (SU i).length = l.length) (lD : ∀ i, (SD i).length = l.length) (e0 : SU 0 = m) (e1 : SU (l.length - 1) = SD (l.length - 1)) (e2 : SD 0 = swp l) (ws : List Lev) (hws : ws = []) (hd : decide (ws = m) = false) (k : Nat) (hk : k < 2) {E : Ent} (hE : ∀ i, ¬ E.stab i) (C : Nat → St) (hC : C (k + 1) = ⟨slots [(6, .lp 0 0), (8, .cl 156 [.lp 0 0, .lp 2 0]), (9, .ls 3 0 l.length 5)], lk [(0, [.ls 1 0 l.length 5]), (2, [.d (thD (knT l))]), (1, fcel levL (swp l)), (3, fcel levL m)], 4⟩) {Q : AExit → St → Prop} : PW prog tys eqs E p88l2
    (seqQ (fun st' => ∃ j, j ≤ 2 ∧ 2 - j < 2 - k ∧ Weak prog E st' (C j)) Q)
    ⟨slots [(6, .lp 0 0), (8, .cl 156 [.lp 0 0, .lp 2 0]), (9, .d (.lit (.slice none 0 0)))], lk [(0, [.ls 1 0 l.length 5]), (2, [.d (thD (knT l))]), (1, fcel levL m)], 3⟩ := by
  have bw := bw_nil hws
  have hlen := h.len
  have c1 := fn159 ws m (by first | (rw [hws]; simp; done) | omega) (by omega)
  rw [hd] at c1
  have hm0 : m ≠ [] := by intro e; rw [e] at hlm; simp at hlm; omega
  have c2 := fn155 m (by omega) hm0
  rw [hlm] at c2
  have bm : ∀ H : Hp, H 1 = some (fcel levL m) → Bor H (.ls 1 0 l.length 5) (.d (levsD m)) := fun H hh => by
    have := bor_fcel (f := levL) hfl (l := m) hh
    rw [hlm] at this; exact this
  have hn1 : IntKind.wrap .i64 ((l.length : Int) - 1) = (l.length : Int) - 1 := wrap64 (by omega) (by omega)
  simp [p88l2]
  refine ACall.mk _ _ _ (c1) (by simp [bw, bm]) (by simp) (by first | (left; simp; done) | (right; simp; done)) ?_
  simp
  refine ACall.mk _ _ _ (c2) (by simp [bm]) (by simp) (by first | (left; simp; done) | (right; simp; done) | (right; simp; exact of_eq_true acl_lev)) ?_
  simp [hn1]
  refine pw_loopC (α := Nat) 2 (fun _ : Unit => ⟨slots [(6, .lp 0 0), (8, .cl 156 [.lp 0 0, .lp 2 0]), (9, .ls 3 0 l.length 5)], lk [(0, [.ls 1 0 l.length 5]), (2, [.d (thD (knT l))]), (3, fcel levL m), (1, fcel levL (SU (l.length - 1)))], 4⟩) (fun _ => True) (fun j => ⟨slots [(6, .lp 0 0), (8, .cl 156 [.lp 0 0, .lp 2 0]), (9, .ls 3 0 l.length 5), (31, vi ((l.length : Int) - 1)), (32, vi j)], lk [(0, [.ls 1 0 l.length 5]), (2, [.d (thD (knT l))]), (3, fcel levL m), (1, fcel levL (SU j))], 4⟩) (fun j => j ≤ l.length - 1) (fun j => l.length - 1 - j) 0 ?_ ?_ (settle_up (knT l) m l.length SU (by rw [knT_len]; omega) (by omega) lU hU hE) fun _ _ => ?_
  · omega
  · rw [e0]
    refine Weak.mk hE (lk [(0, 0), (1, 1), (2, 2), (3, 5242883)]) _ _ _ ?_ ?_ ?_ ?_ ?_ <;> simp
  · simp [hn1]
    refine pw_loopC (α := Nat) 4 (fun _ : Unit => ⟨slots [(6, .lp 0 0), (8, .cl 156 [.lp 0 0, .lp 2 0]), (9, .ls 3 0 l.length 5)], lk [(0, [.ls 1 0 l.length 5]), (2, [.d (thD (knT l))]), (3, fcel levL m), (1, fcel levL (SD 0))], 4⟩) (fun _ => True) (fun j => ⟨slots [(6, .lp 0 0), (8, .cl 156 [.lp 0 0, .lp 2 0]), (9, .ls 3 0 l.length 5), (11, vi j)], lk [(0, [.ls 1 0 l.length 5]), (2, [.d (thD (knT l))]), (3, fcel levL m), (1, fcel levL (SD j))], 4⟩) (fun j => j ≤ l.length - 1) (fun j => j) (l.length - 1) ?_ ?_ (settle_dn (knT l) m l.length SD (by rw [knT_len]; omega) (by omega) lD hD hE) fun _ _ => ?_
    · omega
    · rw [← e1]
      have hc : ((l.length - 1 : Nat) : Int) = (l.length : Int) - 1 := by omega
      rw [hc]
      refine Weak.mk hE (lk [(0, 0), (1, 1), (2, 2), (3, 3)]) _ _ _ ?_ ?_ ?_ ?_ ?_ <;> simp
    · rw [e2]
      simp
      refine ⟨k + 1, by omega, by omega, ?_⟩
      rw [hC]
      refine Weak.mk hE (lk [(0, 0), (1, 1), (2, 2), (3, 3)]) _ _ _ ?_ ?_ ?_ ?_ ?_ <;> simp
set_option maxRecDepth 20000 in
set_option maxHeartbeats 4000000 in
theorem settle_more (l : List Lev) (h : OkS l) (m : List Lev) (SU SD : Nat → List Lev) (hlm : m.length = l.length) (hU : StU (knT l) l.length SU) (hD : StD (knT l) l.length SD) (lU : ∀ i, (SU i).length = l.length) (lD : ∀ i, (SD i).length = l.length) (e0 : SU 0 = m) (e1 : SU (l.length - 1) = SD (l.length - 1)) (e2 : SD 0 = swp l) (ws : List Lev) (hws : ws.length = l.length) (hd : decide (ws = m) = false) (k : Nat) (hk : k < 2) {E : Ent} (hE : ∀ i, ¬ E.stab i) (C : Nat → St) (hC : C (k + 1) = ⟨slots [(6, .lp 0 0), (8, .cl 156 [.lp 0 0, .lp 2 0]), (9, .ls 3 0 l.length 5)], lk [(0, [.ls 1 0 l.length 5]), (2, [.d (thD (knT l))]), (1, fcel levL (swp l)), (3, fcel levL m)], 4⟩) {Q : AExit → St → Prop} : PW prog tys eqs E p88l2
    (seqQ (fun st' => ∃ j, j ≤ 2 ∧ 2 - j < 2 - k ∧ Weak prog E st' (C j)) Q)
    ⟨slots [(6, .lp 0 0), (8, .cl 156 [.lp 0 0, .lp 2 0]), (9, .ls 3 0 l.length 5)], lk [(0, [.ls 1 0 l.length 5]), (2, [.d (thD (knT l))]), (1, fcel levL m), (3, fcel levL ws)], 4⟩ := by
  have bw := bw_blk (b := 3) hws
  have hlen := h.len
  have c1 := fn159 ws m (by first | (rw [hws]; simp; done) | omega) (by omega)
  rw [hd] at c1
  have hm0 : m ≠ [] := by intro e; rw [e] at hlm; simp at hlm; omega
  have c2 := fn155 m (by omega) hm0
  rw [hlm] at c2
  have bm : ∀ H : Hp, H 1 = some (fcel levL m) → Bor H (.ls 1 0 l.length 5) (.d (levsD m)) := fun H hh => by
    have := bor_fcel (f := levL) hfl (l := m) hh
    rw [hlm] at this; exact this
  have hn1 : IntKind.wrap .i64 ((l.length : Int) - 1) = (l.length : Int) - 1 := wrap64 (by omega) (by omega)
  simp [p88l2]
  refine ACall.mk _ _ _ (c1) (by simp [bw, bm]) (by simp) (by first | (left; simp; done) | (right; simp; done)) ?_
  simp
  refine ACall.mk _ _ _ (c2) (by simp [bm]) (by simp) (by first | (left; simp; done) | (right; simp; done) | (right; simp; exact of_eq_true acl_lev)) ?_
  simp [hn1]
  refine pw_loopC (α := Nat) 2 (fun _ : Unit => ⟨slots [(6, .lp 0 0), (8, .cl 156 [.lp 0 0, .lp 2 0]), (9, .ls 3 0 l.length 5)], lk [(0, [.ls 1 0 l.length 5]), (2, [.d (thD (knT l))]), (3, fcel levL m), (1, fcel levL (SU (l.length - 1)))], 4⟩) (fun _ => True) (fun j => ⟨slots [(6, .lp 0 0), (8, .cl 156 [.lp 0 0, .lp 2 0]), (9, .ls 3 0 l.length 5), (31, vi ((l.length : Int) - 1)), (32, vi j)], lk [(0, [.ls 1 0 l.length 5]), (2, [.d (thD (knT l))]), (3, fcel levL m), (1, fcel levL (SU j))], 4⟩) (fun j => j ≤ l.length - 1) (fun j => l.length - 1 - j) 0 ?_ ?_ (settle_up (knT l) m l.length SU (by rw [knT_len]; omega) (by omega) lU hU hE) fun _ _ => ?_
  · omega
  · rw [e0]
    refine Weak.mk hE (lk [(0, 0), (1, 1), (2, 2), (3, 5242884)]) _ _ _ ?_ ?_ ?_ ?_ ?_ <;> simp
  · simp [hn1]
    refine pw_loopC (α := Nat) 4 (fun _ : Unit => ⟨slots [(6, .lp 0 0), (8, .cl 156 [.lp 0 0, .lp 2 0]), (9, .ls 3 0 l.length 5)], lk [(0, [.ls 1 0 l.length 5]), (2, [.d (thD (knT l))]), (3, fcel levL m), (1, fcel levL (SD 0))], 4⟩) (fun _ => True) (fun j => ⟨slots [(6, .lp 0 0), (8, .cl 156 [.lp 0 0, .lp 2 0]), (9, .ls 3 0 l.length 5), (11, vi j)], lk [(0, [.ls 1 0 l.length 5]), (2, [.d (thD (knT l))]), (3, fcel levL m), (1, fcel levL (SD j))], 4⟩) (fun j => j ≤ l.length - 1) (fun j => j) (l.length - 1) ?_ ?_ (settle_dn (knT l) m l.length SD (by rw [knT_len]; omega) (by omega) lD hD hE) fun _ _ => ?_
    · omega
    · rw [← e1]
      have hc : ((l.length - 1 : Nat) : Int) = (l.length : Int) - 1 := by omega
      rw [hc]
      refine Weak.mk hE (lk [(0, 0), (1, 1), (2, 2), (3, 3)]) _ _ _ ?_ ?_ ?_ ?_ ?_ <;> simp
    · rw [e2]
      simp
      refine ⟨k + 1, by omega, by omega, ?_⟩
      rw [hC]
      refine Weak.mk hE (lk [(0, 0), (1, 1), (2, 2), (3, 3)]) _ _ _ ?_ ?_ ?_ ?_ ?_ <;> simp
end Go.Proofs.Tryz
namespace Go.Proofs.Tryz
open Go.Psl
open Go.Air
abbrev unf (x : Lev) : Bool := decide (x.ph < x.pl)
def rndC (l : List Lev) : Nat → St
  | 0 => ⟨slots [(6, .lp 0 0), (8, .cl 156 [.lp 0 0, .lp 2 0]), (9, .d (.lit (.slice none 0 0)))], lk [(0, [.ls 1 0 l.length 5]), (2, [.d (thD (knT l))]), (1, fcel levL l)], 3⟩
  | 1 => ⟨slots [(6, .lp 0 0), (8, .cl 156 [.lp 0 0, .lp 2 0]), (9, .ls 3 0 l.length 5)], lk [(0, [.ls 1 0 l.length 5]), (2, [.d (thD (knT l))]), (1, fcel levL (swp l)), (3, fcel levL l)], 4⟩
  | _ => ⟨slots [(6, .lp 0 0), (8, .cl 156 [.lp 0 0, .lp 2 0]), (9, .ls 3 0 l.length 5)], lk [(0, [.ls 1 0 l.length 5]), (2, [.d (thD (knT l))]), (1, fcel levL (swp l)), (3, fcel levL (swp l))], 4⟩
set_option maxRecDepth 20000 in
set_option maxHeartbeats 4000000 in
theorem settle_end (l : List Lev) (h : OkS l) (ws : List Lev) (hws : ws = swp l) (_ : Nat) {E : Ent} (hE : ∀ i, ¬ E.stab i) {Q : AExit → St → Prop} {S : St → Prop} : PW prog tys eqs E p88l2
    (seqQ S (exC prog E Q 0 (fun _ : Unit => ⟨slots [(6, .lp 0 0), (8, .cl 156 [.lp 0 0, .lp 2 0])], lk [(0, [.ls 1 0 l.length 5]), (2, [.d (thD (knT l))]), (1, fcel levL (swp l))], 3⟩) (fun _ => True)))
    ⟨slots [(6, .lp 0 0), (8, .cl 156 [.lp 0 0, .lp 2 0]), (9, .ls 3 0 l.length 5)], lk [(0, [.ls 1 0 l.length 5]), (2, [.d (thD (knT l))]), (1, fcel levL (swp l)), (3, fcel levL ws)], 4⟩ := by
  have hlen := h.len
  subst hws
  have hl2 := swp_len (l := l)
  have c1 := fn159 (swp l) (swp l) (by omega) (by omega)
  have bw := bw_blk (b := 3) hl2
  have bm := bw_blk (b := 1) hl2
  simp only [decide_true] at c1
  simp [p88l2]
  refine ACall.mk _ _ _ (c1) (by simp [bw, bm]) (by simp) (by first | (left; simp; done) | (right; simp; done)) ?_
  simp
  refine Weak.mk hE (lk [(0, 0), (1, 1), (2, 2)]) _ _ _ ?_ ?_ ?_ ?_ ?_ <;> simp
set_option maxRecDepth 20000 in
set_option maxHeartbeats 4000000 in
theorem settle_unfit (l : List Lev) (h : OkS l) (hq : 0 ≤ ixF unf (swp l)) : Ct prog 88 [.d (levsD l)] (.tup [.d (.lit (.slice none 0 0)), vi (ixF unf (swp l)), vi 21]) [] := by
  have hlen := h.len
  have h0 : l ≠ [] := by intro e; rw [e] at hlen; simp at hlen
  have hl2 := swp_len (l := l)
  have c1 := fn119 l (by omega)
  rw [okSnd_iff.2 h] at c1
  have c2 := fn155 l (by omega) h0
  have c3 := fn122 l (by omega) h0
  have c4 := fn160 (swp l) 161 [] unf (by omega) fun x _ => fn161 x
  have bm := bw_blk (b := 1) hl2
  refine Ct.by gok eok mixed func88 c88 rfl (by simp [ntmps88]) (by simp) (by simp [ResIds]) fun E hE => ?_
  simp [p88]
  refine ACall.mk _ _ _ (c1) (by first | (simp; done) | simp [Bor_ls, Bor1_ls]) (by simp) (by first | (left; simp; done) | (right; simp; done)) ?_
  simp
  refine ACall.mk _ _ _ (c2) (by first | (simp; done) | simp [Bor_ls, Bor1_ls]) (by simp) (by first | (left; simp; done) | (right; simp; done)) ?_
  simp
  refine ACall.mk _ _ _ (c3) (by first | (simp; done) | simp [Bor_ls, Bor1_ls]) (by simp) (by first | (left; simp; done) | (right; simp; done)) ?_
  simp [splice]
  refine pw_loopC (α := Nat) 0 (fun _ : Unit => ⟨slots [(6, .lp 0 0), (8, .cl 156 [.lp 0 0, .lp 2 0])], lk [(0, [.ls 1 0 l.length 5]), (2, [.d (thD (knT l))]), (1, fcel levL (swp l))], 3⟩) (fun _ => True) (rndC l) (fun k => k ≤ 2) (fun k => 2 - k) 0 ?_ ?_ ?_ fun _ _ => ?_
  · omega
  · unfold rndC
    refine Weak.mk hE (lk [(0, 12582912), (1, 9437184), (2, 13631488)]) _ _ _ ?_ ?_ ?_ ?_ ?_ <;> simp
  · intro k hk
    match k, hk with
    | 0, _ =>
      exact settle_first l h l _ _ rfl (round_up h) (round_dn h) (fun i => (upK_le _ i l).len.symm) (fun i => by rw [← (dnK_le _ i _).len, upSw_len]) rfl (by
        show upK _ _ l = dnK _ _ _
        rw [upK_all _ _ _ (by omega), dnK_last _ _ _ (by rw [upSw_len]; omega)]) rfl [] rfl (by simpa using h0) 0 (by omega) hE (rndC l) rfl
    | 1, _ =>
      by_cases he : l = swp l
      · exact settle_end l h l he 1 hE
      · exact settle_more l h (swp l) _ _ hl2 (again_up h) (again_dn h) (fun _ => hl2) (fun _ => hl2) rfl rfl rfl l rfl (by simpa using he) 1 (by omega) hE (rndC l) rfl
    | 2, _ => exact settle_end l h (swp l) rfl 2 hE
    | k + 3, hk => omega
  · simp
    refine ACall.mk _ _ _ (c4) (by simp [bm]) (by simp) (by first | (left; simp; done) | (right; simp; done)) ?_
    simp [hq]
    refine RetOk.by (fun _ => none) ?_
    simp [results88]
set_option maxRecDepth 20000 in
set_option maxHeartbeats 4000000 in
theorem settle_fit (l : List Lev) (h : OkS l) (hq : ¬ 0 ≤ ixF unf (swp l)) : Ct prog 88 [.d (levsD l)] (.tup [.ls 0 0 l.length 5, vi 0, vi 0]) [(0, fcel levL (swp l))] := by
  have hlen := h.len
  have h0 : l ≠ [] := by intro e; rw [e] at hlen; simp at hlen
  have hl2 := swp_len (l := l)
  have c1 := fn119 l (by omega)
  rw [okSnd_iff.2 h] at c1
  have c2 := fn155 l (by omega) h0
  have c3 := fn122 l (by omega) h0
  have c4 := fn160 (swp l) 161 [] unf (by omega) fun x _ => fn161 x
  have bm := bw_blk (b := 1) hl2
  refine Ct.by gok eok mixed func88 c88 rfl (by simp [ntmps88]) (by simp) (by simp [ResIds]) fun E hE => ?_
  simp [p88]
  refine ACall.mk _ _ _ (c1) (by first | (simp; done) | simp [Bor_ls, Bor1_ls]) (by simp) (by first | (left; simp; done) | (right; simp; done)) ?_
  simp
  refine ACall.mk _ _ _ (c2) (by first | (simp; done) | simp [Bor_ls, Bor1_ls]) (by simp) (by first | (left; simp; done) | (right; simp; done)) ?_
  simp
  refine ACall.mk _ _ _ (c3) (by first | (simp; done) | simp [Bor_ls, Bor1_ls]) (by simp) (by first | (left; simp; done) | (right; simp; done)) ?_
  simp [splice]
  refine pw_loopC (α := Nat) 0 (fun _ : Unit => ⟨slots [(6, .lp 0 0), (8, .cl 156 [.lp 0 0, .lp 2 0])], lk [(0, [.ls 1 0 l.length 5]), (2, [.d (thD (knT l))]), (1, fcel levL (swp l))], 3⟩) (fun _ => True) (rndC l) (fun k => k ≤ 2) (fun k => 2 - k) 0 ?_ ?_ ?_ fun _ _ => ?_
  · omega
  · unfold rndC
    refine Weak.mk hE (lk [(0, 12582912), (1, 9437184), (2, 13631488)]) _ _ _ ?_ ?_ ?_ ?_ ?_ <;> simp
  · intro k hk
    match k, hk with
    | 0, _ =>
      exact settle_first l h l _ _ rfl (round_up h) (round_dn h) (fun i => (upK_le _ i l).len.symm) (fun i => by rw [← (dnK_le _ i _).len, upSw_len]) rfl (by
        show upK _ _ l = dnK _ _ _
        rw [upK_all _ _ _ (by omega), dnK_last _ _ _ (by rw [upSw_len]; omega)]) rfl [] rfl (by simpa using h0) 0 (by omega) hE (rndC l) rfl
    | 1, _ =>
      by_cases he : l = swp l
      · exact settle_end l h l he 1 hE
      · exact settle_more l h (swp l) _ _ hl2 (again_up h) (again_dn h) (fun _ => hl2) (fun _ => hl2) rfl rfl rfl l rfl (by simpa using he) 1 (by omega) hE (rndC l) rfl
    | 2, _ => exact settle_end l h (swp l) rfl 2 hE
    | k + 3, hk => omega
  · simp
    refine ACall.mk _ _ _ (c4) (by simp [bm]) (by simp) (by first | (left; simp; done) | (right; simp; done)) ?_
    simp [hq]
    refine RetOk.by (lk [(0, 1)]) ?_
    simp [results88]
theorem fn88 (l : List Lev) (hl : l.length ≤ 1000000) : Ct prog 88 [.d (levsD l)] (setV (setS l)) [] := by
  cases h : okSnd l
  · refine Cm.freeze (settle_bad l hl h) ?_
    unfold setS
    rw [h]
    exact ⟨Or.inr ⟨rfl, 5, rfl⟩, Or.inl rfl, Or.inl rfl, trivial⟩
  · have ho := okSnd_iff.1 h
    by_cases hq : 0 ≤ ixF unf (swp l)
    · refine Cm.freeze (settle_unfit l ho hq) ?_
      unfold setS
      rw [h, if_pos rfl, if_pos hq]
      exact ⟨Or.inr ⟨rfl, 5, rfl⟩, Or.inl rfl, Or.inl rfl, trivial⟩
    · refine Cm.freeze (settle_fit l ho hq) ?_
      unfold setS
      rw [h, if_pos rfl, if_neg hq]
      refine ⟨?_, Or.inl rfl, Or.inl rfl, trivial⟩
      have := bw_blk (ws := swp l) (b := 0) (swp_len (l := l)) (lk [(0, fcel levL (swp l))]) (by simp)
      exact this
end Go.Proofs.Tryz
namespace Go.Proofs.Tryz
open Go.Psl
open Go.Air
theorem fn188 (x : Lev) (h : Int) (hw : IntKind.wrap .i64 (x.h - h) = x.h - h) : Ct prog 188 [levV x, vi h] (vi (x.h - h)) [] := by
  refine Ct.by gok eok mixed func188 c188 rfl (by simp [ntmps188]) (by simp) (by simp [ResIds]) fun E hE => ?_
  simp [p188, hw]
  refine RetOk.by (fun _ => none) ?_
  simp [results188]
def plcS (s : List Lev) (h : Int) : Nat := (s.takeWhile fun x => decide (x.h < h)).length
def hitS (s : List Lev) (h : Int) : Bool := match s[plcS s h]? with
  | some x => decide (x.h = h)
  | none => false
theorem plc_le (s : List Lev) (h : Int) : plcS s h ≤ s.length := by
  unfold plcS; exact (List.takeWhile_sublist _).length_le
theorem plc_in : ∀ (s : List Lev) (h : Int) (i : Nat) (x : Lev), s[i]? = some x → i < plcS s h → x.h < h
  | [], _, _, _, hx, _ => by simp at hx
  | a :: s, h, i, x, hx, hi => by
    unfold plcS at hi
    by_cases hc : a.h < h
    · cases i with
      | zero => simp at hx; subst hx; exact hc
      | succ i =>
        simp [hc] at hi hx
        exact plc_in s h i x hx (by unfold plcS; exact hi)
    · simp [hc] at hi
theorem plc_at : ∀ (s : List Lev) (h : Int) (x : Lev), s[plcS s h]? = some x → h ≤ x.h
  | [], _, _, hx => by simp at hx
  | a :: s, h, x, hx => by
    unfold plcS at hx
    by_cases hc : a.h < h
    · simp [hc] at hx
      exact plc_at s h x (by unfold plcS; exact hx)
    · simp [hc] at hx
      subst hx; omega
set_option maxRecDepth 20000 in
set_option maxHeartbeats 4000000 in
theorem fn187 (s : List Lev) (h : Int) (hl : s.length ≤ 1000000) (hb : ∀ x ∈ s, IntKind.wrap .i64 (x.h - h) = x.h - h) (hm : ∀ (i : Nat) (x : Lev), s[i]? = some x → plcS s h ≤ i → h ≤ x.h) : Ct prog 187 [.d (levsD s), vi h, .d (.fn 188 [])] (.tup [vi (plcS s h), vb (hitS s h)]) [] := by
  have hp := plc_le s h
  obtain ⟨r, hr⟩ : ∃ r, plcS s h = r := ⟨_, rfl⟩
  have hmf : ∀ (i : Nat) (x : Lev), s[i]? = some x → i < r → x.h < h := fun i x hx hi => plc_in s h i x hx (by omega)
  have hh : hitS s h = match s[r]? with | some x => decide (x.h = h) | none => false := by unfold hitS; rw [hr]
  rw [hr] at hp hm
  rw [hr, hh]
  refine Ct.by gok eok mixed func187 c187 rfl (by simp [ntmps187]) (by simp) (by simp [ResIds]) fun E hE => ?_
  simp [p187]
  refine pw_loop (α := Nat × Nat) (fun x => ⟨slots [(0, .d (levsD s)), (1, vi h), (2, .d (.fn 188 [])), (8, vi s.length), (9, vi x.1), (10, vi x.2)], lk [], 0⟩) (fun x => x.1 ≤ r ∧ r ≤ x.2 ∧ x.2 ≤ s.length) (fun x => x.2 - x.1) (0, s.length) ?_ ?_ ?_
  · simp; omega
  · refine Weak.mk hE (lk []) _ _ _ ?_ ?_ ?_ ?_ ?_ <;> simp
  · rintro ⟨lo, hi⟩ ⟨g1, g2, g3⟩
    simp only at g1 g2 g3
    simp [p187l0]
    by_cases hlt : lo < hi
    · have e1 : IntKind.wrap .i64 ((lo : Int) + hi) = (lo : Int) + hi := wrap64 (by omega) (by omega)
      obtain ⟨m, hm'⟩ : ∃ m : Nat, m = (lo + hi) / 2 := ⟨_, rfl⟩
      have e2 : IntKind.wrap .u64 ((lo : Int) + hi) = (lo : Int) + hi := wrapu64 (by omega) (by omega)
      have e3 : IntKind.wrap .i64 (((lo : Int) + hi) / 2) = (m : Int) := by rw [wrap64 (by omega) (by omega)]; omega
      have e4 : IntKind.wrap .i64 ((m : Int) + 1) = ((m + 1 : Nat) : Int) := by rw [wrap64 (by omega) (by omega)]; rfl
      simp only [Int.natCast_add, Int.cast_ofNat_Int] at e4
      obtain ⟨x, hx⟩ : ∃ x, s[m]? = some x := ⟨_, List.getElem?_eq_getElem (by omega)⟩
      have c := fn188 x h (hb x (List.mem_of_getElem? hx))
      have hml : (m : Int) < s.length := by omega
      simp [hlt, e1, e2, e3, hx]
      refine ACall.mk _ _ _ (c) (by first | (simp; done) | simp [Bor_ls, Bor1_ls]) (by simp) (by first | (left; simp; done) | (right; simp; done)) ?_
      by_cases hpm : x.h - h < 0
      · have : m < r := Nat.not_le.1 fun h => by have := hm m x hx h; omega
        simp [hpm, e4]
        refine ⟨m + 1, hi, ⟨by omega, by omega, by omega⟩, by omega, ?_⟩
        refine Weak.mk hE (lk []) _ _ _ ?_ ?_ ?_ ?_ ?_ <;> simp
      · have : r ≤ m := Nat.not_lt.1 fun h => by have := hmf m x hx h; omega
        simp [hpm]
        refine ⟨lo, m, ⟨by omega, by omega, by omega⟩, by omega, ?_⟩
        refine Weak.mk hE (lk []) _ _ _ ?_ ?_ ?_ ?_ ?_ <;> simp
    · have : lo = r := by omega
      subst this
      by_cases hlr : lo < s.length
      · obtain ⟨x, hx⟩ : ∃ x, s[lo]? = some x := ⟨_, List.getElem?_eq_getElem hlr⟩
        have c := fn188 x h (hb x (List.mem_of_getElem? hx))
        have hlr' : (lo : Int) < s.length := by omega
        have ez : decide (x.h - h = 0) = decide (x.h = h) := decide_eq_decide.2 (by omega)
        simp [hlt, hlr', hx]
        refine ACall.mk _ _ _ (c) (by first | (simp; done) | simp [Bor_ls, Bor1_ls]) (by simp) (by first | (left; simp; done) | (right; simp; done)) ?_
        simp [ez]
        refine RetOk.by (fun _ => none) ?_
        simp [results187]
      · have hn : ¬ (lo : Int) < s.length := by omega
        have hx : s[lo]? = none := List.getElem?_eq_none (by omega)
        simp [hlt, hn, hx]
        refine RetOk.by (fun _ => none) ?_
        simp [results187]
end Go.Proofs.Tryz
namespace Go.Proofs.Tryz
open Go.Psl
open Go.Air
theorem prs_hit {T : Tm} {x : Int} : ∀ (i : Nat) (s : List Lev) (y : Lev), s[i]? = some y → y.h = x → (∀ (j : Nat) (z : Lev), j < i → s[j]? = some z → z.h < x) → prs T s x = (y.pl, y.ph)
  | _, [], _, h, _, _ => by simp at h
  | 0, [c], y, h, _, _ => by simp at h; subst h; rfl
  | 0, c :: d :: r, y, h, e, _ => by
    simp at h; subst h
    unfold prs
    rw [if_pos (by omega)]
  | i + 1, [c], y, h, _, _ => by simp at h
  | i + 1, c :: d :: r, y, h, e, hj => by
    have h1 := hj 0 c (by omega) rfl
    have h2 : d.h ≤ x := by
      cases i with
      | zero => simp at h; subst h; omega
      | succ i => have := hj 1 d (by omega) rfl; omega
    unfold prs
    rw [if_neg (by omega), if_neg (by omega)]
    exact prs_hit i (d :: r) y (by simpa using h) e fun j z hji hz => hj (j + 1) z (by omega) (by simpa using hz)
theorem prs_gap {T : Tm} {x : Int} : ∀ (i : Nat) (s : List Lev) (a b : Lev), s[i]? = some a → s[i + 1]? = some b → x < b.h → (∀ (j : Nat) (z : Lev), j ≤ i → s[j]? = some z → z.h < x) → prs T s x = (max (upLo (lc T a b) (341632 * (x - a.h)) a.pl) b.pl, upHi (lw T a b) (341632 * (x - a.h)) a.ph)
  | _, [], _, _, h, _, _, _ => by simp at h
  | 0, [c], _, _, _, h, _, _ => by simp at h
  | 0, c :: d :: r, a, b, ha, hb, hx, hj => by
    simp at ha hb; subst ha hb
    have h1 := hj 0 c (by omega) rfl
    unfold prs
    rw [if_neg (by omega), if_pos hx]
  | i + 1, [c], _, _, h, _, _, _ => by simp at h
  | i + 1, c :: d :: r, a, b, ha, hb, hx, hj => by
    have h1 := hj 0 c (by omega) rfl
    have h2 := hj 1 d (by omega) rfl
    unfold prs
    rw [if_neg (by omega), if_neg (by omega)]
    exact prs_gap i (d :: r) a b (by simpa using ha) (by simpa using hb) hx fun j z hji hz => hj (j + 1) z (by omega) (by simpa using hz)
set_option maxRecDepth 20000 in
set_option maxHeartbeats 4000000 in
theorem fn186 (s : List Lev) (x : Int) (h : OkS s) (hx : inSp s x) : Ct prog 186 [vi x, .d (.ref [levsD s]), .d (.ref [thD (knT s)])] (vsp (prs (tmS (knT s)) s x).1 (prs (tmS (knT s)) s x).2) [] := by
  have hlen := h.len
  have hp := plc_le s x
  obtain ⟨e0, he0⟩ : ∃ e0, s[0]? = some e0 := ⟨_, List.getElem?_eq_getElem (by omega)⟩
  obtain ⟨e1, he1⟩ : ∃ e1, s[s.length - 1]? = some e1 := ⟨_, List.getElem?_eq_getElem (by omega)⟩
  have hx0 := hx.1 e0 he0
  have hx1 := hx.2 e1 he1
  have hb0 := h.at' e0 (List.mem_of_getElem? he0)
  have hb1 := h.at' e1 (List.mem_of_getElem? he1)
  have hlt : plcS s x < s.length := Nat.not_le.1 fun hge => by
    have := plc_in s x (s.length - 1) e1 he1 (by omega); omega
  obtain ⟨r, hr⟩ : ∃ r, plcS s x = r := ⟨_, rfl⟩
  rw [hr] at hlt
  obtain ⟨b, hb⟩ : ∃ b, s[r]? = some b := ⟨_, List.getElem?_eq_getElem hlt⟩
  have hbx : x ≤ b.h := plc_at s x b (by rw [hr]; exact hb)
  have hin : ∀ (j : Nat) (z : Lev), j < r → s[j]? = some z → z.h < x := fun j z hj hz => plc_in s x j z hz (by omega)
  have c1 := fn187 s x (by omega) (fun y hy => by have := h.at' y hy; exact wrap64 (by omega) (by omega)) (fun i y hy hi => by
    have := h.mono (i - r) r b y hb (by rw [show r + (i - r) = i by omega]; exact hy)
    omega)
  have hbb := h.lev b (List.mem_of_getElem? hb)
  have hbh := h.at' b (List.mem_of_getElem? hb)
  have hI : (r : Int) < s.length := by omega
  rw [hr] at c1
  by_cases hit : b.h = x
  · have hh : hitS s x = true := by unfold hitS; rw [hr, hb]; simpa using hit
    rw [hh] at c1
    rw [prs_hit r s b hb hit hin]
    refine Ct.by gok eok mixed func186 c186 rfl (by simp [ntmps186]) (by simp) (by simp [ResIds]) fun E hE => ?_
    simp [p186]
    refine ACall.mk _ _ _ (c1) (by first | (simp; done) | simp [Bor_ls, Bor1_ls]) (by simp) (by first | (left; simp; done) | (right; simp; done)) ?_
    simp [splice, hb]
    refine RetOk.by (fun _ => none) ?_
    simp [results186]
  · have hh : hitS s x = false := by unfold hitS; rw [hr, hb]; simpa using hit
    rw [hh] at c1
    have hr1 : 1 ≤ r := Nat.not_lt.1 fun h0 => by
      have : r = 0 := by omega
      subst this
      rw [he0] at hb; cases hb; omega
    obtain ⟨q, hq⟩ : ∃ q, r = q + 1 := ⟨r - 1, by omega⟩
    obtain ⟨a, ha⟩ : ∃ a, s[q]? = some a := ⟨_, List.getElem?_eq_getElem (by omega)⟩
    rw [prs_gap q s a b ha (by rw [← hq]; exact hb) (by omega) fun j z hj hz => hin j z (by omega) hz]
    have hax := hin q a (by omega) ha
    have hs := h.step q a b ha (by rw [← hq]; exact hb)
    have hal := (h.lev a (List.mem_of_getElem? ha)).1
    have hah := h.at' a (List.mem_of_getElem? ha)
    have ht := (tm_bd h (h.inS ha) (h.inS hb)).p
    have hw : IntKind.wrap .i64 ((r : Int) - 1) = (q : Int) := by rw [wrap64 (by omega) (by omega)]; omega
    have hw2 : IntKind.wrap .i64 (x - a.h) = x - a.h := wrap64 (by omega) (by omega)
    have hQ : (q : Int) < s.length := by omega
    have c2 := fn189 (knT s) a.h b.h (by rw [knT_len]; omega)
    have c3 := carry_up a.pl a.ph (x - a.h) (tmS (knT s) a.h b.h).1 (tmS (knT s) a.h b.h).2 (by omega) (by omega) (by omega) ht
    refine Ct.by gok eok mixed func186 c186 rfl (by simp [ntmps186]) (by simp) (by simp [ResIds]) fun E hE => ?_
    simp [p186]
    refine ACall.mk _ _ _ (c1) (by first | (simp; done) | simp [Bor_ls, Bor1_ls]) (by simp) (by first | (left; simp; done) | (right; simp; done)) ?_
    simp
    refine pw_drawW [(11, 19922944)] (by kernel_rfl) ?_
    simp [splice, ha, hb, hw, hw2, inC, Nat.testBit]
    refine ACall.mk _ _ _ (c2) (by first | (simp; done) | simp [Bor_ls, Bor1_ls]) (by simp) (by first | (left; simp; done) | (right; simp; done)) ?_
    simp
    refine ACall.mk _ _ _ (c3) (by first | (simp; done) | simp [Bor_ls, Bor1_ls]) (by simp) (by first | (left; simp; done) | (right; simp; done)) ?_
    simp [splice]
    refine RetOk.by (fun _ => none) ?_
    simp [results186, lc, lw]
end Go.Proofs.Tryz
namespace Go.Proofs.Tryz
open Go.Psl
open Go.Air
theorem le_knT : ∀ {l m : List Lev}, LeL l m → knT l = knT m
  | [], [], _ => rfl
  | [], _ :: _, h => h.elim
  | _ :: _, [], h => h.elim
  | a :: l, b :: m, h => by
    unfold knT
    rw [List.map_cons, List.map_cons]
    have := le_knT h.2
    unfold knT at this
    rw [this]
    have e : knOf a = knOf b := by unfold knOf; rw [h.1.s.1, h.1.s.2.1, h.1.s.2.2]
    rw [e]
theorem swp_knT (l : List Lev) : knT (swp l) = knT l := (le_knT (sweep_le l)).symm
theorem fit_all {l : List Lev} (h : ¬ 0 ≤ ixF unf l) : ∀ x ∈ l, x.pl ≤ x.ph := fun x hx => by
  have h1 := ixF_any unf l
  rw [decide_eq_false h] at h1
  have := (List.any_eq_false.1 h1.symm) x hx
  simp at this
  omega
theorem swp_ok {l : List Lev} (h : OkS l) (hf : ¬ 0 ≤ ixF unf (swp l)) : OkS (swp l) := by
  have hle := sweep_le (T := tmS (knT l)) l
  have key : ∀ (i : Nat) (y : Lev), (swp l)[i]? = some y → ∃ x, l[i]? = some x ∧ Le x y := fun i y hy => lel_get hle i y hy
  refine ⟨by rw [swp_len]; exact h.len, fun y hy => ?_, fun y hy => ?_, fun i a b ha hb => ?_⟩
  · obtain ⟨i, hi⟩ := List.getElem?_of_mem hy
    obtain ⟨x, hx, q⟩ := key i y hi
    have h1 := h.lev x (List.mem_of_getElem? hx)
    have h2 := fit_all hf y hy
    have h3 := q.lo; have h4 := q.hi; have h5 := q.s.2.1; have h6 := q.s.2.2
    omega
  · obtain ⟨i, hi⟩ := List.getElem?_of_mem hy
    obtain ⟨x, hx, q⟩ := key i y hi
    have h1 := h.at' x (List.mem_of_getElem? hx)
    have h5 := q.s.1
    omega
  · obtain ⟨x, hx, q⟩ := key i a ha
    obtain ⟨y, hy, q'⟩ := key (i + 1) b hb
    have h1 := h.step i x y hx hy
    have h5 := q.s.1; have h6 := q'.s.1
    omega
theorem swp_inS {l : List Lev} {x : Int} (h : inSp l x) : inSp (swp l) x := by
  have hle := sweep_le (T := tmS (knT l)) l
  refine ⟨fun k hk => ?_, fun k hk => ?_⟩
  · obtain ⟨y, hy, q⟩ := lel_get hle 0 k hk
    have := h.1 y hy; have := q.s.1; omega
  · rw [swp_len] at hk
    obtain ⟨y, hy, q⟩ := lel_get hle _ k hk
    have := h.2 y hy; have := q.s.1; omega
theorem baro_bad (l : List Lev) (hl : l.length ≤ 1000000) (h : ¬ (setS l).2.2 = 0) : Ct prog 121 [.d (levsD l)] (.tup [.d (.lit .nilFunc), vi (setS l).2.2]) [] := by
  have c := fn88 l hl
  unfold setV at c
  generalize (setS l).2.2 = e at *
  generalize (setS l).2.1 = i at *
  generalize (setS l).1 = s at *
  refine Ct.by gok eok mixed func121 c121 rfl (by simp [ntmps121]) (by simp) (by simp [ResIds]) fun E hE => ?_
  simp [p121]
  refine ACall.mk _ _ _ (c) (by first | (simp; done) | simp [Bor_ls, Bor1_ls]) (by simp) (by first | (left; simp; done) | (right; simp; done)) ?_
  simp [splice, h]
  refine RetOk.by (fun _ => none) ?_
  simp [results121]
theorem baro0 (l : List Lev) (h : OkS l) (hf : ¬ 0 ≤ ixF unf (swp l)) : Ct prog 121 [.d (levsD l)] (.tup [.cl 186 [.lp 0 0, .lp 1 0], vi 0]) [(0, [.d (levsD (swp l))]), (1, [.d (thD (knT (swp l)))])] := by
  have hlen := h.len
  have c := fn88 l (by omega)
  have hS : setS l = (swp l, 0, 0) := by unfold setS; rw [okSnd_iff.2 h, if_pos rfl, if_neg hf]
  rw [hS] at c
  unfold setV at c
  simp only at c
  have c2 := fn122 (swp l) (by rw [swp_len]; omega) (by intro e; have := swp_len (l := l); rw [e] at this; simp at this; omega)
  refine Ct.by gok eok mixed func121 c121 rfl (by simp [ntmps121]) (by simp) (by simp [ResIds]) fun E hE => ?_
  simp [p121]
  refine ACall.mk _ _ _ (c) (by first | (simp; done) | simp [Bor_ls, Bor1_ls]) (by simp) (by first | (left; simp; done) | (right; simp; done)) ?_
  simp [splice]
  refine ACall.mk _ _ _ (c2) (by first | (simp; done) | simp [Bor_ls, Bor1_ls]) (by simp) (by first | (left; simp; done) | (right; simp; done)) ?_
  simp [splice]
  refine RetOk.by (lk [(0, 0), (1, 16777216)]) ?_
  simp [results121]
theorem baro_good (l : List Lev) (h : OkS l) (hf : ¬ 0 ≤ ixF unf (swp l)) : Ct prog 121 [.d (levsD l)] (.tup [.d (.fn 186 [.ref [levsD (swp l)], .ref [thD (knT (swp l))]]), vi 0]) [] := by
  refine Cm.freeze (baro0 l h hf) ?_
  exact ⟨⟨rfl, Or.inl ⟨_, rfl, rfl⟩, Or.inl ⟨_, rfl, rfl⟩, trivial⟩, Or.inl rfl, trivial⟩
def atA (l : List Lev) (a b : Int) : Atm × Int :=
  if okSnd l then
    if okS (a, b) then
      match l[0]?, l[l.length - 1]? with
      | some x, some y =>
        if rgB x.h y.h [a, b] then
          if (setS l).2.2 = 0 then (airS (tmS (knT l)) (swp l) a b, 0) else (⟨0, 0, 0, 0⟩, (setS l).2.2)
        else (⟨0, 0, 0, 0⟩, 2)
      | _, _ => (⟨0, 0, 0, 0⟩, 2)
    else (⟨0, 0, 0, 0⟩, 10)
  else (⟨0, 0, 0, 0⟩, 20)
abbrev atV (r : Atm × Int) : V := .tup [airV r.1, vi r.2]
theorem set_zero {l : List Lev} (h : OkS l) : (setS l).2.2 = 0 ↔ ¬ 0 ≤ ixF unf (swp l) := by
  unfold setS
  rw [okSnd_iff.2 h, if_pos rfl]
  by_cases hq : 0 ≤ ixF unf (swp l)
  · rw [if_pos hq]; simp [hq]
  · rw [if_neg hq]; simp [hq]
set_option maxRecDepth 20000 in
set_option maxHeartbeats 4000000 in
theorem fn56 (l : List Lev) (a b : Int) (hl : l.length ≤ 1000000) : Ct prog 56 [.d (levsD l), vsp a b] (atV (atA l a b)) [] := by
  have c1 := fn119 l hl
  cases hk : okSnd l
  · rw [hk] at c1
    have e : atA l a b = (⟨0, 0, 0, 0⟩, 20) := by unfold atA; rw [hk]; rfl
    rw [e]
    refine Ct.by gok eok mixed func56 c56 rfl (by simp [ntmps56]) (by simp) (by simp [ResIds]) fun E hE => ?_
    simp [p56]
    refine ACall.mk _ _ _ (c1) (by first | (simp; done) | simp [Bor_ls, Bor1_ls]) (by simp) (by first | (left; simp; done) | (right; simp; done)) ?_
    simp [splice]
    refine RetOk.by (fun _ => none) ?_
    simp [results56]
  rw [hk] at c1
  have h := okSnd_iff.1 hk
  have hlen := h.len
  have c2 := fn105 (a, b)
  cases hs : okS (a, b)
  · rw [hs] at c2
    have e : atA l a b = (⟨0, 0, 0, 0⟩, 10) := by unfold atA; rw [hk, hs]; rfl
    rw [e]
    refine Ct.by gok eok mixed func56 c56 rfl (by simp [ntmps56]) (by simp) (by simp [ResIds]) fun E hE => ?_
    simp [p56]
    refine ACall.mk _ _ _ (c1) (by first | (simp; done) | simp [Bor_ls, Bor1_ls]) (by simp) (by first | (left; simp; done) | (right; simp; done)) ?_
    simp
    refine ACall.mk _ _ _ (c2) (by first | (simp; done) | simp [Bor_ls, Bor1_ls]) (by simp) (by first | (left; simp; done) | (right; simp; done)) ?_
    simp [splice]
    refine RetOk.by (fun _ => none) ?_
    simp [results56]
  rw [hs] at c2
  obtain ⟨x, hx⟩ : ∃ x, l[0]? = some x := ⟨_, List.getElem?_eq_getElem (by omega)⟩
  obtain ⟨n, hn⟩ : ∃ n, n = l.length - 1 := ⟨_, rfl⟩
  obtain ⟨y, hy⟩ : ∃ y, l[n]? = some y := ⟨_, List.getElem?_eq_getElem (by omega)⟩
  have hw : IntKind.wrap .i64 ((l.length : Int) - 1) = (n : Int) := by rw [wrap64 (by omega) (by omega)]; omega
  have hI0 : (0 : Int) < l.length := by omega
  have hI : (n : Int) < l.length := by omega
  have c3 := fn120 x.h y.h [a, b] (by simp)
  have ea : atA l a b = if rgB x.h y.h [a, b] then (if (setS l).2.2 = 0 then (airS (tmS (knT l)) (swp l) a b, 0) else (⟨0, 0, 0, 0⟩, (setS l).2.2)) else (⟨0, 0, 0, 0⟩, 2) := by
    unfold atA; rw [hk, hs, hx, ← hn, hy]; rfl
  cases hr : rgB x.h y.h [a, b]
  · rw [hr] at c3 ea
    rw [ea]
    refine Ct.by gok eok mixed func56 c56 rfl (by simp [ntmps56]) (by simp) (by simp [ResIds]) fun E hE => ?_
    simp [p56]
    refine ACall.mk _ _ _ (c1) (by first | (simp; done) | simp [Bor_ls, Bor1_ls]) (by simp) (by first | (left; simp; done) | (right; simp; done)) ?_
    simp
    refine ACall.mk _ _ _ (c2) (by first | (simp; done) | simp [Bor_ls, Bor1_ls]) (by simp) (by first | (left; simp; done) | (right; simp; done)) ?_
    simp [splice, repl, hx, hy, hw, inC, Nat.testBit]
    refine ACall.mk _ _ _ (c3) (by simp [bor_i2]) (by simp) (by first | (left; simp; done) | (right; simp; done)) ?_
    simp [splice]
    refine RetOk.by (fun _ => none) ?_
    simp [results56]
  rw [hr] at c3 ea
  by_cases hz : (setS l).2.2 = 0
  · rw [if_pos rfl, if_pos hz] at ea
    rw [ea]
    have hf := (set_zero h).1 hz
    have c4 := baro_good l h hf
    have hso := swp_ok h hf
    have hins : ∀ z, (z = a ∨ z = b) → inSp l z := fun z hzz => by
      have hq : (x.h ≤ a ∧ a ≤ y.h) ∧ x.h ≤ b ∧ b ≤ y.h := by simp [rgB] at hr; omega
      refine ⟨fun k hk' => ?_, fun k hk' => ?_⟩
      · rw [hx] at hk'; cases hk'; rcases hzz with rfl | rfl <;> omega
      · rw [← hn, hy] at hk'; cases hk'; rcases hzz with rfl | rfl <;> omega
    have c5 := fn186 (swp l) b hso (swp_inS (hins b (Or.inr rfl)))
    have c6 := fn186 (swp l) a hso (swp_inS (hins a (Or.inl rfl)))
    have c7 := fn122 l hl (by intro e; rw [e] at hlen; simp at hlen)
    have c8 := fn189 (knT l) a b (by rw [knT_len]; omega)
    rw [swp_knT] at c4 c5 c6
    refine Ct.by gok eok mixed func56 c56 rfl (by simp [ntmps56]) (by simp) (by simp [ResIds]) fun E hE => ?_
    simp [p56]
    refine ACall.mk _ _ _ (c1) (by first | (simp; done) | simp [Bor_ls, Bor1_ls]) (by simp) (by first | (left; simp; done) | (right; simp; done)) ?_
    simp
    refine ACall.mk _ _ _ (c2) (by first | (simp; done) | simp [Bor_ls, Bor1_ls]) (by simp) (by first | (left; simp; done) | (right; simp; done)) ?_
    simp [splice, repl, hx, hy, hw, inC, Nat.testBit]
    refine ACall.mk _ _ _ (c3) (by simp [bor_i2]) (by simp) (by first | (left; simp; done) | (right; simp; done)) ?_
    simp
    refine ACall.mk _ _ _ (c4) (by first | (simp; done) | simp [Bor_ls, Bor1_ls]) (by simp) (by first | (left; simp; done) | (right; simp; done)) ?_
    simp [inC, Nat.testBit]
    refine ACall.mk _ _ _ (c5) (by first | (simp; done) | simp [Bor_ls, Bor1_ls]) (by simp) (by first | (left; simp; done) | (right; simp; done)) ?_
    simp [inC, Nat.testBit]
    refine ACall.mk _ _ _ (c6) (by first | (simp; done) | simp [Bor_ls, Bor1_ls]) (by simp) (by first | (left; simp; done) | (right; simp; done)) ?_
    simp [splice]
    refine ACall.mk _ _ _ (c7) (by first | (simp; done) | simp [Bor_ls, Bor1_ls]) (by simp) (by first | (left; simp; done) | (right; simp; done)) ?_
    simp [inC, Nat.testBit]
    refine ACall.mk _ _ _ (c8) (by first | (simp; done) | simp [Bor_ls, Bor1_ls]) (by simp) (by first | (left; simp; done) | (right; simp; done)) ?_
    simp [splice]
    refine RetOk.by (fun _ => none) ?_
    simp [results56, airS]
  · rw [if_pos rfl, if_neg hz] at ea
    rw [ea]
    have c4 := baro_bad l hl hz
    refine Ct.by gok eok mixed func56 c56 rfl (by simp [ntmps56]) (by simp) (by simp [ResIds]) fun E hE => ?_
    simp [p56]
    refine ACall.mk _ _ _ (c1) (by first | (simp; done) | simp [Bor_ls, Bor1_ls]) (by simp) (by first | (left; simp; done) | (right; simp; done)) ?_
    simp
    refine ACall.mk _ _ _ (c2) (by first | (simp; done) | simp [Bor_ls, Bor1_ls]) (by simp) (by first | (left; simp; done) | (right; simp; done)) ?_
    simp [splice, repl, hx, hy, hw, inC, Nat.testBit]
    refine ACall.mk _ _ _ (c3) (by simp [bor_i2]) (by simp) (by first | (left; simp; done) | (right; simp; done)) ?_
    simp
    refine ACall.mk _ _ _ (c4) (by first | (simp; done) | simp [Bor_ls, Bor1_ls]) (by simp) (by first | (left; simp; done) | (right; simp; done)) ?_
    simp [splice, hz]
    refine RetOk.by (fun _ => none) ?_
    simp [results56]
end Go.Proofs.Tryz
namespace Go.Proofs.Tryz
open Go.Psl
open Go.Air
structure Gal where
  h : Int
  xl : Int
  xh : Int
  yl : Int
  yh : Int
  g : Int
deriving DecidableEq
abbrev galL (x : Gal) : List D := [di x.h, di x.xl, di x.xh, di x.yl, di x.yh, di x.g]
abbrev galsD (l : List Gal) : D := .sl 6 (l.map galL)
def galB (l : List Gal) (i : Nat) : Bool := match l[i]? with
  | some x => rgB (-500) 9000 [x.h] && (if i = 0 then true else match l[i - 1]? with | some y => decide (y.h < x.h) | none => true) && rgB 0 500 [x.g] && spB (-1000) 1000 x.xl x.xh && spB (-1000) 1000 x.yl x.yh
  | none => true
def okWnd (l : List Gal) : Bool := rgB 1 16 [(l.length : Int)] && (List.range l.length).all (galB l)
theorem wnd_no {l : List Gal} {i : Nat} (hi : i < l.length) (h : galB l i = false) : okWnd l = false := by
  unfold okWnd
  have : (List.range l.length).all (galB l) = false := by
    rw [List.all_eq_false]; exact ⟨i, by simp [hi], by simp [h]⟩
  simp [this]
set_option maxRecDepth 20000 in
set_option maxHeartbeats 8000000 in
theorem fn89 (l : List Gal) (hl : l.length ≤ 1000000) : Ct prog 89 [.d (galsD l)] (vi (if okWnd l then 0 else 22)) [] := by
  have c1 := fn120 1 16 [(l.length : Int)] (by simp)
  cases hn : rgB 1 16 [(l.length : Int)]
  · rw [hn] at c1
    have hbad : okWnd l = false := by unfold okWnd; simp [hn]
    refine Ct.by gok eok mixed func89 c89 rfl (by simp [ntmps89]) (by simp) (by simp [ResIds]) fun E hE => ?_
    simp [p89, splice, repl]
    refine ACall.mk _ _ _ (c1) (by simp [bor_i1]) (by simp) (by first | (left; simp; done) | (right; simp; done)) ?_
    simp
    refine RetOk.by (fun _ => none) ?_
    simp [results89, hbad]
  rw [hn] at c1
  refine Ct.by gok eok mixed func89 c89 rfl (by simp [ntmps89]) (by simp) (by simp [ResIds]) fun E hE => ?_
  simp [p89, splice, repl]
  refine ACall.mk _ _ _ (c1) (by simp [bor_i1]) (by simp) (by first | (left; simp; done) | (right; simp; done)) ?_
  simp
  refine pw_loop (α := Nat) (fun i => ⟨slots [(0, .d (galsD l)), (10, .d (galsD l)), (11, vi l.length), (12, vi i)], lk [], 0⟩) (fun i => i ≤ l.length ∧ ∀ j, j < i → galB l j = true) (fun i => l.length - i) 0 ?_ ?_ ?_
  · exact ⟨by omega, fun j hj => by omega⟩
  · refine Weak.mk hE (lk []) _ _ _ ?_ ?_ ?_ ?_ ?_ <;> simp
  · rintro i ⟨hi, hg⟩
    by_cases h : i < l.length
    · obtain ⟨x, hx⟩ : ∃ x, l[i]? = some x := ⟨_, List.getElem?_eq_getElem h⟩
      have hz : IntKind.wrap .i64 ((i : Int) + 1) = ((i + 1 : Nat) : Int) := by rw [wrap64 (by omega) (by omega)]; omega
      have hI : (i : Int) < l.length := by omega
      have c2 := fn120 (-500) 9000 [x.h] (by simp)
      have c3 := fn120 0 500 [x.g] (by simp)
      have c4 := fn162 x.xl x.xh (-1000) 1000
      have c5 := fn162 x.yl x.yh (-1000) 1000
      have eg : galB l i = (rgB (-500) 9000 [x.h] && (if i = 0 then true else match l[i - 1]? with | some y => decide (y.h < x.h) | none => true) && rgB 0 500 [x.g] && spB (-1000) 1000 x.xl x.xh && spB (-1000) 1000 x.yl x.yh) := by unfold galB; rw [hx]
      have fin : galB l i = true → ∀ j, j < i + 1 → galB l j = true := fun he j hj => by
        by_cases e : j = i
        · rw [e]; exact he
        · exact hg j (by omega)
      generalize rgB (-500) 9000 [x.h] = b1 at *
      generalize rgB 0 500 [x.g] = b2 at *
      generalize spB (-1000) 1000 x.xl x.xh = b3 at *
      generalize spB (-1000) 1000 x.yl x.yh = b4 at *
      cases b1
      · have hbad := wnd_no h (by rw [eg]; rfl)
        simp [p89l0, hI, hx, splice, repl, inC, Nat.testBit]
        refine ACall.mk _ _ _ (c2) (by simp [bor_i1, inC, Nat.testBit]) (by simp) (by first | (left; simp; done) | (right; simp; done)) ?_
        simp
        refine RetOk.by (fun _ => none) ?_
        simp [results89, hbad]
      · by_cases h0 : i = 0
        · rw [if_pos h0] at eg
          have hI0 : ¬ 0 < i := by omega
          cases b2
          · have hbad := wnd_no h (by rw [eg]; rfl)
            simp [p89l0, hI, hx, splice, repl, inC, Nat.testBit]
            refine ACall.mk _ _ _ (c2) (by simp [bor_i1, inC, Nat.testBit]) (by simp) (by first | (left; simp; done) | (right; simp; done)) ?_
            simp [splice, repl, hI0]
            refine ACall.mk _ _ _ (c3) (by simp [bor_i1]) (by simp) (by first | (left; simp; done) | (right; simp; done)) ?_
            simp
            refine RetOk.by (fun _ => none) ?_
            simp [results89, hbad]
          · cases b3
            · have hbad := wnd_no h (by rw [eg]; rfl)
              simp [p89l0, hI, hx, splice, repl, inC, Nat.testBit]
              refine ACall.mk _ _ _ (c2) (by simp [bor_i1, inC, Nat.testBit]) (by simp) (by first | (left; simp; done) | (right; simp; done)) ?_
              simp [splice, repl, hI0]
              refine ACall.mk _ _ _ (c3) (by simp [bor_i1]) (by simp) (by first | (left; simp; done) | (right; simp; done)) ?_
              simp
              refine ACall.mk _ _ _ (c4) (by first | (simp; done) | simp [Bor_ls, Bor1_ls]) (by simp) (by first | (left; simp; done) | (right; simp; done)) ?_
              simp
              refine RetOk.by (fun _ => none) ?_
              simp [results89, hbad]
            · simp [p89l0, hI, hx, splice, repl, inC, Nat.testBit]
              refine ACall.mk _ _ _ (c2) (by simp [bor_i1, inC, Nat.testBit]) (by simp) (by first | (left; simp; done) | (right; simp; done)) ?_
              simp [splice, repl, hI0]
              refine ACall.mk _ _ _ (c3) (by simp [bor_i1]) (by simp) (by first | (left; simp; done) | (right; simp; done)) ?_
              simp
              refine ACall.mk _ _ _ (c4) (by first | (simp; done) | simp [Bor_ls, Bor1_ls]) (by simp) (by first | (left; simp; done) | (right; simp; done)) ?_
              simp
              refine ACall.mk _ _ _ (c5) (by first | (simp; done) | simp [Bor_ls, Bor1_ls]) (by simp) (by first | (left; simp; done) | (right; simp; done)) ?_
              cases b4
              · have hbad := wnd_no h (by rw [eg]; rfl)
                simp
                refine RetOk.by (fun _ => none) ?_
                simp [results89, hbad]
              · have hok := fin (by rw [eg]; rfl)
                simp [hz]
                refine ⟨i + 1, ⟨by omega, hok⟩, by omega, ?_⟩
                refine Weak.mk hE (lk []) _ _ _ ?_ ?_ ?_ ?_ ?_ <;> simp
        · obtain ⟨y, hy⟩ : ∃ y, l[i - 1]? = some y := ⟨_, List.getElem?_eq_getElem (by omega)⟩
          have hw : IntKind.wrap .i64 ((i : Int) - 1) = ((i - 1 : Nat) : Int) := by rw [wrap64 (by omega) (by omega)]; omega
          have hI0 : 0 < i := by omega
          rw [if_neg h0, hy] at eg
          simp only at eg
          by_cases hc : x.h ≤ y.h
          · have hbad := wnd_no h (by rw [eg, decide_eq_false (by omega)]; simp)
            simp [p89l0, hI, hx, splice, repl, inC, Nat.testBit]
            refine ACall.mk _ _ _ (c2) (by simp [bor_i1, inC, Nat.testBit]) (by simp) (by first | (left; simp; done) | (right; simp; done)) ?_
            simp [hI0, hw, hy, hc, inC, Nat.testBit]
            refine RetOk.by (fun _ => none) ?_
            simp [results89, hbad]
          · rw [decide_eq_true (by omega : y.h < x.h)] at eg
            cases b2
            · have hbad := wnd_no h (by rw [eg]; rfl)
              simp [p89l0, hI, hx, splice, repl, inC, Nat.testBit]
              refine ACall.mk _ _ _ (c2) (by simp [bor_i1, inC, Nat.testBit]) (by simp) (by first | (left; simp; done) | (right; simp; done)) ?_
              simp [splice, repl, hI0, hw, hy, hc, inC, Nat.testBit]
              refine ACall.mk _ _ _ (c3) (by simp [bor_i1]) (by simp) (by first | (left; simp; done) | (right; simp; done)) ?_
              simp
              refine RetOk.by (fun _ => none) ?_
              simp [results89, hbad]
            · cases b3
              · have hbad := wnd_no h (by rw [eg]; rfl)
                simp [p89l0, hI, hx, splice, repl, inC, Nat.testBit]
                refine ACall.mk _ _ _ (c2) (by simp [bor_i1, inC, Nat.testBit]) (by simp) (by first | (left; simp; done) | (right; simp; done)) ?_
                simp [splice, repl, hI0, hw, hy, hc, inC, Nat.testBit]
                refine ACall.mk _ _ _ (c3) (by simp [bor_i1]) (by simp) (by first | (left; simp; done) | (right; simp; done)) ?_
                simp
                refine ACall.mk _ _ _ (c4) (by first | (simp; done) | simp [Bor_ls, Bor1_ls]) (by simp) (by first | (left; simp; done) | (right; simp; done)) ?_
                simp
                refine RetOk.by (fun _ => none) ?_
                simp [results89, hbad]
              · simp [p89l0, hI, hx, splice, repl, inC, Nat.testBit]
                refine ACall.mk _ _ _ (c2) (by simp [bor_i1, inC, Nat.testBit]) (by simp) (by first | (left; simp; done) | (right; simp; done)) ?_
                simp [splice, repl, hI0, hw, hy, hc, inC, Nat.testBit]
                refine ACall.mk _ _ _ (c3) (by simp [bor_i1]) (by simp) (by first | (left; simp; done) | (right; simp; done)) ?_
                simp
                refine ACall.mk _ _ _ (c4) (by first | (simp; done) | simp [Bor_ls, Bor1_ls]) (by simp) (by first | (left; simp; done) | (right; simp; done)) ?_
                simp
                refine ACall.mk _ _ _ (c5) (by first | (simp; done) | simp [Bor_ls, Bor1_ls]) (by simp) (by first | (left; simp; done) | (right; simp; done)) ?_
                cases b4
                · have hbad := wnd_no h (by rw [eg]; rfl)
                  simp
                  refine RetOk.by (fun _ => none) ?_
                  simp [results89, hbad]
                · have hok := fin (by rw [eg]; rfl)
                  simp [hz]
                  refine ⟨i + 1, ⟨by omega, hok⟩, by omega, ?_⟩
                  refine Weak.mk hE (lk []) _ _ _ ?_ ?_ ?_ ?_ ?_ <;> simp
    · have e : i = l.length := by omega
      have hnn : ¬ (i : Int) < l.length := by omega
      have hall : okWnd l = true := by
        unfold okWnd
        rw [hn, Bool.true_and, List.all_eq_true]
        intro j hj
        exact hg j (by have : j < l.length := by simpa using hj
                       omega)
      simp [p89l0, hnn]
      refine RetOk.by (fun _ => none) ?_
      simp [results89, hall]
end Go.Proofs.Tryz
namespace Go.Proofs.Tryz
open Go.Psl
open Go.Air
structure Plt where
  cs : List Cel
  bt : Int
  ih : Int
  ia : Int
  vh : Int
  va : Int
  lh : Int
  la : Int
  ph : Int
  pa : Int
deriving DecidableEq
abbrev pltV (p : Plt) (c : V) : V := .agg [c, vi p.bt, vi p.ih, vi p.ia, vi p.vh, vi p.va, vi p.lh, vi p.la, vi p.ph, vi p.pa]
abbrev bkB (p : Int × Int) : Bool := rgB 0 1000000000000 [p.1, p.2]
def accs (p : Plt) : List (Int × Int) := [(p.ih, p.ia), (p.vh, p.va), (p.lh, p.la), (p.ph, p.pa)]
def heS (l : List Cel) : Int := (l.map (·.he)).sum
def aiS (l : List Cel) : Int := (l.map (·.ai)).sum
def okBk (p : Plt) : Bool := decide (p.cs.length ≤ 12) && rgB 0 10000000 [p.bt] && (accs p).all bkB
def okPlt (p : Plt) : Bool := okBk p && p.cs.all okCel && decide (p.bt + p.vh + p.lh + p.ph + heS p.cs = p.ih ∧ p.va + p.la + p.pa + aiS p.cs = p.ia)
theorem heS_take {l : List Cel} {i : Nat} {c : Cel} (h : l[i]? = some c) : heS (l.take (i + 1)) = heS (l.take i) + c.he := by
  unfold heS; rw [List.take_add_one, h]; simp
theorem aiS_take {l : List Cel} {i : Nat} {c : Cel} (h : l[i]? = some c) : aiS (l.take (i + 1)) = aiS (l.take i) + c.ai := by
  unfold aiS; rw [List.take_add_one, h]; simp
theorem heS_bd : ∀ {l : List Cel}, (∀ c ∈ l, CelB c) → 0 ≤ heS l ∧ heS l ≤ l.length * 10000000
  | [], _ => by simp [heS]
  | c :: l, h => by
    have h1 := (h c (by simp)).he
    have h2 := heS_bd (l := l) fun x hx => h x (by simp [hx])
    unfold heS at h2 ⊢
    simp only [List.map_cons, List.sum_cons, List.length_cons]
    omega
theorem aiS_bd : ∀ {l : List Cel}, (∀ c ∈ l, CelB c) → 0 ≤ aiS l ∧ aiS l ≤ l.length * 10000000
  | [], _ => by simp [aiS]
  | c :: l, h => by
    have h1 := (h c (by simp)).ai
    have h2 := aiS_bd (l := l) fun x hx => h x (by simp [hx])
    unfold aiS at h2 ⊢
    simp only [List.map_cons, List.sum_cons, List.length_cons]
    omega
theorem fn115 (a b c d : Int) (h1 : IntKind.wrap .i64 (a + c) = a + c) (h2 : IntKind.wrap .i64 (b + d) = b + d) : Ct prog 115 [vsp a b, vsp c d] (vsp (a + c) (b + d)) [] := by
  refine Ct.by gok eok mixed func115 c115 rfl (by simp [ntmps115]) (by simp) (by simp [ResIds]) fun E hE => ?_
  simp [p115, splice, h1, h2]
  refine RetOk.by (fun _ => none) ?_
  simp [results115]
theorem fn114 (p : Int × Int) : Ct prog 114 [pairV p] (vb (!bkB p)) [] := by
  have c1 := fn112 0 1000000000000 [p.1, p.2] (by simp)
  refine Ct.by gok eok mixed func114 c114 rfl (by simp [ntmps114]) (by simp) (by simp [ResIds]) fun E hE => ?_
  simp [p114, splice, repl]
  refine ACall.mk _ _ _ (c1) (by simp [bor_i2]) (by simp) (by first | (left; simp; done) | (right; simp; done)) ?_
  simp
  refine RetOk.by (fun _ => none) ?_
  simp [results114]
end Go.Proofs.Tryz
namespace Go.Proofs.Tryz
open Go.Psl
open Go.Air
def bkI (p : Plt) : Nat → Int × Int
  | 0 => (p.bt, 0)
  | 1 => (p.bt + p.vh, p.va)
  | 2 => (p.bt + p.vh + p.lh, p.va + p.la)
  | _ => (p.bt + p.vh + p.lh + p.ph, p.va + p.la + p.pa)
theorem bor_i8 {H : Hp} {id : Nat} {p : Plt} (h : H id = some [vi p.ih, vi p.ia, vi p.vh, vi p.va, vi p.lh, vi p.la, vi p.ph, vi p.pa]) : Bor H (.ls id 0 4 2) (.d (spansD (accs p))) := by
  rw [Bor_ls]; exact ⟨rfl, rfl, by simp [accs], _, h, rfl⟩
theorem bk_all {p : Plt} (h : (accs p).all bkB = true) : (0 ≤ p.ih ∧ p.ih ≤ 1000000000000) ∧ (0 ≤ p.ia ∧ p.ia ≤ 1000000000000) ∧ (0 ≤ p.vh ∧ p.vh ≤ 1000000000000) ∧ (0 ≤ p.va ∧ p.va ≤ 1000000000000) ∧ (0 ≤ p.lh ∧ p.lh ≤ 1000000000000) ∧ (0 ≤ p.la ∧ p.la ≤ 1000000000000) ∧ (0 ≤ p.ph ∧ p.ph ≤ 1000000000000) ∧ (0 ≤ p.pa ∧ p.pa ≤ 1000000000000) := by
  unfold accs at h
  simp [rgB] at h
  omega
set_option maxRecDepth 20000 in
set_option maxHeartbeats 4000000 in
theorem chk_cells (p : Plt) (hl : p.cs.length ≤ 12) (hb : okBk p = true) {E : Ent} (hE : ∀ i, ¬ E.stab i) : ∀ i : Nat, (i ≤ p.cs.length ∧ ∀ c ∈ p.cs.take i, CelB c) → PW prog tys eqs E p53l1
    (seqQ (fun st' => ∃ k, (k ≤ p.cs.length ∧ ∀ c ∈ p.cs.take k, CelB c) ∧ p.cs.length - k < p.cs.length - i ∧ Weak prog E st' ⟨slots [(1, .lp 0 0), (4, .lp 2 0), (48, .d (cellsD p.cs)), (49, vi p.cs.length), (50, vi k)], lk [(0, [.d (cellsD p.cs), vi p.bt, vi p.ih, vi p.ia, vi p.vh, vi p.va, vi p.lh, vi p.la, vi p.ph, vi p.pa]), (2, [vi ((bkI p 3).1 + heS (p.cs.take k)), vi ((bkI p 3).2 + aiS (p.cs.take k))])], 3⟩)
      (exC prog E (retQ tys f53 (vi (if okPlt p then 0 else 32)) []) 2 (fun _ : Unit => ⟨slots [(1, .lp 0 0), (4, .lp 2 0)], lk [(0, [.d (cellsD p.cs), vi p.bt, vi p.ih, vi p.ia, vi p.vh, vi p.va, vi p.lh, vi p.la, vi p.ph, vi p.pa]), (2, [vi ((bkI p 3).1 + heS p.cs), vi ((bkI p 3).2 + aiS p.cs)])], 3⟩) (fun _ => ∀ c ∈ p.cs, CelB c)))
    ⟨slots [(1, .lp 0 0), (4, .lp 2 0), (48, .d (cellsD p.cs)), (49, vi p.cs.length), (50, vi i)], lk [(0, [.d (cellsD p.cs), vi p.bt, vi p.ih, vi p.ia, vi p.vh, vi p.va, vi p.lh, vi p.la, vi p.ph, vi p.pa]), (2, [vi ((bkI p 3).1 + heS (p.cs.take i)), vi ((bkI p 3).2 + aiS (p.cs.take i))])], 3⟩ := by
  rintro i ⟨hi, hcs⟩
  have hbk := bk_all (p := p) (by unfold okBk at hb; simp at hb; simpa using hb.2)
  have hbt : 0 ≤ p.bt ∧ p.bt ≤ 10000000 := by unfold okBk at hb; simp [rgB] at hb; omega
  by_cases h : i < p.cs.length
  · obtain ⟨c, hc⟩ : ∃ c, p.cs[i]? = some c := ⟨_, List.getElem?_eq_getElem h⟩
    have hz : IntKind.wrap .i64 ((i : Int) + 1) = ((i + 1 : Nat) : Int) := by rw [wrap64 (by omega) (by omega)]; omega
    have hI : (i : Int) < p.cs.length := by omega
    have c1 := fn116 c
    cases hok : okCel c
    · have hbad : okPlt p = false := by
        unfold okPlt
        have : p.cs.all okCel = false := by
          rw [List.all_eq_false]; exact ⟨c, List.mem_of_getElem? hc, by simp [hok]⟩
        simp [this]
      rw [hok] at c1
      simp [p53l1, hI, hc, splice]
      refine ACall.mk _ _ _ (c1) (by first | (simp; done) | simp [Bor_ls, Bor1_ls]) (by simp) (by first | (left; simp; done) | (right; simp; done)) ?_
      simp
      refine RetOk.by (fun _ => none) ?_
      simp [results53, hbad]
    · rw [hok] at c1
      have hcb := okCel_iff.1 hok
      have hx := hcb.he
      have hy := hcb.ai
      have e1 := heS_take hc
      have e2 := aiS_take hc
      have b1 := heS_bd hcs
      have b2 := aiS_bd hcs
      have hlen : ((p.cs.take i).length : Int) ≤ 12 := by simp; omega
      obtain ⟨X, hX⟩ : ∃ X, (bkI p 3).1 + heS (p.cs.take i) = X := ⟨_, rfl⟩
      obtain ⟨Y, hY⟩ : ∃ Y, (bkI p 3).2 + aiS (p.cs.take i) = Y := ⟨_, rfl⟩
      have q1 : (bkI p 3).1 = p.bt + p.vh + p.lh + p.ph := rfl
      have q2 : (bkI p 3).2 = p.va + p.la + p.pa := rfl
      have c2 := fn115 X Y c.he c.ai (wrap64 (by omega) (by omega)) (wrap64 (by omega) (by omega))
      have z1 : (bkI p 3).1 + heS (p.cs.take (i + 1)) = X + c.he := by omega
      have z2 : (bkI p 3).2 + aiS (p.cs.take (i + 1)) = Y + c.ai := by omega
      rw [hX, hY]
      simp [p53l1, hI, hc, splice]
      refine ACall.mk _ _ _ (c1) (by first | (simp; done) | simp [Bor_ls, Bor1_ls]) (by simp) (by first | (left; simp; done) | (right; simp; done)) ?_
      simp [splice]
      refine ACall.mk _ _ _ (c2) (by first | (simp; done) | simp [Bor_ls, Bor1_ls]) (by simp) (by first | (left; simp; done) | (right; simp; done)) ?_
      simp [splice, hz]
      refine ⟨i + 1, ⟨by omega, ?_⟩, by omega, ?_⟩
      · intro d hd
        rw [List.take_add_one, hc] at hd
        simp only [List.mem_append, Option.toList_some, List.mem_singleton] at hd
        rcases hd with hd | rfl
        · exact hcs d hd
        · exact hcb
      · rw [z1, z2]
        refine Weak.mk hE (lk [(0, 0), (2, 2)]) _ _ _ ?_ ?_ ?_ ?_ ?_ <;> simp
  · have e : i = p.cs.length := by omega
    rw [e, List.take_length] at hcs
    rw [e, List.take_length]
    simp [p53l1]
    refine ⟨hcs, ?_⟩
    refine Weak.mk hE (lk [(0, 0), (2, 2)]) _ _ _ ?_ ?_ ?_ ?_ ?_ <;> simp
set_option maxRecDepth 20000 in
set_option maxHeartbeats 4000000 in
theorem fn53 (p : Plt) (hl : p.cs.length ≤ 1000000000) : Ct prog 53 [pltV p (.d (cellsD p.cs))] (vi (if okPlt p then 0 else 32)) [] := by
  have c1 := fn112 0 10000000 [p.bt] (by simp)
  have c2 := fn113 (accs p) 114 [] (fun x => !bkB x) (by simp [accs]) fun x _ => fn114 x
  rw [any_nt] at c2
  by_cases hlen : p.cs.length ≤ 12
  case neg =>
    have hI : (12 : Int) < p.cs.length := by omega
    have hbad : okPlt p = false := by simp [okPlt, okBk, hlen]
    refine Ct.by gok eok mixed func53 c53 rfl (by simp [ntmps53]) (by simp) (by simp [ResIds]) fun E hE => ?_
    simp [p53, splice, repl, hI]
    refine RetOk.by (fun _ => none) ?_
    simp [results53, hbad]
  have hI : ¬ (12 : Int) < p.cs.length := by omega
  have hI2 : (p.cs.length : Int) ≤ 12 := by omega
  cases h1 : rgB 0 10000000 [p.bt]
  · have hbad : okPlt p = false := by simp [okPlt, okBk, h1]
    rw [h1] at c1
    refine Ct.by gok eok mixed func53 c53 rfl (by simp [ntmps53]) (by simp) (by simp [ResIds]) fun E hE => ?_
    simp [p53, splice, repl, hI]
    refine ACall.mk _ _ _ (c1) (by simp [bor_i1]) (by simp) (by first | (left; simp; done) | (right; simp; done)) ?_
    simp
    refine RetOk.by (fun _ => none) ?_
    simp [results53, hbad]
  rw [h1] at c1
  cases h2 : (accs p).all bkB
  · have hbad : okPlt p = false := by simp [okPlt, okBk, h2]
    rw [h2] at c2
    refine Ct.by gok eok mixed func53 c53 rfl (by simp [ntmps53]) (by simp) (by simp [ResIds]) fun E hE => ?_
    simp [p53, splice, repl, hI]
    refine ACall.mk _ _ _ (c1) (by simp [bor_i1]) (by simp) (by first | (left; simp; done) | (right; simp; done)) ?_
    simp
    refine ACall.mk _ _ _ (c2) (by simp [bor_i8]) (by simp) (by first | (left; simp; done) | (right; simp; done)) ?_
    simp
    refine RetOk.by (fun _ => none) ?_
    simp [results53, hbad]
  rw [h2] at c2
  have hb : okBk p = true := by simp [okBk, hlen, h1, h2]
  have hbk := bk_all h2
  have hbt : 0 ≤ p.bt ∧ p.bt ≤ 10000000 := by simp [rgB] at h1; omega
  have ww1 : IntKind.wrap .i64 1 = 1 := by decide
  have ww2 : IntKind.wrap .i64 2 = 2 := by decide
  have ww3 : IntKind.wrap .i64 3 = 3 := by decide
  refine Ct.by gok eok mixed func53 c53 rfl (by simp [ntmps53]) (by simp) (by simp [ResIds]) fun E hE => ?_
  simp [p53, splice, repl, hI]
  refine ACall.mk _ _ _ (c1) (by simp [bor_i1]) (by simp) (by first | (left; simp; done) | (right; simp; done)) ?_
  simp
  refine ACall.mk _ _ _ (c2) (by simp [bor_i8]) (by simp) (by first | (left; simp; done) | (right; simp; done)) ?_
  simp [splice]
  refine pw_loopC (α := Nat) 0 (fun _ : Unit => ⟨slots [(1, .lp 0 0), (4, .lp 2 0)], lk [(0, [.d (cellsD p.cs), vi p.bt, vi p.ih, vi p.ia, vi p.vh, vi p.va, vi p.lh, vi p.la, vi p.ph, vi p.pa]), (2, [vi (bkI p 3).1, vi (bkI p 3).2])], 3⟩) (fun _ => True) (fun k => ⟨slots [(1, .lp 0 0), (4, .lp 2 0), (37, .ls 1 2 3 2), (38, vi 3), (39, vi k)], lk [(0, [.d (cellsD p.cs), vi p.bt, vi p.ih, vi p.ia, vi p.vh, vi p.va, vi p.lh, vi p.la, vi p.ph, vi p.pa]), (1, [vi p.ih, vi p.ia, vi p.vh, vi p.va, vi p.lh, vi p.la, vi p.ph, vi p.pa]), (2, [vi (bkI p k).1, vi (bkI p k).2])], 3⟩) (fun k => k ≤ 3) (fun k => 3 - k) 0 ?_ ?_ ?_ fun _ _ => ?_
  · omega
  · refine Weak.mk hE (lk [(0, 0), (1, 10485760), (2, 31457280)]) _ _ _ ?_ ?_ ?_ ?_ ?_ <;> simp [bkI]
  · intro i hi
    match i, hi with
    | 0, _ =>
      have d := fn115 p.bt 0 p.vh p.va (wrap64 (by omega) (by omega)) (wrap64 (by omega) (by omega))
      simp [p53l0, splice, bkI]
      refine ACall.mk _ _ _ (d) (by first | (simp; done) | simp [Bor_ls, Bor1_ls]) (by simp) (by first | (left; simp; done) | (right; simp; done)) ?_
      simp [splice]
      refine ⟨1, by omega, by omega, ?_⟩
      refine Weak.mk hE (lk [(0, 0), (1, 1), (2, 2)]) _ _ _ ?_ ?_ ?_ ?_ ?_ <;> simp [ww1]
    | 1, _ =>
      have d := fn115 (p.bt + p.vh) p.va p.lh p.la (wrap64 (by omega) (by omega)) (wrap64 (by omega) (by omega))
      simp [p53l0, splice, bkI]
      refine ACall.mk _ _ _ (d) (by first | (simp; done) | simp [Bor_ls, Bor1_ls]) (by simp) (by first | (left; simp; done) | (right; simp; done)) ?_
      simp [splice]
      refine ⟨2, by omega, by omega, ?_⟩
      refine Weak.mk hE (lk [(0, 0), (1, 1), (2, 2)]) _ _ _ ?_ ?_ ?_ ?_ ?_ <;> simp [ww2]
    | 2, _ =>
      have d := fn115 (p.bt + p.vh + p.lh) (p.va + p.la) p.ph p.pa (wrap64 (by omega) (by omega)) (wrap64 (by omega) (by omega))
      simp [p53l0, splice, bkI]
      refine ACall.mk _ _ _ (d) (by first | (simp; done) | simp [Bor_ls, Bor1_ls]) (by simp) (by first | (left; simp; done) | (right; simp; done)) ?_
      simp [splice]
      refine ⟨3, by omega, by omega, ?_⟩
      refine Weak.mk hE (lk [(0, 0), (1, 1), (2, 2)]) _ _ _ ?_ ?_ ?_ ?_ ?_ <;> simp [ww3]
    | 3, _ =>
      simp [p53l0]
      refine Weak.mk hE (lk [(0, 0), (2, 2)]) _ _ _ ?_ ?_ ?_ ?_ ?_ <;> simp
    | i + 4, hi => omega
  · simp
    refine pw_loopC (α := Nat) 2 (fun _ : Unit => ⟨slots [(1, .lp 0 0), (4, .lp 2 0)], lk [(0, [.d (cellsD p.cs), vi p.bt, vi p.ih, vi p.ia, vi p.vh, vi p.va, vi p.lh, vi p.la, vi p.ph, vi p.pa]), (2, [vi ((bkI p 3).1 + heS p.cs), vi ((bkI p 3).2 + aiS p.cs)])], 3⟩) (fun _ => ∀ c ∈ p.cs, CelB c) (fun k => ⟨slots [(1, .lp 0 0), (4, .lp 2 0), (48, .d (cellsD p.cs)), (49, vi p.cs.length), (50, vi k)], lk [(0, [.d (cellsD p.cs), vi p.bt, vi p.ih, vi p.ia, vi p.vh, vi p.va, vi p.lh, vi p.la, vi p.ph, vi p.pa]), (2, [vi ((bkI p 3).1 + heS (p.cs.take k)), vi ((bkI p 3).2 + aiS (p.cs.take k))])], 3⟩) (fun k => k ≤ p.cs.length ∧ ∀ c ∈ p.cs.take k, CelB c) (fun k => p.cs.length - k) 0 ?_ ?_ (chk_cells p hlen hb hE) fun _ hcs => ?_
    · simp
    · refine Weak.mk hE (lk [(0, 0), (2, 2)]) _ _ _ ?_ ?_ ?_ ?_ ?_ <;> simp [heS, aiS]
    · have hall : p.cs.all okCel = true := by
        rw [List.all_eq_true]; exact fun c hc => okCel_iff.2 (hcs c hc)
      have q1 : (bkI p 3).1 = p.bt + p.vh + p.lh + p.ph := rfl
      have q2 : (bkI p 3).2 = p.va + p.la + p.pa := rfl
      rw [q1, q2]
      have e : okPlt p = decide (p.bt + p.vh + p.lh + p.ph + heS p.cs = p.ih ∧ p.va + p.la + p.pa + aiS p.cs = p.ia) := by simp [okPlt, hb, hall]
      by_cases hq : p.bt + p.vh + p.lh + p.ph + heS p.cs = p.ih ∧ p.va + p.la + p.pa + aiS p.cs = p.ia
      · rw [decide_eq_true hq] at e
        simp [hq]
        refine RetOk.by (fun _ => none) ?_
        simp [results53, e]
      · rw [decide_eq_false hq] at e
        have hd : (!decide (p.bt + p.vh + p.lh + p.ph + heS p.cs = p.ih) || !decide (p.va + p.la + p.pa + aiS p.cs = p.ia)) = true := by simp; omega
        simp [hd]
        refine RetOk.by (fun _ => none) ?_
        simp [results53, e]
end Go.Proofs.Tryz
namespace Go.Proofs.Tryz
open Go.Psl
open Go.Air
set_option maxHeartbeats 4000000 in
set_option maxRecDepth 20000 in
theorem fn163 (l : List (Int × Int)) (g : FuncId) (ds : List D) (q : (Int × Int) → Bool) (hl : l.length ≤ 1000000000) (hg : ∀ p ∈ l, Ct prog g (vsp p.1 p.2 :: ds.map .d) (vb (q p)) []) : Ct prog 163 [.d (spansD l), .d (.fn g ds)] (vb (l.all q)) [] := by
  refine Ct.by gok eok mixed func163 c163 rfl (by simp [ntmps163]) (by simp) (by simp [ResIds]) fun E hE => ?_
  simp [p163]
  refine pw_loop (α := Nat) (fun i => ⟨slots [(1, .d (.fn g ds)), (7, .d (spansD l)), (8, vi l.length), (9, vi i)], lk [], 0⟩) (fun i => i ≤ l.length ∧ ∀ j, j < i → (l[j]?).all q = true) (fun i => l.length - i) 0 ?_ ?_ ?_
  · exact ⟨by omega, fun j hj => by omega⟩
  · refine Weak.mk hE (lk []) _ _ _ ?_ ?_ ?_ ?_ ?_ <;> simp
  · rintro i ⟨hi, hg3⟩
    have hz : IntKind.wrap .i64 ((i : Int) + 1) = ((i + 1 : Nat) : Int) := by rw [wrap64 (by omega) (by omega)]; omega
    by_cases h : i < l.length
    · have hI : (i : Int) < l.length := by omega
      obtain ⟨p, hp⟩ : ∃ p, l[i]? = some p := ⟨_, List.getElem?_eq_getElem h⟩
      simp [p163l0, hI, hp, splice]
      refine ACall.mk _ _ _ (hg p (List.mem_of_getElem? hp)) (by first | (simp; done) | simp [Bor_ls, Bor1_ls]) (by simp) (by first | (left; simp; done) | (right; simp; done)) ?_
      cases hq : q p
      · have e : l.all q = false := by rw [List.all_eq_false]; exact ⟨p, List.mem_of_getElem? hp, by simp [hq]⟩
        simp
        refine RetOk.by (fun _ => none) ?_
        simp [results163, e]
      · simp [hz]
        refine ⟨i + 1, ⟨by omega, fun j hj => ?_⟩, by omega, ?_⟩
        · by_cases e : j = i
          · subst e; rw [hp]; simp [hq]
          · exact hg3 j (by omega)
        · refine Weak.mk hE (lk []) _ _ _ ?_ ?_ ?_ ?_ ?_ <;> simp
    · have hI : ¬ (i : Int) < l.length := by omega
      have e : l.all q = true := by
        rw [List.all_eq_true]
        intro x hx
        obtain ⟨j, hj⟩ := List.getElem?_of_mem hx
        have := hg3 j (by have := (List.getElem?_eq_some_iff.1 hj).1; omega)
        rw [hj] at this; simpa using this
      simp [p163l0, hI]
      refine RetOk.by (fun _ => none) ?_
      simp [results163, e]
set_option maxHeartbeats 4000000 in
set_option maxRecDepth 20000 in
theorem fn79 (l : List Cel) (g : FuncId) (ds : List D) (q : Cel → Bool) (hl : l.length ≤ 1000000000) (hg : ∀ p ∈ l, Ct prog g (cellV p :: ds.map .d) (vb (q p)) []) : Ct prog 79 [.d (cellsD l), .d (.fn g ds)] (vb (l.all q)) [] := by
  refine Ct.by gok eok mixed func79 c79 rfl (by simp [ntmps79]) (by simp) (by simp [ResIds]) fun E hE => ?_
  simp [p79]
  refine pw_loop (α := Nat) (fun i => ⟨slots [(1, .d (.fn g ds)), (7, .d (cellsD l)), (8, vi l.length), (9, vi i)], lk [], 0⟩) (fun i => i ≤ l.length ∧ ∀ j, j < i → (l[j]?).all q = true) (fun i => l.length - i) 0 ?_ ?_ ?_
  · exact ⟨by omega, fun j hj => by omega⟩
  · refine Weak.mk hE (lk []) _ _ _ ?_ ?_ ?_ ?_ ?_ <;> simp
  · rintro i ⟨hi, hg3⟩
    have hz : IntKind.wrap .i64 ((i : Int) + 1) = ((i + 1 : Nat) : Int) := by rw [wrap64 (by omega) (by omega)]; omega
    by_cases h : i < l.length
    · have hI : (i : Int) < l.length := by omega
      obtain ⟨p, hp⟩ : ∃ p, l[i]? = some p := ⟨_, List.getElem?_eq_getElem h⟩
      simp [p79l0, hI, hp, splice]
      refine ACall.mk _ _ _ (hg p (List.mem_of_getElem? hp)) (by first | (simp; done) | simp [Bor_ls, Bor1_ls]) (by simp) (by first | (left; simp; done) | (right; simp; done)) ?_
      cases hq : q p
      · have e : l.all q = false := by rw [List.all_eq_false]; exact ⟨p, List.mem_of_getElem? hp, by simp [hq]⟩
        simp
        refine RetOk.by (fun _ => none) ?_
        simp [results79, e]
      · simp [hz]
        refine ⟨i + 1, ⟨by omega, fun j hj => ?_⟩, by omega, ?_⟩
        · by_cases e : j = i
          · subst e; rw [hp]; simp [hq]
          · exact hg3 j (by omega)
        · refine Weak.mk hE (lk []) _ _ _ ?_ ?_ ?_ ?_ ?_ <;> simp
    · have hI : ¬ (i : Int) < l.length := by omega
      have e : l.all q = true := by
        rw [List.all_eq_true]
        intro x hx
        obtain ⟨j, hj⟩ := List.getElem?_of_mem hx
        have := hg3 j (by have := (List.getElem?_eq_some_iff.1 hj).1; omega)
        rw [hj] at this; simpa using this
      simp [p79l0, hI]
      refine RetOk.by (fun _ => none) ?_
      simp [results79, e]
theorem fn164 (lo hi : Int) (s : Int × Int) : Ct prog 164 [vsp s.1 s.2, .d (.ref [di lo]), .d (.ref [di hi])] (vb (spB lo hi s.1 s.2)) [] := by
  have c := fn91 lo hi [s.1, s.2] (by simp)
  by_cases h : s.1 ≤ s.2
  · have e : spB lo hi s.1 s.2 = rgB lo hi [s.1, s.2] := by unfold spB; simp [h]
    refine Ct.by gok eok mixed func164 c164 rfl (by simp [ntmps164]) (by simp) (by simp [ResIds]) fun E hE => ?_
    simp [p164, splice, repl, h]
    refine ACall.mk _ _ _ (c) (by simp [bor_i2]) (by simp) (by first | (left; simp; done) | (right; simp; done)) ?_
    simp
    refine RetOk.by (fun _ => none) ?_
    simp [results164, e]
  · have e : spB lo hi s.1 s.2 = false := by unfold spB; simp [h]
    refine Ct.by gok eok mixed func164 c164 rfl (by simp [ntmps164]) (by simp) (by simp [ResIds]) fun E hE => ?_
    simp [p164, h]
    refine RetOk.by (fun _ => none) ?_
    simp [results164, e]
theorem fn90 (lo hi : Int) (l : List (Int × Int)) (hl : l.length ≤ 1000000) : Ct prog 90 [vi lo, vi hi, .d (spansD l)] (vb (l.all fun s => spB lo hi s.1 s.2)) [] := by
  have c := fn163 l 164 [.ref [di lo], .ref [di hi]] (fun s => spB lo hi s.1 s.2) (by omega) fun s _ => fn164 lo hi s
  refine Ct.by gok eok mixed func90 c90 rfl (by simp [ntmps90]) (by simp) (by simp [ResIds]) fun E hE => ?_
  simp [p90]
  refine ACall.mk _ _ _ (c) (by first | (simp; done) | simp [Bor_ls, Bor1_ls]) (by simp) (by first | (left; simp; done) | (right; simp; done)) ?_
  simp
  refine RetOk.by (fun _ => none) ?_
  simp [results90]
theorem fn69 (a b : Int) : Ct prog 69 [.d (intsD [a, b])] (vi (if a = 0 then b else a)) [] := by
  have ww1 : IntKind.wrap .i64 1 = 1 := by decide
  have ww2 : IntKind.wrap .i64 2 = 2 := by decide
  refine Ct.by gok eok mixed func69 c69 rfl (by simp [ntmps69]) (by simp) (by simp [ResIds]) fun E hE => ?_
  simp [p69]
  refine pw_loop (α := Nat) (fun k => ⟨slots [(5, .d (intsD [a, b])), (6, vi 2), (7, vi k)], lk [], 0⟩) (fun k => k ≤ 2 ∧ (0 < k → a = 0) ∧ (1 < k → b = 0)) (fun k => 2 - k) 0 ?_ ?_ ?_
  · omega
  · refine Weak.mk hE (lk []) _ _ _ ?_ ?_ ?_ ?_ ?_ <;> simp
  · rintro i ⟨hi, h1, h2⟩
    match i, hi, h1, h2 with
    | 0, _, _, _ =>
      by_cases h : a = 0
      · simp [p69l0, h, ww1]
        refine ⟨1, ⟨by omega, by omega⟩, by omega, ?_⟩
        refine Weak.mk hE (lk []) _ _ _ ?_ ?_ ?_ ?_ ?_ <;> simp
      · simp [p69l0, h]
        refine RetOk.by (fun _ => none) ?_
        simp [results69]
    | 1, _, h1, _ =>
      have h1 := h1 (by omega)
      by_cases h : b = 0
      · simp [p69l0, h, ww2]
        refine ⟨2, ?_, by omega, ?_⟩
        · simp [h1]
        refine Weak.mk hE (lk []) _ _ _ ?_ ?_ ?_ ?_ ?_ <;> simp
      · simp [p69l0, h]
        refine RetOk.by (fun _ => none) ?_
        simp [results69, h1]
    | 2, _, h1, h2 =>
      have h1 := h1 (by omega)
      have h2 := h2 (by omega)
      simp [p69l0]
      refine RetOk.by (fun _ => none) ?_
      simp [results69, h1, h2]
    | i + 3, hi, _, _ => omega
structure Sky where
  s : List Lev
  w : List Gal
abbrev skyV (k : Sky) : V := .agg [.d (levsD k.s), .d (galsD k.w)]
def okSky (k : Sky) : Bool := decide ((setS k.s).2.2 = 0) && okWnd k.w
theorem fn32 (k : Sky) (h1 : k.s.length ≤ 1000000) (h2 : k.w.length ≤ 1000000) : Ct prog 32 [skyV k] (vi (if okSky k then 0 else 50)) [] := by
  have c1 := fn88 k.s h1
  have c2 := fn89 k.w h2
  have e : okSky k = (decide ((setS k.s).2.2 = 0) && okWnd k.w) := rfl
  unfold setV at c1
  generalize (setS k.s).2.2 = er at *
  by_cases h : er = 0
  · cases hw : okWnd k.w
    · rw [hw] at c2 e
      refine Ct.by gok eok mixed func32 c32 rfl (by simp [ntmps32]) (by simp) (by simp [ResIds]) fun E hE => ?_
      simp [p32]
      refine ACall.mk _ _ _ (c1) (by first | (simp; done) | simp [Bor_ls, Bor1_ls]) (by simp) (by first | (left; simp; done) | (right; simp; done)) ?_
      simp [h]
      refine ACall.mk _ _ _ (c2) (by first | (simp; done) | simp [Bor_ls, Bor1_ls]) (by simp) (by first | (left; simp; done) | (right; simp; done)) ?_
      simp
      refine RetOk.by (fun _ => none) ?_
      simp [results32, e]
    · rw [hw] at c2 e
      refine Ct.by gok eok mixed func32 c32 rfl (by simp [ntmps32]) (by simp) (by simp [ResIds]) fun E hE => ?_
      simp [p32]
      refine ACall.mk _ _ _ (c1) (by first | (simp; done) | simp [Bor_ls, Bor1_ls]) (by simp) (by first | (left; simp; done) | (right; simp; done)) ?_
      simp [h]
      refine ACall.mk _ _ _ (c2) (by first | (simp; done) | simp [Bor_ls, Bor1_ls]) (by simp) (by first | (left; simp; done) | (right; simp; done)) ?_
      simp
      refine RetOk.by (fun _ => none) ?_
      simp [results32, e, h]
  · refine Ct.by gok eok mixed func32 c32 rfl (by simp [ntmps32]) (by simp) (by simp [ResIds]) fun E hE => ?_
    simp [p32]
    refine ACall.mk _ _ _ (c1) (by first | (simp; done) | simp [Bor_ls, Bor1_ls]) (by simp) (by first | (left; simp; done) | (right; simp; done)) ?_
    simp [h]
    refine RetOk.by (fun _ => none) ?_
    simp [results32, e, h]
end Go.Proofs.Tryz
namespace Go.Proofs.Tryz
open Go.Psl
open Go.Air
structure Shp where
  xl : Int
  xh : Int
  yl : Int
  yh : Int
  hl : Int
  hh : Int
  fl : Int
  fh : Int
  wl : Int
  wh : Int
  bl : Int
  bh : Int
  dry : Int
  bal : Int
  drp : Int
  gas : Plt
abbrev shpV (s : Shp) (c : V) : V := .agg [vi s.xl, vi s.xh, vi s.yl, vi s.yh, vi s.hl, vi s.hh, vi s.fl, vi s.fh, vi s.wl, vi s.wh, vi s.bl, vi s.bh, vi s.dry, vi s.bal, vi s.drp, c, vi s.gas.bt, vi s.gas.ih, vi s.gas.ia, vi s.gas.vh, vi s.gas.va, vi s.gas.lh, vi s.gas.la, vi s.gas.ph, vi s.gas.pa]
def okShp (s : Shp) : Bool := (spB (-10000000) 10000000 s.xl s.xh && spB (-10000000) 10000000 s.yl s.yh) && spB (-500) 9000 s.hl s.hh && (spB 0 1000000000 s.fl s.fh && spB 0 1000000000 s.wl s.wh) && spB 0 1000000000000 s.bl s.bh && rgB 0 1000000000 [s.dry, s.bal] && rgB 0 1000000000000 [s.drp] && okPlt s.gas
theorem bor_s1 {H : Hp} {id : Nat} {a b : Int} (h : H id = some [vi a, vi b]) : Bor H (.ls id 0 1 2) (.d (spansD [(a, b)])) := by
  rw [Bor_ls]; exact ⟨rfl, rfl, by simp, _, h, rfl⟩
set_option maxRecDepth 20000 in
set_option maxHeartbeats 8000000 in
theorem fn36 (s : Shp) (hl : s.gas.cs.length ≤ 1000000000) : Ct prog 36 [shpV s (.d (cellsD s.gas.cs))] (vi (if okShp s then 0 else 52)) [] := by
  have c1 := fn90 (-10000000) 10000000 [(s.xl, s.xh), (s.yl, s.yh)] (by simp)
  have c2 := fn90 (-500) 9000 [(s.hl, s.hh)] (by simp)
  have c3 := fn90 0 1000000000 [(s.fl, s.fh), (s.wl, s.wh)] (by simp)
  have c4 := fn90 0 1000000000000 [(s.bl, s.bh)] (by simp)
  have c5 := fn91 0 1000000000 [s.dry, s.bal] (by simp)
  have c6 := fn91 0 1000000000000 [s.drp] (by simp)
  have c7 := fn53 s.gas hl
  simp only [List.all_cons, List.all_nil, Bool.and_true] at c1 c2 c3 c4
  have e : okShp s = ((spB (-10000000) 10000000 s.xl s.xh && spB (-10000000) 10000000 s.yl s.yh) && spB (-500) 9000 s.hl s.hh && (spB 0 1000000000 s.fl s.fh && spB 0 1000000000 s.wl s.wh) && spB 0 1000000000000 s.bl s.bh && rgB 0 1000000000 [s.dry, s.bal] && rgB 0 1000000000000 [s.drp] && okPlt s.gas) := rfl
  generalize (spB (-10000000) 10000000 s.xl s.xh && spB (-10000000) 10000000 s.yl s.yh) = b1 at *
  generalize spB (-500) 9000 s.hl s.hh = b2 at *
  generalize (spB 0 1000000000 s.fl s.fh && spB 0 1000000000 s.wl s.wh) = b3 at *
  generalize spB 0 1000000000000 s.bl s.bh = b4 at *
  generalize rgB 0 1000000000 [s.dry, s.bal] = b5 at *
  generalize rgB 0 1000000000000 [s.drp] = b6 at *
  generalize okPlt s.gas = b7 at *
  rw [e]
  cases b1
  · refine Ct.by gok eok mixed func36 c36 rfl (by simp [ntmps36]) (by simp) (by simp [ResIds]) fun E hE => ?_
    simp [p36, splice, repl]
    repeat ((first | (refine ACall.mk _ _ _ (c1) ?_ ?_ ?_ ?_; (focus (simp [bor_s2]; done)); (focus (simp; done)); (focus (first | (left; simp; done) | (right; simp; done)))) | (refine ACall.mk _ _ _ (c2) ?_ ?_ ?_ ?_; (focus (simp [bor_i1, bor_i2, bor_s1, bor_s2]; done)); (focus (simp; done)); (focus (first | (left; simp; done) | (right; simp; done)))) | (refine ACall.mk _ _ _ (c3) ?_ ?_ ?_ ?_; (focus (simp [bor_i1, bor_i2, bor_s1, bor_s2]; done)); (focus (simp; done)); (focus (first | (left; simp; done) | (right; simp; done)))) | (refine ACall.mk _ _ _ (c4) ?_ ?_ ?_ ?_; (focus (simp [bor_i1, bor_i2, bor_s1, bor_s2]; done)); (focus (simp; done)); (focus (first | (left; simp; done) | (right; simp; done)))) | (refine ACall.mk _ _ _ (c5) ?_ ?_ ?_ ?_; (focus (simp [bor_i1, bor_i2, bor_s1, bor_s2]; done)); (focus (simp; done)); (focus (first | (left; simp; done) | (right; simp; done)))) | (refine ACall.mk _ _ _ (c6) ?_ ?_ ?_ ?_; (focus (simp [bor_i1, bor_i2, bor_s1, bor_s2]; done)); (focus (simp; done)); (focus (first | (left; simp; done) | (right; simp; done)))) | (refine ACall.mk _ _ _ (c7) ?_ ?_ ?_ ?_; (focus (simp [bor_i1, bor_i2, bor_s1, bor_s2]; done)); (focus (simp; done)); (focus (first | (left; simp; done) | (right; simp; done))))); simp)
    refine RetOk.by (fun _ => none) ?_
    simp [results36]
  cases b2
  · refine Ct.by gok eok mixed func36 c36 rfl (by simp [ntmps36]) (by simp) (by simp [ResIds]) fun E hE => ?_
    simp [p36, splice, repl]
    repeat ((first | (refine ACall.mk _ _ _ (c1) ?_ ?_ ?_ ?_; (focus (simp [bor_s2]; done)); (focus (simp; done)); (focus (first | (left; simp; done) | (right; simp; done)))) | (refine ACall.mk _ _ _ (c2) ?_ ?_ ?_ ?_; (focus (simp [bor_s1]; done)); (focus (simp; done)); (focus (first | (left; simp; done) | (right; simp; done)))) | (refine ACall.mk _ _ _ (c3) ?_ ?_ ?_ ?_; (focus (simp [bor_i1, bor_i2, bor_s1, bor_s2]; done)); (focus (simp; done)); (focus (first | (left; simp; done) | (right; simp; done)))) | (refine ACall.mk _ _ _ (c4) ?_ ?_ ?_ ?_; (focus (simp [bor_i1, bor_i2, bor_s1, bor_s2]; done)); (focus (simp; done)); (focus (first | (left; simp; done) | (right; simp; done)))) | (refine ACall.mk _ _ _ (c5) ?_ ?_ ?_ ?_; (focus (simp [bor_i1, bor_i2, bor_s1, bor_s2]; done)); (focus (simp; done)); (focus (first | (left; simp; done) | (right; simp; done)))) | (refine ACall.mk _ _ _ (c6) ?_ ?_ ?_ ?_; (focus (simp [bor_i1, bor_i2, bor_s1, bor_s2]; done)); (focus (simp; done)); (focus (first | (left; simp; done) | (right; simp; done)))) | (refine ACall.mk _ _ _ (c7) ?_ ?_ ?_ ?_; (focus (simp [bor_i1, bor_i2, bor_s1, bor_s2]; done)); (focus (simp; done)); (focus (first | (left; simp; done) | (right; simp; done))))); simp [splice, repl])
    refine RetOk.by (fun _ => none) ?_
    simp [results36]
  cases b3
  · refine Ct.by gok eok mixed func36 c36 rfl (by simp [ntmps36]) (by simp) (by simp [ResIds]) fun E hE => ?_
    simp [p36, splice, repl]
    repeat ((first | (refine ACall.mk _ _ _ (c1) ?_ ?_ ?_ ?_; (focus (simp [bor_s2]; done)); (focus (simp; done)); (focus (first | (left; simp; done) | (right; simp; done)))) | (refine ACall.mk _ _ _ (c2) ?_ ?_ ?_ ?_; (focus (simp [bor_s1]; done)); (focus (simp; done)); (focus (first | (left; simp; done) | (right; simp; done)))) | (refine ACall.mk _ _ _ (c3) ?_ ?_ ?_ ?_; (focus (simp [bor_s2]; done)); (focus (simp; done)); (focus (first | (left; simp; done) | (right; simp; done)))) | (refine ACall.mk _ _ _ (c4) ?_ ?_ ?_ ?_; (focus (simp [bor_i1, bor_i2, bor_s1, bor_s2]; done)); (focus (simp; done)); (focus (first | (left; simp; done) | (right; simp; done)))) | (refine ACall.mk _ _ _ (c5) ?_ ?_ ?_ ?_; (focus (simp [bor_i1, bor_i2, bor_s1, bor_s2]; done)); (focus (simp; done)); (focus (first | (left; simp; done) | (right; simp; done)))) | (refine ACall.mk _ _ _ (c6) ?_ ?_ ?_ ?_; (focus (simp [bor_i1, bor_i2, bor_s1, bor_s2]; done)); (focus (simp; done)); (focus (first | (left; simp; done) | (right; simp; done)))) | (refine ACall.mk _ _ _ (c7) ?_ ?_ ?_ ?_; (focus (simp [bor_i1, bor_i2, bor_s1, bor_s2]; done)); (focus (simp; done)); (focus (first | (left; simp; done) | (right; simp; done))))); simp [splice, repl])
    refine RetOk.by (fun _ => none) ?_
    simp [results36]
  cases b4
  · refine Ct.by gok eok mixed func36 c36 rfl (by simp [ntmps36]) (by simp) (by simp [ResIds]) fun E hE => ?_
    simp [p36, splice, repl]
    repeat ((first | (refine ACall.mk _ _ _ (c1) ?_ ?_ ?_ ?_; (focus (simp [bor_s2]; done)); (focus (simp; done)); (focus (first | (left; simp; done) | (right; simp; done)))) | (refine ACall.mk _ _ _ (c2) ?_ ?_ ?_ ?_; (focus (simp [bor_s1]; done)); (focus (simp; done)); (focus (first | (left; simp; done) | (right; simp; done)))) | (refine ACall.mk _ _ _ (c3) ?_ ?_ ?_ ?_; (focus (simp [bor_s2]; done)); (focus (simp; done)); (focus (first | (left; simp; done) | (right; simp; done)))) | (refine ACall.mk _ _ _ (c4) ?_ ?_ ?_ ?_; (focus (simp [bor_s1]; done)); (focus (simp; done)); (focus (first | (left; simp; done) | (right; simp; done)))) | (refine ACall.mk _ _ _ (c5) ?_ ?_ ?_ ?_; (focus (simp [bor_i1, bor_i2, bor_s1, bor_s2]; done)); (focus (simp; done)); (focus (first | (left; simp; done) | (right; simp; done)))) | (refine ACall.mk _ _ _ (c6) ?_ ?_ ?_ ?_; (focus (simp [bor_i1, bor_i2, bor_s1, bor_s2]; done)); (focus (simp; done)); (focus (first | (left; simp; done) | (right; simp; done)))) | (refine ACall.mk _ _ _ (c7) ?_ ?_ ?_ ?_; (focus (simp [bor_i1, bor_i2, bor_s1, bor_s2]; done)); (focus (simp; done)); (focus (first | (left; simp; done) | (right; simp; done))))); simp [splice, repl])
    refine RetOk.by (fun _ => none) ?_
    simp [results36]
  cases b5
  · refine Ct.by gok eok mixed func36 c36 rfl (by simp [ntmps36]) (by simp) (by simp [ResIds]) fun E hE => ?_
    simp [p36, splice, repl]
    repeat ((first | (refine ACall.mk _ _ _ (c1) ?_ ?_ ?_ ?_; (focus (simp [bor_s2]; done)); (focus (simp; done)); (focus (first | (left; simp; done) | (right; simp; done)))) | (refine ACall.mk _ _ _ (c2) ?_ ?_ ?_ ?_; (focus (simp [bor_s1]; done)); (focus (simp; done)); (focus (first | (left; simp; done) | (right; simp; done)))) | (refine ACall.mk _ _ _ (c3) ?_ ?_ ?_ ?_; (focus (simp [bor_s2]; done)); (focus (simp; done)); (focus (first | (left; simp; done) | (right; simp; done)))) | (refine ACall.mk _ _ _ (c4) ?_ ?_ ?_ ?_; (focus (simp [bor_s1]; done)); (focus (simp; done)); (focus (first | (left; simp; done) | (right; simp; done)))) | (refine ACall.mk _ _ _ (c5) ?_ ?_ ?_ ?_; (focus (simp [bor_i2]; done)); (focus (simp; done)); (focus (first | (left; simp; done) | (right; simp; done)))) | (refine ACall.mk _ _ _ (c6) ?_ ?_ ?_ ?_; (focus (simp [bor_i1, bor_i2, bor_s1, bor_s2]; done)); (focus (simp; done)); (focus (first | (left; simp; done) | (right; simp; done)))) | (refine ACall.mk _ _ _ (c7) ?_ ?_ ?_ ?_; (focus (simp [bor_i1, bor_i2, bor_s1, bor_s2]; done)); (focus (simp; done)); (focus (first | (left; simp; done) | (right; simp; done))))); simp [splice, repl])
    refine RetOk.by (fun _ => none) ?_
    simp [results36]
  cases b6
  · refine Ct.by gok eok mixed func36 c36 rfl (by simp [ntmps36]) (by simp) (by simp [ResIds]) fun E hE => ?_
    simp [p36, splice, repl]
    repeat ((first | (refine ACall.mk _ _ _ (c1) ?_ ?_ ?_ ?_; (focus (simp [bor_s2]; done)); (focus (simp; done)); (focus (first | (left; simp; done) | (right; simp; done)))) | (refine ACall.mk _ _ _ (c2) ?_ ?_ ?_ ?_; (focus (simp [bor_s1]; done)); (focus (simp; done)); (focus (first | (left; simp; done) | (right; simp; done)))) | (refine ACall.mk _ _ _ (c3) ?_ ?_ ?_ ?_; (focus (simp [bor_s2]; done)); (focus (simp; done)); (focus (first | (left; simp; done) | (right; simp; done)))) | (refine ACall.mk _ _ _ (c4) ?_ ?_ ?_ ?_; (focus (simp [bor_s1]; done)); (focus (simp; done)); (focus (first | (left; simp; done) | (right; simp; done)))) | (refine ACall.mk _ _ _ (c5) ?_ ?_ ?_ ?_; (focus (simp [bor_i2]; done)); (focus (simp; done)); (focus (first | (left; simp; done) | (right; simp; done)))) | (refine ACall.mk _ _ _ (c6) ?_ ?_ ?_ ?_; (focus (simp [bor_i1]; done)); (focus (simp; done)); (focus (first | (left; simp; done) | (right; simp; done)))) | (refine ACall.mk _ _ _ (c7) ?_ ?_ ?_ ?_; (focus (simp [bor_i1, bor_i2, bor_s1, bor_s2]; done)); (focus (simp; done)); (focus (first | (left; simp; done) | (right; simp; done))))); simp [splice, repl])
    refine RetOk.by (fun _ => none) ?_
    simp [results36]
  cases b7
  · refine Ct.by gok eok mixed func36 c36 rfl (by simp [ntmps36]) (by simp) (by simp [ResIds]) fun E hE => ?_
    simp [p36, splice, repl]
    repeat ((first | (refine ACall.mk _ _ _ (c1) ?_ ?_ ?_ ?_; (focus (simp [bor_s2]; done)); (focus (simp; done)); (focus (first | (left; simp; done) | (right; simp; done)))) | (refine ACall.mk _ _ _ (c2) ?_ ?_ ?_ ?_; (focus (simp [bor_s1]; done)); (focus (simp; done)); (focus (first | (left; simp; done) | (right; simp; done)))) | (refine ACall.mk _ _ _ (c3) ?_ ?_ ?_ ?_; (focus (simp [bor_s2]; done)); (focus (simp; done)); (focus (first | (left; simp; done) | (right; simp; done)))) | (refine ACall.mk _ _ _ (c4) ?_ ?_ ?_ ?_; (focus (simp [bor_s1]; done)); (focus (simp; done)); (focus (first | (left; simp; done) | (right; simp; done)))) | (refine ACall.mk _ _ _ (c5) ?_ ?_ ?_ ?_; (focus (simp [bor_i2]; done)); (focus (simp; done)); (focus (first | (left; simp; done) | (right; simp; done)))) | (refine ACall.mk _ _ _ (c6) ?_ ?_ ?_ ?_; (focus (simp [bor_i1]; done)); (focus (simp; done)); (focus (first | (left; simp; done) | (right; simp; done)))) | (refine ACall.mk _ _ _ (c7) ?_ ?_ ?_ ?_; (focus (simp; done)); (focus (simp; done)); (focus (first | (left; simp; done) | (right; simp; done))))); simp [splice, repl])
    refine RetOk.by (fun _ => none) ?_
    simp [results36]
  · refine Ct.by gok eok mixed func36 c36 rfl (by simp [ntmps36]) (by simp) (by simp [ResIds]) fun E hE => ?_
    simp [p36, splice, repl]
    repeat ((first | (refine ACall.mk _ _ _ (c1) ?_ ?_ ?_ ?_; (focus (simp [bor_s2]; done)); (focus (simp; done)); (focus (first | (left; simp; done) | (right; simp; done)))) | (refine ACall.mk _ _ _ (c2) ?_ ?_ ?_ ?_; (focus (simp [bor_s1]; done)); (focus (simp; done)); (focus (first | (left; simp; done) | (right; simp; done)))) | (refine ACall.mk _ _ _ (c3) ?_ ?_ ?_ ?_; (focus (simp [bor_s2]; done)); (focus (simp; done)); (focus (first | (left; simp; done) | (right; simp; done)))) | (refine ACall.mk _ _ _ (c4) ?_ ?_ ?_ ?_; (focus (simp [bor_s1]; done)); (focus (simp; done)); (focus (first | (left; simp; done) | (right; simp; done)))) | (refine ACall.mk _ _ _ (c5) ?_ ?_ ?_ ?_; (focus (simp [bor_i2]; done)); (focus (simp; done)); (focus (first | (left; simp; done) | (right; simp; done)))) | (refine ACall.mk _ _ _ (c6) ?_ ?_ ?_ ?_; (focus (simp [bor_i1]; done)); (focus (simp; done)); (focus (first | (left; simp; done) | (right; simp; done)))) | (refine ACall.mk _ _ _ (c7) ?_ ?_ ?_ ?_; (focus (simp; done)); (focus (simp; done)); (focus (first | (left; simp; done) | (right; simp; done))))); simp [splice, repl])
    refine RetOk.by (fun _ => none) ?_
    simp [results36]
end Go.Proofs.Tryz
namespace Go.Proofs.Tryz
open Go.Psl
open Go.Air
theorem fn190 (a b c d : Int) (h : -100000 ≤ a ∧ a ≤ 100000) (h1 : -100000 ≤ b ∧ b ≤ 100000) (h2 : -100000 ≤ c ∧ c ≤ 100000) (h3 : -100000 ≤ d ∧ d ≤ 100000) : Ct prog 190 [vsp a b, vsp c d] (vsp (a + c) (b + d)) [] := by
  have w1 : IntKind.wrap .i64 (a + c) = a + c := wrap64 (by omega) (by omega)
  have w2 : IntKind.wrap .i64 (b + d) = b + d := wrap64 (by omega) (by omega)
  refine Ct.by gok eok mixed func190 c190 rfl (by simp [ntmps190]) (by simp) (by simp [ResIds]) fun E hE => ?_
  simp [p190, splice, w1, w2]
  refine RetOk.by (fun _ => none) ?_
  simp [results190]
abbrev putV (c : Cel) (a : Atm) : V := .agg [vi c.rm, vi c.he, vi c.ai, vi c.wl, vi c.wh, vi c.lk, vi c.ow, vi a.pl, vi a.ph, vi a.tl, vi a.th, vi (am c), vi (a.tl + c.wl), vi (a.th + c.wh)]
set_option maxRecDepth 20000 in
theorem fn123 (c : Cel) (a : Atm) (hc : CelB c) (ha : AirB a) : Ct prog 123 [cellV c, airV a] (.tup [putV c a, vi 0]) [] := by
  have c1 := fn116 c
  have c2 := fn191 a
  rw [okCel_iff.2 hc] at c1
  rw [okAir_iff.2 ha] at c2
  have h1 := hc.he
  have h2 := hc.ai
  have h3 := hc.w
  have h4 := ha.t
  have c3 := fn190 a.tl a.th c.wl c.wh (by omega) (by omega) (by omega) (by omega)
  have w : IntKind.wrap .i64 (c.he + c.ai) = am c := by unfold am; exact wrap64 (by omega) (by omega)
  refine Ct.by gok eok mixed func123 c123 rfl (by simp [ntmps123]) (by simp) (by simp [ResIds]) fun E hE => ?_
  simp [p123]
  refine ACall.mk _ _ _ (c1) (by first | (simp; done) | simp [Bor_ls, Bor1_ls]) (by simp) (by first | (left; simp; done) | (right; simp; done)) ?_
  simp [w, inC, Nat.testBit]
  refine ACall.mk _ _ _ (c3) (by first | (simp; done) | simp [Bor_ls, Bor1_ls]) (by simp) (by first | (left; simp; done) | (right; simp; done)) ?_
  simp [splice, inC, Nat.testBit]
  refine ACall.mk _ _ _ (c2) (by first | (simp; done) | simp [Bor_ls, Bor1_ls]) (by simp) (by first | (left; simp; done) | (right; simp; done)) ?_
  simp [splice]
  refine RetOk.by (fun _ => none) ?_
  simp [results123]
theorem fit_bd {c : Cel} {a : Atm} (hc : CelB c) (ha : AirB a) : (0 ≤ am c * (a.th + c.wh) ∧ am c * (a.th + c.wh) ≤ 1000000000000) ∧ (0 ≤ am c * (a.tl + c.wl) ∧ am c * (a.tl + c.wl) ≤ 1000000000000) ∧ (0 ≤ c.rm * a.pl ∧ c.rm * a.pl ≤ 1000000000000) ∧ 0 ≤ c.rm * a.ph ∧ c.rm * a.ph ≤ 1000000000000 := by
  have h1 := am_bd hc
  have h2 := hc.w
  have h3 := ha.t
  have h4 := ha.p
  have h5 := hc.rm
  have m1 := mul_bd (x := am c) (y := a.th + c.wh) (X := 20000000) (Y := 5000) (by omega) (by omega)
  have m2 := mul_bd (x := am c) (y := a.tl + c.wl) (X := 20000000) (Y := 5000) (by omega) (by omega)
  have m3 := mul_bd (x := c.rm) (y := a.pl) (X := 10000000) (Y := 12000) (by omega) (by omega)
  have m4 := mul_bd (x := c.rm) (y := a.ph) (X := 10000000) (Y := 12000) (by omega) (by omega)
  have p1 : 0 ≤ am c * (a.th + c.wh) := Int.mul_nonneg h1.1 (by omega)
  have p2 : 0 ≤ am c * (a.tl + c.wl) := Int.mul_nonneg h1.1 (by omega)
  have p3 : 0 ≤ c.rm * a.pl := Int.mul_nonneg (by omega) (by omega)
  have p4 : 0 ≤ c.rm * a.ph := Int.mul_nonneg (by omega) (by omega)
  omega
abbrev vu8 (n : Int) : V := .d (.lit (.int .u8 n))
set_option maxRecDepth 20000 in
theorem fn58 (c : Cel) (a : Atm) (hc : CelB c) (ha : AirB a) : Ct prog 58 [cellV c, airV a] (.tup [vu8 (fitV c a), vi 0]) [] := by
  have c1 := fn123 c a hc ha
  have b := fit_bd hc ha
  have w1 : IntKind.wrap .i64 (am c * (a.th + c.wh)) = am c * (a.th + c.wh) := wrap64 (by omega) (by omega)
  have w2 : IntKind.wrap .i64 (am c * (a.tl + c.wl)) = am c * (a.tl + c.wl) := wrap64 (by omega) (by omega)
  have w3 : IntKind.wrap .i64 (c.rm * a.pl) = c.rm * a.pl := wrap64 (by omega) (by omega)
  have w4 : IntKind.wrap .i64 (c.rm * a.ph) = c.rm * a.ph := wrap64 (by omega) (by omega)
  by_cases h1 : am c * (a.th + c.wh) ≤ c.rm * a.pl
  · refine Ct.by gok eok mixed func58 c58 rfl (by simp [ntmps58]) (by simp) (by simp [ResIds]) fun E hE => ?_
    simp [p58]
    refine ACall.mk _ _ _ (c1) (by first | (simp; done) | simp [Bor_ls, Bor1_ls]) (by simp) (by first | (left; simp; done) | (right; simp; done)) ?_
    simp [splice, w1, w3, h1]
    refine RetOk.by (fun _ => none) ?_
    simp [results58, fitV, h1]
  · by_cases h2 : c.rm * a.ph < am c * (a.tl + c.wl)
    · refine Ct.by gok eok mixed func58 c58 rfl (by simp [ntmps58]) (by simp) (by simp [ResIds]) fun E hE => ?_
      simp [p58]
      refine ACall.mk _ _ _ (c1) (by first | (simp; done) | simp [Bor_ls, Bor1_ls]) (by simp) (by first | (left; simp; done) | (right; simp; done)) ?_
      simp [splice, w1, w2, w3, w4, h1, h2]
      refine RetOk.by (fun _ => none) ?_
      simp [results58, fitV, h1, h2]
    · refine Ct.by gok eok mixed func58 c58 rfl (by simp [ntmps58]) (by simp) (by simp [ResIds]) fun E hE => ?_
      simp [p58]
      refine ACall.mk _ _ _ (c1) (by first | (simp; done) | simp [Bor_ls, Bor1_ls]) (by simp) (by first | (left; simp; done) | (right; simp; done)) ?_
      simp [splice, w1, w2, w3, w4, h1, h2]
      refine RetOk.by (fun _ => none) ?_
      simp [results58, fitV, h1, h2]
set_option maxRecDepth 20000 in
theorem fn75 (c : Cel) (a : Atm) (hc : CelB c) (ha : AirB a) : Ct prog 75 [cellV c, airV a] (.tup [vsp (valV c a).1 (valV c a).2, vi 0]) [] := by
  have c1 := fn123 c a hc ha
  have b := fit_bd hc ha
  have h1 := am_bd hc
  have h2 := hc.w
  have h3 := ha.t
  have w3 : IntKind.wrap .i64 (c.rm * a.pl) = c.rm * a.pl := wrap64 (by omega) (by omega)
  have w4 : IntKind.wrap .i64 (c.rm * a.ph) = c.rm * a.ph := wrap64 (by omega) (by omega)
  have d1 := fn144 (c.rm * a.ph) (a.tl + c.wl) (by omega) (by omega)
  have d2 := fn144 (c.rm * a.pl) (a.th + c.wh) (by omega) (by omega)
  have f1 := fl_bd (a := c.rm * a.ph) (b := a.tl + c.wl) (by omega) (by omega)
  have f2 := fl_bd (a := c.rm * a.pl) (b := a.th + c.wh) (by omega) (by omega)
  have w5 : IntKind.wrap .i64 (am c - fl (c.rm * a.ph) (a.tl + c.wl)) = am c - fl (c.rm * a.ph) (a.tl + c.wl) := wrap64 (by omega) (by omega)
  have w6 : IntKind.wrap .i64 (am c - fl (c.rm * a.pl) (a.th + c.wh)) = am c - fl (c.rm * a.pl) (a.th + c.wh) := wrap64 (by omega) (by omega)
  refine Ct.by gok eok mixed func75 c75 rfl (by simp [ntmps75]) (by simp) (by simp [ResIds]) fun E hE => ?_
  simp [p75]
  refine ACall.mk _ _ _ (c1) (by first | (simp; done) | simp [Bor_ls, Bor1_ls]) (by simp) (by first | (left; simp; done) | (right; simp; done)) ?_
  simp [splice]
  refine pw_drawW [(22, 36700160)] (by kernel_rfl) ?_
  simp [splice, w3, w4, inC, Nat.testBit]
  refine ACall.mk _ _ _ (d1) (by first | (simp; done) | simp [Bor_ls, Bor1_ls]) (by simp) (by first | (left; simp; done) | (right; simp; done)) ?_
  simp [w5, inC, Nat.testBit]
  refine ACall.mk _ _ _ (d2) (by first | (simp; done) | simp [Bor_ls, Bor1_ls]) (by simp) (by first | (left; simp; done) | (right; simp; done)) ?_
  simp [splice, w6]
  refine RetOk.by (fun _ => none) ?_
  simp [results75, valV]
end Go.Proofs.Tryz
