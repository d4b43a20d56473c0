/- Own lemmas and contracts of functions, used by the last text of this claim for the given statement. Conditions: those that each theorem states. -/
import Derived.Test.YtigekgfbcfbobaaGreatAh
import Derived.Test.YtigekgfbcfbobaaGreatAf
import Derived.Test.YtigekgfbcfbobaaGreatAg
import Derived.Test.YtigekgfbcfbobaaGreatAe
import Derived.Test.YtigekgfbcfbobaaGreatRows
namespace Go.Proofs.Tryz
open Go.Psl
open Go.Air
abbrev prL (r : Int × Int) : List D := [di r.1, di r.2]
def ratT (c : Cel) (w : Int) (t : Int) : Int × Int := (29 * am c * w, t)
theorem rat_bd {c : Cel} (hc : CelB c) {w : Int} (hw : -300 ≤ w ∧ w ≤ 300) : (-1000000000 ≤ 29 * am c ∧ 29 * am c ≤ 1000000000) ∧ -1000000000000 ≤ 29 * am c * w ∧ 29 * am c * w ≤ 1000000000000 := by
  have h1 := am_bd hc
  have := mul_bd (x := 29 * am c) (y := w) (X := 1000000000) (Y := 300) (by omega) (by omega)
  omega
def accG (c : Cel) (a : Atm) (w : Int) (B : List (Int × Int)) (k : Nat) : List (Int × Int) := B ++ ([a.tl, a.th].take k).map (ratT c w)
theorem accR_next {c : Cel} {a : Atm} {w t : Int} {B : List (Int × Int)} {j : Nat} (h : [a.tl, a.th][j]? = some t) : accG c a w B (j + 1) = accG c a w B j ++ [ratT c w t] := by
  unfold accG; rw [List.take_add_one, h]; simp
theorem hfp : ∀ r : Int × Int, (prL r).length = 2 := fun _ => rfl
set_option maxRecDepth 20000 in
set_option maxHeartbeats 4000000 in
theorem lift_in (c : Cel) (a : Atm) (hc : CelB c) (w : Int) (hw : -300 ≤ w ∧ w ≤ 300) (B : List (Int × Int)) (hB : B.length ≤ 100) (i : Nat) {E : Ent} (hE : ∀ i, ¬ E.stab i) {Q : AExit → St → Prop} : ∀ j : Nat, j ≤ 2 → PW prog tys eqs E p133l0
    (seqQ (fun st' => ∃ k, k ≤ 2 ∧ 2 - k < 2 - j ∧ Weak prog E st' ⟨slots [(2, .lp 0 0), (3, .lp 1 0), (4, .lp 2 0), (6, .lp 3 0), (31, .ls 4 0 2 1), (32, vi 2), (33, vi i), (10, vi w), (43, .ls 5 0 2 1), (44, vi 2), (45, vi k), (8, hdF 2 (accG c a w B k) 6)], lk ([(0, [vi c.rm, vi c.he, vi c.ai, vi c.wl, vi c.wh, vi c.lk, vi c.ow]), (1, [vi a.pl, vi a.ph, vi a.tl, vi a.th]), (2, [vi 0, vi 0]), (3, [vi c.rm, vi c.he, vi c.ai, vi c.wl, vi c.wh, vi c.lk, vi c.ow, vi a.pl, vi a.ph, vi a.tl, vi a.th, vi (am c), vi (a.tl + c.wl), vi (a.th + c.wh)]), (4, [vi c.wl, vi c.wh]), (5, [vi a.tl, vi a.th])] ++ ouF prL (accG c a w B k) 6), 7⟩)
      (exC prog E Q 2 (fun _ : Unit => ⟨slots [(2, .lp 0 0), (3, .lp 1 0), (4, .lp 2 0), (6, .lp 3 0), (31, .ls 4 0 2 1), (32, vi 2), (33, vi i), (8, hdF 2 (B ++ [ratT c w a.tl, ratT c w a.th]) 6)], lk ([(0, [vi c.rm, vi c.he, vi c.ai, vi c.wl, vi c.wh, vi c.lk, vi c.ow]), (1, [vi a.pl, vi a.ph, vi a.tl, vi a.th]), (2, [vi 0, vi 0]), (3, [vi c.rm, vi c.he, vi c.ai, vi c.wl, vi c.wh, vi c.lk, vi c.ow, vi a.pl, vi a.ph, vi a.tl, vi a.th, vi (am c), vi (a.tl + c.wl), vi (a.th + c.wh)]), (4, [vi c.wl, vi c.wh])] ++ ouF prL (B ++ [ratT c w a.tl, ratT c w a.th]) 6), 7⟩) (fun _ => True)))
    ⟨slots [(2, .lp 0 0), (3, .lp 1 0), (4, .lp 2 0), (6, .lp 3 0), (31, .ls 4 0 2 1), (32, vi 2), (33, vi i), (10, vi w), (43, .ls 5 0 2 1), (44, vi 2), (45, vi j), (8, hdF 2 (accG c a w B j) 6)], lk ([(0, [vi c.rm, vi c.he, vi c.ai, vi c.wl, vi c.wh, vi c.lk, vi c.ow]), (1, [vi a.pl, vi a.ph, vi a.tl, vi a.th]), (2, [vi 0, vi 0]), (3, [vi c.rm, vi c.he, vi c.ai, vi c.wl, vi c.wh, vi c.lk, vi c.ow, vi a.pl, vi a.ph, vi a.tl, vi a.th, vi (am c), vi (a.tl + c.wl), vi (a.th + c.wh)]), (4, [vi c.wl, vi c.wh]), (5, [vi a.tl, vi a.th])] ++ ouF prL (accG c a w B j) 6), 7⟩ := by
  have hb := rat_bd hc hw
  have w1 : IntKind.wrap .i64 (29 * am c) = 29 * am c := wrap64 (by omega) (by omega)
  have w2 : IntKind.wrap .i64 (29 * am c * w) = 29 * am c * w := wrap64 (by omega) (by omega)
  have step : ∀ (j : Nat) (t : Int) (O : List (Int × Int)), O.length ≤ 200 → [a.tl, a.th][j]? = some t → accG c a w B j = O → accG c a w B (j + 1) = O ++ [ratT c w t] → PW prog tys eqs E p133l0
    (seqQ (fun st' => ∃ k, k ≤ 2 ∧ 2 - k < 2 - j ∧ Weak prog E st' ⟨slots [(2, .lp 0 0), (3, .lp 1 0), (4, .lp 2 0), (6, .lp 3 0), (31, .ls 4 0 2 1), (32, vi 2), (33, vi i), (10, vi w), (43, .ls 5 0 2 1), (44, vi 2), (45, vi k), (8, hdF 2 (accG c a w B k) 6)], lk ([(0, [vi c.rm, vi c.he, vi c.ai, vi c.wl, vi c.wh, vi c.lk, vi c.ow]), (1, [vi a.pl, vi a.ph, vi a.tl, vi a.th]), (2, [vi 0, vi 0]), (3, [vi c.rm, vi c.he, vi c.ai, vi c.wl, vi c.wh, vi c.lk, vi c.ow, vi a.pl, vi a.ph, vi a.tl, vi a.th, vi (am c), vi (a.tl + c.wl), vi (a.th + c.wh)]), (4, [vi c.wl, vi c.wh]), (5, [vi a.tl, vi a.th])] ++ ouF prL (accG c a w B k) 6), 7⟩)
      (exC prog E Q 2 (fun _ : Unit => ⟨slots [(2, .lp 0 0), (3, .lp 1 0), (4, .lp 2 0), (6, .lp 3 0), (31, .ls 4 0 2 1), (32, vi 2), (33, vi i), (8, hdF 2 (B ++ [ratT c w a.tl, ratT c w a.th]) 6)], lk ([(0, [vi c.rm, vi c.he, vi c.ai, vi c.wl, vi c.wh, vi c.lk, vi c.ow]), (1, [vi a.pl, vi a.ph, vi a.tl, vi a.th]), (2, [vi 0, vi 0]), (3, [vi c.rm, vi c.he, vi c.ai, vi c.wl, vi c.wh, vi c.lk, vi c.ow, vi a.pl, vi a.ph, vi a.tl, vi a.th, vi (am c), vi (a.tl + c.wl), vi (a.th + c.wh)]), (4, [vi c.wl, vi c.wh])] ++ ouF prL (B ++ [ratT c w a.tl, ratT c w a.th]) 6), 7⟩) (fun _ => True)))
    ⟨slots [(2, .lp 0 0), (3, .lp 1 0), (4, .lp 2 0), (6, .lp 3 0), (31, .ls 4 0 2 1), (32, vi 2), (33, vi i), (10, vi w), (43, .ls 5 0 2 1), (44, vi 2), (45, vi j), (8, hdF 2 O 6)], lk ([(0, [vi c.rm, vi c.he, vi c.ai, vi c.wl, vi c.wh, vi c.lk, vi c.ow]), (1, [vi a.pl, vi a.ph, vi a.tl, vi a.th]), (2, [vi 0, vi 0]), (3, [vi c.rm, vi c.he, vi c.ai, vi c.wl, vi c.wh, vi c.lk, vi c.ow, vi a.pl, vi a.ph, vi a.tl, vi a.th, vi (am c), vi (a.tl + c.wl), vi (a.th + c.wh)]), (4, [vi c.wl, vi c.wh]), (5, [vi a.tl, vi a.th])] ++ ouF prL O 6), 7⟩ := by
    intro j t O hO ht _ hnx
    have hj : j < 2 := by have := (List.getElem?_eq_some_iff.1 ht).1; simpa using this
    have hz : IntKind.wrap .i64 ((j : Int) + 1) = ((j + 1 : Nat) : Int) := by rw [wrap64 (by omega) (by omega)]; omega
    have hI : (j : Int) < 2 := by omega
    have hj1 : j ≤ 1 := by omega
    have hcel : ([vi a.tl, vi a.th] : List V)[j]? = some (vi t) := by
      have : ([vi a.tl, vi a.th] : List V) = [a.tl, a.th].map vi := rfl
      rw [this, List.getElem?_map, ht]; rfl
    have hcel2 : ([vi a.tl, vi a.th] : List V).drop j = vi t :: ([vi a.tl, vi a.th] : List V).drop (j + 1) := by
      rw [List.drop_eq_getElem?_toList_append, hcel]; rfl
    have hk : (2 : Nat) - (j + 1) < 2 - j := by omega
    by_cases hne : O = []
    · subst hne
      rw [hdF_nil, ouF_nil]
      simp [p133l0, hI, hj1, hcel2, splice, repl, w1, w2, hz]
      refine ⟨j + 1, by omega, hk, ?_⟩
      rw [hnx, hdF_ne (by simp), ouF_ne (by simp)]
      refine Weak.mk hE (lk [(0, 0), (1, 1), (2, 2), (3, 3), (4, 4), (5, 5), (6, 13631495)]) _ _ _ ?_ ?_ ?_ ?_ ?_ <;> simp [fcel, ratT]
    · have hsl := fcel_len hfp O
      have hwh := fcel_whole hfp O
      have n1 : (O.length + 1) * 16 ≤ 140737488355328 := by omega
      have n2 : O.length + 1 ≤ 9223372036854775807 := by omega
      rw [hdF_ne hne, ouF_ne hne]
      simp [p133l0, hI, hj1, hcel2, splice, repl, w1, w2, hz, hsl, hwh, n1, n2]
      refine ⟨j + 1, by omega, hk, ?_⟩
      rw [hnx, hdF_ne (by simp), ouF_ne (by simp), fcel_one]
      refine Weak.mk hE (lk [(0, 0), (1, 1), (2, 2), (3, 3), (4, 4), (5, 5), (6, 13631495)]) _ _ _ ?_ ?_ ?_ ?_ ?_ <;> simp [ratT]
  intro j hj
  rcases Nat.lt_or_ge j 2 with h2 | h2
  · obtain ⟨t, ht⟩ : ∃ t, [a.tl, a.th][j]? = some t := ⟨_, List.getElem?_eq_getElem (by simpa using h2)⟩
    exact step j t (accG c a w B j) (by unfold accG; simp; omega) ht rfl (accR_next ht)
  · have e : j = 2 := by omega
    subst e
    have e2 : accG c a w B 2 = B ++ [ratT c w a.tl, ratT c w a.th] := rfl
    rw [e2, hdF_ne (by simp), ouF_ne (by simp)]
    simp [p133l0]
    refine Weak.mk hE (lk [(0, 0), (1, 1), (2, 2), (3, 3), (4, 4), (6, 6)]) _ _ _ ?_ ?_ ?_ ?_ ?_ <;> simp
def accW' (c : Cel) (a : Atm) (i : Nat) : List (Int × Int) := ([c.wl, c.wh].take i).flatMap fun w => [ratT c w a.tl, ratT c w a.th]
theorem accW_next {c : Cel} {a : Atm} {w : Int} {i : Nat} (h : [c.wl, c.wh][i]? = some w) : accW' c a (i + 1) = accW' c a i ++ [ratT c w a.tl, ratT c w a.th] := by
  unfold accW'; rw [List.take_add_one, h]; simp
theorem accW_len {c : Cel} {a : Atm} (i : Nat) : (accW' c a i).length ≤ 4 := by
  match i with
  | 0 => simp [accW']
  | 1 => simp [accW']
  | i + 2 => simp [accW']
set_option maxRecDepth 20000 in
set_option maxHeartbeats 4000000 in
theorem lift_out (c : Cel) (a : Atm) (hc : CelB c) {E : Ent} (hE : ∀ i, ¬ E.stab i) {Q : AExit → St → Prop} : ∀ i : Nat, i ≤ 2 → PW prog tys eqs E p133l1
    (seqQ (fun st' => ∃ k, k ≤ 2 ∧ 2 - k < 2 - i ∧ Weak prog E st' ⟨slots [(2, .lp 0 0), (3, .lp 1 0), (4, .lp 2 0), (6, .lp 3 0), (31, .ls 4 0 2 1), (32, vi 2), (33, vi k), (8, hdF 2 (accW' c a k) 6)], lk ([(0, [vi c.rm, vi c.he, vi c.ai, vi c.wl, vi c.wh, vi c.lk, vi c.ow]), (1, [vi a.pl, vi a.ph, vi a.tl, vi a.th]), (2, [vi 0, vi 0]), (3, [vi c.rm, vi c.he, vi c.ai, vi c.wl, vi c.wh, vi c.lk, vi c.ow, vi a.pl, vi a.ph, vi a.tl, vi a.th, vi (am c), vi (a.tl + c.wl), vi (a.th + c.wh)]), (4, [vi c.wl, vi c.wh])] ++ ouF prL (accW' c a k) 6), 7⟩)
      (exC prog E Q 0 (fun _ : Unit => ⟨slots [(2, .lp 0 0), (3, .lp 1 0), (4, .lp 2 0), (8, .ls 3 0 4 2)], lk [(0, [vi c.rm, vi c.he, vi c.ai, vi c.wl, vi c.wh, vi c.lk, vi c.ow]), (1, [vi a.pl, vi a.ph, vi a.tl, vi a.th]), (2, [vi 0, vi 0]), (3, fcel prL (accW' c a 2))], 4⟩) (fun _ => True)))
    ⟨slots [(2, .lp 0 0), (3, .lp 1 0), (4, .lp 2 0), (6, .lp 3 0), (31, .ls 4 0 2 1), (32, vi 2), (33, vi i), (8, hdF 2 (accW' c a i) 6)], lk ([(0, [vi c.rm, vi c.he, vi c.ai, vi c.wl, vi c.wh, vi c.lk, vi c.ow]), (1, [vi a.pl, vi a.ph, vi a.tl, vi a.th]), (2, [vi 0, vi 0]), (3, [vi c.rm, vi c.he, vi c.ai, vi c.wl, vi c.wh, vi c.lk, vi c.ow, vi a.pl, vi a.ph, vi a.tl, vi a.th, vi (am c), vi (a.tl + c.wl), vi (a.th + c.wh)]), (4, [vi c.wl, vi c.wh])] ++ ouF prL (accW' c a i) 6), 7⟩ := by
  intro i hi
  rcases Nat.lt_or_ge i 2 with h2 | h2
  · obtain ⟨w, hw⟩ : ∃ w, [c.wl, c.wh][i]? = some w := ⟨_, List.getElem?_eq_getElem (by simpa using h2)⟩
    have hwm := List.mem_of_getElem? hw
    have hwb : -300 ≤ w ∧ w ≤ 300 := by
      have := hc.w
      simp at hwm
      rcases hwm with rfl | rfl <;> omega
    have hz : IntKind.wrap .i64 ((i : Int) + 1) = ((i + 1 : Nat) : Int) := by rw [wrap64 (by omega) (by omega)]; omega
    have hI : (i : Int) < 2 := by omega
    have hj1 : i ≤ 1 := by omega
    have hcel : ([vi c.wl, vi c.wh] : List V)[i]? = some (vi w) := by
      have : ([vi c.wl, vi c.wh] : List V) = [c.wl, c.wh].map vi := rfl
      rw [this, List.getElem?_map, hw]; rfl
    have hcel2 : ([vi c.wl, vi c.wh] : List V).drop i = vi w :: ([vi c.wl, vi c.wh] : List V).drop (i + 1) := by
      rw [List.drop_eq_getElem?_toList_append, hcel]; rfl
    have hk : (2 : Nat) - (i + 1) < 2 - i := by omega
    have hnx := accW_next (a := a) hw
    have hB := accW_len (c := c) (a := a) i
    obtain ⟨B, hBe⟩ : ∃ B, accW' c a i = B := ⟨_, rfl⟩
    rw [hBe] at hnx hB ⊢
    have hin := fun (Q : AExit → St → Prop) => lift_in (Q := Q) c a hc w hwb B (by omega) i hE
    by_cases hne : B = []
    · subst hne
      rw [hdF_nil, ouF_nil]
      simp [p133l1, hI, hj1, hcel2, splice, repl]
      refine pw_loopC (α := Nat) 2 (fun _ : Unit => ⟨slots [(2, .lp 0 0), (3, .lp 1 0), (4, .lp 2 0), (6, .lp 3 0), (31, .ls 4 0 2 1), (32, vi 2), (33, vi i), (8, hdF 2 ([] ++ [ratT c w a.tl, ratT c w a.th]) 6)], lk ([(0, [vi c.rm, vi c.he, vi c.ai, vi c.wl, vi c.wh, vi c.lk, vi c.ow]), (1, [vi a.pl, vi a.ph, vi a.tl, vi a.th]), (2, [vi 0, vi 0]), (3, [vi c.rm, vi c.he, vi c.ai, vi c.wl, vi c.wh, vi c.lk, vi c.ow, vi a.pl, vi a.ph, vi a.tl, vi a.th, vi (am c), vi (a.tl + c.wl), vi (a.th + c.wh)]), (4, [vi c.wl, vi c.wh])] ++ ouF prL ([] ++ [ratT c w a.tl, ratT c w a.th]) 6), 7⟩) (fun _ => True) (fun k => ⟨slots [(2, .lp 0 0), (3, .lp 1 0), (4, .lp 2 0), (6, .lp 3 0), (31, .ls 4 0 2 1), (32, vi 2), (33, vi i), (10, vi w), (43, .ls 5 0 2 1), (44, vi 2), (45, vi k), (8, hdF 2 (accG c a w [] k) 6)], lk ([(0, [vi c.rm, vi c.he, vi c.ai, vi c.wl, vi c.wh, vi c.lk, vi c.ow]), (1, [vi a.pl, vi a.ph, vi a.tl, vi a.th]), (2, [vi 0, vi 0]), (3, [vi c.rm, vi c.he, vi c.ai, vi c.wl, vi c.wh, vi c.lk, vi c.ow, vi a.pl, vi a.ph, vi a.tl, vi a.th, vi (am c), vi (a.tl + c.wl), vi (a.th + c.wh)]), (4, [vi c.wl, vi c.wh]), (5, [vi a.tl, vi a.th])] ++ ouF prL (accG c a w [] k) 6), 7⟩) (fun k => k ≤ 2) (fun k => 2 - k) 0 ?_ ?_ (hin _) fun _ _ => ?_
      · omega
      · rw [show accG c a w [] 0 = [] from rfl, hdF_nil, ouF_nil]
        refine Weak.mk hE (lk [(0, 0), (1, 1), (2, 2), (3, 3), (4, 4), (5, 10485767)]) _ _ _ ?_ ?_ ?_ ?_ ?_ <;> simp


      · rw [hdF_ne (by simp), ouF_ne (by simp)]
        simp [hz]
        refine ⟨i + 1, by omega, hk, ?_⟩
        rw [hnx, hdF_ne (by simp), ouF_ne (by simp)]
        refine Weak.mk hE (lk [(0, 0), (1, 1), (2, 2), (3, 3), (4, 4), (6, 6)]) _ _ _ ?_ ?_ ?_ ?_ ?_ <;> simp


    · rw [hdF_ne hne, ouF_ne hne]
      simp [p133l1, hI, hj1, hcel2, splice, repl]
      refine pw_loopC (α := Nat) 2 (fun _ : Unit => ⟨slots [(2, .lp 0 0), (3, .lp 1 0), (4, .lp 2 0), (6, .lp 3 0), (31, .ls 4 0 2 1), (32, vi 2), (33, vi i), (8, hdF 2 (B ++ [ratT c w a.tl, ratT c w a.th]) 6)], lk ([(0, [vi c.rm, vi c.he, vi c.ai, vi c.wl, vi c.wh, vi c.lk, vi c.ow]), (1, [vi a.pl, vi a.ph, vi a.tl, vi a.th]), (2, [vi 0, vi 0]), (3, [vi c.rm, vi c.he, vi c.ai, vi c.wl, vi c.wh, vi c.lk, vi c.ow, vi a.pl, vi a.ph, vi a.tl, vi a.th, vi (am c), vi (a.tl + c.wl), vi (a.th + c.wh)]), (4, [vi c.wl, vi c.wh])] ++ ouF prL (B ++ [ratT c w a.tl, ratT c w a.th]) 6), 7⟩) (fun _ => True) (fun k => ⟨slots [(2, .lp 0 0), (3, .lp 1 0), (4, .lp 2 0), (6, .lp 3 0), (31, .ls 4 0 2 1), (32, vi 2), (33, vi i), (10, vi w), (43, .ls 5 0 2 1), (44, vi 2), (45, vi k), (8, hdF 2 (accG c a w B k) 6)], lk ([(0, [vi c.rm, vi c.he, vi c.ai, vi c.wl, vi c.wh, vi c.lk, vi c.ow]), (1, [vi a.pl, vi a.ph, vi a.tl, vi a.th]), (2, [vi 0, vi 0]), (3, [vi c.rm, vi c.he, vi c.ai, vi c.wl, vi c.wh, vi c.lk, vi c.ow, vi a.pl, vi a.ph, vi a.tl, vi a.th, vi (am c), vi (a.tl + c.wl), vi (a.th + c.wh)]), (4, [vi c.wl, vi c.wh]), (5, [vi a.tl, vi a.th])] ++ ouF prL (accG c a w B k) 6), 7⟩) (fun k => k ≤ 2) (fun k => 2 - k) 0 ?_ ?_ (hin _) fun _ _ => ?_
      · omega
      · rw [show accG c a w B 0 = B by simp [accG], hdF_ne hne, ouF_ne hne]
        refine Weak.mk hE (lk [(0, 0), (1, 1), (2, 2), (3, 3), (4, 4), (5, 10485767), (6, 6)]) _ _ _ ?_ ?_ ?_ ?_ ?_ <;> simp
      · rw [hdF_ne (by simp), ouF_ne (by simp)]
        simp [hz]
        refine ⟨i + 1, by omega, hk, ?_⟩
        rw [hnx, hdF_ne (by simp), ouF_ne (by simp)]
        refine Weak.mk hE (lk [(0, 0), (1, 1), (2, 2), (3, 3), (4, 4), (6, 6)]) _ _ _ ?_ ?_ ?_ ?_ ?_ <;> simp
  · have e : i = 2 := by omega
    subst e
    have e2 : (accW' c a 2).length = 4 := rfl
    rw [hdF_ne (by simp [accW']), ouF_ne (by simp [accW']), e2]
    simp [p133l1]
    refine Weak.mk hE (lk [(0, 0), (1, 1), (2, 2), (3, 6)]) _ _ _ ?_ ?_ ?_ ?_ ?_ <;> simp
end Go.Proofs.Tryz
namespace Go.Proofs.Tryz
open Go.Psl
open Go.Air
theorem leastS_lift {c : Cel} {a : Atm} (hc : CelB c) (ha : AirB a) : leastS (ratT c c.wl a.tl) [ratT c c.wl a.th, ratT c c.wh a.tl, ratT c c.wh a.th] = ((liftV c a).1 - 25 * c.he, (liftV c a).2 - 25 * c.he) := by
  obtain ⟨h1, h2⟩ := lift_four hc ha
  unfold leastS aroundS rSp ratT liftV
  simp only [List.map_cons, List.map_nil, List.foldl_cons, List.foldl_nil, joinI]
  rw [h1, h2]
  ext <;> simp only <;> omega
set_option maxRecDepth 20000 in
set_option maxHeartbeats 4000000 in
theorem fn133 (c : Cel) (a : Atm) (hc : CelB c) (ha : AirB a) : Ct prog 133 [cellV c, airV a] (.tup [vsp (liftV c a).1 (liftV c a).2, vi 0]) [] := by
  have c1 := fn123 c a hc ha
  have t := ha.t
  have wb := hc.w
  have k1 := (rat_bd hc (w := c.wl) (by omega)).2
  have k2 := (rat_bd hc (w := c.wh) (by omega)).2
  have okr : ∀ w t', (w = c.wl ∨ w = c.wh) → (t' = a.tl ∨ t' = a.th) → okR (ratT c w t') := fun w t' h1 h2 => by
    unfold okR ratT
    rcases h1 with rfl | rfl <;> rcases h2 with rfl | rfl <;> simp only <;> omega
  have c2 := fn124 (ratT c c.wl a.tl) [ratT c c.wl a.th, ratT c c.wh a.tl, ratT c c.wh a.th] (by simp) (okr _ _ (Or.inl rfl) (Or.inl rfl)) (fun q hq => by
    simp only [List.mem_cons, List.not_mem_nil, or_false] at hq
    rcases hq with rfl | rfl | rfl
    · exact okr _ _ (Or.inl rfl) (Or.inr rfl)
    · exact okr _ _ (Or.inr rfl) (Or.inl rfl)
    · exact okr _ _ (Or.inr rfl) (Or.inr rfl))
  rw [leastS_lift hc ha] at c2
  have e4 : accW' c a 2 = [ratT c c.wl a.tl, ratT c c.wl a.th, ratT c c.wh a.tl, ratT c c.wh a.th] := rfl
  have bnd : -10000000000000 ≤ (liftV c a).1 - 25 * c.he ∧ (liftV c a).1 - 25 * c.he ≤ 10000000000000 ∧ -10000000000000 ≤ (liftV c a).2 - 25 * c.he ∧ (liftV c a).2 - 25 * c.he ≤ 10000000000000 := by
    have q : ∀ x t', (-1000000000000 ≤ x ∧ x ≤ 1000000000000) → (0 < t') → -1000000000000 ≤ fl x t' ∧ fl x t' ≤ 1000000000000 := fun x t' hx ht => by
      unfold fl
      refine ⟨?_, ?_⟩
      · rw [Int.le_ediv_iff_mul_le ht]
        have : (-1000000000000 : Int) * t' ≤ -1000000000000 * 1 := Int.mul_le_mul_of_nonpos_left (by omega) (by omega)
        omega
      · have h3 : x / t' < 1000000000001 := by
          rw [Int.ediv_lt_iff_lt_mul ht]
          have : (1000000000001 : Int) * 1 ≤ 1000000000001 * t' := Int.mul_le_mul_of_nonneg_left (by omega) (by omega)
          omega
        omega
    have q1 := q _ a.tl k1 (by omega)
    have q2 := q _ a.th k1 (by omega)
    have q3 := q (-(29 * am c * c.wh)) a.tl (by omega) (by omega)
    have q4 := q (-(29 * am c * c.wh)) a.th (by omega) (by omega)
    unfold liftV ce
    unfold fl at q1 q2 q3 q4 ⊢
    simp only
    omega
  have he := hc.he
  have w0 : IntKind.wrap .i64 (25 * c.he) = 25 * c.he := wrap64 (by omega) (by omega)
  have w1 : IntKind.wrap .i64 (liftV c a).1 = (liftV c a).1 := wrap64 (by omega) (by omega)
  have w2 : IntKind.wrap .i64 (liftV c a).2 = (liftV c a).2 := wrap64 (by omega) (by omega)
  have hb4 : ∀ H : Hp, H 3 = some (fcel prL (accW' c a 2)) → Bor H (.ls 3 0 4 2) (.d (spansD [ratT c c.wl a.tl, ratT c c.wl a.th, ratT c c.wh a.tl, ratT c c.wh a.th])) := fun H h => bor_fcel (f := prL) hfp (l := accW' c a 2) h
  refine Ct.by gok eok mixed func133 c133 rfl (by simp [ntmps133]) (by simp) (by simp [ResIds]) fun E hE => ?_
  simp [p133]
  refine ACall.mk _ _ _ (c1) (by first | (simp; done) | simp [Bor_ls, Bor1_ls]) (by simp) (by first | (left; simp; done) | (right; simp; done)) ?_
  simp [splice, repl]
  refine pw_loopC (α := Nat) 0 (fun _ : Unit => ⟨slots [(2, .lp 0 0), (3, .lp 1 0), (4, .lp 2 0), (8, .ls 3 0 4 2)], lk [(0, [vi c.rm, vi c.he, vi c.ai, vi c.wl, vi c.wh, vi c.lk, vi c.ow]), (1, [vi a.pl, vi a.ph, vi a.tl, vi a.th]), (2, [vi 0, vi 0]), (3, fcel prL (accW' c a 2))], 4⟩) (fun _ => True) (fun k => ⟨slots [(2, .lp 0 0), (3, .lp 1 0), (4, .lp 2 0), (6, .lp 3 0), (31, .ls 4 0 2 1), (32, vi 2), (33, vi k), (8, hdF 2 (accW' c a k) 6)], lk ([(0, [vi c.rm, vi c.he, vi c.ai, vi c.wl, vi c.wh, vi c.lk, vi c.ow]), (1, [vi a.pl, vi a.ph, vi a.tl, vi a.th]), (2, [vi 0, vi 0]), (3, [vi c.rm, vi c.he, vi c.ai, vi c.wl, vi c.wh, vi c.lk, vi c.ow, vi a.pl, vi a.ph, vi a.tl, vi a.th, vi (am c), vi (a.tl + c.wl), vi (a.th + c.wh)]), (4, [vi c.wl, vi c.wh])] ++ ouF prL (accW' c a k) 6), 7⟩) (fun k => k ≤ 2) (fun k => 2 - k) 0 ?_ ?_ (lift_out c a hc hE) fun _ _ => ?_
  · omega
  · rw [show accW' c a 0 = [] from rfl, hdF_nil, ouF_nil]
    refine Weak.mk hE (lk [(0, 0), (1, 1048576), (2, 2097152), (3, 10485760), (4, 23068672)]) _ _ _ ?_ ?_ ?_ ?_ ?_ <;> simp
  · simp
    refine pw_drawW [(6, 5242884)] (by kernel_rfl) ?_
    simp
    refine ACall.mk _ _ _ (c2) (by simp [hb4]) (by simp) (by first | (left; simp; done) | (right; simp; done)) ?_
    simp [splice, inC, Nat.testBit, w0, w1, w2]
    refine RetOk.by (fun _ => none) ?_
    simp [results133]
end Go.Proofs.Tryz
namespace Go.Proofs.Tryz
open Go.Psl
open Go.Air
theorem lift_bd {c : Cel} {a : Atm} (hc : CelB c) (ha : AirB a) : (-10000000000000 ≤ (liftV c a).1 ∧ (liftV c a).1 ≤ 10000000000000) ∧ -10000000000000 ≤ (liftV c a).2 ∧ (liftV c a).2 ≤ 10000000000000 := by
  have t := ha.t
  have wb := hc.w
  have he := hc.he
  have k1 := (rat_bd hc (w := c.wl) (by omega)).2
  have k2 := (rat_bd hc (w := c.wh) (by omega)).2
  have q : ∀ x t', (-1000000000000 ≤ x ∧ x ≤ 1000000000000) → (0 < t') → -1000000000000 ≤ fl x t' ∧ fl x t' ≤ 1000000000000 := fun x t' hx ht => by
    unfold fl
    refine ⟨?_, ?_⟩
    · rw [Int.le_ediv_iff_mul_le ht]
      have : (-1000000000000 : Int) * t' ≤ -1000000000000 * 1 := Int.mul_le_mul_of_nonpos_left (by omega) (by omega)
      omega
    · have h3 : x / t' < 1000000000001 := by
        rw [Int.ediv_lt_iff_lt_mul ht]
        have : (1000000000001 : Int) * 1 ≤ 1000000000001 * t' := Int.mul_le_mul_of_nonneg_left (by omega) (by omega)
        omega
      omega
  have q1 := q _ a.tl k1 (by omega)
  have q2 := q _ a.th k1 (by omega)
  have q3 := q (-(29 * am c * c.wh)) a.tl (by omega) (by omega)
  have q4 := q (-(29 * am c * c.wh)) a.th (by omega) (by omega)
  unfold liftV ce
  unfold fl at q1 q2 q3 q4 ⊢
  simp only
  omega
structure ShpB (s : Shp) : Prop where
  h : -500 ≤ s.hl ∧ s.hl ≤ s.hh ∧ s.hh ≤ 9000
  f : 0 ≤ s.fl ∧ s.fl ≤ s.fh ∧ s.fh ≤ 1000000000
  w : 0 ≤ s.wl ∧ s.wl ≤ s.wh ∧ s.wh ≤ 1000000000
  d : 0 ≤ s.dry ∧ s.dry ≤ 1000000000
  b : 0 ≤ s.bal ∧ s.bal ≤ 1000000000
  n : s.gas.cs.length ≤ 12
  c : ∀ c ∈ s.gas.cs, CelB c
theorem okShp_B {s : Shp} (h : okShp s = true) : ShpB s := by
  unfold okShp okPlt okBk at h
  simp only [Bool.and_eq_true, spB_iff, List.all_eq_true, decide_eq_true_eq] at h
  obtain ⟨⟨⟨⟨⟨⟨h1, h2⟩, h3⟩, h4⟩, h5⟩, h6⟩, ⟨⟨⟨h7, h8⟩, h9⟩, h10⟩, h11⟩ := h
  have h5' : (0 ≤ s.dry ∧ s.dry ≤ 1000000000) ∧ 0 ≤ s.bal ∧ s.bal ≤ 1000000000 := by simpa [rgB] using h5
  exact ⟨h2, h3.1, h3.2, h5'.1, h5'.2, h7, fun c hc => okCel_iff.1 (h10 c hc)⟩
def hvK (a : Atm) (l : List Cel) (o : Int × Int) : Int × Int := l.foldl (fun o c => (o.1 - (liftV c a).2, o.2 - (liftV c a).1)) o
def hv0 (s : Shp) : Int × Int := (s.dry + s.bal + s.fl + s.wl, s.dry + s.bal + s.fh + s.wh)
def hvS (s : Shp) (a : Atm) : Int × Int := hvK a s.gas.cs (hv0 s)
theorem hvK_next {a : Atm} {l : List Cel} {o : Int × Int} {i : Nat} {c : Cel} (h : l[i]? = some c) : hvK a (l.take (i + 1)) o = ((hvK a (l.take i) o).1 - (liftV c a).2, (hvK a (l.take i) o).2 - (liftV c a).1) := by
  unfold hvK; rw [List.take_add_one, h]; simp
theorem hvK_bd {a : Atm} (ha : AirB a) {o : Int × Int} (ho : (0 ≤ o.1 ∧ o.1 ≤ 4000000000) ∧ 0 ≤ o.2 ∧ o.2 ≤ 4000000000) {l : List Cel} (hc : ∀ c ∈ l, CelB c) : ∀ i : Nat, i ≤ l.length → (-(i * 10000000000000) ≤ (hvK a (l.take i) o).1 ∧ (hvK a (l.take i) o).1 ≤ 4000000000 + i * 10000000000000) ∧ -(i * 10000000000000) ≤ (hvK a (l.take i) o).2 ∧ (hvK a (l.take i) o).2 ≤ 4000000000 + i * 10000000000000
  | 0, _ => by simp [hvK]; omega
  | i + 1, hi => by
    obtain ⟨c, hcc⟩ : ∃ c, l[i]? = some c := ⟨_, List.getElem?_eq_getElem (by omega)⟩
    have ih := hvK_bd ha ho hc i (by omega)
    have hb := lift_bd (hc c (List.mem_of_getElem? hcc)) ha
    rw [hvK_next hcc]
    simp only
    omega
set_option maxRecDepth 20000 in
set_option maxHeartbeats 8000000 in
theorem fn70 (s : Shp) (a : Atm) (hs : ShpB s) (ha : AirB a) : Ct prog 70 [shpV s (.d (cellsD s.gas.cs)), airV a] (vsp (hvS s a).1 (hvS s a).2) [] := by
  have q1 := hs.f; have q2 := hs.w; have q3 := hs.d; have q4 := hs.b; have q5 := hs.n
  have w1 : IntKind.wrap .i64 (s.dry + s.bal) = s.dry + s.bal := wrap64 (by omega) (by omega)
  have w2 : IntKind.wrap .i64 (s.dry + s.bal + s.fl) = s.dry + s.bal + s.fl := wrap64 (by omega) (by omega)
  have w3 : IntKind.wrap .i64 (s.dry + s.bal + s.fl + s.wl) = s.dry + s.bal + s.fl + s.wl := wrap64 (by omega) (by omega)
  have w4 : IntKind.wrap .i64 (s.dry + s.bal + s.fh) = s.dry + s.bal + s.fh := wrap64 (by omega) (by omega)
  have w5 : IntKind.wrap .i64 (s.dry + s.bal + s.fh + s.wh) = s.dry + s.bal + s.fh + s.wh := wrap64 (by omega) (by omega)
  have ho : (0 ≤ (hv0 s).1 ∧ (hv0 s).1 ≤ 4000000000) ∧ 0 ≤ (hv0 s).2 ∧ (hv0 s).2 ≤ 4000000000 := by unfold hv0; simp only; omega
  refine Ct.by gok eok mixed func70 c70 rfl (by simp [ntmps70]) (by simp) (by simp [ResIds]) fun E hE => ?_
  simp [p70, splice, w1, w2, w3, w4, w5]
  refine pw_loop (α := Nat) (fun i => ⟨slots [(3, .lp 0 0), (4, .lp 1 0), (6, .lp 2 0), (37, .d (cellsD s.gas.cs)), (38, vi s.gas.cs.length), (39, vi i)], lk [(0, [vi a.pl, vi a.ph, vi a.tl, vi a.th]), (1, [vi 0, vi 0]), (2, [vi (hvK a (s.gas.cs.take i) (hv0 s)).1, vi (hvK a (s.gas.cs.take i) (hv0 s)).2])], 3⟩) (fun i => i ≤ s.gas.cs.length) (fun i => s.gas.cs.length - i) 0 ?_ ?_ ?_
  · omega
  · skip
    refine Weak.mk hE (lk [(0, 1048576), (1, 2097152), (2, 29360128)]) _ _ _ ?_ ?_ ?_ ?_ ?_ <;> simp [hvK, hv0]
  · intro i hi
    by_cases h : i < s.gas.cs.length
    · obtain ⟨c, hc⟩ : ∃ c, s.gas.cs[i]? = some c := ⟨_, List.getElem?_eq_getElem h⟩
      have hz : IntKind.wrap .i64 ((i : Int) + 1) = ((i + 1 : Nat) : Int) := by rw [wrap64 (by omega) (by omega)]; omega
      have hI : (i : Int) < s.gas.cs.length := by omega
      have hcb := hs.c c (List.mem_of_getElem? hc)
      have c1 := fn133 c a hcb ha
      have hb := lift_bd hcb ha
      have hk := hvK_bd ha ho hs.c i hi
      have hnx := hvK_next (a := a) (o := hv0 s) hc
      generalize hvK a (s.gas.cs.take i) (hv0 s) = o at *
      have w6 : IntKind.wrap .i64 (o.1 - (liftV c a).2) = o.1 - (liftV c a).2 := wrap64 (by omega) (by omega)
      have w7 : IntKind.wrap .i64 (o.2 - (liftV c a).1) = o.2 - (liftV c a).1 := wrap64 (by omega) (by omega)
      simp [p70l0, hI, hc, splice]
      refine ACall.mk _ _ _ (c1) (by first | (simp; done) | simp [Bor_ls, Bor1_ls]) (by simp) (by first | (left; simp; done) | (right; simp; done)) ?_
      simp [splice]
      refine pw_drawW [(11, 2)] (by kernel_rfl) ?_
      simp [splice, w6, w7, hz, inC, Nat.testBit]
      refine ⟨i + 1, by omega, by omega, ?_⟩
      rw [hnx]
      refine Weak.mk hE (lk [(0, 0), (1, 1), (2, 2)]) _ _ _ ?_ ?_ ?_ ?_ ?_ <;> simp
    · have e : i = s.gas.cs.length := by omega
      have hn : ¬ (i : Int) < s.gas.cs.length := by omega
      rw [e, List.take_length]
      simp [p70l0, splice]
      refine RetOk.by (fun _ => none) ?_
      simp [results70, hvS]
end Go.Proofs.Tryz
namespace Go.Proofs.Tryz
open Go.Psl
open Go.Air
theorem inc_of : ∀ {l : List Lev}, (∀ (i : Nat) (x y : Lev), l[i]? = some x → l[i + 1]? = some y → x.h < y.h) → Inc l
  | [], _ => trivial
  | [_], _ => trivial
  | a :: b :: r, h => ⟨h 0 a b rfl rfl, inc_of fun i x y hx hy => h (i + 1) x y (by simpa using hx) (by simpa using hy)⟩
theorem swp_snd {l : List Lev} (h : OkS l) (hf : ¬ 0 ≤ ixF unf (swp l)) : Snd (tmS (knT l)) (swp l) := by
  have ho := swp_ok h hf
  have hk := ho.lks
  rw [swp_knT] at hk
  refine ⟨inc_of fun i x y hx hy => by have := ho.step i x y hx hy; omega, hk, swp_clo h, fun x hx => ?_⟩
  have := (ho.lev x hx).1
  exact ⟨this.1, this.2.1, this.2.2⟩
theorem swp_ne {l : List Lev} (h : OkS l) : swp l ≠ [] := by
  intro e; have := swp_len (l := l); rw [e] at this; have := h.len; simp at *; omega
structure AtOk (l : List Lev) (a b : Int) : Prop where
  ok : OkS l
  fit : ¬ 0 ≤ ixF unf (swp l)
  ab : a ≤ b
  ina : inSp l a
  inb : inSp l b
  eq : atA l a b = (airS (tmS (knT l)) (swp l) a b, 0)
theorem inS_of {l : List Lev} {x y : Lev} {z : Int} (hx : l[0]? = some x) (hy : l[l.length - 1]? = some y) (h1 : x.h ≤ z) (h2 : z ≤ y.h) : inSp l z := by
  refine ⟨fun k hk => ?_, fun k hk => ?_⟩
  · rw [hx] at hk; cases hk; exact h1
  · rw [hy] at hk; cases hk; exact h2
theorem rgB_two {lo hi a b : Int} : rgB lo hi [a, b] = true ↔ (lo ≤ a ∧ a ≤ hi) ∧ lo ≤ b ∧ b ≤ hi := by simp [rgB]
theorem at_ok {l : List Lev} {a b : Int} (h : (atA l a b).2 = 0) : AtOk l a b := by
  unfold atA at h
  split at h
  · rename_i h1
    split at h
    · rename_i h2
      split at h
      · rename_i x y hx hy
        split at h
        · rename_i h3
          split at h
          · rename_i h4
            have ho := okSnd_iff.1 h1
            have hr := rgB_two.1 h3
            have hs := okS_iff.1 h2
            refine ⟨ho, (set_zero ho).1 h4, hs.1, inS_of hx hy hr.1.1 hr.1.2, inS_of hx hy hr.2.1 hr.2.2, ?_⟩
            unfold atA
            rw [if_pos h1, if_pos h2, hx, hy]
            simp only
            rw [if_pos h3, if_pos h4]
          · rename_i h4; exact absurd h h4
        · simp at h
      · simp at h
    · simp at h
  · simp at h
theorem at_make {l : List Lev} {a b : Int} (ho : OkS l) (hf : ¬ 0 ≤ ixF unf (swp l)) (hab : a ≤ b) (ha : inSp l a) (hb : inSp l b) : AtOk l a b := by
  have hlen := ho.len
  obtain ⟨x, hx⟩ : ∃ x, l[0]? = some x := ⟨_, List.getElem?_eq_getElem (by omega)⟩
  obtain ⟨y, hy⟩ : ∃ y, l[l.length - 1]? = some y := ⟨_, List.getElem?_eq_getElem (by omega)⟩
  have q1 := ha.1 x hx; have q2 := ha.2 y hy; have q3 := hb.1 x hx; have q4 := hb.2 y hy
  have b1 := ho.at' x (List.mem_of_getElem? hx)
  have b2 := ho.at' y (List.mem_of_getElem? hy)
  refine ⟨ho, hf, hab, ha, hb, ?_⟩
  unfold atA
  rw [if_pos (okSnd_iff.2 ho), if_pos (okS_iff.2 (by simp only; omega)), hx, hy]
  simp only
  rw [if_pos (rgB_two.2 (by omega)), if_pos ((set_zero ho).2 hf)]
theorem at_air {l : List Lev} {a b : Int} (h : AtOk l a b) : AirB (atA l a b).1 := by
  rw [h.eq]
  exact air_ok (swp_snd h.ok h.fit) (swp_ne h.ok) h.ab (tm_bd h.ok h.ina h.inb).p
theorem at_down {l : List Lev} {a b c : Int} (hab : a ≤ b) (hbc : b ≤ c) (h : AtOk l a c) {q : Cel} (hq : CelB q) (hf : fitV q (atA l a c).1 = 1) : fitV q (atA l a b).1 = 1 := by
  have hb : inSp l b := ⟨fun k hk => by have := h.ina.1 k hk; omega, fun k hk => by have := h.inb.2 k hk; omega⟩
  have hB := at_make h.ok h.fit hab h.ina hb
  rw [hB.eq]
  rw [h.eq] at hf
  exact fit_down (swp_snd h.ok h.fit) (swp_ne h.ok) hq hbc (tm_wide h.ok hab hbc h.ina h.inb) hf
end Go.Proofs.Tryz
namespace Go.Proofs.Tryz
open Go.Psl
open Go.Air
def askS (k : Sky) (s : Shp) : Int := if okSky k then (if okShp s then 0 else 52) else 50
theorem ask_eq (k : Sky) (s : Shp) : (if (if okSky k then 0 else 50 : Int) = 0 then (if okShp s then 0 else 52 : Int) else (if okSky k then 0 else 50)) = askS k s := by
  unfold askS; cases okSky k <;> simp
def hvA (k : Sky) (s : Shp) : (Int × Int) × Int :=
  if askS k s = 0 then (if (atA k.s s.hl s.hh).2 = 0 then (hvS s (atA k.s s.hl s.hh).1, 0) else ((0, 0), (atA k.s s.hl s.hh).2)) else ((0, 0), askS k s)
theorem ask_zero {k : Sky} {s : Shp} (h : askS k s = 0) : okSky k = true ∧ okShp s = true := by
  unfold askS at h
  cases h1 : okSky k <;> cases h2 : okShp s <;> simp [h1, h2] at h ⊢
set_option maxRecDepth 20000 in
set_option maxHeartbeats 8000000 in
theorem fn21 (k : Sky) (s : Shp) (h1 : k.s.length ≤ 1000000) (h2 : k.w.length ≤ 1000000) (h3 : s.gas.cs.length ≤ 1000000) : Ct prog 21 [skyV k, shpV s (.d (cellsD s.gas.cs))] (vse (hvA k s)) [] := by
  have c1 := fn32 k h1 h2
  have c2 := fn36 s (by omega)
  have c3 := fn69 (if okSky k then 0 else 50) (if okShp s then 0 else 52)
  rw [ask_eq] at c3
  have c4 := fn56 k.s s.hl s.hh h1
  obtain ⟨x, hx⟩ : ∃ x : Int, (if okSky k then 0 else 50) = x := ⟨_, rfl⟩
  obtain ⟨y, hy⟩ : ∃ y : Int, (if okShp s then 0 else 52) = y := ⟨_, rfl⟩
  rw [hx] at c1; rw [hy] at c2; rw [hx, hy] at c3
  by_cases ha : askS k s = 0
  · rw [ha] at c3
    obtain ⟨k1, k2⟩ := ask_zero ha
    by_cases he : (atA k.s s.hl s.hh).2 = 0
    · have e : hvA k s = (hvS s (atA k.s s.hl s.hh).1, 0) := by unfold hvA; rw [if_pos ha, if_pos he]
      have hb := okShp_B k2
      have c5 := fn70 s (atA k.s s.hl s.hh).1 hb (at_air (at_ok he))
      unfold atV at c4
      rw [he] at c4
      rw [e]
      generalize (atA k.s s.hl s.hh).1 = a at *
      refine Ct.by gok eok mixed func21 c21 rfl (by simp [ntmps21]) (by simp) (by simp [ResIds]) fun E hE => ?_
      simp [p21, inC, Nat.testBit]
      refine ACall.mk _ _ _ (c1) (by first | (simp; done) | simp [Bor_ls, Bor1_ls]) (by simp) (by first | (left; simp; done) | (right; simp; done)) ?_
      simp [inC, Nat.testBit]
      refine ACall.mk _ _ _ (c2) (by first | (simp; done) | simp [Bor_ls, Bor1_ls]) (by simp) (by first | (left; simp; done) | (right; simp; done)) ?_
      simp [splice, repl]
      refine ACall.mk _ _ _ (c3) (by simp [bor_i2]) (by simp) (by first | (left; simp; done) | (right; simp; done)) ?_
      simp
      refine ACall.mk _ _ _ (c4) (by first | (simp; done) | simp [Bor_ls, Bor1_ls]) (by simp) (by first | (left; simp; done) | (right; simp; done)) ?_
      simp [splice]
      refine ACall.mk _ _ _ (c5) (by first | (simp; done) | simp [Bor_ls, Bor1_ls]) (by simp) (by first | (left; simp; done) | (right; simp; done)) ?_
      simp [splice]
      refine RetOk.by (fun _ => none) ?_
      simp [results21]
    · have e : hvA k s = ((0, 0), (atA k.s s.hl s.hh).2) := by unfold hvA; rw [if_pos ha, if_neg he]
      rw [e]
      unfold atV at c4
      generalize (atA k.s s.hl s.hh).1 = a at *
      generalize (atA k.s s.hl s.hh).2 = er at *
      refine Ct.by gok eok mixed func21 c21 rfl (by simp [ntmps21]) (by simp) (by simp [ResIds]) fun E hE => ?_
      simp [p21, inC, Nat.testBit]
      refine ACall.mk _ _ _ (c1) (by first | (simp; done) | simp [Bor_ls, Bor1_ls]) (by simp) (by first | (left; simp; done) | (right; simp; done)) ?_
      simp [inC, Nat.testBit]
      refine ACall.mk _ _ _ (c2) (by first | (simp; done) | simp [Bor_ls, Bor1_ls]) (by simp) (by first | (left; simp; done) | (right; simp; done)) ?_
      simp [splice, repl]
      refine ACall.mk _ _ _ (c3) (by simp [bor_i2]) (by simp) (by first | (left; simp; done) | (right; simp; done)) ?_
      simp
      refine ACall.mk _ _ _ (c4) (by first | (simp; done) | simp [Bor_ls, Bor1_ls]) (by simp) (by first | (left; simp; done) | (right; simp; done)) ?_
      simp [splice, he]
      refine RetOk.by (fun _ => none) ?_
      simp [results21]
  · have e : hvA k s = ((0, 0), askS k s) := by unfold hvA; rw [if_neg ha]
    rw [e]
    generalize askS k s = er at *
    refine Ct.by gok eok mixed func21 c21 rfl (by simp [ntmps21]) (by simp) (by simp [ResIds]) fun E hE => ?_
    simp [p21, inC, Nat.testBit]
    refine ACall.mk _ _ _ (c1) (by first | (simp; done) | simp [Bor_ls, Bor1_ls]) (by simp) (by first | (left; simp; done) | (right; simp; done)) ?_
    simp [inC, Nat.testBit]
    refine ACall.mk _ _ _ (c2) (by first | (simp; done) | simp [Bor_ls, Bor1_ls]) (by simp) (by first | (left; simp; done) | (right; simp; done)) ?_
    simp [splice, repl]
    refine ACall.mk _ _ _ (c3) (by simp [bor_i2]) (by simp) (by first | (left; simp; done) | (right; simp; done)) ?_
    simp [splice, ha]
    refine RetOk.by (fun _ => none) ?_
    simp [results21]
end Go.Proofs.Tryz
namespace Go.Proofs.Tryz
open Go.Psl
open Go.Air
structure Act where
  k : Int
  c : Int
  t : Int
  n : Int
deriving DecidableEq
abbrev actL (x : Act) : List D := [.lit (.int .u8 x.k), di x.c, di x.t, di x.n]
abbrev actsD (l : List Act) : D := .sl 4 (l.map actL)
theorem hfa : ∀ x : Act, (actL x).length = 4 := fun _ => rfl
def vnK (a : Atm) (l : List Cel) : Nat → List Act
  | 0 => []
  | i + 1 => vnK a l i ++ match l[i]? with
    | some c => if 0 < (valV c a).2 then [⟨3, i, 0, (valV c a).2⟩] else []
    | none => []
theorem vnK_next {a : Atm} {l : List Cel} {i : Nat} {c : Cel} (h : l[i]? = some c) : vnK a l (i + 1) = vnK a l i ++ (if 0 < (valV c a).2 then [⟨3, i, 0, (valV c a).2⟩] else []) := by
  show vnK a l i ++ _ = _
  rw [h]
theorem vnK_len {a : Atm} {l : List Cel} : ∀ i, (vnK a l i).length ≤ i
  | 0 => by simp [vnK]
  | i + 1 => by
    have := vnK_len (a := a) (l := l) i
    unfold vnK
    rw [List.length_append]
    have h2 : (match l[i]? with | some c => if 0 < (valV c a).2 then [(⟨3, i, 0, (valV c a).2⟩ : Act)] else [] | none => []).length ≤ 1 := by
      split
      · split <;> simp
      · simp
    omega
def vnA (k : Sky) (s : Shp) (a b : Int) : List Act × Int :=
  if askS k s = 0 then (if (atA k.s a b).2 = 0 then (vnK (atA k.s a b).1 s.gas.cs s.gas.cs.length, 0) else ([], (atA k.s a b).2)) else ([], askS k s)
set_option maxRecDepth 20000 in
set_option maxHeartbeats 8000000 in
theorem vent0 (k : Sky) (s : Shp) (u v : Int) (h1 : k.s.length ≤ 1000000) (h2 : k.w.length ≤ 1000000) (h3 : s.gas.cs.length ≤ 1000000) : Ct prog 23 [skyV k, shpV s (.d (cellsD s.gas.cs)), vsp u v] (.tup [hdF 4 (vnA k s u v).1 0, vi (vnA k s u v).2]) (ouF actL (vnA k s u v).1 0) := by
  have c1 := fn32 k h1 h2
  have c2 := fn36 s (by omega)
  have c3 := fn69 (if okSky k then 0 else 50) (if okShp s then 0 else 52)
  rw [ask_eq] at c3
  have c4 := fn56 k.s u v h1
  obtain ⟨x, hx⟩ : ∃ x : Int, (if okSky k then 0 else 50) = x := ⟨_, rfl⟩
  obtain ⟨y, hy⟩ : ∃ y : Int, (if okShp s then 0 else 52) = y := ⟨_, rfl⟩
  rw [hx] at c1; rw [hy] at c2; rw [hx, hy] at c3
  by_cases ha : askS k s = 0
  · rw [ha] at c3
    obtain ⟨k1, k2⟩ := ask_zero ha
    by_cases he : (atA k.s u v).2 = 0
    · have e : vnA k s u v = (vnK (atA k.s u v).1 s.gas.cs s.gas.cs.length, 0) := by unfold vnA; rw [if_pos ha, if_pos he]
      have hb := okShp_B k2
      have hab := at_air (at_ok he)
      unfold atV at c4
      rw [he] at c4
      rw [e]
      generalize (atA k.s u v).1 = a at *
      have hn := hb.n
      obtain ⟨R, hR⟩ : ∃ R, vnK a s.gas.cs s.gas.cs.length = R := ⟨_, rfl⟩
      have hfin : ∀ (st : St → Prop), True := fun _ => trivial
      show Ct prog 23 _ (.tup [hdF 4 (vnK a s.gas.cs s.gas.cs.length) 0, vi 0]) (ouF actL (vnK a s.gas.cs s.gas.cs.length) 0)
      rw [hR]
      by_cases hne : R = []
      · rw [hne, hdF_nil, ouF_nil]
        refine Ct.by gok eok mixed func23 c23 rfl (by simp [ntmps23]) (by simp) (by simp [ResIds]) fun E hE => ?_
        simp [p23, inC, Nat.testBit]
        refine ACall.mk _ _ _ (c1) (by first | (simp; done) | simp [Bor_ls, Bor1_ls]) (by simp) (by first | (left; simp; done) | (right; simp; done)) ?_
        simp [inC, Nat.testBit]
        refine ACall.mk _ _ _ (c2) (by first | (simp; done) | simp [Bor_ls, Bor1_ls]) (by simp) (by first | (left; simp; done) | (right; simp; done)) ?_
        simp [splice, repl]
        refine ACall.mk _ _ _ (c3) (by simp [bor_i2]) (by simp) (by first | (left; simp; done) | (right; simp; done)) ?_
        simp
        refine ACall.mk _ _ _ (c4) (by first | (simp; done) | simp [Bor_ls, Bor1_ls]) (by simp) (by first | (left; simp; done) | (right; simp; done)) ?_
        simp [splice]
        refine pw_loop (α := Nat) (fun i => ⟨slots [(9, .lp 0 0), (37, .d (cellsD s.gas.cs)), (38, vi s.gas.cs.length), (39, vi i), (11, hdF 4 (vnK a s.gas.cs i) 1)], lk ([(0, [vi a.pl, vi a.ph, vi a.tl, vi a.th])] ++ ouF actL (vnK a s.gas.cs i) 1), 2⟩) (fun i => i ≤ s.gas.cs.length) (fun i => s.gas.cs.length - i) 0 ?_ ?_ ?_
        · omega
        · rw [show vnK a s.gas.cs 0 = [] from rfl, hdF_nil, ouF_nil]
          refine Weak.mk hE (lk [(0, 22020096)]) _ _ _ ?_ ?_ ?_ ?_ ?_ <;> simp
        · intro i hi
          by_cases h : i < s.gas.cs.length
          · obtain ⟨c, hc⟩ : ∃ c, s.gas.cs[i]? = some c := ⟨_, List.getElem?_eq_getElem h⟩
            have hz : IntKind.wrap .i64 ((i : Int) + 1) = ((i + 1 : Nat) : Int) := by rw [wrap64 (by omega) (by omega)]; omega
            have hI : (i : Int) < s.gas.cs.length := by omega
            have hcb := hb.c c (List.mem_of_getElem? hc)
            have cV := fn75 c a hcb hab
            have hnx := vnK_next (a := a) hc
            have hO := vnK_len (a := a) (l := s.gas.cs) i
            obtain ⟨O, hOe⟩ : ∃ O, vnK a s.gas.cs i = O := ⟨_, rfl⟩
            rw [hOe] at hnx hO
            rw [hOe]
            by_cases hp : 0 < (valV c a).2
            · rw [if_pos hp] at hnx
              by_cases hn0 : O = []
              · subst hn0
                rw [hdF_nil, ouF_nil]
                simp [p23l0, hI, hc, splice]
                refine ACall.mk _ _ _ (cV) (by first | (simp; done) | simp [Bor_ls, Bor1_ls]) (by simp) (by first | (left; simp; done) | (right; simp; done)) ?_
                simp [splice, repl, hp, hz]
                refine ⟨i + 1, by omega, by omega, ?_⟩
                rw [hnx, hdF_ne (by simp), ouF_ne (by simp)]
                refine Weak.mk hE (lk [(0, 0), (1, 26214402)]) _ _ _ ?_ ?_ ?_ ?_ ?_ <;> simp [fcel]
              · have hsl := fcel_len hfa O
                have hwh := fcel_whole hfa O
                have n1 : (O.length + 1) * 32 ≤ 140737488355328 := by omega
                have n2 : O.length + 1 ≤ 9223372036854775807 := by omega
                rw [hdF_ne hn0, ouF_ne hn0]
                simp [p23l0, hI, hc, splice]
                refine ACall.mk _ _ _ (cV) (by first | (simp; done) | simp [Bor_ls, Bor1_ls]) (by simp) (by first | (left; simp; done) | (right; simp; done)) ?_
                simp [splice, repl, hp, hz, hsl, hwh, n1, n2]
                refine ⟨i + 1, by omega, by omega, ?_⟩
                rw [hnx, hdF_ne (by simp), ouF_ne (by simp), fcel_one]
                refine Weak.mk hE (lk [(0, 0), (1, 26214402)]) _ _ _ ?_ ?_ ?_ ?_ ?_ <;> simp
            · rw [if_neg hp, List.append_nil] at hnx
              simp [p23l0, hI, hc, splice]
              refine ACall.mk _ _ _ (cV) (by first | (simp; done) | simp [Bor_ls, Bor1_ls]) (by simp) (by first | (left; simp; done) | (right; simp; done)) ?_
              simp [splice, hp, hz]
              refine ⟨i + 1, by omega, by omega, ?_⟩
              rw [hnx]
              by_cases hn0 : O = []
              · subst hn0
                rw [hdF_nil, ouF_nil]
                refine Weak.mk hE (lk [(0, 0)]) _ _ _ ?_ ?_ ?_ ?_ ?_ <;> simp
              · rw [hdF_ne hn0, ouF_ne hn0]
                refine Weak.mk hE (lk [(0, 0), (1, 1)]) _ _ _ ?_ ?_ ?_ ?_ ?_ <;> simp
          · have ei : i = s.gas.cs.length := by omega
            have hI : ¬ (i : Int) < s.gas.cs.length := by omega
            rw [ei, hR]
            rw [hne, hdF_nil, ouF_nil]
            simp [p23l0]
            refine RetOk.by (fun _ => none) ?_
            simp [results23]
      · rw [hdF_ne hne, ouF_ne hne]
        refine Ct.by gok eok mixed func23 c23 rfl (by simp [ntmps23]) (by simp) (by simp [ResIds]) fun E hE => ?_
        simp [p23, inC, Nat.testBit]
        refine ACall.mk _ _ _ (c1) (by first | (simp; done) | simp [Bor_ls, Bor1_ls]) (by simp) (by first | (left; simp; done) | (right; simp; done)) ?_
        simp [inC, Nat.testBit]
        refine ACall.mk _ _ _ (c2) (by first | (simp; done) | simp [Bor_ls, Bor1_ls]) (by simp) (by first | (left; simp; done) | (right; simp; done)) ?_
        simp [splice, repl]
        refine ACall.mk _ _ _ (c3) (by simp [bor_i2]) (by simp) (by first | (left; simp; done) | (right; simp; done)) ?_
        simp
        refine ACall.mk _ _ _ (c4) (by first | (simp; done) | simp [Bor_ls, Bor1_ls]) (by simp) (by first | (left; simp; done) | (right; simp; done)) ?_
        simp [splice]
        refine pw_loop (α := Nat) (fun i => ⟨slots [(9, .lp 0 0), (37, .d (cellsD s.gas.cs)), (38, vi s.gas.cs.length), (39, vi i), (11, hdF 4 (vnK a s.gas.cs i) 1)], lk ([(0, [vi a.pl, vi a.ph, vi a.tl, vi a.th])] ++ ouF actL (vnK a s.gas.cs i) 1), 2⟩) (fun i => i ≤ s.gas.cs.length) (fun i => s.gas.cs.length - i) 0 ?_ ?_ ?_
        · omega
        · rw [show vnK a s.gas.cs 0 = [] from rfl, hdF_nil, ouF_nil]
          refine Weak.mk hE (lk [(0, 22020096)]) _ _ _ ?_ ?_ ?_ ?_ ?_ <;> simp
        · intro i hi
          by_cases h : i < s.gas.cs.length
          · obtain ⟨c, hc⟩ : ∃ c, s.gas.cs[i]? = some c := ⟨_, List.getElem?_eq_getElem h⟩
            have hz : IntKind.wrap .i64 ((i : Int) + 1) = ((i + 1 : Nat) : Int) := by rw [wrap64 (by omega) (by omega)]; omega
            have hI : (i : Int) < s.gas.cs.length := by omega
            have hcb := hb.c c (List.mem_of_getElem? hc)
            have cV := fn75 c a hcb hab
            have hnx := vnK_next (a := a) hc
            have hO := vnK_len (a := a) (l := s.gas.cs) i
            obtain ⟨O, hOe⟩ : ∃ O, vnK a s.gas.cs i = O := ⟨_, rfl⟩
            rw [hOe] at hnx hO
            rw [hOe]
            by_cases hp : 0 < (valV c a).2
            · rw [if_pos hp] at hnx
              by_cases hn0 : O = []
              · subst hn0
                rw [hdF_nil, ouF_nil]
                simp [p23l0, hI, hc, splice]
                refine ACall.mk _ _ _ (cV) (by first | (simp; done) | simp [Bor_ls, Bor1_ls]) (by simp) (by first | (left; simp; done) | (right; simp; done)) ?_
                simp [splice, repl, hp, hz]
                refine ⟨i + 1, by omega, by omega, ?_⟩
                rw [hnx, hdF_ne (by simp), ouF_ne (by simp)]
                refine Weak.mk hE (lk [(0, 0), (1, 26214402)]) _ _ _ ?_ ?_ ?_ ?_ ?_ <;> simp [fcel]
              · have hsl := fcel_len hfa O
                have hwh := fcel_whole hfa O
                have n1 : (O.length + 1) * 32 ≤ 140737488355328 := by omega
                have n2 : O.length + 1 ≤ 9223372036854775807 := by omega
                rw [hdF_ne hn0, ouF_ne hn0]
                simp [p23l0, hI, hc, splice]
                refine ACall.mk _ _ _ (cV) (by first | (simp; done) | simp [Bor_ls, Bor1_ls]) (by simp) (by first | (left; simp; done) | (right; simp; done)) ?_
                simp [splice, repl, hp, hz, hsl, hwh, n1, n2]
                refine ⟨i + 1, by omega, by omega, ?_⟩
                rw [hnx, hdF_ne (by simp), ouF_ne (by simp), fcel_one]
                refine Weak.mk hE (lk [(0, 0), (1, 26214402)]) _ _ _ ?_ ?_ ?_ ?_ ?_ <;> simp
            · rw [if_neg hp, List.append_nil] at hnx
              simp [p23l0, hI, hc, splice]
              refine ACall.mk _ _ _ (cV) (by first | (simp; done) | simp [Bor_ls, Bor1_ls]) (by simp) (by first | (left; simp; done) | (right; simp; done)) ?_
              simp [splice, hp, hz]
              refine ⟨i + 1, by omega, by omega, ?_⟩
              rw [hnx]
              by_cases hn0 : O = []
              · subst hn0
                rw [hdF_nil, ouF_nil]
                refine Weak.mk hE (lk [(0, 0)]) _ _ _ ?_ ?_ ?_ ?_ ?_ <;> simp
              · rw [hdF_ne hn0, ouF_ne hn0]
                refine Weak.mk hE (lk [(0, 0), (1, 1)]) _ _ _ ?_ ?_ ?_ ?_ ?_ <;> simp
          · have ei : i = s.gas.cs.length := by omega
            have hI : ¬ (i : Int) < s.gas.cs.length := by omega
            rw [ei, hR]
            rw [hdF_ne hne, ouF_ne hne]
            simp [p23l0]
            refine RetOk.by (lk [(0, 1)]) ?_
            simp [results23]
    · have e : vnA k s u v = ([], (atA k.s u v).2) := by unfold vnA; rw [if_pos ha, if_neg he]
      rw [e]
      show Ct prog 23 _ (.tup [hdF 4 ([] : List Act) 0, vi (atA k.s u v).2]) (ouF actL [] 0)
      rw [hdF_nil, ouF_nil]
      unfold atV at c4
      generalize (atA k.s u v).1 = a at *
      generalize (atA k.s u v).2 = er at *
      refine Ct.by gok eok mixed func23 c23 rfl (by simp [ntmps23]) (by simp) (by simp [ResIds]) fun E hE => ?_
      simp [p23, inC, Nat.testBit]
      refine ACall.mk _ _ _ (c1) (by first | (simp; done) | simp [Bor_ls, Bor1_ls]) (by simp) (by first | (left; simp; done) | (right; simp; done)) ?_
      simp [inC, Nat.testBit]
      refine ACall.mk _ _ _ (c2) (by first | (simp; done) | simp [Bor_ls, Bor1_ls]) (by simp) (by first | (left; simp; done) | (right; simp; done)) ?_
      simp [splice, repl]
      refine ACall.mk _ _ _ (c3) (by simp [bor_i2]) (by simp) (by first | (left; simp; done) | (right; simp; done)) ?_
      simp
      refine ACall.mk _ _ _ (c4) (by first | (simp; done) | simp [Bor_ls, Bor1_ls]) (by simp) (by first | (left; simp; done) | (right; simp; done)) ?_
      simp [splice, he]
      refine RetOk.by (fun _ => none) ?_
      simp [results23]
  · have e : vnA k s u v = ([], askS k s) := by unfold vnA; rw [if_neg ha]
    rw [e]
    show Ct prog 23 _ (.tup [hdF 4 ([] : List Act) 0, vi (askS k s)]) (ouF actL [] 0)
    rw [hdF_nil, ouF_nil]
    generalize askS k s = er at *
    refine Ct.by gok eok mixed func23 c23 rfl (by simp [ntmps23]) (by simp) (by simp [ResIds]) fun E hE => ?_
    simp [p23, inC, Nat.testBit]
    refine ACall.mk _ _ _ (c1) (by first | (simp; done) | simp [Bor_ls, Bor1_ls]) (by simp) (by first | (left; simp; done) | (right; simp; done)) ?_
    simp [inC, Nat.testBit]
    refine ACall.mk _ _ _ (c2) (by first | (simp; done) | simp [Bor_ls, Bor1_ls]) (by simp) (by first | (left; simp; done) | (right; simp; done)) ?_
    simp [splice, repl]
    refine ACall.mk _ _ _ (c3) (by simp [bor_i2]) (by simp) (by first | (left; simp; done) | (right; simp; done)) ?_
    simp [ha]
    refine RetOk.by (fun _ => none) ?_
    simp [results23]
theorem fn81 (c : Cel) (a : Atm) (hc : CelB c) (ha : AirB a) : Ct prog 81 [cellV c, airV a] (vb (decide (fitV c a = 1))) [] := by
  have c1 := fn58 c a hc ha
  refine Ct.by gok eok mixed func81 c81 rfl (by simp [ntmps81]) (by simp) (by simp [ResIds]) fun E hE => ?_
  simp [p81]
  refine ACall.mk _ _ _ (c1) (by first | (simp; done) | simp [Bor_ls, Bor1_ls]) (by simp) (by first | (left; simp; done) | (right; simp; done)) ?_
  simp
  refine RetOk.by (fun _ => none) ?_
  simp [results81]
theorem fn80 (c : Cel) (a : Atm) (hc : CelB c) (ha : AirB a) : Ct prog 80 [cellV c, .d (.ref [di a.pl, di a.ph, di a.tl, di a.th])] (vb (decide (fitV c a = 1))) [] := by
  have c1 := fn81 c a hc ha
  refine Ct.by gok eok mixed func80 c80 rfl (by simp [ntmps80]) (by simp) (by simp [ResIds]) fun E hE => ?_
  simp [p80]
  refine ACall.mk _ _ _ (c1) (by first | (simp; done) | simp [Bor_ls, Bor1_ls]) (by simp) (by first | (left; simp; done) | (right; simp; done)) ?_
  simp
  refine RetOk.by (fun _ => none) ?_
  simp [results80]
end Go.Proofs.Tryz
namespace Go.Proofs.Tryz
open Go.Psl
open Go.Air
abbrev shpR (s : Shp) : List D := [di s.xl, di s.xh, di s.yl, di s.yh, di s.hl, di s.hh, di s.fl, di s.fh, di s.wl, di s.wh, di s.bl, di s.bh, di s.dry, di s.bal, di s.drp, cellsD s.gas.cs, di s.gas.bt, di s.gas.ih, di s.gas.ia, di s.gas.vh, di s.gas.va, di s.gas.lh, di s.gas.la, di s.gas.ph, di s.gas.pa]
def allFit (s : Shp) (a : Atm) : Bool := s.gas.cs.all fun c => decide (fitV c a = 1)
set_option maxRecDepth 20000 in
set_option maxHeartbeats 8000000 in
theorem fn78 (k : Sky) (s : Shp) (i : Nat) (h1 : k.s.length ≤ 1000000) (hi : i ≤ 1000000) (hb : ShpB s) (ho : AtOk k.s s.hl (s.hh + i)) : Ct prog 78 [vi i, .d (.ref [levsD k.s, galsD k.w]), .d (.ref (shpR s))] (vb (!allFit s (atA k.s s.hl (s.hh + i)).1)) [] := by
  have c1 := fn56 k.s s.hl (s.hh + i) h1
  have ha := at_air ho
  have q := hb.h
  have hn := hb.n
  have w : IntKind.wrap .i64 (s.hh + (i : Int)) = s.hh + i := wrap64 (by omega) (by omega)
  unfold atV at c1
  generalize (atA k.s s.hl (s.hh + i)).2 = e at *
  generalize (atA k.s s.hl (s.hh + i)).1 = a at *
  have c2 := fn79 s.gas.cs 80 [.ref [di a.pl, di a.ph, di a.tl, di a.th]] (fun c => decide (fitV c a = 1)) (by omega) fun c hc => fn80 c a (hb.c c hc) ha
  refine Ct.by gok eok mixed func78 c78 rfl (by simp [ntmps78]) (by simp) (by simp [ResIds]) fun E hE => ?_
  simp [p78, splice, w]
  refine ACall.mk _ _ _ (c1) (by first | (simp; done) | simp [Bor_ls, Bor1_ls]) (by simp) (by first | (left; simp; done) | (right; simp; done)) ?_
  simp [splice]
  refine ACall.mk _ _ _ (c2) (by first | (simp; done) | simp [Bor_ls, Bor1_ls]) (by simp) (by first | (left; simp; done) | (right; simp; done)) ?_
  simp
  refine RetOk.by (fun _ => none) ?_
  simp [results78, allFit]
def fstP (n : Nat) (p : Nat → Bool) : Nat := ((List.range n).takeWhile fun i => !p i).length
theorem fstP_le (n : Nat) (p : Nat → Bool) : fstP n p ≤ n := by
  unfold fstP
  have := (List.takeWhile_sublist (fun i => !p i) (l := List.range n)).length_le
  simpa using this
theorem tw_mem {α : Type} {q : α → Bool} : ∀ {l : List α} {x : α}, x ∈ l.takeWhile q → q x = true
  | [], x, h => by simp at h
  | a :: l, x, h => by
    by_cases hq : q a = true
    · rw [List.takeWhile_cons, if_pos hq] at h
      rcases List.mem_cons.1 h with rfl | h
      · exact hq
      · exact tw_mem h
    · rw [List.takeWhile_cons, if_neg hq] at h; cases h
theorem fstP_in {n : Nat} {p : Nat → Bool} {i : Nat} (h : i < fstP n p) : p i = false := by
  unfold fstP at h
  have hm : ((List.range n).takeWhile fun i => !p i)[i] ∈ (List.range n).takeWhile fun i => !p i := List.getElem_mem h
  have h1 := tw_mem hm
  have h2 : ((List.range n).takeWhile fun i => !p i)[i] = i := by
    have := List.IsPrefix.getElem (List.takeWhile_prefix (fun i => !p i) (l := List.range n)) h
    rw [this]; simp
  rw [h2] at h1
  simpa using h1
theorem fstP_at {n : Nat} {p : Nat → Bool} (h : fstP n p < n) : p (fstP n p) = true := by
  cases hp : p (fstP n p) with
  | true => rfl
  | false =>
    exfalso
    have hap := List.takeWhile_append_dropWhile (p := fun i => !p i) (l := List.range n)
    have hl : ((List.range n).takeWhile fun i => !p i).length = fstP n p := rfl
    cases hd : (List.range n).dropWhile fun i => !p i with
    | nil =>
      rw [hd, List.append_nil] at hap
      rw [hap, List.length_range] at hl
      omega
    | cons x r =>
      have hx : (!p x) = false := by
        have := List.head?_dropWhile_not (fun i => !p i) (List.range n)
        rw [hd] at this
        simpa using this
      have hge : (List.range n)[fstP n p]? = some x := by
        rw [← hap, List.getElem?_append_right (by omega), hl, hd]; simp
      rw [List.getElem?_range h] at hge
      cases hge
      rw [hp] at hx; simp at hx
def topR (k : Sky) (s : Shp) (n : Nat) : Nat := fstP n fun i => !allFit s (atA k.s s.hl (s.hh + i)).1
def lastH (l : List Lev) : Int := match l[l.length - 1]? with | some y => y.h | none => 0
def topA (k : Sky) (s : Shp) : Int × Int :=
  if askS k s = 0 then
    if (atA k.s s.hl s.hh).2 = 0 then
      if topR k s (lastH k.s - s.hh + 1).toNat = 0 then (0, 6) else (s.hh + topR k s (lastH k.s - s.hh + 1).toNat - 1, 0)
    else (0, (atA k.s s.hl s.hh).2)
  else (0, askS k s)
theorem allFit_down {k : Sky} {s : Shp} (hb : ShpB s) {b c : Int} (hab : s.hl ≤ b) (hbc : b ≤ c) (h : AtOk k.s s.hl c) (hf : allFit s (atA k.s s.hl c).1 = true) : allFit s (atA k.s s.hl b).1 = true := by
  unfold allFit at hf ⊢
  rw [List.all_eq_true] at hf ⊢
  intro q hq
  have := hf q hq
  simp only [decide_eq_true_eq] at this ⊢
  exact at_down hab hbc h (hb.c q hq) this
set_option maxRecDepth 20000 in
set_option maxHeartbeats 8000000 in
theorem fn25 (k : Sky) (s : Shp) (h1 : k.s.length ≤ 1000000) (h2 : k.w.length ≤ 1000000) (h3 : s.gas.cs.length ≤ 1000000) : Ct prog 25 [skyV k, shpV s (.d (cellsD s.gas.cs))] (.tup [vi (topA k s).1, vi (topA k s).2]) [] := by
  have c1 := fn32 k h1 h2
  have c2 := fn36 s (by omega)
  have c3 := fn69 (if okSky k then 0 else 50) (if okShp s then 0 else 52)
  rw [ask_eq] at c3
  have c4 := fn56 k.s s.hl s.hh h1
  obtain ⟨x, hx⟩ : ∃ x : Int, (if okSky k then 0 else 50) = x := ⟨_, rfl⟩
  obtain ⟨y, hy⟩ : ∃ y : Int, (if okShp s then 0 else 52) = y := ⟨_, rfl⟩
  rw [hx] at c1; rw [hy] at c2; rw [hx, hy] at c3
  by_cases ha : askS k s = 0
  · rw [ha] at c3
    obtain ⟨k1, k2⟩ := ask_zero ha
    by_cases he : (atA k.s s.hl s.hh).2 = 0
    · have hb := okShp_B k2
      have ho := at_ok he
      have hlen := ho.ok.len
      obtain ⟨z, hz⟩ : ∃ z, k.s[k.s.length - 1]? = some z := ⟨_, List.getElem?_eq_getElem (by omega)⟩
      have hzb := ho.ok.at' z (List.mem_of_getElem? hz)
      have hzh := ho.inb.2 z hz
      have hq := hb.h
      have elast : lastH k.s = z.h := by unfold lastH; rw [hz]
      obtain ⟨n, hn⟩ : ∃ n : Nat, (z.h - s.hh + 1).toNat = n := ⟨_, rfl⟩
      have hnI : (n : Int) = z.h - s.hh + 1 := by omega
      obtain ⟨r, hr⟩ : ∃ r, topR k s n = r := ⟨_, rfl⟩
      have e : topA k s = if r = 0 then (0, 6) else (s.hh + r - 1, 0) := by unfold topA; rw [if_pos ha, if_pos he, elast, hn, hr]
      have hinn : ∀ i : Nat, i < n → AtOk k.s s.hl (s.hh + i) := fun i hi => at_make ho.ok ho.fit (by omega) ho.ina ⟨fun w hw => by have := ho.inb.1 w hw; omega, fun w hw => by rw [hz] at hw; cases hw; omega⟩
      have hle : r ≤ n := by rw [← hr]; exact fstP_le _ _
      have cS := fn77 n r 78 [.ref [levsD k.s, galsD k.w], .ref (shpR s)] (fun i => !allFit s (atA k.s s.hl (s.hh + i)).1) (by omega) (fun i hi => fn78 k s i h1 (by omega) hb (hinn i hi)) hle (fun i hi => fstP_in (n := n) (by unfold topR at hr; rw [hr]; exact hi)) (fun i hi hin => by
        have hat : (!allFit s (atA k.s s.hl (s.hh + r)).1) = true := by
          have := fstP_at (n := n) (p := fun i => !allFit s (atA k.s s.hl (s.hh + i)).1) (by unfold topR at hr; rw [hr]; omega)
          unfold topR at hr
          rw [hr] at this
          exact this
        cases hf : allFit s (atA k.s s.hl (s.hh + i)).1 with
        | false => rfl
        | true =>
          have := allFit_down hb (b := s.hh + r) (c := s.hh + i) (by omega) (by omega) (hinn i hin) hf
          rw [this] at hat; cases hat)
      obtain ⟨m, hm⟩ : ∃ m : Nat, m = k.s.length - 1 := ⟨_, rfl⟩
      have hz' : k.s[m]? = some z := by rw [hm]; exact hz
      have hw : IntKind.wrap .i64 ((k.s.length : Int) - 1) = (m : Int) := by rw [wrap64 (by omega) (by omega)]; omega
      have hw2 : IntKind.wrap .i64 (z.h - s.hh) = z.h - s.hh := wrap64 (by omega) (by omega)
      have hw3 : IntKind.wrap .i64 (z.h - s.hh + 1) = (n : Int) := by rw [wrap64 (by omega) (by omega)]; omega
      have hw4 : IntKind.wrap .i64 (s.hh + (r : Int)) = s.hh + r := wrap64 (by omega) (by omega)
      have hw5 : IntKind.wrap .i64 (s.hh + (r : Int) - 1) = s.hh + r - 1 := wrap64 (by omega) (by omega)
      have hI : (m : Int) < k.s.length := by omega
      unfold atV at c4
      rw [he] at c4
      rw [e]
      generalize (atA k.s s.hl s.hh).1 = a at *
      by_cases hr0 : r = 0
      · have hr1 : (r : Int) = 0 := by omega
        rw [if_pos hr0]
        refine Ct.by gok eok mixed func25 c25 rfl (by simp [ntmps25]) (by simp) (by simp [ResIds]) fun E hE => ?_
        simp [p25, inC, Nat.testBit]
        refine ACall.mk _ _ _ (c1) (by first | (simp; done) | simp [Bor_ls, Bor1_ls]) (by simp) (by first | (left; simp; done) | (right; simp; done)) ?_
        simp [inC, Nat.testBit]
        refine ACall.mk _ _ _ (c2) (by first | (simp; done) | simp [Bor_ls, Bor1_ls]) (by simp) (by first | (left; simp; done) | (right; simp; done)) ?_
        simp [splice, repl]
        refine ACall.mk _ _ _ (c3) (by simp [bor_i2]) (by simp) (by first | (left; simp; done) | (right; simp; done)) ?_
        simp
        refine ACall.mk _ _ _ (c4) (by first | (simp; done) | simp [Bor_ls, Bor1_ls]) (by simp) (by first | (left; simp; done) | (right; simp; done)) ?_
        simp [splice, hw, hz', hw2, hw3]
        refine ACall.mk _ _ _ (cS) (by first | (simp; done) | simp [Bor_ls, Bor1_ls]) (by simp) (by first | (left; simp; done) | (right; simp; done)) ?_
        simp [hr0]
        refine RetOk.by (fun _ => none) ?_
        simp [results25]
      · have hr1 : ¬ (r : Int) = 0 := by omega
        rw [if_neg hr0]
        refine Ct.by gok eok mixed func25 c25 rfl (by simp [ntmps25]) (by simp) (by simp [ResIds]) fun E hE => ?_
        simp [p25, inC, Nat.testBit]
        refine ACall.mk _ _ _ (c1) (by first | (simp; done) | simp [Bor_ls, Bor1_ls]) (by simp) (by first | (left; simp; done) | (right; simp; done)) ?_
        simp [inC, Nat.testBit]
        refine ACall.mk _ _ _ (c2) (by first | (simp; done) | simp [Bor_ls, Bor1_ls]) (by simp) (by first | (left; simp; done) | (right; simp; done)) ?_
        simp [splice, repl]
        refine ACall.mk _ _ _ (c3) (by simp [bor_i2]) (by simp) (by first | (left; simp; done) | (right; simp; done)) ?_
        simp
        refine ACall.mk _ _ _ (c4) (by first | (simp; done) | simp [Bor_ls, Bor1_ls]) (by simp) (by first | (left; simp; done) | (right; simp; done)) ?_
        simp [splice, hw, hz', hw2, hw3]
        refine ACall.mk _ _ _ (cS) (by first | (simp; done) | simp [Bor_ls, Bor1_ls]) (by simp) (by first | (left; simp; done) | (right; simp; done)) ?_
        simp [hr0, hw4, hw5]
        refine RetOk.by (fun _ => none) ?_
        simp [results25]
    · have e : topA k s = (0, (atA k.s s.hl s.hh).2) := by unfold topA; rw [if_pos ha, if_neg he]
      rw [e]
      unfold atV at c4
      generalize (atA k.s s.hl s.hh).1 = a at *
      generalize (atA k.s s.hl s.hh).2 = er at *
      refine Ct.by gok eok mixed func25 c25 rfl (by simp [ntmps25]) (by simp) (by simp [ResIds]) fun E hE => ?_
      simp [p25, inC, Nat.testBit]
      refine ACall.mk _ _ _ (c1) (by first | (simp; done) | simp [Bor_ls, Bor1_ls]) (by simp) (by first | (left; simp; done) | (right; simp; done)) ?_
      simp [inC, Nat.testBit]
      refine ACall.mk _ _ _ (c2) (by first | (simp; done) | simp [Bor_ls, Bor1_ls]) (by simp) (by first | (left; simp; done) | (right; simp; done)) ?_
      simp [splice, repl]
      refine ACall.mk _ _ _ (c3) (by simp [bor_i2]) (by simp) (by first | (left; simp; done) | (right; simp; done)) ?_
      simp
      refine ACall.mk _ _ _ (c4) (by first | (simp; done) | simp [Bor_ls, Bor1_ls]) (by simp) (by first | (left; simp; done) | (right; simp; done)) ?_
      simp [splice, he]
      refine RetOk.by (fun _ => none) ?_
      simp [results25]
  · have e : topA k s = (0, askS k s) := by unfold topA; rw [if_neg ha]
    rw [e]
    generalize askS k s = er at *
    refine Ct.by gok eok mixed func25 c25 rfl (by simp [ntmps25]) (by simp) (by simp [ResIds]) fun E hE => ?_
    simp [p25, inC, Nat.testBit]
    refine ACall.mk _ _ _ (c1) (by first | (simp; done) | simp [Bor_ls, Bor1_ls]) (by simp) (by first | (left; simp; done) | (right; simp; done)) ?_
    simp [inC, Nat.testBit]
    refine ACall.mk _ _ _ (c2) (by first | (simp; done) | simp [Bor_ls, Bor1_ls]) (by simp) (by first | (left; simp; done) | (right; simp; done)) ?_
    simp [splice, repl]
    refine ACall.mk _ _ _ (c3) (by simp [bor_i2]) (by simp) (by first | (left; simp; done) | (right; simp; done)) ?_
    simp [ha]
    refine RetOk.by (fun _ => none) ?_
    simp [results25]
end Go.Proofs.Tryz
namespace Go.Proofs.YtigekgfbcfbobaaGreat
open Go.Joins Go.ChangeShapes Go.WideShapes Go.ChangeAt Go.RowKit Go.Psl
set_option maxRecDepth 100000
theorem Tryz.own : ownKnob Tryz.prog.godebug = none := by kernel_rfl
theorem Tryz.laidOut : laidOutB Tryz.prog = true := by kernel_rfl
theorem all_map {α β : Type} {f : α → β} : ∀ {es : List β}, (∀ x ∈ es, ∃ k, x = f k) → ∃ t : List α, es = t.map f
  | [], _ => ⟨[], rfl⟩
  | e :: es, h => by
    obtain ⟨k, hk⟩ := h e (by simp)
    obtain ⟨t, ht⟩ := all_map (f := f) (es := es) fun x hx => h x (by simp [hx])
    exact ⟨k :: t, by rw [ht, hk]; rfl⟩
theorem sh_int {n : Nat} {ds : List D} (h : Sh' Tryz.prog (n + 1) 3 ds) : ∃ i : Int, ds = [.lit (.int .i64 i)] := by
  simp only [Sh', Tryz.underlying3] at h
  obtain ⟨i, h, _⟩ := h
  exact ⟨i, h⟩
theorem sh_span {n : Nat} {ds : List D} (h : Sh' Tryz.prog (n + 2) 27 ds) : ∃ k : Int × Int, ds = [.lit (.int .i64 k.1), .lit (.int .i64 k.2)] := by
  rw [Sh', Tryz.underlying27] at h
  obtain ⟨a, r, rfl, h1, b, r2, rfl, h2, rfl⟩ := h
  obtain ⟨i, rfl⟩ := sh_int h1
  obtain ⟨j, rfl⟩ := sh_int h2
  exact ⟨(i, j), rfl⟩
theorem sh_pair {n : Nat} {ds : List D} (h : Sh' Tryz.prog (n + 2) 30 ds) : ∃ k : Int × Int, ds = [.lit (.int .i64 k.1), .lit (.int .i64 k.2)] := by
  rw [Sh', Tryz.underlying30] at h
  obtain ⟨a, r, rfl, h1, b, r2, rfl, h2, rfl⟩ := h
  obtain ⟨i, rfl⟩ := sh_int h1
  obtain ⟨j, rfl⟩ := sh_int h2
  exact ⟨(i, j), rfl⟩
theorem sh_wind {n : Nat} {ds : List D} (h : Sh' Tryz.prog (n + 3) 74 ds) : ∃ k : (Int × Int) × Int × Int, ds = [.lit (.int .i64 k.1.1), .lit (.int .i64 k.1.2), .lit (.int .i64 k.2.1), .lit (.int .i64 k.2.2)] := by
  rw [Sh', Tryz.underlying74] at h
  obtain ⟨a, r, rfl, h1, b, r2, rfl, h2, rfl⟩ := h
  obtain ⟨i, rfl⟩ := sh_span h1
  obtain ⟨j, rfl⟩ := sh_span h2
  exact ⟨(i, j), rfl⟩
theorem sh_lev {n : Nat} {ds : List D} (h : Sh' Tryz.prog (n + 3) 128 ds) : ∃ k : Go.Air.Lev, ds = Tryz.levL k := by
  rw [Sh', Tryz.underlying128] at h
  obtain ⟨a, r, rfl, h1, b, r2, rfl, h2, c, r3, rfl, h3, rfl⟩ := h
  obtain ⟨i, rfl⟩ := sh_int h1
  obtain ⟨j, rfl⟩ := sh_span h2
  obtain ⟨k, rfl⟩ := sh_span h3
  exact ⟨⟨i, j.1, j.2, k.1, k.2⟩, rfl⟩
theorem sh_gal {n : Nat} {ds : List D} (h : Sh' Tryz.prog (n + 4) 174 ds) : ∃ k : Tryz.Gal, ds = Tryz.galL k := by
  rw [Sh', Tryz.underlying174] at h
  obtain ⟨a, r, rfl, h1, b, r2, rfl, h2, c, r3, rfl, h3, rfl⟩ := h
  obtain ⟨i, rfl⟩ := sh_int h1
  obtain ⟨j, rfl⟩ := sh_wind h2
  obtain ⟨k, rfl⟩ := sh_int h3
  exact ⟨⟨i, j.1.1, j.1.2, j.2.1, j.2.2, k⟩, rfl⟩
theorem sh_cell {n : Nat} {ds : List D} (h : Sh' Tryz.prog (n + 3) 88 ds) : ∃ k : Go.Air.Cel, ds = Tryz.cellL k := by
  rw [Sh', Tryz.underlying88] at h
  obtain ⟨a, r, rfl, h1, b, r2, rfl, h2, c, r3, rfl, h3, d, r4, rfl, h4, e, r5, rfl, h5, f, r6, rfl, h6, rfl⟩ := h
  obtain ⟨i1, rfl⟩ := sh_int h1
  obtain ⟨i2, rfl⟩ := sh_int h2
  obtain ⟨i3, rfl⟩ := sh_int h3
  obtain ⟨i4, rfl⟩ := sh_span h4
  obtain ⟨i5, rfl⟩ := sh_int h5
  obtain ⟨i6, rfl⟩ := sh_int h6
  exact ⟨⟨i1, i2, i3, i4.1, i4.2, i5, i6⟩, rfl⟩
theorem cells128 : Tryz.prog.cellsOf 128 = 5 := by kernel_rfl
theorem sh_levs {n : Nat} {ds : List D} (h : Sh' Tryz.prog (n + 4) 22 ds) : ∃ t : List Go.Air.Lev, ds = [.sl 5 (t.map Tryz.levL)] := by
  rw [Sh', Tryz.underlying22] at h
  obtain ⟨es, rfl, _, h⟩ := h
  obtain ⟨t, rfl⟩ := all_map fun x hx => sh_lev (h x hx)
  exact ⟨t, by rw [cells128]⟩
theorem cells174 : Tryz.prog.cellsOf 174 = 6 := by kernel_rfl
theorem sh_gals {n : Nat} {ds : List D} (h : Sh' Tryz.prog (n + 5) 23 ds) : ∃ t : List Tryz.Gal, ds = [.sl 6 (t.map Tryz.galL)] := by
  rw [Sh', Tryz.underlying23] at h
  obtain ⟨es, rfl, _, h⟩ := h
  obtain ⟨t, rfl⟩ := all_map fun x hx => sh_gal (h x hx)
  exact ⟨t, by rw [cells174]⟩
theorem cells88 : Tryz.prog.cellsOf 88 = 7 := by kernel_rfl
theorem sh_cells {n : Nat} {ds : List D} (h : Sh' Tryz.prog (n + 4) 28 ds) : ∃ t : List Go.Air.Cel, ds = [.sl 7 (t.map Tryz.cellL)] := by
  rw [Sh', Tryz.underlying28] at h
  obtain ⟨es, rfl, _, h⟩ := h
  obtain ⟨t, rfl⟩ := all_map fun x hx => sh_cell (h x hx)
  exact ⟨t, by rw [cells88]⟩
theorem sh_plant {n : Nat} {ds : List D} (h : Sh' Tryz.prog (n + 5) 32 ds) : ∃ p : Tryz.Plt, ds = [Tryz.cellsD p.cs, .lit (.int .i64 p.bt), .lit (.int .i64 p.ih), .lit (.int .i64 p.ia), .lit (.int .i64 p.vh), .lit (.int .i64 p.va), .lit (.int .i64 p.lh), .lit (.int .i64 p.la), .lit (.int .i64 p.ph), .lit (.int .i64 p.pa)] := by
  rw [Sh', Tryz.underlying32] at h
  obtain ⟨a, r, rfl, h1, b, r2, rfl, h2, c, r3, rfl, h3, d, r4, rfl, h4, e, r5, rfl, h5, f, r6, rfl, h6, rfl⟩ := h
  obtain ⟨i1, rfl⟩ := sh_cells h1
  obtain ⟨i2, rfl⟩ := sh_int h2
  obtain ⟨i3, rfl⟩ := sh_pair h3
  obtain ⟨i4, rfl⟩ := sh_pair h4
  obtain ⟨i5, rfl⟩ := sh_pair h5
  obtain ⟨i6, rfl⟩ := sh_pair h6
  exact ⟨⟨i1, i2, i3.1, i3.2, i4.1, i4.2, i5.1, i5.2, i6.1, i6.2⟩, rfl⟩
theorem sh_ship {n : Nat} {ds : List D} (h : Sh' Tryz.prog (n + 6) 34 ds) : ∃ s : Tryz.Shp, ds = Tryz.shpR s := by
  rw [Sh', Tryz.underlying34] at h
  obtain ⟨a1, r1, rfl, h1, a2, r2, rfl, h2, a3, r3, rfl, h3, a4, r4, rfl, h4, a5, r5, rfl, h5, a6, r6, rfl, h6, a7, r7, rfl, h7, a8, r8, rfl, h8, a9, r9, rfl, h9, a0, r0, rfl, h0, rfl⟩ := h
  obtain ⟨i1, rfl⟩ := sh_span h1
  obtain ⟨i2, rfl⟩ := sh_span h2
  obtain ⟨i3, rfl⟩ := sh_span h3
  obtain ⟨i4, rfl⟩ := sh_span h4
  obtain ⟨i5, rfl⟩ := sh_span h5
  obtain ⟨i6, rfl⟩ := sh_span h6
  obtain ⟨i7, rfl⟩ := sh_int h7
  obtain ⟨i8, rfl⟩ := sh_int h8
  obtain ⟨i9, rfl⟩ := sh_int h9
  obtain ⟨p, rfl⟩ := sh_plant h0
  exact ⟨⟨i1.1, i1.2, i2.1, i2.2, i3.1, i3.2, i4.1, i4.2, i5.1, i5.2, i6.1, i6.2, i7, i8, i9, p⟩, rfl⟩
theorem sh_sky {n : Nat} {ds : List D} (h : Sh' Tryz.prog (n + 6) 25 ds) : ∃ k : Tryz.Sky, ds = [Tryz.levsD k.s, Tryz.galsD k.w] := by
  rw [Sh', Tryz.underlying25] at h
  obtain ⟨a, r, rfl, h1, b, r2, rfl, h2, rfl⟩ := h
  obtain ⟨i, rfl⟩ := sh_levs h1
  obtain ⟨j, rfl⟩ := sh_gals h2
  exact ⟨⟨i, j⟩, rfl⟩
theorem all2_d {G : Gh} {W : World} : ∀ {ds : List D} {cv : List Value}, All2 (RD G.Im W) ds cv → All2 (R1 G W) (ds.map V.d) cv
  | [], [], _ => trivial
  | _ :: _, _ :: _, h => ⟨h.1, all2_d h.2⟩
abbrev GW (W : World) : Gh := ⟨fun _ => 0, fun _ => 0, fun _ => true, fun _ => true, InW W⟩
theorem struct_arg {H : Type} {enc : TypeId × Value → H} {W : World} {base : Nat} {v : Value} {d : DataW H} {p : List MemPlace} {t : TypeId} {fs : Array Field} {n : Nat} (hu : Tryz.prog.underlying t = some (.struct fs)) (hp : plainB Tryz.prog n t = true)
    (hval : Value.okWide Tryz.prog W .any base t v) (h : DataW.Trod enc Tryz.prog W 0 (fun _ => true) true t v d p) : ∃ ds : List D, Sh' Tryz.prog n t ds ∧ R2 (GW W) W (.agg (ds.map .d)) v := by
  obtain ⟨m, hm⟩ := h
  obtain ⟨cs, rfl, _⟩ := okWide_struct hu hval
  obtain ⟨ds, h1, h2⟩ := read_plain n t hp m _ _ hm
  exact ⟨ds, h1, _, rfl, all2_d h2⟩
theorem sky_arg {H : Type} {enc : TypeId × Value → H} {W : World} {base : Nat} {v : Value} {d : DataW H} {p : List MemPlace} (hval : Value.okWide Tryz.prog W .any base 25 v) (h : DataW.Trod enc Tryz.prog W 0 (fun _ => true) true 25 v d p) :
    ∃ k : Tryz.Sky, R2 (GW W) W (Tryz.skyV k) v := by
  obtain ⟨ds, h1, h2⟩ := struct_arg (n := 6) Tryz.underlying25 (by kernel_rfl) hval h
  obtain ⟨k, rfl⟩ := sh_sky h1
  exact ⟨k, h2⟩
theorem ship_arg {H : Type} {enc : TypeId × Value → H} {W : World} {base : Nat} {v : Value} {d : DataW H} {p : List MemPlace} (hval : Value.okWide Tryz.prog W .any base 34 v) (h : DataW.Trod enc Tryz.prog W 0 (fun _ => true) true 34 v d p) :
    ∃ k : Tryz.Shp, R2 (GW W) W (Tryz.shpV k (.d (Tryz.cellsD k.gas.cs))) v := by
  obtain ⟨ds, h1, h2⟩ := struct_arg (n := 6) Tryz.underlying34 (by kernel_rfl) hval h
  obtain ⟨k, rfl⟩ := sh_ship h1
  exact ⟨k, h2⟩
theorem span_arg {H : Type} {enc : TypeId × Value → H} {W : World} {base : Nat} {v : Value} {d : DataW H} {p : List MemPlace} (hval : Value.okWide Tryz.prog W .any base 27 v) (h : DataW.Trod enc Tryz.prog W 0 (fun _ => true) true 27 v d p) :
    ∃ k : Int × Int, R2 (GW W) W (Tryz.vsp k.1 k.2) v := by
  obtain ⟨ds, h1, h2⟩ := struct_arg (n := 2) Tryz.underlying27 (by kernel_rfl) hval h
  obtain ⟨k, rfl⟩ := sh_span h1
  exact ⟨k, h2⟩
end Go.Proofs.YtigekgfbcfbobaaGreat
namespace Go.Proofs.Tryz
open Go.Psl
open Go.Air
set_option maxRecDepth 20000
theorem rgB_one {lo hi n : Int} : rgB lo hi [n] = (decide (lo ≤ n) && decide (n ≤ hi)) := by simp [rgB]
theorem rgB_pair {lo hi a b : Int} : rgB lo hi [a, b] = (rgB lo hi [a] && rgB lo hi [b]) := by simp [rgB]
theorem fn207 (n lo hi : Int) : Ct prog 207 [vi n, vi lo, vi hi] (vb (rgB lo hi [n])) [] := by
  rw [rgB_one]
  by_cases h : lo ≤ n
  · refine Ct.by gok eok mixed func207 c207 rfl (by simp [ntmps207]) (by simp) (by simp [ResIds]) fun E hE => ?_
    simp [p207, h]
    refine RetOk.by (fun _ => none) ?_
    simp [results207]
  · refine Ct.by gok eok mixed func207 c207 rfl (by simp [ntmps207]) (by simp) (by simp [ResIds]) fun E hE => ?_
    simp [p207, h]
    refine RetOk.by (fun _ => none) ?_
    simp [results207]
theorem fn209 (n lo hi : Int) : Ct prog 209 [vi n, vi lo, vi hi] (vb (rgB lo hi [n])) [] := by
  rw [rgB_one]
  by_cases h : lo ≤ n
  · refine Ct.by gok eok mixed func209 c209 rfl (by simp [ntmps209]) (by simp) (by simp [ResIds]) fun E hE => ?_
    simp [p209, h]
    refine RetOk.by (fun _ => none) ?_
    simp [results209]
  · refine Ct.by gok eok mixed func209 c209 rfl (by simp [ntmps209]) (by simp) (by simp [ResIds]) fun E hE => ?_
    simp [p209, h]
    refine RetOk.by (fun _ => none) ?_
    simp [results209]
theorem fn137 (n lo hi : Int) : Ct prog 137 [vi n, vi lo, vi hi] (vb (rgB lo hi [n])) [] := by
  rw [rgB_one]
  by_cases h : lo ≤ n
  · refine Ct.by gok eok mixed func137 c137 rfl (by simp [ntmps137]) (by simp) (by simp [ResIds]) fun E hE => ?_
    simp [p137, h]
    refine RetOk.by (fun _ => none) ?_
    simp [results137]
  · refine Ct.by gok eok mixed func137 c137 rfl (by simp [ntmps137]) (by simp) (by simp [ResIds]) fun E hE => ?_
    simp [p137, h]
    refine RetOk.by (fun _ => none) ?_
    simp [results137]
theorem fn288 (a b lo hi : Int) : Ct prog 288 [vsp a b, vi lo, vi hi] (vb (spB lo hi a b)) [] := by
  have e : spB lo hi a b = (decide (lo ≤ a) && decide (a ≤ b) && decide (b ≤ hi)) := by
    rw [Bool.eq_iff_iff, spB_iff]; simp; omega
  rw [e]
  by_cases h : lo ≤ a
  · by_cases h2 : a ≤ b
    · refine Ct.by gok eok mixed func288 c288 rfl (by simp [ntmps288]) (by simp) (by simp [ResIds]) fun E hE => ?_
      simp [p288, h, h2]
      refine RetOk.by (fun _ => none) ?_
      simp [results288]
    · refine Ct.by gok eok mixed func288 c288 rfl (by simp [ntmps288]) (by simp) (by simp [ResIds]) fun E hE => ?_
      simp [p288, h, h2]
      refine RetOk.by (fun _ => none) ?_
      simp [results288]
  · refine Ct.by gok eok mixed func288 c288 rfl (by simp [ntmps288]) (by simp) (by simp [ResIds]) fun E hE => ?_
    simp [p288, h]
    refine RetOk.by (fun _ => none) ?_
    simp [results288]
theorem fn291 (a b : Int) : Ct prog 291 [vsp a b] (vb (spB 1500 3500 a b)) [] := by
  refine Ct.by gok eok mixed func291 c291 rfl (by simp [ntmps291]) (by simp) (by simp [ResIds]) fun E hE => ?_
  simp [p291]
  refine ACall.mk _ _ _ (fn288 a b 1500 3500) (by first | (simp; done) | simp [Bor_ls, Bor1_ls]) (by simp) (by first | (left; simp; done) | (right; simp; done)) ?_
  simp
  refine RetOk.by (fun _ => none) ?_
  simp [results291]
theorem fn263 (a b : Int) : Ct prog 263 [vsp a b] (vb (spB (-300) 300 a b)) [] := by
  refine Ct.by gok eok mixed func263 c263 rfl (by simp [ntmps263]) (by simp) (by simp [ResIds]) fun E hE => ?_
  simp [p263]
  refine ACall.mk _ _ _ (fn288 a b (-300) 300) (by first | (simp; done) | simp [Bor_ls, Bor1_ls]) (by simp) (by first | (left; simp; done) | (right; simp; done)) ?_
  simp
  refine RetOk.by (fun _ => none) ?_
  simp [results263]
theorem fn268 (a : Atm) : Ct prog 268 [airV a] (vb (okAir a)) [] := by
  have c1 := fn288 a.pl a.ph 1000 12000
  have c2 := fn291 a.tl a.th
  unfold okAir
  generalize spB 1000 12000 a.pl a.ph = b1 at *
  generalize spB 1500 3500 a.tl a.th = b2 at *
  cases b1 <;> (
    refine Ct.by gok eok mixed func268 c268 rfl (by simp [ntmps268]) (by simp) (by simp [ResIds]) fun E hE => ?_
    simp [p268]
    repeat ((first | (refine ACall.mk _ _ _ (c1) ?_ ?_ ?_ ?_; (focus (simp; done)); (focus (simp; done)); (focus (first | (left; simp; done) | (right; simp; done)))) | (refine ACall.mk _ _ _ (c2) ?_ ?_ ?_ ?_; (focus (simp; done)); (focus (simp; done)); (focus (first | (left; simp; done) | (right; simp; done))))); simp)
    refine RetOk.by (fun _ => none) ?_
    simp [results268])
theorem fn216 (a : Atm) : Ct prog 216 [airV a] (vi (if okAir a then 0 else 30)) [] := by
  have c1 := fn268 a
  cases h : okAir a <;> (
    rw [h] at c1
    refine Ct.by gok eok mixed func216 c216 rfl (by simp [ntmps216]) (by simp) (by simp [ResIds]) fun E hE => ?_
    simp [p216]
    repeat ((first | (refine ACall.mk _ _ _ (c1) ?_ ?_ ?_ ?_; (focus (simp; done)); (focus (simp; done)); (focus (first | (left; simp; done) | (right; simp; done))))); simp)
    refine RetOk.by (fun _ => none) ?_
    simp [results216])
set_option maxRecDepth 20000 in
set_option maxHeartbeats 4000000 in
theorem fn211 (c : Cel) : Ct prog 211 [cellV c] (vb (okCel c)) [] := by
  have c1 := fn209 c.rm 1 10000000
  have c2 := fn209 c.he 0 10000000
  have c3 := fn209 c.ai 0 10000000
  have c4 := fn263 c.wl c.wh
  have c5 := fn209 c.lk 0 100000
  have c6 := fn209 c.ow 0 999999
  have e : okCel c = (rgB 1 10000000 [c.rm] && (rgB 0 10000000 [c.he] && rgB 0 10000000 [c.ai]) && rgB 0 100000 [c.lk] && rgB 0 999999 [c.ow] && spB (-300) 300 c.wl c.wh) := by unfold okCel; rw [rgB_pair]
  rw [e]
  generalize rgB 1 10000000 [c.rm] = b1 at *
  generalize rgB 0 10000000 [c.he] = b2 at *
  generalize rgB 0 10000000 [c.ai] = b3 at *
  generalize rgB 0 100000 [c.lk] = b4 at *
  generalize rgB 0 999999 [c.ow] = b5 at *
  generalize spB (-300) 300 c.wl c.wh = b6 at *
  cases b1
  · refine Ct.by gok eok mixed func211 c211 rfl (by simp [ntmps211]) (by simp) (by simp [ResIds]) fun E hE => ?_
    simp [p211]
    repeat ((first | (refine ACall.mk _ _ _ (c1) ?_ ?_ ?_ ?_; (focus (simp; done)); (focus (simp; done)); (focus (first | (left; simp; done) | (right; simp; done)))) | (refine ACall.mk _ _ _ (c2) ?_ ?_ ?_ ?_; (focus (simp; done)); (focus (simp; done)); (focus (first | (left; simp; done) | (right; simp; done)))) | (refine ACall.mk _ _ _ (c3) ?_ ?_ ?_ ?_; (focus (simp; done)); (focus (simp; done)); (focus (first | (left; simp; done) | (right; simp; done)))) | (refine ACall.mk _ _ _ (c4) ?_ ?_ ?_ ?_; (focus (simp; done)); (focus (simp; done)); (focus (first | (left; simp; done) | (right; simp; done)))) | (refine ACall.mk _ _ _ (c5) ?_ ?_ ?_ ?_; (focus (simp; done)); (focus (simp; done)); (focus (first | (left; simp; done) | (right; simp; done)))) | (refine ACall.mk _ _ _ (c6) ?_ ?_ ?_ ?_; (focus (simp; done)); (focus (simp; done)); (focus (first | (left; simp; done) | (right; simp; done))))); simp)
    refine RetOk.by (fun _ => none) ?_
    simp [results211]
  cases b2
  · refine Ct.by gok eok mixed func211 c211 rfl (by simp [ntmps211]) (by simp) (by simp [ResIds]) fun E hE => ?_
    simp [p211]
    repeat ((first | (refine ACall.mk _ _ _ (c1) ?_ ?_ ?_ ?_; (focus (simp; done)); (focus (simp; done)); (focus (first | (left; simp; done) | (right; simp; done)))) | (refine ACall.mk _ _ _ (c2) ?_ ?_ ?_ ?_; (focus (simp; done)); (focus (simp; done)); (focus (first | (left; simp; done) | (right; simp; done)))) | (refine ACall.mk _ _ _ (c3) ?_ ?_ ?_ ?_; (focus (simp; done)); (focus (simp; done)); (focus (first | (left; simp; done) | (right; simp; done)))) | (refine ACall.mk _ _ _ (c4) ?_ ?_ ?_ ?_; (focus (simp; done)); (focus (simp; done)); (focus (first | (left; simp; done) | (right; simp; done)))) | (refine ACall.mk _ _ _ (c5) ?_ ?_ ?_ ?_; (focus (simp; done)); (focus (simp; done)); (focus (first | (left; simp; done) | (right; simp; done)))) | (refine ACall.mk _ _ _ (c6) ?_ ?_ ?_ ?_; (focus (simp; done)); (focus (simp; done)); (focus (first | (left; simp; done) | (right; simp; done))))); simp)
    refine RetOk.by (fun _ => none) ?_
    simp [results211]
  cases b3
  · refine Ct.by gok eok mixed func211 c211 rfl (by simp [ntmps211]) (by simp) (by simp [ResIds]) fun E hE => ?_
    simp [p211]
    repeat ((first | (refine ACall.mk _ _ _ (c1) ?_ ?_ ?_ ?_; (focus (simp; done)); (focus (simp; done)); (focus (first | (left; simp; done) | (right; simp; done)))) | (refine ACall.mk _ _ _ (c2) ?_ ?_ ?_ ?_; (focus (simp; done)); (focus (simp; done)); (focus (first | (left; simp; done) | (right; simp; done)))) | (refine ACall.mk _ _ _ (c3) ?_ ?_ ?_ ?_; (focus (simp; done)); (focus (simp; done)); (focus (first | (left; simp; done) | (right; simp; done)))) | (refine ACall.mk _ _ _ (c4) ?_ ?_ ?_ ?_; (focus (simp; done)); (focus (simp; done)); (focus (first | (left; simp; done) | (right; simp; done)))) | (refine ACall.mk _ _ _ (c5) ?_ ?_ ?_ ?_; (focus (simp; done)); (focus (simp; done)); (focus (first | (left; simp; done) | (right; simp; done)))) | (refine ACall.mk _ _ _ (c6) ?_ ?_ ?_ ?_; (focus (simp; done)); (focus (simp; done)); (focus (first | (left; simp; done) | (right; simp; done))))); simp)
    refine RetOk.by (fun _ => none) ?_
    simp [results211]
  cases b6
  · refine Ct.by gok eok mixed func211 c211 rfl (by simp [ntmps211]) (by simp) (by simp [ResIds]) fun E hE => ?_
    simp [p211]
    repeat ((first | (refine ACall.mk _ _ _ (c1) ?_ ?_ ?_ ?_; (focus (simp; done)); (focus (simp; done)); (focus (first | (left; simp; done) | (right; simp; done)))) | (refine ACall.mk _ _ _ (c2) ?_ ?_ ?_ ?_; (focus (simp; done)); (focus (simp; done)); (focus (first | (left; simp; done) | (right; simp; done)))) | (refine ACall.mk _ _ _ (c3) ?_ ?_ ?_ ?_; (focus (simp; done)); (focus (simp; done)); (focus (first | (left; simp; done) | (right; simp; done)))) | (refine ACall.mk _ _ _ (c4) ?_ ?_ ?_ ?_; (focus (simp; done)); (focus (simp; done)); (focus (first | (left; simp; done) | (right; simp; done)))) | (refine ACall.mk _ _ _ (c5) ?_ ?_ ?_ ?_; (focus (simp; done)); (focus (simp; done)); (focus (first | (left; simp; done) | (right; simp; done)))) | (refine ACall.mk _ _ _ (c6) ?_ ?_ ?_ ?_; (focus (simp; done)); (focus (simp; done)); (focus (first | (left; simp; done) | (right; simp; done))))); simp)
    refine RetOk.by (fun _ => none) ?_
    simp [results211]
  cases b4
  · refine Ct.by gok eok mixed func211 c211 rfl (by simp [ntmps211]) (by simp) (by simp [ResIds]) fun E hE => ?_
    simp [p211]
    repeat ((first | (refine ACall.mk _ _ _ (c1) ?_ ?_ ?_ ?_; (focus (simp; done)); (focus (simp; done)); (focus (first | (left; simp; done) | (right; simp; done)))) | (refine ACall.mk _ _ _ (c2) ?_ ?_ ?_ ?_; (focus (simp; done)); (focus (simp; done)); (focus (first | (left; simp; done) | (right; simp; done)))) | (refine ACall.mk _ _ _ (c3) ?_ ?_ ?_ ?_; (focus (simp; done)); (focus (simp; done)); (focus (first | (left; simp; done) | (right; simp; done)))) | (refine ACall.mk _ _ _ (c4) ?_ ?_ ?_ ?_; (focus (simp; done)); (focus (simp; done)); (focus (first | (left; simp; done) | (right; simp; done)))) | (refine ACall.mk _ _ _ (c5) ?_ ?_ ?_ ?_; (focus (simp; done)); (focus (simp; done)); (focus (first | (left; simp; done) | (right; simp; done)))) | (refine ACall.mk _ _ _ (c6) ?_ ?_ ?_ ?_; (focus (simp; done)); (focus (simp; done)); (focus (first | (left; simp; done) | (right; simp; done))))); simp)
    refine RetOk.by (fun _ => none) ?_
    simp [results211]
  · refine Ct.by gok eok mixed func211 c211 rfl (by simp [ntmps211]) (by simp) (by simp [ResIds]) fun E hE => ?_
    simp [p211]
    repeat ((first | (refine ACall.mk _ _ _ (c1) ?_ ?_ ?_ ?_; (focus (simp; done)); (focus (simp; done)); (focus (first | (left; simp; done) | (right; simp; done)))) | (refine ACall.mk _ _ _ (c2) ?_ ?_ ?_ ?_; (focus (simp; done)); (focus (simp; done)); (focus (first | (left; simp; done) | (right; simp; done)))) | (refine ACall.mk _ _ _ (c3) ?_ ?_ ?_ ?_; (focus (simp; done)); (focus (simp; done)); (focus (first | (left; simp; done) | (right; simp; done)))) | (refine ACall.mk _ _ _ (c4) ?_ ?_ ?_ ?_; (focus (simp; done)); (focus (simp; done)); (focus (first | (left; simp; done) | (right; simp; done)))) | (refine ACall.mk _ _ _ (c5) ?_ ?_ ?_ ?_; (focus (simp; done)); (focus (simp; done)); (focus (first | (left; simp; done) | (right; simp; done)))) | (refine ACall.mk _ _ _ (c6) ?_ ?_ ?_ ?_; (focus (simp; done)); (focus (simp; done)); (focus (first | (left; simp; done) | (right; simp; done))))); simp)
    refine RetOk.by (fun _ => none) ?_
    simp [results211]
def askG (c : Cel) (a : Atm) : Int := if okCel c then (if okAir a then 0 else 30) else 31
theorem fn145 (c : Cel) (a : Atm) : Ct prog 145 [cellV c, airV a] (vi (askG c a)) [] := by
  have c1 := fn211 c
  have c2 := fn216 a
  unfold askG
  cases h : okCel c <;> (
    rw [h] at c1
    refine Ct.by gok eok mixed func145 c145 rfl (by simp [ntmps145]) (by simp) (by simp [ResIds]) fun E hE => ?_
    simp [p145]
    repeat ((first | (refine ACall.mk _ _ _ (c1) ?_ ?_ ?_ ?_; (focus (simp; done)); (focus (simp; done)); (focus (first | (left; simp; done) | (right; simp; done)))) | (refine ACall.mk _ _ _ (c2) ?_ ?_ ?_ ?_; (focus (simp; done)); (focus (simp; done)); (focus (first | (left; simp; done) | (right; simp; done))))); simp)
    refine RetOk.by (fun _ => none) ?_
    simp [results145])
theorem ask_ok {c : Cel} {a : Atm} (hc : CelB c) (ha : AirB a) : askG c a = 0 := by
  unfold askG; rw [okCel_iff.2 hc, okAir_iff.2 ha]; rfl
theorem fn146 (a b c d : Int) (h1 : IntKind.wrap .i64 (a + c) = a + c) (h2 : IntKind.wrap .i64 (b + d) = b + d) : Ct prog 146 [vsp a b, vsp c d] (vsp (a + c) (b + d)) [] := by
  refine Ct.by gok eok mixed func146 c146 rfl (by simp [ntmps146]) (by simp) (by simp [ResIds]) fun E hE => ?_
  simp [p146, splice, h1, h2]
  refine RetOk.by (fun _ => none) ?_
  simp [results146]
theorem fn147 (c : Cel) (hc : CelB c) : Ct prog 147 [cellV c] (vi (am c)) [] := by
  have h1 := am_bd hc
  have w : IntKind.wrap .i64 (c.he + c.ai) = c.he + c.ai := wrap64 (by unfold am at h1; omega) (by unfold am at h1; omega)
  refine Ct.by gok eok mixed func147 c147 rfl (by simp [ntmps147]) (by simp) (by simp [ResIds]) fun E hE => ?_
  simp [p147, w]
  refine RetOk.by (fun _ => none) ?_
  simp [results147, am]
theorem fn148 (a b : Int) (ha : -3000000000000000000 ≤ a ∧ a ≤ 3000000000000000000) (hb : 0 < b ∧ b ≤ 100000) : Ct prog 148 [vi a, vi b] (vi (fl a b)) [] := by
  have hz : ¬ b = 0 := by omega
  have hq := tdiv_bd (b := b) (a := a) (by omega)
  have e := fl_t (a := a) hb.1
  have em := Int.tmod_add_mul_tdiv a b
  have mc : b * a.tdiv b = a.tdiv b * b := Int.mul_comm _ _
  have mlt := Int.tmod_lt_of_pos a hb.1
  have mgt := Int.lt_tmod_of_pos a hb.1
  have w1 : IntKind.wrap .i64 (a.tdiv b) = a.tdiv b := wrap64 (by omega) (by omega)
  have w2 : IntKind.wrap .i64 (a.tdiv b - 1) = a.tdiv b - 1 := wrap64 (by omega) (by omega)
  have w3 : IntKind.wrap .i64 (a.tdiv b * b) = a.tdiv b * b := wrap64 (by omega) (by omega)
  by_cases h : a < a.tdiv b * b
  · have : a < 0 ∧ a.tmod b ≠ 0 := by
      refine ⟨Int.not_le.1 fun h0 => ?_, by omega⟩
      have := Int.tmod_nonneg b h0
      omega
    rw [if_pos this] at e
    refine Ct.by gok eok mixed func148 c148 rfl (by simp [ntmps148]) (by simp) (by simp [ResIds]) fun E hE => ?_
    simp [p148, hz, w1, w2, w3, h]
    refine RetOk.by (fun _ => none) ?_
    simp [results148, e]
  · have : ¬ (a < 0 ∧ a.tmod b ≠ 0) := fun ⟨h0, h1⟩ => by
      have : a.tmod b ≤ 0 := by
        have := Int.tmod_nonneg b (a := -a) (by omega)
        rw [Int.neg_tmod] at this; omega
      omega
    rw [if_neg this] at e
    refine Ct.by gok eok mixed func148 c148 rfl (by simp [ntmps148]) (by simp) (by simp [ResIds]) fun E hE => ?_
    simp [p148, hz, w1, w3, h]
    refine RetOk.by (fun _ => none) ?_
    simp [results148, e]
theorem fn215 (a b : Int) (ha : -3000000000000000000 ≤ a ∧ a ≤ 3000000000000000000) (hb : 0 < b ∧ b ≤ 100000) : Ct prog 215 [vi a, vi b] (vi (ce a b)) [] := by
  have w1 : IntKind.wrap .i64 (-a) = -a := wrap64 (by omega) (by omega)
  have hf := fl_bd (a := -a) (b := b) (by omega) hb.1
  have w2 : IntKind.wrap .i64 (-fl (-a) b) = -fl (-a) b := wrap64 (by omega) (by omega)
  refine Ct.by gok eok mixed func215 c215 rfl (by simp [ntmps215]) (by simp) (by simp [ResIds]) fun E hE => ?_
  simp [p215, w1]
  refine ACall.mk _ _ _ (fn148 (-a) b (by omega) hb) (by first | (simp; done) | simp [Bor_ls, Bor1_ls]) (by simp) (by first | (left; simp; done) | (right; simp; done)) ?_
  simp [w2]
  refine RetOk.by (fun _ => none) ?_
  simp [results215, ce, fl]
end Go.Proofs.Tryz
namespace Go.Proofs.Tryz
open Go.Psl
open Go.Air
set_option maxRecDepth 20000
set_option maxHeartbeats 4000000
theorem fn217 (c : Cel) (a : Atm) (hc : CelB c) (ha : AirB a) : Ct prog 217 [cellV c, airV a] (vu8 (fitV c a)) [] := by
  have b := fit_bd hc ha
  have h1 := am_bd hc
  have h2 := hc.w
  have h3 := ha.t
  have w3 : IntKind.wrap .i64 (c.rm * a.pl) = c.rm * a.pl := wrap64 (by omega) (by omega)
  have w4 : IntKind.wrap .i64 (c.rm * a.ph) = c.rm * a.ph := wrap64 (by omega) (by omega)
  have w5 : IntKind.wrap .i64 (am c * (a.th + c.wh)) = am c * (a.th + c.wh) := wrap64 (by omega) (by omega)
  have w6 : IntKind.wrap .i64 (am c * (a.tl + c.wl)) = am c * (a.tl + c.wl) := wrap64 (by omega) (by omega)
  have d1 := fn146 a.tl a.th c.wl c.wh (wrap64 (by omega) (by omega)) (wrap64 (by omega) (by omega))
  have d2 := fn147 c hc
  by_cases h5 : am c * (a.th + c.wh) ≤ c.rm * a.pl
  · have e : fitV c a = 1 := by unfold fitV; rw [if_pos h5]
    rw [e]
    refine Ct.by gok eok mixed func217 c217 rfl (by simp [ntmps217]) (by simp) (by simp [ResIds]) fun E hE => ?_
    simp [p217]
    refine ACall.mk _ _ _ (d1) (by first | (simp; done) | simp [Bor_ls, Bor1_ls]) (by simp) (by first | (left; simp; done) | (right; simp; done)) ?_
    simp [splice, inC, Nat.testBit]
    refine ACall.mk _ _ _ (d2) (by first | (simp; done) | simp [Bor_ls, Bor1_ls]) (by simp) (by first | (left; simp; done) | (right; simp; done)) ?_
    simp [inC, Nat.testBit, w3, w5, h5]
    refine RetOk.by (fun _ => none) ?_
    simp [results217]
  · by_cases h6 : c.rm * a.ph < am c * (a.tl + c.wl)
    · have e : fitV c a = 3 := by unfold fitV; rw [if_neg h5, if_pos h6]
      rw [e]
      refine Ct.by gok eok mixed func217 c217 rfl (by simp [ntmps217]) (by simp) (by simp [ResIds]) fun E hE => ?_
      simp [p217]
      refine ACall.mk _ _ _ (d1) (by first | (simp; done) | simp [Bor_ls, Bor1_ls]) (by simp) (by first | (left; simp; done) | (right; simp; done)) ?_
      simp [splice, inC, Nat.testBit]
      refine ACall.mk _ _ _ (d2) (by first | (simp; done) | simp [Bor_ls, Bor1_ls]) (by simp) (by first | (left; simp; done) | (right; simp; done)) ?_
      simp [inC, Nat.testBit, w3, w5, h5]
      refine ACall.mk _ _ _ (d2) (by first | (simp; done) | simp [Bor_ls, Bor1_ls]) (by simp) (by first | (left; simp; done) | (right; simp; done)) ?_
      simp [inC, Nat.testBit, w4, w6, h6]
      refine RetOk.by (fun _ => none) ?_
      simp [results217]
    · have e : fitV c a = 2 := by unfold fitV; rw [if_neg h5, if_neg h6]
      rw [e]
      refine Ct.by gok eok mixed func217 c217 rfl (by simp [ntmps217]) (by simp) (by simp [ResIds]) fun E hE => ?_
      simp [p217]
      refine ACall.mk _ _ _ (d1) (by first | (simp; done) | simp [Bor_ls, Bor1_ls]) (by simp) (by first | (left; simp; done) | (right; simp; done)) ?_
      simp [splice, inC, Nat.testBit]
      refine ACall.mk _ _ _ (d2) (by first | (simp; done) | simp [Bor_ls, Bor1_ls]) (by simp) (by first | (left; simp; done) | (right; simp; done)) ?_
      simp [inC, Nat.testBit, w3, w5, h5]
      refine ACall.mk _ _ _ (d2) (by first | (simp; done) | simp [Bor_ls, Bor1_ls]) (by simp) (by first | (left; simp; done) | (right; simp; done)) ?_
      simp [inC, Nat.testBit, w4, w6, h6]
      refine RetOk.by (fun _ => none) ?_
      simp [results217]
theorem fn149 (c : Cel) (a : Atm) (hc : CelB c) (ha : AirB a) : Ct prog 149 [cellV c, airV a] (.tup [vu8 (fitV c a), vi 0]) [] := by
  have c1 := fn145 c a
  rw [ask_ok hc ha] at c1
  have c2 := fn217 c a hc ha
  refine Ct.by gok eok mixed func149 c149 rfl (by simp [ntmps149]) (by simp) (by simp [ResIds]) fun E hE => ?_
  simp [p149]
  refine ACall.mk _ _ _ (c1) (by first | (simp; done) | simp [Bor_ls, Bor1_ls]) (by simp) (by first | (left; simp; done) | (right; simp; done)) ?_
  simp
  refine ACall.mk _ _ _ (c2) (by first | (simp; done) | simp [Bor_ls, Bor1_ls]) (by simp) (by first | (left; simp; done) | (right; simp; done)) ?_
  simp
  refine RetOk.by (fun _ => none) ?_
  simp [results149]
theorem fn76 (c : Cel) (a : Atm) (hc : CelB c) (ha : AirB a) : Ct prog 76 [cellV c, airV a] (.tup [vsp (valV c a).1 (valV c a).2, vi 0]) [] := by
  have c1 := fn145 c a
  rw [ask_ok hc ha] at c1
  have b := fit_bd hc ha
  have h1 := am_bd hc
  have h2 := hc.w
  have h3 := ha.t
  have w3 : IntKind.wrap .i64 (c.rm * a.pl) = c.rm * a.pl := wrap64 (by omega) (by omega)
  have w4 : IntKind.wrap .i64 (c.rm * a.ph) = c.rm * a.ph := wrap64 (by omega) (by omega)
  have d1 := fn146 a.tl a.th c.wl c.wh (wrap64 (by omega) (by omega)) (wrap64 (by omega) (by omega))
  have d2 := fn147 c hc
  have d3 := fn148 (c.rm * a.ph) (a.tl + c.wl) (by omega) (by omega)
  have d4 := fn148 (c.rm * a.pl) (a.th + c.wh) (by omega) (by omega)
  have f1 := fl_bd (a := c.rm * a.ph) (b := a.tl + c.wl) (by omega) (by omega)
  have f2 := fl_bd (a := c.rm * a.pl) (b := a.th + c.wh) (by omega) (by omega)
  have w5 : IntKind.wrap .i64 (am c - fl (c.rm * a.ph) (a.tl + c.wl)) = am c - fl (c.rm * a.ph) (a.tl + c.wl) := wrap64 (by omega) (by omega)
  have w6 : IntKind.wrap .i64 (am c - fl (c.rm * a.pl) (a.th + c.wh)) = am c - fl (c.rm * a.pl) (a.th + c.wh) := wrap64 (by omega) (by omega)
  have e : valV c a = (max 0 (am c - fl (c.rm * a.ph) (a.tl + c.wl)), max 0 (am c - fl (c.rm * a.pl) (a.th + c.wh))) := by
    unfold valV; ext <;> simp only <;> omega
  rw [e]
  refine Ct.by gok eok mixed func76 c76 rfl (by simp [ntmps76]) (by simp) (by simp [ResIds]) fun E hE => ?_
  simp [p76]
  refine ACall.mk _ _ _ (c1) (by first | (simp; done) | simp [Bor_ls, Bor1_ls]) (by simp) (by first | (left; simp; done) | (right; simp; done)) ?_
  simp
  refine ACall.mk _ _ _ (d1) (by first | (simp; done) | simp [Bor_ls, Bor1_ls]) (by simp) (by first | (left; simp; done) | (right; simp; done)) ?_
  simp [splice, inC, Nat.testBit]
  refine ACall.mk _ _ _ (d2) (by first | (simp; done) | simp [Bor_ls, Bor1_ls]) (by simp) (by first | (left; simp; done) | (right; simp; done)) ?_
  simp [inC, Nat.testBit, w4]
  refine ACall.mk _ _ _ (d3) (by first | (simp; done) | simp [Bor_ls, Bor1_ls]) (by simp) (by first | (left; simp; done) | (right; simp; done)) ?_
  simp [inC, Nat.testBit, w5]
  refine ACall.mk _ _ _ (d2) (by first | (simp; done) | simp [Bor_ls, Bor1_ls]) (by simp) (by first | (left; simp; done) | (right; simp; done)) ?_
  simp [inC, Nat.testBit, w3]
  refine ACall.mk _ _ _ (d4) (by first | (simp; done) | simp [Bor_ls, Bor1_ls]) (by simp) (by first | (left; simp; done) | (right; simp; done)) ?_
  simp [splice, w6]
  refine RetOk.by (fun _ => none) ?_
  simp [results76]
theorem fn143 (c : Cel) (a : Atm) (hc : CelB c) (ha : AirB a) : Ct prog 143 [cellV c, airV a] (.tup [vsp (liftV c a).1 (liftV c a).2, vi 0]) [] := by
  have c1 := fn145 c a
  rw [ask_ok hc ha] at c1
  have t := ha.t
  have wb := hc.w
  have he := hc.he
  have k1 := rat_bd hc (w := c.wl) (by omega)
  have k2 := rat_bd hc (w := c.wh) (by omega)
  have d2 := fn147 c hc
  have w1 : IntKind.wrap .i64 (29 * am c) = 29 * am c := wrap64 (by omega) (by omega)
  have w2 : IntKind.wrap .i64 (29 * am c * c.wl) = 29 * am c * c.wl := wrap64 (by omega) (by omega)
  have w3 : IntKind.wrap .i64 (29 * am c * c.wh) = 29 * am c * c.wh := wrap64 (by omega) (by omega)
  have d3 := fn148 (29 * am c * c.wl) a.tl (by omega) (by omega)
  have d4 := fn148 (29 * am c * c.wl) a.th (by omega) (by omega)
  have d5 := fn215 (29 * am c * c.wh) a.tl (by omega) (by omega)
  have d6 := fn215 (29 * am c * c.wh) a.th (by omega) (by omega)
  have lb := lift_bd hc ha
  have e : liftV c a = (25 * c.he + min (fl (29 * am c * c.wl) a.tl) (fl (29 * am c * c.wl) a.th), 25 * c.he + max (ce (29 * am c * c.wh) a.tl) (ce (29 * am c * c.wh) a.th)) := by unfold liftV; rw [Int.add_comm, Int.add_comm (max _ _)]
  rw [e] at lb
  rw [e]
  have w4 : IntKind.wrap .i64 (25 * c.he) = 25 * c.he := wrap64 (by omega) (by omega)
  have w5 : IntKind.wrap .i64 (25 * c.he + min (fl (29 * am c * c.wl) a.tl) (fl (29 * am c * c.wl) a.th)) = 25 * c.he + min (fl (29 * am c * c.wl) a.tl) (fl (29 * am c * c.wl) a.th) := wrap64 (by omega) (by omega)
  have w6 : IntKind.wrap .i64 (25 * c.he + max (ce (29 * am c * c.wh) a.tl) (ce (29 * am c * c.wh) a.th)) = 25 * c.he + max (ce (29 * am c * c.wh) a.tl) (ce (29 * am c * c.wh) a.th) := wrap64 (by omega) (by omega)
  refine Ct.by gok eok mixed func143 c143 rfl (by simp [ntmps143]) (by simp) (by simp [ResIds]) fun E hE => ?_
  simp [p143]
  refine ACall.mk _ _ _ (c1) (by first | (simp; done) | simp [Bor_ls, Bor1_ls]) (by simp) (by first | (left; simp; done) | (right; simp; done)) ?_
  simp [inC, Nat.testBit]
  refine ACall.mk _ _ _ (d2) (by first | (simp; done) | simp [Bor_ls, Bor1_ls]) (by simp) (by first | (left; simp; done) | (right; simp; done)) ?_
  simp [inC, Nat.testBit, w1, w2]
  refine ACall.mk _ _ _ (d3) (by first | (simp; done) | simp [Bor_ls, Bor1_ls]) (by simp) (by first | (left; simp; done) | (right; simp; done)) ?_
  simp [inC, Nat.testBit]
  refine ACall.mk _ _ _ (d2) (by first | (simp; done) | simp [Bor_ls, Bor1_ls]) (by simp) (by first | (left; simp; done) | (right; simp; done)) ?_
  simp [inC, Nat.testBit, w1, w2]
  refine ACall.mk _ _ _ (d4) (by first | (simp; done) | simp [Bor_ls, Bor1_ls]) (by simp) (by first | (left; simp; done) | (right; simp; done)) ?_
  simp [inC, Nat.testBit]
  refine ACall.mk _ _ _ (d2) (by first | (simp; done) | simp [Bor_ls, Bor1_ls]) (by simp) (by first | (left; simp; done) | (right; simp; done)) ?_
  simp [inC, Nat.testBit, w1, w3]
  refine ACall.mk _ _ _ (d5) (by first | (simp; done) | simp [Bor_ls, Bor1_ls]) (by simp) (by first | (left; simp; done) | (right; simp; done)) ?_
  simp [inC, Nat.testBit]
  refine ACall.mk _ _ _ (d2) (by first | (simp; done) | simp [Bor_ls, Bor1_ls]) (by simp) (by first | (left; simp; done) | (right; simp; done)) ?_
  simp [inC, Nat.testBit, w1, w3]
  refine ACall.mk _ _ _ (d6) (by first | (simp; done) | simp [Bor_ls, Bor1_ls]) (by simp) (by first | (left; simp; done) | (right; simp; done)) ?_
  simp [splice, w4, w5, w6]
  refine RetOk.by (fun _ => none) ?_
  simp [results143]
end Go.Proofs.Tryz
namespace Go.Proofs.Tryz
open Go.Psl
open Go.Air
set_option maxRecDepth 20000
set_option maxHeartbeats 8000000
theorem fn210 (p : Int × Int) : Ct prog 210 [vsp p.1 p.2] (vb (bkB p)) [] := by
  have c1 := fn209 p.1 0 1000000000000
  have c2 := fn209 p.2 0 1000000000000
  have e : bkB p = (rgB 0 1000000000000 [p.1] && rgB 0 1000000000000 [p.2]) := rgB_pair
  rw [e]
  generalize rgB 0 1000000000000 [p.1] = b1 at *
  generalize rgB 0 1000000000000 [p.2] = b2 at *
  cases b1 <;> (
    refine Ct.by gok eok mixed func210 c210 rfl (by simp [ntmps210]) (by simp) (by simp [ResIds]) fun E hE => ?_
    simp [p210]
    repeat ((first | (refine ACall.mk _ _ _ (c1) ?_ ?_ ?_ ?_; (focus (simp; done)); (focus (simp; done)); (focus (first | (left; simp; done) | (right; simp; done)))) | (refine ACall.mk _ _ _ (c2) ?_ ?_ ?_ ?_; (focus (simp; done)); (focus (simp; done)); (focus (first | (left; simp; done) | (right; simp; done))))); simp)
    refine RetOk.by (fun _ => none) ?_
    simp [results210])
theorem plant_bad (p : Plt) (hl : p.cs.length ≤ 1000000) (h : okBk p = false) : Ct prog 138 [pltV p (.d (cellsD p.cs))] (vb false) [] := by
  have c1 := fn209 p.bt 0 10000000
  have c2 := fn210 (p.ih, p.ia)
  have c3 := fn210 (p.vh, p.va)
  have c4 := fn210 (p.lh, p.la)
  have c5 := fn210 (p.ph, p.pa)
  have e : okBk p = (decide (p.cs.length ≤ 12) && rgB 0 10000000 [p.bt] && (bkB (p.ih, p.ia) && (bkB (p.vh, p.va) && (bkB (p.lh, p.la) && bkB (p.ph, p.pa))))) := by
    unfold okBk accs; simp [Bool.and_assoc]
  rw [e] at h
  by_cases hn : p.cs.length ≤ 12
  case neg =>
    have hI : (12 : Int) < p.cs.length := by omega
    refine Ct.by gok eok mixed func138 c138 rfl (by simp [ntmps138]) (by simp) (by simp [ResIds]) fun E hE => ?_
    simp [p138, hI]
    refine RetOk.by (fun _ => none) ?_
    simp [results138]
  have hI : ¬ (12 : Int) < p.cs.length := by omega
  have hI2 : (p.cs.length : Int) ≤ 12 := by omega
  rw [decide_eq_true hn] at h
  generalize rgB 0 10000000 [p.bt] = b1 at *
  generalize bkB (p.ih, p.ia) = b2 at *
  generalize bkB (p.vh, p.va) = b3 at *
  generalize bkB (p.lh, p.la) = b4 at *
  generalize bkB (p.ph, p.pa) = b5 at *
  cases b1
  · refine Ct.by gok eok mixed func138 c138 rfl (by simp [ntmps138]) (by simp) (by simp [ResIds]) fun E hE => ?_
    simp [p138, hI]
    repeat ((first | (refine ACall.mk _ _ _ (c1) ?_ ?_ ?_ ?_; (focus (simp; done)); (focus (simp; done)); (focus (first | (left; simp; done) | (right; simp; done)))) | (refine ACall.mk _ _ _ (c2) ?_ ?_ ?_ ?_; (focus (simp; done)); (focus (simp; done)); (focus (first | (left; simp; done) | (right; simp; done)))) | (refine ACall.mk _ _ _ (c3) ?_ ?_ ?_ ?_; (focus (simp; done)); (focus (simp; done)); (focus (first | (left; simp; done) | (right; simp; done)))) | (refine ACall.mk _ _ _ (c4) ?_ ?_ ?_ ?_; (focus (simp; done)); (focus (simp; done)); (focus (first | (left; simp; done) | (right; simp; done)))) | (refine ACall.mk _ _ _ (c5) ?_ ?_ ?_ ?_; (focus (simp; done)); (focus (simp; done)); (focus (first | (left; simp; done) | (right; simp; done))))); simp)
    refine RetOk.by (fun _ => none) ?_
    simp [results138]
  cases b2
  · refine Ct.by gok eok mixed func138 c138 rfl (by simp [ntmps138]) (by simp) (by simp [ResIds]) fun E hE => ?_
    simp [p138, hI]
    repeat ((first | (refine ACall.mk _ _ _ (c1) ?_ ?_ ?_ ?_; (focus (simp; done)); (focus (simp; done)); (focus (first | (left; simp; done) | (right; simp; done)))) | (refine ACall.mk _ _ _ (c2) ?_ ?_ ?_ ?_; (focus (simp; done)); (focus (simp; done)); (focus (first | (left; simp; done) | (right; simp; done)))) | (refine ACall.mk _ _ _ (c3) ?_ ?_ ?_ ?_; (focus (simp; done)); (focus (simp; done)); (focus (first | (left; simp; done) | (right; simp; done)))) | (refine ACall.mk _ _ _ (c4) ?_ ?_ ?_ ?_; (focus (simp; done)); (focus (simp; done)); (focus (first | (left; simp; done) | (right; simp; done)))) | (refine ACall.mk _ _ _ (c5) ?_ ?_ ?_ ?_; (focus (simp; done)); (focus (simp; done)); (focus (first | (left; simp; done) | (right; simp; done))))); simp)
    refine RetOk.by (fun _ => none) ?_
    simp [results138]
  cases b3
  · refine Ct.by gok eok mixed func138 c138 rfl (by simp [ntmps138]) (by simp) (by simp [ResIds]) fun E hE => ?_
    simp [p138, hI]
    repeat ((first | (refine ACall.mk _ _ _ (c1) ?_ ?_ ?_ ?_; (focus (simp; done)); (focus (simp; done)); (focus (first | (left; simp; done) | (right; simp; done)))) | (refine ACall.mk _ _ _ (c2) ?_ ?_ ?_ ?_; (focus (simp; done)); (focus (simp; done)); (focus (first | (left; simp; done) | (right; simp; done)))) | (refine ACall.mk _ _ _ (c3) ?_ ?_ ?_ ?_; (focus (simp; done)); (focus (simp; done)); (focus (first | (left; simp; done) | (right; simp; done)))) | (refine ACall.mk _ _ _ (c4) ?_ ?_ ?_ ?_; (focus (simp; done)); (focus (simp; done)); (focus (first | (left; simp; done) | (right; simp; done)))) | (refine ACall.mk _ _ _ (c5) ?_ ?_ ?_ ?_; (focus (simp; done)); (focus (simp; done)); (focus (first | (left; simp; done) | (right; simp; done))))); simp)
    refine RetOk.by (fun _ => none) ?_
    simp [results138]
  cases b4
  · refine Ct.by gok eok mixed func138 c138 rfl (by simp [ntmps138]) (by simp) (by simp [ResIds]) fun E hE => ?_
    simp [p138, hI]
    repeat ((first | (refine ACall.mk _ _ _ (c1) ?_ ?_ ?_ ?_; (focus (simp; done)); (focus (simp; done)); (focus (first | (left; simp; done) | (right; simp; done)))) | (refine ACall.mk _ _ _ (c2) ?_ ?_ ?_ ?_; (focus (simp; done)); (focus (simp; done)); (focus (first | (left; simp; done) | (right; simp; done)))) | (refine ACall.mk _ _ _ (c3) ?_ ?_ ?_ ?_; (focus (simp; done)); (focus (simp; done)); (focus (first | (left; simp; done) | (right; simp; done)))) | (refine ACall.mk _ _ _ (c4) ?_ ?_ ?_ ?_; (focus (simp; done)); (focus (simp; done)); (focus (first | (left; simp; done) | (right; simp; done)))) | (refine ACall.mk _ _ _ (c5) ?_ ?_ ?_ ?_; (focus (simp; done)); (focus (simp; done)); (focus (first | (left; simp; done) | (right; simp; done))))); simp)
    refine RetOk.by (fun _ => none) ?_
    simp [results138]
  cases b5
  · refine Ct.by gok eok mixed func138 c138 rfl (by simp [ntmps138]) (by simp) (by simp [ResIds]) fun E hE => ?_
    simp [p138, hI]
    repeat ((first | (refine ACall.mk _ _ _ (c1) ?_ ?_ ?_ ?_; (focus (simp; done)); (focus (simp; done)); (focus (first | (left; simp; done) | (right; simp; done)))) | (refine ACall.mk _ _ _ (c2) ?_ ?_ ?_ ?_; (focus (simp; done)); (focus (simp; done)); (focus (first | (left; simp; done) | (right; simp; done)))) | (refine ACall.mk _ _ _ (c3) ?_ ?_ ?_ ?_; (focus (simp; done)); (focus (simp; done)); (focus (first | (left; simp; done) | (right; simp; done)))) | (refine ACall.mk _ _ _ (c4) ?_ ?_ ?_ ?_; (focus (simp; done)); (focus (simp; done)); (focus (first | (left; simp; done) | (right; simp; done)))) | (refine ACall.mk _ _ _ (c5) ?_ ?_ ?_ ?_; (focus (simp; done)); (focus (simp; done)); (focus (first | (left; simp; done) | (right; simp; done))))); simp)
    refine RetOk.by (fun _ => none) ?_
    simp [results138]
  · simp at h
theorem plant_good (p : Plt) (hb : okBk p = true) : Ct prog 138 [pltV p (.d (cellsD p.cs))] (vb (okPlt p)) [] := by
  have c1 := fn209 p.bt 0 10000000
  have c2 := fn210 (p.ih, p.ia)
  have c3 := fn210 (p.vh, p.va)
  have c4 := fn210 (p.lh, p.la)
  have c5 := fn210 (p.ph, p.pa)
  have hbk := bk_all (p := p) (by unfold okBk at hb; simp at hb; simpa using hb.2)
  have hbt : 0 ≤ p.bt ∧ p.bt ≤ 10000000 := by unfold okBk at hb; simp [rgB] at hb; omega
  have hn : p.cs.length ≤ 12 := by unfold okBk at hb; simp at hb; exact hb.1.1
  have e : okBk p = (decide (p.cs.length ≤ 12) && rgB 0 10000000 [p.bt] && (bkB (p.ih, p.ia) && (bkB (p.vh, p.va) && (bkB (p.lh, p.la) && bkB (p.ph, p.pa))))) := by
    unfold okBk accs; simp [Bool.and_assoc]
  rw [hb] at e
  have hI : ¬ (12 : Int) < p.cs.length := by omega
  have hI2 : (p.cs.length : Int) ≤ 12 := by omega
  rw [decide_eq_true hn] at e
  have e' := e.symm
  simp only [Bool.true_and, Bool.and_eq_true] at e'
  rw [e'.1] at c1; rw [e'.2.1] at c2; rw [e'.2.2.1] at c3; rw [e'.2.2.2.1] at c4; rw [e'.2.2.2.2] at c5
  have w1 : IntKind.wrap .i64 (p.bt + p.vh) = p.bt + p.vh := wrap64 (by omega) (by omega)
  have w2 : IntKind.wrap .i64 (p.bt + p.vh + p.lh) = p.bt + p.vh + p.lh := wrap64 (by omega) (by omega)
  have w3 : IntKind.wrap .i64 (p.bt + p.vh + p.lh + p.ph) = p.bt + p.vh + p.lh + p.ph := wrap64 (by omega) (by omega)
  have w4 : IntKind.wrap .i64 (p.va + p.la) = p.va + p.la := wrap64 (by omega) (by omega)
  have w5 : IntKind.wrap .i64 (p.va + p.la + p.pa) = p.va + p.la + p.pa := wrap64 (by omega) (by omega)
  refine Ct.by gok eok mixed func138 c138 rfl (by simp [ntmps138]) (by simp) (by simp [ResIds]) fun E hE => ?_
  simp [p138, hI]
  repeat ((first | (refine ACall.mk _ _ _ (c1) ?_ ?_ ?_ ?_; (focus (simp; done)); (focus (simp; done)); (focus (first | (left; simp; done) | (right; simp; done)))) | (refine ACall.mk _ _ _ (c2) ?_ ?_ ?_ ?_; (focus (simp; done)); (focus (simp; done)); (focus (first | (left; simp; done) | (right; simp; done)))) | (refine ACall.mk _ _ _ (c3) ?_ ?_ ?_ ?_; (focus (simp; done)); (focus (simp; done)); (focus (first | (left; simp; done) | (right; simp; done)))) | (refine ACall.mk _ _ _ (c4) ?_ ?_ ?_ ?_; (focus (simp; done)); (focus (simp; done)); (focus (first | (left; simp; done) | (right; simp; done)))) | (refine ACall.mk _ _ _ (c5) ?_ ?_ ?_ ?_; (focus (simp; done)); (focus (simp; done)); (focus (first | (left; simp; done) | (right; simp; done))))); simp [w1, w2, w3, w4, w5])
  refine pw_loop (α := Nat) (fun i => ⟨slots [(1, .lp 0 0), (3, vi (p.bt + p.vh + p.lh + p.ph + heS (p.cs.take i))), (4, vi (p.va + p.la + p.pa + aiS (p.cs.take i))), (5, vi i)], lk [(0, [.d (cellsD p.cs), vi p.bt, vi p.ih, vi p.ia, vi p.vh, vi p.va, vi p.lh, vi p.la, vi p.ph, vi p.pa])], 1⟩) (fun i => i ≤ p.cs.length ∧ ∀ c ∈ p.cs.take i, CelB c) (fun i => p.cs.length - i) 0 ?_ ?_ ?_
  · simp
  · refine Weak.mk hE (lk [(0, 0)]) _ _ _ ?_ ?_ ?_ ?_ ?_ <;> simp [heS, aiS]
  · rintro i ⟨hi, hcs⟩
    by_cases h : i < p.cs.length
    · obtain ⟨c, hc⟩ : ∃ c, p.cs[i]? = some c := ⟨_, List.getElem?_eq_getElem h⟩
      have hz : IntKind.wrap .i64 ((i : Int) + 1) = ((i + 1 : Nat) : Int) := by rw [wrap64 (by omega) (by omega)]; omega
      have hI : (i : Int) < p.cs.length := by omega
      have d1 := fn211 c
      cases hok : okCel c
      · have hbad : okPlt p = false := by
          unfold okPlt
          have : p.cs.all okCel = false := by
            rw [List.all_eq_false]; exact ⟨c, List.mem_of_getElem? hc, by simp [hok]⟩
          simp [this]
        rw [hok] at d1
        simp [p138l0, hI, hc]
        refine ACall.mk _ _ _ (d1) (by first | (simp; done) | simp [Bor_ls, Bor1_ls]) (by simp) (by first | (left; simp; done) | (right; simp; done)) ?_
        simp
        refine RetOk.by (fun _ => none) ?_
        simp [results138, hbad]
      · rw [hok] at d1
        have hcb := okCel_iff.1 hok
        have hx := hcb.he
        have hy := hcb.ai
        have e1 := heS_take hc
        have e2 := aiS_take hc
        have b1 := heS_bd hcs
        have b2 := aiS_bd hcs
        have hlen : ((p.cs.take i).length : Int) ≤ 12 := by simp; omega
        have v1 : IntKind.wrap .i64 (p.bt + p.vh + p.lh + p.ph + heS (p.cs.take i) + c.he) = p.bt + p.vh + p.lh + p.ph + heS (p.cs.take i) + c.he := wrap64 (by omega) (by omega)
        have v2 : IntKind.wrap .i64 (p.va + p.la + p.pa + aiS (p.cs.take i) + c.ai) = p.va + p.la + p.pa + aiS (p.cs.take i) + c.ai := wrap64 (by omega) (by omega)
        simp [p138l0, hI, hc]
        refine ACall.mk _ _ _ (d1) (by first | (simp; done) | simp [Bor_ls, Bor1_ls]) (by simp) (by first | (left; simp; done) | (right; simp; done)) ?_
        simp [hc, hz, v1, v2]
        refine ⟨i + 1, ⟨by omega, ?_⟩, by omega, ?_⟩
        · intro d hd
          rw [List.take_add_one, hc] at hd
          simp only [List.mem_append, Option.toList_some, List.mem_singleton] at hd
          rcases hd with hd | rfl
          · exact hcs d hd
          · exact hcb
        · rw [e1, e2, ← Int.add_assoc, ← Int.add_assoc]
          refine Weak.mk hE (lk [(0, 0)]) _ _ _ ?_ ?_ ?_ ?_ ?_ <;> simp
    · have ei : i = p.cs.length := by omega
      have hI : ¬ (i : Int) < p.cs.length := by omega
      rw [ei, List.take_length] at hcs
      have hall : p.cs.all okCel = true := by
        rw [List.all_eq_true]; exact fun c hc => okCel_iff.2 (hcs c hc)
      have eo : okPlt p = decide (p.bt + p.vh + p.lh + p.ph + heS p.cs = p.ih ∧ p.va + p.la + p.pa + aiS p.cs = p.ia) := by simp [okPlt, hb, hall]
      rw [ei, List.take_length]
      by_cases hq : p.bt + p.vh + p.lh + p.ph + heS p.cs = p.ih
      · simp [p138l0, hq]
        refine RetOk.by (fun _ => none) ?_
        simp [results138, eo, hq]
      · simp [p138l0, hq]
        refine RetOk.by (fun _ => none) ?_
        simp [results138, eo, hq]
theorem fn138 (p : Plt) (hl : p.cs.length ≤ 1000000) : Ct prog 138 [pltV p (.d (cellsD p.cs))] (vb (okPlt p)) [] := by
  cases h : okBk p
  · have e : okPlt p = false := by unfold okPlt; rw [h]; rfl
    rw [e]
    exact plant_bad p hl h
  · exact plant_good p h
end Go.Proofs.Tryz
