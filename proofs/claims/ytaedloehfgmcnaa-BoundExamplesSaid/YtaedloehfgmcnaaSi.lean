/- Own lemmas and contracts of functions, used by the last text of this claim for the given statement. Conditions: those that each theorem states. -/
import Derived.Test.YtaedloehfgmcnaaSh
import Derived.Test.YtaedloehfgmcnaaSg
import Derived.Test.YtaedloehfgmcnaaSe
namespace Go.Proofs.Try
open Go.Psl
open Go.Stb
theorem fn149 {f : FuncId} {ds : List D} {dom : Int × Int → Prop} {c : Int × Int → Int × Int → Bool} (hc : CmpOk f ds dom c) (l : List (Int × Int)) (hd : ∀ x ∈ l, dom x) (h0 : 0 < l.length) (hl : l.length ≤ 100000000) : Cm prog 149 [.ls 0 0 l.length 2, vi l.length, .d (.fn f ds)] (lk [(0, cellsI l)]) [0] (.ret (.tup [])) (lk [(0, cellsI (stb c l))]) := by
  obtain ⟨N, hN⟩ : ∃ N, l.length = N := ⟨_, rfl⟩
  obtain ⟨T0, hT0⟩ : ∃ T, st0 c N N 0 l = T := ⟨_, rfl⟩
  obtain ⟨T, hT⟩ : ∃ T, st2 c N N 20 T0 = T := ⟨_, rfl⟩
  have hs : stb c l = T := by unfold stb; rw [hN, hT0, hT]
  rw [hs]
  rw [hN] at h0 hl ⊢
  clear hs
  refine Cm.by gok eok mixed 1 func149 c149 rfl (by simp [ntmps149]) (by simp) (HpIds.at ?_) (by simp) ?_ fun E hE hs => ?_
  · simp
  · simp [ResIds]
  simp [p149]
  refine pw_loopC (α := Nat × Nat × List (Int × Int)) 0 (stF0 N f ds) (fun y => stI0 dom c N T0 y ∧ ¬ y.2.1 + 20 ≤ N) (stF0 N f ds) (stI0 dom c N T0) (fun y => y.1) (N, 0, l) ⟨by simp only; omega, Nat.zero_le _, hN, hd, hT0⟩ ?_ (stb_round0 hc N h0 hl T0 hE) ?_
  · refine Weak.mkM hE (lk [(0, 0)]) _ _ _ ?_ ?_ ?_ ?_ ?_ ?_ <;> simp
  · rintro ⟨k, a, L⟩ ⟨⟨r1, r2, r3, r4, r5⟩, r6⟩
    simp only at r1 r2 r3 r4 r5 r6
    rw [st0_end r6] at r5
    have n0 : spD L ≠ [] := by intro e; have := congrArg List.length e; simp at this; omega
    have q := fn152 hc L a N r4 r2 (by omega) (by omega)
    have tl : T0.length = N := by rw [← r5, insF_len]; exact r3
    have ta : ∀ x ∈ T0, dom x := by rw [← r5]; exact insF_all c r4 a N
    rw [r3, r5] at q
    simp
    refine ACall.mkR _ _ _ _ _ (q) (by simp) (by simp) (by simp [n0]) (by simp) (by first | (left; simp; done) | (right; simp [n0]; done)) ?_
    simp
    refine pw_loopC (α := Nat × Nat × List (Int × Int)) 2 (fun _ : Unit => ⟨slots [], lk [(0, cellsI T)], 1⟩) (fun _ => True) (stF2 N f ds) (stI2 dom c N T) (fun y => y.1) (N, 20, T0) ⟨by simp only; omega, by simp only; omega, by simp only; omega, tl, ta, hT⟩ ?_ (stb_round2 hc N h0 hl T hE) fun _ _ => ?_
    · refine Weak.mkM hE (lk [(0, 0)]) _ _ _ ?_ ?_ ?_ ?_ ?_ ?_ <;> simp
    · simp
      refine RetOk.by (lk [(0, 0)]) ?_
      simp [results149]
theorem fn138 {f : FuncId} {ds : List D} {dom : Int × Int → Prop} {c : Int × Int → Int × Int → Bool} (hc : CmpOk f ds dom c) (l : List (Int × Int)) (hd : ∀ x ∈ l, dom x) (h0 : 0 < l.length) (hl : l.length ≤ 100000000) : Cm prog 138 [.ls 0 0 l.length 2, .d (.fn f ds)] (lk [(0, cellsI l)]) [0] (.ret (.tup [])) (lk [(0, cellsI (stb c l))]) := by
  have q := fn149 hc l hd h0 hl
  have n0 : spD l ≠ [] := by intro e; have := congrArg List.length e; simp at this; omega
  refine Cm.by gok eok mixed 1 func138 c138 rfl (by simp [ntmps138]) (by simp) (HpIds.at ?_) (by simp) ?_ fun E hE hs => ?_
  · simp
  · simp [ResIds]
  simp [p138]
  refine ACall.mkR _ _ _ _ _ (q) (by simp) (by simp) (by simp [n0]) (by simp) (by first | (left; simp; done) | (right; simp [n0]; done)) ?_
  simp
  refine RetOk.by (lk [(0, 0)]) ?_
  simp [results138]
end Go.Proofs.Try
namespace Go.Proofs.Try
open Go.Psl
open Go.Stb
def halfS (p : Int × Int) : Int := if 0 < p.1 ∨ (p.1 = 0 ∧ 0 < p.2) then 0 else 1
theorem fn142 (p : Int × Int) : Ct prog 142 [vsp p.1 p.2] (vi (halfS p)) [] := by
  refine Ct.by gok eok mixed func142 c142 rfl (by simp [ntmps142]) (by simp) (by simp [ResIds]) fun E hE => ?_
  obtain ⟨x, y⟩ := p
  by_cases h1 : 0 < x
  · simp [p142, h1]
    refine RetOk.by (fun _ => none) ?_
    simp [results142, halfS, h1]
  · by_cases h2 : x = 0
    · by_cases h3 : 0 < y
      · simp [p142, h2, h3]
        refine RetOk.by (fun _ => none) ?_
        simp [results142, halfS, h3]
      · simp [p142, h2, h3]
        refine RetOk.by (fun _ => none) ?_
        simp [results142, halfS, h3]
    · simp [p142, h1, h2]
      refine RetOk.by (fun _ => none) ?_
      simp [results142, halfS, h1, h2]
def sumcS (a b : Int × Int) : Int := orI [cmpI (halfS a) (halfS b), cmpI 0 (turnS a b)]
theorem fn139 (a b : Int × Int) (ha : bd 2000000000 a) (hb : bd 2000000000 b) : Ct prog 139 [vsp a.1 a.2, vsp b.1 b.2] (vi (sumcS a b)) [] := by
  refine Ct.by gok eok mixed func139 c139 rfl (by simp [ntmps139]) (by simp) (by simp [ResIds]) fun E hE => ?_
  simp [p139, inC, Nat.testBit]
  refine ACall.mk _ _ _ (fn142 a) (by first | (simp; done) | simp [Bor_ls, Bor1_ls]) (by simp) (by first | (left; simp; done) | (right; simp; done)) ?_
  simp [inC, Nat.testBit]
  refine ACall.mk _ _ _ (fn142 b) (by first | (simp; done) | simp [Bor_ls, Bor1_ls]) (by simp) (by first | (left; simp; done) | (right; simp; done)) ?_
  simp
  refine ACall.mk _ _ _ (fn141 (halfS a) (halfS b)) (by first | (simp; done) | simp [Bor_ls, Bor1_ls]) (by simp) (by first | (left; simp; done) | (right; simp; done)) ?_
  simp [inC, Nat.testBit]
  refine ACall.mk _ _ _ (fn131 a b ha hb) (by first | (simp; done) | simp [Bor_ls, Bor1_ls]) (by simp) (by first | (left; simp; done) | (right; simp; done)) ?_
  simp
  refine ACall.mk _ _ _ (fn141 0 (turnS a b)) (by first | (simp; done) | simp [Bor_ls, Bor1_ls]) (by simp) (by first | (left; simp; done) | (right; simp; done)) ?_
  simp [splice, repl]
  refine ACall.mk _ _ _ (fn1402 (cmpI (halfS a) (halfS b)) (cmpI 0 (turnS a b))) (by simp [bor_two]) (by simp) (by first | (left; simp; done) | (right; simp; done)) ?_
  simp
  refine RetOk.by (fun _ => none) ?_
  simp [results139, sumcS]
def sumB (a b : Int × Int) : Bool := decide (sumcS a b < 0)
theorem sum_cmp : CmpOk 139 [] (bd 2000000000) sumB := fun x y hx hy => ⟨sumcS x y, by unfold sumB; simp, fn139 x y hx hy⟩
end Go.Proofs.Try
namespace Go.Proofs.Try
open Go.Psl
def ddStep (d : List (Int × Int)) (p : Int × Int) : List (Int × Int) := if d.getLast? = some p then d else d ++ [p]
def ddC (l : List (Int × Int)) : List (Int × Int) := l.foldl ddStep []
theorem dd_take {l : List (Int × Int)} {a : Nat} {p : Int × Int} (h : l[a]? = some p) : ddC (l.take (a + 1)) = ddStep (ddC (l.take a)) p := by
  simp [ddC, List.take_add_one, h]
theorem dd_last {l : List (Int × Int)} : ∀ a, a + 1 ≤ l.length → (ddC (l.take (a + 1))).getLast? = l[a]? := fun a h => by
  obtain ⟨p, hp⟩ : ∃ p, l[a]? = some p := ⟨l[a], by simp [show a < l.length by omega]⟩
  rw [dd_take hp, hp, ddStep]
  by_cases h : (ddC (l.take a)).getLast? = some p
  · rw [if_pos h, h]
  · rw [if_neg h]; simp
theorem dd_len (l : List (Int × Int)) : ∀ a, (ddC (l.take a)).length ≤ a
  | 0 => by simp [ddC]
  | a + 1 => by
    by_cases h : a < l.length
    · rw [dd_take (p := l[a]) (by simp [h]), ddStep]
      have := dd_len l a
      split
      · omega
      · simp; omega
    · have := dd_len l a
      rw [List.take_of_length_le (by omega)] at this ⊢
      omega
theorem spD_take : ∀ (l : List (Int × Int)) (i : Nat), (spD l).take (i * 2) = spD (l.take i)
  | l, 0 => by simp
  | [], i + 1 => by simp
  | a :: l, i + 1 => by
    rw [show (i + 1) * 2 = i * 2 + 1 + 1 by omega, spD_cons, List.take_succ_cons, List.take_succ_cons, List.take_succ_cons, spD_cons]
    rw [spD_take l i]
theorem repl_spD (n : Nat) : repl n [vi 0, vi 0] = List.map V.d (spD (List.replicate n ((0 : Int), (0 : Int)))) := by
  induction n with
  | zero => rfl
  | succ n ih => rw [List.replicate_succ, spD_cons, List.map_cons, List.map_cons, ← ih]; rfl
theorem clear_end {d m : List (Int × Int)} {n : Nat} (hm : (d ++ m).length = n) : splice (List.map V.d (spD (d ++ m))) (d.length * 2) (repl (n - d.length) [vi 0, vi 0]) = List.map V.d (spD (d ++ List.replicate (n - d.length) (0, 0))) := by
  have hl : m.length = n - d.length := by simp at hm; omega
  unfold splice
  rw [repl_spD, ← List.map_take, spD_take, ← List.map_drop]
  have h1 : (spD (d ++ m)).drop (d.length * 2 + (List.map V.d (spD (List.replicate (n - d.length) ((0 : Int), (0 : Int))))).length) = [] := by
    apply List.drop_of_length_le
    simp; omega
  rw [h1, List.take_left, spD_app, List.map_append]
  simp
theorem fn129 (l : List (Int × Int)) (hl : l.length ≤ 1000000000) : Cm prog 129 [.ls 0 0 l.length 2] (lk [(0, cellsI l)]) [0] (.ret (.ls 0 0 (ddC l).length 2)) (lk [(0, cellsI (ddC l ++ List.replicate (l.length - (ddC l).length) (0, 0)))]) := by
  refine Cm.by gok eok mixed 1 func129 c129 rfl (by simp [ntmps129]) (by simp) (HpIds.at ?_) (by simp) ?_ fun E hE hs => ?_
  · simp
  · simp [ResIds]
  by_cases h2 : l.length < 2
  · have h2' : (l.length : Int) < 2 := by omega
    have e : ddC l = l := by
      clear hE h2'
      match l, h2 with
      | [], _ => rfl
      | [a], _ => rfl
      | _ :: _ :: _, h => simp at h; omega
    simp [p129, h2']
    refine RetOk.by (lk [(0, 0)]) ?_
    simp [results129, e]
  have h2' : ¬ (l.length : Int) < 2 := by omega
  simp [p129, h2']
  refine pw_loop (α := Nat) (fun k => ⟨slots [(0, .ls 0 0 l.length 2), (3, vi k)], lk [(0, cellsI l)], 1⟩) (fun k => 1 ≤ k ∧ k ≤ l.length ∧ ddC (l.take k) = l.take k) (fun k => l.length - k) 1 ?_ ?_ ?_
  · refine ⟨by omega, by omega, ?_⟩
    cases l with
    | nil => rfl
    | cons a l => rfl
  · refine Weak.mkM hE (lk [(0, 0)]) _ _ _ ?_ ?_ ?_ ?_ ?_ ?_ <;> simp
  rintro k ⟨k1, k2, hdd⟩
  simp [p129l1]
  refine cR_split (fun h => ?_) (fun h => ?_)
  · simp at h
    obtain ⟨j, hj⟩ : ∃ j, k = j + 1 := ⟨k - 1, by omega⟩
    obtain ⟨a, ha⟩ : ∃ a, l[k]? = some a := ⟨l[k], by simp [h]⟩
    obtain ⟨b, hb⟩ : ∃ b, l[j]? = some b := ⟨l[j], by simp [show j < l.length by omega]⟩
    have ca := cells_at ha
    have cb := cells_at hb
    have q1 : k * 2 + 2 ≤ l.length * 2 := by omega
    have q2 : j * 2 + 2 ≤ l.length * 2 := by omega
    have hj1 : j < l.length := by omega
    have w1 : IntKind.wrap .i64 ((k : Int) - 1) = (j : Int) := by rw [wrap64 (by omega) (by omega)]; omega
    have w2 : IntKind.wrap .i64 ((k : Int) + 1) = ((k + 1 : Nat) : Int) := by rw [wrap64 (by omega) (by omega)]; omega
    have hlast := dd_last (l := l) j (by omega)
    rw [hb, ← hj] at hlast
    by_cases hab : a.1 = b.1 ∧ a.2 = b.2
    · have hab' : a = b := by ext; exact hab.1; exact hab.2
      have hst : ddC (l.take (k + 1)) = l.take k := by rw [dd_take ha, ddStep, hlast, hab', if_pos rfl, hdd]
      simp [inC, Nat.testBit, h, hj1, q1, q2, ca, cb, w1, hab, k2]
      have hkl : (k : Int) ≤ l.length := by omega
      refine pw_loopC (α := Nat) 2 (fun _ : Unit => ⟨slots [(0, .ls 0 0 l.length 2), (3, vi (ddC l).length)], lk [(0, cellsI (ddC l ++ l.drop (ddC l).length))], 1⟩) (fun _ => (ddC l).length < l.length)
        (fun x => ⟨slots [(0, .ls 0 0 l.length 2), (3, vi (ddC (l.take (k + x))).length), (4, .ls 0 (k * 2) (l.length - k) 2), (5, vi x)], lk [(0, cellsI (ddC (l.take (k + x)) ++ l.drop (ddC (l.take (k + x))).length))], 1⟩)
        (fun x => 1 ≤ x ∧ k + x ≤ l.length ∧ (ddC (l.take (k + x))).length < k + x) (fun x => l.length - x) 1 ?_ ?_ ?_ fun _ hc => ?_
      · refine ⟨by omega, by omega, ?_⟩
        rw [hst, List.length_take]; omega
      · rw [hst, List.length_take, Nat.min_eq_left (by omega), List.take_append_drop]
        refine Weak.mkM hE (lk [(0, 0)]) _ _ _ ?_ ?_ ?_ ?_ ?_ ?_ <;> simp
      · rintro x ⟨x1, x2, x3⟩
        obtain ⟨dl, hdl⟩ : ∃ dl, (ddC (l.take (k + x))).length = dl := ⟨_, rfl⟩
        simp [p129l0]
        by_cases hx : x < l.length - k
        · obtain ⟨y, hy⟩ : ∃ y, x = y + 1 := ⟨x - 1, by omega⟩
          obtain ⟨c, hc⟩ : ∃ c, l[k + x]? = some c := ⟨l[k + x], by simp [show k + x < l.length by omega]⟩
          obtain ⟨e, he⟩ : ∃ e, l[k + y]? = some e := ⟨l[k + y], by simp [show k + y < l.length by omega]⟩
          have hnext := dd_take hc
          have hlst := dd_last (l := l) (k + y) (by omega)
          rw [show k + y + 1 = k + x by omega, he] at hlst
          rw [hdl] at x3
          have hMl : ∀ t, dl ≤ t → (ddC (l.take (k + x)) ++ l.drop dl)[t]? = l[t]? := fun t ht => by
            rw [List.getElem?_append_right (by omega), List.getElem?_drop, hdl]; congr 1; omega
          have hc' : (ddC (l.take (k + x)) ++ l.drop dl)[k + x]? = some c := by rw [hMl _ (by omega), hc]
          have he' : (ddC (l.take (k + x)) ++ l.drop dl)[k + y]? = some e := by rw [hMl _ (by omega), he]
          have hML : (ddC (l.take (k + x)) ++ l.drop dl).length = l.length := by rw [List.length_append, hdl, List.length_drop]; omega
          have hset : (ddC (l.take (k + x)) ++ l.drop dl).set dl c = (ddC (l.take (k + x)) ++ [c]) ++ l.drop (dl + 1) := by
            rw [List.set_append_right _ _ (by omega), hdl, Nat.sub_self]
            cases hd : l.drop dl with
            | nil => have := congrArg List.length hd; simp at this; omega
            | cons p r =>
              have hr : l.drop (dl + 1) = r := by
                have := congrArg (List.drop 1) hd
                rw [List.drop_drop] at this
                simpa [Nat.add_comm] using this
              rw [hr]; simp
          have cc := cells_at hc'
          have ce := cells_at he'
          have sc := cells_set c (l := ddC (l.take (k + x)) ++ l.drop dl) (i := dl) (by omega)
          rw [hset] at sc
          have hsl := spD_len (ddC (l.take (k + x)) ++ l.drop dl)
          rw [hML] at hsl
          rw [hdl]
          obtain ⟨M, hM⟩ : ∃ M, ddC (l.take (k + x)) ++ l.drop dl = M := ⟨_, rfl⟩
          rw [hM] at cc ce sc hsl ⊢
          have z1 : IntKind.wrap .i64 ((x : Int) - 1) = (y : Int) := by rw [wrap64 (by omega) (by omega)]; omega
          have z2 : IntKind.wrap .i64 ((x : Int) + 1) = ((x + 1 : Nat) : Int) := by rw [wrap64 (by omega) (by omega)]; omega
          have z3 : IntKind.wrap .i64 ((dl : Int) + 1) = ((dl + 1 : Nat) : Int) := by rw [wrap64 (by omega) (by omega)]; omega
          have r1 : (k + x) * 2 + 2 ≤ l.length * 2 := by omega
          have r2 : (k + y) * 2 + 2 ≤ l.length * 2 := by omega
          have r3 : dl * 2 + 2 ≤ l.length * 2 := by omega
          have m1 : k * 2 + x * 2 = (k + x) * 2 := by omega
          have m2 : k * 2 + y * 2 = (k + y) * 2 := by omega
          have y1 : y < l.length - k := by omega
          have d1 : dl < l.length := by omega
          have xx : (x : Int) < ((l.length - k : Nat) : Int) := by omega
          by_cases hce : c.1 = e.1 ∧ c.2 = e.2
          · have hce' : c = e := by ext; exact hce.1; exact hce.2
            have hd2 : ddC (l.take (k + (x + 1))) = ddC (l.take (k + x)) := by rw [← Nat.add_assoc, hnext, ddStep, hlst, hce', if_pos rfl]
            simp [xx, inC, Nat.testBit, hx, y1, hsl, r1, r2, m1, m2, cc, ce, z1, z2, hce]
            refine ⟨x + 1, ⟨by omega, by omega, by rw [hd2]; omega⟩, by omega, ?_⟩
            rw [hd2, hdl, hM]
            refine Weak.mkM hE (lk [(0, 0)]) _ _ _ ?_ ?_ ?_ ?_ ?_ ?_ <;> simp
          · have hd2 : ddC (l.take (k + (x + 1))) = ddC (l.take (k + x)) ++ [c] := by rw [← Nat.add_assoc, hnext, ddStep, hlst, if_neg]; intro h; cases h; exact hce ⟨rfl, rfl⟩
            have hne : (!decide (c.1 = e.1) || !decide (c.2 = e.2)) = true := by simp; omega
            have hdl2 : (ddC (l.take (k + x)) ++ [c]).length = dl + 1 := by simp [hdl]
            simp [xx, inC, Nat.testBit, hx, y1, hsl, r1, r2, r3, m1, m2, cc, ce, z1, z2, z3, hne, d1, sc]
            refine ⟨x + 1, ⟨by omega, by omega, by rw [hd2, hdl2]; omega⟩, by omega, ?_⟩
            rw [hd2, hdl2]
            refine Weak.mkM hE (lk [(0, 0)]) _ _ _ ?_ ?_ ?_ ?_ ?_ ?_ <;> simp
        · have hkx : k + x = l.length := by omega
          rw [hkx, List.take_length] at x3 hdl
          rw [hkx, List.take_length]
          simp [hx]
          refine ⟨by omega, ?_⟩
          refine Weak.mkM hE (lk [(0, 0)]) _ _ _ ?_ ?_ ?_ ?_ ?_ ?_ <;> simp
      · obtain ⟨d, hd⟩ : ∃ d, ddC l = d := ⟨_, rfl⟩
        rw [hd] at hc ⊢
        have hML : (d ++ l.drop d.length).length = l.length := by simp; omega
        have hcl := clear_end hML
        have hsl := spD_len (d ++ l.drop d.length)
        rw [hML] at hsl
        have hne : ¬ l.length - d.length = 0 := by omega
        have hle : d.length ≤ l.length := by omega
        have hfit : d.length * 2 + (l.length - d.length) * 2 ≤ l.length * 2 := by omega
        simp [hle, hne, hfit, hsl, hcl]
        refine RetOk.by (lk [(0, 0)]) ?_
        simp [results129]
    · have hd : (decide (a.1 = b.1) && decide (a.2 = b.2)) = false := by simp; omega
      simp [inC, Nat.testBit, h, hj1, q1, q2, ca, cb, w1, w2, hd]
      refine ⟨k + 1, ⟨by omega, by omega, ?_⟩, by omega, ?_⟩
      · rw [dd_take ha, ddStep, hlast, if_neg, hdd, List.take_add_one (i := k), ha]; rfl
        intro e; cases e; exact hab ⟨rfl, rfl⟩
      · refine Weak.mkM hE (lk [(0, 0)]) _ _ _ ?_ ?_ ?_ ?_ ?_ ?_ <;> simp
  · simp at h
    have hk : k = l.length := by omega
    subst hk
    rw [List.take_length] at hdd
    simp
    refine RetOk.by (lk [(0, 0)]) ?_
    simp [results129, hdd]
end Go.Proofs.Try
namespace Go.Geo
abbrev C := Int × Int
def lt (a b : C) : Prop := a.1 < b.1 ∨ (a.1 = b.1 ∧ a.2 < b.2)
def cross (a b c : C) : Int := (b.1 - a.1) * (c.2 - a.2) - (b.2 - a.2) * (c.1 - a.1)
def xp (u v : C) : Int := u.1 * v.2 - u.2 * v.1
def pos (u : C) : Prop := 0 < u.1 ∨ (u.1 = 0 ∧ 0 < u.2)
def sb (a b : C) : C := (a.1 - b.1, a.2 - b.2)
theorem lt_irr (a : C) : ¬ lt a a := by unfold lt; omega
theorem lt_trans {a b c : C} (h1 : lt a b) (h2 : lt b c) : lt a c := by unfold lt at *; omega
theorem lt_tri (a b : C) : lt a b ∨ a = b ∨ lt b a := by
  rcases a with ⟨a1, a2⟩; rcases b with ⟨b1, b2⟩
  simp only [lt, Prod.mk.injEq]; omega
theorem pos_sb {a b : C} (h : lt a b) : pos (sb b a) := by unfold lt at h; unfold pos sb; omega
theorem xp_key (u v w : C) : v.1 * xp u w = w.1 * xp u v + u.1 * xp v w := by unfold xp; grind
theorem cross_xp (a b c : C) : cross a b c = xp (sb b a) (sb c a) := by unfold cross xp sb; grind
theorem cross_xp2 (a b c : C) : cross a b c = xp (sb b a) (sb c b) := by unfold cross xp sb; grind
theorem cross_xp3 (a b c : C) : cross a b c = xp (sb c a) (sb c b) := by unfold cross xp sb; grind
theorem xp_neg (u v : C) : xp u v = - xp v u := by unfold xp; grind
theorem cross_swap (a b c : C) : cross a b c = - cross a c b := by unfold cross; grind
theorem cross_swap2 (a b c : C) : cross a b c = - cross b a c := by unfold cross; grind
theorem cross_self (a b : C) : cross a b a = 0 := by unfold cross; grind
theorem cross_self2 (a b : C) : cross a b b = 0 := by unfold cross; grind
theorem cross_self3 (a b : C) : cross a a b = 0 := by unfold cross; grind
theorem le_of_pmul {x y : Int} (h : 0 < x) (hy : 0 ≤ x * y) : 0 ≤ y := by
  apply Int.not_lt.1; intro hn
  have := Int.mul_neg_of_pos_of_neg h hn
  omega
theorem lt_of_pmul {x y : Int} (h : 0 < x) (hy : 0 < x * y) : 0 < y := by
  apply Int.not_le.1; intro hn
  have := Int.mul_nonpos_of_nonneg_of_nonpos (Int.le_of_lt h) hn
  omega
theorem tr {u v w : C} (hu : pos u) (hv : pos v) (hw : pos w) (h1 : 0 ≤ xp u v) (h2 : 0 ≤ xp v w) : 0 ≤ xp u w := by
  rcases hv with hv | ⟨hv, hv2⟩
  · refine le_of_pmul hv ?_
    rw [xp_key]
    have a := Int.mul_nonneg (show 0 ≤ w.1 by unfold pos at hw; omega) h1
    have b := Int.mul_nonneg (show 0 ≤ u.1 by unfold pos at hu; omega) h2
    omega
  · have e1 : xp v w = v.2 * -w.1 := by unfold xp; rw [hv]; grind
    rw [e1] at h2
    have := le_of_pmul hv2 h2
    have hw1 : w.1 = 0 := by unfold pos at hw; omega
    have hw2 : 0 < w.2 := by unfold pos at hw; omega
    have e2 : xp u w = u.1 * w.2 := by unfold xp; rw [hw1]; grind
    rw [e2]
    exact Int.mul_nonneg (by unfold pos at hu; omega) (by omega)
theorem tr_s1 {u v w : C} (hu : pos u) (hv : pos v) (hw : pos w) (h1 : 0 < xp u v) (h2 : 0 ≤ xp v w) : 0 < xp u w := by
  have hu1 : 0 < u.1 := by
    apply Int.not_le.1; intro hn
    have : u.1 = 0 := by unfold pos at hu; omega
    have h3 : 0 < u.2 := by unfold pos at hu; omega
    have e : xp u v = -(u.2 * v.1) := by unfold xp; rw [this]; grind
    have := Int.mul_nonneg (Int.le_of_lt h3) (show 0 ≤ v.1 by unfold pos at hv; omega)
    omega
  rcases hv with hv | ⟨hv, hv2⟩
  · refine lt_of_pmul hv ?_
    rw [xp_key]
    by_cases hw1 : 0 < w.1
    · have a := Int.mul_pos hw1 h1
      have b := Int.mul_nonneg (Int.le_of_lt hu1) h2
      omega
    · have hw0 : w.1 = 0 := by unfold pos at hw; omega
      have hw2 : 0 < w.2 := by unfold pos at hw; omega
      have e : xp v w = v.1 * w.2 := by unfold xp; rw [hw0]; grind
      rw [e, hw0]
      have := Int.mul_pos hu1 (Int.mul_pos hv hw2)
      omega
  · have e1 : xp v w = v.2 * -w.1 := by unfold xp; rw [hv]; grind
    rw [e1] at h2
    have := le_of_pmul hv2 h2
    have hw1 : w.1 = 0 := by unfold pos at hw; omega
    have hw2 : 0 < w.2 := by unfold pos at hw; omega
    have e2 : xp u w = u.1 * w.2 := by unfold xp; rw [hw1]; grind
    rw [e2]
    exact Int.mul_pos hu1 hw2
theorem tr_s2 {u v w : C} (hu : pos u) (hv : pos v) (hw : pos w) (h1 : 0 ≤ xp u v) (h2 : 0 < xp v w) : 0 < xp u w := by
  have hv1 : 0 < v.1 := by
    apply Int.not_le.1; intro hn
    have h0 : v.1 = 0 := by unfold pos at hv; omega
    have h3 : 0 < v.2 := by unfold pos at hv; omega
    have e : xp v w = -(v.2 * w.1) := by unfold xp; rw [h0]; grind
    have := Int.mul_nonneg (Int.le_of_lt h3) (show 0 ≤ w.1 by unfold pos at hw; omega)
    omega
  refine lt_of_pmul hv1 ?_
  rw [xp_key]
  by_cases hu1 : 0 < u.1
  · have a := Int.mul_pos hu1 h2
    have b := Int.mul_nonneg (show 0 ≤ w.1 by unfold pos at hw; omega) h1
    omega
  · have hu0 : u.1 = 0 := by unfold pos at hu; omega
    have hu2 : 0 < u.2 := by unfold pos at hu; omega
    have e : xp u v = -(u.2 * v.1) := by unfold xp; rw [hu0]; grind
    have := Int.mul_pos hu2 hv1
    omega
def pushS : List C → C → List C
  | b :: a :: r, p => if cross a b p ≤ 0 then pushS (a :: r) p else p :: b :: a :: r
  | st, p => p :: st
def chainR (l : List C) : List C := l.foldl pushS []
def edg : List C → List (C × C)
  | b :: a :: r => (a, b) :: edg (a :: r)
  | _ => []
def Good (done : List C) : List C → Prop
  | c :: b :: a :: r => lt b c ∧ 0 < cross a b c ∧ (∀ q ∈ done, 0 ≤ cross b c q) ∧ Good done (b :: a :: r)
  | c :: b :: [] => lt b c ∧ ∀ q ∈ done, 0 ≤ cross b c q
  | _ => True
theorem Good.tail {done : List C} {b : C} : ∀ {r : List C}, Good done (b :: r) → Good done r
  | [], _ => trivial
  | [_], _ => trivial
  | _ :: _ :: _, h => h.2.2.2
theorem Good.lt2 {done : List C} {c b : C} : ∀ {r : List C}, Good done (c :: b :: r) → lt b c
  | [], h => h.1
  | _ :: _, h => h.1
theorem Good.above {done : List C} {c b : C} : ∀ {r : List C}, Good done (c :: b :: r) → ∀ q ∈ done, 0 ≤ cross b c q
  | [], h => h.2
  | _ :: _, h => h.2.2.1
theorem Good.one {done : List C} {q : C} : ∀ {st : List C}, Good done st → (∀ e ∈ edg st, 0 ≤ cross e.1 e.2 q) → Good (done ++ [q]) st
  | [], _, _ => trivial
  | [_], _, _ => trivial
  | [c, b], h, hq => ⟨h.1, fun x hx => by
      rcases List.mem_append.1 hx with hx | hx
      · exact h.2 x hx
      · rw [List.mem_singleton.1 hx]; exact hq (b, c) (by simp [edg])⟩
  | c :: b :: a :: r, h, hq => ⟨h.1, h.2.1, fun x hx => by
      rcases List.mem_append.1 hx with hx | hx
      · exact h.2.2.1 x hx
      · rw [List.mem_singleton.1 hx]; exact hq (b, c) (by simp [edg]), Good.one h.2.2.2 fun e he => hq e (by simp only [edg, List.mem_cons] at he ⊢; exact Or.inr he)⟩
theorem on_left {done : List C} {p : C} : ∀ {st : List C}, Good done st → (∀ b ∈ st, lt b p) → (∀ b a r, st = b :: a :: r → 0 ≤ cross a b p) → ∀ e ∈ edg st, 0 ≤ cross e.1 e.2 p
  | [], _, _, _, _, he => by simp [edg] at he
  | [_], _, _, _, _, he => by simp [edg] at he
  | [c, b], _, _, h, e, he => by simp [edg] at he; subst he; exact h c b [] rfl
  | c :: b :: a :: r, hg, hl, h, e, he => by
    simp only [edg, List.mem_cons] at he
    have h0 := h c b (a :: r) rfl
    have hba : lt a b := hg.2.2.2.lt2
    have hcb := hg.1
    rcases he with rfl | he
    · exact h0
    · refine on_left hg.2.2.2 (fun x hx => hl x (by simp [hx])) (fun x y s hs => ?_) e (by simp only [edg, List.mem_cons]; exact he)
      cases hs
      have h1 := hg.2.1
      rw [cross_xp2] at h1 ⊢
      rw [cross_xp] at h0
      exact tr (pos_sb hba) (pos_sb hcb) (pos_sb (hl b (by simp))) (Int.le_of_lt h1) h0
theorem mem_lt_top {done : List C} {b : C} : ∀ {r : List C}, Good done (b :: r) → ∀ x ∈ r, lt x b
  | [], _, _, hx => by simp at hx
  | c :: r, h, x, hx => by
    have h1 := h.lt2
    rcases List.mem_cons.1 hx with rfl | hx
    · exact h1
    · exact lt_trans (mem_lt_top h.tail x hx) h1
theorem push_good {done : List C} {p : C} (hp : ∀ q ∈ done, lt q p) : ∀ {st : List C}, Good done st → (∀ b ∈ st, b ∈ done) → (∀ b r, st = b :: r → ∀ q ∈ done, ¬ lt q b → 0 ≤ cross b p q) → (∀ f, st.getLast? = some f → ∀ q ∈ done, ¬ lt q f) → Good (done ++ [p]) (pushS st p)
  | [], _, _, _, _ => trivial
  | [b], _, hs, hk, h1 => by
    refine ⟨hp b (hs b (by simp)), fun q hq => ?_⟩
    rcases List.mem_append.1 hq with hq | hq
    · exact hk b [] rfl q hq (h1 b rfl q hq)
    · rw [List.mem_singleton.1 hq, cross_self2]; omega
  | b :: a :: r, hg, hs, hk, h1 => by
    have hab := hg.lt2
    have hbp := hp b (hs b (by simp))
    have hap := hp a (hs a (by simp))
    unfold pushS
    by_cases hc : cross a b p ≤ 0
    · rw [if_pos hc]
      refine push_good hp hg.tail (fun x hx => hs x (by simp [hx])) (fun a' r' e q hq hqa => ?_) (fun f e q hq => h1 f (by rw [List.getLast?_cons_cons]; exact e) q hq)
      cases e
      have hqp := hp q hq
      have hba : 0 ≤ xp (sb p a) (sb b a) := by rw [cross_swap, cross_xp] at hc; omega
      have hbp2 : 0 ≤ xp (sb p b) (sb p a) := by rw [cross_xp3] at hc; rw [xp_neg]; omega
      rcases lt_tri q b with hqb | rfl | hbq
      · rcases lt_tri a q with haq | rfl | hqa2
        · have h2 := hg.above q hq
          rw [cross_xp] at h2 ⊢
          exact tr (pos_sb hap) (pos_sb hab) (pos_sb haq) hba h2
        · rw [cross_self]; omega
        · exact absurd hqa2 hqa
      · rw [cross_xp]; exact hba
      · have h2 := hk b (a :: r) rfl q hq (fun h => lt_irr _ (lt_trans h hbq))
        rw [cross_swap, cross_xp3] at h2
        rw [cross_swap, cross_xp3]
        have h3 : 0 ≤ xp (sb p q) (sb p b) := by rw [xp_neg]; omega
        have := tr (pos_sb hqp) (pos_sb hbp) (pos_sb hap) h3 hbp2
        rw [xp_neg] at this
        omega
    · rw [if_neg hc]
      refine ⟨hbp, by omega, fun q hq => ?_, hg.one (on_left hg (fun x hx => hp x (hs x hx)) fun b' a' r' e => by cases e; omega)⟩
      rcases List.mem_append.1 hq with hq | hq
      · rcases lt_tri q b with hqb | rfl | hbq
        · have h2 := hg.above q hq
          have h3 : 0 ≤ xp (sb b q) (sb b a) := by
            have : cross a b q = xp (sb b q) (sb b a) := by unfold cross xp sb; grind
            omega
          have h4 : 0 ≤ xp (sb b a) (sb p b) := by rw [← cross_xp2]; omega
          have := tr (pos_sb hqb) (pos_sb hab) (pos_sb hbp) h3 h4
          have e : cross b p q = xp (sb b q) (sb p b) := by unfold cross xp sb; grind
          omega
        · rw [cross_self]; omega
        · exact hk b (a :: r) rfl q hq fun h => lt_irr _ (lt_trans h hbq)
      · rw [List.mem_singleton.1 hq, cross_self2]; omega
def Sorted : List C → Prop := List.Pairwise lt
theorem pushS_head (p : C) : ∀ st : List C, ∃ r, pushS st p = p :: r ∧ (st = [] → r = []) ∧ (st ≠ [] → r ≠ [] ∧ r.getLast? = st.getLast?) ∧ r.Sublist st
  | [] => ⟨[], rfl, fun _ => rfl, fun h => absurd rfl h, List.Sublist.refl _⟩
  | [b] => ⟨[b], rfl, fun h => by simp at h, fun _ => ⟨by simp, rfl⟩, List.Sublist.refl _⟩
  | b :: a :: r => by
    unfold pushS
    by_cases h : cross a b p ≤ 0
    · rw [if_pos h]
      obtain ⟨r', h1, _, h3, h4⟩ := pushS_head p (a :: r)
      exact ⟨r', h1, fun h => by simp at h, fun _ => by rw [List.getLast?_cons_cons]; exact h3 (by simp), h4.cons b⟩
    · rw [if_neg h]
      exact ⟨b :: a :: r, rfl, fun h => by simp at h, fun _ => ⟨by simp, rfl⟩, List.Sublist.refl _⟩
structure ChainOf (l st : List C) : Prop where
  good : Good l st
  sub : st.reverse.Sublist l
  top : st.head? = l.getLast?
  bot : st.getLast? = l.head?
theorem chainR_snoc (l : List C) (p : C) : chainR (l ++ [p]) = pushS (chainR l) p := by simp [chainR]
theorem sorted_first {l : List C} (h : Sorted l) {f : C} (hf : l.head? = some f) : ∀ q ∈ l, ¬ lt q f := by
  cases l with
  | nil => simp at hf
  | cons a r =>
    simp at hf; subst hf
    intro q hq hlt
    rcases List.mem_cons.1 hq with rfl | hq
    · exact lt_irr _ hlt
    · exact lt_irr _ (lt_trans hlt ((List.pairwise_cons.1 h).1 q hq))
theorem chain_is (l : List C) (h : Sorted l) : ChainOf l (chainR l) := by
  have key : ∀ n, ∀ l : List C, l.length = n → Sorted l → ChainOf l (chainR l) := by
    intro n
    induction n with
    | zero =>
      intro l hl _
      rw [List.length_eq_zero_iff] at hl
      subst hl
      exact ⟨trivial, List.Sublist.refl _, rfl, rfl⟩
    | succ n ih =>
      intro l hl hs
      rcases List.eq_nil_or_concat l with rfl | ⟨l', p, rfl⟩
      · simp at hl
      rw [List.concat_eq_append] at hl hs ⊢
      have hs' : Sorted l' := (List.pairwise_append.1 hs).1
      have hp : ∀ q ∈ l', lt q p := fun q hq => (List.pairwise_append.1 hs).2.2 q hq p (by simp)
      have hi := ih l' (by simpa using hl) hs'
      rw [chainR_snoc]
      obtain ⟨r, e, e1, e2, e3⟩ := pushS_head p (chainR l')
      have hmem : ∀ b ∈ chainR l', b ∈ l' := fun b hb => hi.sub.subset (List.mem_reverse.2 hb)
      refine ⟨push_good hp hi.good hmem ?_ ?_, ?_, ?_, ?_⟩
      · intro b r' hb q hq hqb
        have ht := hi.top
        rw [hb] at ht
        simp at ht
        have hql : q = b := by
          rcases List.eq_nil_or_concat l' with rfl | ⟨l2, x, rfl⟩
          · simp at hq
          · rw [List.concat_eq_append] at ht hq hs'
            simp at ht
            subst ht
            rcases List.mem_append.1 hq with hq | hq
            · exact absurd ((List.pairwise_append.1 hs').2.2 q hq b (by simp)) hqb
            · exact List.mem_singleton.1 hq
        rw [hql, cross_self]; omega
      · intro f hf
        exact sorted_first hs' (by rw [← hi.bot]; exact hf)
      · rw [e, List.reverse_cons]
        exact ((List.reverse_sublist.2 e3).trans hi.sub).append (List.Sublist.refl _)
      · rw [e]; simp
      · rw [e]
        by_cases h0 : chainR l' = []
        · have hl' : l' = [] := by
            have := hi.top
            rw [h0] at this
            simp at this
            cases l' with
            | nil => rfl
            | cons a b => simp [List.getLast?_cons] at this
          subst hl'
          rw [e1 h0]; rfl
        · obtain ⟨h1, h2⟩ := e2 h0
          cases r with
          | nil => exact absurd rfl h1
          | cons x r =>
            rw [List.getLast?_cons_cons, h2, hi.bot]
            cases l' with
            | nil => exact absurd rfl h0
            | cons a b => rfl
  exact key _ l rfl h
end Go.Geo
namespace Go.Geo
def steps : List C → List (C × C)
  | a :: b :: r => (a, b) :: steps (b :: r)
  | _ => []
theorem steps_snoc (a b : C) : ∀ l : List C, steps (l ++ [a, b]) = steps (l ++ [a]) ++ [(a, b)]
  | [] => rfl
  | [x] => rfl
  | x :: y :: r => by
    have := steps_snoc a b (y :: r)
    simp only [List.cons_append, steps] at this ⊢
    rw [this]
theorem steps_rev : ∀ st : List C, steps st.reverse = (edg st).reverse
  | [] => rfl
  | [_] => rfl
  | b :: a :: r => by
    have h := steps_rev (a :: r)
    rw [edg, List.reverse_cons (a := (a, b)), ← h, List.reverse_cons (a := b), List.reverse_cons, List.append_assoc]
    exact steps_snoc a b r.reverse
theorem steps_app (x : C) (u : List C) : ∀ l : List C, steps (l ++ x :: u) = steps (l ++ [x]) ++ steps (x :: u)
  | [] => rfl
  | [a] => by simp [steps]
  | a :: b :: r => by
    have := steps_app x u (b :: r)
    simp only [List.cons_append, steps] at this ⊢
    rw [this]
def cyc (r : List C) : List (C × C) := match r with | [] => [] | a :: t => steps (a :: t ++ [a])
def neg (p : C) : C := (-p.1, -p.2)
theorem neg_neg (p : C) : neg (neg p) = p := by simp [neg]
theorem cross_neg (a b c : C) : cross (neg a) (neg b) (neg c) = cross a b c := by unfold cross neg; grind
theorem lt_neg {a b : C} : lt (neg a) (neg b) ↔ lt b a := by unfold lt neg; omega
theorem push_neg (p : C) : ∀ st : List C, pushS (st.map neg) (neg p) = (pushS st p).map neg
  | [] => rfl
  | [_] => rfl
  | b :: a :: r => by
    have ih := push_neg p (a :: r)
    simp only [List.map_cons] at ih ⊢
    unfold pushS
    simp only [cross_neg]
    split
    · exact ih
    · rfl
theorem chainR_neg (l : List C) : chainR (l.map neg) = (chainR l).map neg := by
  have key : ∀ (l st : List C), (l.map neg).foldl pushS (st.map neg) = (l.foldl pushS st).map neg := by
    intro l
    induction l with
    | nil => intro st; rfl
    | cons a l ih => intro st; simp only [List.map_cons, List.foldl_cons]; rw [push_neg, ih]
  exact key l []
theorem sorted_neg {l : List C} (h : Sorted l) : Sorted (l.reverse.map neg) := by
  unfold Sorted at *
  rw [List.pairwise_map, List.pairwise_reverse]
  exact h.imp fun h => lt_neg.2 h
theorem edg_map (f : C → C) : ∀ st : List C, edg (st.map f) = (edg st).map fun e => (f e.1, f e.2)
  | [] => rfl
  | [_] => rfl
  | b :: a :: r => by
    have := edg_map f (a :: r)
    simp only [List.map_cons, edg] at this ⊢
    rw [this]
def hullS (l : List C) : List C := if l.length < 3 then l else (chainR l).tail.reverse ++ (chainR l.reverse).tail.reverse
theorem up_is {l : List C} (h : Sorted l) : ChainOf (l.reverse.map neg) ((chainR l.reverse).map neg) := by
  rw [← chainR_neg]
  exact chain_is _ (sorted_neg h)
theorem top_of {l st : List C} (h : ChainOf l st) {a : C} (ha : l.getLast? = some a) : ∃ t, st = a :: t := by
  have := h.top
  rw [ha] at this
  cases st with
  | nil => simp at this
  | cons b t => simp at this; exact ⟨t, by rw [this]⟩
theorem chains {l : List C} (h : Sorted l) (h2 : 2 ≤ l.length) : ∃ f g lo up, l.head? = some f ∧ l.getLast? = some g ∧ f ≠ g ∧ chainR l = g :: lo ∧ chainR l.reverse = f :: up ∧ lo.getLast? = some f ∧ up.getLast? = some g := by
  cases l with
  | nil => simp at h2
  | cons f r =>
    rcases List.eq_nil_or_concat r with rfl | ⟨m, g, rfl⟩
    · simp at h2
    rw [List.concat_eq_append] at *
    have hfg : f ≠ g := by
      intro e
      have := (List.pairwise_cons.1 h).1 g (by simp)
      rw [e] at this
      exact lt_irr _ this
    have hl : (f :: (m ++ [g])).getLast? = some g := by rw [show f :: (m ++ [g]) = (f :: m) ++ [g] from rfl, List.getLast?_append]; rfl
    obtain ⟨lo, hlo⟩ := top_of (chain_is _ h) hl
    have hu := up_is h
    have hl2 : ((f :: (m ++ [g])).reverse.map neg).getLast? = some (neg f) := by rw [List.getLast?_map, List.getLast?_reverse]; rfl
    obtain ⟨u', hu'⟩ := top_of hu hl2
    have hb := (chain_is _ h).bot
    rw [hlo] at hb
    have hub := hu.bot
    obtain ⟨up, hup⟩ : ∃ up, chainR (f :: (m ++ [g])).reverse = f :: up := by
      cases hc : chainR (f :: (m ++ [g])).reverse with
      | nil => rw [hc] at hu'; simp at hu'
      | cons a t =>
        rw [hc] at hu'
        simp only [List.map_cons, List.cons.injEq] at hu'
        have : a = f := by rw [← neg_neg a, hu'.1, neg_neg]
        exact ⟨t, by rw [this]⟩
    refine ⟨f, g, lo, up, rfl, hl, hfg, hlo, hup, ?_, ?_⟩
    · cases lo with
      | nil => simp at hb; exact absurd hb.symm hfg
      | cons a t => rw [List.getLast?_cons_cons] at hb; rw [hb]; rfl
    · rw [hup] at hub
      simp at hub
      cases up with
      | nil =>
        simp at hub
        have : f = g := by rw [← neg_neg f, hub, neg_neg]
        exact absurd this hfg
      | cons a t =>
        simp [List.getLast?_cons_cons] at hub
        rw [← List.map_cons, List.getLast?_map, Option.map_eq_some_iff] at hub
        obtain ⟨x, hx1, hx2⟩ := hub
        rw [hx1, show x = g by rw [← neg_neg x, hx2, neg_neg]]
end Go.Geo
namespace Go.Geo
def le (a b : C) : Prop := ¬ lt b a
theorem steps_mem_edg (st : List C) (e : C × C) : e ∈ steps st.reverse ↔ e ∈ edg st := by rw [steps_rev, List.mem_reverse]
theorem cyc_hull {l : List C} (h : Sorted l) (h3 : 3 ≤ l.length) (e : C × C) : e ∈ cyc (hullS l) ↔ e ∈ edg (chainR l) ∨ e ∈ edg (chainR l.reverse) := by
  obtain ⟨f, g, lo, up, hf, hg, hfg, e1, e2, b1, b2⟩ := chains h (by omega)
  unfold hullS
  rw [if_neg (by omega), e1, e2]
  simp only [List.tail_cons]
  obtain ⟨lo', rfl⟩ : ∃ lo', lo = lo' ++ [f] := by
    rcases List.eq_nil_or_concat lo with rfl | ⟨x, y, rfl⟩
    · simp at b1
    · rw [List.concat_eq_append] at b1 ⊢; simp at b1; exact ⟨x, by rw [b1]⟩
  obtain ⟨up', rfl⟩ : ∃ up', up = up' ++ [g] := by
    rcases List.eq_nil_or_concat up with rfl | ⟨x, y, rfl⟩
    · simp at b2
    · rw [List.concat_eq_append] at b2 ⊢; simp at b2; exact ⟨x, by rw [b2]⟩
  have hc : cyc ((lo' ++ [f]).reverse ++ (up' ++ [g]).reverse) = steps ((g :: (lo' ++ [f])).reverse) ++ steps ((f :: (up' ++ [g])).reverse) := by
    simp only [List.reverse_append, List.reverse_cons, List.reverse_nil, List.nil_append, List.cons_append, cyc]
    have := steps_app g (up'.reverse ++ [f]) (f :: lo'.reverse)
    simpa [List.append_assoc] using this
  rw [hc, List.mem_append, steps_mem_edg, steps_mem_edg]
theorem good_edge {done : List C} : ∀ {st : List C}, Good done st → ∀ e ∈ edg st, lt e.1 e.2 ∧ ∀ q ∈ done, 0 ≤ cross e.1 e.2 q
  | [], _, _, he => by simp [edg] at he
  | [_], _, _, he => by simp [edg] at he
  | c :: b :: r, h, e, he => by
    simp only [edg, List.mem_cons] at he
    rcases he with rfl | he
    · exact ⟨h.lt2, h.above⟩
    · exact good_edge h.tail e he
theorem up_edge {l : List C} (h : Sorted l) : ∀ e ∈ edg (chainR l.reverse), lt e.2 e.1 ∧ ∀ q ∈ l, 0 ≤ cross e.1 e.2 q := fun e he => by
  have hg := (up_is h).good
  obtain ⟨h1, h2⟩ := good_edge hg (neg e.1, neg e.2) (by rw [edg_map]; exact List.mem_map.2 ⟨e, he, rfl⟩)
  refine ⟨lt_neg.1 h1, fun q hq => ?_⟩
  have := h2 (neg q) (List.mem_map.2 ⟨q, List.mem_reverse.2 hq, rfl⟩)
  rwa [cross_neg] at this
theorem hull_left {l : List C} (h : Sorted l) (h3 : 3 ≤ l.length) : ∀ e ∈ cyc (hullS l), ∀ q ∈ l, 0 ≤ cross e.1 e.2 q := fun e he => by
  rcases (cyc_hull h h3 e).1 he with he | he
  · exact (good_edge (chain_is l h).good e he).2
  · exact (up_edge h e he).2
theorem hull_sub {l : List C} (h : Sorted l) : ∀ p ∈ hullS l, p ∈ l := fun p hp => by
  unfold hullS at hp
  split at hp
  · exact hp
  · rcases List.mem_append.1 hp with hp | hp
    · exact (chain_is l h).sub.subset (List.mem_reverse.2 (List.mem_of_mem_tail (List.mem_reverse.1 hp)))
    · have h1 := List.mem_of_mem_tail (List.mem_reverse.1 hp)
      have h2 := (up_is h).sub.subset (List.mem_reverse.2 (List.mem_map.2 ⟨p, h1, rfl⟩))
      obtain ⟨q, hq, e⟩ := List.mem_map.1 h2
      have : p = q := by rw [← neg_neg p, ← e, neg_neg]
      rw [this]; exact List.mem_reverse.1 hq
theorem straddle {done : List C} {q t f : C} : ∀ {st : List C}, Good done st → st.head? = some t → st.getLast? = some f → 2 ≤ st.length → le f q → le q t → ∃ e ∈ edg st, le e.1 q ∧ le q e.2
  | [], _, h, _, _, _, _ => by simp at h
  | [_], _, _, _, h, _, _ => by simp at h
  | [c, b], _, h1, h2, _, h3, h4 => by
    simp at h1 h2; subst h1; subst h2
    exact ⟨(b, c), by simp [edg], h3, h4⟩
  | c :: b :: a :: r, hg, h1, h2, _, h3, h4 => by
    simp at h1; subst h1
    by_cases hb : le q b
    · rw [List.getLast?_cons_cons] at h2
      obtain ⟨e, he, h5⟩ := straddle (st := b :: a :: r) hg.tail rfl h2 (by simp) h3 hb
      exact ⟨e, by simp only [edg, List.mem_cons] at he ⊢; exact Or.inr he, h5⟩
    · exact ⟨(b, c), by simp [edg], fun h => hb (fun h' => lt_irr _ (lt_trans h h')), h4⟩
end Go.Geo
namespace Go.Geo
theorem good_mid {done : List C} {y v x : C} {t : List C} : ∀ {s : List C}, Good done (s ++ y :: v :: x :: t) → lt v y ∧ lt x v ∧ 0 < cross x v y ∧ (∀ q ∈ done, 0 ≤ cross v y q) ∧ ∀ q ∈ done, 0 ≤ cross x v q
  | [], h => ⟨h.1, h.2.2.2.lt2, h.2.1, h.2.2.1, h.2.2.2.above⟩
  | _ :: s, h => good_mid (s := s) h.tail
theorem mem_cases {v : C} : ∀ {st : List C}, v ∈ st → st.head? = some v ∨ st.getLast? = some v ∨ ∃ s y x t, st = s ++ y :: v :: x :: t
  | [], h => by simp at h
  | [a], h => by simp at h; left; simp [h]
  | a :: b :: r, h => by
    rcases List.mem_cons.1 h with rfl | h
    · left; rfl
    · rcases mem_cases h with h1 | h1 | ⟨s, y, x, t, h1⟩
      · simp at h1; subst h1
        cases r with
        | nil => right; left; rfl
        | cons x t => right; right; exact ⟨[], a, x, t, rfl⟩
      · right; left; rw [List.getLast?_cons_cons]; exact h1
      · right; right; exact ⟨a :: s, y, x, t, by rw [h1]; rfl⟩
theorem good_desc {done : List C} : ∀ {st : List C}, Good done st → List.Pairwise (fun a b => lt b a) st
  | [], _ => List.Pairwise.nil
  | _ :: _, h => List.pairwise_cons.2 ⟨fun x hx => mem_lt_top h x hx, good_desc h.tail⟩
theorem chain_mem {l st st' : List C} (h : ChainOf l st) (h' : ChainOf l st') : ∀ v ∈ st, v ∈ st' := by
  intro v hv
  have hmem : ∀ x ∈ st, x ∈ l := fun x hx => h.sub.subset (List.mem_reverse.2 hx)
  have hmem' : ∀ x ∈ st', x ∈ l := fun x hx => h'.sub.subset (List.mem_reverse.2 hx)
  rcases mem_cases hv with h1 | h1 | ⟨s, y, x, t, rfl⟩
  · rw [h.top, ← h'.top] at h1; exact List.mem_of_head? h1
  · rw [h.bot, ← h'.bot] at h1; exact List.mem_of_getLast? h1
  · obtain ⟨vy, xv, hc, a1, a2⟩ := good_mid h.good
    by_cases hin : v ∈ st'
    · exact hin
    exfalso
    have hd := good_desc h.good
    obtain ⟨g, hg⟩ : ∃ g, l.getLast? = some g := by
      cases hl : l.getLast? with
      | some g => exact ⟨g, rfl⟩
      | none =>
        rw [List.getLast?_eq_none_iff] at hl
        have := hmem v hv
        rw [hl] at this; simp at this
    obtain ⟨f, hf⟩ : ∃ f, l.head? = some f := by
      cases hl : l.head? with
      | some g => exact ⟨g, rfl⟩
      | none =>
        rw [List.head?_eq_none_iff] at hl
        have := hmem v hv
        rw [hl] at this; simp at this
    have hvg : lt v g := by
      have ht := h.top
      rw [hg] at ht
      cases s with
      | nil => simp at ht; subst ht; exact vy
      | cons c s =>
        simp at ht; subst ht
        exact (List.pairwise_cons.1 hd).1 v (by simp)
    have hfv : lt f v := by
      have ht := h.bot
      rw [hf] at ht
      have hlast : (x :: t).getLast? = some f := by
        rw [← ht]
        rw [show s ++ y :: v :: x :: t = (s ++ [y, v]) ++ (x :: t) by simp, List.getLast?_append]
        cases hx : (x :: t).getLast? with
        | none => simp [List.getLast?_cons] at hx
        | some z => rfl
      have hfm : f ∈ x :: t := List.mem_of_getLast? hlast
      have h3 := (List.pairwise_append.1 hd).2.1
      have h4 := (List.pairwise_cons.1 (List.pairwise_cons.1 h3).2).1
      exact h4 f hfm
    have hlen : 2 ≤ st'.length := by
      have t1 := h'.top; have t2 := h'.bot
      rw [hg] at t1; rw [hf] at t2
      match st', t1, t2 with
      | [], t1, _ => simp at t1
      | [c], t1, t2 => simp at t1 t2; subst t1; subst t2; exact absurd (lt_trans hvg hfv) (lt_irr _)
      | _ :: _ :: _, _, _ => simp
    obtain ⟨e, he, h5, h6⟩ := straddle h'.good (q := v) (by rw [h'.top, hg]) (by rw [h'.bot, hf]) hlen (fun hh => lt_irr _ (lt_trans hfv hh)) (fun hh => lt_irr _ (lt_trans hvg hh))
    obtain ⟨k1, k2⟩ := good_edge h'.good e he
    have m1 : e.1 ∈ st' ∧ e.2 ∈ st' := by
      have : ∀ {st : List C} {e : C × C}, e ∈ edg st → e.1 ∈ st ∧ e.2 ∈ st := by
        intro st
        induction st with
        | nil => intro e he; simp [edg] at he
        | cons c r ih =>
          intro e he
          cases r with
          | nil => simp [edg] at he
          | cons b r =>
            simp only [edg, List.mem_cons] at he
            rcases he with rfl | he
            · simp
            · have := ih he
              exact ⟨List.mem_cons_of_mem _ this.1, List.mem_cons_of_mem _ this.2⟩
      exact this he
    have n1 : e.1 ≠ v := fun e0 => hin (e0 ▸ m1.1)
    have n2 : e.2 ≠ v := fun e0 => hin (e0 ▸ m1.2)
    have l1 : lt e.1 v := by rcases lt_tri e.1 v with h | h | h; exact h; exact absurd h n1; exact absurd h h5
    have l2 : lt v e.2 := by rcases lt_tri v e.2 with h | h | h; exact h; exact absurd h.symm n2; exact absurd h h6
    have c1 := a2 e.1 (hmem' _ m1.1)
    have c2 := a1 e.2 (hmem' _ m1.2)
    have c3 := k2 v (hmem v hv)
    have d1 : 0 ≤ xp (sb v e.1) (sb v x) := by have : cross x v e.1 = xp (sb v e.1) (sb v x) := by unfold cross xp sb; grind
                                               omega
    have d2 : 0 < xp (sb v x) (sb y v) := by rw [← cross_xp2]; exact hc
    have d3 : 0 ≤ xp (sb y v) (sb e.2 v) := by rw [← cross_xp]; exact c2
    have d4 := tr_s2 (pos_sb l1) (pos_sb xv) (pos_sb vy) d1 d2
    have d5 := tr_s1 (pos_sb l1) (pos_sb vy) (pos_sb l2) d4 d3
    have d6 : cross e.1 e.2 v = - xp (sb v e.1) (sb e.2 v) := by unfold cross xp sb; grind
    omega
theorem sub_eq {l : List C} (hl : Sorted l) : ∀ {s s' : List C}, s.Sublist l → s'.Sublist l → (∀ x, x ∈ s ↔ x ∈ s') → s = s' := by
  induction l with
  | nil => intro s s' h h' _; rw [List.sublist_nil.1 h, List.sublist_nil.1 h']
  | cons a l ih =>
    intro s s' h h' hm
    have hl' : Sorted l := (List.pairwise_cons.1 hl).2
    have hna : a ∉ l := fun hc => lt_irr _ ((List.pairwise_cons.1 hl).1 a hc)
    have hin : ∀ {s : List C}, s.Sublist (a :: l) → (s.Sublist l ∧ a ∉ s) ∨ ∃ r, s = a :: r ∧ r.Sublist l := by
      intro s h
      cases h with
      | cons _ h => exact Or.inl ⟨h, fun hc => hna (h.subset hc)⟩
      | cons_cons _ h => exact Or.inr ⟨_, rfl, h⟩
    rcases hin h with ⟨h1, n1⟩ | ⟨r, rfl, h1⟩ <;> rcases hin h' with ⟨h2, n2⟩ | ⟨r', rfl, h2⟩
    · exact ih hl' h1 h2 hm
    · exact absurd ((hm a).2 (by simp)) n1
    · exact absurd ((hm a).1 (by simp)) n2
    · have : r = r' := ih hl' h1 h2 fun x => by
        have := hm x
        simp only [List.mem_cons] at this
        constructor
        · intro hx
          rcases this.1 (Or.inr hx) with rfl | h
          · exact absurd (h1.subset hx) hna
          · exact h
        · intro hx
          rcases this.2 (Or.inr hx) with rfl | h
          · exact absurd (h2.subset hx) hna
          · exact h
      rw [this]
theorem chain_unique {l st st' : List C} (hl : Sorted l) (h : ChainOf l st) (h' : ChainOf l st') : st = st' := by
  have := sub_eq hl h.sub h'.sub fun x => by
    rw [List.mem_reverse, List.mem_reverse]
    exact ⟨chain_mem h h' x, chain_mem h' h x⟩
  exact List.reverse_inj.1 this
end Go.Geo
namespace Go.Proofs.Try
open Go.Psl
open Go.Geo (cross pushS chainR)
def popS : List (Int × Int) → Int × Int → List (Int × Int)
  | b :: a :: r, p => if cross a b p ≤ 0 then popS (a :: r) p else b :: a :: r
  | st, _ => st
theorem push_pop (p : Int × Int) : ∀ st, pushS st p = p :: popS st p
  | [] => rfl
  | [_] => rfl
  | b :: a :: r => by
    unfold pushS popS
    split
    · exact push_pop p (a :: r)
    · rfl
theorem popS_sub (p : Int × Int) : ∀ st q, q ∈ popS st p → q ∈ st
  | [], q, h => h
  | [_], q, h => h
  | b :: a :: r, q, h => by
    unfold popS at h
    split at h
    · exact List.mem_cons_of_mem _ (popS_sub p (a :: r) q h)
    · exact h
theorem popS_two {p a b : Int × Int} {r : List (Int × Int)} : popS (b :: a :: r) p = if cross a b p ≤ 0 then popS (a :: r) p else b :: a :: r := rfl
theorem popS_len (p : Int × Int) : ∀ st, (popS st p).length ≤ st.length
  | [] => Nat.le_refl _
  | [_] => Nat.le_refl _
  | b :: a :: r => by
    unfold popS
    split
    · exact Nat.le_succ_of_le (popS_len p (a :: r))
    · exact Nat.le_refl _
theorem chainR_len : ∀ (l : List (Int × Int)), (chainR l).length ≤ l.length := fun l => by
  have key : ∀ (l st : List (Int × Int)), (l.foldl pushS st).length ≤ st.length + l.length := by
    intro l
    induction l with
    | nil => intro st; simp
    | cons a l ih =>
      intro st
      have := ih (pushS st a)
      have h2 := popS_len a st
      rw [push_pop] at this
      simp only [List.foldl_cons, List.length_cons] at this ⊢
      rw [push_pop]; omega
  have := key l []
  simpa [chainR] using this
theorem chainR_mem {l : List (Int × Int)} : ∀ q ∈ chainR l, q ∈ l := fun q h => by
  have key : ∀ (l st : List (Int × Int)), ∀ q ∈ l.foldl pushS st, q ∈ l ∨ q ∈ st := by
    intro l
    induction l with
    | nil => intro st q h; exact Or.inr h
    | cons a l ih =>
      intro st q h
      rcases ih _ q h with h | h
      · exact Or.inl (List.mem_cons_of_mem _ h)
      · rw [push_pop] at h
        rcases List.mem_cons.1 h with rfl | h
        · exact Or.inl (List.mem_cons_self ..)
        · exact Or.inr (popS_sub a st q h)
  rcases key l [] q h with h | h
  · exact h
  · simp at h
theorem chain_take {l : List (Int × Int)} {i : Nat} {p : Int × Int} (h : l[i]? = some p) : chainR (l.take (i + 1)) = p :: popS (chainR (l.take i)) p := by
  rw [List.take_add_one, h]
  show chainR (l.take i ++ [p]) = _
  rw [Go.Geo.chainR_snoc, push_pop]
def outZ (out z : List (Int × Int)) (b : Nat) : List (Nat × List V) := if out.isEmpty then [] else [(b, cellsI (out ++ z))]
@[simp] theorem outZ_nil (z : List (Int × Int)) (b : Nat) : outZ [] z b = [] := rfl
theorem outZ_snoc (l z : List (Int × Int)) (p : Int × Int) (b : Nat) : outZ (l ++ [p]) z b = [(b, cellsI (l ++ [p] ++ z))] := by simp [outZ]
theorem cells_take (l z : List (Int × Int)) : List.take (l.length * 2) (List.map V.d (spD (l ++ z))) = List.map V.d (spD l) := by
  rw [← List.map_take, spD_take, List.take_left]
theorem spD_one (p : Int × Int) (l : List (Int × Int)) : List.map V.d (spD (l ++ [p])) = List.map V.d (spD l) ++ [vi p.1, vi p.2] := by rw [spD_snoc]; simp
end Go.Proofs.Try
namespace Go.Proofs.Try
open Go.Psl
open Go.Geo (cross pushS chainR)
theorem out_cases (O : List (Int × Int)) : O = [] ∨ ∃ o x, O = o ++ [x] := by
  rcases List.eq_nil_or_concat O with rfl | ⟨o, x, rfl⟩
  · exact Or.inl rfl
  · exact Or.inr ⟨o, x, List.concat_eq_append⟩
theorem hdrV_ne {O : List (Int × Int)} (h : O ≠ []) (b : Nat) : hdrV O b = .ls b 0 O.length 2 := by
  obtain rfl | ⟨o, x, rfl⟩ := out_cases O
  · exact absurd rfl h
  · simp
theorem outZ_ne {O z : List (Int × Int)} (h : O ≠ []) (b : Nat) : outZ O z b = [(b, cellsI (O ++ z))] := by
  obtain rfl | ⟨o, x, rfl⟩ := out_cases O
  · exact absurd rfl h
  · exact outZ_snoc o z x b
theorem outZ_ids (O z : List (Int × Int)) (b n : Nat) (h : b < n) : HpIds n (outZ O z b) := by
  obtain rfl | ⟨o, x, rfl⟩ := out_cases O
  · trivial
  · rw [outZ_snoc]
    simp [h]
theorem hdrV_A (O : List (Int × Int)) (b n : Nat) (h : b < n) : AC (· < n) anyD (hdrV O b) := by
  obtain rfl | ⟨o, x, rfl⟩ := out_cases O
  · simp
  · simp [h]
theorem lenF_hdr {Γ : Tys} {t : TypeId} {O : List (Int × Int)} {b : Nat} : lenF Γ t (hdrV O b) = (Γ t).bind fun y => match y.sh with | .slice _ => some (.d (.lit (.int .i64 O.length)), .none) | _ => none := by
  obtain rfl | ⟨o, x, rfl⟩ := out_cases O
  · exact lenF_nil
  · rw [hdrV_snoc, lenF_ls]; congr; funext y; cases y.sh <;> simp
theorem turn_cross (a b p : Int × Int) : turnS (subC a b) (subC b p) = cross a b p := (Go.Geo.cross_xp2 a b p).symm
theorem chain_two {l : List (Int × Int)} (h2 : 2 ≤ l.length) : ∃ top rest, chainR l = top :: rest ∧ rest ≠ [] := by
  rcases List.eq_nil_or_concat l with rfl | ⟨l', p, rfl⟩
  · simp at h2
  · rw [List.concat_eq_append, Go.Geo.chainR_snoc]
    obtain ⟨r, e, _, e2, _⟩ := Go.Geo.pushS_head p (chainR l')
    refine ⟨p, r, e, fun hr => ?_⟩
    have hne : chainR l' ≠ [] := by
      cases l' with
      | nil => simp at h2
      | cons x l' =>
        rcases List.eq_nil_or_concat (x :: l') with h | ⟨m, y, h⟩
        · simp at h
        · rw [h, List.concat_eq_append, Go.Geo.chainR_snoc, push_pop]; simp
    exact (e2 hne).1 hr
set_option maxRecDepth 20000 in
theorem fn130 (B z l zl : List (Int × Int)) (hB : B.length ≤ 100000) (hl : l.length ≤ 100000) (hbd : ∀ q ∈ l, bd 536870912 q) (h2 : 2 ≤ l.length) :
    ∃ z', Cm prog 130 [.lp 0 0, .lp 1 0] (lk ((0, [hdrV B 3]) :: (1, [.ls 2 0 l.length 2]) :: (2, cellsI (l ++ zl)) :: outZ B z 3)) [0, 1, 2] (.ret (.tup []))
      (lk ((0, [hdrV (B ++ (chainR l).tail.reverse) 4]) :: (1, [.ls 2 0 l.length 2]) :: (2, cellsI (l ++ zl)) :: outZ (B ++ (chainR l).tail.reverse) z' 4)) := by
  obtain ⟨top, rest, hch, hrest⟩ := chain_two h2
  refine ⟨[top], ?_⟩
  rw [hch, List.tail_cons]
  have hrr : rest.reverse ≠ [] := by simp [hrest]
  have hR : B ++ rest.reverse ≠ [] := by simp [hrest]
  rw [hdrV_ne hR, outZ_ne hR]
  refine Cm.by gok eok mixed 4 func130 c130 rfl (by simp [ntmps130]) (by simp) (HpIds.at ?_) (by simp) ?_ fun E hE hs => ?_
  · refine ⟨by show 0 < 4; omega, fun c hc => ?_, by show 1 < 4; omega, fun c hc => ?_, by show 2 < 4; omega, fun c hc => ?_, outZ_ids _ _ _ _ (by omega)⟩
    · simp at hc; subst hc; exact hdrV_A B 3 4 (by omega)
    · simp at hc; subst hc; simp
    · exact ac_data c hc
  · simp [ResIds]
  have hst0 : chainR (l.take 0) = [] := by simp [chainR]
  have hcl := fun i => chainR_len (l.take i)
  have hcm : ∀ i, ∀ q ∈ chainR (l.take i), bd 536870912 q := fun i q hq => hbd q (List.mem_of_mem_take (chainR_mem q hq))
  obtain ⟨dl, hdl⟩ : ∃ dl, spD (l ++ zl) = dl := ⟨_, rfl⟩
  have hdl' : cellsI (l ++ zl) = dl.map V.d := by rw [← hdl]
  have hlat : ∀ i p, l[i]? = some p → List.take 2 (List.drop (i * 2) (dl.map V.d)) = [vi p.1, vi p.2] := fun i p h => by
    rw [← hdl]; exact cells_at (by rw [List.getElem?_append_left (List.getElem?_eq_some_iff.1 h).1]; exact h)
  have hlcl : l.length * 2 ≤ dl.length := by rw [← hdl]; simp; omega
  rw [hdl']
  simp [p130, lenF_hdr]
  refine pw_loop (α := Nat × List (Int × Int)) (fun x => ⟨slots [(0, .lp 0 0), (1, .lp 1 0), (2, vi B.length), (7, .ls 2 0 l.length 2), (8, vi l.length), (9, vi x.1)], lk ((0, [hdrV (B ++ (chainR (l.take x.1)).reverse) 3]) :: (1, [.ls 2 0 l.length 2]) :: (2, dl.map .d) :: outZ (B ++ (chainR (l.take x.1)).reverse) x.2 3), 4⟩)
    (fun x => x.1 ≤ l.length ∧ (x.1 = l.length → x.2 = [])) (fun x => l.length - x.1) (0, z) ?_ ?_ ?_
  · exact ⟨by omega, fun h => by simp only at h; omega⟩
  · simp only [hst0, List.reverse_nil, List.append_nil]
    obtain rfl | ⟨b0, x0, rfl⟩ := out_cases B
    · refine Weak.mkM hE (lk [(0, 0), (1, 1), (2, 2)]) _ _ _ ?_ ?_ ?_ ?_ ?_ ?_ <;> simp
    · rw [outZ_snoc]
      refine Weak.mkM hE (lk [(0, 0), (1, 1), (2, 2), (3, 3)]) _ _ _ ?_ ?_ ?_ ?_ ?_ ?_ <;> simp
  rintro ⟨i, z⟩ ⟨hi, hz⟩
  simp only at hi hz
  simp [p130l1]
  refine cR_split (fun h => ?_) (fun h => ?_)
  · simp at h
    obtain ⟨p, hp⟩ : ∃ p, l[i]? = some p := ⟨l[i], by simp [h]⟩
    have hpm := hbd p (List.mem_of_getElem? hp)
    have cp := hlat i p hp
    have q1 : i * 2 + 2 ≤ dl.length := by omega
    have w1 : IntKind.wrap .i64 ((i : Int) + 1) = ((i + 1 : Nat) : Int) := by rw [wrap64 (by omega) (by omega)]; omega
    have hct := chain_take hp
    have hci := hcl i
    have hcmi := hcm i
    have wB : IntKind.wrap .i64 ((B.length : Int) + 1) = (B.length : Int) + 1 := wrap64 (by omega) (by omega)
    obtain ⟨st0, hst⟩ : ∃ st0, chainR (l.take i) = st0 := ⟨_, rfl⟩
    rw [hst] at hct hci hcmi ⊢
    have hl0 : st0.length ≤ 100000 := by simp at hci; omega
    simp [h, cp, q1, splice]
    refine pw_loopC (α := List (Int × Int) × List (Int × Int)) 2 (fun z : List (Int × Int) => ⟨slots [(0, .lp 0 0), (1, .lp 1 0), (2, vi B.length), (4, .lp 4 0), (7, .ls 2 0 l.length 2), (8, vi l.length), (9, vi i)], lk ((0, [hdrV (B ++ (popS st0 p).reverse) 3]) :: (1, [.ls 2 0 l.length 2]) :: (2, dl.map .d) :: (4, [vi p.1, vi p.2]) :: outZ (B ++ (popS st0 p).reverse) z 3), 5⟩) (fun _ => True)
      (fun x => ⟨slots [(0, .lp 0 0), (1, .lp 1 0), (2, vi B.length), (4, .lp 4 0), (7, .ls 2 0 l.length 2), (8, vi l.length), (9, vi i)], lk ((0, [hdrV (B ++ x.1.reverse) 3]) :: (1, [.ls 2 0 l.length 2]) :: (2, dl.map .d) :: (4, [vi p.1, vi p.2]) :: outZ (B ++ x.1.reverse) x.2 3), 5⟩)
      (fun x => popS x.1 p = popS st0 p ∧ x.1.length ≤ 100000 ∧ ∀ q ∈ x.1, bd 536870912 q) (fun x => x.1.length) (st0, z) ?_ ?_ ?_ fun zz _ => ?_
    · exact ⟨rfl, hl0, hcmi⟩
    · obtain e | ⟨b0, x0, e⟩ := out_cases (B ++ st0.reverse) <;> rw [e]
      · refine Weak.mkM hE (lk [(0, 0), (1, 1), (2, 2), (4, 3145732)]) _ _ _ ?_ ?_ ?_ ?_ ?_ ?_ <;> simp
      · rw [outZ_snoc]
        refine Weak.mkM hE (lk [(0, 0), (1, 1), (2, 2), (3, 3), (4, 3145732)]) _ _ _ ?_ ?_ ?_ ?_ ?_ ?_ <;> simp
    · rintro ⟨st, z⟩ ⟨hpop, hlen, hm⟩
      simp only at hpop hlen hm
      by_cases h2s : st.length < 2
      · have hps : popS st0 p = st := by
          rw [← hpop]
          match st, h2s with
          | [], _ => rfl
          | [_], _ => rfl
          | _ :: _ :: _, h => simp at h; omega
        rw [hps]
        obtain ⟨O, hO⟩ : ∃ O, B ++ st.reverse = O := ⟨_, rfl⟩
        have hOl : O.length = B.length + st.length := by rw [← hO]; simp
        rw [hO]
        have hlt : ¬ ((B.length : Int) + 1 < (O.length : Int)) := by omega
        simp [p130l0, lenF_hdr, wB, hlt, inC, Nat.testBit]
        refine ⟨z, ?_⟩
        obtain rfl | ⟨b0, x0, rfl⟩ := out_cases O
        · refine Weak.mkM hE (lk [(0, 0), (1, 1), (2, 2), (4, 4)]) _ _ _ ?_ ?_ ?_ ?_ ?_ ?_ <;> simp
        · rw [outZ_snoc]
          refine Weak.mkM hE (lk [(0, 0), (1, 1), (2, 2), (3, 3), (4, 4)]) _ _ _ ?_ ?_ ?_ ?_ ?_ ?_ <;> simp
      · obtain ⟨b, a, r, rfl⟩ : ∃ b a r, st = b :: a :: r := by
          match st, h2s with
          | b :: a :: r, _ => exact ⟨b, a, r, rfl⟩
          | [], h => simp at h
          | [_], h => simp at h
        have ba := hm a (by simp)
        have bb := hm b (by simp)
        obtain ⟨m, hmm⟩ : ∃ m, m = B.length + r.length := ⟨_, rfl⟩
        obtain ⟨m1, hm1⟩ : ∃ m1, m1 = m + 1 := ⟨_, rfl⟩
        obtain ⟨O, hO⟩ : ∃ O, B ++ (b :: a :: r).reverse = O := ⟨_, rfl⟩
        have hO2 : O = B ++ r.reverse ++ [a] ++ [b] := by rw [← hO]; simp
        have hO3 : B ++ (a :: r).reverse = B ++ r.reverse ++ [a] := by simp
        obtain ⟨N, hN⟩ : ∃ N, O.length = N := ⟨_, rfl⟩
        have hNm : N = m + 2 := by rw [← hN, hO2, hmm]; simp; omega
        have hOne : O ≠ [] := by rw [hO2]; simp
        have ha' : (O ++ z)[m]? = some a := by
          rw [hO2, hmm]; simp only [List.append_assoc]
          rw [List.getElem?_append_right (by omega), List.getElem?_append_right (by simp), List.length_reverse, show B.length + r.length - B.length - r.length = 0 by omega]; rfl
        have hb' : (O ++ z)[m1]? = some b := by
          rw [hO2, hm1, hmm]; simp only [List.append_assoc]
          rw [List.getElem?_append_right (by omega), List.getElem?_append_right (by simp; omega), List.length_reverse, show B.length + r.length + 1 - B.length - r.length = 1 by omega]; rfl
        have ca := cells_at ha'
        have cb := cells_at hb'
        obtain ⟨ds, hds⟩ : ∃ ds, spD (O ++ z) = ds := ⟨_, rfl⟩
        have hdsl : N * 2 ≤ ds.length := by rw [← hds, spD_len, List.length_append, hN]; omega
        rw [hds] at ca cb
        rw [hO, hdrV_ne hOne, outZ_ne hOne, hN, show cellsI (O ++ z) = ds.map V.d by rw [← hds]]
        have w2 : IntKind.wrap .i64 ((N : Int) - 2) = (m : Int) := by simp at hlen; rw [wrap64 (by omega) (by omega)]; omega
        have w3 : IntKind.wrap .i64 ((N : Int) - 1) = (m1 : Int) := by simp at hlen; rw [wrap64 (by omega) (by omega)]; omega
        have hlt : (B.length : Int) + 1 < (N : Int) := by omega
        have l1 : m < N := by omega
        have l2 : m1 < N := by omega
        have l3 : m * 2 + 2 ≤ ds.length := by omega
        have l4 : m1 * 2 + 2 ≤ ds.length := by omega
        have l5 : m1 ≤ N := by omega
        have e1 := bd_sub (N := 1073741824) ba bb (by omega)
        have e2 := bd_sub (N := 1073741824) bb hpm (by omega)
        have big : ∀ q, bd 536870912 q → bd 1152921504606846976 q := fun q h => by unfold bd at *; omega
        have big2 : ∀ q, bd 1073741824 q → bd 2000000000 q := fun q h => by unfold bd at *; omega
        simp [p130l0, wB, hlt, inC, Nat.testBit, w2, w3, l1, l2, l3, l4, ca, cb]
        refine ACall.mk _ _ _ (fn110 a b (big _ ba) (big _ bb)) (by first | (simp; done) | simp [Bor_ls, Bor1_ls]) (by simp) (by first | (left; simp; done) | (right; simp; done)) ?_
        simp [inC, Nat.testBit, w3, l2, l4, cb]
        refine ACall.mk _ _ _ (fn110 b p (big _ bb) (big _ hpm)) (by first | (simp; done) | simp [Bor_ls, Bor1_ls]) (by simp) (by first | (left; simp; done) | (right; simp; done)) ?_
        simp
        refine ACall.mk _ _ _ (fn131 (subC a b) (subC b p) (big2 _ e1) (big2 _ e2)) (by first | (simp; done) | simp [Bor_ls, Bor1_ls]) (by simp) (by first | (left; simp; done) | (right; simp; done)) ?_
        rw [turn_cross]
        by_cases hc : cross a b p ≤ 0
        · simp [hc, w3, l5, splice]
          refine ⟨a :: r, ⟨by rw [← hpop, popS_two, if_pos hc], by simp at hlen ⊢; omega, fun q1 q2 hq => hm (q1, q2) (List.mem_cons_of_mem _ hq)⟩, by simp, [b] ++ z, ?_⟩
          rw [hO3, hdrV_snoc, outZ_snoc, show cellsI (B ++ r.reverse ++ [a] ++ ([b] ++ z)) = ds.map V.d by rw [← hds, hO2]; simp]
          refine Weak.mkM hE (lk [(0, 0), (1, 1), (2, 2), (3, 3), (4, 4)]) _ _ _ ?_ ?_ ?_ ?_ ?_ ?_ <;> simp
          omega
        · have hps : popS st0 p = b :: a :: r := by rw [← hpop, popS_two, if_neg hc]
          rw [hps, hO, hdrV_ne hOne, hN]
          simp [hc]
          refine ⟨z, ?_⟩
          rw [outZ_ne hOne, show cellsI (O ++ z) = ds.map V.d by rw [← hds]]
          refine Weak.mkM hE (lk [(0, 0), (1, 1), (2, 2), (3, 3), (4, 4)]) _ _ _ ?_ ?_ ?_ ?_ ?_ ?_ <;> simp
    · have hpl := popS_len p st0
      obtain ⟨O, hO⟩ : ∃ O, B ++ (popS st0 p).reverse = O := ⟨_, rfl⟩
      have hOl : O.length ≤ 200000 := by rw [← hO]; simp; omega
      have hnx : B ++ (chainR (l.take (i + 1))).reverse = O ++ [p] := by rw [hct, ← hO]; simp
      rw [hO]
      have fin : cellsI (O ++ [p]) = (spD O).map V.d ++ [vi p.1, vi p.2] := spD_one p O
      obtain rfl | ⟨o, x, rfl⟩ := out_cases O
      · simp [repl, splice, w1]
        refine ⟨i + 1, [], ⟨by omega, fun _ => rfl⟩, by omega, ?_⟩
        rw [hnx, hdrV_snoc, outZ_snoc, List.append_nil, fin]
        refine Weak.mkM hE (lk [(0, 0), (1, 1), (2, 2), (3, 3145733)]) _ _ _ ?_ ?_ ?_ ?_ ?_ ?_ <;> simp
      · have htk := cells_take (o ++ [x]) zz
        have hdl3 := spD_len (o ++ [x] ++ zz)
        have hOne : o ++ [x] ≠ [] := by simp
        obtain ⟨N, hN⟩ : ∃ N, (o ++ [x]).length = N := ⟨_, rfl⟩
        have hdo := spD_len (o ++ [x])
        rw [List.length_append, hN] at hdl3
        rw [hN] at htk hOl hdo
        rw [hdrV_ne hOne, outZ_ne hOne, hN]
        have hcc : cellsI (o ++ [x] ++ zz) = List.map V.d (spD (o ++ [x] ++ zz)) := rfl
        rw [hcc]
        generalize spD (o ++ [x] ++ zz) = ds at htk hdl3 ⊢
        generalize spD (o ++ [x]) = eo at fin htk hdo
        have hfit : N * 2 ≤ ds.length ∧ (N + 1) * 16 ≤ 140737488355328 ∧ N + 1 ≤ 9223372036854775807 := by omega
        simp [repl, splice, w1, hfit, htk]
        refine ⟨i + 1, [], ⟨by omega, fun _ => rfl⟩, by omega, ?_⟩
        rw [hnx, hdrV_snoc, outZ_snoc, List.append_nil, fin, hN]
        refine Weak.mkM hE (lk [(0, 0), (1, 1), (2, 2), (3, 3145733)]) _ _ _ ?_ ?_ ?_ ?_ ?_ ?_ <;> simp
        rintro c (⟨a, _, rfl⟩ | rfl | rfl) <;> simp
  · simp at h
    have hil : i = l.length := by omega
    subst hil
    rw [hz rfl, List.take_length, hch, List.reverse_cons, ← List.append_assoc, hdrV_snoc, outZ_snoc]
    obtain ⟨O, hO⟩ : ∃ O, B ++ rest.reverse = O := ⟨_, rfl⟩
    rw [hO]
    try rw [hO] at hR
    have hOl : O.length ≤ 1000000 := by
      have := hcl l.length
      rw [List.take_length, hch] at this
      rw [← hO]; simp at this ⊢; omega
    have w2 : IntKind.wrap .i64 (O.length : Int) = (O.length : Int) := wrap64 (by omega) (by omega)
    have hOr : O.length = B.length + rest.length := by rw [← hO]; simp
    have hOn : (O.length : Int) ≤ (O.length : Int) + 1 := by omega
    have hOm : O.length ≤ O.length + 1 := by omega
    have hcO := spD_one top O
    rw [List.append_nil, show cellsI (O ++ [top]) = (spD O).map V.d ++ [vi top.1, vi top.2] from hcO]
    simp [w2, hOn, splice]
    refine RetOk.by (lk [(0, 0), (1, 1), (2, 2), (4, 3)]) ?_
    simp [results130]
    exact hOr
end Go.Proofs.Try
namespace Go.Proofs.Try
open Go.Psl
open Go.Geo (cross pushS chainR hullS)
def sortC (l : List (Int × Int)) : List (Int × Int) := l.mergeSort fun x y => !decide (orderS y x < 0)
def hullP (l : List (Int × Int)) : List (Int × Int) := hullS (ddC (sortC l))
theorem sortC_len (l : List (Int × Int)) : (sortC l).length = l.length := List.length_mergeSort _
theorem sortC_mem (l : List (Int × Int)) (p : Int × Int) : p ∈ sortC l ↔ p ∈ l := (List.mergeSort_perm l _).mem_iff
theorem ddC_mem {p : Int × Int} : ∀ l : List (Int × Int), p ∈ ddC l ↔ p ∈ l := by
  have key : ∀ (l d : List (Int × Int)), p ∈ l.foldl ddStep d ↔ p ∈ d ∨ p ∈ l := by
    intro l
    induction l with
    | nil => intro d; simp
    | cons a l ih =>
      intro d
      rw [List.foldl_cons, ih]
      unfold ddStep
      by_cases h : d.getLast? = some a
      · rw [if_pos h]
        have := List.mem_of_getLast? h
        simp only [List.mem_cons]
        constructor
        · rintro (h | h); exact Or.inl h; exact Or.inr (Or.inr h)
        · rintro (h | rfl | h); exact Or.inl h; exact Or.inl this; exact Or.inr h
      · rw [if_neg h]
        simp only [List.mem_append, List.mem_cons, List.not_mem_nil, or_false]
        constructor
        · rintro ((h | h) | h); exact Or.inl h; exact Or.inr (Or.inl h); exact Or.inr (Or.inr h)
        · rintro (h | h | h); exact Or.inl (Or.inl h); exact Or.inl (Or.inr h); exact Or.inr h
  intro l
  have := key l []
  simp only [List.not_mem_nil, false_or] at this
  exact this
theorem fn93 (hsort : ∀ l : List (Int × Int), 0 < l.length → l.length ≤ 100000 → Cm prog 127 [.ls 0 0 l.length 2, .d (.fn 128 [])] (lk [(0, cellsI l)]) [0] (.ret (.tup [])) (lk [(0, cellsI (sortC l))]))
    (l : List (Int × Int)) (h1 : 0 < l.length) (hl : l.length ≤ 100000) (hbd : ∀ q ∈ l, bd 536870912 q) : ∃ z, Ct prog 93 [.d (spansD l)] (.ls 0 0 (hullP l).length 2) [(0, cellsI (hullP l ++ z))] := by
  have hne : l ≠ [] := by intro h; rw [h] at h1; simp at h1
  obtain ⟨L, hL⟩ : ∃ L, ddC (sortC l) = L := ⟨_, rfl⟩
  have hLm : ∀ q ∈ L, bd 536870912 q := fun q hq => hbd q (by rw [← hL, ddC_mem, sortC_mem] at hq; exact hq)
  have hLl : L.length ≤ l.length := by
    have := dd_len (sortC l) l.length
    rw [List.take_of_length_le (by rw [sortC_len]; omega), hL] at this
    exact this
  have c1 := fn126 l (by omega) hne
  have c2 := hsort l h1 hl
  have c3 := fn129 (sortC l) (by rw [sortC_len]; omega)
  rw [sortC_len, hL] at c3
  obtain ⟨zl, hzl⟩ : ∃ zl, List.replicate (l.length - L.length) ((0 : Int), (0 : Int)) = zl := ⟨_, rfl⟩
  rw [hzl] at c3
  unfold hullP
  rw [hL]
  have hLpos : 0 < L.length := by
    obtain ⟨p, hp⟩ := List.exists_mem_of_length_pos h1
    have : p ∈ L := by rw [← hL, ddC_mem, sortC_mem]; exact hp
    exact List.length_pos_of_mem this
  have n1 : spD l ≠ [] := by intro h; have := congrArg List.length h; simp at this; omega
  have n2 : spD (sortC l) ≠ [] := by intro h; have := congrArg List.length h; rw [spD_len, sortC_len] at this; simp at this; omega
  have n3 : ∀ z, spD (L ++ z) ≠ [] := by intro z h; have := congrArg List.length h; simp at this; omega
  have d2 := c2.rename (fun _ => 2097152) 1 (by omega) (by simp) (by simp) (by simp)
  have d3 := c3.rename (fun _ => 2097152) 1 (by omega) (by simp) (by simp) (by simp)
  simp [renL, renR] at d2 d3
  by_cases h3 : L.length < 3
  · refine ⟨zl, ?_⟩
    have e : hullS L = L := by unfold hullS; rw [if_pos h3]
    have h3' : (L.length : Int) < 3 := by omega
    rw [e]
    refine Ct.by gok eok mixed func93 c93 rfl (by simp [ntmps93]) (by simp) (by simp [ResIds]) fun E hE => ?_
    simp [p93]
    refine ACall.mk _ _ _ (c1) (by first | (simp; done) | simp [Bor_ls, Bor1_ls]) (by simp) (by first | (left; simp; done) | (right; simp; done)) ?_
    simp [splice]
    refine ACall.mkR _ _ _ _ _ (d2) (by simp) (by simp) (by simp [n1]) (by simp) (by first | (left; simp; done) | (right; simp [n1]; done)) ?_
    simp
    refine ACall.mkR _ _ _ _ _ (d3) (by simp) (by simp) (by simp [n2]) (by simp) (by first | (left; simp; done) | (right; simp [n2]; done)) ?_
    simp [splice, h3']
    refine RetOk.by (lk [(0, 2097152)]) ?_
    simp [results93]
  · have h3' : ¬ (L.length : Int) < 3 := by omega
    obtain ⟨z1, c4⟩ := fn130 [] [] L zl (by simp) (by omega) hLm (by omega)
    have c5 := fn132 L zl (by omega)
    obtain ⟨lo, hlo⟩ : ∃ lo, (chainR L).tail.reverse = lo := ⟨_, rfl⟩
    have hlol : lo.length ≤ 100000 := by
      have := chainR_len L
      rw [← hlo]; simp; omega
    obtain ⟨z2, c6⟩ := fn130 lo z1 L.reverse zl (by omega) (by rw [List.length_reverse]; omega) (fun q hq => hLm q (List.mem_reverse.1 hq)) (by rw [List.length_reverse]; omega)
    have e : hullS L = lo ++ (chainR L.reverse).tail.reverse := by unfold hullS; rw [if_neg h3, hlo]
    rw [← e] at c6
    rw [hlo, List.nil_append] at c4
    have hlone : lo ≠ [] := by
      obtain ⟨top, rest, h, hr⟩ := chain_two (l := L) (by omega)
      rw [← hlo, h]; simpa using hr
    have hRne : hullS L ≠ [] := by rw [e]; simp [hlone]
    rw [hdrV_ne hlone, outZ_ne hlone] at c4 c6
    rw [hdrV_ne hRne, outZ_ne hRne, List.length_reverse] at c6
    have n4 : ∀ z, spD (L.reverse ++ z) ≠ [] := by intro z h; have := congrArg List.length h; simp at this; omega
    have n5 : ∀ z, spD (lo ++ z) ≠ [] := by intro z h; have := congrArg List.length h; have h8 := List.length_pos_iff.2 hlone; simp only [spD_len, List.length_append, List.length_nil] at this; omega
    refine ⟨z2, ?_⟩
    refine Ct.by gok eok mixed func93 c93 rfl (by simp [ntmps93]) (by simp) (by simp [ResIds]) fun E hE => ?_
    simp [p93]
    refine ACall.mk _ _ _ (c1) (by first | (simp; done) | simp [Bor_ls, Bor1_ls]) (by simp) (by first | (left; simp; done) | (right; simp; done)) ?_
    simp [splice]
    refine ACall.mkR _ _ _ _ _ (d2) (by simp) (by simp) (by simp [n1]) (by simp) (by first | (left; simp; done) | (right; simp [n1]; done)) ?_
    simp
    refine ACall.mkR _ _ _ _ _ (d3) (by simp) (by simp) (by simp [n2]) (by simp) (by first | (left; simp; done) | (right; simp [n2]; done)) ?_
    have d4 := c4.rename (fun i => if i = 0 then 13631488 else if i = 1 then 3145728 else if i = 2 then 2097152 else i) 5 (by intro i j hi hj h; (repeat' split at h) <;> omega) (by simp) (by simp) (by simp)
    have d5 := c5.rename (fun _ => 2097152) 1 (by omega) (by simp) (by simp) (by simp)
    have d6 := c6.rename (fun i => if i = 0 then 13631488 else if i = 1 then 3145728 else if i = 2 then 2097152 else if i = 3 then 17825796 else i) 5 (by intro i j hi hj h; (repeat' split at h) <;> omega) (by simp) (by simp) (by simp)
    simp [renL, renR] at d4 d5 d6
    simp [splice, h3']
    refine ACall.mkR _ _ _ _ _ (d4) (by simp) (by simp) (by simp [n3]) (by simp) (by first | (left; simp; done) | (right; simp [n3]; done)) ?_
    simp
    refine ACall.mkR _ _ _ _ _ (d5) (by simp) (by simp) (by simp [n3]) (by simp) (by first | (left; simp; done) | (right; simp [n3]; done)) ?_
    simp
    refine ACall.mkR _ _ _ _ _ (d6) (by simp) (by simp) (by simp [n4]) (by simp) (by first | (left; simp; done) | (right; simp [n4, n5]; done)) ?_
    simp
    refine RetOk.by (lk [(0, 22020100)]) ?_
    simp [results93]
end Go.Proofs.Try
namespace Go.Proofs.Try
open Go.Psl
def pickM (may : Bool) (v : Int × Int) : Int × Int := if may then (v.2, v.1) else (v.1, v.2)
end Go.Proofs.Try
namespace Go.Proofs.Try
open Go.Psl
theorem fn28 (l m : List (Int × Int)) (hl : l.length ≤ 1000000) (_ : m.length ≤ 1000000) : Ct prog 28 [.d (spansD l), .d (spansD m)] (vb (decide (l = m))) [] := by
  refine Ct.by gok eok mixed func28 c28 rfl (by simp [ntmps28]) (by simp) (by simp [ResIds]) fun E hE => ?_
  by_cases hlen : l.length = m.length
  case neg =>
    have hn : ¬ (l.length : Int) = m.length := by omega
    have hne : ¬ l = m := fun h => hlen (by rw [h])
    simp [p28, hn]
    refine RetOk.by (fun _ => none) ?_
    simp [results28, hne]
  simp [p28, hlen]
  refine pw_loop (α := Nat) (fun i => ⟨slots [(0, .d (spansD l)), (1, .d (spansD m)), (5, vi i)], lk [], 0⟩) (fun i => i ≤ l.length ∧ l.take i = m.take i) (fun i => l.length - i) 0 ?_ ?_ ?_
  · simp
  · refine Weak.mk hE (lk []) _ _ _ ?_ ?_ ?_ ?_ ?_ <;> simp
  · rintro i ⟨hi, hg⟩
    have hz : IntKind.wrap .i64 ((i : Int) + 1) = ((i : Int) + 1) := wrap64 (by omega) (by omega)
    simp [p28l0]
    refine cR_split (fun h => ?_) (fun h => ?_)
    · simp at h
      have hil : i < l.length := by omega
      obtain ⟨a, ha⟩ : ∃ a, l[i]? = some a := ⟨l[i], by simp [hil]⟩
      obtain ⟨b, hb⟩ : ∃ b, m[i]? = some b := ⟨m[i], by simp [show i < m.length by omega]⟩
      by_cases h1 : a.1 = b.1 ∧ a.2 = b.2
      · have hab : a = b := by ext; exact h1.1; exact h1.2
        simp [ha, hb, h1, hz]
        refine ⟨i + 1, ⟨by omega, by simp [List.take_add_one, hg, ha, hb, hab]⟩, by omega, ?_⟩
        refine Weak.mk hE (lk []) _ _ _ ?_ ?_ ?_ ?_ ?_ <;> simp
      · have hne : ¬ l = m := fun h => by
          rw [h, hb] at ha
          cases ha
          exact h1 ⟨rfl, rfl⟩
        have hd : (!decide (a.1 = b.1) || !decide (a.2 = b.2)) = true := by simp; omega
        simp [ha, hb, hd]
        refine RetOk.by (fun _ => none) ?_
        simp [results28, hne]
    · simp at h
      have hil : i = l.length := by omega
      have hlm : l = m := by rw [hil, List.take_length, hlen, List.take_length] at hg; exact hg
      simp
      refine RetOk.by (fun _ => none) ?_
      simp [results28, hlm]
end Go.Proofs.Try
namespace Go.Proofs.Try
open Go.Psl
open Go.Geo (cross pushS chainR hullS)
def SortOk : Prop := ∀ l : List (Int × Int), 0 < l.length → l.length ≤ 100000 → Cm prog 127 [.ls 0 0 l.length 2, .d (.fn 128 [])] (lk [(0, cellsI l)]) [0] (.ret (.tup [])) (lk [(0, cellsI (sortC l))])
def regS (r : List (Int × Int)) : Bool := decide (1 ≤ r.length) && decide (r.length ≤ 64) && nearC r && decide (hullP r = r)
theorem near_bd {l : List (Int × Int)} (h : nearC l = true) : ∀ q ∈ l, bd 536870912 q := fun q hq => by
  have := okC_iff.1 (List.all_eq_true.1 h q hq)
  unfold bd at *; omega
theorem near_bd2 {l : List (Int × Int)} (h : nearC l = true) : ∀ q ∈ l, bd 268435456 q := fun q hq => okC_iff.1 (List.all_eq_true.1 h q hq)
theorem hullP_len (l : List (Int × Int)) : (hullP l).length ≤ 2 * l.length := by
  have h1 : (ddC (sortC l)).length ≤ l.length := by
    have := dd_len (sortC l) l.length
    rw [List.take_of_length_le (by rw [sortC_len]; omega)] at this
    exact this
  unfold hullP hullS
  split
  · omega
  · have h2 := chainR_len (ddC (sortC l))
    have h3 := chainR_len (ddC (sortC l)).reverse
    simp at h3 ⊢; omega
theorem bor_cut {H : Hp} {id : Nat} {l z : List (Int × Int)} (h : H id = some (cellsI (l ++ z))) : Bor H (.ls id 0 l.length 2) (.d (spansD l)) := by
  rw [Bor_ls]
  refine ⟨rfl, by simp, fun e he => ?_, _, h, ?_⟩
  · simp only [List.mem_map] at he
    obtain ⟨k, _, rfl⟩ := he
    rfl
  · rw [sp_flat', List.drop_zero, cells_take]
theorem fn55 (hS : SortOk) (r : List (Int × Int)) (hr : r.length ≤ 1000000000) : Ct prog 55 [.d (spansD r)] (vi (if regS r then 0 else 14)) [] := by
  refine Ct.by gok eok mixed func55 c55 rfl (by simp [ntmps55]) (by simp) (by simp [ResIds]) fun E hE => ?_
  by_cases h1 : r.length < 1
  · have h1' : (r.length : Int) < 1 := by omega
    have e : regS r = false := by unfold regS; rw [decide_eq_false (p := 1 ≤ r.length) (by omega)]; simp
    simp [p55, h1']
    refine RetOk.by (fun _ => none) ?_
    simp [results55, e]
  have h1' : ¬ (r.length : Int) < 1 := by omega
  by_cases h2 : 64 < r.length
  · have h2' : (64 : Int) < r.length := by omega
    have e : regS r = false := by unfold regS; rw [decide_eq_false (p := r.length ≤ 64) (by omega)]; simp
    simp [p55, h1', h2']
    refine RetOk.by (fun _ => none) ?_
    simp [results55, e]
  have h2' : ¬ (64 : Int) < r.length := by omega
  simp [p55, h1', h2']
  refine ACall.mk _ _ _ (fn92 r hr) (by first | (simp; done) | simp [Bor_ls, Bor1_ls]) (by simp) (by first | (left; simp; done) | (right; simp; done)) ?_
  by_cases h3 : nearC r = true
  · simp [h3]
    obtain ⟨z, c⟩ := fn93 hS r (by omega) (by omega) (near_bd h3)
    refine ACall.mk _ _ _ (c) (by first | (simp; done) | simp [Bor_ls, Bor1_ls]) (by simp) (by first | (left; simp; done) | (right; simp; done)) ?_
    simp
    have hpl := hullP_len r
    refine ACall.mk _ _ _ (fn101 (hullP r) r (by omega) (by omega)) (by simp [bor_cut (z := z)]) (by simp) (by first | (left; simp; done) | (right; simp; done)) ?_
    have e : regS r = decide (hullP r = r) := by unfold regS; rw [decide_eq_true (p := 1 ≤ r.length) (by omega), decide_eq_true (p := r.length ≤ 64) (by omega), h3]; rfl
    by_cases h4 : hullP r = r
    · simp [h4]
      refine RetOk.by (fun _ => none) ?_
      simp [results55, e, h4]
    · simp [h4]
      refine RetOk.by (fun _ => none) ?_
      simp [results55, e, h4]
  · simp [h3]
    have e : regS r = false := by unfold regS; simp [h3]
    refine RetOk.by (fun _ => none) ?_
    simp [results55, e]
def hullE (l : List (Int × Int)) : Int := if 64 < l.length then 4 else if l.length < 1 ∨ nearC l = false then 2 else 0
def hullO (l : List (Int × Int)) : List (Int × Int) := if hullE l = 0 then hullP l else []
theorem hullP_ne {l : List (Int × Int)} (h : 0 < l.length) : hullP l ≠ [] := by
  have hLpos : ddC (sortC l) ≠ [] := by
    obtain ⟨p, hp⟩ := List.exists_mem_of_length_pos h
    have : p ∈ ddC (sortC l) := by rw [ddC_mem, sortC_mem]; exact hp
    exact List.ne_nil_of_mem this
  unfold hullP hullS
  split
  · exact hLpos
  · obtain ⟨top, rest, e, hr⟩ := chain_two (l := ddC (sortC l)) (by omega)
    rw [e]; simp [hr]
theorem fn49 (hS : SortOk) (l : List (Int × Int)) (hl : l.length ≤ 1000000000) : ∃ z, Ct prog 49 [.d (spansD l)] (.tup [hdrV (hullO l) 0, vi (hullE l)]) (outZ (hullO l) z 0) := by
  by_cases h1 : 64 < l.length
  · have h1' : (64 : Int) < l.length := by omega
    have e : hullE l = 4 := by unfold hullE; rw [if_pos h1]
    have e2 : hullO l = [] := by unfold hullO; rw [e]; rfl
    refine ⟨[], ?_⟩
    rw [e, e2, hdrV_nil, outZ_nil]
    refine Ct.by gok eok mixed func49 c49 rfl (by simp [ntmps49]) (by simp) (by simp [ResIds]) fun E hE => ?_
    simp [p49, h1']
    refine RetOk.by (fun _ => none) ?_
    simp [results49]
  have h1' : ¬ (64 : Int) < l.length := by omega
  by_cases h2 : l.length < 1
  · have h2' : (l.length : Int) < 1 := by omega
    have e : hullE l = 2 := by unfold hullE; rw [if_neg h1, if_pos (Or.inl h2)]
    have e2 : hullO l = [] := by unfold hullO; rw [e]; rfl
    refine ⟨[], ?_⟩
    rw [e, e2, hdrV_nil, outZ_nil]
    refine Ct.by gok eok mixed func49 c49 rfl (by simp [ntmps49]) (by simp) (by simp [ResIds]) fun E hE => ?_
    simp [p49, h1', h2']
    refine RetOk.by (fun _ => none) ?_
    simp [results49]
  have h2' : ¬ (l.length : Int) < 1 := by omega
  by_cases h3 : nearC l = true
  · have e : hullE l = 0 := by unfold hullE; rw [if_neg h1, if_neg]; rintro (h | h); omega; rw [h] at h3; cases h3
    have e2 : hullO l = hullP l := by unfold hullO; rw [e]; rfl
    obtain ⟨z, c⟩ := fn93 hS l (by omega) (by omega) (near_bd h3)
    refine ⟨z, ?_⟩
    have hne := hullP_ne (l := l) (by omega)
    rw [e, e2, hdrV_ne hne, outZ_ne hne]
    refine Ct.by gok eok mixed func49 c49 rfl (by simp [ntmps49]) (by simp) (by simp [ResIds]) fun E hE => ?_
    simp [p49, h1', h2']
    refine ACall.mk _ _ _ (fn92 l hl) (by first | (simp; done) | simp [Bor_ls, Bor1_ls]) (by simp) (by first | (left; simp; done) | (right; simp; done)) ?_
    simp [h3]
    refine ACall.mk _ _ _ (c) (by first | (simp; done) | simp [Bor_ls, Bor1_ls]) (by simp) (by first | (left; simp; done) | (right; simp; done)) ?_
    simp
    refine RetOk.by (lk [(0, 16777216)]) ?_
    simp [results49]
  · have h3f : nearC l = false := by simpa using h3
    have e : hullE l = 2 := by unfold hullE; rw [if_neg h1, if_pos (Or.inr h3f)]
    have e2 : hullO l = [] := by unfold hullO; rw [e]; rfl
    refine ⟨[], ?_⟩
    rw [e, e2, hdrV_nil, outZ_nil]
    refine Ct.by gok eok mixed func49 c49 rfl (by simp [ntmps49]) (by simp) (by simp [ResIds]) fun E hE => ?_
    simp [p49, h1', h2']
    refine ACall.mk _ _ _ (fn92 l hl) (by first | (simp; done) | simp [Bor_ls, Bor1_ls]) (by simp) (by first | (left; simp; done) | (right; simp; done)) ?_
    simp [h3f]
    refine RetOk.by (fun _ => none) ?_
    simp [results49]
end Go.Proofs.Try
namespace Go.Proofs.Try
open Go.Psl
def strS (dx dy : Int) : Bool := decide (-1073741824 ≤ min dx dy) && decide (max dx dy ≤ 1073741824)
theorem strS_iff {dx dy : Int} : strS dx dy = true ↔ bd 1073741824 (dx, dy) := by
  unfold strS bd; simp only [Bool.and_eq_true, decide_eq_true_eq]; omega
theorem fn102 (dx dy : Int) : Ct prog 102 [vi dx, vi dy] (vb (strS dx dy)) [] := by
  refine Ct.by gok eok mixed func102 c102 rfl (by simp [ntmps102]) (by simp) (by simp [ResIds]) fun E hE => ?_
  by_cases h1 : -1073741824 ≤ min dx dy
  · by_cases h2 : max dx dy ≤ 1073741824
    · simp [p102, h1, h2]
      refine RetOk.by (fun _ => none) ?_
      simp [results102, strS, h1, h2]
    · simp [p102, h1, h2]
      refine RetOk.by (fun _ => none) ?_
      simp [results102, strS, h1, h2]
  · simp [p102, h1]
    refine RetOk.by (fun _ => none) ?_
    simp [results102, strS, h1]
def dotS (dx dy : Int) (p : Int × Int) : Int := dx * p.1 + dy * p.2
theorem dot_bd {dx dy : Int} {p : Int × Int} (hd : bd 1073741824 (dx, dy)) (hp : bd 536870912 p) : (-576460752303423488 ≤ dx * p.1 ∧ dx * p.1 ≤ 576460752303423488) ∧ (-576460752303423488 ≤ dy * p.2 ∧ dy * p.2 ≤ 576460752303423488) := by
  have h1 := mul_abs hd.1 hp.1
  have h2 := mul_abs hd.2 hp.2
  simp only at h1 h2
  omega
def alN (l : List (Int × Int)) (dx dy : Int) : Nat → Int × Int
  | 0 => (0, 0)
  | i + 1 => match l[i]? with
    | some p => if i = 0 then (dotS dx dy p, dotS dx dy p) else (min (alN l dx dy i).1 (dotS dx dy p), max (alN l dx dy i).2 (dotS dx dy p))
    | none => alN l dx dy i
def alongS (l : List (Int × Int)) (dx dy : Int) : Int × Int := alN l dx dy l.length
theorem fn103 (l : List (Int × Int)) (dx dy : Int) (hl : l.length ≤ 1000000000) (hd : bd 1073741824 (dx, dy)) (hb : ∀ q ∈ l, bd 536870912 q) : Ct prog 103 [.d (spansD l), vi dx, vi dy] (.tup [vi (alongS l dx dy).1, vi (alongS l dx dy).2]) [] := by
  refine Ct.by gok eok mixed func103 c103 rfl (by simp [ntmps103]) (by simp) (by simp [ResIds]) fun E hE => ?_
  simp [p103]
  refine pw_loop (α := Nat) (fun i => ⟨slots [(1, vi dx), (2, vi dy), (6, vi (alN l dx dy i).1), (7, vi (alN l dx dy i).2), (11, .d (spansD l)), (12, vi l.length), (13, vi i)], lk [], 0⟩) (fun i => i ≤ l.length) (fun i => l.length - i) 0 ?_ ?_ ?_
  · simp
  · refine Weak.mk hE (lk []) _ _ _ ?_ ?_ ?_ ?_ ?_ <;> simp [alN]
  · intro i hi
    have hz : IntKind.wrap .i64 ((i : Int) + 1) = ((i : Int) + 1) := wrap64 (by omega) (by omega)
    simp [p103l0]
    refine cR_split (fun h => ?_) (fun h => ?_)
    · simp at h
      obtain ⟨p, hp⟩ : ∃ p, l[i]? = some p := ⟨l[i], by simp [h]⟩
      have b := dot_bd hd (hb p (List.mem_of_getElem? hp))
      have w1 : IntKind.wrap .i64 (dx * p.1) = dx * p.1 := wrap64 (by omega) (by omega)
      have w2 : IntKind.wrap .i64 (dy * p.2) = dy * p.2 := wrap64 (by omega) (by omega)
      have w3 : IntKind.wrap .i64 (dx * p.1 + dy * p.2) = dx * p.1 + dy * p.2 := wrap64 (by omega) (by omega)
      by_cases h0 : i = 0
      · subst h0
        have hz1 : IntKind.wrap .i64 1 = 1 := by decide
        simp [hp, splice, w1, w2, w3, hz1]
        refine ⟨1, by omega, by omega, ?_⟩
        refine Weak.mk hE (lk []) _ _ _ ?_ ?_ ?_ ?_ ?_ <;> simp [alN, hp, dotS]
      · simp [hp, splice, w1, w2, w3, hz, h0]
        refine ⟨i + 1, by omega, by omega, ?_⟩
        refine Weak.mk hE (lk []) _ _ _ ?_ ?_ ?_ ?_ ?_ <;> simp [alN, hp, dotS, h0]
    · simp at h
      have hil : i = l.length := by omega
      subst hil
      simp
      refine RetOk.by (fun _ => none) ?_
      simp [results103, alongS]
def reachE (r : List (Int × Int)) (dx dy : Int) : Int := if regS r = false then 14 else if strS dx dy = false then 2 else 0
def reachV (r : List (Int × Int)) (dx dy : Int) : Int := if reachE r dx dy = 0 then (alongS r dx dy).2 else 0
theorem regS_bd {r : List (Int × Int)} (h : regS r = true) : ∀ q ∈ r, bd 268435456 q := near_bd2 (by unfold regS at h; simp only [Bool.and_eq_true] at h; exact h.1.2)
theorem regS_len {r : List (Int × Int)} (h : regS r = true) : 1 ≤ r.length ∧ r.length ≤ 64 := by
  unfold regS at h; simp only [Bool.and_eq_true, decide_eq_true_eq] at h; exact h.1.1
theorem bd_mono {M N : Int} {p : Int × Int} (h : bd M p) (hm : M ≤ N) : bd N p := by unfold bd at *; omega
theorem fn60 (hS : SortOk) (r : List (Int × Int)) (dx dy : Int) (hr : r.length ≤ 1000000000) : Ct prog 60 [.d (spansD r), vi dx, vi dy] (.tup [vi (reachV r dx dy), vi (reachE r dx dy)]) [] := by
  refine Ct.by gok eok mixed func60 c60 rfl (by simp [ntmps60]) (by simp) (by simp [ResIds]) fun E hE => ?_
  simp [p60]
  refine ACall.mk _ _ _ (fn55 hS r hr) (by first | (simp; done) | simp [Bor_ls, Bor1_ls]) (by simp) (by first | (left; simp; done) | (right; simp; done)) ?_
  by_cases h1 : regS r = true
  · simp [h1]
    refine ACall.mk _ _ _ (fn102 dx dy) (by first | (simp; done) | simp [Bor_ls, Bor1_ls]) (by simp) (by first | (left; simp; done) | (right; simp; done)) ?_
    by_cases h2 : strS dx dy = true
    · simp [h2]
      refine ACall.mk _ _ _ (fn103 r dx dy hr (strS_iff.1 h2) (fun q hq => bd_mono (regS_bd h1 q hq) (by omega))) (by first | (simp; done) | simp [Bor_ls, Bor1_ls]) (by simp) (by first | (left; simp; done) | (right; simp; done)) ?_
      simp
      refine RetOk.by (fun _ => none) ?_
      simp [results60, reachV, reachE, h1, h2]
    · simp [h2]
      refine RetOk.by (fun _ => none) ?_
      simp [results60, reachV, reachE, h1, h2]
  · simp [h1]
    refine RetOk.by (fun _ => none) ?_
    simp [results60, reachV, reachE, h1]
theorem fn57 (l m : List (Int × Int)) (hl : l.length ≤ 1000000000) (_ : m.length ≤ 1000000000) : Ct prog 57 [.d (spansD l), .d (spansD m)] (vb (decide (l = m))) [] := by
  refine Ct.by gok eok mixed func57 c57 rfl (by simp [ntmps57]) (by simp) (by simp [ResIds]) fun E hE => ?_
  by_cases hlen : l.length = m.length
  case neg =>
    have hn : ¬ (l.length : Int) = m.length := by omega
    have hne : ¬ l = m := fun h => hlen (by rw [h])
    simp [p57, hn]
    refine RetOk.by (fun _ => none) ?_
    simp [results57, hne]
  simp [p57, hlen]
  refine pw_loop (α := Nat) (fun i => ⟨slots [(0, .d (spansD l)), (1, .d (spansD m)), (5, vi i)], lk [], 0⟩) (fun i => i ≤ l.length ∧ l.take i = m.take i) (fun i => l.length - i) 0 ?_ ?_ ?_
  · simp
  · refine Weak.mk hE (lk []) _ _ _ ?_ ?_ ?_ ?_ ?_ <;> simp
  · rintro i ⟨hi, hg⟩
    have hz : IntKind.wrap .i64 ((i : Int) + 1) = ((i : Int) + 1) := wrap64 (by omega) (by omega)
    simp [p57l0]
    refine cR_split (fun h => ?_) (fun h => ?_)
    · simp at h
      have hil : i < l.length := by omega
      obtain ⟨a, ha⟩ : ∃ a, l[i]? = some a := ⟨l[i], by simp [hil]⟩
      obtain ⟨b, hb⟩ : ∃ b, m[i]? = some b := ⟨m[i], by simp [show i < m.length by omega]⟩
      by_cases h1 : a.1 = b.1 ∧ a.2 = b.2
      · have hab : a = b := by ext; exact h1.1; exact h1.2
        simp [ha, hb, h1, hz]
        refine ⟨i + 1, ⟨by omega, by simp [List.take_add_one, hg, ha, hb, hab]⟩, by omega, ?_⟩
        refine Weak.mk hE (lk []) _ _ _ ?_ ?_ ?_ ?_ ?_ <;> simp
      · have hne : ¬ l = m := fun h => by
          rw [h, hb] at ha
          cases ha
          exact h1 ⟨rfl, rfl⟩
        have hd : (!decide (a.1 = b.1) || !decide (a.2 = b.2)) = true := by simp; omega
        simp [ha, hb, hd]
        refine RetOk.by (fun _ => none) ?_
        simp [results57, hne]
    · simp at h
      have hil : i = l.length := by omega
      have hlm : l = m := by rw [hil, List.take_length, hlen, List.take_length] at hg; exact hg
      simp
      refine RetOk.by (fun _ => none) ?_
      simp [results57, hlm]
theorem fn69 (a b : Int) : Ct prog 69 [vi a, vi b] (vsp a b) [] := by
  refine Ct.by gok eok mixed func69 c69 rfl (by simp [ntmps69]) (by simp) (by simp [ResIds]) fun E hE => ?_
  simp [p69, splice]
  refine RetOk.by (fun _ => none) ?_
  simp [results69]
def hillL : List (Int × Int × Int) := [(0, 0, 2), (10, 20, 25), (20, 5, 5)]
def squareL : List (Int × Int) := [(0, 0), (4, 0), (4, 4), (0, 4)]
theorem fn72 : Ct prog 72 [] (.ls 0 0 3 3) [(0, [vi 0, vi 0, vi 2, vi 10, vi 20, vi 25, vi 20, vi 5, vi 5])] := by
  refine Ct.by gok eok mixed func72 c72 rfl (by simp [ntmps72]) (by simp) (by simp [ResIds]) fun E hE => ?_
  simp [p72]
  refine ACall.mk _ _ _ (fn69 0 2) (by first | (simp; done) | simp [Bor_ls, Bor1_ls]) (by simp) (by first | (left; simp; done) | (right; simp; done)) ?_
  simp [splice]
  refine ACall.mk _ _ _ (fn69 20 25) (by first | (simp; done) | simp [Bor_ls, Bor1_ls]) (by simp) (by first | (left; simp; done) | (right; simp; done)) ?_
  simp [splice]
  refine ACall.mk _ _ _ (fn69 5 5) (by first | (simp; done) | simp [Bor_ls, Bor1_ls]) (by simp) (by first | (left; simp; done) | (right; simp; done)) ?_
  simp [splice, repl]
  refine RetOk.by (lk [(0, 7340032)]) ?_
  simp [results72]
theorem fn73 : Ct prog 73 [] (.ls 0 0 4 2) [(0, [vi 0, vi 0, vi 4, vi 0, vi 4, vi 4, vi 0, vi 4])] := by
  refine Ct.by gok eok mixed func73 c73 rfl (by simp [ntmps73]) (by simp) (by simp [ResIds]) fun E hE => ?_
  simp [p73, splice, repl]
  refine RetOk.by (lk [(0, 5242880)]) ?_
  simp [results73]
end Go.Proofs.Try
namespace Go.Proofs.Try
open Go.Psl
abbrev vu (n : Int) : V := .d (.lit (.int .u64 n))
theorem mul_parts (x1 x0 y1 y0 : Int) : (x1 * 4294967296 + x0) * (y1 * 4294967296 + y0) = x1 * y1 * 18446744073709551616 + (x1 * y0 + x0 * y1) * 4294967296 + x0 * y0 := by
  have e1 : (x1 * 4294967296) * (y1 * 4294967296) = x1 * y1 * 18446744073709551616 := by
    rw [show x1 * 4294967296 * (y1 * 4294967296) = x1 * y1 * (4294967296 * 4294967296) by rw [Int.mul_assoc, Int.mul_left_comm 4294967296, ← Int.mul_assoc]]; rfl
  rw [Int.mul_add, Int.add_mul, Int.add_mul, e1, Int.add_mul]
  have e2 : x0 * (y1 * 4294967296) = x0 * y1 * 4294967296 := by rw [Int.mul_assoc]
  have e3 : x1 * 4294967296 * y0 = x1 * y0 * 4294967296 := by rw [Int.mul_assoc, Int.mul_comm 4294967296, ← Int.mul_assoc]
  rw [e2, e3]
  omega
theorem mul_le' {a b c d : Int} (h1 : a ≤ c) (h2 : b ≤ d) (h0 : 0 ≤ b) (h3 : 0 ≤ c) : a * b ≤ c * d := Int.le_trans (Int.mul_le_mul_of_nonneg_right h1 h0) (Int.mul_le_mul_of_nonneg_left h2 h3)
theorem fn121 (x y : Int) (hx : 0 ≤ x ∧ x ≤ 1099511627776) (hy : 0 ≤ y ∧ y ≤ 1099511627776) : Ct prog 121 [vu x, vu y] (.tup [vu (x * y / 18446744073709551616), vu (x * y % 18446744073709551616)]) [] := by
  refine Ct.by gok eok mixed func121 c121 rfl (by simp [ntmps121]) (by simp) (by simp [ResIds]) fun E hE => ?_
  obtain ⟨x1, x0, rfl, hx1, hx1', hx0, hx0'⟩ : ∃ x1 x0 : Int, x = x1 * 4294967296 + x0 ∧ 0 ≤ x1 ∧ x1 ≤ 256 ∧ 0 ≤ x0 ∧ x0 < 4294967296 := ⟨x / 4294967296, x % 4294967296, by omega, by omega, by omega, by omega, by omega⟩
  obtain ⟨y1, y0, rfl, hy1, hy1', hy0, hy0'⟩ : ∃ y1 y0 : Int, y = y1 * 4294967296 + y0 ∧ 0 ≤ y1 ∧ y1 ≤ 256 ∧ 0 ≤ y0 ∧ y0 < 4294967296 := ⟨y / 4294967296, y % 4294967296, by omega, by omega, by omega, by omega, by omega⟩
  have a1 : bits .and .u64 (x1 * 4294967296 + x0) 4294967295 = x0 := by rw [and_mask (by omega) (by omega)]; omega
  have a2 : bits .and .u64 (y1 * 4294967296 + y0) 4294967295 = y0 := by rw [and_mask (by omega) (by omega)]; omega
  have a3 : (x1 * 4294967296 + x0) / 4294967296 = x1 := by omega
  have a4 : (y1 * 4294967296 + y0) / 4294967296 = y1 := by omega
  have m := mul_parts x1 x0 y1 y0
  have b11 : x1 * y1 ≤ 256 * 256 := mul_le' hx1' hy1' hy1 (by omega)
  have b10 : x1 * y0 ≤ 256 * 4294967295 := mul_le' hx1' (by omega) hy0 (by omega)
  have b01 : x0 * y1 ≤ 4294967295 * 256 := mul_le' (by omega) hy1' hy1 (by omega)
  have b00 : x0 * y0 ≤ 4294967295 * 4294967295 := mul_le' (by omega) (by omega) hy0 (by omega)
  have c11 := Int.mul_nonneg hx1 hy1
  have c10 := Int.mul_nonneg hx1 hy0
  have c01 := Int.mul_nonneg hx0 hy1
  have c00 := Int.mul_nonneg hx0 hy0
  generalize hp11 : x1 * y1 = p11 at *
  generalize hp10 : x1 * y0 = p10 at *
  generalize hp01 : x0 * y1 = p01 at *
  generalize hp00 : x0 * y0 = p00 at *
  have e1 : IntKind.wrap .u64 p00 = p00 := wrapu64 (by omega) (by omega)
  have e2 : IntKind.wrap .u64 p10 = p10 := wrapu64 (by omega) (by omega)
  have e3 : IntKind.wrap .u64 p01 = p01 := wrapu64 (by omega) (by omega)
  have e4 : IntKind.wrap .u64 p11 = p11 := wrapu64 (by omega) (by omega)
  have e5 : IntKind.wrap .u64 (p10 + p00 / 4294967296) = p10 + p00 / 4294967296 := wrapu64 (by omega) (by omega)
  have e6 : bits .and .u64 (p10 + p00 / 4294967296) 4294967295 = (p10 + p00 / 4294967296) % 4294967296 := and_mask (by omega) (by omega)
  have e7 : IntKind.wrap .u64 ((p10 + p00 / 4294967296) % 4294967296 + p01) = (p10 + p00 / 4294967296) % 4294967296 + p01 := wrapu64 (by omega) (by omega)
  have e8 : IntKind.wrap .u64 (p11 + (p10 + p00 / 4294967296) / 4294967296) = p11 + (p10 + p00 / 4294967296) / 4294967296 := wrapu64 (by omega) (by omega)
  have e9 : IntKind.wrap .u64 (p11 + (p10 + p00 / 4294967296) / 4294967296 + ((p10 + p00 / 4294967296) % 4294967296 + p01) / 4294967296) = p11 + (p10 + p00 / 4294967296) / 4294967296 + ((p10 + p00 / 4294967296) % 4294967296 + p01) / 4294967296 := wrapu64 (by omega) (by omega)
  simp [p121, a1, a2, a3, a4, hp11, hp10, hp01, hp00, e1, e2, e3, e4, e5, e6, e7, e8, e9]
  refine RetOk.by (fun _ => none) ?_
  simp [results121]
  rw [m]
  refine ⟨by omega, ?_⟩
  rw [wrapu_mod]
end Go.Proofs.Try
namespace Go.Proofs.Try
open Go.Psl
def len64 (x : Int) : Int := if x = 0 then 0 else (Nat.log2 x.toNat : Int) + 1
theorem log2_shift (n k : Nat) (h : 2 ^ k ≤ n) : Nat.log2 n = Nat.log2 (n / 2 ^ k) + k := by
  induction k generalizing n with
  | zero => simp
  | succ k ih =>
    have h2 : 2 ≤ n := by
      have : 2 ^ 1 ≤ 2 ^ (k + 1) := Nat.pow_le_pow_right (by omega) (by omega)
      omega
    have h1 : Nat.log2 n = Nat.log2 (n / 2) + 1 := by rw [Nat.log2_def]; simp [h2]
    rw [h1, ih (n / 2) (by rw [Nat.pow_succ] at h; omega), Nat.div_div_eq_div_mul, Nat.pow_succ, Nat.mul_comm 2]
    omega
theorem len64_shift (x : Int) (k : Nat) (h : 2 ^ k ≤ x) : len64 (x / 2 ^ k) + k = len64 x := by
  obtain ⟨n, rfl⟩ := Int.eq_ofNat_of_zero_le (show 0 ≤ x from Int.le_trans (Int.pow_nonneg (by decide)) h)
  have h' : 2 ^ k ≤ n := by exact_mod_cast h
  have hp : 0 < 2 ^ k := Nat.pow_pos (by omega)
  have e : ((n : Int) / 2 ^ k) = ((n / 2 ^ k : Nat) : Int) := by push_cast; rfl
  have h1 : 1 ≤ n / 2 ^ k := by rw [Nat.le_div_iff_mul_le hp]; omega
  rw [e]
  unfold len64
  rw [if_neg (by omega), if_neg (by omega)]
  simp only [Int.toNat_natCast]
  rw [log2_shift n k h']
  omega
theorem len64_bounds (x : Int) (h : 1 ≤ x) : 2 ^ (len64 x - 1).toNat ≤ x ∧ x < 2 ^ (len64 x).toNat ∧ 1 ≤ len64 x := by
  obtain ⟨n, rfl⟩ := Int.eq_ofNat_of_zero_le (show 0 ≤ x by omega)
  unfold len64
  rw [if_neg (by omega)]
  have e1 : (((Nat.log2 (n : Int).toNat : Nat) : Int) + 1 - 1).toNat = Nat.log2 n := by simp
  have e2 : (((Nat.log2 (n : Int).toNat : Nat) : Int) + 1).toNat = Nat.log2 n + 1 := by simp
  rw [e1, e2]
  have h1 := Nat.log2_self_le (n := n) (by omega)
  have h2 := Nat.lt_log2_self (n := n)
  refine ⟨by exact_mod_cast h1, by exact_mod_cast h2, by omega⟩
set_option maxRecDepth 20000 in
theorem len8_tab : ∀ m : Fin 256, (⟨#[0, 1, 2, 2, 3, 3, 3, 3, 4, 4, 4, 4, 4, 4, 4, 4, 5, 5, 5, 5, 5, 5, 5, 5, 5, 5, 5, 5, 5, 5, 5, 5, 6, 6, 6, 6, 6, 6, 6, 6, 6, 6, 6, 6, 6, 6, 6, 6, 6, 6, 6, 6, 6, 6, 6, 6, 6, 6, 6, 6, 6, 6, 6, 6, 7, 7, 7, 7, 7, 7, 7, 7, 7, 7, 7, 7, 7, 7, 7, 7, 7, 7, 7, 7, 7, 7, 7, 7, 7, 7, 7, 7, 7, 7, 7, 7, 7, 7, 7, 7, 7, 7, 7, 7, 7, 7, 7, 7, 7, 7, 7, 7, 7, 7, 7, 7, 7, 7, 7, 7, 7, 7, 7, 7, 7, 7, 7, 7, 8, 8, 8, 8, 8, 8, 8, 8, 8, 8, 8, 8, 8, 8, 8, 8, 8, 8, 8, 8, 8, 8, 8, 8, 8, 8, 8, 8, 8, 8, 8, 8, 8, 8, 8, 8, 8, 8, 8, 8, 8, 8, 8, 8, 8, 8, 8, 8, 8, 8, 8, 8, 8, 8, 8, 8, 8, 8, 8, 8, 8, 8, 8, 8, 8, 8, 8, 8, 8, 8, 8, 8, 8, 8, 8, 8, 8, 8, 8, 8, 8, 8, 8, 8, 8, 8, 8, 8, 8, 8, 8, 8, 8, 8, 8, 8, 8, 8, 8, 8, 8, 8, 8, 8, 8, 8, 8, 8, 8, 8, 8, 8, 8, 8, 8, 8, 8, 8, 8, 8, 8, 8, 8, 8, 8, 8, 8, 8]⟩ : ByteArray)[m.val]?.map (·.toNat) = some (len64 m.val).toNat := by decide +kernel
set_option maxRecDepth 20000 in
theorem len8_at (n : Nat) (h : n < 256) : ∃ b, (⟨#[0, 1, 2, 2, 3, 3, 3, 3, 4, 4, 4, 4, 4, 4, 4, 4, 5, 5, 5, 5, 5, 5, 5, 5, 5, 5, 5, 5, 5, 5, 5, 5, 6, 6, 6, 6, 6, 6, 6, 6, 6, 6, 6, 6, 6, 6, 6, 6, 6, 6, 6, 6, 6, 6, 6, 6, 6, 6, 6, 6, 6, 6, 6, 6, 7, 7, 7, 7, 7, 7, 7, 7, 7, 7, 7, 7, 7, 7, 7, 7, 7, 7, 7, 7, 7, 7, 7, 7, 7, 7, 7, 7, 7, 7, 7, 7, 7, 7, 7, 7, 7, 7, 7, 7, 7, 7, 7, 7, 7, 7, 7, 7, 7, 7, 7, 7, 7, 7, 7, 7, 7, 7, 7, 7, 7, 7, 7, 7, 8, 8, 8, 8, 8, 8, 8, 8, 8, 8, 8, 8, 8, 8, 8, 8, 8, 8, 8, 8, 8, 8, 8, 8, 8, 8, 8, 8, 8, 8, 8, 8, 8, 8, 8, 8, 8, 8, 8, 8, 8, 8, 8, 8, 8, 8, 8, 8, 8, 8, 8, 8, 8, 8, 8, 8, 8, 8, 8, 8, 8, 8, 8, 8, 8, 8, 8, 8, 8, 8, 8, 8, 8, 8, 8, 8, 8, 8, 8, 8, 8, 8, 8, 8, 8, 8, 8, 8, 8, 8, 8, 8, 8, 8, 8, 8, 8, 8, 8, 8, 8, 8, 8, 8, 8, 8, 8, 8, 8, 8, 8, 8, 8, 8, 8, 8, 8, 8, 8, 8, 8, 8, 8, 8, 8, 8, 8, 8]⟩ : ByteArray)[n]? = some b ∧ (b.toNat : Int) = len64 n := by
  have := len8_tab ⟨n, h⟩
  simp only [Option.map_eq_some_iff] at this
  obtain ⟨b, h1, h2⟩ := this
  refine ⟨b, h1, ?_⟩
  rw [h2]
  have : 0 ≤ len64 n := by unfold len64; split <;> omega
  omega
set_option maxRecDepth 20000 in
theorem fn151 (x : Int) (hx : 0 ≤ x ∧ x ≤ 18446744073709551615) : Ct prog 151 [vu x] (vi (len64 x)) [] := by
  refine Ct.by gok eok mixed func151 c151 rfl (by simp [ntmps151]) (by simp) (by simp [ResIds]) fun E hE => ?_
  have fin : ∀ (y c : Int), 0 ≤ y → y < 256 → 0 ≤ c → c ≤ 56 → len64 y + c = len64 x → ∃ b, (⟨#[0, 1, 2, 2, 3, 3, 3, 3, 4, 4, 4, 4, 4, 4, 4, 4, 5, 5, 5, 5, 5, 5, 5, 5, 5, 5, 5, 5, 5, 5, 5, 5, 6, 6, 6, 6, 6, 6, 6, 6, 6, 6, 6, 6, 6, 6, 6, 6, 6, 6, 6, 6, 6, 6, 6, 6, 6, 6, 6, 6, 6, 6, 6, 6, 7, 7, 7, 7, 7, 7, 7, 7, 7, 7, 7, 7, 7, 7, 7, 7, 7, 7, 7, 7, 7, 7, 7, 7, 7, 7, 7, 7, 7, 7, 7, 7, 7, 7, 7, 7, 7, 7, 7, 7, 7, 7, 7, 7, 7, 7, 7, 7, 7, 7, 7, 7, 7, 7, 7, 7, 7, 7, 7, 7, 7, 7, 7, 7, 8, 8, 8, 8, 8, 8, 8, 8, 8, 8, 8, 8, 8, 8, 8, 8, 8, 8, 8, 8, 8, 8, 8, 8, 8, 8, 8, 8, 8, 8, 8, 8, 8, 8, 8, 8, 8, 8, 8, 8, 8, 8, 8, 8, 8, 8, 8, 8, 8, 8, 8, 8, 8, 8, 8, 8, 8, 8, 8, 8, 8, 8, 8, 8, 8, 8, 8, 8, 8, 8, 8, 8, 8, 8, 8, 8, 8, 8, 8, 8, 8, 8, 8, 8, 8, 8, 8, 8, 8, 8, 8, 8, 8, 8, 8, 8, 8, 8, 8, 8, 8, 8, 8, 8, 8, 8, 8, 8, 8, 8, 8, 8, 8, 8, 8, 8, 8, 8, 8, 8, 8, 8, 8, 8, 8, 8, 8, 8]⟩ : ByteArray)[y.toNat]? = some b ∧ IntKind.wrap .u8 y = y ∧ IntKind.wrap .i64 (b.toNat : Int) = (b.toNat : Int) ∧ IntKind.wrap .i64 (c + (b.toNat : Int)) = len64 x ∧ 0 ≤ y := fun y c h0 h1 h2 h3 h4 => by
    obtain ⟨b, q1, q2⟩ := len8_at y.toNat (by omega)
    have hb : (b.toNat : Int) < 256 := by have := b.toNat_lt; omega
    rw [Int.toNat_of_nonneg h0] at q2
    exact ⟨b, q1, by simp [IntKind.wrap, IntKind.bits, IntKind.signed]; omega, wrap64 (by omega) (by omega), by rw [wrap64 (by omega) (by omega)]; omega, h0⟩
  have e16 : IntKind.wrap .i64 16 = 16 := by decide
  have e8 : IntKind.wrap .i64 8 = 8 := by decide
  have e48 : IntKind.wrap .i64 48 = 48 := by decide
  have e40 : IntKind.wrap .i64 40 = 40 := by decide
  have e24 : IntKind.wrap .i64 24 = 24 := by decide
  have e56 : IntKind.wrap .i64 56 = 56 := by decide
  have s8 := fun (y : Int) (h : 256 ≤ y) => len64_shift y 8 (by simpa using h)
  have s16 := fun (y : Int) (h : 65536 ≤ y) => len64_shift y 16 (by simpa using h)
  have s32 := fun (y : Int) (h : 4294967296 ≤ y) => len64_shift y 32 (by simpa using h)
  simp at s8 s16 s32
  by_cases h1 : 4294967296 ≤ x
  · have q1 := s32 x h1
    by_cases h2 : 65536 ≤ x / 4294967296
    · have q2 := s16 _ h2
      by_cases h3 : 256 ≤ x / 4294967296 / 65536
      · have q3 := s8 _ h3
        obtain ⟨b, r1, r2, r3, r4, r0⟩ := fin (x / 4294967296 / 65536 / 256) 56 (by omega) (by omega) (by omega) (by omega) (by omega)
        simp [p151, h1, h2, h3, r0, r1, r2, r3, e48, e56]
        refine RetOk.by (fun _ => none) ?_
        simp [results151, r4]
      · obtain ⟨b, r1, r2, r3, r4, r0⟩ := fin (x / 4294967296 / 65536) 48 (by omega) (by omega) (by omega) (by omega) (by omega)
        simp [p151, h1, h2, h3, r0, r1, r2, r3, e48]
        refine RetOk.by (fun _ => none) ?_
        simp [results151, r4]
    · by_cases h3 : 256 ≤ x / 4294967296
      · have q3 := s8 _ h3
        obtain ⟨b, r1, r2, r3, r4, r0⟩ := fin (x / 4294967296 / 256) 40 (by omega) (by omega) (by omega) (by omega) (by omega)
        simp [p151, h1, h2, h3, r0, r1, r2, r3, e40]
        refine RetOk.by (fun _ => none) ?_
        simp [results151, r4]
      · obtain ⟨b, r1, r2, r3, r4, r0⟩ := fin (x / 4294967296) 32 (by omega) (by omega) (by omega) (by omega) (by omega)
        simp [p151, h1, h2, h3, r0, r1, r2, r3]
        refine RetOk.by (fun _ => none) ?_
        simp [results151, r4]
  · by_cases h2 : 65536 ≤ x
    · have q2 := s16 _ h2
      by_cases h3 : 256 ≤ x / 65536
      · have q3 := s8 _ h3
        obtain ⟨b, r1, r2, r3, r4, r0⟩ := fin (x / 65536 / 256) 24 (by omega) (by omega) (by omega) (by omega) (by omega)
        simp [p151, h1, h2, h3, r0, r1, r2, r3, e16, e24]
        refine RetOk.by (fun _ => none) ?_
        simp [results151, r4]
      · obtain ⟨b, r1, r2, r3, r4, r0⟩ := fin (x / 65536) 16 (by omega) (by omega) (by omega) (by omega) (by omega)
        simp [p151, h1, h2, h3, r0, r1, r2, r3, e16]
        refine RetOk.by (fun _ => none) ?_
        simp [results151, r4]
    · by_cases h3 : 256 ≤ x
      · have q3 := s8 _ h3
        obtain ⟨b, r1, r2, r3, r4, r0⟩ := fin (x / 256) 8 (by omega) (by omega) (by omega) (by omega) (by omega)
        simp [p151, h1, h2, h3, r0, r1, r2, r3, e8]
        refine RetOk.by (fun _ => none) ?_
        simp [results151, r4]
      · obtain ⟨b, r1, r2, r3, r4, r0⟩ := fin x 0 (by omega) (by omega) (by omega) (by omega) (by omega)
        rw [Int.zero_add, r3] at r4
        simp [p151, h1, h2, h3, r0, r1, r2, r3]
        refine RetOk.by (fun _ => none) ?_
        simp [results151, r4]
theorem len64_le (x : Int) (h0 : 0 ≤ x) (h1 : x ≤ 18446744073709551615) : 0 ≤ len64 x ∧ len64 x ≤ 64 := by
  by_cases h : x = 0
  · subst h; decide
  · obtain ⟨q1, q2, q3⟩ := len64_bounds x (by omega)
    refine ⟨by omega, ?_⟩
    have : ¬ 65 ≤ len64 x := fun hh => by
      have h2 : (2 : Int) ^ 64 ≤ 2 ^ (len64 x - 1).toNat := by
        have : 2 ^ 64 ≤ 2 ^ (len64 x - 1).toNat := Nat.pow_le_pow_right (by omega) (by omega)
        exact_mod_cast this
      have : (2 : Int) ^ 64 = 18446744073709551616 := by decide
      omega
    omega
theorem fn144 (x : Int) (hx : 0 ≤ x ∧ x ≤ 18446744073709551615) : Ct prog 144 [vu x] (vi (64 - len64 x)) [] := by
  refine Ct.by gok eok mixed func144 c144 rfl (by simp [ntmps144]) (by simp) (by simp [ResIds]) fun E hE => ?_
  simp [p144]
  refine ACall.mk _ _ _ (fn151 x hx) (by first | (simp; done) | simp [Bor_ls, Bor1_ls]) (by simp) (by first | (left; simp; done) | (right; simp; done)) ?_
  have := len64_le x hx.1 hx.2
  have e : IntKind.wrap .i64 (64 - len64 x) = 64 - len64 x := wrap64 (by omega) (by omega)
  simp [e]
  refine RetOk.by (fun _ => none) ?_
  simp [results144]
end Go.Proofs.Try
