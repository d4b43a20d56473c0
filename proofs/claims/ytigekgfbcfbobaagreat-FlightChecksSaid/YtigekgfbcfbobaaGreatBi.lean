/- Own lemmas and contracts of functions, used by the last text of this claim for the given statement. Conditions: those that each theorem states. -/
import Derived.Test.YtigekgfbcfbobaaGreatBh
namespace Go.Proofs.Tryz
open Go.Psl
open Go.Geo (cross pushS chainR)
theorem out_cases (O : List (Int × Int)) : O = [] ∨ ∃ o x, O = o ++ [x] := by
  rcases List.eq_nil_or_concat O with rfl | ⟨o, x, rfl⟩
  · exact Or.inl rfl
  · exact Or.inr ⟨o, x, List.concat_eq_append⟩
theorem hdrV_ne {O : List (Int × Int)} (h : O ≠ []) (b : Nat) : hdrV O b = .ls b 0 O.length 2 := by
  obtain rfl | ⟨o, x, rfl⟩ := out_cases O
  · exact absurd rfl h
  · simp
theorem outZ_ne {O z : List (Int × Int)} (h : O ≠ []) (b : Nat) : outZ O z b = [(b, cellsI (O ++ z))] := by
  obtain rfl | ⟨o, x, rfl⟩ := out_cases O
  · exact absurd rfl h
  · exact outZ_snoc o z x b
theorem outZ_ids (O z : List (Int × Int)) (b n : Nat) (h : b < n) : HpIds n (outZ O z b) := by
  obtain rfl | ⟨o, x, rfl⟩ := out_cases O
  · trivial
  · rw [outZ_snoc]
    simp [h]
theorem hdrV_A (O : List (Int × Int)) (b n : Nat) (h : b < n) : AC (· < n) anyD (hdrV O b) := by
  obtain rfl | ⟨o, x, rfl⟩ := out_cases O
  · simp
  · simp [h]
theorem lenF_hdr {Γ : Tys} {t : TypeId} {O : List (Int × Int)} {b : Nat} : lenF Γ t (hdrV O b) = (Γ t).bind fun y => match y.sh with | .slice _ => some (.d (.lit (.int .i64 O.length)), .none) | _ => none := by
  obtain rfl | ⟨o, x, rfl⟩ := out_cases O
  · exact lenF_nil
  · rw [hdrV_snoc, lenF_ls]; congr; funext y; cases y.sh <;> simp
theorem turn_cross (a b p : Int × Int) : turnS (subC a b) (subC b p) = cross a b p := (Go.Geo.cross_xp2 a b p).symm
theorem chain_two {l : List (Int × Int)} (h2 : 2 ≤ l.length) : ∃ top rest, chainR l = top :: rest ∧ rest ≠ [] := by
  rcases List.eq_nil_or_concat l with rfl | ⟨l', p, rfl⟩
  · simp at h2
  · rw [List.concat_eq_append, Go.Geo.chainR_snoc]
    obtain ⟨r, e, _, e2, _⟩ := Go.Geo.pushS_head p (chainR l')
    refine ⟨p, r, e, fun hr => ?_⟩
    have hne : chainR l' ≠ [] := by
      cases l' with
      | nil => simp at h2
      | cons x l' =>
        rcases List.eq_nil_or_concat (x :: l') with h | ⟨m, y, h⟩
        · simp at h
        · rw [h, List.concat_eq_append, Go.Geo.chainR_snoc, push_pop]; simp
    exact (e2 hne).1 hr
set_option maxRecDepth 20000 in
theorem fn224 (B z l zl : List (Int × Int)) (hB : B.length ≤ 100000) (hl : l.length ≤ 100000) (hbd : ∀ q ∈ l, bd 536870912 q) (h2 : 2 ≤ l.length) :
    ∃ z', Cm prog 224 [.lp 0 0, .lp 1 0] (lk ((0, [hdrV B 3]) :: (1, [.ls 2 0 l.length 2]) :: (2, cellsI (l ++ zl)) :: outZ B z 3)) [0, 1, 2] (.ret (.tup []))
      (lk ((0, [hdrV (B ++ (chainR l).tail.reverse) 4]) :: (1, [.ls 2 0 l.length 2]) :: (2, cellsI (l ++ zl)) :: outZ (B ++ (chainR l).tail.reverse) z' 4)) := by
  obtain ⟨top, rest, hch, hrest⟩ := chain_two h2
  refine ⟨[top], ?_⟩
  rw [hch, List.tail_cons]
  have hrr : rest.reverse ≠ [] := by simp [hrest]
  have hR : B ++ rest.reverse ≠ [] := by simp [hrest]
  rw [hdrV_ne hR, outZ_ne hR]
  refine Cm.by gok eok mixed 4 func224 c224 rfl (by simp [ntmps224]) (by simp) (HpIds.at ?_) (by simp) ?_ fun E hE hs => ?_
  · refine ⟨by show 0 < 4; omega, fun c hc => ?_, by show 1 < 4; omega, fun c hc => ?_, by show 2 < 4; omega, fun c hc => ?_, outZ_ids _ _ _ _ (by omega)⟩
    · simp at hc; subst hc; exact hdrV_A B 3 4 (by omega)
    · simp at hc; subst hc; simp
    · exact ac_data c hc
  · simp [ResIds]
  have hst0 : chainR (l.take 0) = [] := by simp [chainR]
  have hcl := fun i => chainR_len (l.take i)
  have hcm : ∀ i, ∀ q ∈ chainR (l.take i), bd 536870912 q := fun i q hq => hbd q (List.mem_of_mem_take (chainR_mem q hq))
  obtain ⟨dl, hdl⟩ : ∃ dl, spD (l ++ zl) = dl := ⟨_, rfl⟩
  have hdl' : cellsI (l ++ zl) = dl.map V.d := by rw [← hdl]
  have hlat : ∀ i p, l[i]? = some p → List.take 2 (List.drop (i * 2) (dl.map V.d)) = [vi p.1, vi p.2] := fun i p h => by
    rw [← hdl]; exact cells_at (by rw [List.getElem?_append_left (List.getElem?_eq_some_iff.1 h).1]; exact h)
  have hlcl : l.length * 2 ≤ dl.length := by rw [← hdl]; simp; omega
  rw [hdl']
  simp [p224, lenF_hdr]
  refine pw_loop (α := Nat × List (Int × Int)) (fun x => ⟨slots [(0, .lp 0 0), (1, .lp 1 0), (2, vi B.length), (7, .ls 2 0 l.length 2), (8, vi l.length), (9, vi x.1)], lk ((0, [hdrV (B ++ (chainR (l.take x.1)).reverse) 3]) :: (1, [.ls 2 0 l.length 2]) :: (2, dl.map .d) :: outZ (B ++ (chainR (l.take x.1)).reverse) x.2 3), 4⟩)
    (fun x => x.1 ≤ l.length ∧ (x.1 = l.length → x.2 = [])) (fun x => l.length - x.1) (0, z) ?_ ?_ ?_
  · exact ⟨by omega, fun h => by simp only at h; omega⟩
  · simp only [hst0, List.reverse_nil, List.append_nil]
    obtain rfl | ⟨b0, x0, rfl⟩ := out_cases B
    · refine Weak.mkM hE (lk [(0, 0), (1, 1), (2, 2)]) _ _ _ ?_ ?_ ?_ ?_ ?_ ?_ <;> simp
    · rw [outZ_snoc]
      refine Weak.mkM hE (lk [(0, 0), (1, 1), (2, 2), (3, 3)]) _ _ _ ?_ ?_ ?_ ?_ ?_ ?_ <;> simp
  rintro ⟨i, z⟩ ⟨hi, hz⟩
  simp only at hi hz
  simp [p224l1]
  refine cR_split (fun h => ?_) (fun h => ?_)
  · simp at h
    obtain ⟨p, hp⟩ : ∃ p, l[i]? = some p := ⟨l[i], by simp [h]⟩
    have hpm := hbd p (List.mem_of_getElem? hp)
    have cp := hlat i p hp
    have q1 : i * 2 + 2 ≤ dl.length := by omega
    have w1 : IntKind.wrap .i64 ((i : Int) + 1) = ((i + 1 : Nat) : Int) := by rw [wrap64 (by omega) (by omega)]; omega
    have hct := chain_take hp
    have hci := hcl i
    have hcmi := hcm i
    have wB : IntKind.wrap .i64 ((B.length : Int) + 1) = (B.length : Int) + 1 := wrap64 (by omega) (by omega)
    obtain ⟨st0, hst⟩ : ∃ st0, chainR (l.take i) = st0 := ⟨_, rfl⟩
    rw [hst] at hct hci hcmi ⊢
    have hl0 : st0.length ≤ 100000 := by simp at hci; omega
    simp [h, cp, q1, splice]
    refine pw_loopC (α := List (Int × Int) × List (Int × Int)) 2 (fun z : List (Int × Int) => ⟨slots [(0, .lp 0 0), (1, .lp 1 0), (2, vi B.length), (4, .lp 4 0), (7, .ls 2 0 l.length 2), (8, vi l.length), (9, vi i)], lk ((0, [hdrV (B ++ (popS st0 p).reverse) 3]) :: (1, [.ls 2 0 l.length 2]) :: (2, dl.map .d) :: (4, [vi p.1, vi p.2]) :: outZ (B ++ (popS st0 p).reverse) z 3), 5⟩) (fun _ => True)
      (fun x => ⟨slots [(0, .lp 0 0), (1, .lp 1 0), (2, vi B.length), (4, .lp 4 0), (7, .ls 2 0 l.length 2), (8, vi l.length), (9, vi i)], lk ((0, [hdrV (B ++ x.1.reverse) 3]) :: (1, [.ls 2 0 l.length 2]) :: (2, dl.map .d) :: (4, [vi p.1, vi p.2]) :: outZ (B ++ x.1.reverse) x.2 3), 5⟩)
      (fun x => popS x.1 p = popS st0 p ∧ x.1.length ≤ 100000 ∧ ∀ q ∈ x.1, bd 536870912 q) (fun x => x.1.length) (st0, z) ?_ ?_ ?_ fun zz _ => ?_
    · exact ⟨rfl, hl0, hcmi⟩
    · obtain e | ⟨b0, x0, e⟩ := out_cases (B ++ st0.reverse) <;> rw [e]
      · refine Weak.mkM hE (lk [(0, 0), (1, 1), (2, 2), (4, 3145732)]) _ _ _ ?_ ?_ ?_ ?_ ?_ ?_ <;> simp
      · rw [outZ_snoc]
        refine Weak.mkM hE (lk [(0, 0), (1, 1), (2, 2), (3, 3), (4, 3145732)]) _ _ _ ?_ ?_ ?_ ?_ ?_ ?_ <;> simp
    · rintro ⟨st, z⟩ ⟨hpop, hlen, hm⟩
      simp only at hpop hlen hm
      by_cases h2s : st.length < 2
      · have hps : popS st0 p = st := by
          rw [← hpop]
          match st, h2s with
          | [], _ => rfl
          | [_], _ => rfl
          | _ :: _ :: _, h => simp at h; omega
        rw [hps]
        obtain ⟨O, hO⟩ : ∃ O, B ++ st.reverse = O := ⟨_, rfl⟩
        have hOl : O.length = B.length + st.length := by rw [← hO]; simp
        rw [hO]
        have hlt : ¬ ((B.length : Int) + 1 < (O.length : Int)) := by omega
        simp [p224l0, lenF_hdr, wB, hlt, inC, Nat.testBit]
        refine ⟨z, ?_⟩
        obtain rfl | ⟨b0, x0, rfl⟩ := out_cases O
        · refine Weak.mkM hE (lk [(0, 0), (1, 1), (2, 2), (4, 4)]) _ _ _ ?_ ?_ ?_ ?_ ?_ ?_ <;> simp
        · rw [outZ_snoc]
          refine Weak.mkM hE (lk [(0, 0), (1, 1), (2, 2), (3, 3), (4, 4)]) _ _ _ ?_ ?_ ?_ ?_ ?_ ?_ <;> simp
      · obtain ⟨b, a, r, rfl⟩ : ∃ b a r, st = b :: a :: r := by
          match st, h2s with
          | b :: a :: r, _ => exact ⟨b, a, r, rfl⟩
          | [], h => simp at h
          | [_], h => simp at h
        have ba := hm a (by simp)
        have bb := hm b (by simp)
        obtain ⟨m, hmm⟩ : ∃ m, m = B.length + r.length := ⟨_, rfl⟩
        obtain ⟨m1, hm1⟩ : ∃ m1, m1 = m + 1 := ⟨_, rfl⟩
        obtain ⟨O, hO⟩ : ∃ O, B ++ (b :: a :: r).reverse = O := ⟨_, rfl⟩
        have hO2 : O = B ++ r.reverse ++ [a] ++ [b] := by rw [← hO]; simp
        have hO3 : B ++ (a :: r).reverse = B ++ r.reverse ++ [a] := by simp
        obtain ⟨N, hN⟩ : ∃ N, O.length = N := ⟨_, rfl⟩
        have hNm : N = m + 2 := by rw [← hN, hO2, hmm]; simp; omega
        have hOne : O ≠ [] := by rw [hO2]; simp
        have ha' : (O ++ z)[m]? = some a := by
          rw [hO2, hmm]; simp only [List.append_assoc]
          rw [List.getElem?_append_right (by omega), List.getElem?_append_right (by simp), List.length_reverse, show B.length + r.length - B.length - r.length = 0 by omega]; rfl
        have hb' : (O ++ z)[m1]? = some b := by
          rw [hO2, hm1, hmm]; simp only [List.append_assoc]
          rw [List.getElem?_append_right (by omega), List.getElem?_append_right (by simp; omega), List.length_reverse, show B.length + r.length + 1 - B.length - r.length = 1 by omega]; rfl
        have ca := cells_at ha'
        have cb := cells_at hb'
        obtain ⟨ds, hds⟩ : ∃ ds, spD (O ++ z) = ds := ⟨_, rfl⟩
        have hdsl : N * 2 ≤ ds.length := by rw [← hds, spD_len, List.length_append, hN]; omega
        rw [hds] at ca cb
        rw [hO, hdrV_ne hOne, outZ_ne hOne, hN, show cellsI (O ++ z) = ds.map V.d by rw [← hds]]
        have w2 : IntKind.wrap .i64 ((N : Int) - 2) = (m : Int) := by simp at hlen; rw [wrap64 (by omega) (by omega)]; omega
        have w3 : IntKind.wrap .i64 ((N : Int) - 1) = (m1 : Int) := by simp at hlen; rw [wrap64 (by omega) (by omega)]; omega
        have hlt : (B.length : Int) + 1 < (N : Int) := by omega
        have l1 : m < N := by omega
        have l2 : m1 < N := by omega
        have l3 : m * 2 + 2 ≤ ds.length := by omega
        have l4 : m1 * 2 + 2 ≤ ds.length := by omega
        have l5 : m1 ≤ N := by omega
        have e1 := bd_sub (N := 1073741824) ba bb (by omega)
        have e2 := bd_sub (N := 1073741824) bb hpm (by omega)
        have big : ∀ q, bd 536870912 q → bd 1152921504606846976 q := fun q h => by unfold bd at *; omega
        have big2 : ∀ q, bd 1073741824 q → bd 2000000000 q := fun q h => by unfold bd at *; omega
        simp [p224l0, wB, hlt, inC, Nat.testBit, w2, w3, l1, l2, l3, l4, ca, cb]
        refine ACall.mk _ _ _ (fn194 a b (big _ ba) (big _ bb)) (by first | (simp; done) | simp [Bor_ls, Bor1_ls]) (by simp) (by first | (left; simp; done) | (right; simp; done)) ?_
        simp [inC, Nat.testBit, w3, l2, l4, cb]
        refine ACall.mk _ _ _ (fn194 b p (big _ bb) (big _ hpm)) (by first | (simp; done) | simp [Bor_ls, Bor1_ls]) (by simp) (by first | (left; simp; done) | (right; simp; done)) ?_
        simp
        refine ACall.mk _ _ _ (fn195 (subC a b) (subC b p) (big2 _ e1) (big2 _ e2)) (by first | (simp; done) | simp [Bor_ls, Bor1_ls]) (by simp) (by first | (left; simp; done) | (right; simp; done)) ?_
        rw [turn_cross]
        by_cases hc : cross a b p ≤ 0
        · simp [hc, w3, l5, splice]
          refine ⟨a :: r, ⟨by rw [← hpop, popS_two, if_pos hc], by simp at hlen ⊢; omega, fun q1 q2 hq => hm (q1, q2) (List.mem_cons_of_mem _ hq)⟩, by simp, [b] ++ z, ?_⟩
          rw [hO3, hdrV_snoc, outZ_snoc, show cellsI (B ++ r.reverse ++ [a] ++ ([b] ++ z)) = ds.map V.d by rw [← hds, hO2]; simp]
          refine Weak.mkM hE (lk [(0, 0), (1, 1), (2, 2), (3, 3), (4, 4)]) _ _ _ ?_ ?_ ?_ ?_ ?_ ?_ <;> simp
          omega
        · have hps : popS st0 p = b :: a :: r := by rw [← hpop, popS_two, if_neg hc]
          rw [hps, hO, hdrV_ne hOne, hN]
          simp [hc]
          refine ⟨z, ?_⟩
          rw [outZ_ne hOne, show cellsI (O ++ z) = ds.map V.d by rw [← hds]]
          refine Weak.mkM hE (lk [(0, 0), (1, 1), (2, 2), (3, 3), (4, 4)]) _ _ _ ?_ ?_ ?_ ?_ ?_ ?_ <;> simp
    · have hpl := popS_len p st0
      obtain ⟨O, hO⟩ : ∃ O, B ++ (popS st0 p).reverse = O := ⟨_, rfl⟩
      have hOl : O.length ≤ 200000 := by rw [← hO]; simp; omega
      have hnx : B ++ (chainR (l.take (i + 1))).reverse = O ++ [p] := by rw [hct, ← hO]; simp
      rw [hO]
      have fin : cellsI (O ++ [p]) = (spD O).map V.d ++ [vi p.1, vi p.2] := spD_one p O
      obtain rfl | ⟨o, x, rfl⟩ := out_cases O
      · simp [repl, splice, w1]
        refine ⟨i + 1, [], ⟨by omega, fun _ => rfl⟩, by omega, ?_⟩
        rw [hnx, hdrV_snoc, outZ_snoc, List.append_nil, fin]
        refine Weak.mkM hE (lk [(0, 0), (1, 1), (2, 2), (3, 3145733)]) _ _ _ ?_ ?_ ?_ ?_ ?_ ?_ <;> simp
      · have htk := cells_take (o ++ [x]) zz
        have hdl3 := spD_len (o ++ [x] ++ zz)
        have hOne : o ++ [x] ≠ [] := by simp
        obtain ⟨N, hN⟩ : ∃ N, (o ++ [x]).length = N := ⟨_, rfl⟩
        have hdo := spD_len (o ++ [x])
        rw [List.length_append, hN] at hdl3
        rw [hN] at htk hOl hdo
        rw [hdrV_ne hOne, outZ_ne hOne, hN]
        have hcc : cellsI (o ++ [x] ++ zz) = List.map V.d (spD (o ++ [x] ++ zz)) := rfl
        rw [hcc]
        generalize spD (o ++ [x] ++ zz) = ds at htk hdl3 ⊢
        generalize spD (o ++ [x]) = eo at fin htk hdo
        have hfit : N * 2 ≤ ds.length ∧ (N + 1) * 16 ≤ 140737488355328 ∧ N + 1 ≤ 9223372036854775807 := by omega
        simp [repl, splice, w1, hfit, htk]
        refine ⟨i + 1, [], ⟨by omega, fun _ => rfl⟩, by omega, ?_⟩
        rw [hnx, hdrV_snoc, outZ_snoc, List.append_nil, fin, hN]
        refine Weak.mkM hE (lk [(0, 0), (1, 1), (2, 2), (3, 3145733)]) _ _ _ ?_ ?_ ?_ ?_ ?_ ?_ <;> simp
        rintro c (⟨a, _, rfl⟩ | rfl | rfl) <;> simp
  · simp at h
    have hil : i = l.length := by omega
    subst hil
    rw [hz rfl, List.take_length, hch, List.reverse_cons, ← List.append_assoc, hdrV_snoc, outZ_snoc]
    obtain ⟨O, hO⟩ : ∃ O, B ++ rest.reverse = O := ⟨_, rfl⟩
    rw [hO]
    try rw [hO] at hR
    have hOl : O.length ≤ 1000000 := by
      have := hcl l.length
      rw [List.take_length, hch] at this
      rw [← hO]; simp at this ⊢; omega
    have w2 : IntKind.wrap .i64 (O.length : Int) = (O.length : Int) := wrap64 (by omega) (by omega)
    have hOr : O.length = B.length + rest.length := by rw [← hO]; simp
    have hOn : (O.length : Int) ≤ (O.length : Int) + 1 := by omega
    have hOm : O.length ≤ O.length + 1 := by omega
    have hcO := spD_one top O
    rw [List.append_nil, show cellsI (O ++ [top]) = (spD O).map V.d ++ [vi top.1, vi top.2] from hcO]
    simp [w2, hOn, splice]
    refine RetOk.by (lk [(0, 0), (1, 1), (2, 2), (4, 3)]) ?_
    simp [results224]
    exact hOr
end Go.Proofs.Tryz
namespace Go.Proofs.Tryz
open Go.Psl
open Go.Geo (cross pushS chainR hullS)
def sortC (l : List (Int × Int)) : List (Int × Int) := l.mergeSort fun x y => !decide (orderS y x < 0)
def hullP (l : List (Int × Int)) : List (Int × Int) := hullS (ddC (sortC l))
theorem sortC_len (l : List (Int × Int)) : (sortC l).length = l.length := List.length_mergeSort _
theorem sortC_mem (l : List (Int × Int)) (p : Int × Int) : p ∈ sortC l ↔ p ∈ l := (List.mergeSort_perm l _).mem_iff
theorem ddC_mem {p : Int × Int} : ∀ l : List (Int × Int), p ∈ ddC l ↔ p ∈ l := by
  have key : ∀ (l d : List (Int × Int)), p ∈ l.foldl ddStep d ↔ p ∈ d ∨ p ∈ l := by
    intro l
    induction l with
    | nil => intro d; simp
    | cons a l ih =>
      intro d
      rw [List.foldl_cons, ih]
      unfold ddStep
      by_cases h : d.getLast? = some a
      · rw [if_pos h]
        have := List.mem_of_getLast? h
        simp only [List.mem_cons]
        constructor
        · rintro (h | h); exact Or.inl h; exact Or.inr (Or.inr h)
        · rintro (h | rfl | h); exact Or.inl h; exact Or.inl this; exact Or.inr h
      · rw [if_neg h]
        simp only [List.mem_append, List.mem_cons, List.not_mem_nil, or_false]
        constructor
        · rintro ((h | h) | h); exact Or.inl h; exact Or.inr (Or.inl h); exact Or.inr (Or.inr h)
        · rintro (h | h | h); exact Or.inl (Or.inl h); exact Or.inl (Or.inr h); exact Or.inr h
  intro l
  have := key l []
  simp only [List.not_mem_nil, false_or] at this
  exact this
theorem fn168 (hsort : ∀ l : List (Int × Int), 0 < l.length → l.length ≤ 100000 → Cm prog 221 [.ls 0 0 l.length 2, .d (.fn 222 [])] (lk [(0, cellsI l)]) [0] (.ret (.tup [])) (lk [(0, cellsI (sortC l))]))
    (l : List (Int × Int)) (h1 : 0 < l.length) (hl : l.length ≤ 100000) (hbd : ∀ q ∈ l, bd 536870912 q) : ∃ z, Ct prog 168 [.d (spansD l)] (.ls 0 0 (hullP l).length 2) [(0, cellsI (hullP l ++ z))] := by
  have hne : l ≠ [] := by intro h; rw [h] at h1; simp at h1
  obtain ⟨L, hL⟩ : ∃ L, ddC (sortC l) = L := ⟨_, rfl⟩
  have hLm : ∀ q ∈ L, bd 536870912 q := fun q hq => hbd q (by rw [← hL, ddC_mem, sortC_mem] at hq; exact hq)
  have hLl : L.length ≤ l.length := by
    have := dd_len (sortC l) l.length
    rw [List.take_of_length_le (by rw [sortC_len]; omega), hL] at this
    exact this
  have c1 := fn220 l (by omega) hne
  have c2 := hsort l h1 hl
  have c3 := fn223 (sortC l) (by rw [sortC_len]; omega)
  rw [sortC_len, hL] at c3
  obtain ⟨zl, hzl⟩ : ∃ zl, List.replicate (l.length - L.length) ((0 : Int), (0 : Int)) = zl := ⟨_, rfl⟩
  rw [hzl] at c3
  unfold hullP
  rw [hL]
  have hLpos : 0 < L.length := by
    obtain ⟨p, hp⟩ := List.exists_mem_of_length_pos h1
    have : p ∈ L := by rw [← hL, ddC_mem, sortC_mem]; exact hp
    exact List.length_pos_of_mem this
  have n1 : spD l ≠ [] := by intro h; have := congrArg List.length h; simp at this; omega
  have n2 : spD (sortC l) ≠ [] := by intro h; have := congrArg List.length h; rw [spD_len, sortC_len] at this; simp at this; omega
  have n3 : ∀ z, spD (L ++ z) ≠ [] := by intro z h; have := congrArg List.length h; simp at this; omega
  have d2 := c2.rename (fun _ => 2097152) 1 (by omega) (by simp) (by simp) (by simp)
  have d3 := c3.rename (fun _ => 2097152) 1 (by omega) (by simp) (by simp) (by simp)
  simp [renL, renR] at d2 d3
  by_cases h3 : L.length < 3
  · refine ⟨zl, ?_⟩
    have e : hullS L = L := by unfold hullS; rw [if_pos h3]
    have h3' : (L.length : Int) < 3 := by omega
    rw [e]
    refine Ct.by gok eok mixed func168 c168 rfl (by simp [ntmps168]) (by simp) (by simp [ResIds]) fun E hE => ?_
    simp [p168]
    refine ACall.mk _ _ _ (c1) (by first | (simp; done) | simp [Bor_ls, Bor1_ls]) (by simp) (by first | (left; simp; done) | (right; simp; done)) ?_
    simp [splice]
    refine ACall.mkR _ _ _ _ _ (d2) (by simp) (by simp) (by simp [n1]) (by simp) (by first | (left; simp; done) | (right; simp [n1]; done)) ?_
    simp
    refine ACall.mkR _ _ _ _ _ (d3) (by simp) (by simp) (by simp [n2]) (by simp) (by first | (left; simp; done) | (right; simp [n2]; done)) ?_
    simp [splice, h3']
    refine RetOk.by (lk [(0, 2097152)]) ?_
    simp [results168]
  · have h3' : ¬ (L.length : Int) < 3 := by omega
    obtain ⟨z1, c4⟩ := fn224 [] [] L zl (by simp) (by omega) hLm (by omega)
    have c5 := fn225 L zl (by omega)
    obtain ⟨lo, hlo⟩ : ∃ lo, (chainR L).tail.reverse = lo := ⟨_, rfl⟩
    have hlol : lo.length ≤ 100000 := by
      have := chainR_len L
      rw [← hlo]; simp; omega
    obtain ⟨z2, c6⟩ := fn224 lo z1 L.reverse zl (by omega) (by rw [List.length_reverse]; omega) (fun q hq => hLm q (List.mem_reverse.1 hq)) (by rw [List.length_reverse]; omega)
    have e : hullS L = lo ++ (chainR L.reverse).tail.reverse := by unfold hullS; rw [if_neg h3, hlo]
    rw [← e] at c6
    rw [hlo, List.nil_append] at c4
    have hlone : lo ≠ [] := by
      obtain ⟨top, rest, h, hr⟩ := chain_two (l := L) (by omega)
      rw [← hlo, h]; simpa using hr
    have hRne : hullS L ≠ [] := by rw [e]; simp [hlone]
    rw [hdrV_ne hlone, outZ_ne hlone] at c4 c6
    rw [hdrV_ne hRne, outZ_ne hRne, List.length_reverse] at c6
    have n4 : ∀ z, spD (L.reverse ++ z) ≠ [] := by intro z h; have := congrArg List.length h; simp at this; omega
    have n5 : ∀ z, spD (lo ++ z) ≠ [] := by intro z h; have := congrArg List.length h; have h8 := List.length_pos_iff.2 hlone; simp only [spD_len, List.length_append, List.length_nil] at this; omega
    refine ⟨z2, ?_⟩
    refine Ct.by gok eok mixed func168 c168 rfl (by simp [ntmps168]) (by simp) (by simp [ResIds]) fun E hE => ?_
    simp [p168]
    refine ACall.mk _ _ _ (c1) (by first | (simp; done) | simp [Bor_ls, Bor1_ls]) (by simp) (by first | (left; simp; done) | (right; simp; done)) ?_
    simp [splice]
    refine ACall.mkR _ _ _ _ _ (d2) (by simp) (by simp) (by simp [n1]) (by simp) (by first | (left; simp; done) | (right; simp [n1]; done)) ?_
    simp
    refine ACall.mkR _ _ _ _ _ (d3) (by simp) (by simp) (by simp [n2]) (by simp) (by first | (left; simp; done) | (right; simp [n2]; done)) ?_
    have d4 := c4.rename (fun i => if i = 0 then 13631488 else if i = 1 then 3145728 else if i = 2 then 2097152 else i) 5 (by intro i j hi hj h; (repeat' split at h) <;> omega) (by simp) (by simp) (by simp)
    have d5 := c5.rename (fun _ => 2097152) 1 (by omega) (by simp) (by simp) (by simp)
    have d6 := c6.rename (fun i => if i = 0 then 13631488 else if i = 1 then 3145728 else if i = 2 then 2097152 else if i = 3 then 17825796 else i) 5 (by intro i j hi hj h; (repeat' split at h) <;> omega) (by simp) (by simp) (by simp)
    simp [renL, renR] at d4 d5 d6
    simp [splice, h3']
    refine ACall.mkR _ _ _ _ _ (d4) (by simp) (by simp) (by simp [n3]) (by simp) (by first | (left; simp; done) | (right; simp [n3]; done)) ?_
    simp
    refine ACall.mkR _ _ _ _ _ (d5) (by simp) (by simp) (by simp [n3]) (by simp) (by first | (left; simp; done) | (right; simp [n3]; done)) ?_
    simp
    refine ACall.mkR _ _ _ _ _ (d6) (by simp) (by simp) (by simp [n4]) (by simp) (by first | (left; simp; done) | (right; simp [n4, n5]; done)) ?_
    simp
    refine RetOk.by (lk [(0, 22020100)]) ?_
    simp [results168]
end Go.Proofs.Tryz
namespace Go.Proofs.Tryz
open Go.Psl
open Go.Geo (cross pushS chainR hullS)
def SortOk : Prop := ∀ l : List (Int × Int), 0 < l.length → l.length ≤ 100000 → Cm prog 221 [.ls 0 0 l.length 2, .d (.fn 222 [])] (lk [(0, cellsI l)]) [0] (.ret (.tup [])) (lk [(0, cellsI (sortC l))])
def regS (r : List (Int × Int)) : Bool := decide (1 ≤ r.length) && decide (r.length ≤ 64) && nearC r && decide (hullP r = r)
theorem near_bd {l : List (Int × Int)} (h : nearC l = true) : ∀ q ∈ l, bd 536870912 q := fun q hq => by
  have := okC_iff.1 (List.all_eq_true.1 h q hq)
  unfold bd at *; omega
theorem hullP_len (l : List (Int × Int)) : (hullP l).length ≤ 2 * l.length := by
  have h1 : (ddC (sortC l)).length ≤ l.length := by
    have := dd_len (sortC l) l.length
    rw [List.take_of_length_le (by rw [sortC_len]; omega)] at this
    exact this
  unfold hullP hullS
  split
  · omega
  · have h2 := chainR_len (ddC (sortC l))
    have h3 := chainR_len (ddC (sortC l)).reverse
    simp at h3 ⊢; omega
theorem bor_cut {H : Hp} {id : Nat} {l z : List (Int × Int)} (h : H id = some (cellsI (l ++ z))) : Bor H (.ls id 0 l.length 2) (.d (spansD l)) := by
  rw [Bor_ls]
  refine ⟨rfl, by simp, fun e he => ?_, _, h, ?_⟩
  · simp only [List.mem_map] at he
    obtain ⟨k, _, rfl⟩ := he
    rfl
  · rw [sp_flat', List.drop_zero, cells_take]
theorem fn92 (hS : SortOk) (r : List (Int × Int)) (hr : r.length ≤ 1000000000) : Ct prog 92 [.d (spansD r)] (vi (if regS r then 0 else 14)) [] := by
  refine Ct.by gok eok mixed func92 c92 rfl (by simp [ntmps92]) (by simp) (by simp [ResIds]) fun E hE => ?_
  by_cases h1 : r.length < 1
  · have h1' : (r.length : Int) < 1 := by omega
    have e : regS r = false := by unfold regS; rw [decide_eq_false (p := 1 ≤ r.length) (by omega)]; simp
    simp [p92, h1']
    refine RetOk.by (fun _ => none) ?_
    simp [results92, e]
  have h1' : ¬ (r.length : Int) < 1 := by omega
  by_cases h2 : 64 < r.length
  · have h2' : (64 : Int) < r.length := by omega
    have e : regS r = false := by unfold regS; rw [decide_eq_false (p := r.length ≤ 64) (by omega)]; simp
    simp [p92, h1', h2']
    refine RetOk.by (fun _ => none) ?_
    simp [results92, e]
  have h2' : ¬ (64 : Int) < r.length := by omega
  simp [p92, h1', h2']
  refine ACall.mk _ _ _ (fn125 r hr) (by first | (simp; done) | simp [Bor_ls, Bor1_ls]) (by simp) (by first | (left; simp; done) | (right; simp; done)) ?_
  by_cases h3 : nearC r = true
  · simp [h3]
    obtain ⟨z, c⟩ := fn168 hS r (by omega) (by omega) (near_bd h3)
    refine ACall.mk _ _ _ (c) (by first | (simp; done) | simp [Bor_ls, Bor1_ls]) (by simp) (by first | (left; simp; done) | (right; simp; done)) ?_
    simp
    have hpl := hullP_len r
    refine ACall.mk _ _ _ (fn167 (hullP r) r (by omega) (by omega)) (by simp [bor_cut (z := z)]) (by simp) (by first | (left; simp; done) | (right; simp; done)) ?_
    have e : regS r = decide (hullP r = r) := by unfold regS; rw [decide_eq_true (p := 1 ≤ r.length) (by omega), decide_eq_true (p := r.length ≤ 64) (by omega), h3]; rfl
    by_cases h4 : hullP r = r
    · simp [h4]
      refine RetOk.by (fun _ => none) ?_
      simp [results92, e, h4]
    · simp [h4]
      refine RetOk.by (fun _ => none) ?_
      simp [results92, e, h4]
  · simp [h3]
    have e : regS r = false := by unfold regS; simp [h3]
    refine RetOk.by (fun _ => none) ?_
    simp [results92, e]
end Go.Proofs.Tryz
namespace Go.Proofs.Tryz
open Go.Psl
open Go.Air
set_option maxRecDepth 20000
set_option maxHeartbeats 8000000
structure Rig where
  reg : List (Int × Int)
  gl : Int
  gh : Int
  tank : Int
  rsv : Int
  lo : Int
  hi : Int
abbrev rigL (r : Rig) : List D := [spansD r.reg, di r.gl, di r.gh, di r.tank, di r.rsv, di r.lo, di r.hi]
abbrev rigV (r : Rig) : V := .agg [.d (spansD r.reg), vi r.gl, vi r.gh, vi r.tank, vi r.rsv, vi r.lo, vi r.hi]
structure Leg where
  m : Int
  axl : Int
  axh : Int
  ayl : Int
  ayh : Int
  ul : Int
  uh : Int
  bl : Int
  bh : Int
  dr : Int
  acts : List Act
abbrev legL (l : Leg) : List D := [di l.m, di l.axl, di l.axh, di l.ayl, di l.ayh, di l.ul, di l.uh, di l.bl, di l.bh, di l.dr, actsD l.acts]
abbrev legV (l : Leg) : V := .agg [vi l.m, vi l.axl, vi l.axh, vi l.ayl, vi l.ayh, vi l.ul, vi l.uh, vi l.bl, vi l.bh, vi l.dr, .d (actsD l.acts)]
abbrev legsD (l : List Leg) : D := .sl 11 (l.map legL)
def okRig (r : Rig) : Bool := spB 0 120 r.gl r.gh && rgB 0 1000000000 [r.tank, r.rsv] && spB (-500) 9000 r.lo r.hi && regS r.reg
def okAct (a : Act) : Bool := decide (a.k = 3) || decide (a.k = 4)
def okLeg (l : Leg) : Bool := rgB 1 600 [l.m] && (spB (-1000) 1000 l.axl l.axh && spB (-1000) 1000 l.ayl l.ayh) && spB (-300) 300 l.ul l.uh && spB 0 1000000 l.bl l.bh && rgB 0 1000000000 [l.dr] && decide (l.acts.length ≤ 12) && l.acts.all okAct
def sumM (l : List Leg) : Int := (l.map (·.m)).sum
def chkL (l : List Leg) : Int := if 20 < l.length then 4 else if l.all okLeg then (if 600 < sumM l then 4 else 0) else 53
def grL (l : List Leg) : Bool := decide (30 < l.length) || l.any (fun x => decide (20 < x.acts.length)) || (decide (60 < (l.map fun x => min (max x.m 0) 1000).sum) && decide (chkL l = 0))
theorem okLeg_m {l : Leg} (h : okLeg l = true) : 1 ≤ l.m ∧ l.m ≤ 600 := by
  unfold okLeg at h
  simp only [Bool.and_eq_true] at h
  have := h.1.1.1.1.1.1
  simpa [rgB] using this
theorem sumM_take {l : List Leg} {i : Nat} {x : Leg} (h : l[i]? = some x) : sumM (l.take (i + 1)) = sumM (l.take i) + x.m := by
  unfold sumM; rw [List.take_add_one, h]; simp
theorem sumM_bd : ∀ {l : List Leg}, (∀ x ∈ l, okLeg x = true) → 0 ≤ sumM l ∧ sumM l ≤ l.length * 600
  | [], _ => by simp [sumM]
  | c :: l, h => by
    have h1 := okLeg_m (h c (by simp))
    have h2 := sumM_bd (l := l) fun x hx => h x (by simp [hx])
    unfold sumM at h2 ⊢
    simp only [List.map_cons, List.sum_cons, List.length_cons]
    omega
theorem fn171 (a : Act) : Ct prog 171 [actV a] (vb (okAct a)) [] := by
  by_cases h3 : a.k = 3
  · have e : okAct a = true := by unfold okAct; simp [h3]
    refine Ct.by gok eok mixed func171 c171 rfl (by simp [ntmps171]) (by simp) (by simp [ResIds]) fun E hE => ?_
    simp [p171, h3]
    refine RetOk.by (fun _ => none) ?_
    simp [results171, e]
  · by_cases h4 : a.k = 4
    · have e : okAct a = true := by unfold okAct; simp [h4]
      refine Ct.by gok eok mixed func171 c171 rfl (by simp [ntmps171]) (by simp) (by simp [ResIds]) fun E hE => ?_
      simp [p171, h4]
      refine RetOk.by (fun _ => none) ?_
      simp [results171, e]
    · have e : okAct a = false := by unfold okAct; simp [h3, h4]
      refine Ct.by gok eok mixed func171 c171 rfl (by simp [ntmps171]) (by simp) (by simp [ResIds]) fun E hE => ?_
      simp [p171, h3, h4]
      refine RetOk.by (fun _ => none) ?_
      simp [results171, e]
theorem fn170 (l : List Act) (g : FuncId) (ds : List D) (q : Act → Bool) (hl : l.length ≤ 1000000000) (hg : ∀ p ∈ l, Ct prog g (actV p :: ds.map .d) (vb (q p)) []) : Ct prog 170 [.d (actsD l), .d (.fn g ds)] (vb (l.all q)) [] := by
  refine Ct.by gok eok mixed func170 c170 rfl (by simp [ntmps170]) (by simp) (by simp [ResIds]) fun E hE => ?_
  simp [p170]
  refine pw_loop (α := Nat) (fun i => ⟨slots [(1, .d (.fn g ds)), (7, .d (actsD l)), (8, vi l.length), (9, vi i)], lk [], 0⟩) (fun i => i ≤ l.length ∧ ∀ j, j < i → (l[j]?).all q = true) (fun i => l.length - i) 0 ?_ ?_ ?_
  · exact ⟨by omega, fun j hj => by omega⟩
  · refine Weak.mk hE (lk []) _ _ _ ?_ ?_ ?_ ?_ ?_ <;> simp
  · rintro i ⟨hi, hg3⟩
    have hz : IntKind.wrap .i64 ((i : Int) + 1) = ((i + 1 : Nat) : Int) := by rw [wrap64 (by omega) (by omega)]; omega
    by_cases h : i < l.length
    · have hI : (i : Int) < l.length := by omega
      obtain ⟨p, hp⟩ : ∃ p, l[i]? = some p := ⟨_, List.getElem?_eq_getElem h⟩
      simp [p170l0, hI, hp, splice]
      refine ACall.mk _ _ _ (hg p (List.mem_of_getElem? hp)) (by first | (simp; done) | simp [Bor_ls, Bor1_ls]) (by simp) (by first | (left; simp; done) | (right; simp; done)) ?_
      cases hq : q p
      · have e : l.all q = false := by rw [List.all_eq_false]; exact ⟨p, List.mem_of_getElem? hp, by simp [hq]⟩
        simp
        refine RetOk.by (fun _ => none) ?_
        simp [results170, e]
      · simp [hz]
        refine ⟨i + 1, ⟨by omega, fun j hj => ?_⟩, by omega, ?_⟩
        · by_cases e : j = i
          · subst e; rw [hp]; simp [hq]
          · exact hg3 j (by omega)
        · refine Weak.mk hE (lk []) _ _ _ ?_ ?_ ?_ ?_ ?_ <;> simp
    · have hI : ¬ (i : Int) < l.length := by omega
      have e : l.all q = true := by
        rw [List.all_eq_true]
        intro x hx
        obtain ⟨j, hj⟩ := List.getElem?_of_mem hx
        have := hg3 j (by have := (List.getElem?_eq_some_iff.1 hj).1; omega)
        rw [hj] at this; simpa using this
      simp [p170l0, hI]
      refine RetOk.by (fun _ => none) ?_
      simp [results170, e]
theorem fn94 (l : Leg) (hl : l.acts.length ≤ 1000000000) : Ct prog 94 [legV l] (vi (if okLeg l then 0 else 53)) [] := by
  have c1 := fn91 1 600 [l.m] (by simp)
  have c2 := fn90 (-1000) 1000 [(l.axl, l.axh), (l.ayl, l.ayh)] (by simp)
  have c3 := fn90 (-300) 300 [(l.ul, l.uh)] (by simp)
  have c4 := fn90 0 1000000 [(l.bl, l.bh)] (by simp)
  have c5 := fn91 0 1000000000 [l.dr] (by simp)
  have c6 := fn170 l.acts 171 [] okAct hl fun a _ => fn171 a
  simp only [List.all_cons, List.all_nil, Bool.and_true] at c1 c2 c3 c4
  have e : okLeg l = (rgB 1 600 [l.m] && (spB (-1000) 1000 l.axl l.axh && spB (-1000) 1000 l.ayl l.ayh) && spB (-300) 300 l.ul l.uh && spB 0 1000000 l.bl l.bh && rgB 0 1000000000 [l.dr] && decide (l.acts.length ≤ 12) && l.acts.all okAct) := rfl
  generalize rgB 1 600 [l.m] = b1 at *
  generalize (spB (-1000) 1000 l.axl l.axh && spB (-1000) 1000 l.ayl l.ayh) = b2 at *
  generalize spB (-300) 300 l.ul l.uh = b3 at *
  generalize spB 0 1000000 l.bl l.bh = b4 at *
  generalize rgB 0 1000000000 [l.dr] = b5 at *
  generalize l.acts.all okAct = b6 at *
  rw [e]
  by_cases hm : l.acts.length ≤ 12
  · have hn : ¬ (12 : Int) < l.acts.length := by omega
    cases b1
    · refine Ct.by gok eok mixed func94 c94 rfl (by simp [ntmps94]) (by simp) (by simp [ResIds]) fun E hE => ?_
      simp [p94, splice, repl]
      repeat ((first | (refine ACall.mk _ _ _ (c1) ?_ ?_ ?_ ?_; (focus (simp [bor_i1]; done)); (focus (simp; done)); (focus (first | (left; simp; done) | (right; simp; done)))) | (refine ACall.mk _ _ _ (c2) ?_ ?_ ?_ ?_; (focus (simp [bor_i1, bor_s1, bor_s2]; done)); (focus (simp; done)); (focus (first | (left; simp; done) | (right; simp; done)))) | (refine ACall.mk _ _ _ (c3) ?_ ?_ ?_ ?_; (focus (simp [bor_i1, bor_s1, bor_s2]; done)); (focus (simp; done)); (focus (first | (left; simp; done) | (right; simp; done)))) | (refine ACall.mk _ _ _ (c4) ?_ ?_ ?_ ?_; (focus (simp [bor_i1, bor_s1, bor_s2]; done)); (focus (simp; done)); (focus (first | (left; simp; done) | (right; simp; done)))) | (refine ACall.mk _ _ _ (c5) ?_ ?_ ?_ ?_; (focus (simp [bor_i1, bor_s1, bor_s2]; done)); (focus (simp; done)); (focus (first | (left; simp; done) | (right; simp; done)))) | (refine ACall.mk _ _ _ (c6) ?_ ?_ ?_ ?_; (focus (simp [bor_i1, bor_s1, bor_s2]; done)); (focus (simp; done)); (focus (first | (left; simp; done) | (right; simp; done))))); simp)
      refine RetOk.by (fun _ => none) ?_
      simp [results94]
    cases b2
    · refine Ct.by gok eok mixed func94 c94 rfl (by simp [ntmps94]) (by simp) (by simp [ResIds]) fun E hE => ?_
      simp [p94, splice, repl]
      repeat ((first | (refine ACall.mk _ _ _ (c1) ?_ ?_ ?_ ?_; (focus (simp [bor_i1]; done)); (focus (simp; done)); (focus (first | (left; simp; done) | (right; simp; done)))) | (refine ACall.mk _ _ _ (c2) ?_ ?_ ?_ ?_; (focus (simp [bor_s2]; done)); (focus (simp; done)); (focus (first | (left; simp; done) | (right; simp; done)))) | (refine ACall.mk _ _ _ (c3) ?_ ?_ ?_ ?_; (focus (simp [bor_i1, bor_s1, bor_s2]; done)); (focus (simp; done)); (focus (first | (left; simp; done) | (right; simp; done)))) | (refine ACall.mk _ _ _ (c4) ?_ ?_ ?_ ?_; (focus (simp [bor_i1, bor_s1, bor_s2]; done)); (focus (simp; done)); (focus (first | (left; simp; done) | (right; simp; done)))) | (refine ACall.mk _ _ _ (c5) ?_ ?_ ?_ ?_; (focus (simp [bor_i1, bor_s1, bor_s2]; done)); (focus (simp; done)); (focus (first | (left; simp; done) | (right; simp; done)))) | (refine ACall.mk _ _ _ (c6) ?_ ?_ ?_ ?_; (focus (simp [bor_i1, bor_s1, bor_s2]; done)); (focus (simp; done)); (focus (first | (left; simp; done) | (right; simp; done))))); simp [splice, repl])
      refine RetOk.by (fun _ => none) ?_
      simp [results94]
    cases b3
    · refine Ct.by gok eok mixed func94 c94 rfl (by simp [ntmps94]) (by simp) (by simp [ResIds]) fun E hE => ?_
      simp [p94, splice, repl]
      repeat ((first | (refine ACall.mk _ _ _ (c1) ?_ ?_ ?_ ?_; (focus (simp [bor_i1]; done)); (focus (simp; done)); (focus (first | (left; simp; done) | (right; simp; done)))) | (refine ACall.mk _ _ _ (c2) ?_ ?_ ?_ ?_; (focus (simp [bor_s2]; done)); (focus (simp; done)); (focus (first | (left; simp; done) | (right; simp; done)))) | (refine ACall.mk _ _ _ (c3) ?_ ?_ ?_ ?_; (focus (simp [bor_s1]; done)); (focus (simp; done)); (focus (first | (left; simp; done) | (right; simp; done)))) | (refine ACall.mk _ _ _ (c4) ?_ ?_ ?_ ?_; (focus (simp [bor_i1, bor_s1, bor_s2]; done)); (focus (simp; done)); (focus (first | (left; simp; done) | (right; simp; done)))) | (refine ACall.mk _ _ _ (c5) ?_ ?_ ?_ ?_; (focus (simp [bor_i1, bor_s1, bor_s2]; done)); (focus (simp; done)); (focus (first | (left; simp; done) | (right; simp; done)))) | (refine ACall.mk _ _ _ (c6) ?_ ?_ ?_ ?_; (focus (simp [bor_i1, bor_s1, bor_s2]; done)); (focus (simp; done)); (focus (first | (left; simp; done) | (right; simp; done))))); simp [splice, repl])
      refine RetOk.by (fun _ => none) ?_
      simp [results94]
    cases b4
    · refine Ct.by gok eok mixed func94 c94 rfl (by simp [ntmps94]) (by simp) (by simp [ResIds]) fun E hE => ?_
      simp [p94, splice, repl]
      repeat ((first | (refine ACall.mk _ _ _ (c1) ?_ ?_ ?_ ?_; (focus (simp [bor_i1]; done)); (focus (simp; done)); (focus (first | (left; simp; done) | (right; simp; done)))) | (refine ACall.mk _ _ _ (c2) ?_ ?_ ?_ ?_; (focus (simp [bor_s2]; done)); (focus (simp; done)); (focus (first | (left; simp; done) | (right; simp; done)))) | (refine ACall.mk _ _ _ (c3) ?_ ?_ ?_ ?_; (focus (simp [bor_s1]; done)); (focus (simp; done)); (focus (first | (left; simp; done) | (right; simp; done)))) | (refine ACall.mk _ _ _ (c4) ?_ ?_ ?_ ?_; (focus (simp [bor_s1]; done)); (focus (simp; done)); (focus (first | (left; simp; done) | (right; simp; done)))) | (refine ACall.mk _ _ _ (c5) ?_ ?_ ?_ ?_; (focus (simp [bor_i1, bor_s1, bor_s2]; done)); (focus (simp; done)); (focus (first | (left; simp; done) | (right; simp; done)))) | (refine ACall.mk _ _ _ (c6) ?_ ?_ ?_ ?_; (focus (simp [bor_i1, bor_s1, bor_s2]; done)); (focus (simp; done)); (focus (first | (left; simp; done) | (right; simp; done))))); simp [splice, repl])
      refine RetOk.by (fun _ => none) ?_
      simp [results94]
    cases b5
    · refine Ct.by gok eok mixed func94 c94 rfl (by simp [ntmps94]) (by simp) (by simp [ResIds]) fun E hE => ?_
      simp [p94, splice, repl]
      repeat ((first | (refine ACall.mk _ _ _ (c1) ?_ ?_ ?_ ?_; (focus (simp [bor_i1]; done)); (focus (simp; done)); (focus (first | (left; simp; done) | (right; simp; done)))) | (refine ACall.mk _ _ _ (c2) ?_ ?_ ?_ ?_; (focus (simp [bor_s2]; done)); (focus (simp; done)); (focus (first | (left; simp; done) | (right; simp; done)))) | (refine ACall.mk _ _ _ (c3) ?_ ?_ ?_ ?_; (focus (simp [bor_s1]; done)); (focus (simp; done)); (focus (first | (left; simp; done) | (right; simp; done)))) | (refine ACall.mk _ _ _ (c4) ?_ ?_ ?_ ?_; (focus (simp [bor_s1]; done)); (focus (simp; done)); (focus (first | (left; simp; done) | (right; simp; done)))) | (refine ACall.mk _ _ _ (c5) ?_ ?_ ?_ ?_; (focus (simp [bor_i1]; done)); (focus (simp; done)); (focus (first | (left; simp; done) | (right; simp; done)))) | (refine ACall.mk _ _ _ (c6) ?_ ?_ ?_ ?_; (focus (simp [bor_i1, bor_s1, bor_s2]; done)); (focus (simp; done)); (focus (first | (left; simp; done) | (right; simp; done))))); simp [splice, repl])
      refine RetOk.by (fun _ => none) ?_
      simp [results94]
    cases b6
    · refine Ct.by gok eok mixed func94 c94 rfl (by simp [ntmps94]) (by simp) (by simp [ResIds]) fun E hE => ?_
      simp [p94, splice, repl]
      repeat ((first | (refine ACall.mk _ _ _ (c1) ?_ ?_ ?_ ?_; (focus (simp [bor_i1]; done)); (focus (simp; done)); (focus (first | (left; simp; done) | (right; simp; done)))) | (refine ACall.mk _ _ _ (c2) ?_ ?_ ?_ ?_; (focus (simp [bor_s2]; done)); (focus (simp; done)); (focus (first | (left; simp; done) | (right; simp; done)))) | (refine ACall.mk _ _ _ (c3) ?_ ?_ ?_ ?_; (focus (simp [bor_s1]; done)); (focus (simp; done)); (focus (first | (left; simp; done) | (right; simp; done)))) | (refine ACall.mk _ _ _ (c4) ?_ ?_ ?_ ?_; (focus (simp [bor_s1]; done)); (focus (simp; done)); (focus (first | (left; simp; done) | (right; simp; done)))) | (refine ACall.mk _ _ _ (c5) ?_ ?_ ?_ ?_; (focus (simp [bor_i1]; done)); (focus (simp; done)); (focus (first | (left; simp; done) | (right; simp; done)))) | (refine ACall.mk _ _ _ (c6) ?_ ?_ ?_ ?_; (focus (simp; done)); (focus (simp; done)); (focus (first | (left; simp; done) | (right; simp; done))))); simp [splice, repl, hn])
      refine RetOk.by (fun _ => none) ?_
      simp [results94]
    · refine Ct.by gok eok mixed func94 c94 rfl (by simp [ntmps94]) (by simp) (by simp [ResIds]) fun E hE => ?_
      simp [p94, splice, repl]
      repeat ((first | (refine ACall.mk _ _ _ (c1) ?_ ?_ ?_ ?_; (focus (simp [bor_i1]; done)); (focus (simp; done)); (focus (first | (left; simp; done) | (right; simp; done)))) | (refine ACall.mk _ _ _ (c2) ?_ ?_ ?_ ?_; (focus (simp [bor_s2]; done)); (focus (simp; done)); (focus (first | (left; simp; done) | (right; simp; done)))) | (refine ACall.mk _ _ _ (c3) ?_ ?_ ?_ ?_; (focus (simp [bor_s1]; done)); (focus (simp; done)); (focus (first | (left; simp; done) | (right; simp; done)))) | (refine ACall.mk _ _ _ (c4) ?_ ?_ ?_ ?_; (focus (simp [bor_s1]; done)); (focus (simp; done)); (focus (first | (left; simp; done) | (right; simp; done)))) | (refine ACall.mk _ _ _ (c5) ?_ ?_ ?_ ?_; (focus (simp [bor_i1]; done)); (focus (simp; done)); (focus (first | (left; simp; done) | (right; simp; done)))) | (refine ACall.mk _ _ _ (c6) ?_ ?_ ?_ ?_; (focus (simp; done)); (focus (simp; done)); (focus (first | (left; simp; done) | (right; simp; done))))); simp [splice, repl, hn])
      refine RetOk.by (fun _ => none) ?_
      simp [results94, hm]
  · have hn : (12 : Int) < l.acts.length := by omega
    cases b1
    · refine Ct.by gok eok mixed func94 c94 rfl (by simp [ntmps94]) (by simp) (by simp [ResIds]) fun E hE => ?_
      simp [p94, splice, repl]
      repeat ((first | (refine ACall.mk _ _ _ (c1) ?_ ?_ ?_ ?_; (focus (simp [bor_i1]; done)); (focus (simp; done)); (focus (first | (left; simp; done) | (right; simp; done)))) | (refine ACall.mk _ _ _ (c2) ?_ ?_ ?_ ?_; (focus (simp [bor_i1, bor_s1, bor_s2]; done)); (focus (simp; done)); (focus (first | (left; simp; done) | (right; simp; done)))) | (refine ACall.mk _ _ _ (c3) ?_ ?_ ?_ ?_; (focus (simp [bor_i1, bor_s1, bor_s2]; done)); (focus (simp; done)); (focus (first | (left; simp; done) | (right; simp; done)))) | (refine ACall.mk _ _ _ (c4) ?_ ?_ ?_ ?_; (focus (simp [bor_i1, bor_s1, bor_s2]; done)); (focus (simp; done)); (focus (first | (left; simp; done) | (right; simp; done)))) | (refine ACall.mk _ _ _ (c5) ?_ ?_ ?_ ?_; (focus (simp [bor_i1, bor_s1, bor_s2]; done)); (focus (simp; done)); (focus (first | (left; simp; done) | (right; simp; done)))) | (refine ACall.mk _ _ _ (c6) ?_ ?_ ?_ ?_; (focus (simp [bor_i1, bor_s1, bor_s2]; done)); (focus (simp; done)); (focus (first | (left; simp; done) | (right; simp; done))))); simp)
      refine RetOk.by (fun _ => none) ?_
      simp [results94]
    cases b2
    · refine Ct.by gok eok mixed func94 c94 rfl (by simp [ntmps94]) (by simp) (by simp [ResIds]) fun E hE => ?_
      simp [p94, splice, repl]
      repeat ((first | (refine ACall.mk _ _ _ (c1) ?_ ?_ ?_ ?_; (focus (simp [bor_i1]; done)); (focus (simp; done)); (focus (first | (left; simp; done) | (right; simp; done)))) | (refine ACall.mk _ _ _ (c2) ?_ ?_ ?_ ?_; (focus (simp [bor_s2]; done)); (focus (simp; done)); (focus (first | (left; simp; done) | (right; simp; done)))) | (refine ACall.mk _ _ _ (c3) ?_ ?_ ?_ ?_; (focus (simp [bor_i1, bor_s1, bor_s2]; done)); (focus (simp; done)); (focus (first | (left; simp; done) | (right; simp; done)))) | (refine ACall.mk _ _ _ (c4) ?_ ?_ ?_ ?_; (focus (simp [bor_i1, bor_s1, bor_s2]; done)); (focus (simp; done)); (focus (first | (left; simp; done) | (right; simp; done)))) | (refine ACall.mk _ _ _ (c5) ?_ ?_ ?_ ?_; (focus (simp [bor_i1, bor_s1, bor_s2]; done)); (focus (simp; done)); (focus (first | (left; simp; done) | (right; simp; done)))) | (refine ACall.mk _ _ _ (c6) ?_ ?_ ?_ ?_; (focus (simp [bor_i1, bor_s1, bor_s2]; done)); (focus (simp; done)); (focus (first | (left; simp; done) | (right; simp; done))))); simp [splice, repl])
      refine RetOk.by (fun _ => none) ?_
      simp [results94]
    cases b3
    · refine Ct.by gok eok mixed func94 c94 rfl (by simp [ntmps94]) (by simp) (by simp [ResIds]) fun E hE => ?_
      simp [p94, splice, repl]
      repeat ((first | (refine ACall.mk _ _ _ (c1) ?_ ?_ ?_ ?_; (focus (simp [bor_i1]; done)); (focus (simp; done)); (focus (first | (left; simp; done) | (right; simp; done)))) | (refine ACall.mk _ _ _ (c2) ?_ ?_ ?_ ?_; (focus (simp [bor_s2]; done)); (focus (simp; done)); (focus (first | (left; simp; done) | (right; simp; done)))) | (refine ACall.mk _ _ _ (c3) ?_ ?_ ?_ ?_; (focus (simp [bor_s1]; done)); (focus (simp; done)); (focus (first | (left; simp; done) | (right; simp; done)))) | (refine ACall.mk _ _ _ (c4) ?_ ?_ ?_ ?_; (focus (simp [bor_i1, bor_s1, bor_s2]; done)); (focus (simp; done)); (focus (first | (left; simp; done) | (right; simp; done)))) | (refine ACall.mk _ _ _ (c5) ?_ ?_ ?_ ?_; (focus (simp [bor_i1, bor_s1, bor_s2]; done)); (focus (simp; done)); (focus (first | (left; simp; done) | (right; simp; done)))) | (refine ACall.mk _ _ _ (c6) ?_ ?_ ?_ ?_; (focus (simp [bor_i1, bor_s1, bor_s2]; done)); (focus (simp; done)); (focus (first | (left; simp; done) | (right; simp; done))))); simp [splice, repl])
      refine RetOk.by (fun _ => none) ?_
      simp [results94]
    cases b4
    · refine Ct.by gok eok mixed func94 c94 rfl (by simp [ntmps94]) (by simp) (by simp [ResIds]) fun E hE => ?_
      simp [p94, splice, repl]
      repeat ((first | (refine ACall.mk _ _ _ (c1) ?_ ?_ ?_ ?_; (focus (simp [bor_i1]; done)); (focus (simp; done)); (focus (first | (left; simp; done) | (right; simp; done)))) | (refine ACall.mk _ _ _ (c2) ?_ ?_ ?_ ?_; (focus (simp [bor_s2]; done)); (focus (simp; done)); (focus (first | (left; simp; done) | (right; simp; done)))) | (refine ACall.mk _ _ _ (c3) ?_ ?_ ?_ ?_; (focus (simp [bor_s1]; done)); (focus (simp; done)); (focus (first | (left; simp; done) | (right; simp; done)))) | (refine ACall.mk _ _ _ (c4) ?_ ?_ ?_ ?_; (focus (simp [bor_s1]; done)); (focus (simp; done)); (focus (first | (left; simp; done) | (right; simp; done)))) | (refine ACall.mk _ _ _ (c5) ?_ ?_ ?_ ?_; (focus (simp [bor_i1, bor_s1, bor_s2]; done)); (focus (simp; done)); (focus (first | (left; simp; done) | (right; simp; done)))) | (refine ACall.mk _ _ _ (c6) ?_ ?_ ?_ ?_; (focus (simp [bor_i1, bor_s1, bor_s2]; done)); (focus (simp; done)); (focus (first | (left; simp; done) | (right; simp; done))))); simp [splice, repl])
      refine RetOk.by (fun _ => none) ?_
      simp [results94]
    cases b5
    · refine Ct.by gok eok mixed func94 c94 rfl (by simp [ntmps94]) (by simp) (by simp [ResIds]) fun E hE => ?_
      simp [p94, splice, repl]
      repeat ((first | (refine ACall.mk _ _ _ (c1) ?_ ?_ ?_ ?_; (focus (simp [bor_i1]; done)); (focus (simp; done)); (focus (first | (left; simp; done) | (right; simp; done)))) | (refine ACall.mk _ _ _ (c2) ?_ ?_ ?_ ?_; (focus (simp [bor_s2]; done)); (focus (simp; done)); (focus (first | (left; simp; done) | (right; simp; done)))) | (refine ACall.mk _ _ _ (c3) ?_ ?_ ?_ ?_; (focus (simp [bor_s1]; done)); (focus (simp; done)); (focus (first | (left; simp; done) | (right; simp; done)))) | (refine ACall.mk _ _ _ (c4) ?_ ?_ ?_ ?_; (focus (simp [bor_s1]; done)); (focus (simp; done)); (focus (first | (left; simp; done) | (right; simp; done)))) | (refine ACall.mk _ _ _ (c5) ?_ ?_ ?_ ?_; (focus (simp [bor_i1]; done)); (focus (simp; done)); (focus (first | (left; simp; done) | (right; simp; done)))) | (refine ACall.mk _ _ _ (c6) ?_ ?_ ?_ ?_; (focus (simp [bor_i1, bor_s1, bor_s2]; done)); (focus (simp; done)); (focus (first | (left; simp; done) | (right; simp; done))))); simp [splice, repl])
      refine RetOk.by (fun _ => none) ?_
      simp [results94]
    · refine Ct.by gok eok mixed func94 c94 rfl (by simp [ntmps94]) (by simp) (by simp [ResIds]) fun E hE => ?_
      simp [p94, splice, repl]
      repeat ((first | (refine ACall.mk _ _ _ (c1) ?_ ?_ ?_ ?_; (focus (simp [bor_i1]; done)); (focus (simp; done)); (focus (first | (left; simp; done) | (right; simp; done)))) | (refine ACall.mk _ _ _ (c2) ?_ ?_ ?_ ?_; (focus (simp [bor_s2]; done)); (focus (simp; done)); (focus (first | (left; simp; done) | (right; simp; done)))) | (refine ACall.mk _ _ _ (c3) ?_ ?_ ?_ ?_; (focus (simp [bor_s1]; done)); (focus (simp; done)); (focus (first | (left; simp; done) | (right; simp; done)))) | (refine ACall.mk _ _ _ (c4) ?_ ?_ ?_ ?_; (focus (simp [bor_s1]; done)); (focus (simp; done)); (focus (first | (left; simp; done) | (right; simp; done)))) | (refine ACall.mk _ _ _ (c5) ?_ ?_ ?_ ?_; (focus (simp [bor_i1]; done)); (focus (simp; done)); (focus (first | (left; simp; done) | (right; simp; done)))) | (refine ACall.mk _ _ _ (c6) ?_ ?_ ?_ ?_; (focus (simp [bor_i1, bor_s1, bor_s2]; done)); (focus (simp; done)); (focus (first | (left; simp; done) | (right; simp; done))))); simp [splice, repl, hn])
      refine RetOk.by (fun _ => none) ?_
      simp [results94, hm]
theorem fn38 (l : List Leg) (h : l.length ≤ 1000000) (ha : ∀ x ∈ l, x.acts.length ≤ 1000000) : Ct prog 38 [.d (legsD l)] (vi (chkL l)) [] := by
  refine Ct.by gok eok mixed func38 c38 rfl (by simp [ntmps38]) (by simp) (by simp [ResIds]) fun E hE => ?_
  by_cases hm : 20 < l.length
  · have hm' : (20 : Int) < l.length := by omega
    have e : chkL l = 4 := by unfold chkL; rw [if_pos hm]
    simp [p38, hm']
    refine RetOk.by (fun _ => none) ?_
    simp [results38, e]
  have hm' : ¬ (20 : Int) < l.length := by omega
  simp [p38, hm']
  refine pw_loop (α := Nat) (fun i => ⟨slots [(3, vi (600 - sumM (l.take i))), (10, .d (legsD l)), (11, vi l.length), (12, vi i)], lk [], 0⟩) (fun i => i ≤ l.length ∧ ∀ j, j < i → (l[j]?).all okLeg = true) (fun i => l.length - i) 0 ?_ ?_ ?_
  · exact ⟨by omega, fun j hj => by omega⟩
  · refine Weak.mk hE (lk []) _ _ _ ?_ ?_ ?_ ?_ ?_ <;> simp [sumM]
  · rintro i ⟨hi, hg⟩
    have hz : IntKind.wrap .i64 ((i : Int) + 1) = ((i + 1 : Nat) : Int) := by rw [wrap64 (by omega) (by omega)]; omega
    have hok : ∀ x ∈ l.take i, okLeg x = true := fun x hx => by
      obtain ⟨j, hj⟩ := List.getElem?_of_mem hx
      have hji : j < i := by have := (List.getElem?_eq_some_iff.1 hj).1; simp at this; omega
      rw [List.getElem?_take, if_pos hji] at hj
      have := hg j hji
      rw [hj] at this; simpa using this
    have hs := sumM_bd hok
    rw [List.length_take, Nat.min_eq_left hi] at hs
    by_cases h : i < l.length
    · have hI : (i : Int) < l.length := by omega
      obtain ⟨p, hp⟩ : ∃ p, l[i]? = some p := ⟨_, List.getElem?_eq_getElem h⟩
      have hnx := sumM_take hp
      have c := fn94 p (by have := ha p (List.mem_of_getElem? hp); omega)
      cases hq : okLeg p
      · have e : chkL l = 53 := by
          have : l.all okLeg = false := by rw [List.all_eq_false]; exact ⟨p, List.mem_of_getElem? hp, by simp [hq]⟩
          unfold chkL; rw [if_neg hm, this]; simp
        rw [hq] at c
        simp [p38l0, hI, hp, splice]
        refine ACall.mk _ _ _ (c) (by first | (simp; done) | simp [Bor_ls, Bor1_ls]) (by simp) (by first | (left; simp; done) | (right; simp; done)) ?_
        simp
        refine RetOk.by (fun _ => none) ?_
        simp [results38, e]
      · have hpm := okLeg_m hq
        have hw : IntKind.wrap .i64 (600 - sumM (l.take i) - p.m) = 600 - sumM (l.take (i + 1)) := by rw [wrap64 (by omega) (by omega)]; omega
        rw [hq] at c
        simp [p38l0, hI, hp, splice]
        refine ACall.mk _ _ _ (c) (by first | (simp; done) | simp [Bor_ls, Bor1_ls]) (by simp) (by first | (left; simp; done) | (right; simp; done)) ?_
        simp [hw, hz]
        refine ⟨i + 1, ⟨by omega, fun j hj => ?_⟩, by omega, ?_⟩
        · by_cases e : j = i
          · subst e; rw [hp]; simp [hq]
          · exact hg j (by omega)
        · refine Weak.mk hE (lk []) _ _ _ ?_ ?_ ?_ ?_ ?_ <;> simp
    · have hI : ¬ (i : Int) < l.length := by omega
      have ei : i = l.length := by omega
      have hall : l.all okLeg = true := by
        rw [List.all_eq_true]
        intro x hx
        rw [ei, List.take_length] at hok
        exact hok x hx
      have ht : sumM (l.take i) = sumM l := by rw [ei, List.take_length]
      rw [ht]
      by_cases hb : 600 < sumM l
      · have e : chkL l = 4 := by unfold chkL; rw [if_neg hm, hall]; simp [hb]
        have hb' : 600 - sumM l < 0 := by omega
        simp [p38l0, hI, hb']
        refine RetOk.by (fun _ => none) ?_
        simp [results38, e]
      · have e : chkL l = 0 := by unfold chkL; rw [if_neg hm, hall]; simp [hb]
        have hb' : ¬ 600 - sumM l < 0 := by omega
        simp [p38l0, hI, hb']
        refine RetOk.by (fun _ => none) ?_
        simp [results38, e]
theorem fn34 (hS : SortOk) (r : Rig) (hr : r.reg.length ≤ 1000000000) : Ct prog 34 [rigV r] (vi (if okRig r then 0 else 51)) [] := by
  have c1 := fn90 0 120 [(r.gl, r.gh)] (by simp)
  have c2 := fn91 0 1000000000 [r.tank, r.rsv] (by simp)
  have c3 := fn90 (-500) 9000 [(r.lo, r.hi)] (by simp)
  have c4 := fn92 hS r.reg hr
  simp only [List.all_cons, List.all_nil, Bool.and_true] at c1 c2 c3
  have e : okRig r = (spB 0 120 r.gl r.gh && rgB 0 1000000000 [r.tank, r.rsv] && spB (-500) 9000 r.lo r.hi && regS r.reg) := rfl
  generalize spB 0 120 r.gl r.gh = b1 at *
  generalize rgB 0 1000000000 [r.tank, r.rsv] = b2 at *
  generalize spB (-500) 9000 r.lo r.hi = b3 at *
  generalize regS r.reg = b4 at *
  rw [e]
  cases b1
  · refine Ct.by gok eok mixed func34 c34 rfl (by simp [ntmps34]) (by simp) (by simp [ResIds]) fun E hE => ?_
    simp [p34, splice, repl]
    repeat ((first | (refine ACall.mk _ _ _ (c1) ?_ ?_ ?_ ?_; (focus (simp [bor_s1]; done)); (focus (simp; done)); (focus (first | (left; simp; done) | (right; simp; done)))) | (refine ACall.mk _ _ _ (c2) ?_ ?_ ?_ ?_; (focus (simp [bor_i2, bor_s1]; done)); (focus (simp; done)); (focus (first | (left; simp; done) | (right; simp; done)))) | (refine ACall.mk _ _ _ (c3) ?_ ?_ ?_ ?_; (focus (simp [bor_i2, bor_s1]; done)); (focus (simp; done)); (focus (first | (left; simp; done) | (right; simp; done)))) | (refine ACall.mk _ _ _ (c4) ?_ ?_ ?_ ?_; (focus (simp [bor_i2, bor_s1]; done)); (focus (simp; done)); (focus (first | (left; simp; done) | (right; simp; done))))); simp)
    refine RetOk.by (fun _ => none) ?_
    simp [results34]
  cases b2
  · refine Ct.by gok eok mixed func34 c34 rfl (by simp [ntmps34]) (by simp) (by simp [ResIds]) fun E hE => ?_
    simp [p34, splice, repl]
    repeat ((first | (refine ACall.mk _ _ _ (c1) ?_ ?_ ?_ ?_; (focus (simp [bor_s1]; done)); (focus (simp; done)); (focus (first | (left; simp; done) | (right; simp; done)))) | (refine ACall.mk _ _ _ (c2) ?_ ?_ ?_ ?_; (focus (simp [bor_i2]; done)); (focus (simp; done)); (focus (first | (left; simp; done) | (right; simp; done)))) | (refine ACall.mk _ _ _ (c3) ?_ ?_ ?_ ?_; (focus (simp [bor_i2, bor_s1]; done)); (focus (simp; done)); (focus (first | (left; simp; done) | (right; simp; done)))) | (refine ACall.mk _ _ _ (c4) ?_ ?_ ?_ ?_; (focus (simp [bor_i2, bor_s1]; done)); (focus (simp; done)); (focus (first | (left; simp; done) | (right; simp; done))))); simp [splice, repl])
    refine RetOk.by (fun _ => none) ?_
    simp [results34]
  cases b3
  · refine Ct.by gok eok mixed func34 c34 rfl (by simp [ntmps34]) (by simp) (by simp [ResIds]) fun E hE => ?_
    simp [p34, splice, repl]
    repeat ((first | (refine ACall.mk _ _ _ (c1) ?_ ?_ ?_ ?_; (focus (simp [bor_s1]; done)); (focus (simp; done)); (focus (first | (left; simp; done) | (right; simp; done)))) | (refine ACall.mk _ _ _ (c2) ?_ ?_ ?_ ?_; (focus (simp [bor_i2]; done)); (focus (simp; done)); (focus (first | (left; simp; done) | (right; simp; done)))) | (refine ACall.mk _ _ _ (c3) ?_ ?_ ?_ ?_; (focus (simp [bor_s1]; done)); (focus (simp; done)); (focus (first | (left; simp; done) | (right; simp; done)))) | (refine ACall.mk _ _ _ (c4) ?_ ?_ ?_ ?_; (focus (simp [bor_i2, bor_s1]; done)); (focus (simp; done)); (focus (first | (left; simp; done) | (right; simp; done))))); simp [splice, repl])
    refine RetOk.by (fun _ => none) ?_
    simp [results34]
  cases b4
  · refine Ct.by gok eok mixed func34 c34 rfl (by simp [ntmps34]) (by simp) (by simp [ResIds]) fun E hE => ?_
    simp [p34, splice, repl]
    repeat ((first | (refine ACall.mk _ _ _ (c1) ?_ ?_ ?_ ?_; (focus (simp [bor_s1]; done)); (focus (simp; done)); (focus (first | (left; simp; done) | (right; simp; done)))) | (refine ACall.mk _ _ _ (c2) ?_ ?_ ?_ ?_; (focus (simp [bor_i2]; done)); (focus (simp; done)); (focus (first | (left; simp; done) | (right; simp; done)))) | (refine ACall.mk _ _ _ (c3) ?_ ?_ ?_ ?_; (focus (simp [bor_s1]; done)); (focus (simp; done)); (focus (first | (left; simp; done) | (right; simp; done)))) | (refine ACall.mk _ _ _ (c4) ?_ ?_ ?_ ?_; (focus (simp; done)); (focus (simp; done)); (focus (first | (left; simp; done) | (right; simp; done))))); simp [splice, repl])
    refine RetOk.by (fun _ => none) ?_
    simp [results34]
  · refine Ct.by gok eok mixed func34 c34 rfl (by simp [ntmps34]) (by simp) (by simp [ResIds]) fun E hE => ?_
    simp [p34, splice, repl]
    repeat ((first | (refine ACall.mk _ _ _ (c1) ?_ ?_ ?_ ?_; (focus (simp [bor_s1]; done)); (focus (simp; done)); (focus (first | (left; simp; done) | (right; simp; done)))) | (refine ACall.mk _ _ _ (c2) ?_ ?_ ?_ ?_; (focus (simp [bor_i2]; done)); (focus (simp; done)); (focus (first | (left; simp; done) | (right; simp; done)))) | (refine ACall.mk _ _ _ (c3) ?_ ?_ ?_ ?_; (focus (simp [bor_s1]; done)); (focus (simp; done)); (focus (first | (left; simp; done) | (right; simp; done)))) | (refine ACall.mk _ _ _ (c4) ?_ ?_ ?_ ?_; (focus (simp; done)); (focus (simp; done)); (focus (first | (left; simp; done) | (right; simp; done))))); simp [splice, repl])
    refine RetOk.by (fun _ => none) ?_
    simp [results34]
end Go.Proofs.Tryz
namespace Go.Proofs.YtigekgfbcfbobaaGreat
open Go.Joins Go.ChangeShapes Go.WideShapes Go.ChangeAt Go.RowKit Go.Psl
set_option maxRecDepth 100000
section
variable {H : Type} {enc : TypeId × Value → H} {P : Program} {w : World} {base : Nat} {spare : Nat → Bool} {held : Bool}
theorem trodAll_five {t0 t1 t2 t3 t4 : TypeId} {args : Array Value} {ds : List (DataW H)} {ps : List MemPlace} (h : DataW.TrodAll enc P w base spare held [t0, t1, t2, t3, t4] args.toList ds ps) :
    ∃ v0 v1 v2 v3 v4 d0 d1 d2 d3 d4 p0 p1 p2 p3 p4, args = #[v0, v1, v2, v3, v4] ∧ ds = [d0, d1, d2, d3, d4] ∧ ps = p0 ++ p1 ++ p2 ++ p3 ++ p4 ∧ DataW.Trod enc P w base spare held t0 v0 d0 p0 ∧ DataW.Trod enc P w base spare held t1 v1 d1 p1 ∧ DataW.Trod enc P w base spare held t2 v2 d2 p2 ∧ DataW.Trod enc P w base spare held t3 v3 d3 p3 ∧ DataW.Trod enc P w base spare held t4 v4 d4 p4 := by
  obtain ⟨v0, vs0, d0, ds0, p0, q0, hargs, rfl, rfl, hd0, hr0⟩ := trodAll_cons h
  obtain ⟨v1, vs1, d1, ds1, p1, q1, rfl, rfl, rfl, hd1, hr1⟩ := trodAll_cons hr0
  obtain ⟨v2, vs2, d2, ds2, p2, q2, rfl, rfl, rfl, hd2, hr2⟩ := trodAll_cons hr1
  obtain ⟨v3, vs3, d3, ds3, p3, q3, rfl, rfl, rfl, hd3, hr3⟩ := trodAll_cons hr2
  obtain ⟨v4, vs4, d4, ds4, p4, q4, rfl, rfl, rfl, hd4, hr4⟩ := trodAll_cons hr3
  obtain ⟨rfl, rfl, rfl⟩ := trodAll_nil hr4
  exact ⟨v0, v1, v2, v3, v4, d0, d1, d2, d3, d4, p0, p1, p2, p3, p4, by cases args; simp_all, rfl, by simp, hd0, hd1, hd2, hd3, hd4⟩
end
theorem sh_byte {n : Nat} {ds : List D} (h : Sh' Tryz.prog (n + 1) 5 ds) : ∃ i : Int, ds = [.lit (.int .u8 i)] := by
  simp only [Sh', Tryz.underlying5] at h
  obtain ⟨i, h, _⟩ := h
  exact ⟨i, h⟩
theorem sh_corner {n : Nat} {ds : List D} (h : Sh' Tryz.prog (n + 2) 122 ds) : ∃ k : Int × Int, ds = [Tryz.di k.1, Tryz.di k.2] := by
  rw [Sh', Tryz.underlying122] at h
  obtain ⟨a, r, rfl, h1, b, r2, rfl, h2, rfl⟩ := h
  obtain ⟨i, rfl⟩ := sh_int h1
  obtain ⟨j, rfl⟩ := sh_int h2
  exact ⟨(i, j), rfl⟩
theorem sh_act {n : Nat} {ds : List D} (h : Sh' Tryz.prog (n + 2) 135 ds) : ∃ k : Tryz.Act, ds = Tryz.actL k := by
  rw [Sh', Tryz.underlying135] at h
  obtain ⟨a, r, rfl, h1, b, r2, rfl, h2, c, r3, rfl, h3, d, r4, rfl, h4, rfl⟩ := h
  obtain ⟨i1, rfl⟩ := sh_byte h1
  obtain ⟨i2, rfl⟩ := sh_int h2
  obtain ⟨i3, rfl⟩ := sh_int h3
  obtain ⟨i4, rfl⟩ := sh_int h4
  exact ⟨⟨i1, i2, i3, i4⟩, rfl⟩
theorem cells122 : Tryz.prog.cellsOf 122 = 2 := by kernel_rfl
theorem sh_corners {n : Nat} {ds : List D} (h : Sh' Tryz.prog (n + 3) 55 ds) : ∃ t : List (Int × Int), ds = [.sl 2 (t.map (fun k : Int × Int => [Tryz.di k.1, Tryz.di k.2]))] := by
  rw [Sh', Tryz.underlying55] at h
  obtain ⟨es, rfl, _, h⟩ := h
  obtain ⟨t, rfl⟩ := all_map (f := (fun k : Int × Int => [Tryz.di k.1, Tryz.di k.2])) fun x hx => sh_corner (h x hx)
  exact ⟨t, by rw [cells122]⟩
theorem cells135 : Tryz.prog.cellsOf 135 = 4 := by kernel_rfl
theorem sh_acts {n : Nat} {ds : List D} (h : Sh' Tryz.prog (n + 3) 43 ds) : ∃ t : List (Tryz.Act), ds = [.sl 4 (t.map Tryz.actL)] := by
  rw [Sh', Tryz.underlying43] at h
  obtain ⟨es, rfl, _, h⟩ := h
  obtain ⟨t, rfl⟩ := all_map (f := Tryz.actL) fun x hx => sh_act (h x hx)
  exact ⟨t, by rw [cells135]⟩
theorem sh_rig {n : Nat} {ds : List D} (h : Sh' Tryz.prog (n + 4) 57 ds) : ∃ k : Tryz.Rig, ds = Tryz.rigL k := by
  rw [Sh', Tryz.underlying57] at h
  obtain ⟨a, r, rfl, h1, b, r2, rfl, h2, c, r3, rfl, h3, d, r4, rfl, h4, e, r5, rfl, h5, f, r6, rfl, h6, rfl⟩ := h
  obtain ⟨i1, rfl⟩ := sh_corners h1
  obtain ⟨i2, rfl⟩ := sh_span h2
  obtain ⟨i3, rfl⟩ := sh_int h3
  obtain ⟨i4, rfl⟩ := sh_int h4
  obtain ⟨i5, rfl⟩ := sh_int h5
  obtain ⟨i6, rfl⟩ := sh_int h6
  exact ⟨⟨i1, i2.1, i2.2, i3, i4, i5, i6⟩, rfl⟩
theorem sh_leg {n : Nat} {ds : List D} (h : Sh' Tryz.prog (n + 4) 76 ds) : ∃ k : Tryz.Leg, ds = Tryz.legL k := by
  rw [Sh', Tryz.underlying76] at h
  obtain ⟨a, r, rfl, h1, b, r2, rfl, h2, c, r3, rfl, h3, d, r4, rfl, h4, e, r5, rfl, h5, f, r6, rfl, h6, rfl⟩ := h
  obtain ⟨i1, rfl⟩ := sh_int h1
  obtain ⟨i2, rfl⟩ := sh_wind h2
  obtain ⟨i3, rfl⟩ := sh_span h3
  obtain ⟨i4, rfl⟩ := sh_span h4
  obtain ⟨i5, rfl⟩ := sh_int h5
  obtain ⟨i6, rfl⟩ := sh_acts h6
  exact ⟨⟨i1, i2.1.1, i2.1.2, i2.2.1, i2.2.2, i3.1, i3.2, i4.1, i4.2, i5, i6⟩, rfl⟩
theorem cells76 : Tryz.prog.cellsOf 76 = 11 := by kernel_rfl
theorem sh_legs {n : Nat} {ds : List D} (h : Sh' Tryz.prog (n + 5) 58 ds) : ∃ t : List (Tryz.Leg), ds = [.sl 11 (t.map Tryz.legL)] := by
  rw [Sh', Tryz.underlying58] at h
  obtain ⟨es, rfl, _, h⟩ := h
  obtain ⟨t, rfl⟩ := all_map (f := Tryz.legL) fun x hx => sh_leg (h x hx)
  exact ⟨t, by rw [cells76]⟩
theorem rig_arg {H : Type} {enc : TypeId × Value → H} {W : World} {base : Nat} {v : Value} {d : DataW H} {p : List MemPlace} (hval : Value.okWide Tryz.prog W .any base 57 v) (h : DataW.Trod enc Tryz.prog W 0 (fun _ => true) true 57 v d p) :
    ∃ k : Tryz.Rig, R2 (GW W) W (Tryz.rigV k) v := by
  obtain ⟨ds, h1, h2⟩ := struct_arg (n := 4) Tryz.underlying57 (by kernel_rfl) hval h
  obtain ⟨k, hk⟩ := sh_rig h1
  cases hk
  exact ⟨k, h2⟩
theorem legs_arg {H : Type} {enc : TypeId × Value → H} {W : World} {base : Nat} {v : Value} {d : DataW H} {p : List MemPlace} (hval : Value.okWide Tryz.prog W .any base 58 v) (h : DataW.Trod enc Tryz.prog W 0 (fun _ => true) true 58 v d p) :
    ∃ k : List Tryz.Leg, R2 (GW W) W (.d (Tryz.legsD k)) v := by
  obtain ⟨ds, h1, h2⟩ := slice_arg (n := 5) Tryz.underlying58 (by kernel_rfl) hval h
  obtain ⟨k, hk⟩ := sh_legs h1
  cases hk
  exact ⟨k, h2⟩
end Go.Proofs.YtigekgfbcfbobaaGreat
namespace Go.Proofs.Tryz
open Go.Psl
open Go.Air
set_option maxRecDepth 20000
theorem rgB_one {lo hi n : Int} : rgB lo hi [n] = (decide (lo ≤ n) && decide (n ≤ hi)) := by simp [rgB]
theorem rgB_pair {lo hi a b : Int} : rgB lo hi [a, b] = (rgB lo hi [a] && rgB lo hi [b]) := by simp [rgB]
theorem fn207 (n lo hi : Int) : Ct prog 207 [vi n, vi lo, vi hi] (vb (rgB lo hi [n])) [] := by
  rw [rgB_one]
  by_cases h : lo ≤ n
  · refine Ct.by gok eok mixed func207 c207 rfl (by simp [ntmps207]) (by simp) (by simp [ResIds]) fun E hE => ?_
    simp [p207, h]
    refine RetOk.by (fun _ => none) ?_
    simp [results207]
  · refine Ct.by gok eok mixed func207 c207 rfl (by simp [ntmps207]) (by simp) (by simp [ResIds]) fun E hE => ?_
    simp [p207, h]
    refine RetOk.by (fun _ => none) ?_
    simp [results207]
theorem fn209 (n lo hi : Int) : Ct prog 209 [vi n, vi lo, vi hi] (vb (rgB lo hi [n])) [] := by
  rw [rgB_one]
  by_cases h : lo ≤ n
  · refine Ct.by gok eok mixed func209 c209 rfl (by simp [ntmps209]) (by simp) (by simp [ResIds]) fun E hE => ?_
    simp [p209, h]
    refine RetOk.by (fun _ => none) ?_
    simp [results209]
  · refine Ct.by gok eok mixed func209 c209 rfl (by simp [ntmps209]) (by simp) (by simp [ResIds]) fun E hE => ?_
    simp [p209, h]
    refine RetOk.by (fun _ => none) ?_
    simp [results209]
theorem fn137 (n lo hi : Int) : Ct prog 137 [vi n, vi lo, vi hi] (vb (rgB lo hi [n])) [] := by
  rw [rgB_one]
  by_cases h : lo ≤ n
  · refine Ct.by gok eok mixed func137 c137 rfl (by simp [ntmps137]) (by simp) (by simp [ResIds]) fun E hE => ?_
    simp [p137, h]
    refine RetOk.by (fun _ => none) ?_
    simp [results137]
  · refine Ct.by gok eok mixed func137 c137 rfl (by simp [ntmps137]) (by simp) (by simp [ResIds]) fun E hE => ?_
    simp [p137, h]
    refine RetOk.by (fun _ => none) ?_
    simp [results137]
theorem fn288 (a b lo hi : Int) : Ct prog 288 [vsp a b, vi lo, vi hi] (vb (spB lo hi a b)) [] := by
  have e : spB lo hi a b = (decide (lo ≤ a) && decide (a ≤ b) && decide (b ≤ hi)) := by
    rw [Bool.eq_iff_iff, spB_iff]; simp; omega
  rw [e]
  by_cases h : lo ≤ a
  · by_cases h2 : a ≤ b
    · refine Ct.by gok eok mixed func288 c288 rfl (by simp [ntmps288]) (by simp) (by simp [ResIds]) fun E hE => ?_
      simp [p288, h, h2]
      refine RetOk.by (fun _ => none) ?_
      simp [results288]
    · refine Ct.by gok eok mixed func288 c288 rfl (by simp [ntmps288]) (by simp) (by simp [ResIds]) fun E hE => ?_
      simp [p288, h, h2]
      refine RetOk.by (fun _ => none) ?_
      simp [results288]
  · refine Ct.by gok eok mixed func288 c288 rfl (by simp [ntmps288]) (by simp) (by simp [ResIds]) fun E hE => ?_
    simp [p288, h]
    refine RetOk.by (fun _ => none) ?_
    simp [results288]
theorem fn263 (a b : Int) : Ct prog 263 [vsp a b] (vb (spB (-300) 300 a b)) [] := by
  refine Ct.by gok eok mixed func263 c263 rfl (by simp [ntmps263]) (by simp) (by simp [ResIds]) fun E hE => ?_
  simp [p263]
  refine ACall.mk _ _ _ (fn288 a b (-300) 300) (by first | (simp; done) | simp [Bor_ls, Bor1_ls]) (by simp) (by first | (left; simp; done) | (right; simp; done)) ?_
  simp
  refine RetOk.by (fun _ => none) ?_
  simp [results263]
set_option maxRecDepth 20000 in
set_option maxHeartbeats 4000000 in
theorem fn211 (c : Cel) : Ct prog 211 [cellV c] (vb (okCel c)) [] := by
  have c1 := fn209 c.rm 1 10000000
  have c2 := fn209 c.he 0 10000000
  have c3 := fn209 c.ai 0 10000000
  have c4 := fn263 c.wl c.wh
  have c5 := fn209 c.lk 0 100000
  have c6 := fn209 c.ow 0 999999
  have e : okCel c = (rgB 1 10000000 [c.rm] && (rgB 0 10000000 [c.he] && rgB 0 10000000 [c.ai]) && rgB 0 100000 [c.lk] && rgB 0 999999 [c.ow] && spB (-300) 300 c.wl c.wh) := by unfold okCel; rw [rgB_pair]
  rw [e]
  generalize rgB 1 10000000 [c.rm] = b1 at *
  generalize rgB 0 10000000 [c.he] = b2 at *
  generalize rgB 0 10000000 [c.ai] = b3 at *
  generalize rgB 0 100000 [c.lk] = b4 at *
  generalize rgB 0 999999 [c.ow] = b5 at *
  generalize spB (-300) 300 c.wl c.wh = b6 at *
  cases b1
  · refine Ct.by gok eok mixed func211 c211 rfl (by simp [ntmps211]) (by simp) (by simp [ResIds]) fun E hE => ?_
    simp [p211]
    repeat ((first | (refine ACall.mk _ _ _ (c1) ?_ ?_ ?_ ?_; (focus (simp; done)); (focus (simp; done)); (focus (first | (left; simp; done) | (right; simp; done)))) | (refine ACall.mk _ _ _ (c2) ?_ ?_ ?_ ?_; (focus (simp; done)); (focus (simp; done)); (focus (first | (left; simp; done) | (right; simp; done)))) | (refine ACall.mk _ _ _ (c3) ?_ ?_ ?_ ?_; (focus (simp; done)); (focus (simp; done)); (focus (first | (left; simp; done) | (right; simp; done)))) | (refine ACall.mk _ _ _ (c4) ?_ ?_ ?_ ?_; (focus (simp; done)); (focus (simp; done)); (focus (first | (left; simp; done) | (right; simp; done)))) | (refine ACall.mk _ _ _ (c5) ?_ ?_ ?_ ?_; (focus (simp; done)); (focus (simp; done)); (focus (first | (left; simp; done) | (right; simp; done)))) | (refine ACall.mk _ _ _ (c6) ?_ ?_ ?_ ?_; (focus (simp; done)); (focus (simp; done)); (focus (first | (left; simp; done) | (right; simp; done))))); simp)
    refine RetOk.by (fun _ => none) ?_
    simp [results211]
  cases b2
  · refine Ct.by gok eok mixed func211 c211 rfl (by simp [ntmps211]) (by simp) (by simp [ResIds]) fun E hE => ?_
    simp [p211]
    repeat ((first | (refine ACall.mk _ _ _ (c1) ?_ ?_ ?_ ?_; (focus (simp; done)); (focus (simp; done)); (focus (first | (left; simp; done) | (right; simp; done)))) | (refine ACall.mk _ _ _ (c2) ?_ ?_ ?_ ?_; (focus (simp; done)); (focus (simp; done)); (focus (first | (left; simp; done) | (right; simp; done)))) | (refine ACall.mk _ _ _ (c3) ?_ ?_ ?_ ?_; (focus (simp; done)); (focus (simp; done)); (focus (first | (left; simp; done) | (right; simp; done)))) | (refine ACall.mk _ _ _ (c4) ?_ ?_ ?_ ?_; (focus (simp; done)); (focus (simp; done)); (focus (first | (left; simp; done) | (right; simp; done)))) | (refine ACall.mk _ _ _ (c5) ?_ ?_ ?_ ?_; (focus (simp; done)); (focus (simp; done)); (focus (first | (left; simp; done) | (right; simp; done)))) | (refine ACall.mk _ _ _ (c6) ?_ ?_ ?_ ?_; (focus (simp; done)); (focus (simp; done)); (focus (first | (left; simp; done) | (right; simp; done))))); simp)
    refine RetOk.by (fun _ => none) ?_
    simp [results211]
  cases b3
  · refine Ct.by gok eok mixed func211 c211 rfl (by simp [ntmps211]) (by simp) (by simp [ResIds]) fun E hE => ?_
    simp [p211]
    repeat ((first | (refine ACall.mk _ _ _ (c1) ?_ ?_ ?_ ?_; (focus (simp; done)); (focus (simp; done)); (focus (first | (left; simp; done) | (right; simp; done)))) | (refine ACall.mk _ _ _ (c2) ?_ ?_ ?_ ?_; (focus (simp; done)); (focus (simp; done)); (focus (first | (left; simp; done) | (right; simp; done)))) | (refine ACall.mk _ _ _ (c3) ?_ ?_ ?_ ?_; (focus (simp; done)); (focus (simp; done)); (focus (first | (left; simp; done) | (right; simp; done)))) | (refine ACall.mk _ _ _ (c4) ?_ ?_ ?_ ?_; (focus (simp; done)); (focus (simp; done)); (focus (first | (left; simp; done) | (right; simp; done)))) | (refine ACall.mk _ _ _ (c5) ?_ ?_ ?_ ?_; (focus (simp; done)); (focus (simp; done)); (focus (first | (left; simp; done) | (right; simp; done)))) | (refine ACall.mk _ _ _ (c6) ?_ ?_ ?_ ?_; (focus (simp; done)); (focus (simp; done)); (focus (first | (left; simp; done) | (right; simp; done))))); simp)
    refine RetOk.by (fun _ => none) ?_
    simp [results211]
  cases b6
  · refine Ct.by gok eok mixed func211 c211 rfl (by simp [ntmps211]) (by simp) (by simp [ResIds]) fun E hE => ?_
    simp [p211]
    repeat ((first | (refine ACall.mk _ _ _ (c1) ?_ ?_ ?_ ?_; (focus (simp; done)); (focus (simp; done)); (focus (first | (left; simp; done) | (right; simp; done)))) | (refine ACall.mk _ _ _ (c2) ?_ ?_ ?_ ?_; (focus (simp; done)); (focus (simp; done)); (focus (first | (left; simp; done) | (right; simp; done)))) | (refine ACall.mk _ _ _ (c3) ?_ ?_ ?_ ?_; (focus (simp; done)); (focus (simp; done)); (focus (first | (left; simp; done) | (right; simp; done)))) | (refine ACall.mk _ _ _ (c4) ?_ ?_ ?_ ?_; (focus (simp; done)); (focus (simp; done)); (focus (first | (left; simp; done) | (right; simp; done)))) | (refine ACall.mk _ _ _ (c5) ?_ ?_ ?_ ?_; (focus (simp; done)); (focus (simp; done)); (focus (first | (left; simp; done) | (right; simp; done)))) | (refine ACall.mk _ _ _ (c6) ?_ ?_ ?_ ?_; (focus (simp; done)); (focus (simp; done)); (focus (first | (left; simp; done) | (right; simp; done))))); simp)
    refine RetOk.by (fun _ => none) ?_
    simp [results211]
  cases b4
  · refine Ct.by gok eok mixed func211 c211 rfl (by simp [ntmps211]) (by simp) (by simp [ResIds]) fun E hE => ?_
    simp [p211]
    repeat ((first | (refine ACall.mk _ _ _ (c1) ?_ ?_ ?_ ?_; (focus (simp; done)); (focus (simp; done)); (focus (first | (left; simp; done) | (right; simp; done)))) | (refine ACall.mk _ _ _ (c2) ?_ ?_ ?_ ?_; (focus (simp; done)); (focus (simp; done)); (focus (first | (left; simp; done) | (right; simp; done)))) | (refine ACall.mk _ _ _ (c3) ?_ ?_ ?_ ?_; (focus (simp; done)); (focus (simp; done)); (focus (first | (left; simp; done) | (right; simp; done)))) | (refine ACall.mk _ _ _ (c4) ?_ ?_ ?_ ?_; (focus (simp; done)); (focus (simp; done)); (focus (first | (left; simp; done) | (right; simp; done)))) | (refine ACall.mk _ _ _ (c5) ?_ ?_ ?_ ?_; (focus (simp; done)); (focus (simp; done)); (focus (first | (left; simp; done) | (right; simp; done)))) | (refine ACall.mk _ _ _ (c6) ?_ ?_ ?_ ?_; (focus (simp; done)); (focus (simp; done)); (focus (first | (left; simp; done) | (right; simp; done))))); simp)
    refine RetOk.by (fun _ => none) ?_
    simp [results211]
  · refine Ct.by gok eok mixed func211 c211 rfl (by simp [ntmps211]) (by simp) (by simp [ResIds]) fun E hE => ?_
    simp [p211]
    repeat ((first | (refine ACall.mk _ _ _ (c1) ?_ ?_ ?_ ?_; (focus (simp; done)); (focus (simp; done)); (focus (first | (left; simp; done) | (right; simp; done)))) | (refine ACall.mk _ _ _ (c2) ?_ ?_ ?_ ?_; (focus (simp; done)); (focus (simp; done)); (focus (first | (left; simp; done) | (right; simp; done)))) | (refine ACall.mk _ _ _ (c3) ?_ ?_ ?_ ?_; (focus (simp; done)); (focus (simp; done)); (focus (first | (left; simp; done) | (right; simp; done)))) | (refine ACall.mk _ _ _ (c4) ?_ ?_ ?_ ?_; (focus (simp; done)); (focus (simp; done)); (focus (first | (left; simp; done) | (right; simp; done)))) | (refine ACall.mk _ _ _ (c5) ?_ ?_ ?_ ?_; (focus (simp; done)); (focus (simp; done)); (focus (first | (left; simp; done) | (right; simp; done)))) | (refine ACall.mk _ _ _ (c6) ?_ ?_ ?_ ?_; (focus (simp; done)); (focus (simp; done)); (focus (first | (left; simp; done) | (right; simp; done))))); simp)
    refine RetOk.by (fun _ => none) ?_
    simp [results211]
end Go.Proofs.Tryz
namespace Go.Proofs.Tryz
open Go.Psl
open Go.Air
set_option maxRecDepth 20000
set_option maxHeartbeats 8000000
theorem fn210 (p : Int × Int) : Ct prog 210 [vsp p.1 p.2] (vb (bkB p)) [] := by
  have c1 := fn209 p.1 0 1000000000000
  have c2 := fn209 p.2 0 1000000000000
  have e : bkB p = (rgB 0 1000000000000 [p.1] && rgB 0 1000000000000 [p.2]) := rgB_pair
  rw [e]
  generalize rgB 0 1000000000000 [p.1] = b1 at *
  generalize rgB 0 1000000000000 [p.2] = b2 at *
  cases b1 <;> (
    refine Ct.by gok eok mixed func210 c210 rfl (by simp [ntmps210]) (by simp) (by simp [ResIds]) fun E hE => ?_
    simp [p210]
    repeat ((first | (refine ACall.mk _ _ _ (c1) ?_ ?_ ?_ ?_; (focus (simp; done)); (focus (simp; done)); (focus (first | (left; simp; done) | (right; simp; done)))) | (refine ACall.mk _ _ _ (c2) ?_ ?_ ?_ ?_; (focus (simp; done)); (focus (simp; done)); (focus (first | (left; simp; done) | (right; simp; done))))); simp)
    refine RetOk.by (fun _ => none) ?_
    simp [results210])
theorem plant_bad (p : Plt) (hl : p.cs.length ≤ 1000000) (h : okBk p = false) : Ct prog 138 [pltV p (.d (cellsD p.cs))] (vb false) [] := by
  have c1 := fn209 p.bt 0 10000000
  have c2 := fn210 (p.ih, p.ia)
  have c3 := fn210 (p.vh, p.va)
  have c4 := fn210 (p.lh, p.la)
  have c5 := fn210 (p.ph, p.pa)
  have e : okBk p = (decide (p.cs.length ≤ 12) && rgB 0 10000000 [p.bt] && (bkB (p.ih, p.ia) && (bkB (p.vh, p.va) && (bkB (p.lh, p.la) && bkB (p.ph, p.pa))))) := by
    unfold okBk accs; simp [Bool.and_assoc]
  rw [e] at h
  by_cases hn : p.cs.length ≤ 12
  case neg =>
    have hI : (12 : Int) < p.cs.length := by omega
    refine Ct.by gok eok mixed func138 c138 rfl (by simp [ntmps138]) (by simp) (by simp [ResIds]) fun E hE => ?_
    simp [p138, hI]
    refine RetOk.by (fun _ => none) ?_
    simp [results138]
  have hI : ¬ (12 : Int) < p.cs.length := by omega
  have hI2 : (p.cs.length : Int) ≤ 12 := by omega
  rw [decide_eq_true hn] at h
  generalize rgB 0 10000000 [p.bt] = b1 at *
  generalize bkB (p.ih, p.ia) = b2 at *
  generalize bkB (p.vh, p.va) = b3 at *
  generalize bkB (p.lh, p.la) = b4 at *
  generalize bkB (p.ph, p.pa) = b5 at *
  cases b1
  · refine Ct.by gok eok mixed func138 c138 rfl (by simp [ntmps138]) (by simp) (by simp [ResIds]) fun E hE => ?_
    simp [p138, hI]
    repeat ((first | (refine ACall.mk _ _ _ (c1) ?_ ?_ ?_ ?_; (focus (simp; done)); (focus (simp; done)); (focus (first | (left; simp; done) | (right; simp; done)))) | (refine ACall.mk _ _ _ (c2) ?_ ?_ ?_ ?_; (focus (simp; done)); (focus (simp; done)); (focus (first | (left; simp; done) | (right; simp; done)))) | (refine ACall.mk _ _ _ (c3) ?_ ?_ ?_ ?_; (focus (simp; done)); (focus (simp; done)); (focus (first | (left; simp; done) | (right; simp; done)))) | (refine ACall.mk _ _ _ (c4) ?_ ?_ ?_ ?_; (focus (simp; done)); (focus (simp; done)); (focus (first | (left; simp; done) | (right; simp; done)))) | (refine ACall.mk _ _ _ (c5) ?_ ?_ ?_ ?_; (focus (simp; done)); (focus (simp; done)); (focus (first | (left; simp; done) | (right; simp; done))))); simp)
    refine RetOk.by (fun _ => none) ?_
    simp [results138]
  cases b2
  · refine Ct.by gok eok mixed func138 c138 rfl (by simp [ntmps138]) (by simp) (by simp [ResIds]) fun E hE => ?_
    simp [p138, hI]
    repeat ((first | (refine ACall.mk _ _ _ (c1) ?_ ?_ ?_ ?_; (focus (simp; done)); (focus (simp; done)); (focus (first | (left; simp; done) | (right; simp; done)))) | (refine ACall.mk _ _ _ (c2) ?_ ?_ ?_ ?_; (focus (simp; done)); (focus (simp; done)); (focus (first | (left; simp; done) | (right; simp; done)))) | (refine ACall.mk _ _ _ (c3) ?_ ?_ ?_ ?_; (focus (simp; done)); (focus (simp; done)); (focus (first | (left; simp; done) | (right; simp; done)))) | (refine ACall.mk _ _ _ (c4) ?_ ?_ ?_ ?_; (focus (simp; done)); (focus (simp; done)); (focus (first | (left; simp; done) | (right; simp; done)))) | (refine ACall.mk _ _ _ (c5) ?_ ?_ ?_ ?_; (focus (simp; done)); (focus (simp; done)); (focus (first | (left; simp; done) | (right; simp; done))))); simp)
    refine RetOk.by (fun _ => none) ?_
    simp [results138]
  cases b3
  · refine Ct.by gok eok mixed func138 c138 rfl (by simp [ntmps138]) (by simp) (by simp [ResIds]) fun E hE => ?_
    simp [p138, hI]
    repeat ((first | (refine ACall.mk _ _ _ (c1) ?_ ?_ ?_ ?_; (focus (simp; done)); (focus (simp; done)); (focus (first | (left; simp; done) | (right; simp; done)))) | (refine ACall.mk _ _ _ (c2) ?_ ?_ ?_ ?_; (focus (simp; done)); (focus (simp; done)); (focus (first | (left; simp; done) | (right; simp; done)))) | (refine ACall.mk _ _ _ (c3) ?_ ?_ ?_ ?_; (focus (simp; done)); (focus (simp; done)); (focus (first | (left; simp; done) | (right; simp; done)))) | (refine ACall.mk _ _ _ (c4) ?_ ?_ ?_ ?_; (focus (simp; done)); (focus (simp; done)); (focus (first | (left; simp; done) | (right; simp; done)))) | (refine ACall.mk _ _ _ (c5) ?_ ?_ ?_ ?_; (focus (simp; done)); (focus (simp; done)); (focus (first | (left; simp; done) | (right; simp; done))))); simp)
    refine RetOk.by (fun _ => none) ?_
    simp [results138]
  cases b4
  · refine Ct.by gok eok mixed func138 c138 rfl (by simp [ntmps138]) (by simp) (by simp [ResIds]) fun E hE => ?_
    simp [p138, hI]
    repeat ((first | (refine ACall.mk _ _ _ (c1) ?_ ?_ ?_ ?_; (focus (simp; done)); (focus (simp; done)); (focus (first | (left; simp; done) | (right; simp; done)))) | (refine ACall.mk _ _ _ (c2) ?_ ?_ ?_ ?_; (focus (simp; done)); (focus (simp; done)); (focus (first | (left; simp; done) | (right; simp; done)))) | (refine ACall.mk _ _ _ (c3) ?_ ?_ ?_ ?_; (focus (simp; done)); (focus (simp; done)); (focus (first | (left; simp; done) | (right; simp; done)))) | (refine ACall.mk _ _ _ (c4) ?_ ?_ ?_ ?_; (focus (simp; done)); (focus (simp; done)); (focus (first | (left; simp; done) | (right; simp; done)))) | (refine ACall.mk _ _ _ (c5) ?_ ?_ ?_ ?_; (focus (simp; done)); (focus (simp; done)); (focus (first | (left; simp; done) | (right; simp; done))))); simp)
    refine RetOk.by (fun _ => none) ?_
    simp [results138]
  cases b5
  · refine Ct.by gok eok mixed func138 c138 rfl (by simp [ntmps138]) (by simp) (by simp [ResIds]) fun E hE => ?_
    simp [p138, hI]
    repeat ((first | (refine ACall.mk _ _ _ (c1) ?_ ?_ ?_ ?_; (focus (simp; done)); (focus (simp; done)); (focus (first | (left; simp; done) | (right; simp; done)))) | (refine ACall.mk _ _ _ (c2) ?_ ?_ ?_ ?_; (focus (simp; done)); (focus (simp; done)); (focus (first | (left; simp; done) | (right; simp; done)))) | (refine ACall.mk _ _ _ (c3) ?_ ?_ ?_ ?_; (focus (simp; done)); (focus (simp; done)); (focus (first | (left; simp; done) | (right; simp; done)))) | (refine ACall.mk _ _ _ (c4) ?_ ?_ ?_ ?_; (focus (simp; done)); (focus (simp; done)); (focus (first | (left; simp; done) | (right; simp; done)))) | (refine ACall.mk _ _ _ (c5) ?_ ?_ ?_ ?_; (focus (simp; done)); (focus (simp; done)); (focus (first | (left; simp; done) | (right; simp; done))))); simp)
    refine RetOk.by (fun _ => none) ?_
    simp [results138]
  · simp at h
theorem plant_good (p : Plt) (hb : okBk p = true) : Ct prog 138 [pltV p (.d (cellsD p.cs))] (vb (okPlt p)) [] := by
  have c1 := fn209 p.bt 0 10000000
  have c2 := fn210 (p.ih, p.ia)
  have c3 := fn210 (p.vh, p.va)
  have c4 := fn210 (p.lh, p.la)
  have c5 := fn210 (p.ph, p.pa)
  have hbk := bk_all (p := p) (by unfold okBk at hb; simp at hb; simpa using hb.2)
  have hbt : 0 ≤ p.bt ∧ p.bt ≤ 10000000 := by unfold okBk at hb; simp [rgB] at hb; omega
  have hn : p.cs.length ≤ 12 := by unfold okBk at hb; simp at hb; exact hb.1.1
  have e : okBk p = (decide (p.cs.length ≤ 12) && rgB 0 10000000 [p.bt] && (bkB (p.ih, p.ia) && (bkB (p.vh, p.va) && (bkB (p.lh, p.la) && bkB (p.ph, p.pa))))) := by
    unfold okBk accs; simp [Bool.and_assoc]
  rw [hb] at e
  have hI : ¬ (12 : Int) < p.cs.length := by omega
  have hI2 : (p.cs.length : Int) ≤ 12 := by omega
  rw [decide_eq_true hn] at e
  have e' := e.symm
  simp only [Bool.true_and, Bool.and_eq_true] at e'
  rw [e'.1] at c1; rw [e'.2.1] at c2; rw [e'.2.2.1] at c3; rw [e'.2.2.2.1] at c4; rw [e'.2.2.2.2] at c5
  have w1 : IntKind.wrap .i64 (p.bt + p.vh) = p.bt + p.vh := wrap64 (by omega) (by omega)
  have w2 : IntKind.wrap .i64 (p.bt + p.vh + p.lh) = p.bt + p.vh + p.lh := wrap64 (by omega) (by omega)
  have w3 : IntKind.wrap .i64 (p.bt + p.vh + p.lh + p.ph) = p.bt + p.vh + p.lh + p.ph := wrap64 (by omega) (by omega)
  have w4 : IntKind.wrap .i64 (p.va + p.la) = p.va + p.la := wrap64 (by omega) (by omega)
  have w5 : IntKind.wrap .i64 (p.va + p.la + p.pa) = p.va + p.la + p.pa := wrap64 (by omega) (by omega)
  refine Ct.by gok eok mixed func138 c138 rfl (by simp [ntmps138]) (by simp) (by simp [ResIds]) fun E hE => ?_
  simp [p138, hI]
  repeat ((first | (refine ACall.mk _ _ _ (c1) ?_ ?_ ?_ ?_; (focus (simp; done)); (focus (simp; done)); (focus (first | (left; simp; done) | (right; simp; done)))) | (refine ACall.mk _ _ _ (c2) ?_ ?_ ?_ ?_; (focus (simp; done)); (focus (simp; done)); (focus (first | (left; simp; done) | (right; simp; done)))) | (refine ACall.mk _ _ _ (c3) ?_ ?_ ?_ ?_; (focus (simp; done)); (focus (simp; done)); (focus (first | (left; simp; done) | (right; simp; done)))) | (refine ACall.mk _ _ _ (c4) ?_ ?_ ?_ ?_; (focus (simp; done)); (focus (simp; done)); (focus (first | (left; simp; done) | (right; simp; done)))) | (refine ACall.mk _ _ _ (c5) ?_ ?_ ?_ ?_; (focus (simp; done)); (focus (simp; done)); (focus (first | (left; simp; done) | (right; simp; done))))); simp [w1, w2, w3, w4, w5])
  refine pw_loop (α := Nat) (fun i => ⟨slots [(1, .lp 0 0), (3, vi (p.bt + p.vh + p.lh + p.ph + heS (p.cs.take i))), (4, vi (p.va + p.la + p.pa + aiS (p.cs.take i))), (5, vi i)], lk [(0, [.d (cellsD p.cs), vi p.bt, vi p.ih, vi p.ia, vi p.vh, vi p.va, vi p.lh, vi p.la, vi p.ph, vi p.pa])], 1⟩) (fun i => i ≤ p.cs.length ∧ ∀ c ∈ p.cs.take i, CelB c) (fun i => p.cs.length - i) 0 ?_ ?_ ?_
  · simp
  · refine Weak.mk hE (lk [(0, 0)]) _ _ _ ?_ ?_ ?_ ?_ ?_ <;> simp [heS, aiS]
  · rintro i ⟨hi, hcs⟩
    by_cases h : i < p.cs.length
    · obtain ⟨c, hc⟩ : ∃ c, p.cs[i]? = some c := ⟨_, List.getElem?_eq_getElem h⟩
      have hz : IntKind.wrap .i64 ((i : Int) + 1) = ((i + 1 : Nat) : Int) := by rw [wrap64 (by omega) (by omega)]; omega
      have hI : (i : Int) < p.cs.length := by omega
      have d1 := fn211 c
      cases hok : okCel c
      · have hbad : okPlt p = false := by
          unfold okPlt
          have : p.cs.all okCel = false := by
            rw [List.all_eq_false]; exact ⟨c, List.mem_of_getElem? hc, by simp [hok]⟩
          simp [this]
        rw [hok] at d1
        simp [p138l0, hI, hc]
        refine ACall.mk _ _ _ (d1) (by first | (simp; done) | simp [Bor_ls, Bor1_ls]) (by simp) (by first | (left; simp; done) | (right; simp; done)) ?_
        simp
        refine RetOk.by (fun _ => none) ?_
        simp [results138, hbad]
      · rw [hok] at d1
        have hcb := okCel_iff.1 hok
        have hx := hcb.he
        have hy := hcb.ai
        have e1 := heS_take hc
        have e2 := aiS_take hc
        have b1 := heS_bd hcs
        have b2 := aiS_bd hcs
        have hlen : ((p.cs.take i).length : Int) ≤ 12 := by simp; omega
        have v1 : IntKind.wrap .i64 (p.bt + p.vh + p.lh + p.ph + heS (p.cs.take i) + c.he) = p.bt + p.vh + p.lh + p.ph + heS (p.cs.take i) + c.he := wrap64 (by omega) (by omega)
        have v2 : IntKind.wrap .i64 (p.va + p.la + p.pa + aiS (p.cs.take i) + c.ai) = p.va + p.la + p.pa + aiS (p.cs.take i) + c.ai := wrap64 (by omega) (by omega)
        simp [p138l0, hI, hc]
        refine ACall.mk _ _ _ (d1) (by first | (simp; done) | simp [Bor_ls, Bor1_ls]) (by simp) (by first | (left; simp; done) | (right; simp; done)) ?_
        simp [hc, hz, v1, v2]
        refine ⟨i + 1, ⟨by omega, ?_⟩, by omega, ?_⟩
        · intro d hd
          rw [List.take_add_one, hc] at hd
          simp only [List.mem_append, Option.toList_some, List.mem_singleton] at hd
          rcases hd with hd | rfl
          · exact hcs d hd
          · exact hcb
        · rw [e1, e2, ← Int.add_assoc, ← Int.add_assoc]
          refine Weak.mk hE (lk [(0, 0)]) _ _ _ ?_ ?_ ?_ ?_ ?_ <;> simp
    · have ei : i = p.cs.length := by omega
      have hI : ¬ (i : Int) < p.cs.length := by omega
      rw [ei, List.take_length] at hcs
      have hall : p.cs.all okCel = true := by
        rw [List.all_eq_true]; exact fun c hc => okCel_iff.2 (hcs c hc)
      have eo : okPlt p = decide (p.bt + p.vh + p.lh + p.ph + heS p.cs = p.ih ∧ p.va + p.la + p.pa + aiS p.cs = p.ia) := by simp [okPlt, hb, hall]
      rw [ei, List.take_length]
      by_cases hq : p.bt + p.vh + p.lh + p.ph + heS p.cs = p.ih
      · simp [p138l0, hq]
        refine RetOk.by (fun _ => none) ?_
        simp [results138, eo, hq]
      · simp [p138l0, hq]
        refine RetOk.by (fun _ => none) ?_
        simp [results138, eo, hq]
theorem fn138 (p : Plt) (hl : p.cs.length ≤ 1000000) : Ct prog 138 [pltV p (.d (cellsD p.cs))] (vb (okPlt p)) [] := by
  cases h : okBk p
  · have e : okPlt p = false := by unfold okPlt; rw [h]; rfl
    rw [e]
    exact plant_bad p hl h
  · exact plant_good p h
end Go.Proofs.Tryz
namespace Go.Proofs.Tryz
open Go.Psl
open Go.Air
set_option maxRecDepth 20000
set_option maxHeartbeats 8000000
theorem fn208 (a b lo hi : Int) : Ct prog 208 [vsp a b, vi lo, vi hi] (vb (spB lo hi a b)) [] := by
  have e : spB lo hi a b = (decide (a ≤ b) && decide (lo ≤ a) && decide (b ≤ hi)) := by
    rw [Bool.eq_iff_iff, spB_iff]; simp; omega
  rw [e]
  by_cases h : a ≤ b
  · by_cases h2 : lo ≤ a
    · refine Ct.by gok eok mixed func208 c208 rfl (by simp [ntmps208]) (by simp) (by simp [ResIds]) fun E hE => ?_
      simp [p208, h, h2]
      refine RetOk.by (fun _ => none) ?_
      simp [results208]
    · refine Ct.by gok eok mixed func208 c208 rfl (by simp [ntmps208]) (by simp) (by simp [ResIds]) fun E hE => ?_
      simp [p208, h, h2]
      refine RetOk.by (fun _ => none) ?_
      simp [results208]
  · refine Ct.by gok eok mixed func208 c208 rfl (by simp [ntmps208]) (by simp) (by simp [ResIds]) fun E hE => ?_
    simp [p208, h]
    refine RetOk.by (fun _ => none) ?_
    simp [results208]
theorem fn136 (a b lo hi : Int) : Ct prog 136 [vsp a b, vi lo, vi hi] (vb (spB lo hi a b)) [] := by
  have e : spB lo hi a b = (decide (a ≤ b) && decide (lo ≤ a) && decide (b ≤ hi)) := by
    rw [Bool.eq_iff_iff, spB_iff]; simp; omega
  rw [e]
  by_cases h : a ≤ b
  · by_cases h2 : lo ≤ a
    · refine Ct.by gok eok mixed func136 c136 rfl (by simp [ntmps136]) (by simp) (by simp [ResIds]) fun E hE => ?_
      simp [p136, h, h2]
      refine RetOk.by (fun _ => none) ?_
      simp [results136]
    · refine Ct.by gok eok mixed func136 c136 rfl (by simp [ntmps136]) (by simp) (by simp [ResIds]) fun E hE => ?_
      simp [p136, h, h2]
      refine RetOk.by (fun _ => none) ?_
      simp [results136]
  · refine Ct.by gok eok mixed func136 c136 rfl (by simp [ntmps136]) (by simp) (by simp [ResIds]) fun E hE => ?_
    simp [p136, h]
    refine RetOk.by (fun _ => none) ?_
    simp [results136]
theorem fn72 (s : Shp) (hl : s.gas.cs.length ≤ 1000000) : Ct prog 72 [shpV s (.d (cellsD s.gas.cs))] (vb (okShp s)) [] := by
  have c1 := fn136 s.xl s.xh (-10000000) 10000000
  have c2 := fn136 s.yl s.yh (-10000000) 10000000
  have c3 := fn136 s.hl s.hh (-500) 9000
  have c4 := fn136 s.fl s.fh 0 1000000000
  have c5 := fn136 s.wl s.wh 0 1000000000
  have c6 := fn136 s.bl s.bh 0 1000000000000
  have c7 := fn137 s.dry 0 1000000000
  have c8 := fn137 s.bal 0 1000000000
  have c9 := fn137 s.drp 0 1000000000000
  have cA := fn138 s.gas hl
  have e : okShp s = ((spB (-10000000) 10000000 s.xl s.xh && spB (-10000000) 10000000 s.yl s.yh) && spB (-500) 9000 s.hl s.hh && (spB 0 1000000000 s.fl s.fh && spB 0 1000000000 s.wl s.wh) && spB 0 1000000000000 s.bl s.bh && (rgB 0 1000000000 [s.dry] && rgB 0 1000000000 [s.bal]) && rgB 0 1000000000000 [s.drp] && okPlt s.gas) := by unfold okShp; rw [rgB_pair]
  rw [e]
  generalize spB (-10000000) 10000000 s.xl s.xh = b1 at *
  generalize spB (-10000000) 10000000 s.yl s.yh = b2 at *
  generalize spB (-500) 9000 s.hl s.hh = b3 at *
  generalize spB 0 1000000000 s.fl s.fh = b4 at *
  generalize spB 0 1000000000 s.wl s.wh = b5 at *
  generalize spB 0 1000000000000 s.bl s.bh = b6 at *
  generalize rgB 0 1000000000 [s.dry] = b7 at *
  generalize rgB 0 1000000000 [s.bal] = b8 at *
  generalize rgB 0 1000000000000 [s.drp] = b9 at *
  generalize okPlt s.gas = bA at *
  cases b1
  · refine Ct.by gok eok mixed func72 c72 rfl (by simp [ntmps72]) (by simp) (by simp [ResIds]) fun E hE => ?_
    simp [p72]
    repeat ((first | (refine ACall.mk _ _ _ (c1) ?_ ?_ ?_ ?_; (focus (simp; done)); (focus (simp; done)); (focus (first | (left; simp; done) | (right; simp; done)))) | (refine ACall.mk _ _ _ (c2) ?_ ?_ ?_ ?_; (focus (simp; done)); (focus (simp; done)); (focus (first | (left; simp; done) | (right; simp; done)))) | (refine ACall.mk _ _ _ (c3) ?_ ?_ ?_ ?_; (focus (simp; done)); (focus (simp; done)); (focus (first | (left; simp; done) | (right; simp; done)))) | (refine ACall.mk _ _ _ (c4) ?_ ?_ ?_ ?_; (focus (simp; done)); (focus (simp; done)); (focus (first | (left; simp; done) | (right; simp; done)))) | (refine ACall.mk _ _ _ (c5) ?_ ?_ ?_ ?_; (focus (simp; done)); (focus (simp; done)); (focus (first | (left; simp; done) | (right; simp; done)))) | (refine ACall.mk _ _ _ (c6) ?_ ?_ ?_ ?_; (focus (simp; done)); (focus (simp; done)); (focus (first | (left; simp; done) | (right; simp; done)))) | (refine ACall.mk _ _ _ (c7) ?_ ?_ ?_ ?_; (focus (simp; done)); (focus (simp; done)); (focus (first | (left; simp; done) | (right; simp; done)))) | (refine ACall.mk _ _ _ (c8) ?_ ?_ ?_ ?_; (focus (simp; done)); (focus (simp; done)); (focus (first | (left; simp; done) | (right; simp; done)))) | (refine ACall.mk _ _ _ (c9) ?_ ?_ ?_ ?_; (focus (simp; done)); (focus (simp; done)); (focus (first | (left; simp; done) | (right; simp; done)))) | (refine ACall.mk _ _ _ (cA) ?_ ?_ ?_ ?_; (focus (simp; done)); (focus (simp; done)); (focus (first | (left; simp; done) | (right; simp; done))))); simp)
    refine RetOk.by (fun _ => none) ?_
    simp [results72]
  cases b2
  · refine Ct.by gok eok mixed func72 c72 rfl (by simp [ntmps72]) (by simp) (by simp [ResIds]) fun E hE => ?_
    simp [p72]
    repeat ((first | (refine ACall.mk _ _ _ (c1) ?_ ?_ ?_ ?_; (focus (simp; done)); (focus (simp; done)); (focus (first | (left; simp; done) | (right; simp; done)))) | (refine ACall.mk _ _ _ (c2) ?_ ?_ ?_ ?_; (focus (simp; done)); (focus (simp; done)); (focus (first | (left; simp; done) | (right; simp; done)))) | (refine ACall.mk _ _ _ (c3) ?_ ?_ ?_ ?_; (focus (simp; done)); (focus (simp; done)); (focus (first | (left; simp; done) | (right; simp; done)))) | (refine ACall.mk _ _ _ (c4) ?_ ?_ ?_ ?_; (focus (simp; done)); (focus (simp; done)); (focus (first | (left; simp; done) | (right; simp; done)))) | (refine ACall.mk _ _ _ (c5) ?_ ?_ ?_ ?_; (focus (simp; done)); (focus (simp; done)); (focus (first | (left; simp; done) | (right; simp; done)))) | (refine ACall.mk _ _ _ (c6) ?_ ?_ ?_ ?_; (focus (simp; done)); (focus (simp; done)); (focus (first | (left; simp; done) | (right; simp; done)))) | (refine ACall.mk _ _ _ (c7) ?_ ?_ ?_ ?_; (focus (simp; done)); (focus (simp; done)); (focus (first | (left; simp; done) | (right; simp; done)))) | (refine ACall.mk _ _ _ (c8) ?_ ?_ ?_ ?_; (focus (simp; done)); (focus (simp; done)); (focus (first | (left; simp; done) | (right; simp; done)))) | (refine ACall.mk _ _ _ (c9) ?_ ?_ ?_ ?_; (focus (simp; done)); (focus (simp; done)); (focus (first | (left; simp; done) | (right; simp; done)))) | (refine ACall.mk _ _ _ (cA) ?_ ?_ ?_ ?_; (focus (simp; done)); (focus (simp; done)); (focus (first | (left; simp; done) | (right; simp; done))))); simp)
    refine RetOk.by (fun _ => none) ?_
    simp [results72]
  cases b3
  · refine Ct.by gok eok mixed func72 c72 rfl (by simp [ntmps72]) (by simp) (by simp [ResIds]) fun E hE => ?_
    simp [p72]
    repeat ((first | (refine ACall.mk _ _ _ (c1) ?_ ?_ ?_ ?_; (focus (simp; done)); (focus (simp; done)); (focus (first | (left; simp; done) | (right; simp; done)))) | (refine ACall.mk _ _ _ (c2) ?_ ?_ ?_ ?_; (focus (simp; done)); (focus (simp; done)); (focus (first | (left; simp; done) | (right; simp; done)))) | (refine ACall.mk _ _ _ (c3) ?_ ?_ ?_ ?_; (focus (simp; done)); (focus (simp; done)); (focus (first | (left; simp; done) | (right; simp; done)))) | (refine ACall.mk _ _ _ (c4) ?_ ?_ ?_ ?_; (focus (simp; done)); (focus (simp; done)); (focus (first | (left; simp; done) | (right; simp; done)))) | (refine ACall.mk _ _ _ (c5) ?_ ?_ ?_ ?_; (focus (simp; done)); (focus (simp; done)); (focus (first | (left; simp; done) | (right; simp; done)))) | (refine ACall.mk _ _ _ (c6) ?_ ?_ ?_ ?_; (focus (simp; done)); (focus (simp; done)); (focus (first | (left; simp; done) | (right; simp; done)))) | (refine ACall.mk _ _ _ (c7) ?_ ?_ ?_ ?_; (focus (simp; done)); (focus (simp; done)); (focus (first | (left; simp; done) | (right; simp; done)))) | (refine ACall.mk _ _ _ (c8) ?_ ?_ ?_ ?_; (focus (simp; done)); (focus (simp; done)); (focus (first | (left; simp; done) | (right; simp; done)))) | (refine ACall.mk _ _ _ (c9) ?_ ?_ ?_ ?_; (focus (simp; done)); (focus (simp; done)); (focus (first | (left; simp; done) | (right; simp; done)))) | (refine ACall.mk _ _ _ (cA) ?_ ?_ ?_ ?_; (focus (simp; done)); (focus (simp; done)); (focus (first | (left; simp; done) | (right; simp; done))))); simp)
    refine RetOk.by (fun _ => none) ?_
    simp [results72]
  cases b4
  · refine Ct.by gok eok mixed func72 c72 rfl (by simp [ntmps72]) (by simp) (by simp [ResIds]) fun E hE => ?_
    simp [p72]
    repeat ((first | (refine ACall.mk _ _ _ (c1) ?_ ?_ ?_ ?_; (focus (simp; done)); (focus (simp; done)); (focus (first | (left; simp; done) | (right; simp; done)))) | (refine ACall.mk _ _ _ (c2) ?_ ?_ ?_ ?_; (focus (simp; done)); (focus (simp; done)); (focus (first | (left; simp; done) | (right; simp; done)))) | (refine ACall.mk _ _ _ (c3) ?_ ?_ ?_ ?_; (focus (simp; done)); (focus (simp; done)); (focus (first | (left; simp; done) | (right; simp; done)))) | (refine ACall.mk _ _ _ (c4) ?_ ?_ ?_ ?_; (focus (simp; done)); (focus (simp; done)); (focus (first | (left; simp; done) | (right; simp; done)))) | (refine ACall.mk _ _ _ (c5) ?_ ?_ ?_ ?_; (focus (simp; done)); (focus (simp; done)); (focus (first | (left; simp; done) | (right; simp; done)))) | (refine ACall.mk _ _ _ (c6) ?_ ?_ ?_ ?_; (focus (simp; done)); (focus (simp; done)); (focus (first | (left; simp; done) | (right; simp; done)))) | (refine ACall.mk _ _ _ (c7) ?_ ?_ ?_ ?_; (focus (simp; done)); (focus (simp; done)); (focus (first | (left; simp; done) | (right; simp; done)))) | (refine ACall.mk _ _ _ (c8) ?_ ?_ ?_ ?_; (focus (simp; done)); (focus (simp; done)); (focus (first | (left; simp; done) | (right; simp; done)))) | (refine ACall.mk _ _ _ (c9) ?_ ?_ ?_ ?_; (focus (simp; done)); (focus (simp; done)); (focus (first | (left; simp; done) | (right; simp; done)))) | (refine ACall.mk _ _ _ (cA) ?_ ?_ ?_ ?_; (focus (simp; done)); (focus (simp; done)); (focus (first | (left; simp; done) | (right; simp; done))))); simp)
    refine RetOk.by (fun _ => none) ?_
    simp [results72]
  cases b5
  · refine Ct.by gok eok mixed func72 c72 rfl (by simp [ntmps72]) (by simp) (by simp [ResIds]) fun E hE => ?_
    simp [p72]
    repeat ((first | (refine ACall.mk _ _ _ (c1) ?_ ?_ ?_ ?_; (focus (simp; done)); (focus (simp; done)); (focus (first | (left; simp; done) | (right; simp; done)))) | (refine ACall.mk _ _ _ (c2) ?_ ?_ ?_ ?_; (focus (simp; done)); (focus (simp; done)); (focus (first | (left; simp; done) | (right; simp; done)))) | (refine ACall.mk _ _ _ (c3) ?_ ?_ ?_ ?_; (focus (simp; done)); (focus (simp; done)); (focus (first | (left; simp; done) | (right; simp; done)))) | (refine ACall.mk _ _ _ (c4) ?_ ?_ ?_ ?_; (focus (simp; done)); (focus (simp; done)); (focus (first | (left; simp; done) | (right; simp; done)))) | (refine ACall.mk _ _ _ (c5) ?_ ?_ ?_ ?_; (focus (simp; done)); (focus (simp; done)); (focus (first | (left; simp; done) | (right; simp; done)))) | (refine ACall.mk _ _ _ (c6) ?_ ?_ ?_ ?_; (focus (simp; done)); (focus (simp; done)); (focus (first | (left; simp; done) | (right; simp; done)))) | (refine ACall.mk _ _ _ (c7) ?_ ?_ ?_ ?_; (focus (simp; done)); (focus (simp; done)); (focus (first | (left; simp; done) | (right; simp; done)))) | (refine ACall.mk _ _ _ (c8) ?_ ?_ ?_ ?_; (focus (simp; done)); (focus (simp; done)); (focus (first | (left; simp; done) | (right; simp; done)))) | (refine ACall.mk _ _ _ (c9) ?_ ?_ ?_ ?_; (focus (simp; done)); (focus (simp; done)); (focus (first | (left; simp; done) | (right; simp; done)))) | (refine ACall.mk _ _ _ (cA) ?_ ?_ ?_ ?_; (focus (simp; done)); (focus (simp; done)); (focus (first | (left; simp; done) | (right; simp; done))))); simp)
    refine RetOk.by (fun _ => none) ?_
    simp [results72]
  cases b6
  · refine Ct.by gok eok mixed func72 c72 rfl (by simp [ntmps72]) (by simp) (by simp [ResIds]) fun E hE => ?_
    simp [p72]
    repeat ((first | (refine ACall.mk _ _ _ (c1) ?_ ?_ ?_ ?_; (focus (simp; done)); (focus (simp; done)); (focus (first | (left; simp; done) | (right; simp; done)))) | (refine ACall.mk _ _ _ (c2) ?_ ?_ ?_ ?_; (focus (simp; done)); (focus (simp; done)); (focus (first | (left; simp; done) | (right; simp; done)))) | (refine ACall.mk _ _ _ (c3) ?_ ?_ ?_ ?_; (focus (simp; done)); (focus (simp; done)); (focus (first | (left; simp; done) | (right; simp; done)))) | (refine ACall.mk _ _ _ (c4) ?_ ?_ ?_ ?_; (focus (simp; done)); (focus (simp; done)); (focus (first | (left; simp; done) | (right; simp; done)))) | (refine ACall.mk _ _ _ (c5) ?_ ?_ ?_ ?_; (focus (simp; done)); (focus (simp; done)); (focus (first | (left; simp; done) | (right; simp; done)))) | (refine ACall.mk _ _ _ (c6) ?_ ?_ ?_ ?_; (focus (simp; done)); (focus (simp; done)); (focus (first | (left; simp; done) | (right; simp; done)))) | (refine ACall.mk _ _ _ (c7) ?_ ?_ ?_ ?_; (focus (simp; done)); (focus (simp; done)); (focus (first | (left; simp; done) | (right; simp; done)))) | (refine ACall.mk _ _ _ (c8) ?_ ?_ ?_ ?_; (focus (simp; done)); (focus (simp; done)); (focus (first | (left; simp; done) | (right; simp; done)))) | (refine ACall.mk _ _ _ (c9) ?_ ?_ ?_ ?_; (focus (simp; done)); (focus (simp; done)); (focus (first | (left; simp; done) | (right; simp; done)))) | (refine ACall.mk _ _ _ (cA) ?_ ?_ ?_ ?_; (focus (simp; done)); (focus (simp; done)); (focus (first | (left; simp; done) | (right; simp; done))))); simp)
    refine RetOk.by (fun _ => none) ?_
    simp [results72]
  cases b7
  · refine Ct.by gok eok mixed func72 c72 rfl (by simp [ntmps72]) (by simp) (by simp [ResIds]) fun E hE => ?_
    simp [p72]
    repeat ((first | (refine ACall.mk _ _ _ (c1) ?_ ?_ ?_ ?_; (focus (simp; done)); (focus (simp; done)); (focus (first | (left; simp; done) | (right; simp; done)))) | (refine ACall.mk _ _ _ (c2) ?_ ?_ ?_ ?_; (focus (simp; done)); (focus (simp; done)); (focus (first | (left; simp; done) | (right; simp; done)))) | (refine ACall.mk _ _ _ (c3) ?_ ?_ ?_ ?_; (focus (simp; done)); (focus (simp; done)); (focus (first | (left; simp; done) | (right; simp; done)))) | (refine ACall.mk _ _ _ (c4) ?_ ?_ ?_ ?_; (focus (simp; done)); (focus (simp; done)); (focus (first | (left; simp; done) | (right; simp; done)))) | (refine ACall.mk _ _ _ (c5) ?_ ?_ ?_ ?_; (focus (simp; done)); (focus (simp; done)); (focus (first | (left; simp; done) | (right; simp; done)))) | (refine ACall.mk _ _ _ (c6) ?_ ?_ ?_ ?_; (focus (simp; done)); (focus (simp; done)); (focus (first | (left; simp; done) | (right; simp; done)))) | (refine ACall.mk _ _ _ (c7) ?_ ?_ ?_ ?_; (focus (simp; done)); (focus (simp; done)); (focus (first | (left; simp; done) | (right; simp; done)))) | (refine ACall.mk _ _ _ (c8) ?_ ?_ ?_ ?_; (focus (simp; done)); (focus (simp; done)); (focus (first | (left; simp; done) | (right; simp; done)))) | (refine ACall.mk _ _ _ (c9) ?_ ?_ ?_ ?_; (focus (simp; done)); (focus (simp; done)); (focus (first | (left; simp; done) | (right; simp; done)))) | (refine ACall.mk _ _ _ (cA) ?_ ?_ ?_ ?_; (focus (simp; done)); (focus (simp; done)); (focus (first | (left; simp; done) | (right; simp; done))))); simp)
    refine RetOk.by (fun _ => none) ?_
    simp [results72]
  cases b8
  · refine Ct.by gok eok mixed func72 c72 rfl (by simp [ntmps72]) (by simp) (by simp [ResIds]) fun E hE => ?_
    simp [p72]
    repeat ((first | (refine ACall.mk _ _ _ (c1) ?_ ?_ ?_ ?_; (focus (simp; done)); (focus (simp; done)); (focus (first | (left; simp; done) | (right; simp; done)))) | (refine ACall.mk _ _ _ (c2) ?_ ?_ ?_ ?_; (focus (simp; done)); (focus (simp; done)); (focus (first | (left; simp; done) | (right; simp; done)))) | (refine ACall.mk _ _ _ (c3) ?_ ?_ ?_ ?_; (focus (simp; done)); (focus (simp; done)); (focus (first | (left; simp; done) | (right; simp; done)))) | (refine ACall.mk _ _ _ (c4) ?_ ?_ ?_ ?_; (focus (simp; done)); (focus (simp; done)); (focus (first | (left; simp; done) | (right; simp; done)))) | (refine ACall.mk _ _ _ (c5) ?_ ?_ ?_ ?_; (focus (simp; done)); (focus (simp; done)); (focus (first | (left; simp; done) | (right; simp; done)))) | (refine ACall.mk _ _ _ (c6) ?_ ?_ ?_ ?_; (focus (simp; done)); (focus (simp; done)); (focus (first | (left; simp; done) | (right; simp; done)))) | (refine ACall.mk _ _ _ (c7) ?_ ?_ ?_ ?_; (focus (simp; done)); (focus (simp; done)); (focus (first | (left; simp; done) | (right; simp; done)))) | (refine ACall.mk _ _ _ (c8) ?_ ?_ ?_ ?_; (focus (simp; done)); (focus (simp; done)); (focus (first | (left; simp; done) | (right; simp; done)))) | (refine ACall.mk _ _ _ (c9) ?_ ?_ ?_ ?_; (focus (simp; done)); (focus (simp; done)); (focus (first | (left; simp; done) | (right; simp; done)))) | (refine ACall.mk _ _ _ (cA) ?_ ?_ ?_ ?_; (focus (simp; done)); (focus (simp; done)); (focus (first | (left; simp; done) | (right; simp; done))))); simp)
    refine RetOk.by (fun _ => none) ?_
    simp [results72]
  cases b9
  · refine Ct.by gok eok mixed func72 c72 rfl (by simp [ntmps72]) (by simp) (by simp [ResIds]) fun E hE => ?_
    simp [p72]
    repeat ((first | (refine ACall.mk _ _ _ (c1) ?_ ?_ ?_ ?_; (focus (simp; done)); (focus (simp; done)); (focus (first | (left; simp; done) | (right; simp; done)))) | (refine ACall.mk _ _ _ (c2) ?_ ?_ ?_ ?_; (focus (simp; done)); (focus (simp; done)); (focus (first | (left; simp; done) | (right; simp; done)))) | (refine ACall.mk _ _ _ (c3) ?_ ?_ ?_ ?_; (focus (simp; done)); (focus (simp; done)); (focus (first | (left; simp; done) | (right; simp; done)))) | (refine ACall.mk _ _ _ (c4) ?_ ?_ ?_ ?_; (focus (simp; done)); (focus (simp; done)); (focus (first | (left; simp; done) | (right; simp; done)))) | (refine ACall.mk _ _ _ (c5) ?_ ?_ ?_ ?_; (focus (simp; done)); (focus (simp; done)); (focus (first | (left; simp; done) | (right; simp; done)))) | (refine ACall.mk _ _ _ (c6) ?_ ?_ ?_ ?_; (focus (simp; done)); (focus (simp; done)); (focus (first | (left; simp; done) | (right; simp; done)))) | (refine ACall.mk _ _ _ (c7) ?_ ?_ ?_ ?_; (focus (simp; done)); (focus (simp; done)); (focus (first | (left; simp; done) | (right; simp; done)))) | (refine ACall.mk _ _ _ (c8) ?_ ?_ ?_ ?_; (focus (simp; done)); (focus (simp; done)); (focus (first | (left; simp; done) | (right; simp; done)))) | (refine ACall.mk _ _ _ (c9) ?_ ?_ ?_ ?_; (focus (simp; done)); (focus (simp; done)); (focus (first | (left; simp; done) | (right; simp; done)))) | (refine ACall.mk _ _ _ (cA) ?_ ?_ ?_ ?_; (focus (simp; done)); (focus (simp; done)); (focus (first | (left; simp; done) | (right; simp; done))))); simp)
    refine RetOk.by (fun _ => none) ?_
    simp [results72]
  · refine Ct.by gok eok mixed func72 c72 rfl (by simp [ntmps72]) (by simp) (by simp [ResIds]) fun E hE => ?_
    simp [p72]
    repeat ((first | (refine ACall.mk _ _ _ (c1) ?_ ?_ ?_ ?_; (focus (simp; done)); (focus (simp; done)); (focus (first | (left; simp; done) | (right; simp; done)))) | (refine ACall.mk _ _ _ (c2) ?_ ?_ ?_ ?_; (focus (simp; done)); (focus (simp; done)); (focus (first | (left; simp; done) | (right; simp; done)))) | (refine ACall.mk _ _ _ (c3) ?_ ?_ ?_ ?_; (focus (simp; done)); (focus (simp; done)); (focus (first | (left; simp; done) | (right; simp; done)))) | (refine ACall.mk _ _ _ (c4) ?_ ?_ ?_ ?_; (focus (simp; done)); (focus (simp; done)); (focus (first | (left; simp; done) | (right; simp; done)))) | (refine ACall.mk _ _ _ (c5) ?_ ?_ ?_ ?_; (focus (simp; done)); (focus (simp; done)); (focus (first | (left; simp; done) | (right; simp; done)))) | (refine ACall.mk _ _ _ (c6) ?_ ?_ ?_ ?_; (focus (simp; done)); (focus (simp; done)); (focus (first | (left; simp; done) | (right; simp; done)))) | (refine ACall.mk _ _ _ (c7) ?_ ?_ ?_ ?_; (focus (simp; done)); (focus (simp; done)); (focus (first | (left; simp; done) | (right; simp; done)))) | (refine ACall.mk _ _ _ (c8) ?_ ?_ ?_ ?_; (focus (simp; done)); (focus (simp; done)); (focus (first | (left; simp; done) | (right; simp; done)))) | (refine ACall.mk _ _ _ (c9) ?_ ?_ ?_ ?_; (focus (simp; done)); (focus (simp; done)); (focus (first | (left; simp; done) | (right; simp; done)))) | (refine ACall.mk _ _ _ (cA) ?_ ?_ ?_ ?_; (focus (simp; done)); (focus (simp; done)); (focus (first | (left; simp; done) | (right; simp; done))))); simp)
    refine RetOk.by (fun _ => none) ?_
    simp [results72]
theorem fn264 (a b : Int) (ha : 0 ≤ a ∧ a ≤ 3000000000000000000) (hb : 0 < b) : Ct prog 264 [vi a, vi b] (vi (a / b)) [] := by
  have h0 : ¬ a < 0 := by omega
  have hz : ¬ b = 0 := by omega
  have t := tdiv_nn (b := b) ha.1
  have d := div_bd ha hb
  have w : IntKind.wrap .i64 (a / b) = a / b := wrap64 (by omega) (by omega)
  refine Ct.by gok eok mixed func264 c264 rfl (by simp [ntmps264]) (by simp) (by simp [ResIds]) fun E hE => ?_
  simp [p264, h0, hz, t, w]
  refine RetOk.by (fun _ => none) ?_
  simp [results264]
theorem fn264n (a b : Int) (ha : 0 ≤ a ∧ a ≤ 3000000000000000000) (hb : 0 < b ∧ b ≤ 1000000000000000000) : Ct prog 264 [vi (-a), vi b] (vi (-cdv a b)) [] := by
  have hz : ¬ b = 0 := by omega
  by_cases h0 : 0 < a
  · have w0 : IntKind.wrap .i64 a = a := wrap64 (by omega) (by omega)
    have w1 : IntKind.wrap .i64 (a + b) = a + b := wrap64 (by omega) (by omega)
    have w2 : IntKind.wrap .i64 (a + b - 1) = a + b - 1 := wrap64 (by omega) (by omega)
    have t := tdiv_nn (a := a + b - 1) (b := b) (by omega)
    have d := div_bd (a := a + b - 1) (b := b) (M := 4000000000000000000) (by omega) hb.1
    have w3 : IntKind.wrap .i64 ((a + b - 1) / b) = (a + b - 1) / b := wrap64 (by omega) (by omega)
    have w4 : IntKind.wrap .i64 (-((a + b - 1) / b)) = -((a + b - 1) / b) := wrap64 (by omega) (by omega)
    refine Ct.by gok eok mixed func264 c264 rfl (by simp [ntmps264]) (by simp) (by simp [ResIds]) fun E hE => ?_
    simp [p264, h0, hz, w0, w1, w2, w3, w4, t]
    refine RetOk.by (fun _ => none) ?_
    simp [results264, cdv]
  · have e : a = 0 := by omega
    subst e
    have ed : (b - 1) / b = 0 := Int.ediv_eq_zero_of_lt (by omega) (by omega)
    refine Ct.by gok eok mixed func264 c264 rfl (by simp [ntmps264]) (by simp) (by simp [ResIds]) fun E hE => ?_
    simp [p264, hz]
    refine RetOk.by (fun _ => none) ?_
    simp [results264, cdv, ed]
    decide
theorem fn265 (a b : Int) (ha : 0 ≤ a ∧ a ≤ 3000000000000000000) (hb : 0 < b ∧ b ≤ 1000000000000000000) : Ct prog 265 [vi a, vi b] (vi (cdv a b)) [] := by
  have c := fn264n a b ha hb
  have w0 : IntKind.wrap .i64 (-a) = -a := wrap64 (by omega) (by omega)
  have d := div_bd (a := a + b - 1) (b := b) (M := 4000000000000000000) (by omega) hb.1
  have w1 : IntKind.wrap .i64 (cdv a b) = cdv a b := wrap64 (by unfold cdv; omega) (by unfold cdv; omega)
  refine Ct.by gok eok mixed func265 c265 rfl (by simp [ntmps265]) (by simp) (by simp [ResIds]) fun E hE => ?_
  simp [p265, w0]
  refine ACall.mk _ _ _ (c) (by first | (simp; done) | simp [Bor_ls, Bor1_ls]) (by simp) (by first | (left; simp; done) | (right; simp; done)) ?_
  simp [w1]
  refine RetOk.by (fun _ => none) ?_
  simp [results265]
theorem fn261 (a b c d : Int) : Ct prog 261 [vsp a b, vsp c d] (vsp (max a c) (min b d)) [] := by
  refine Ct.by gok eok mixed func261 c261 rfl (by simp [ntmps261]) (by simp) (by simp [ResIds]) fun E hE => ?_
  simp [p261, splice]
  refine RetOk.by (fun _ => none) ?_
  simp [results261]
theorem fn213 (x y c tl th : Int) (hx : 0 ≤ x ∧ x ≤ 400000000) (hy : 0 ≤ y ∧ y ≤ 400000000) (hc : 0 < c ∧ c ≤ 2000) (ht : 1500 ≤ tl ∧ tl ≤ th ∧ th ≤ 3500) : Ct prog 213 [vsp x y, vi c, vsp tl th] (vsp (upLo (1000000 * tl) (341632 * c) x) (upHi (1000000 * th) (341632 * c) y)) [] := by
  obtain ⟨A, hA⟩ : ∃ A, 1000000 * tl = A := ⟨_, rfl⟩
  obtain ⟨B, hB⟩ : ∃ B, 1000000 * th = B := ⟨_, rfl⟩
  obtain ⟨S, hS⟩ : ∃ S, 341632 * c = S := ⟨_, rfl⟩
  have w1 : IntKind.wrap .i64 S = S := wrap64 (by omega) (by omega)
  have w2 : IntKind.wrap .i64 A = A := wrap64 (by omega) (by omega)
  have w3 : IntKind.wrap .i64 B = B := wrap64 (by omega) (by omega)
  have w4 : IntKind.wrap .i64 (A - S) = A - S := wrap64 (by omega) (by omega)
  have w10 : IntKind.wrap .i64 (B + S) = B + S := wrap64 (by omega) (by omega)
  have m1 := mul_le3 (x := x) (y := A - S) (X := 400000000) (Y := 5000000000) hx (by omega)
  have m2 := mul_le3 (x := y) (y := B) (X := 400000000) (Y := 3500000000) hy (by omega)
  have w5 : IntKind.wrap .i64 (x * (A - S)) = x * (A - S) := wrap64 (by omega) (by omega)
  have w6 : IntKind.wrap .i64 (y * B) = y * B := wrap64 (by omega) (by omega)
  have c1 := fn264 (x * (A - S)) A (by omega) (by omega)
  have c2 := fn265 (y * B) (B + S) (by omega) (by omega)
  rw [hA, hB, hS]
  refine Ct.by gok eok mixed func213 c213 rfl (by simp [ntmps213]) (by simp) (by simp [ResIds]) fun E hE => ?_
  simp [p213, inC, Nat.testBit, hA, hB, hS, w1, w2, w3, w4, w5]
  refine ACall.mk _ _ _ (c1) (by first | (simp; done) | simp [Bor_ls, Bor1_ls]) (by simp) (by first | (left; simp; done) | (right; simp; done)) ?_
  simp [inC, Nat.testBit, hS, w1, w6, w10]
  refine ACall.mk _ _ _ (c2) (by first | (simp; done) | simp [Bor_ls, Bor1_ls]) (by simp) (by first | (left; simp; done) | (right; simp; done)) ?_
  simp [splice]
  refine RetOk.by (fun _ => none) ?_
  simp [results213, upLo, upHi]
theorem fn262 (x y c tl th : Int) (hx : 0 ≤ x ∧ x ≤ 400000000) (hy : 0 ≤ y ∧ y ≤ 400000000) (hc : 0 < c ∧ c ≤ 2000) (ht : 1500 ≤ tl ∧ tl ≤ th ∧ th ≤ 3500) : Ct prog 262 [vsp x y, vi c, vsp tl th] (vsp (dnLo (1000000 * th) (341632 * c) x) (dnHi (1000000 * tl) (341632 * c) y)) [] := by
  obtain ⟨A, hA⟩ : ∃ A, 1000000 * tl = A := ⟨_, rfl⟩
  obtain ⟨B, hB⟩ : ∃ B, 1000000 * th = B := ⟨_, rfl⟩
  obtain ⟨S, hS⟩ : ∃ S, 341632 * c = S := ⟨_, rfl⟩
  have w1 : IntKind.wrap .i64 S = S := wrap64 (by omega) (by omega)
  have w2 : IntKind.wrap .i64 A = A := wrap64 (by omega) (by omega)
  have w3 : IntKind.wrap .i64 B = B := wrap64 (by omega) (by omega)
  have w4 : IntKind.wrap .i64 (A - S) = A - S := wrap64 (by omega) (by omega)
  have w10 : IntKind.wrap .i64 (B + S) = B + S := wrap64 (by omega) (by omega)
  have m1 := mul_le3 (x := x) (y := B + S) (X := 400000000) (Y := 5000000000) hx (by omega)
  have m2 := mul_le3 (x := y) (y := A) (X := 400000000) (Y := 3500000000) hy (by omega)
  have w5 : IntKind.wrap .i64 (x * (B + S)) = x * (B + S) := wrap64 (by omega) (by omega)
  have w6 : IntKind.wrap .i64 (y * A) = y * A := wrap64 (by omega) (by omega)
  have c1 := fn264 (x * (B + S)) B (by omega) (by omega)
  have c2 := fn265 (y * A) (A - S) (by omega) (by omega)
  rw [hA, hB, hS]
  refine Ct.by gok eok mixed func262 c262 rfl (by simp [ntmps262]) (by simp) (by simp [ResIds]) fun E hE => ?_
  simp [p262, inC, Nat.testBit, hA, hB, hS, w1, w2, w3, w5, w10]
  refine ACall.mk _ _ _ (c1) (by first | (simp; done) | simp [Bor_ls, Bor1_ls]) (by simp) (by first | (left; simp; done) | (right; simp; done)) ?_
  simp [inC, Nat.testBit, hS, w1, w4, w6]
  refine ACall.mk _ _ _ (c2) (by first | (simp; done) | simp [Bor_ls, Bor1_ls]) (by simp) (by first | (left; simp; done) | (right; simp; done)) ?_
  simp [splice]
  refine RetOk.by (fun _ => none) ?_
  simp [results262, dnLo, dnHi]
end Go.Proofs.Tryz
namespace Go.Proofs.Tryz
open Go.Psl
theorem fn228 (l m : List (Int × Int)) (hl : l.length ≤ 1000000000) (_ : m.length ≤ 1000000000) : Ct prog 228 [.d (spansD l), .d (spansD m)] (vb (decide (l = m))) [] := by
  refine Ct.by gok eok mixed func228 c228 rfl (by simp [ntmps228]) (by simp) (by simp [ResIds]) fun E hE => ?_
  by_cases hlen : l.length = m.length
  case neg =>
    have hn : ¬ (l.length : Int) = m.length := by omega
    have hne : ¬ l = m := fun h => hlen (by rw [h])
    simp [p228, hn]
    refine RetOk.by (fun _ => none) ?_
    simp [results228, hne]
  simp [p228, hlen]
  refine pw_loop (α := Nat) (fun i => ⟨slots [(0, .d (spansD l)), (1, .d (spansD m)), (5, vi i)], lk [], 0⟩) (fun i => i ≤ l.length ∧ l.take i = m.take i) (fun i => l.length - i) 0 ?_ ?_ ?_
  · simp
  · refine Weak.mk hE (lk []) _ _ _ ?_ ?_ ?_ ?_ ?_ <;> simp
  · rintro i ⟨hi, hg⟩
    have hz : IntKind.wrap .i64 ((i : Int) + 1) = ((i : Int) + 1) := wrap64 (by omega) (by omega)
    simp [p228l0]
    refine cR_split (fun h => ?_) (fun h => ?_)
    · simp at h
      have hil : i < l.length := by omega
      obtain ⟨a, ha⟩ : ∃ a, l[i]? = some a := ⟨l[i], by simp [hil]⟩
      obtain ⟨b, hb⟩ : ∃ b, m[i]? = some b := ⟨m[i], by simp [show i < m.length by omega]⟩
      by_cases h1 : a.1 = b.1 ∧ a.2 = b.2
      · have hab : a = b := by ext; exact h1.1; exact h1.2
        simp [ha, hb, h1, hz]
        refine ⟨i + 1, ⟨by omega, by simp [List.take_add_one, hg, ha, hb, hab]⟩, by omega, ?_⟩
        refine Weak.mk hE (lk []) _ _ _ ?_ ?_ ?_ ?_ ?_ <;> simp
      · have hne : ¬ l = m := fun h => by
          rw [h, hb] at ha
          cases ha
          exact h1 ⟨rfl, rfl⟩
        have hd : (!decide (a.1 = b.1) || !decide (a.2 = b.2)) = true := by simp; omega
        simp [ha, hb, hd]
        refine RetOk.by (fun _ => none) ?_
        simp [results228, hne]
    · simp at h
      have hil : i = l.length := by omega
      have hlm : l = m := by rw [hil, List.take_length, hlen, List.take_length] at hg; exact hg
      simp
      refine RetOk.by (fun _ => none) ?_
      simp [results228, hlm]
end Go.Proofs.Tryz
namespace Go.Proofs.Tryz
open Go.Psl
theorem sp_flat (l : List (Int × Int)) : (l.map fun s => [di s.1, di s.2]).flatten = spD l := rfl
theorem spD_lit {l : List (Int × Int)} : ∀ x ∈ spD l, litD x := fun x h => by
  simp only [spD, List.mem_flatMap] at h
  obtain ⟨s, _, h⟩ := h
  simp at h
  rcases h with rfl | rfl <;> exact ⟨_, rfl⟩
theorem bor_spans {H : Hp} {id : Nat} {l : List (Int × Int)} {p : Int × Int} (h : H id = some (cellsI l ++ [vi p.1, vi p.2])) : Bor H (.ls id 0 (l.length + 1) 2) (.d (spansD (l ++ [p]))) := by
  rw [Bor_ls]
  refine ⟨rfl, by simp, fun e he => ?_, _, h, ?_⟩
  · simp only [List.mem_map] at he
    obtain ⟨k, _, rfl⟩ := he
    rfl
  · rw [sp_flat, spD_snoc, List.drop_zero, List.take_of_length_le (by simp; omega)]
    simp
end Go.Proofs.Tryz
