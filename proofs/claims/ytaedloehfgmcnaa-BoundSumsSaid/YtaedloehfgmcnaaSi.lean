/- Own lemmas and contracts of functions, used by the last text of this claim for the given statement. Conditions: those that each theorem states. -/
import Derived.Test.YtaedloehfgmcnaaSh
import Derived.Test.YtaedloehfgmcnaaSg
import Derived.Test.YtaedloehfgmcnaaSe
namespace Go.Proofs.Try
open Go.Psl
open Go.Geo (cross pushS chainR)
def popS : List (Int × Int) → Int × Int → List (Int × Int)
  | b :: a :: r, p => if cross a b p ≤ 0 then popS (a :: r) p else b :: a :: r
  | st, _ => st
theorem push_pop (p : Int × Int) : ∀ st, pushS st p = p :: popS st p
  | [] => rfl
  | [_] => rfl
  | b :: a :: r => by
    unfold pushS popS
    split
    · exact push_pop p (a :: r)
    · rfl
theorem popS_sub (p : Int × Int) : ∀ st q, q ∈ popS st p → q ∈ st
  | [], q, h => h
  | [_], q, h => h
  | b :: a :: r, q, h => by
    unfold popS at h
    split at h
    · exact List.mem_cons_of_mem _ (popS_sub p (a :: r) q h)
    · exact h
theorem popS_two {p a b : Int × Int} {r : List (Int × Int)} : popS (b :: a :: r) p = if cross a b p ≤ 0 then popS (a :: r) p else b :: a :: r := rfl
theorem popS_len (p : Int × Int) : ∀ st, (popS st p).length ≤ st.length
  | [] => Nat.le_refl _
  | [_] => Nat.le_refl _
  | b :: a :: r => by
    unfold popS
    split
    · exact Nat.le_succ_of_le (popS_len p (a :: r))
    · exact Nat.le_refl _
theorem chainR_len : ∀ (l : List (Int × Int)), (chainR l).length ≤ l.length := fun l => by
  have key : ∀ (l st : List (Int × Int)), (l.foldl pushS st).length ≤ st.length + l.length := by
    intro l
    induction l with
    | nil => intro st; simp
    | cons a l ih =>
      intro st
      have := ih (pushS st a)
      have h2 := popS_len a st
      rw [push_pop] at this
      simp only [List.foldl_cons, List.length_cons] at this ⊢
      rw [push_pop]; omega
  have := key l []
  simpa [chainR] using this
theorem chainR_mem {l : List (Int × Int)} : ∀ q ∈ chainR l, q ∈ l := fun q h => by
  have key : ∀ (l st : List (Int × Int)), ∀ q ∈ l.foldl pushS st, q ∈ l ∨ q ∈ st := by
    intro l
    induction l with
    | nil => intro st q h; exact Or.inr h
    | cons a l ih =>
      intro st q h
      rcases ih _ q h with h | h
      · exact Or.inl (List.mem_cons_of_mem _ h)
      · rw [push_pop] at h
        rcases List.mem_cons.1 h with rfl | h
        · exact Or.inl (List.mem_cons_self ..)
        · exact Or.inr (popS_sub a st q h)
  rcases key l [] q h with h | h
  · exact h
  · simp at h
theorem chain_take {l : List (Int × Int)} {i : Nat} {p : Int × Int} (h : l[i]? = some p) : chainR (l.take (i + 1)) = p :: popS (chainR (l.take i)) p := by
  rw [List.take_add_one, h]
  show chainR (l.take i ++ [p]) = _
  rw [Go.Geo.chainR_snoc, push_pop]
def outZ (out z : List (Int × Int)) (b : Nat) : List (Nat × List V) := if out.isEmpty then [] else [(b, cellsI (out ++ z))]
@[simp] theorem outZ_nil (z : List (Int × Int)) (b : Nat) : outZ [] z b = [] := rfl
theorem outZ_snoc (l z : List (Int × Int)) (p : Int × Int) (b : Nat) : outZ (l ++ [p]) z b = [(b, cellsI (l ++ [p] ++ z))] := by simp [outZ]
theorem cells_take (l z : List (Int × Int)) : List.take (l.length * 2) (List.map V.d (spD (l ++ z))) = List.map V.d (spD l) := by
  rw [← List.map_take, spD_take, List.take_left]
theorem spD_one (p : Int × Int) (l : List (Int × Int)) : List.map V.d (spD (l ++ [p])) = List.map V.d (spD l) ++ [vi p.1, vi p.2] := by rw [spD_snoc]; simp
end Go.Proofs.Try
namespace Go.Proofs.Try
open Go.Psl
open Go.Geo (cross pushS chainR)
theorem out_cases (O : List (Int × Int)) : O = [] ∨ ∃ o x, O = o ++ [x] := by
  rcases List.eq_nil_or_concat O with rfl | ⟨o, x, rfl⟩
  · exact Or.inl rfl
  · exact Or.inr ⟨o, x, List.concat_eq_append⟩
theorem hdrV_ne {O : List (Int × Int)} (h : O ≠ []) (b : Nat) : hdrV O b = .ls b 0 O.length 2 := by
  obtain rfl | ⟨o, x, rfl⟩ := out_cases O
  · exact absurd rfl h
  · simp
theorem outZ_ne {O z : List (Int × Int)} (h : O ≠ []) (b : Nat) : outZ O z b = [(b, cellsI (O ++ z))] := by
  obtain rfl | ⟨o, x, rfl⟩ := out_cases O
  · exact absurd rfl h
  · exact outZ_snoc o z x b
theorem outZ_ids (O z : List (Int × Int)) (b n : Nat) (h : b < n) : HpIds n (outZ O z b) := by
  obtain rfl | ⟨o, x, rfl⟩ := out_cases O
  · trivial
  · rw [outZ_snoc]
    simp [h]
theorem hdrV_A (O : List (Int × Int)) (b n : Nat) (h : b < n) : AC (· < n) anyD (hdrV O b) := by
  obtain rfl | ⟨o, x, rfl⟩ := out_cases O
  · simp
  · simp [h]
theorem lenF_hdr {Γ : Tys} {t : TypeId} {O : List (Int × Int)} {b : Nat} : lenF Γ t (hdrV O b) = (Γ t).bind fun y => match y.sh with | .slice _ => some (.d (.lit (.int .i64 O.length)), .none) | _ => none := by
  obtain rfl | ⟨o, x, rfl⟩ := out_cases O
  · exact lenF_nil
  · rw [hdrV_snoc, lenF_ls]; congr; funext y; cases y.sh <;> simp
theorem turn_cross (a b p : Int × Int) : turnS (subC a b) (subC b p) = cross a b p := (Go.Geo.cross_xp2 a b p).symm
theorem chain_two {l : List (Int × Int)} (h2 : 2 ≤ l.length) : ∃ top rest, chainR l = top :: rest ∧ rest ≠ [] := by
  rcases List.eq_nil_or_concat l with rfl | ⟨l', p, rfl⟩
  · simp at h2
  · rw [List.concat_eq_append, Go.Geo.chainR_snoc]
    obtain ⟨r, e, _, e2, _⟩ := Go.Geo.pushS_head p (chainR l')
    refine ⟨p, r, e, fun hr => ?_⟩
    have hne : chainR l' ≠ [] := by
      cases l' with
      | nil => simp at h2
      | cons x l' =>
        rcases List.eq_nil_or_concat (x :: l') with h | ⟨m, y, h⟩
        · simp at h
        · rw [h, List.concat_eq_append, Go.Geo.chainR_snoc, push_pop]; simp
    exact (e2 hne).1 hr
set_option maxRecDepth 20000 in
theorem fn130 (B z l zl : List (Int × Int)) (hB : B.length ≤ 100000) (hl : l.length ≤ 100000) (hbd : ∀ q ∈ l, bd 536870912 q) (h2 : 2 ≤ l.length) :
    ∃ z', Cm prog 130 [.lp 0 0, .lp 1 0] (lk ((0, [hdrV B 3]) :: (1, [.ls 2 0 l.length 2]) :: (2, cellsI (l ++ zl)) :: outZ B z 3)) [0, 1, 2] (.ret (.tup []))
      (lk ((0, [hdrV (B ++ (chainR l).tail.reverse) 4]) :: (1, [.ls 2 0 l.length 2]) :: (2, cellsI (l ++ zl)) :: outZ (B ++ (chainR l).tail.reverse) z' 4)) := by
  obtain ⟨top, rest, hch, hrest⟩ := chain_two h2
  refine ⟨[top], ?_⟩
  rw [hch, List.tail_cons]
  have hrr : rest.reverse ≠ [] := by simp [hrest]
  have hR : B ++ rest.reverse ≠ [] := by simp [hrest]
  rw [hdrV_ne hR, outZ_ne hR]
  refine Cm.by gok eok mixed 4 func130 c130 rfl (by simp [ntmps130]) (by simp) (HpIds.at ?_) (by simp) ?_ fun E hE hs => ?_
  · refine ⟨by show 0 < 4; omega, fun c hc => ?_, by show 1 < 4; omega, fun c hc => ?_, by show 2 < 4; omega, fun c hc => ?_, outZ_ids _ _ _ _ (by omega)⟩
    · simp at hc; subst hc; exact hdrV_A B 3 4 (by omega)
    · simp at hc; subst hc; simp
    · exact ac_data c hc
  · simp [ResIds]
  have hst0 : chainR (l.take 0) = [] := by simp [chainR]
  have hcl := fun i => chainR_len (l.take i)
  have hcm : ∀ i, ∀ q ∈ chainR (l.take i), bd 536870912 q := fun i q hq => hbd q (List.mem_of_mem_take (chainR_mem q hq))
  obtain ⟨dl, hdl⟩ : ∃ dl, spD (l ++ zl) = dl := ⟨_, rfl⟩
  have hdl' : cellsI (l ++ zl) = dl.map V.d := by rw [← hdl]
  have hlat : ∀ i p, l[i]? = some p → List.take 2 (List.drop (i * 2) (dl.map V.d)) = [vi p.1, vi p.2] := fun i p h => by
    rw [← hdl]; exact cells_at (by rw [List.getElem?_append_left (List.getElem?_eq_some_iff.1 h).1]; exact h)
  have hlcl : l.length * 2 ≤ dl.length := by rw [← hdl]; simp; omega
  rw [hdl']
  simp [p130, lenF_hdr]
  refine pw_loop (α := Nat × List (Int × Int)) (fun x => ⟨slots [(0, .lp 0 0), (1, .lp 1 0), (2, vi B.length), (7, .ls 2 0 l.length 2), (8, vi l.length), (9, vi x.1)], lk ((0, [hdrV (B ++ (chainR (l.take x.1)).reverse) 3]) :: (1, [.ls 2 0 l.length 2]) :: (2, dl.map .d) :: outZ (B ++ (chainR (l.take x.1)).reverse) x.2 3), 4⟩)
    (fun x => x.1 ≤ l.length ∧ (x.1 = l.length → x.2 = [])) (fun x => l.length - x.1) (0, z) ?_ ?_ ?_
  · exact ⟨by omega, fun h => by simp only at h; omega⟩
  · simp only [hst0, List.reverse_nil, List.append_nil]
    obtain rfl | ⟨b0, x0, rfl⟩ := out_cases B
    · refine Weak.mkM hE (lk [(0, 0), (1, 1), (2, 2)]) _ _ _ ?_ ?_ ?_ ?_ ?_ ?_ <;> simp
    · rw [outZ_snoc]
      refine Weak.mkM hE (lk [(0, 0), (1, 1), (2, 2), (3, 3)]) _ _ _ ?_ ?_ ?_ ?_ ?_ ?_ <;> simp
  rintro ⟨i, z⟩ ⟨hi, hz⟩
  simp only at hi hz
  simp [p130l1]
  refine cR_split (fun h => ?_) (fun h => ?_)
  · simp at h
    obtain ⟨p, hp⟩ : ∃ p, l[i]? = some p := ⟨l[i], by simp [h]⟩
    have hpm := hbd p (List.mem_of_getElem? hp)
    have cp := hlat i p hp
    have q1 : i * 2 + 2 ≤ dl.length := by omega
    have w1 : IntKind.wrap .i64 ((i : Int) + 1) = ((i + 1 : Nat) : Int) := by rw [wrap64 (by omega) (by omega)]; omega
    have hct := chain_take hp
    have hci := hcl i
    have hcmi := hcm i
    have wB : IntKind.wrap .i64 ((B.length : Int) + 1) = (B.length : Int) + 1 := wrap64 (by omega) (by omega)
    obtain ⟨st0, hst⟩ : ∃ st0, chainR (l.take i) = st0 := ⟨_, rfl⟩
    rw [hst] at hct hci hcmi ⊢
    have hl0 : st0.length ≤ 100000 := by simp at hci; omega
    simp [h, cp, q1, splice]
    refine pw_loopC (α := List (Int × Int) × List (Int × Int)) 2 (fun z : List (Int × Int) => ⟨slots [(0, .lp 0 0), (1, .lp 1 0), (2, vi B.length), (4, .lp 4 0), (7, .ls 2 0 l.length 2), (8, vi l.length), (9, vi i)], lk ((0, [hdrV (B ++ (popS st0 p).reverse) 3]) :: (1, [.ls 2 0 l.length 2]) :: (2, dl.map .d) :: (4, [vi p.1, vi p.2]) :: outZ (B ++ (popS st0 p).reverse) z 3), 5⟩) (fun _ => True)
      (fun x => ⟨slots [(0, .lp 0 0), (1, .lp 1 0), (2, vi B.length), (4, .lp 4 0), (7, .ls 2 0 l.length 2), (8, vi l.length), (9, vi i)], lk ((0, [hdrV (B ++ x.1.reverse) 3]) :: (1, [.ls 2 0 l.length 2]) :: (2, dl.map .d) :: (4, [vi p.1, vi p.2]) :: outZ (B ++ x.1.reverse) x.2 3), 5⟩)
      (fun x => popS x.1 p = popS st0 p ∧ x.1.length ≤ 100000 ∧ ∀ q ∈ x.1, bd 536870912 q) (fun x => x.1.length) (st0, z) ?_ ?_ ?_ fun zz _ => ?_
    · exact ⟨rfl, hl0, hcmi⟩
    · obtain e | ⟨b0, x0, e⟩ := out_cases (B ++ st0.reverse) <;> rw [e]
      · refine Weak.mkM hE (lk [(0, 0), (1, 1), (2, 2), (4, 3145732)]) _ _ _ ?_ ?_ ?_ ?_ ?_ ?_ <;> simp
      · rw [outZ_snoc]
        refine Weak.mkM hE (lk [(0, 0), (1, 1), (2, 2), (3, 3), (4, 3145732)]) _ _ _ ?_ ?_ ?_ ?_ ?_ ?_ <;> simp
    · rintro ⟨st, z⟩ ⟨hpop, hlen, hm⟩
      simp only at hpop hlen hm
      by_cases h2s : st.length < 2
      · have hps : popS st0 p = st := by
          rw [← hpop]
          match st, h2s with
          | [], _ => rfl
          | [_], _ => rfl
          | _ :: _ :: _, h => simp at h; omega
        rw [hps]
        obtain ⟨O, hO⟩ : ∃ O, B ++ st.reverse = O := ⟨_, rfl⟩
        have hOl : O.length = B.length + st.length := by rw [← hO]; simp
        rw [hO]
        have hlt : ¬ ((B.length : Int) + 1 < (O.length : Int)) := by omega
        simp [p130l0, lenF_hdr, wB, hlt, inC, Nat.testBit]
        refine ⟨z, ?_⟩
        obtain rfl | ⟨b0, x0, rfl⟩ := out_cases O
        · refine Weak.mkM hE (lk [(0, 0), (1, 1), (2, 2), (4, 4)]) _ _ _ ?_ ?_ ?_ ?_ ?_ ?_ <;> simp
        · rw [outZ_snoc]
          refine Weak.mkM hE (lk [(0, 0), (1, 1), (2, 2), (3, 3), (4, 4)]) _ _ _ ?_ ?_ ?_ ?_ ?_ ?_ <;> simp
      · obtain ⟨b, a, r, rfl⟩ : ∃ b a r, st = b :: a :: r := by
          match st, h2s with
          | b :: a :: r, _ => exact ⟨b, a, r, rfl⟩
          | [], h => simp at h
          | [_], h => simp at h
        have ba := hm a (by simp)
        have bb := hm b (by simp)
        obtain ⟨m, hmm⟩ : ∃ m, m = B.length + r.length := ⟨_, rfl⟩
        obtain ⟨m1, hm1⟩ : ∃ m1, m1 = m + 1 := ⟨_, rfl⟩
        obtain ⟨O, hO⟩ : ∃ O, B ++ (b :: a :: r).reverse = O := ⟨_, rfl⟩
        have hO2 : O = B ++ r.reverse ++ [a] ++ [b] := by rw [← hO]; simp
        have hO3 : B ++ (a :: r).reverse = B ++ r.reverse ++ [a] := by simp
        obtain ⟨N, hN⟩ : ∃ N, O.length = N := ⟨_, rfl⟩
        have hNm : N = m + 2 := by rw [← hN, hO2, hmm]; simp; omega
        have hOne : O ≠ [] := by rw [hO2]; simp
        have ha' : (O ++ z)[m]? = some a := by
          rw [hO2, hmm]; simp only [List.append_assoc]
          rw [List.getElem?_append_right (by omega), List.getElem?_append_right (by simp), List.length_reverse, show B.length + r.length - B.length - r.length = 0 by omega]; rfl
        have hb' : (O ++ z)[m1]? = some b := by
          rw [hO2, hm1, hmm]; simp only [List.append_assoc]
          rw [List.getElem?_append_right (by omega), List.getElem?_append_right (by simp; omega), List.length_reverse, show B.length + r.length + 1 - B.length - r.length = 1 by omega]; rfl
        have ca := cells_at ha'
        have cb := cells_at hb'
        obtain ⟨ds, hds⟩ : ∃ ds, spD (O ++ z) = ds := ⟨_, rfl⟩
        have hdsl : N * 2 ≤ ds.length := by rw [← hds, spD_len, List.length_append, hN]; omega
        rw [hds] at ca cb
        rw [hO, hdrV_ne hOne, outZ_ne hOne, hN, show cellsI (O ++ z) = ds.map V.d by rw [← hds]]
        have w2 : IntKind.wrap .i64 ((N : Int) - 2) = (m : Int) := by simp at hlen; rw [wrap64 (by omega) (by omega)]; omega
        have w3 : IntKind.wrap .i64 ((N : Int) - 1) = (m1 : Int) := by simp at hlen; rw [wrap64 (by omega) (by omega)]; omega
        have hlt : (B.length : Int) + 1 < (N : Int) := by omega
        have l1 : m < N := by omega
        have l2 : m1 < N := by omega
        have l3 : m * 2 + 2 ≤ ds.length := by omega
        have l4 : m1 * 2 + 2 ≤ ds.length := by omega
        have l5 : m1 ≤ N := by omega
        have e1 := bd_sub (N := 1073741824) ba bb (by omega)
        have e2 := bd_sub (N := 1073741824) bb hpm (by omega)
        have big : ∀ q, bd 536870912 q → bd 1152921504606846976 q := fun q h => by unfold bd at *; omega
        have big2 : ∀ q, bd 1073741824 q → bd 2000000000 q := fun q h => by unfold bd at *; omega
        simp [p130l0, wB, hlt, inC, Nat.testBit, w2, w3, l1, l2, l3, l4, ca, cb]
        refine ACall.mk _ _ _ (fn110 a b (big _ ba) (big _ bb)) (by first | (simp; done) | simp [Bor_ls, Bor1_ls]) (by simp) (by first | (left; simp; done) | (right; simp; done)) ?_
        simp [inC, Nat.testBit, w3, l2, l4, cb]
        refine ACall.mk _ _ _ (fn110 b p (big _ bb) (big _ hpm)) (by first | (simp; done) | simp [Bor_ls, Bor1_ls]) (by simp) (by first | (left; simp; done) | (right; simp; done)) ?_
        simp
        refine ACall.mk _ _ _ (fn131 (subC a b) (subC b p) (big2 _ e1) (big2 _ e2)) (by first | (simp; done) | simp [Bor_ls, Bor1_ls]) (by simp) (by first | (left; simp; done) | (right; simp; done)) ?_
        rw [turn_cross]
        by_cases hc : cross a b p ≤ 0
        · simp [hc, w3, l5, splice]
          refine ⟨a :: r, ⟨by rw [← hpop, popS_two, if_pos hc], by simp at hlen ⊢; omega, fun q1 q2 hq => hm (q1, q2) (List.mem_cons_of_mem _ hq)⟩, by simp, [b] ++ z, ?_⟩
          rw [hO3, hdrV_snoc, outZ_snoc, show cellsI (B ++ r.reverse ++ [a] ++ ([b] ++ z)) = ds.map V.d by rw [← hds, hO2]; simp]
          refine Weak.mkM hE (lk [(0, 0), (1, 1), (2, 2), (3, 3), (4, 4)]) _ _ _ ?_ ?_ ?_ ?_ ?_ ?_ <;> simp
          omega
        · have hps : popS st0 p = b :: a :: r := by rw [← hpop, popS_two, if_neg hc]
          rw [hps, hO, hdrV_ne hOne, hN]
          simp [hc]
          refine ⟨z, ?_⟩
          rw [outZ_ne hOne, show cellsI (O ++ z) = ds.map V.d by rw [← hds]]
          refine Weak.mkM hE (lk [(0, 0), (1, 1), (2, 2), (3, 3), (4, 4)]) _ _ _ ?_ ?_ ?_ ?_ ?_ ?_ <;> simp
    · have hpl := popS_len p st0
      obtain ⟨O, hO⟩ : ∃ O, B ++ (popS st0 p).reverse = O := ⟨_, rfl⟩
      have hOl : O.length ≤ 200000 := by rw [← hO]; simp; omega
      have hnx : B ++ (chainR (l.take (i + 1))).reverse = O ++ [p] := by rw [hct, ← hO]; simp
      rw [hO]
      have fin : cellsI (O ++ [p]) = (spD O).map V.d ++ [vi p.1, vi p.2] := spD_one p O
      obtain rfl | ⟨o, x, rfl⟩ := out_cases O
      · simp [repl, splice, w1]
        refine ⟨i + 1, [], ⟨by omega, fun _ => rfl⟩, by omega, ?_⟩
        rw [hnx, hdrV_snoc, outZ_snoc, List.append_nil, fin]
        refine Weak.mkM hE (lk [(0, 0), (1, 1), (2, 2), (3, 3145733)]) _ _ _ ?_ ?_ ?_ ?_ ?_ ?_ <;> simp
      · have htk := cells_take (o ++ [x]) zz
        have hdl3 := spD_len (o ++ [x] ++ zz)
        have hOne : o ++ [x] ≠ [] := by simp
        obtain ⟨N, hN⟩ : ∃ N, (o ++ [x]).length = N := ⟨_, rfl⟩
        have hdo := spD_len (o ++ [x])
        rw [List.length_append, hN] at hdl3
        rw [hN] at htk hOl hdo
        rw [hdrV_ne hOne, outZ_ne hOne, hN]
        have hcc : cellsI (o ++ [x] ++ zz) = List.map V.d (spD (o ++ [x] ++ zz)) := rfl
        rw [hcc]
        generalize spD (o ++ [x] ++ zz) = ds at htk hdl3 ⊢
        generalize spD (o ++ [x]) = eo at fin htk hdo
        have hfit : N * 2 ≤ ds.length ∧ (N + 1) * 16 ≤ 140737488355328 ∧ N + 1 ≤ 9223372036854775807 := by omega
        simp [repl, splice, w1, hfit, htk]
        refine ⟨i + 1, [], ⟨by omega, fun _ => rfl⟩, by omega, ?_⟩
        rw [hnx, hdrV_snoc, outZ_snoc, List.append_nil, fin, hN]
        refine Weak.mkM hE (lk [(0, 0), (1, 1), (2, 2), (3, 3145733)]) _ _ _ ?_ ?_ ?_ ?_ ?_ ?_ <;> simp
        rintro c (⟨a, _, rfl⟩ | rfl | rfl) <;> simp
  · simp at h
    have hil : i = l.length := by omega
    subst hil
    rw [hz rfl, List.take_length, hch, List.reverse_cons, ← List.append_assoc, hdrV_snoc, outZ_snoc]
    obtain ⟨O, hO⟩ : ∃ O, B ++ rest.reverse = O := ⟨_, rfl⟩
    rw [hO]
    try rw [hO] at hR
    have hOl : O.length ≤ 1000000 := by
      have := hcl l.length
      rw [List.take_length, hch] at this
      rw [← hO]; simp at this ⊢; omega
    have w2 : IntKind.wrap .i64 (O.length : Int) = (O.length : Int) := wrap64 (by omega) (by omega)
    have hOr : O.length = B.length + rest.length := by rw [← hO]; simp
    have hOn : (O.length : Int) ≤ (O.length : Int) + 1 := by omega
    have hOm : O.length ≤ O.length + 1 := by omega
    have hcO := spD_one top O
    rw [List.append_nil, show cellsI (O ++ [top]) = (spD O).map V.d ++ [vi top.1, vi top.2] from hcO]
    simp [w2, hOn, splice]
    refine RetOk.by (lk [(0, 0), (1, 1), (2, 2), (4, 3)]) ?_
    simp [results130]
    exact hOr
end Go.Proofs.Try
namespace Go.Proofs.Try
open Go.Psl
open Go.Geo (cross pushS chainR hullS)
def sortC (l : List (Int × Int)) : List (Int × Int) := l.mergeSort fun x y => !decide (orderS y x < 0)
def hullP (l : List (Int × Int)) : List (Int × Int) := hullS (ddC (sortC l))
theorem sortC_len (l : List (Int × Int)) : (sortC l).length = l.length := List.length_mergeSort _
theorem sortC_mem (l : List (Int × Int)) (p : Int × Int) : p ∈ sortC l ↔ p ∈ l := (List.mergeSort_perm l _).mem_iff
theorem ddC_mem {p : Int × Int} : ∀ l : List (Int × Int), p ∈ ddC l ↔ p ∈ l := by
  have key : ∀ (l d : List (Int × Int)), p ∈ l.foldl ddStep d ↔ p ∈ d ∨ p ∈ l := by
    intro l
    induction l with
    | nil => intro d; simp
    | cons a l ih =>
      intro d
      rw [List.foldl_cons, ih]
      unfold ddStep
      by_cases h : d.getLast? = some a
      · rw [if_pos h]
        have := List.mem_of_getLast? h
        simp only [List.mem_cons]
        constructor
        · rintro (h | h); exact Or.inl h; exact Or.inr (Or.inr h)
        · rintro (h | rfl | h); exact Or.inl h; exact Or.inl this; exact Or.inr h
      · rw [if_neg h]
        simp only [List.mem_append, List.mem_cons, List.not_mem_nil, or_false]
        constructor
        · rintro ((h | h) | h); exact Or.inl h; exact Or.inr (Or.inl h); exact Or.inr (Or.inr h)
        · rintro (h | h | h); exact Or.inl (Or.inl h); exact Or.inl (Or.inr h); exact Or.inr h
  intro l
  have := key l []
  simp only [List.not_mem_nil, false_or] at this
  exact this
theorem fn93 (hsort : ∀ l : List (Int × Int), 0 < l.length → l.length ≤ 100000 → Cm prog 127 [.ls 0 0 l.length 2, .d (.fn 128 [])] (lk [(0, cellsI l)]) [0] (.ret (.tup [])) (lk [(0, cellsI (sortC l))]))
    (l : List (Int × Int)) (h1 : 0 < l.length) (hl : l.length ≤ 100000) (hbd : ∀ q ∈ l, bd 536870912 q) : ∃ z, Ct prog 93 [.d (spansD l)] (.ls 0 0 (hullP l).length 2) [(0, cellsI (hullP l ++ z))] := by
  have hne : l ≠ [] := by intro h; rw [h] at h1; simp at h1
  obtain ⟨L, hL⟩ : ∃ L, ddC (sortC l) = L := ⟨_, rfl⟩
  have hLm : ∀ q ∈ L, bd 536870912 q := fun q hq => hbd q (by rw [← hL, ddC_mem, sortC_mem] at hq; exact hq)
  have hLl : L.length ≤ l.length := by
    have := dd_len (sortC l) l.length
    rw [List.take_of_length_le (by rw [sortC_len]; omega), hL] at this
    exact this
  have c1 := fn126 l (by omega) hne
  have c2 := hsort l h1 hl
  have c3 := fn129 (sortC l) (by rw [sortC_len]; omega)
  rw [sortC_len, hL] at c3
  obtain ⟨zl, hzl⟩ : ∃ zl, List.replicate (l.length - L.length) ((0 : Int), (0 : Int)) = zl := ⟨_, rfl⟩
  rw [hzl] at c3
  unfold hullP
  rw [hL]
  have hLpos : 0 < L.length := by
    obtain ⟨p, hp⟩ := List.exists_mem_of_length_pos h1
    have : p ∈ L := by rw [← hL, ddC_mem, sortC_mem]; exact hp
    exact List.length_pos_of_mem this
  have n1 : spD l ≠ [] := by intro h; have := congrArg List.length h; simp at this; omega
  have n2 : spD (sortC l) ≠ [] := by intro h; have := congrArg List.length h; rw [spD_len, sortC_len] at this; simp at this; omega
  have n3 : ∀ z, spD (L ++ z) ≠ [] := by intro z h; have := congrArg List.length h; simp at this; omega
  have d2 := c2.rename (fun _ => 2097152) 1 (by omega) (by simp) (by simp) (by simp)
  have d3 := c3.rename (fun _ => 2097152) 1 (by omega) (by simp) (by simp) (by simp)
  simp [renL, renR] at d2 d3
  by_cases h3 : L.length < 3
  · refine ⟨zl, ?_⟩
    have e : hullS L = L := by unfold hullS; rw [if_pos h3]
    have h3' : (L.length : Int) < 3 := by omega
    rw [e]
    refine Ct.by gok eok mixed func93 c93 rfl (by simp [ntmps93]) (by simp) (by simp [ResIds]) fun E hE => ?_
    simp [p93]
    refine ACall.mk _ _ _ (c1) (by first | (simp; done) | simp [Bor_ls, Bor1_ls]) (by simp) (by first | (left; simp; done) | (right; simp; done)) ?_
    simp [splice]
    refine ACall.mkR _ _ _ _ _ (d2) (by simp) (by simp) (by simp [n1]) (by simp) (by first | (left; simp; done) | (right; simp [n1]; done)) ?_
    simp
    refine ACall.mkR _ _ _ _ _ (d3) (by simp) (by simp) (by simp [n2]) (by simp) (by first | (left; simp; done) | (right; simp [n2]; done)) ?_
    simp [splice, h3']
    refine RetOk.by (lk [(0, 2097152)]) ?_
    simp [results93]
  · have h3' : ¬ (L.length : Int) < 3 := by omega
    obtain ⟨z1, c4⟩ := fn130 [] [] L zl (by simp) (by omega) hLm (by omega)
    have c5 := fn132 L zl (by omega)
    obtain ⟨lo, hlo⟩ : ∃ lo, (chainR L).tail.reverse = lo := ⟨_, rfl⟩
    have hlol : lo.length ≤ 100000 := by
      have := chainR_len L
      rw [← hlo]; simp; omega
    obtain ⟨z2, c6⟩ := fn130 lo z1 L.reverse zl (by omega) (by rw [List.length_reverse]; omega) (fun q hq => hLm q (List.mem_reverse.1 hq)) (by rw [List.length_reverse]; omega)
    have e : hullS L = lo ++ (chainR L.reverse).tail.reverse := by unfold hullS; rw [if_neg h3, hlo]
    rw [← e] at c6
    rw [hlo, List.nil_append] at c4
    have hlone : lo ≠ [] := by
      obtain ⟨top, rest, h, hr⟩ := chain_two (l := L) (by omega)
      rw [← hlo, h]; simpa using hr
    have hRne : hullS L ≠ [] := by rw [e]; simp [hlone]
    rw [hdrV_ne hlone, outZ_ne hlone] at c4 c6
    rw [hdrV_ne hRne, outZ_ne hRne, List.length_reverse] at c6
    have n4 : ∀ z, spD (L.reverse ++ z) ≠ [] := by intro z h; have := congrArg List.length h; simp at this; omega
    have n5 : ∀ z, spD (lo ++ z) ≠ [] := by intro z h; have := congrArg List.length h; have h8 := List.length_pos_iff.2 hlone; simp only [spD_len, List.length_append, List.length_nil] at this; omega
    refine ⟨z2, ?_⟩
    refine Ct.by gok eok mixed func93 c93 rfl (by simp [ntmps93]) (by simp) (by simp [ResIds]) fun E hE => ?_
    simp [p93]
    refine ACall.mk _ _ _ (c1) (by first | (simp; done) | simp [Bor_ls, Bor1_ls]) (by simp) (by first | (left; simp; done) | (right; simp; done)) ?_
    simp [splice]
    refine ACall.mkR _ _ _ _ _ (d2) (by simp) (by simp) (by simp [n1]) (by simp) (by first | (left; simp; done) | (right; simp [n1]; done)) ?_
    simp
    refine ACall.mkR _ _ _ _ _ (d3) (by simp) (by simp) (by simp [n2]) (by simp) (by first | (left; simp; done) | (right; simp [n2]; done)) ?_
    have d4 := c4.rename (fun i => if i = 0 then 13631488 else if i = 1 then 3145728 else if i = 2 then 2097152 else i) 5 (by intro i j hi hj h; (repeat' split at h) <;> omega) (by simp) (by simp) (by simp)
    have d5 := c5.rename (fun _ => 2097152) 1 (by omega) (by simp) (by simp) (by simp)
    have d6 := c6.rename (fun i => if i = 0 then 13631488 else if i = 1 then 3145728 else if i = 2 then 2097152 else if i = 3 then 17825796 else i) 5 (by intro i j hi hj h; (repeat' split at h) <;> omega) (by simp) (by simp) (by simp)
    simp [renL, renR] at d4 d5 d6
    simp [splice, h3']
    refine ACall.mkR _ _ _ _ _ (d4) (by simp) (by simp) (by simp [n3]) (by simp) (by first | (left; simp; done) | (right; simp [n3]; done)) ?_
    simp
    refine ACall.mkR _ _ _ _ _ (d5) (by simp) (by simp) (by simp [n3]) (by simp) (by first | (left; simp; done) | (right; simp [n3]; done)) ?_
    simp
    refine ACall.mkR _ _ _ _ _ (d6) (by simp) (by simp) (by simp [n4]) (by simp) (by first | (left; simp; done) | (right; simp [n4, n5]; done)) ?_
    simp
    refine RetOk.by (lk [(0, 22020100)]) ?_
    simp [results93]
end Go.Proofs.Try
namespace Go.Proofs.Try
open Go.Psl
open Go.Geo (cross pushS chainR hullS)
def SortOk : Prop := ∀ l : List (Int × Int), 0 < l.length → l.length ≤ 100000 → Cm prog 127 [.ls 0 0 l.length 2, .d (.fn 128 [])] (lk [(0, cellsI l)]) [0] (.ret (.tup [])) (lk [(0, cellsI (sortC l))])
def regS (r : List (Int × Int)) : Bool := decide (1 ≤ r.length) && decide (r.length ≤ 64) && nearC r && decide (hullP r = r)
theorem near_bd {l : List (Int × Int)} (h : nearC l = true) : ∀ q ∈ l, bd 536870912 q := fun q hq => by
  have := okC_iff.1 (List.all_eq_true.1 h q hq)
  unfold bd at *; omega
theorem near_bd2 {l : List (Int × Int)} (h : nearC l = true) : ∀ q ∈ l, bd 268435456 q := fun q hq => okC_iff.1 (List.all_eq_true.1 h q hq)
theorem hullP_len (l : List (Int × Int)) : (hullP l).length ≤ 2 * l.length := by
  have h1 : (ddC (sortC l)).length ≤ l.length := by
    have := dd_len (sortC l) l.length
    rw [List.take_of_length_le (by rw [sortC_len]; omega)] at this
    exact this
  unfold hullP hullS
  split
  · omega
  · have h2 := chainR_len (ddC (sortC l))
    have h3 := chainR_len (ddC (sortC l)).reverse
    simp at h3 ⊢; omega
theorem bor_cut {H : Hp} {id : Nat} {l z : List (Int × Int)} (h : H id = some (cellsI (l ++ z))) : Bor H (.ls id 0 l.length 2) (.d (spansD l)) := by
  rw [Bor_ls]
  refine ⟨rfl, by simp, fun e he => ?_, _, h, ?_⟩
  · simp only [List.mem_map] at he
    obtain ⟨k, _, rfl⟩ := he
    rfl
  · rw [sp_flat', List.drop_zero, cells_take]
theorem fn55 (hS : SortOk) (r : List (Int × Int)) (hr : r.length ≤ 1000000000) : Ct prog 55 [.d (spansD r)] (vi (if regS r then 0 else 14)) [] := by
  refine Ct.by gok eok mixed func55 c55 rfl (by simp [ntmps55]) (by simp) (by simp [ResIds]) fun E hE => ?_
  by_cases h1 : r.length < 1
  · have h1' : (r.length : Int) < 1 := by omega
    have e : regS r = false := by unfold regS; rw [decide_eq_false (p := 1 ≤ r.length) (by omega)]; simp
    simp [p55, h1']
    refine RetOk.by (fun _ => none) ?_
    simp [results55, e]
  have h1' : ¬ (r.length : Int) < 1 := by omega
  by_cases h2 : 64 < r.length
  · have h2' : (64 : Int) < r.length := by omega
    have e : regS r = false := by unfold regS; rw [decide_eq_false (p := r.length ≤ 64) (by omega)]; simp
    simp [p55, h1', h2']
    refine RetOk.by (fun _ => none) ?_
    simp [results55, e]
  have h2' : ¬ (64 : Int) < r.length := by omega
  simp [p55, h1', h2']
  refine ACall.mk _ _ _ (fn92 r hr) (by first | (simp; done) | simp [Bor_ls, Bor1_ls]) (by simp) (by first | (left; simp; done) | (right; simp; done)) ?_
  by_cases h3 : nearC r = true
  · simp [h3]
    obtain ⟨z, c⟩ := fn93 hS r (by omega) (by omega) (near_bd h3)
    refine ACall.mk _ _ _ (c) (by first | (simp; done) | simp [Bor_ls, Bor1_ls]) (by simp) (by first | (left; simp; done) | (right; simp; done)) ?_
    simp
    have hpl := hullP_len r
    refine ACall.mk _ _ _ (fn101 (hullP r) r (by omega) (by omega)) (by simp [bor_cut (z := z)]) (by simp) (by first | (left; simp; done) | (right; simp; done)) ?_
    have e : regS r = decide (hullP r = r) := by unfold regS; rw [decide_eq_true (p := 1 ≤ r.length) (by omega), decide_eq_true (p := r.length ≤ 64) (by omega), h3]; rfl
    by_cases h4 : hullP r = r
    · simp [h4]
      refine RetOk.by (fun _ => none) ?_
      simp [results55, e, h4]
    · simp [h4]
      refine RetOk.by (fun _ => none) ?_
      simp [results55, e, h4]
  · simp [h3]
    have e : regS r = false := by unfold regS; simp [h3]
    refine RetOk.by (fun _ => none) ?_
    simp [results55, e]
theorem hullP_ne {l : List (Int × Int)} (h : 0 < l.length) : hullP l ≠ [] := by
  have hLpos : ddC (sortC l) ≠ [] := by
    obtain ⟨p, hp⟩ := List.exists_mem_of_length_pos h
    have : p ∈ ddC (sortC l) := by rw [ddC_mem, sortC_mem]; exact hp
    exact List.ne_nil_of_mem this
  unfold hullP hullS
  split
  · exact hLpos
  · obtain ⟨top, rest, e, hr⟩ := chain_two (l := ddC (sortC l)) (by omega)
    rw [e]; simp [hr]
end Go.Proofs.Try
namespace Go.Proofs.Try
open Go.Psl
def strS (dx dy : Int) : Bool := decide (-1073741824 ≤ min dx dy) && decide (max dx dy ≤ 1073741824)
theorem strS_iff {dx dy : Int} : strS dx dy = true ↔ bd 1073741824 (dx, dy) := by
  unfold strS bd; simp only [Bool.and_eq_true, decide_eq_true_eq]; omega
theorem fn102 (dx dy : Int) : Ct prog 102 [vi dx, vi dy] (vb (strS dx dy)) [] := by
  refine Ct.by gok eok mixed func102 c102 rfl (by simp [ntmps102]) (by simp) (by simp [ResIds]) fun E hE => ?_
  by_cases h1 : -1073741824 ≤ min dx dy
  · by_cases h2 : max dx dy ≤ 1073741824
    · simp [p102, h1, h2]
      refine RetOk.by (fun _ => none) ?_
      simp [results102, strS, h1, h2]
    · simp [p102, h1, h2]
      refine RetOk.by (fun _ => none) ?_
      simp [results102, strS, h1, h2]
  · simp [p102, h1]
    refine RetOk.by (fun _ => none) ?_
    simp [results102, strS, h1]
def dotS (dx dy : Int) (p : Int × Int) : Int := dx * p.1 + dy * p.2
theorem dot_bd {dx dy : Int} {p : Int × Int} (hd : bd 1073741824 (dx, dy)) (hp : bd 536870912 p) : (-576460752303423488 ≤ dx * p.1 ∧ dx * p.1 ≤ 576460752303423488) ∧ (-576460752303423488 ≤ dy * p.2 ∧ dy * p.2 ≤ 576460752303423488) := by
  have h1 := mul_abs hd.1 hp.1
  have h2 := mul_abs hd.2 hp.2
  simp only at h1 h2
  omega
def alN (l : List (Int × Int)) (dx dy : Int) : Nat → Int × Int
  | 0 => (0, 0)
  | i + 1 => match l[i]? with
    | some p => if i = 0 then (dotS dx dy p, dotS dx dy p) else (min (alN l dx dy i).1 (dotS dx dy p), max (alN l dx dy i).2 (dotS dx dy p))
    | none => alN l dx dy i
def alongS (l : List (Int × Int)) (dx dy : Int) : Int × Int := alN l dx dy l.length
theorem fn103 (l : List (Int × Int)) (dx dy : Int) (hl : l.length ≤ 1000000000) (hd : bd 1073741824 (dx, dy)) (hb : ∀ q ∈ l, bd 536870912 q) : Ct prog 103 [.d (spansD l), vi dx, vi dy] (.tup [vi (alongS l dx dy).1, vi (alongS l dx dy).2]) [] := by
  refine Ct.by gok eok mixed func103 c103 rfl (by simp [ntmps103]) (by simp) (by simp [ResIds]) fun E hE => ?_
  simp [p103]
  refine pw_loop (α := Nat) (fun i => ⟨slots [(1, vi dx), (2, vi dy), (6, vi (alN l dx dy i).1), (7, vi (alN l dx dy i).2), (11, .d (spansD l)), (12, vi l.length), (13, vi i)], lk [], 0⟩) (fun i => i ≤ l.length) (fun i => l.length - i) 0 ?_ ?_ ?_
  · simp
  · refine Weak.mk hE (lk []) _ _ _ ?_ ?_ ?_ ?_ ?_ <;> simp [alN]
  · intro i hi
    have hz : IntKind.wrap .i64 ((i : Int) + 1) = ((i : Int) + 1) := wrap64 (by omega) (by omega)
    simp [p103l0]
    refine cR_split (fun h => ?_) (fun h => ?_)
    · simp at h
      obtain ⟨p, hp⟩ : ∃ p, l[i]? = some p := ⟨l[i], by simp [h]⟩
      have b := dot_bd hd (hb p (List.mem_of_getElem? hp))
      have w1 : IntKind.wrap .i64 (dx * p.1) = dx * p.1 := wrap64 (by omega) (by omega)
      have w2 : IntKind.wrap .i64 (dy * p.2) = dy * p.2 := wrap64 (by omega) (by omega)
      have w3 : IntKind.wrap .i64 (dx * p.1 + dy * p.2) = dx * p.1 + dy * p.2 := wrap64 (by omega) (by omega)
      by_cases h0 : i = 0
      · subst h0
        have hz1 : IntKind.wrap .i64 1 = 1 := by decide
        simp [hp, splice, w1, w2, w3, hz1]
        refine ⟨1, by omega, by omega, ?_⟩
        refine Weak.mk hE (lk []) _ _ _ ?_ ?_ ?_ ?_ ?_ <;> simp [alN, hp, dotS]
      · simp [hp, splice, w1, w2, w3, hz, h0]
        refine ⟨i + 1, by omega, by omega, ?_⟩
        refine Weak.mk hE (lk []) _ _ _ ?_ ?_ ?_ ?_ ?_ <;> simp [alN, hp, dotS, h0]
    · simp at h
      have hil : i = l.length := by omega
      subst hil
      simp
      refine RetOk.by (fun _ => none) ?_
      simp [results103, alongS]
def reachE (r : List (Int × Int)) (dx dy : Int) : Int := if regS r = false then 14 else if strS dx dy = false then 2 else 0
def reachV (r : List (Int × Int)) (dx dy : Int) : Int := if reachE r dx dy = 0 then (alongS r dx dy).2 else 0
theorem regS_bd {r : List (Int × Int)} (h : regS r = true) : ∀ q ∈ r, bd 268435456 q := near_bd2 (by unfold regS at h; simp only [Bool.and_eq_true] at h; exact h.1.2)
theorem regS_len {r : List (Int × Int)} (h : regS r = true) : 1 ≤ r.length ∧ r.length ≤ 64 := by
  unfold regS at h; simp only [Bool.and_eq_true, decide_eq_true_eq] at h; exact h.1.1
theorem bd_mono {M N : Int} {p : Int × Int} (h : bd M p) (hm : M ≤ N) : bd N p := by unfold bd at *; omega
theorem fn60 (hS : SortOk) (r : List (Int × Int)) (dx dy : Int) (hr : r.length ≤ 1000000000) : Ct prog 60 [.d (spansD r), vi dx, vi dy] (.tup [vi (reachV r dx dy), vi (reachE r dx dy)]) [] := by
  refine Ct.by gok eok mixed func60 c60 rfl (by simp [ntmps60]) (by simp) (by simp [ResIds]) fun E hE => ?_
  simp [p60]
  refine ACall.mk _ _ _ (fn55 hS r hr) (by first | (simp; done) | simp [Bor_ls, Bor1_ls]) (by simp) (by first | (left; simp; done) | (right; simp; done)) ?_
  by_cases h1 : regS r = true
  · simp [h1]
    refine ACall.mk _ _ _ (fn102 dx dy) (by first | (simp; done) | simp [Bor_ls, Bor1_ls]) (by simp) (by first | (left; simp; done) | (right; simp; done)) ?_
    by_cases h2 : strS dx dy = true
    · simp [h2]
      refine ACall.mk _ _ _ (fn103 r dx dy hr (strS_iff.1 h2) (fun q hq => bd_mono (regS_bd h1 q hq) (by omega))) (by first | (simp; done) | simp [Bor_ls, Bor1_ls]) (by simp) (by first | (left; simp; done) | (right; simp; done)) ?_
      simp
      refine RetOk.by (fun _ => none) ?_
      simp [results60, reachV, reachE, h1, h2]
    · simp [h2]
      refine RetOk.by (fun _ => none) ?_
      simp [results60, reachV, reachE, h1, h2]
  · simp [h1]
    refine RetOk.by (fun _ => none) ?_
    simp [results60, reachV, reachE, h1]
theorem fn57 (l m : List (Int × Int)) (hl : l.length ≤ 1000000000) (_ : m.length ≤ 1000000000) : Ct prog 57 [.d (spansD l), .d (spansD m)] (vb (decide (l = m))) [] := by
  refine Ct.by gok eok mixed func57 c57 rfl (by simp [ntmps57]) (by simp) (by simp [ResIds]) fun E hE => ?_
  by_cases hlen : l.length = m.length
  case neg =>
    have hn : ¬ (l.length : Int) = m.length := by omega
    have hne : ¬ l = m := fun h => hlen (by rw [h])
    simp [p57, hn]
    refine RetOk.by (fun _ => none) ?_
    simp [results57, hne]
  simp [p57, hlen]
  refine pw_loop (α := Nat) (fun i => ⟨slots [(0, .d (spansD l)), (1, .d (spansD m)), (5, vi i)], lk [], 0⟩) (fun i => i ≤ l.length ∧ l.take i = m.take i) (fun i => l.length - i) 0 ?_ ?_ ?_
  · simp
  · refine Weak.mk hE (lk []) _ _ _ ?_ ?_ ?_ ?_ ?_ <;> simp
  · rintro i ⟨hi, hg⟩
    have hz : IntKind.wrap .i64 ((i : Int) + 1) = ((i : Int) + 1) := wrap64 (by omega) (by omega)
    simp [p57l0]
    refine cR_split (fun h => ?_) (fun h => ?_)
    · simp at h
      have hil : i < l.length := by omega
      obtain ⟨a, ha⟩ : ∃ a, l[i]? = some a := ⟨l[i], by simp [hil]⟩
      obtain ⟨b, hb⟩ : ∃ b, m[i]? = some b := ⟨m[i], by simp [show i < m.length by omega]⟩
      by_cases h1 : a.1 = b.1 ∧ a.2 = b.2
      · have hab : a = b := by ext; exact h1.1; exact h1.2
        simp [ha, hb, h1, hz]
        refine ⟨i + 1, ⟨by omega, by simp [List.take_add_one, hg, ha, hb, hab]⟩, by omega, ?_⟩
        refine Weak.mk hE (lk []) _ _ _ ?_ ?_ ?_ ?_ ?_ <;> simp
      · have hne : ¬ l = m := fun h => by
          rw [h, hb] at ha
          cases ha
          exact h1 ⟨rfl, rfl⟩
        have hd : (!decide (a.1 = b.1) || !decide (a.2 = b.2)) = true := by simp; omega
        simp [ha, hb, hd]
        refine RetOk.by (fun _ => none) ?_
        simp [results57, hne]
    · simp at h
      have hil : i = l.length := by omega
      have hlm : l = m := by rw [hil, List.take_length, hlen, List.take_length] at hg; exact hg
      simp
      refine RetOk.by (fun _ => none) ?_
      simp [results57, hlm]
end Go.Proofs.Try
namespace Go.Proofs.Try
open Go.Psl
theorem sp_flat (l : List (Int × Int)) : (l.map fun s => [di s.1, di s.2]).flatten = spD l := rfl
theorem spD_lit {l : List (Int × Int)} : ∀ x ∈ spD l, litD x := fun x h => by
  simp only [spD, List.mem_flatMap] at h
  obtain ⟨s, _, h⟩ := h
  simp at h
  rcases h with rfl | rfl <;> exact ⟨_, rfl⟩
theorem bor_spans {H : Hp} {id : Nat} {l : List (Int × Int)} {p : Int × Int} (h : H id = some (cellsI l ++ [vi p.1, vi p.2])) : Bor H (.ls id 0 (l.length + 1) 2) (.d (spansD (l ++ [p]))) := by
  rw [Bor_ls]
  refine ⟨rfl, by simp, fun e he => ?_, _, h, ?_⟩
  · simp only [List.mem_map] at he
    obtain ⟨k, _, rfl⟩ := he
    rfl
  · rw [sp_flat, spD_snoc, List.drop_zero, List.take_of_length_le (by simp; omega)]
    simp
end Go.Proofs.Try
namespace Go.Proofs.Try
open Go.Psl
open Go.Geo (cross pushS chainR hullS)
def leC (x y : Int × Int) : Bool := !decide (orderS y x < 0)
theorem order_lt {x y : Int × Int} : orderS x y < 0 ↔ Go.Geo.lt x y := by
  unfold orderS orI orI orI cmpI Go.Geo.lt
  by_cases h1 : x.1 < y.1
  · simp [h1]
  · by_cases h2 : y.1 < x.1
    · simp [h1, h2]; omega
    · by_cases h3 : x.2 < y.2
      · simp [h1, h2, h3]; omega
      · by_cases h4 : y.2 < x.2
        · simp [h1, h2, h3, h4]
        · simp [h1, h2, h3, h4]
theorem leC_iff {x y : Int × Int} : leC x y = true ↔ ¬ Go.Geo.lt y x := by unfold leC; rw [Bool.not_eq_true', decide_eq_false_iff_not, order_lt]
theorem leC_trans (a b c : Int × Int) (h1 : leC a b = true) (h2 : leC b c = true) : leC a c = true := by
  rw [leC_iff] at *; unfold Go.Geo.lt at *; omega
theorem leC_total (a b : Int × Int) : (leC a b || leC b a) = true := by
  rw [Bool.or_eq_true, leC_iff, leC_iff]; unfold Go.Geo.lt; omega
theorem sortC_pw (l : List (Int × Int)) : (sortC l).Pairwise fun x y => leC x y = true := List.pairwise_mergeSort leC_trans leC_total l
theorem dd_pw {l : List (Int × Int)} (h : l.Pairwise fun x y => leC x y = true) : Go.Geo.Sorted (ddC l) := by
  have key : ∀ (l d : List (Int × Int)), l.Pairwise (fun x y => leC x y = true) → Go.Geo.Sorted d → (∀ x ∈ d, ∀ y ∈ l, leC x y = true) → Go.Geo.Sorted (l.foldl ddStep d) := by
    intro l
    induction l with
    | nil => intro d _ h _; exact h
    | cons a l ih =>
      intro d hl hd hx
      rw [List.foldl_cons]
      have hl' := List.pairwise_cons.1 hl
      unfold ddStep
      by_cases h : d.getLast? = some a
      · rw [if_pos h]
        exact ih d hl'.2 hd fun x hx' y hy => hx x hx' y (by simp [hy])
      · rw [if_neg h]
        refine ih _ hl'.2 ?_ fun x hx' y hy => ?_
        · unfold Go.Geo.Sorted
          rw [List.pairwise_append]
          refine ⟨hd, List.pairwise_singleton _ _, fun x hxd y hy => ?_⟩
          rw [List.mem_singleton.1 hy]
          have h1 := leC_iff.1 (hx x hxd a (by simp))
          rcases Go.Geo.lt_tri x a with h2 | h2 | h2
          · exact h2
          · exfalso
            subst h2
            rcases List.eq_nil_or_concat d with rfl | ⟨d', z, rfl⟩
            · simp at hxd
            · rw [List.concat_eq_append] at *
              have hz := leC_iff.1 (hx z (by simp) x (by simp))
              have hne : z ≠ x := fun e => h (by rw [e]; simp)
              have hxd' : x ∈ d' := by
                rcases List.mem_append.1 hxd with h | h
                · exact h
                · exact absurd (List.mem_singleton.1 h).symm hne
              have := (List.pairwise_append.1 hd).2.2 x hxd' z (by simp)
              exact hz this
          · exact absurd h2 h1
        · rcases List.mem_append.1 hx' with h | h
          · exact hx x h y (by simp [hy])
          · rw [List.mem_singleton.1 h]; exact hl'.1 y hy
  exact key l [] h List.Pairwise.nil (by simp)
theorem sorted_dd (l : List (Int × Int)) : Go.Geo.Sorted (ddC (sortC l)) := dd_pw (sortC_pw l)
instance (l : List (Int × Int)) : Decidable (l.Pairwise fun x y => leC x y = true) := inferInstance
end Go.Proofs.Try
namespace Go.Psl
variable {P : Program} {G : Gh} {W : World} {H : Hp}
def fzIm (G : Gh) (H : Hp) (b : Nat) : Prop := G.Im b ∨ ∃ i, InH H i ∧ G.ph i = false ∧ G.β i = b
theorem fz0 (hp : ∀ id cs, H id = some cs → HB G W id cs) {v c : V} {x : Value} (hb : Bor0 H v c) (hx : RV G W v x) : R0 { G with Im := fzIm G H } W c x := by
  have him : ∀ b, G.Im b → fzIm G H b ∧ W.heap[b]? = W.heap[b]? := fun b hb => ⟨.inl hb, rfl⟩
  have hless : ∀ i cs, H i = some cs → H i = some cs ∧ True := fun i cs h => by
    exact ⟨h, trivial⟩
  unfold Bor0 at hb
  split at hb
  · rename_i y z
    rcases hb with rfl | ⟨rfl, sz, rfl⟩
    · exact RD.mono (x := y) hx him
    · have := rv_lit hx
      subst this
      exact RD.sl sz [] none 0 (fun _ _ => undef) (by simp) (by simp [maxL]) (by simp) (by simp) (by simp)
  · rename_i id off len sz sz' es
    obtain ⟨rfl, hl, hes, cs, hh0, hcs⟩ := hb
    obtain ⟨hh, hnin⟩ := hless _ _ hh0
    obtain ⟨hml, ⟨hph, h0, rfl⟩ | ⟨hph, o', cap, rfl, hcap, hoff⟩⟩ := hx
    · have : es = [] := List.eq_nil_of_length_eq_zero (by omega)
      subst this
      exact RD.sl sz' [] none 0 (fun _ _ => undef) (by simp) (by simp [maxL]) (by simp) (by simp) (by simp)
    · obtain ⟨_, c, T, hg, hbs, hcl, hcr, _⟩ := (hp id cs hh).read hph
      have hfl := flatten_len es hes
      have hlen : ((cs.drop off).take (len * sz')).length = len * sz' := by rw [hcs, List.length_map, hfl, hl]
      have hfit : off + len * sz' ≤ cs.length ∨ len * sz' = 0 := by simp at hlen; omega
      subst hl
      refine RD.sl sz' es (some ⟨G.β id, o', none⟩) cap (fun i j => c.toList.getD (off + i * sz' + j) undef) hes hml hcap (fun i e he => ⟨_, rfl, .inr ⟨id, by show (H id).isSome = true; rw [hh]; rfl, hph.1, rfl⟩, fun j y hy => ?_⟩) (fun i e he j y hy => ?_)
      all_goals
        have hil : i < es.length := (List.getElem?_eq_some_iff.1 he).1
        have hel := hes e (List.mem_of_getElem? he)
        have hjl : j < sz' := by have := (List.getElem?_eq_some_iff.1 hy).1; omega
        have hij : i * sz' + j < es.length * sz' := by
          have : (i + 1) * sz' ≤ es.length * sz' := Nat.mul_le_mul_right _ hil
          rw [Nat.add_mul] at this; omega
        have hfit' : off + es.length * sz' ≤ cs.length := by omega
        have hcell : cs[off + (i * sz' + j)]? = some (.d y) := by
          have h1 : ((cs.drop off).take (es.length * sz'))[i * sz' + j]? = some (V.d y) := by
            rw [hcs, List.getElem?_map, flatten_get (by omega) es hes]
            have e1 : (i * sz' + j) / sz' = i := by rw [Nat.add_comm, Nat.add_mul_div_right _ _ (by omega), Nat.div_eq_of_lt hjl]; omega
            have e2 : (i * sz' + j) % sz' = j := by rw [Nat.add_comm, Nat.add_mul_mod_self_right, Nat.mod_eq_of_lt hjl]
            rw [e1, e2, he]; simp [hy]
          rw [List.getElem?_take, if_pos hij, List.getElem?_drop] at h1
          exact h1
        obtain ⟨u, hu, hru⟩ := hcr.get hcell
        rw [List.getElem?_take] at hu
        split at hu
        rotate_left
        · cases hu
      · obtain ⟨rfl, _⟩ := hoff (by omega)
        rw [add_plain]
        simp only [World.cell?, hg]
        rw [Array.getElem?_toList] at hu
        have h2 : c.toList.getD (o' + i * sz' + j) undef = u := by
          rw [List.getD_eq_getElem?_getD, Array.getElem?_toList, show o' + i * sz' + j = o' + (i * sz' + j) by omega, hu]; rfl
        rw [h2]
        simpa using hu
      · have h2 : c.toList.getD (off + i * sz' + j) undef = u := by
          rw [List.getD_eq_getElem?_getD, show off + i * sz' + j = off + (i * sz' + j) by omega, hu]; rfl
        show RD _ _ y (c.toList.getD (off + i * sz' + j) undef)
        rw [h2]
        exact RD.mono (x := y) hru him
  · rename_i id off ds
    obtain ⟨cs, hh0, hcs⟩ := hb
    obtain ⟨hh, hnin⟩ := hless _ _ hh0
    obtain ⟨hph, rfl⟩ : (G.ph id = false ∧ G.lo id = false) ∧ x = .pointer (some ⟨G.β id, off, none⟩) := hx
    obtain ⟨_, c, T, hg, hbs, hcl, hcr, _⟩ := (hp id cs hh).read hph
    have get : ∀ (j : Nat) y, ds[j]? = some y → ∃ u, c.toList[off + j]? = some u ∧ RD (fzIm G H) W y u := fun j y hy => by
      have hj := (List.getElem?_eq_some_iff.1 hy).1
      have h1 : ((cs.drop off).take ds.length)[j]? = some (V.d y) := by rw [hcs, List.getElem?_map, hy]; rfl
      rw [List.getElem?_take, if_pos hj, List.getElem?_drop] at h1
      obtain ⟨u, hu, hru⟩ := hcr.get h1
      rw [List.getElem?_take] at hu
      split at hu
      · exact ⟨u, hu, RD.mono (x := y) hru him⟩
      · cases hu
    refine RD.ref ds _ (fun j => c.toList.getD (off + j) undef) (.inr ⟨id, by show (H id).isSome = true; rw [hh]; rfl, hph.1, rfl⟩) (fun j y hy => ?_) (fun j y hy => ?_)
    · obtain ⟨u, hu, _⟩ := get j y hy
      rw [add_plain, List.getD_eq_getElem?_getD, hu]
      simp only [World.cell?, hg]
      simpa using hu
    · obtain ⟨u, hu, hr⟩ := get j y hy
      rw [List.getD_eq_getElem?_getD, hu]
      exact hr
  · rename_i f caps g ds
    obtain ⟨rfl, rfl⟩ := hb
    obtain ⟨cv, rfl, hcr⟩ := hx
    have hl := hcr.length
    refine RD.fn f ds cv (by simpa using hl.symm) fun j y v hy hv => ?_
    have h1 : (ds.map V.d)[j]? = some (V.d y) := by rw [List.getElem?_map, hy]; rfl
    obtain ⟨u, hu, hru⟩ := hcr.get h1
    rw [Array.getElem?_toList, hv] at hu
    cases hu
    exact RD.mono (x := y) hru him
  · obtain ⟨rfl, rfl⟩ := hb; exact hx
  · obtain ⟨rfl, rfl, rfl, rfl⟩ := hb; exact hx
  · have hb : _ = _ := hb; subst hb; exact hx
  · exact hb.elim
def Fz1 (H : Hp) : V → V → Prop
  | .agg cs, .agg ds => cs = ds ∧ ∀ c ∈ cs, ∃ x, c = .d x
  | v, .d y => Bor0 H v (.d y)
  | _, _ => False
def Fz (H : Hp) : V → V → Prop
  | .tup vs, .tup ws => All2 (Fz1 H) vs ws
  | v, w => Fz1 H v w
theorem fz1 (hp : ∀ id cs, H id = some cs → HB G W id cs) {v c : V} {x : Value} (hb : Fz1 H v c) (hx : R2 G W v x) : R2 { G with Im := fzIm G H } W c x := by
  unfold Fz1 at hb
  split at hb
  · rename_i cs ds
    obtain ⟨rfl, hd⟩ := hb
    obtain ⟨cv, rfl, hr⟩ := hx
    refine ⟨cv, rfl, hr.mono fun c hc v h => ?_⟩
    obtain ⟨y, rfl⟩ := hd c hc
    exact RD.mono (x := y) h fun b hb => ⟨.inl hb, rfl⟩
  · refine R1.r2 (R0.r1 (fz0 hp hb (R2.rv hx)))
  · exact hb.elim
theorem fz1_wf {v c : V} (hb : Fz1 H v c) : A2 (fun _ => False) anyD c := by
  unfold Fz1 at hb
  split at hb
  · rename_i cs ds
    obtain ⟨rfl, hd⟩ := hb
    intro c hc
    obtain ⟨y, rfl⟩ := hd c hc
    trivial
  · trivial
  · exact hb.elim
theorem fz_rel (hp : ∀ id cs, H id = some cs → HB G W id cs) {v c : V} {x : Value} (hb : Fz H v c) (hx : RV G W v x) : RV { G with Im := fzIm G H } W c x := by
  unfold Fz at hb
  split at hb
  · rename_i vs ws
    obtain ⟨cv, rfl, hr⟩ := hx
    refine ⟨cv, rfl, All2.of_get (by rw [← hb.length, hr.length]) fun i y z hy hz => ?_⟩
    obtain ⟨w, hw, hbw⟩ := hb.get2 hy
    obtain ⟨u, hu, hru⟩ := hr.get hw
    rw [hz] at hu; cases hu
    exact fz1 hp hbw hru
  · refine R2.rv (fz1 hp hb ?_)
    cases v <;> first | exact hx | (exfalso; revert hb; cases c <;> simp [Fz1, Bor0]; done)
theorem fz_wf {v c : V} (hb : Fz H v c) : AV (fun _ => False) anyD c := by
  unfold Fz at hb
  split at hb
  · rename_i vs ws
    intro w hw
    obtain ⟨i, hi⟩ := List.getElem?_of_mem hw
    obtain ⟨u, _, hu⟩ := hb.get2 hi
    exact fz1_wf hu
  · have := fz1_wf hb
    cases c <;> first | exact this | (revert hb; simp [Fz1]; done)
theorem Cm.freeze {f : FuncId} {args : List V} {Hin : Hp} {r r' : V} {H1 : Hp} (h : Cm P f args Hin [] (.ret r) H1) (hf : Fz H1 r r') : Cm P f args Hin [] (.ret r') (fun _ => none) := by
  refine ⟨h.1, fun G W xs him hargs hpre => Calls.mono (h.2 G W xs him hargs hpre) fun e W' ⟨G', p⟩ => ?_⟩
  have hB : ∀ id cs, H1 id = some cs → HB G' W' id cs := fun id cs hid => (p.hb id cs hid).1
  have hblk : ∀ i, InH H1 i → G'.ph i = false → G'.β i < W'.heap.size := fun i hi hph => by
    cases hc : H1 i with
    | none => simp [InH, hc] at hi
    | some cs =>
      rcases hB i cs hc with ⟨h1, _⟩ | ⟨_, _, _, c, T, h3, _⟩ | ⟨_, _, _, fr, nt, ps, pa, pb, jmp, rec, _, h4, _⟩
      · rw [h1] at hph; cases hph
      · exact (Array.getElem?_eq_some_iff.1 h3).1
      · exact (Array.getElem?_eq_some_iff.1 h4).1
  refine ⟨{ G' with Im := fzIm G' H1 }, p.os, p.tape, p.output, p.drawn, p.size, p.block, fun b hb => ?_, fun b hb => .inl (p.im0 b hb), ?_, ?_, fun i cs h => (by cases h), fun i j h => (by simp [InH] at h), fun i h => (by cases h)⟩
  · rcases hb with hb | ⟨i, hi, hph, rfl⟩
    · exact p.im b hb
    · refine ⟨hblk i hi hph, .inr ?_⟩
      cases hc : H1 i with
      | none => simp [InH, hc] at hi
      | some cs => exact (p.hb i cs hc).2.1 hph
  · have hrv := p.rv
    cases e with
    | returned v => exact fz_rel hB hf hrv
    | _ => exact hrv.elim
  · show AV (InH fun _ => none) anyD r'
    exact AV.mono (fun _ h => h.elim) (fun _ h => h) (fz_wf hf)
end Go.Psl
namespace Go.Proofs.Try
open Go.Psl
theorem cross_bd {a b c : Int × Int} (ha : bd 536870912 a) (hb : bd 536870912 b) (hc : bd 536870912 c) : (-1152921504606846976 ≤ (b.1 - a.1) * (c.2 - a.2) ∧ (b.1 - a.1) * (c.2 - a.2) ≤ 1152921504606846976) ∧ (-1152921504606846976 ≤ (b.2 - a.2) * (c.1 - a.1) ∧ (b.2 - a.2) * (c.1 - a.1) ≤ 1152921504606846976) := by
  unfold bd at *
  have h1 := mul_abs (M := 1073741824) (N := 1073741824) (x := b.1 - a.1) (y := c.2 - a.2) (by omega) (by omega)
  have h2 := mul_abs (M := 1073741824) (N := 1073741824) (x := b.2 - a.2) (y := c.1 - a.1) (by omega) (by omega)
  omega
set_option maxRecDepth 20000 in
theorem fn136 (a b c : Int × Int) (ha : bd 536870912 a) (hb : bd 536870912 b) (hc : bd 536870912 c) : Ct prog 136 [vsp a.1 a.2, vsp b.1 b.2, vsp c.1 c.2] (vi (Go.Geo.cross a b c)) [] := by
  refine Ct.by gok eok mixed func136 c136 rfl (by simp [ntmps136]) (by simp) (by simp [ResIds]) fun E hE => ?_
  have h := cross_bd ha hb hc
  unfold bd at ha hb hc
  have w1 : IntKind.wrap .i64 (b.1 - a.1) = b.1 - a.1 := wrap64 (by omega) (by omega)
  have w2 : IntKind.wrap .i64 (c.2 - a.2) = c.2 - a.2 := wrap64 (by omega) (by omega)
  have w3 : IntKind.wrap .i64 (b.2 - a.2) = b.2 - a.2 := wrap64 (by omega) (by omega)
  have w4 : IntKind.wrap .i64 (c.1 - a.1) = c.1 - a.1 := wrap64 (by omega) (by omega)
  have w5 : IntKind.wrap .i64 ((b.1 - a.1) * (c.2 - a.2)) = (b.1 - a.1) * (c.2 - a.2) := wrap64 (by omega) (by omega)
  have w6 : IntKind.wrap .i64 ((b.2 - a.2) * (c.1 - a.1)) = (b.2 - a.2) * (c.1 - a.1) := wrap64 (by omega) (by omega)
  have w7 : IntKind.wrap .i64 ((b.1 - a.1) * (c.2 - a.2) - (b.2 - a.2) * (c.1 - a.1)) = (b.1 - a.1) * (c.2 - a.2) - (b.2 - a.2) * (c.1 - a.1) := wrap64 (by omega) (by omega)
  simp [p136, w1, w2, w3, w4, w5, w6, w7]
  refine RetOk.by (fun _ => none) ?_
  simp [results136, Go.Geo.cross]
def ltB (a b : Int × Int) : Bool := decide (a.1 < b.1) || (decide (a.1 = b.1) && decide (a.2 < b.2))
theorem ltB_iff {a b : Int × Int} : ltB a b = true ↔ Go.Geo.lt a b := by unfold ltB Go.Geo.lt; simp
set_option maxRecDepth 20000 in
theorem fn147 (a b : Int × Int) : Ct prog 147 [vsp a.1 a.2, vsp b.1 b.2] (vb (ltB a b)) [] := by
  rcases Int.lt_trichotomy a.1 b.1 with h | h | h
  · refine Ct.by gok eok mixed func147 c147 rfl (by simp [ntmps147]) (by simp) (by simp [ResIds]) fun E hE => ?_
    simp [p147, h]
    refine RetOk.by (fun _ => none) ?_
    simp [results147, ltB, h]
  · have h1 : ¬ a.1 < b.1 := by omega
    refine Ct.by gok eok mixed func147 c147 rfl (by simp [ntmps147]) (by simp) (by simp [ResIds]) fun E hE => ?_
    simp [p147, h]
    refine RetOk.by (fun _ => none) ?_
    simp [results147, ltB, h]
  · have h1 : ¬ a.1 < b.1 := by omega
    have h2 : ¬ a.1 = b.1 := by omega
    refine Ct.by gok eok mixed func147 c147 rfl (by simp [ntmps147]) (by simp) (by simp [ResIds]) fun E hE => ?_
    simp [p147, h1, h2]
    refine RetOk.by (fun _ => none) ?_
    simp [results147, ltB, h1, h2]
theorem sorted_unique {l m : List (Int × Int)} (hl : Go.Geo.Sorted l) (hm : Go.Geo.Sorted m) (h : ∀ x, x ∈ l ↔ x ∈ m) : l = m := by
  have hd1 : l.Nodup := hl.imp fun h e => by subst e; exact Go.Geo.lt_irr _ h
  have hd2 : m.Nodup := hm.imp fun h e => by subst e; exact Go.Geo.lt_irr _ h
  have hp : l.Perm m := (List.perm_ext_iff_of_nodup hd1 hd2).2 h
  exact hp.eq_of_pairwise (fun a b _ _ h1 h2 => absurd (Go.Geo.lt_trans h1 h2) (Go.Geo.lt_irr _)) hl hm
theorem sorted_eq {l m : List (Int × Int)} (hm : Go.Geo.Sorted m) (h : ∀ x, x ∈ m ↔ x ∈ l) : m = ddC (sortC l) :=
  sorted_unique hm (sorted_dd l) fun x => by rw [h, ddC_mem, sortC_mem]
end Go.Proofs.Try
namespace Go.Proofs.Try
open Go.Psl
theorem outB_ne {O : List (Int × Int)} (h : O ≠ []) (b : Nat) : outB O b = [(b, cellsI O)] := by
  unfold outB; cases O with
  | nil => exact absurd rfl h
  | cons a l => rfl
theorem split_at {out : List (Int × Int)} {p : Int × Int} {j : Nat} (hs : Go.Geo.Sorted out) (hj : j ≤ out.length) (h1 : ∀ m q, j ≤ m → out[m]? = some q → Go.Geo.lt p q) (h2 : ∀ q, 0 < j → out[j - 1]? = some q → ¬ Go.Geo.lt p q) :
    (∀ q, 0 < j → out[j - 1]? = some q → q ≠ p → Go.Geo.Sorted (out.take j ++ p :: out.drop j)) ∧ (j = 0 → Go.Geo.Sorted (p :: out)) := by
  have hd : ∀ y ∈ out.drop j, Go.Geo.lt p y := fun y hy => by
    obtain ⟨m, hm⟩ := List.getElem?_of_mem hy
    rw [List.getElem?_drop] at hm
    exact h1 _ y (by omega) hm
  constructor
  · intro q h0 hq hne
    have hqp : Go.Geo.lt q p := by
      rcases Go.Geo.lt_tri q p with h | h | h
      · exact h
      · exact absurd h hne
      · exact absurd h (h2 q h0 hq)
    have ht : ∀ x ∈ out.take j, Go.Geo.lt x p := fun x hx => by
      obtain ⟨m, hm⟩ := List.getElem?_of_mem hx
      rw [List.getElem?_take] at hm
      split at hm
      · rename_i hmj
        by_cases e : m = j - 1
        · rw [e] at hm; rw [hq] at hm; cases hm; exact hqp
        · have hmm := (List.getElem?_eq_some_iff.1 hm)
          have hqq := (List.getElem?_eq_some_iff.1 hq)
          have := List.pairwise_iff_getElem.1 hs m (j - 1) hmm.1 hqq.1 (by omega)
          rw [hmm.2, hqq.2] at this
          exact Go.Geo.lt_trans this hqp
      · cases hm
    refine List.pairwise_append.2 ⟨hs.sublist (List.take_sublist j out), ?_, fun x hx y hy => ?_⟩
    · exact List.pairwise_cons.2 ⟨hd, hs.sublist (List.drop_sublist j out)⟩
    · rcases List.mem_cons.1 hy with rfl | hy
      · exact ht x hx
      · exact Go.Geo.lt_trans (ht x hx) (hd y hy)
  · intro h0
    subst h0
    exact List.pairwise_cons.2 ⟨fun y hy => hd y (by simpa using hy), hs⟩
theorem mem_put {l out : List (Int × Int)} {i j : Nat} {p : Int × Int} (hp : l[i]? = some p) (hm : ∀ x, x ∈ out ↔ x ∈ l.take i) : ∀ x, x ∈ out.take j ++ p :: out.drop j ↔ x ∈ l.take (i + 1) := fun x => by
  rw [List.take_add_one, hp]
  simp only [List.mem_append, List.mem_cons, Option.toList_some, List.not_mem_nil, or_false]
  rw [← hm]
  have : x ∈ out ↔ x ∈ out.take j ∨ x ∈ out.drop j := by rw [← List.mem_append, List.take_append_drop]
  rw [this]
  constructor
  · rintro (h | h | h)
    · exact Or.inl (Or.inl h)
    · exact Or.inr h
    · exact Or.inl (Or.inr h)
  · rintro ((h | h) | h)
    · exact Or.inl h
    · exact Or.inr (Or.inr h)
    · exact Or.inr (Or.inl h)
theorem mem_keep {l out : List (Int × Int)} {i : Nat} {p : Int × Int} (hp : l[i]? = some p) (hm : ∀ x, x ∈ out ↔ x ∈ l.take i) (h : p ∈ out) : ∀ x, x ∈ out ↔ x ∈ l.take (i + 1) := fun x => by
  rw [List.take_add_one, hp]
  simp only [List.mem_append, Option.toList_some, List.mem_singleton]
  rw [← hm]
  constructor
  · exact Or.inl
  · rintro (h2 | rfl)
    · exact h2
    · exact h
end Go.Proofs.Try
namespace Go.Proofs.Try
open Go.Psl
def plcP (out : List (Int × Int)) (p : Int × Int) (k : Nat) : Prop := k ≤ out.length ∧ ∀ m q, k ≤ m → out[m]? = some q → Go.Geo.lt p q
def plcQ (out : List (Int × Int)) (p : Int × Int) (k : Nat) : Prop := plcP out p k ∧ ∀ q, 0 < k → out[k - 1]? = some q → ¬ Go.Geo.lt p q
set_option maxHeartbeats 4000000 in
set_option maxRecDepth 20000 in
theorem srt_at (l out : List (Int × Int)) (i : Nat) (p : Int × Int) (hp : l[i]? = some p) (_ : l.length ≤ 100000) (_ : out ≠ []) (ho : out.length ≤ 100000) {E : Ent} (hE : ∀ i, ¬ E.stab i) {Q : AExit → St → Prop} : ∀ j : Nat, plcP out p j → PW prog tys eqs E p133l0
    (seqQ (fun st' => ∃ k, plcP out p k ∧ k < j ∧ Weak prog E st' ⟨slots [(0, .d (spansD l)), (3, .ls 0 0 out.length 2), (4, vi i), (5, vi k)], lk [(0, cellsI out)], 1⟩)
      (exC prog E Q 2 (fun k : Nat => ⟨slots [(0, .d (spansD l)), (3, .ls 0 0 out.length 2), (4, vi i), (5, vi k)], lk [(0, cellsI out)], 1⟩) (fun k => plcQ out p k)))
    ⟨slots [(0, .d (spansD l)), (3, .ls 0 0 out.length 2), (4, vi i), (5, vi j)], lk [(0, cellsI out)], 1⟩ := by
  intro j hjp
  obtain ⟨hj, hjq⟩ := hjp
  simp [p133l0]
  by_cases h0 : 0 < j
  · obtain ⟨q, hq⟩ : ∃ q, out[j - 1]? = some q := ⟨_, List.getElem?_eq_getElem (by omega)⟩
    have hw : IntKind.wrap .i64 ((j : Int) - 1) = ((j - 1 : Nat) : Int) := by rw [wrap64 (by omega) (by omega)]; omega
    have cq := cells_at hq
    have q1 : (j - 1) * 2 + 2 ≤ out.length * 2 := by omega
    have hjl : j - 1 < out.length := by omega
    have d1 := fn147 p q
    obtain ⟨B, hB⟩ : ∃ B, ltB p q = B := ⟨_, rfl⟩
    rw [hB] at d1
    simp [h0, hp, hw, cq, q1, hjl, inC, Nat.testBit]
    refine ACall.mk _ _ _ (d1) (by first | (simp; done) | simp [Bor_ls, Bor1_ls]) (by simp) (by first | (left; simp; done) | (right; simp; done)) ?_
    cases B
    · simp
      refine ⟨j, ⟨⟨hj, hjq⟩, fun q' _ hq' h => ?_⟩, ?_⟩
      · rw [hq] at hq'; cases hq'
        rw [ltB_iff.2 h] at hB; cases hB
      · refine Weak.mk hE (lk [(0, 0)]) _ _ _ ?_ ?_ ?_ ?_ ?_ <;> simp
    · simp [hw]
      refine ⟨j - 1, ⟨by omega, fun m q' hm hq' => ?_⟩, by omega, ?_⟩
      · by_cases e : m = j - 1
        · subst e; rw [hq] at hq'; cases hq'; exact ltB_iff.1 hB
        · exact hjq m q' (by omega) hq'
      · refine Weak.mk hE (lk [(0, 0)]) _ _ _ ?_ ?_ ?_ ?_ ?_ <;> simp
  · simp [h0]
    refine ⟨j, ⟨⟨hj, hjq⟩, fun q' h' => absurd h' h0⟩, ?_⟩
    refine Weak.mk hE (lk [(0, 0)]) _ _ _ ?_ ?_ ?_ ?_ ?_ <;> simp
end Go.Proofs.Try
namespace Go.Proofs.Try
open Go.Psl
theorem put_len (out : List (Int × Int)) (k : Nat) (g : Int × Int) (h : k ≤ out.length) : (out.take k ++ g :: out.drop k).length = out.length + 1 := by
  simp; omega
theorem put_set {out : List (Int × Int)} {k : Nat} {g : Int × Int} (q : Int × Int) (h : k ≤ out.length) : (out.take k ++ g :: out.drop k).set k q = out.take k ++ q :: out.drop k := by
  have e : (out.take k).length = k := by simp; omega
  rw [List.set_append_right _ _ (by omega), e, Nat.sub_self, List.set_cons_zero]
theorem put_back {out : List (Int × Int)} {k : Nat} {q : Int × Int} (hq : out[k]? = some q) : out.take (k + 1) ++ q :: out.drop (k + 1) = out.take k ++ q :: out.drop k := by
  rw [List.take_add_one, hq, List.drop_eq_getElem_cons (List.getElem?_eq_some_iff.1 hq).1, (List.getElem?_eq_some_iff.1 hq).2]
  simp
theorem put_get {out : List (Int × Int)} {k m : Nat} {g : Int × Int} (hm : m < k) : (out.take k ++ g :: out.drop k)[m]? = out[m]? ∨ out.length ≤ m := by
  by_cases h : m < out.length
  · left
    rw [List.getElem?_append_left (by simp; omega), List.getElem?_take, if_pos hm]
  · right; omega
set_option maxHeartbeats 4000000 in
set_option maxRecDepth 20000 in
theorem srt_shift (l out : List (Int × Int)) (i at' : Nat) (ho : out.length ≤ 100000) {E : Ent} (hE : ∀ i, ¬ E.stab i) {Q : AExit → St → Prop} : ∀ x : Nat × (Int × Int), (at' ≤ x.1 ∧ x.1 ≤ out.length) → PW prog tys eqs E p133l1
    (seqQ (fun st' => ∃ y : Nat × (Int × Int), (at' ≤ y.1 ∧ y.1 ≤ out.length) ∧ y.1 < x.1 ∧ Weak prog E st' ⟨slots [(0, .d (spansD l)), (3, .ls 0 0 (out.length + 1) 2), (4, vi i), (5, vi at'), (6, vi y.1)], lk [(0, cellsI (out.take y.1 ++ y.2 :: out.drop y.1))], 1⟩)
      (exC prog E Q 4 (fun g : Int × Int => ⟨slots [(0, .d (spansD l)), (3, .ls 0 0 (out.length + 1) 2), (4, vi i), (5, vi at')], lk [(0, cellsI (out.take at' ++ g :: out.drop at'))], 1⟩) (fun _ => at' ≤ out.length)))
    ⟨slots [(0, .d (spansD l)), (3, .ls 0 0 (out.length + 1) 2), (4, vi i), (5, vi at'), (6, vi x.1)], lk [(0, cellsI (out.take x.1 ++ x.2 :: out.drop x.1))], 1⟩ := by
  rintro ⟨k, g⟩ ⟨h1, h2⟩
  simp only at h1 h2 ⊢
  by_cases hk : at' < k
  · obtain ⟨j, rfl⟩ : ∃ j, k = j + 1 := ⟨k - 1, by omega⟩
    obtain ⟨q, hq⟩ : ∃ q, out[j]? = some q := ⟨_, List.getElem?_eq_getElem (by omega)⟩
    have hM : (out.take (j + 1) ++ g :: out.drop (j + 1))[j]? = some q := by
      rcases put_get (out := out) (g := g) (show j < j + 1 by omega) with h | h
      · rw [h]; exact hq
      · omega
    have hlen := put_len out (j + 1) g h2
    have hset := put_set (g := g) q h2
    rw [put_back hq] at hset
    obtain ⟨M, hMM⟩ : ∃ M, out.take (j + 1) ++ g :: out.drop (j + 1) = M := ⟨_, rfl⟩
    rw [hMM] at hM hlen hset ⊢
    have cq := cells_at hM
    have cs := cells_set (l := M) q (i := j + 1) (by omega)
    rw [hset] at cs
    obtain ⟨k, hkk⟩ : ∃ k, k = j + 1 := ⟨_, rfl⟩
    rw [← hkk] at cs ⊢
    have w1 : IntKind.wrap .i64 ((k : Int) - 1) = (j : Int) := by rw [wrap64 (by omega) (by omega)]; omega
    have hsl := spD_len M
    rw [hlen] at hsl
    have q1 : j * 2 + 2 ≤ (out.length + 1) * 2 := by omega
    have q2 : k * 2 + 2 ≤ (out.length + 1) * 2 := by omega
    have q3 : j < out.length + 1 := by omega
    have q4 : k < out.length + 1 := by omega
    have hak : at' < k := by omega
    have q3i : (j : Int) < (out.length : Int) + 1 := by omega
    have q4i : (k : Int) < (out.length : Int) + 1 := by omega
    simp [p133l1, hak, w1, cq, cs, hsl, q1, q2, q3i, q4i]
    refine ⟨j, ⟨by omega, by omega⟩, by omega, q.1, q.2, ?_⟩
    refine Weak.mk hE (lk [(0, 0)]) _ _ _ ?_ ?_ ?_ ?_ ?_ <;> simp
  · have e : k = at' := by omega
    subst e
    simp [p133l1]
    refine ⟨h2, g.1, g.2, ?_⟩
    refine Weak.mk hE (lk [(0, 0)]) _ _ _ ?_ ?_ ?_ ?_ ?_ <;> simp
end Go.Proofs.Try
namespace Go.Proofs.Try
open Go.Psl
def inSeg (l : List (Int × Int × Int)) (i : Nat) (a k : Int × Int × Int) (x : Int) : Prop := l[i]? = some a ∧ l[i + 1]? = some k ∧ a.1 ≤ x ∧ x ≤ k.1 ∧ (i = 0 ∨ a.1 < x)
section
variable {l : List (Int × Int × Int)} (ht : tabS l = true) {i : Nat} {a k : Int × Int × Int} {x : Int} (h : inSeg l i a k x) {u v : Int} (hu : a.2.1 ≤ u ∧ u ≤ a.2.2) (hv : k.2.1 ≤ v ∧ v ≤ k.2.2)
def lowP (y : Int × Int) : Int := max y.1 (-1073741825)
def highP (y : Int × Int) : Int := min y.2 1073741825
def isIn (y : Int × Int) (num den : Int) : Prop := lowP y ≤ 1073741825 ∧ -1073741825 ≤ highP y ∧ lowP y * den ≤ num ∧ num ≤ highP y * den
include ht h hu hv in
include ht h hu hv in
end
end Go.Proofs.Try
namespace Go.Proofs.Try
open Go.Psl
theorem fz_spans (out : List (Int × Int)) : Fz1 (lk (outB out 0)) (hdrV out 0) (.d (spansD out)) := by
  rcases List.eq_nil_or_concat out with rfl | ⟨l, p, rfl⟩
  · exact Or.inr ⟨rfl, 2, rfl⟩
  · rw [List.concat_eq_append]
    have h := bor_spans (H := lk (outB (l ++ [p]) 0)) (id := 0) (l := l) (p := p) (by simp)
    have e : hdrV (l ++ [p]) 0 = .ls 0 0 (l.length + 1) 2 := by simp
    rw [e]
    exact h
end Go.Proofs.Try
namespace Go.Proofs.Try
open Go.Psl
def srtI (l : List (Int × Int)) (x : Nat × List (Int × Int)) : Prop := x.1 ≤ l.length ∧ x.2.length ≤ x.1 ∧ Go.Geo.Sorted x.2 ∧ ∀ q, q ∈ x.2 ↔ q ∈ l.take x.1
set_option maxHeartbeats 8000000 in
set_option maxRecDepth 20000 in
theorem srt_main (l : List (Int × Int)) (hl : l.length ≤ 100000) : Ct prog 133 [.d (spansD l)] (hdrV (ddC (sortC l)) 0) (outB (ddC (sortC l)) 0) := by
  refine Ct.by gok eok mixed func133 c133 rfl (by simp [ntmps133]) (by simp) ?_ fun E hE => ?_
  · rcases out_cases (ddC (sortC l)) with h | ⟨o, x, h⟩
    · rw [h]; simp [ResIds]
    · rw [h]; simp [ResIds]
      rintro c (⟨a, _, rfl⟩ | rfl | rfl) <;> simp
  simp [p133]
  refine pw_loopC (α := Nat × List (Int × Int)) 0 (fun _ : Unit => ⟨slots [(3, hdrV (ddC (sortC l)) 0)], lk (outB (ddC (sortC l)) 0), 1⟩) (fun _ => True) (fun x => ⟨slots [(0, .d (spansD l)), (3, hdrV x.2 0), (4, vi x.1)], lk (outB x.2 0), 1⟩) (srtI l) (fun x => l.length - x.1) (0, []) ?_ ?_ ?_ fun _ _ => ?_
  · exact ⟨by simp, by simp, List.Pairwise.nil, fun q => by simp⟩
  · refine Weak.mk hE (lk []) _ _ _ ?_ ?_ ?_ ?_ ?_ <;> simp
  · rintro ⟨i, out⟩ hI
    obtain ⟨h1, h2, h3, h4⟩ := hI
    simp only at h1 h2 h3 h4
    simp [p133l2]
    refine cR_split (fun h => ?_) (fun h => ?_)
    · simp at h
      obtain ⟨p, hp⟩ : ∃ p, l[i]? = some p := ⟨_, List.getElem?_eq_getElem h⟩
      have hz : IntKind.wrap .i64 ((i : Int) + 1) = ((i + 1 : Nat) : Int) := by rw [wrap64 (by omega) (by omega)]; omega
      by_cases hne : out = []
      · subst hne
        have wl : IntKind.wrap .i64 0 = 0 := by decide
        simp
        refine pw_loopC (α := Unit) 2 (fun _ : Unit => ⟨slots [(0, .d (spansD l)), (3, .d (.lit (.slice none 0 0))), (4, vi i), (5, vi 0)], lk [], 0⟩) (fun _ => True) (fun _ => ⟨slots [(0, .d (spansD l)), (3, .d (.lit (.slice none 0 0))), (4, vi i), (5, vi 0)], lk [], 0⟩) (fun _ => True) (fun _ => 0) () ?_ ?_ ?_ fun _ _ => ?_
        · trivial
        · refine Weak.mk hE (lk []) _ _ _ ?_ ?_ ?_ ?_ ?_ <;> simp
        · intro _ _
          simp [p133l0]
          refine Weak.mk hE (lk []) _ _ _ ?_ ?_ ?_ ?_ ?_ <;> simp
        · simp [splice, repl]
          refine pw_loopC (α := Nat × (Int × Int)) 4 (fun g : Int × Int => ⟨slots [(0, .d (spansD l)), (3, .ls 0 0 1 2), (4, vi i), (5, vi 0)], lk [(0, [vi g.1, vi g.2])], 1⟩) (fun _ => True) (fun _ => ⟨slots [(0, .d (spansD l)), (3, .ls 0 0 1 2), (4, vi i), (5, vi 0), (6, vi 0)], lk [(0, [vi 0, vi 0])], 1⟩) (fun _ => True) (fun x => x.1) (0, ((0 : Int), (0 : Int))) ?_ ?_ ?_ fun g _ => ?_
          · trivial
          · refine Weak.mk hE (lk [(0, 17825792)]) _ _ _ ?_ ?_ ?_ ?_ ?_ <;> simp [wl]
          · intro _ _
            simp [p133l1]
            refine ⟨0, 0, ?_⟩
            refine Weak.mk hE (lk [(0, 0)]) _ _ _ ?_ ?_ ?_ ?_ ?_ <;> simp
          · simp [hp, hz, splice]
            refine ⟨i + 1, [p], ⟨by simp only; omega, by simp only [List.length_singleton]; omega, List.pairwise_singleton _ _, mem_put (j := 0) hp h4⟩, by omega, ?_⟩
            rw [hdrV_ne (by simp), outB_ne (by simp), show cellsI [p] = [vi p.1, vi p.2] from rfl]
            refine Weak.mk hE (lk [(0, 0)]) _ _ _ ?_ ?_ ?_ ?_ ?_ <;> simp
      · rw [hdrV_ne hne, outB_ne hne]
        simp
        refine pw_loopC (α := Nat) 2 (fun k : Nat => ⟨slots [(0, .d (spansD l)), (3, .ls 0 0 out.length 2), (4, vi i), (5, vi k)], lk [(0, cellsI out)], 1⟩) (fun k => plcQ out p k) (fun k => ⟨slots [(0, .d (spansD l)), (3, .ls 0 0 out.length 2), (4, vi i), (5, vi k)], lk [(0, cellsI out)], 1⟩) (fun k => plcP out p k) (fun k => k) out.length ?_ ?_ ?_ fun j hj => ?_
        · exact ⟨Nat.le_refl _, fun m q hm hq => by have := (List.getElem?_eq_some_iff.1 hq).1; omega⟩
        · refine Weak.mk hE (lk [(0, 0)]) _ _ _ ?_ ?_ ?_ ?_ ?_ <;> simp
        · exact srt_at l out i p hp hl hne (by omega) hE
        · obtain ⟨⟨hj1, hj2⟩, hj3⟩ := hj
          by_cases h0 : 0 < j
          · obtain ⟨q, hq⟩ : ∃ q, out[j - 1]? = some q := ⟨_, List.getElem?_eq_getElem (by omega)⟩
            have hw : IntKind.wrap .i64 ((j : Int) - 1) = ((j - 1 : Nat) : Int) := by rw [wrap64 (by omega) (by omega)]; omega
            have cq := cells_at hq
            have q1 : (j - 1) * 2 + 2 ≤ out.length * 2 := by omega
            have hjl : j - 1 < out.length := by omega
            by_cases hqp : q.1 = p.1 ∧ q.2 = p.2
            · have hqp' : q = p := by ext; exact hqp.1; exact hqp.2
              simp [h0, hp, hw, cq, q1, hjl, hqp, hz, inC, Nat.testBit]
              refine ⟨i + 1, out, ⟨by simp only; omega, by simp only; omega, h3, mem_keep hp h4 (by rw [← hqp']; exact List.mem_of_getElem? hq)⟩, by omega, ?_⟩
              rw [hdrV_ne hne, outB_ne hne]
              refine Weak.mk hE (lk [(0, 0)]) _ _ _ ?_ ?_ ?_ ?_ ?_ <;> simp
            · have hb : (decide (q.1 = p.1) && decide (q.2 = p.2)) = false := by rw [Bool.and_eq_false_iff]; simp only [decide_eq_false_iff_not]; omega
              have hsl := spD_len out
              have htk : List.take (out.length * 2) (cellsI out) = cellsI out := List.take_of_length_le (by simp)
              have n1 : (out.length + 1) * 16 ≤ 140737488355328 := by omega
              have n2 : out.length + 1 ≤ 9223372036854775807 := by omega
              simp [h0, hp, hw, cq, q1, hjl, hb, hsl, htk, n1, n2, inC, Nat.testBit, splice, repl]
              refine pw_loopC (α := Nat × (Int × Int)) 4 (fun g : Int × Int => ⟨slots [(0, .d (spansD l)), (3, .ls 0 0 (out.length + 1) 2), (4, vi i), (5, vi j)], lk [(0, cellsI (out.take j ++ g :: out.drop j))], 1⟩) (fun _ => j ≤ out.length) (fun x => ⟨slots [(0, .d (spansD l)), (3, .ls 0 0 (out.length + 1) 2), (4, vi i), (5, vi j), (6, vi x.1)], lk [(0, cellsI (out.take x.1 ++ x.2 :: out.drop x.1))], 1⟩) (fun x => j ≤ x.1 ∧ x.1 ≤ out.length) (fun x => x.1) (out.length, ((0 : Int), (0 : Int))) ?_ ?_ ?_ fun g hg => ?_
              · exact ⟨hj1, Nat.le_refl _⟩
              · have wl : IntKind.wrap .i64 (out.length : Int) = out.length := wrap64 (by omega) (by omega)
                simp only [List.take_length, List.drop_length, spD_one]
                refine Weak.mk hE (lk [(0, 17825793)]) _ _ _ ?_ ?_ ?_ ?_ ?_ <;> simp [wl]
                rintro c (⟨a, _, rfl⟩ | rfl) <;> simp
              · exact srt_shift l out i j (by omega) hE
              · have hset := put_set (g := g) p hj1
                have hlen := put_len out j g hj1
                obtain ⟨M, hMM⟩ : ∃ M, out.take j ++ g :: out.drop j = M := ⟨_, rfl⟩
                rw [hMM] at hset hlen ⊢
                have cs := cells_set (l := M) p (i := j) (by omega)
                rw [hset] at cs
                have hml := spD_len M
                rw [hlen] at hml
                have q3 : j < out.length + 1 := by omega
                have q3i : (j : Int) < (out.length : Int) + 1 := by omega
                have q2 : j * 2 + 2 ≤ (out.length + 1) * 2 := by omega
                simp [hp, q3i, q2, hml, cs, hz]
                have hN : out.take j ++ p :: out.drop j ≠ [] := by simp
                have hNl := put_len out j p hj1
                refine ⟨i + 1, out.take j ++ p :: out.drop j, ⟨by simp only; omega, by simp only; omega, (split_at h3 hj1 hj2 hj3).1 q h0 hq (fun e => hqp ⟨by rw [e], by rw [e]⟩), mem_put hp h4⟩, by omega, ?_⟩
                rw [hdrV_ne hN, outB_ne hN, hNl]
                refine Weak.mk hE (lk [(0, 0)]) _ _ _ ?_ ?_ ?_ ?_ ?_ <;> simp
          · have hj0 : j = 0 := by omega
            have hsl := spD_len out
            have htk : List.take (out.length * 2) (cellsI out) = cellsI out := List.take_of_length_le (by simp)
            have n1 : (out.length + 1) * 16 ≤ 140737488355328 := by omega
            have n2 : out.length + 1 ≤ 9223372036854775807 := by omega
            simp [h0, hsl, htk, n1, n2, splice, repl]
            refine pw_loopC (α := Nat × (Int × Int)) 4 (fun g : Int × Int => ⟨slots [(0, .d (spansD l)), (3, .ls 0 0 (out.length + 1) 2), (4, vi i), (5, vi j)], lk [(0, cellsI (out.take j ++ g :: out.drop j))], 1⟩) (fun _ => j ≤ out.length) (fun x => ⟨slots [(0, .d (spansD l)), (3, .ls 0 0 (out.length + 1) 2), (4, vi i), (5, vi j), (6, vi x.1)], lk [(0, cellsI (out.take x.1 ++ x.2 :: out.drop x.1))], 1⟩) (fun x => j ≤ x.1 ∧ x.1 ≤ out.length) (fun x => x.1) (out.length, ((0 : Int), (0 : Int))) ?_ ?_ ?_ fun g hg => ?_
            · exact ⟨hj1, Nat.le_refl _⟩
            · have wl : IntKind.wrap .i64 (out.length : Int) = out.length := wrap64 (by omega) (by omega)
              simp only [List.take_length, List.drop_length, spD_one]
              refine Weak.mk hE (lk [(0, 17825793)]) _ _ _ ?_ ?_ ?_ ?_ ?_ <;> simp [wl]
              rintro c (⟨a, _, rfl⟩ | rfl) <;> simp
            · exact srt_shift l out i j (by omega) hE
            · have hset := put_set (g := g) p hj1
              have hlen := put_len out j g hj1
              obtain ⟨M, hMM⟩ : ∃ M, out.take j ++ g :: out.drop j = M := ⟨_, rfl⟩
              rw [hMM] at hset hlen ⊢
              have cs := cells_set (l := M) p (i := j) (by omega)
              rw [hset] at cs
              have hml := spD_len M
              rw [hlen] at hml
              have q3 : j < out.length + 1 := by omega
              have q3i : (j : Int) < (out.length : Int) + 1 := by omega
              have q2 : j * 2 + 2 ≤ (out.length + 1) * 2 := by omega
              simp [hp, q3i, q2, hml, cs, hz]
              have hN : out.take j ++ p :: out.drop j ≠ [] := by simp
              have hNl := put_len out j p hj1
              refine ⟨i + 1, out.take j ++ p :: out.drop j, ⟨by simp only; omega, by simp only; omega, (by rw [hj0]; simpa using (split_at h3 hj1 hj2 hj3).2 hj0), mem_put hp h4⟩, by omega, ?_⟩
              rw [hdrV_ne hN, outB_ne hN, hNl]
              refine Weak.mk hE (lk [(0, 0)]) _ _ _ ?_ ?_ ?_ ?_ ?_ <;> simp
    · simp at h
      have e : i = l.length := by omega
      have ht : out = ddC (sortC l) := sorted_eq h3 (by rw [e] at h4; simpa using h4)
      rw [← ht]
      simp
      rcases out_cases out with h | ⟨o, x, h⟩
      · rw [h]
        refine Weak.mk hE (lk []) _ _ _ ?_ ?_ ?_ ?_ ?_ <;> simp
      · rw [h]
        refine Weak.mk hE (lk [(0, 0)]) _ _ _ ?_ ?_ ?_ ?_ ?_ <;> simp
        rintro c (⟨a, _, rfl⟩ | rfl | rfl) <;> simp
  · simp
    rcases out_cases (ddC (sortC l)) with h | ⟨o, x, h⟩
    · rw [h]
      refine RetOk.by (fun _ => none) ?_
      simp [results133]
    · rw [h]
      refine RetOk.by (lk [(0, 0)]) ?_
      simp [results133]
theorem fn133 (l : List (Int × Int)) (hl : l.length ≤ 100000) : Ct prog 133 [.d (spansD l)] (.d (spansD (ddC (sortC l)))) [] := by
  refine Cm.freeze (srt_main l hl) ?_
  have h := fz_spans (ddC (sortC l))
  unfold Fz
  split
  · rename_i e _; rcases out_cases (ddC (sortC l)) with h2 | ⟨o, x, h2⟩ <;> rw [h2] at e <;> simp at e
  · exact h
end Go.Proofs.Try
namespace Go.Proofs.Try
open Go.Psl
open Go.Geo (cross chainR)
set_option maxHeartbeats 4000000 in
set_option maxRecDepth 20000 in
theorem chn_pop (l : List (Int × Int)) (i : Nat) (p : Int × Int) (hp : l[i]? = some p) (hpm : bd 536870912 p) (st0 : List (Int × Int)) {E : Ent} (hE : ∀ i, ¬ E.stab i) {Q : AExit → St → Prop} : ∀ x : List (Int × Int) × List (Int × Int), (popS x.1 p = popS st0 p ∧ x.1.length ≤ 100000 ∧ ∀ q ∈ x.1, bd 536870912 q) → PW prog tys eqs E p134l0
    (seqQ (fun st' => ∃ y : List (Int × Int) × List (Int × Int), (popS y.1 p = popS st0 p ∧ y.1.length ≤ 100000 ∧ ∀ q ∈ y.1, bd 536870912 q) ∧ y.1.length < x.1.length ∧ Weak prog E st' ⟨slots [(0, .d (spansD l)), (3, hdrV y.1.reverse 0), (4, vi i)], lk (outZ y.1.reverse y.2 0), 1⟩)
      (exC prog E Q 2 (fun z : List (Int × Int) => ⟨slots [(0, .d (spansD l)), (3, hdrV (popS st0 p).reverse 0), (4, vi i)], lk (outZ (popS st0 p).reverse z 0), 1⟩) (fun _ => True)))
    ⟨slots [(0, .d (spansD l)), (3, hdrV x.1.reverse 0), (4, vi i)], lk (outZ x.1.reverse x.2 0), 1⟩ := by
  rintro ⟨st, z⟩ ⟨hpop, hlen, hm⟩
  simp only at hpop hlen hm ⊢
  by_cases h2s : st.length < 2
  · have hps : popS st0 p = st := by
      rw [← hpop]
      match st, h2s with
      | [], _ => rfl
      | [_], _ => rfl
      | _ :: _ :: _, h => simp at h; omega
    rw [hps]
    obtain ⟨O, hO⟩ : ∃ O, st.reverse = O := ⟨_, rfl⟩
    have hOl : O.length = st.length := by rw [← hO]; simp
    rw [hO]
    have hlt : ¬ ((1 : Int) < (O.length : Int)) := by omega
    have hlt' : ¬ (1 < O.length) := by omega
    simp [p134l0, lenF_hdr, hlt]
    refine ⟨z, ?_⟩
    obtain rfl | ⟨b0, x0, rfl⟩ := out_cases O
    · refine Weak.mk hE (lk []) _ _ _ ?_ ?_ ?_ ?_ ?_ <;> simp
    · rw [outZ_snoc]
      refine Weak.mk hE (lk [(0, 0)]) _ _ _ ?_ ?_ ?_ ?_ ?_ <;> simp
  · obtain ⟨b, a, r, rfl⟩ : ∃ b a r, st = b :: a :: r := by
      match st, h2s with
      | b :: a :: r, _ => exact ⟨b, a, r, rfl⟩
      | [], h => simp at h
      | [_], h => simp at h
    have ba := hm a (by simp)
    have bb := hm b (by simp)
    obtain ⟨m, hmm⟩ : ∃ m, m = r.length := ⟨_, rfl⟩
    obtain ⟨m1, hm1⟩ : ∃ m1, m1 = m + 1 := ⟨_, rfl⟩
    obtain ⟨O, hO⟩ : ∃ O, (b :: a :: r).reverse = O := ⟨_, rfl⟩
    have hO2 : O = r.reverse ++ [a] ++ [b] := by rw [← hO]; simp
    have hO3 : (a :: r).reverse = r.reverse ++ [a] := by simp
    obtain ⟨N, hN⟩ : ∃ N, O.length = N := ⟨_, rfl⟩
    have hNm : N = m + 2 := by rw [← hN, hO2, hmm]; simp
    have hOne : O ≠ [] := by rw [hO2]; simp
    have ha' : (O ++ z)[m]? = some a := by
      rw [hO2, hmm]; simp only [List.append_assoc]
      rw [List.getElem?_append_right (by simp), List.length_reverse, Nat.sub_self]; rfl
    have hb' : (O ++ z)[m1]? = some b := by
      rw [hO2, hm1, hmm]; simp only [List.append_assoc]
      rw [List.getElem?_append_right (by simp), List.length_reverse, show r.length + 1 - r.length = 1 by omega]; rfl
    have ca := cells_at ha'
    have cb := cells_at hb'
    obtain ⟨ds, hds⟩ : ∃ ds, spD (O ++ z) = ds := ⟨_, rfl⟩
    have hdsl : N * 2 ≤ ds.length := by rw [← hds, spD_len, List.length_append, hN]; omega
    rw [hds] at ca cb
    rw [hO, hdrV_ne hOne, outZ_ne hOne, hN, show cellsI (O ++ z) = ds.map V.d by rw [← hds]]
    have w2 : IntKind.wrap .i64 ((N : Int) - 2) = (m : Int) := by simp at hlen; rw [wrap64 (by omega) (by omega)]; omega
    have w3 : IntKind.wrap .i64 ((N : Int) - 1) = (m1 : Int) := by simp at hlen; rw [wrap64 (by omega) (by omega)]; omega
    have hlt : (1 : Int) < (N : Int) := by omega
    have hlt' : 1 < N := by omega
    have l1 : m < N := by omega
    have l2 : m1 < N := by omega
    have l3 : m * 2 + 2 ≤ ds.length := by omega
    have l4 : m1 * 2 + 2 ≤ ds.length := by omega
    have l5 : m1 ≤ N := by omega
    simp [p134l0, hlt, hp, inC, Nat.testBit, w2, w3, l1, l2, l3, l4, ca, cb]
    refine ACall.mk _ _ _ (fn136 a b p ba bb hpm) (by first | (simp; done) | simp [Bor_ls, Bor1_ls]) (by simp) (by first | (left; simp; done) | (right; simp; done)) ?_
    by_cases hc : cross a b p ≤ 0
    · simp [hc, w3, l5]
      refine ⟨a :: r, ⟨by rw [← hpop, popS_two, if_pos hc], by simp at hlen ⊢; omega, fun q1 q2 hq => hm (q1, q2) (List.mem_cons_of_mem _ hq)⟩, by simp, [b] ++ z, ?_⟩
      rw [hO3, hdrV_snoc, outZ_snoc, show cellsI (r.reverse ++ [a] ++ ([b] ++ z)) = ds.map V.d by rw [← hds, hO2]; simp]
      refine Weak.mk hE (lk [(0, 0)]) _ _ _ ?_ ?_ ?_ ?_ ?_ <;> simp
      omega
    · have hps : popS st0 p = b :: a :: r := by rw [← hpop, popS_two, if_neg hc]
      rw [hps, hO, hdrV_ne hOne, hN]
      simp [hc]
      refine ⟨z, ?_⟩
      rw [outZ_ne hOne, show cellsI (O ++ z) = ds.map V.d by rw [← hds]]
      refine Weak.mk hE (lk [(0, 0)]) _ _ _ ?_ ?_ ?_ ?_ ?_ <;> simp
end Go.Proofs.Try
namespace Go.Proofs.Try
open Go.Psl
open Go.Geo (cross chainR)
set_option maxHeartbeats 8000000 in
set_option maxRecDepth 20000 in
theorem chn_main (l : List (Int × Int)) (hl : l.length ≤ 100000) (hbd : ∀ q ∈ l, bd 536870912 q) : Ct prog 134 [.d (spansD l)] (hdrV (chainR l).reverse 0) (outZ (chainR l).reverse [] 0) := by
  refine Ct.by gok eok mixed func134 c134 rfl (by simp [ntmps134]) (by simp) ?_ fun E hE => ?_
  · rcases out_cases (chainR l).reverse with h | ⟨o, x, h⟩
    · rw [h]; simp [ResIds, outZ]
    · rw [h, outZ_snoc]; simp [ResIds]
  have hst0 : chainR (l.take 0) = [] := by simp [chainR]
  have hcl := fun i => chainR_len (l.take i)
  have hcm : ∀ i, ∀ q ∈ chainR (l.take i), bd 536870912 q := fun i q hq => hbd q (List.mem_of_mem_take (chainR_mem q hq))
  simp [p134]
  refine pw_loopC (α := Nat) 0 (fun _ : Unit => ⟨slots [(3, hdrV (chainR l).reverse 0)], lk (outZ (chainR l).reverse [] 0), 1⟩) (fun _ => True) (fun i => ⟨slots [(0, .d (spansD l)), (3, hdrV (chainR (l.take i)).reverse 0), (4, vi i)], lk (outZ (chainR (l.take i)).reverse [] 0), 1⟩) (fun i => i ≤ l.length) (fun i => l.length - i) 0 ?_ ?_ ?_ fun _ _ => ?_
  · simp
  · rw [hst0]
    refine Weak.mk hE (lk []) _ _ _ ?_ ?_ ?_ ?_ ?_ <;> simp [outZ]
  · intro i hi
    simp [p134l1]
    refine cR_split (fun h => ?_) (fun h => ?_)
    · simp at h
      obtain ⟨p, hp⟩ : ∃ p, l[i]? = some p := ⟨_, List.getElem?_eq_getElem h⟩
      have hpm := hbd p (List.mem_of_getElem? hp)
      have w1 : IntKind.wrap .i64 ((i : Int) + 1) = ((i + 1 : Nat) : Int) := by rw [wrap64 (by omega) (by omega)]; omega
      have hct := chain_take hp
      have hci := hcl i
      have hcmi := hcm i
      obtain ⟨st0, hst⟩ : ∃ st0, chainR (l.take i) = st0 := ⟨_, rfl⟩
      rw [hst] at hct hci hcmi ⊢
      have hl0 : st0.length ≤ 100000 := by simp at hci; omega
      simp
      refine pw_loopC (α := List (Int × Int) × List (Int × Int)) 2 (fun z : List (Int × Int) => ⟨slots [(0, .d (spansD l)), (3, hdrV (popS st0 p).reverse 0), (4, vi i)], lk (outZ (popS st0 p).reverse z 0), 1⟩) (fun _ => True) (fun x => ⟨slots [(0, .d (spansD l)), (3, hdrV x.1.reverse 0), (4, vi i)], lk (outZ x.1.reverse x.2 0), 1⟩) (fun x => popS x.1 p = popS st0 p ∧ x.1.length ≤ 100000 ∧ ∀ q ∈ x.1, bd 536870912 q) (fun x => x.1.length) (st0, []) ?_ ?_ ?_ fun zz _ => ?_
      · exact ⟨rfl, hl0, hcmi⟩
      · obtain e | ⟨b0, x0, e⟩ := out_cases st0.reverse <;> simp only [e]
        · refine Weak.mk hE (lk []) _ _ _ ?_ ?_ ?_ ?_ ?_ <;> simp [outZ]
        · rw [outZ_snoc]
          refine Weak.mk hE (lk [(0, 0)]) _ _ _ ?_ ?_ ?_ ?_ ?_ <;> simp
      · exact chn_pop l i p hp hpm st0 hE
      · have hpl := popS_len p st0
        obtain ⟨O, hO⟩ : ∃ O, (popS st0 p).reverse = O := ⟨_, rfl⟩
        have hOl : O.length ≤ 200000 := by rw [← hO]; simp; omega
        have hnx : (chainR (l.take (i + 1))).reverse = O ++ [p] := by rw [hct, ← hO]; simp
        rw [hO]
        have fin : cellsI (O ++ [p]) = (spD O).map V.d ++ [vi p.1, vi p.2] := spD_one p O
        obtain rfl | ⟨o, x, rfl⟩ := out_cases O
        · simp [hp, repl, splice, w1]
          refine ⟨i + 1, by omega, by omega, ?_⟩
          rw [hnx, hdrV_snoc, outZ_snoc, List.append_nil, fin]
          refine Weak.mk hE (lk [(0, 6291457)]) _ _ _ ?_ ?_ ?_ ?_ ?_ <;> simp
        · have htk := cells_take (o ++ [x]) zz
          have hdl3 := spD_len (o ++ [x] ++ zz)
          have hOne : o ++ [x] ≠ [] := by simp
          obtain ⟨N, hN⟩ : ∃ N, (o ++ [x]).length = N := ⟨_, rfl⟩
          have hdo := spD_len (o ++ [x])
          rw [List.length_append, hN] at hdl3
          rw [hN] at htk hOl hdo
          rw [hdrV_ne hOne, outZ_ne hOne, hN]
          have hcc : cellsI (o ++ [x] ++ zz) = List.map V.d (spD (o ++ [x] ++ zz)) := rfl
          rw [hcc]
          generalize spD (o ++ [x] ++ zz) = ds at htk hdl3 ⊢
          generalize spD (o ++ [x]) = eo at fin htk hdo
          have hfit : N * 2 ≤ ds.length ∧ (N + 1) * 16 ≤ 140737488355328 ∧ N + 1 ≤ 9223372036854775807 := by omega
          simp [hp, repl, splice, w1, hfit, htk]
          refine ⟨i + 1, by omega, by omega, ?_⟩
          rw [hnx, hdrV_snoc, outZ_snoc, List.append_nil, fin, hN]
          refine Weak.mk hE (lk [(0, 6291457)]) _ _ _ ?_ ?_ ?_ ?_ ?_ <;> simp
          rintro c (⟨a, _, rfl⟩ | rfl | rfl) <;> simp
    · simp at h
      have e : l.take i = l := List.take_of_length_le h
      rw [e]
      simp
      rcases out_cases (chainR l).reverse with h | ⟨o, x, h⟩
      · simp only [h]
        refine Weak.mk hE (lk []) _ _ _ ?_ ?_ ?_ ?_ ?_ <;> simp [outZ]
      · simp only [h]
        rw [outZ_snoc]
        refine Weak.mk hE (lk [(0, 0)]) _ _ _ ?_ ?_ ?_ ?_ ?_ <;> simp
  · rcases out_cases (chainR l).reverse with h | ⟨o, x, h⟩
    · simp only [h]
      simp
      refine RetOk.by (fun _ => none) ?_
      simp [results134]
    · simp only [h]
      rw [outZ_snoc]
      simp
      refine RetOk.by (lk [(0, 0)]) ?_
      simp [results134]
end Go.Proofs.Try
namespace Go.Proofs.Try
open Go.Psl
open Go.Geo (cross chainR)
theorem fz_outZ (out z : List (Int × Int)) : Fz1 (lk (outZ out z 0)) (hdrV out 0) (.d (spansD out)) := by
  by_cases h : out = []
  · subst h; exact Or.inr ⟨rfl, 2, rfl⟩
  · rw [hdrV_ne h, outZ_ne h]
    exact bor_cut (z := z) (by simp [lk])
theorem fz_one {P : Program} {f : FuncId} {args : List V} {out z : List (Int × Int)} (h : Ct P f args (hdrV out 0) (outZ out z 0)) : Ct P f args (.d (spansD out)) [] := by
  refine Cm.freeze h ?_
  have h1 := fz_outZ out z
  unfold Fz
  split
  · rename_i e _; rcases out_cases out with h2 | ⟨o, x, h2⟩ <;> rw [h2] at e <;> simp at e
  · exact h1
theorem fn134 (l : List (Int × Int)) (hl : l.length ≤ 100000) (hbd : ∀ q ∈ l, bd 536870912 q) : Ct prog 134 [.d (spansD l)] (.d (spansD (chainR l).reverse)) [] := fz_one (chn_main l hl hbd)
end Go.Proofs.Try
namespace Go.Proofs.Try
open Go.Psl
open Go.Geo (cross chainR hullS)
set_option maxHeartbeats 4000000 in
set_option maxRecDepth 20000 in
theorem hul_back (s : List (Int × Int)) (hl : s.length ≤ 100000) {E : Ent} (hE : ∀ i, ¬ E.stab i) {Q : AExit → St → Prop} : ∀ k : Nat, k ≤ s.length → PW prog tys eqs E p95l0
    (seqQ (fun st' => ∃ j, j ≤ s.length ∧ s.length - j < s.length - k ∧ Weak prog E st' ⟨slots [(3, .d (spansD s)), (4, hdrV (s.reverse.take j) 0), (5, vi ((s.length : Int) - 1 - j))], lk (outB (s.reverse.take j) 0), 1⟩)
      (exC prog E Q 0 (fun _ : Unit => ⟨slots [(3, .d (spansD s)), (4, hdrV s.reverse 0)], lk (outB s.reverse 0), 1⟩) (fun _ => True)))
    ⟨slots [(3, .d (spansD s)), (4, hdrV (s.reverse.take k) 0), (5, vi ((s.length : Int) - 1 - k))], lk (outB (s.reverse.take k) 0), 1⟩ := by
  intro k hk
  by_cases h : k < s.length
  · obtain ⟨e, he⟩ : ∃ e, e = s.length - 1 - k := ⟨_, rfl⟩
    have hee : (s.length : Int) - 1 - k = (e : Int) := by omega
    obtain ⟨p, hp⟩ : ∃ p, s[e]? = some p := ⟨_, List.getElem?_eq_getElem (by omega)⟩
    have hrp : s.reverse[k]? = some p := by rw [List.getElem?_reverse h, ← he]; exact hp
    have hnx : s.reverse.take (k + 1) = s.reverse.take k ++ [p] := by rw [List.take_add_one, hrp]; rfl
    have w1 : IntKind.wrap .i64 ((e : Int) - 1) = (s.length : Int) - 1 - ((k + 1 : Nat) : Int) := by rw [wrap64 (by omega) (by omega)]; omega
    have hol : (s.reverse.take k).length = k := by simp; omega
    rw [hee]
    obtain ⟨O, hO⟩ : ∃ O, s.reverse.take k = O := ⟨_, rfl⟩
    rw [hO] at hnx hol ⊢
    have fin : cellsI (O ++ [p]) = (spD O).map V.d ++ [vi p.1, vi p.2] := spD_one p O
    by_cases hne : O = []
    · subst hne
      simp [p95l0, hp, repl, splice, w1]
      refine ⟨k + 1, by omega, by omega, ?_⟩
      rw [hnx, hdrV_ne (by simp), outB_ne (by simp), fin]
      refine Weak.mk hE (lk [(0, 8388609)]) _ _ _ ?_ ?_ ?_ ?_ ?_ <;> simp
    · have hsl := spD_len O
      have htk : List.take (O.length * 2) (cellsI O) = cellsI O := List.take_of_length_le (by simp)
      have n1 : (O.length + 1) * 16 ≤ 140737488355328 := by omega
      have n2 : O.length + 1 ≤ 9223372036854775807 := by omega
      rw [hdrV_ne hne, outB_ne hne]
      simp [p95l0, hp, repl, splice, w1, hsl, htk, n1, n2]
      refine ⟨k + 1, by omega, by omega, ?_⟩
      rw [hnx, hdrV_ne (by simp), outB_ne (by simp), fin]
      refine Weak.mk hE (lk [(0, 8388609)]) _ _ _ ?_ ?_ ?_ ?_ ?_ <;> simp
      rintro c (⟨a, _, rfl⟩ | rfl | rfl) <;> simp
  · have e : k = s.length := by omega
    have hneg : (s.length : Int) - 1 - k = -1 := by omega
    have hrev : s.reverse.take k = s.reverse := List.take_of_length_le (by simp; omega)
    rw [hneg, hrev]
    rcases out_cases s.reverse with h | ⟨o, x, h⟩
    · simp only [h]
      simp [p95l0]
      refine Weak.mk hE (lk []) _ _ _ ?_ ?_ ?_ ?_ ?_ <;> simp
    · simp only [h]
      simp [p95l0]
      refine Weak.mk hE (lk [(0, 0)]) _ _ _ ?_ ?_ ?_ ?_ ?_ <;> simp
      rintro c (⟨a, _, rfl⟩ | rfl | rfl) <;> simp
end Go.Proofs.Try
namespace Go.Proofs.Try
open Go.Psl
open Go.Geo (cross chainR hullS)
set_option maxHeartbeats 4000000 in
set_option maxRecDepth 20000 in
theorem hul_short (l : List (Int × Int)) (hl : l.length ≤ 100000) (h3 : (ddC (sortC l)).length < 3) : Ct prog 95 [.d (spansD l)] (.d (spansD (hullP l))) [] := by
  have c1 := fn133 l hl
  have e : hullP l = ddC (sortC l) := by unfold hullP hullS; rw [if_pos h3]
  rw [e]
  generalize ddC (sortC l) = s at *
  have h3' : (s.length : Int) < 3 := by omega
  refine Ct.by gok eok mixed func95 c95 rfl (by simp [ntmps95]) (by simp) (by simp [ResIds]) fun E hE => ?_
  simp [p95]
  refine ACall.mk _ _ _ (c1) (by first | (simp; done) | simp [Bor_ls, Bor1_ls]) (by simp) (by first | (left; simp; done) | (right; simp; done)) ?_
  simp [h3']
  refine RetOk.by (fun _ => none) ?_
  simp [results95]
set_option maxHeartbeats 4000000 in
set_option maxRecDepth 20000 in
theorem hul_long (l : List (Int × Int)) (hl : l.length ≤ 100000) (hbd : ∀ q ∈ l, bd 536870912 q) (h3 : ¬ (ddC (sortC l)).length < 3) : Ct prog 95 [.d (spansD l)] (hdrV (hullP l) 0) (outZ (hullP l) [] 0) := by
  have c1 := fn133 l hl
  have e : hullP l = (chainR (ddC (sortC l))).tail.reverse ++ (chainR (ddC (sortC l)).reverse).tail.reverse := by unfold hullP hullS; rw [if_neg h3]
  have hsl : (ddC (sortC l)).length ≤ l.length := by
    have := dd_len (sortC l) (sortC l).length
    rw [List.take_length, sortC_len] at this; exact this
  have hsb : ∀ q ∈ ddC (sortC l), bd 536870912 q := fun q hq => hbd q (by rwa [ddC_mem, sortC_mem] at hq)
  obtain ⟨s, hs⟩ : ∃ s, ddC (sortC l) = s := ⟨_, rfl⟩
  have hso : Go.Geo.Sorted s := by rw [← hs]; exact sorted_dd l
  rw [hs] at c1 e h3 hsl hsb
  obtain ⟨f, g, lo, up, _, _, _, hlo, hup, _, hupl⟩ := Go.Geo.chains hso (by omega)
  obtain ⟨mid, hmid⟩ : ∃ mid, up.reverse = g :: mid := by
    have : up.reverse.head? = some g := by rw [List.head?_reverse]; exact hupl
    cases hr : up.reverse with
    | nil => rw [hr] at this; simp at this
    | cons a r => rw [hr] at this; simp at this; subst this; exact ⟨r, rfl⟩
  have e2 : hullP l = (chainR s).reverse ++ mid := by rw [e, hlo, hup]; simp [hmid]
  have e3 : (chainR s.reverse).reverse = g :: (mid ++ [f]) := by rw [hup, List.reverse_cons, hmid]; rfl
  have c2 := fn134 s (by omega) hsb
  have c3 := chn_main s.reverse (by simp; omega) (fun q hq => hsb q (List.mem_reverse.1 hq))
  rw [e3, hdrV_ne (by simp), outZ_ne (by simp), List.append_nil] at c3
  have h3' : ¬ (s.length : Int) < 3 := by omega
  have w1 : IntKind.wrap .i64 ((s.length : Int) - 1) = (s.length : Int) - 1 := wrap64 (by omega) (by omega)
  have hne : s.reverse ≠ [] := by intro h; rw [List.reverse_eq_nil_iff] at h; rw [h] at h3; simp at h3
  refine Ct.by gok eok mixed func95 c95 rfl (by simp [ntmps95]) (by simp) ?_ fun E hE => ?_
  · rw [e2, hlo, hdrV_ne (by simp), outZ_ne (by simp)]; simp [ResIds]
  simp [p95]
  refine ACall.mk _ _ _ (c1) (by first | (simp; done) | simp [Bor_ls, Bor1_ls]) (by simp) (by first | (left; simp; done) | (right; simp; done)) ?_
  simp [h3', w1]
  refine pw_loopC (α := Nat) 0 (fun _ : Unit => ⟨slots [(3, .d (spansD s)), (4, hdrV s.reverse 0)], lk (outB s.reverse 0), 1⟩) (fun _ => True) (fun j => ⟨slots [(3, .d (spansD s)), (4, hdrV (s.reverse.take j) 0), (5, vi ((s.length : Int) - 1 - j))], lk (outB (s.reverse.take j) 0), 1⟩) (fun j => j ≤ s.length) (fun j => s.length - j) 0 ?_ ?_ ?_ fun _ _ => ?_
  · simp
  · simp only [List.take_zero]
    refine Weak.mk hE (lk []) _ _ _ ?_ ?_ ?_ ?_ ?_ <;> simp
  · exact hul_back s (by omega) hE
  · rw [hdrV_ne hne, outB_ne hne]
    simp
    refine ACall.mk _ _ _ (c2) (by first | (simp; done) | simp [Bor_ls, Bor1_ls]) (by simp) (by first | (left; simp; done) | (right; simp; done)) ?_
    simp
    have hbor : ∀ H : Hp, H 0 = some (cellsI s.reverse) → Bor H (.ls 0 0 s.length 2) (.d (spansD s.reverse)) := fun H h => by
      have := bor_cut (H := H) (id := 0) (l := s.reverse) (z := []) (by rw [List.append_nil]; exact h)
      rwa [List.length_reverse] at this
    refine ACall.mk _ _ _ c3 (by refine ⟨hbor _ (by simp), trivial⟩) (by simp) (by right; simp; exact fun a h => spD_lit a h) ?_
    obtain ⟨LO, hLO⟩ : ∃ LO, (chainR s).reverse = LO := ⟨_, rfl⟩
    have hLOn : LO ≠ [] := by rw [← hLO, hlo]; simp
    have hcl := chainR_len s
    have hcu := chainR_len s.reverse
    rw [hLO] at e2 ⊢
    have hLOl : LO.length ≤ 100000 := by rw [← hLO]; simp; omega
    have hml : mid.length ≤ 100000 := by
      have : (g :: (mid ++ [f])).length = (chainR s.reverse).length := by rw [← e3]; simp
      simp at this hcu; omega
    have hfl : (List.map (List.map V.d ∘ fun s : Int × Int => [di s.1, di s.2]) LO).flatten = cellsI LO := by
      show _ = (spD LO).map V.d
      unfold spD
      rw [List.map_flatMap, List.flatMap_def]; rfl
    have hcell : ∀ x : V, x ∈ cellsI LO → x.isCell = true := fun x hx => by
      obtain ⟨y, _, rfl⟩ := List.mem_map.1 hx; rfl
    have n1 : LO.length * 16 ≤ 140737488355328 := by omega
    have n2 : LO.length ≤ 9223372036854775807 := by omega
    have w2 : IntKind.wrap .i64 ((mid.length : Int) + 1) = ((mid.length + 1 : Nat) : Int) := by rw [wrap64 (by omega) (by omega)]; omega
    have hcut : List.take (mid.length * 2) (List.drop 2 (List.map V.d (spD (g :: (mid ++ [f]))))) = cellsI mid := cells_take mid [f]
    have hcut2 : 2 + mid.length * 2 ≤ (mid.length + 1 + 1) * 2 := by omega
    have hcm : ∀ x : V, x ∈ cellsI mid → x.isCell = true := fun x hx => by
      obtain ⟨y, _, rfl⟩ := List.mem_map.1 hx; rfl
    have w4 : (1 : Int) ≤ (mid.length : Int) + 1 := by omega
    have w3 : (0 : Int) ≤ (mid.length : Int) + 1 ∧ (mid.length : Int) ≤ (mid.length : Int) + 1 := by omega
    have hfit : LO.length * 2 ≤ (cellsI LO).length ∧ (LO.length + mid.length) * 16 ≤ 140737488355328 ∧ LO.length + mid.length ≤ 9223372036854775807 := by simp; omega
    simp
    refine pw_drawW [(2, 6291457)] (by kernel_rfl) ?_
    simp [inC, Nat.testBit, repl, hfl, n1, n2, w2, w3, w4, hfit, hcut, hcut2]
    have hne2 : LO ++ mid ≠ [] := by simp [hLOn]
    have htk : List.take (LO.length * 2) (cellsI LO) = cellsI LO := List.take_of_length_le (by simp)
    have happ : cellsI LO ++ cellsI mid = cellsI (LO ++ mid) := by
      show (spD LO).map V.d ++ (spD mid).map V.d = (spD (LO ++ mid)).map V.d
      rw [← List.map_append]; unfold spD; rw [List.flatMap_append]
    rw [e2, hdrV_ne hne2, outZ_ne hne2, List.append_nil, List.length_append, htk, happ]
    refine RetOk.by (lk [(0, 14680065)]) ?_
    simp [results95]
theorem fn95 (l : List (Int × Int)) (hl : l.length ≤ 100000) (hbd : ∀ q ∈ l, bd 536870912 q) : Ct prog 95 [.d (spansD l)] (.d (spansD (hullP l))) [] := by
  by_cases h3 : (ddC (sortC l)).length < 3
  · exact hul_short l hl h3
  · exact fz_one (hul_long l hl hbd h3)
end Go.Proofs.Try
namespace Go.Proofs.Try
open Go.Psl
theorem okC_xy {p : Int × Int} : okC p = ((decide (-268435456 ≤ p.1) && decide (p.1 ≤ 268435456)) && (decide (-268435456 ≤ p.2) && decide (p.2 ≤ 268435456))) := by
  rw [Bool.eq_iff_iff, okC_iff]
  simp only [bd, Bool.and_eq_true, decide_eq_true_eq]
set_option maxRecDepth 20000 in
theorem fn94 (l : List (Int × Int)) (hl : l.length ≤ 1000000000) : Ct prog 94 [.d (spansD l)] (vb (nearC l)) [] := by
  refine Ct.by gok eok mixed func94 c94 rfl (by simp [ntmps94]) (by simp) (by simp [ResIds]) fun E hE => ?_
  simp [p94]
  refine pw_loop (α := Nat) (fun i => ⟨slots [(0, .d (spansD l)), (3, vi i)], lk [], 0⟩) (fun i => i ≤ l.length ∧ nearC (l.take i) = true) (fun i => l.length - i) 0 ?_ ?_ ?_
  · simp [nearC]
  · refine Weak.mk hE (lk []) _ _ _ ?_ ?_ ?_ ?_ ?_ <;> simp
  · rintro i ⟨hi, hg⟩
    have hz : IntKind.wrap .i64 ((i : Int) + 1) = ((i : Int) + 1) := wrap64 (by omega) (by omega)
    simp [p94l0]
    refine cR_split (fun h => ?_) (fun h => ?_)
    · simp at h
      have hil : i < l.length := by omega
      obtain ⟨p, hp⟩ : ∃ p, l[i]? = some p := ⟨l[i], by simp [hil]⟩
      obtain ⟨b1, hb1⟩ : ∃ b1, (decide (-268435456 ≤ p.1) && decide (p.1 ≤ 268435456)) = b1 := ⟨_, rfl⟩
      have hb := okC_xy (p := p)
      rw [hb1] at hb
      simp [hp]
      refine ACall.mk _ _ _ (fn79 p.1 (-268435456) 268435456) (by first | (simp; done) | simp [Bor_ls, Bor1_ls]) (by simp) (by first | (left; simp; done) | (right; simp; done)) ?_
      rw [hb1]
      cases b1
      · simp
        refine RetOk.by (fun _ => none) ?_
        simp [results94, nearC_false hp hb]
      · simp [hp]
        refine ACall.mk _ _ _ (fn79 p.2 (-268435456) 268435456) (by first | (simp; done) | simp [Bor_ls, Bor1_ls]) (by simp) (by first | (left; simp; done) | (right; simp; done)) ?_
        rw [Bool.true_and] at hb
        rw [← hb]
        cases hc : okC p
        · simp
          refine RetOk.by (fun _ => none) ?_
          simp [results94, nearC_false hp hc]
        · simp [hz]
          refine ⟨i + 1, ⟨by omega, by rw [nearC_take hp, hg, hc]; rfl⟩, by omega, ?_⟩
          refine Weak.mk hE (lk []) _ _ _ ?_ ?_ ?_ ?_ ?_ <;> simp
    · simp at h
      have hil : i = l.length := by omega
      subst hil
      rw [List.take_length] at hg
      simp
      refine RetOk.by (fun _ => none) ?_
      simp [results94, hg]
theorem regS_eq (r : List (Int × Int)) : regS r = ((decide ((1 : Int) ≤ r.length) && decide ((r.length : Int) ≤ 64)) && nearC r && decide (hullP r = r)) := by
  unfold regS
  rw [decide_eq_decide.2 (show 1 ≤ r.length ↔ (1 : Int) ≤ r.length by omega), decide_eq_decide.2 (show r.length ≤ 64 ↔ (r.length : Int) ≤ 64 by omega)]
set_option maxRecDepth 20000 in
theorem fn67 (r : List (Int × Int)) (hr : r.length ≤ 1000000000) : Ct prog 67 [.d (spansD r)] (vb (regS r)) [] := by
  refine Ct.by gok eok mixed func67 c67 rfl (by simp [ntmps67]) (by simp) (by simp [ResIds]) fun E hE => ?_
  have e := regS_eq r
  obtain ⟨b1, hb1⟩ : ∃ b1, (decide ((1 : Int) ≤ r.length) && decide ((r.length : Int) ≤ 64)) = b1 := ⟨_, rfl⟩
  rw [hb1] at e
  simp [p67]
  refine ACall.mk _ _ _ (fn79 (r.length : Int) 1 64) (by first | (simp; done) | simp [Bor_ls, Bor1_ls]) (by simp) (by first | (left; simp; done) | (right; simp; done)) ?_
  rw [hb1]
  cases b1
  · simp
    refine RetOk.by (fun _ => none) ?_
    simp [results67, e]
  · simp only [Bool.and_eq_true, decide_eq_true_eq] at hb1
    simp
    refine ACall.mk _ _ _ (fn94 r hr) (by first | (simp; done) | simp [Bor_ls, Bor1_ls]) (by simp) (by first | (left; simp; done) | (right; simp; done)) ?_
    cases hn : nearC r
    · rw [hn] at e
      simp
      refine RetOk.by (fun _ => none) ?_
      simp [results67, e]
    · rw [hn] at e
      have hpl := hullP_len r
      simp
      refine ACall.mk _ _ _ (fn95 r (by omega) (near_bd hn)) (by first | (simp; done) | simp [Bor_ls, Bor1_ls]) (by simp) (by first | (left; simp; done) | (right; simp; done)) ?_
      simp
      refine ACall.mk _ _ _ (fn57 (hullP r) r (by omega) hr) (by first | (simp; done) | simp [Bor_ls, Bor1_ls]) (by simp) (by first | (left; simp; done) | (right; simp; done)) ?_
      simp
      refine RetOk.by (fun _ => none) ?_
      simp [results67, e]
theorem fz_nil2 {P : Program} {f : FuncId} {args : List V} {e : Int} (h : Ct P f args (.tup [.d (.lit (.slice none 0 0)), vi e]) []) : Ct P f args (.tup [.d (spansD []), vi e]) [] :=
  Cm.freeze h ⟨Or.inr ⟨rfl, 2, rfl⟩, Or.inl rfl, trivial⟩
end Go.Proofs.Try
namespace Go.Geo
theorem chain_ends {l st : List C} (h : ChainOf l st) {f g : C} (hf : l.head? = some f) (hg : l.getLast? = some g) {s t : List C} {y v x : C} (e : st = s ++ y :: v :: x :: t) : lt f v ∧ lt v g := by
  subst e
  have hd := good_desc h.good
  obtain ⟨vy, xv, _, _, _⟩ := good_mid h.good
  constructor
  · have ht := h.bot
    rw [hf] at ht
    have hlast : (x :: t).getLast? = some f := by
      rw [← ht]
      rw [show s ++ y :: v :: x :: t = (s ++ [y, v]) ++ (x :: t) by simp, List.getLast?_append]
      cases hx : (x :: t).getLast? with
      | none => simp [List.getLast?_cons] at hx
      | some z => rfl
    have hfm : f ∈ x :: t := List.mem_of_getLast? hlast
    have h3 := (List.pairwise_append.1 hd).2.1
    exact (List.pairwise_cons.1 (List.pairwise_cons.1 h3).2).1 f hfm
  · have ht := h.top
    rw [hg] at ht
    cases s with
    | nil => simp at ht; subst ht; exact vy
    | cons c s =>
      simp at ht; subst ht
      exact (List.pairwise_cons.1 hd).1 v (by simp)
theorem inner {l st : List C} (h : ChainOf l st) {f g : C} (hf : l.head? = some f) (hg : l.getLast? = some g) {s t : List C} {y v x : C} (e : st = s ++ y :: v :: x :: t) : 0 < cross f v g := by
  obtain ⟨hfv, hvg⟩ := chain_ends h hf hg e
  subst e
  obtain ⟨vy, xv, hc, a1, a2⟩ := good_mid h.good
  have c1 := a2 f (List.mem_of_head? hf)
  have c2 := a1 g (List.mem_of_getLast? hg)
  have d1 : 0 ≤ xp (sb v f) (sb v x) := by have : cross x v f = xp (sb v f) (sb v x) := by unfold cross xp sb; grind
                                           omega
  have d2 : 0 < xp (sb v x) (sb y v) := by rw [← cross_xp2]; exact hc
  have d3 : 0 ≤ xp (sb y v) (sb g v) := by rw [← cross_xp]; exact c2
  have d4 := tr_s2 (pos_sb hfv) (pos_sb xv) (pos_sb vy) d1 d2
  have d5 := tr_s1 (pos_sb hfv) (pos_sb vy) (pos_sb hvg) d4 d3
  rw [cross_xp2]; exact d5
theorem edg_last (a f : C) : ∀ s : List C, (f, a) ∈ edg (s ++ [a, f])
  | [] => by simp [edg]
  | [x] => by simp [edg]
  | x :: y :: s => by simp only [List.cons_append, edg, List.mem_cons]; right; exact edg_last a f (y :: s)
theorem two_last {st : List C} {f : C} (h2 : 2 ≤ st.length) (hb : st.getLast? = some f) : ∃ s a, st = s ++ [a, f] := by
  rcases List.eq_nil_or_concat st with rfl | ⟨r, z, rfl⟩
  · simp at h2
  · rcases List.eq_nil_or_concat r with rfl | ⟨s, a, rfl⟩
    · simp at h2
    · simp only [List.concat_eq_append, List.getLast?_append, List.getLast?_singleton, Option.some_or, Option.some.injEq] at hb
      subst hb
      exact ⟨s, a, by simp⟩
theorem first_le {l : List C} (h : Sorted l) (h2 : 2 ≤ l.length) (hnd : 5 ≤ (chainR l).length + (chainR l.reverse).length) {f : C} (hf : l.head? = some f) {p : C} (hl : ∀ e ∈ edg (chainR l), 0 ≤ cross e.1 e.2 p) (hu : ∀ e ∈ edg (chainR l.reverse), 0 ≤ cross e.1 e.2 p) : le f p := by
  intro hpf
  obtain ⟨f', g, lo, up, hf', hg, hfg, e1, e2, b1, b2⟩ := chains h h2
  rw [hf] at hf'; cases hf'
  have c1 := chain_is l h
  have c2 := up_is h
  have hgl : lt f g := by
    rcases lt_tri f g with h1 | h1 | h1
    · exact h1
    · exact absurd h1 hfg
    · exact absurd h1 (sorted_first h hf g (List.mem_of_getLast? hg))
  have l1 : 2 ≤ (chainR l).length := by rw [e1]; cases lo with | nil => simp at b1 | cons => simp
  have l2 : 2 ≤ (chainR l.reverse).length := by rw [e2]; cases up with | nil => simp at b2 | cons => simp
  have k1 : (chainR l).getLast? = some f := by rw [c1.bot, hf]
  obtain ⟨s, a, hs⟩ := two_last l1 k1
  obtain ⟨b, u, hbu⟩ : ∃ b u, up = b :: u := by cases up with | nil => simp at b2 | cons b u => exact ⟨b, u, rfl⟩
  have ea : (f, a) ∈ edg (chainR l) := by rw [hs]; exact edg_last a f s
  have eb : (b, f) ∈ edg (chainR l.reverse) := by rw [e2, hbu]; simp [edg]
  have hfa := (good_edge c1.good _ ea).1
  have hfb := (up_edge h _ eb).1
  have q1 := hl _ ea
  have q2 := hu _ eb
  simp only at hfa hfb q1 q2
  have ha : a = g ∨ 0 < xp (sb a f) (sb g f) := by
    rcases List.eq_nil_or_concat s with rfl | ⟨s', y, rfl⟩
    · left
      rw [e1] at hs; simp at hs; exact hs.1.symm
    · right
      have := inner c1 hf hg (s := s') (t := []) (y := y) (v := a) (x := f) (by rw [hs]; simp)
      rw [cross_xp] at this; exact this
  have hb : b = g ∨ 0 < xp (sb g f) (sb b f) := by
    cases u with
    | nil => left; rw [hbu] at b2; simpa using b2
    | cons x t =>
      right
      have := inner c2 (f := neg g) (g := neg f) (by rw [List.head?_map, List.head?_reverse, hg]; rfl) (by rw [List.getLast?_map, List.getLast?_reverse, hf]; rfl) (s := []) (t := t.map neg) (y := neg f) (v := neg b) (x := neg x) (by rw [e2, hbu]; rfl)
      rw [cross_neg] at this
      have e : cross g b f = xp (sb g f) (sb b f) := by unfold cross xp sb; grind
      rw [← e]; exact this
  have hab : 0 < xp (sb a f) (sb b f) := by
    rcases ha with ha | ha <;> rcases hb with hb | hb
    · exfalso
      have n1 : (chainR l).length = 2 := by
        have hs0 : s = [] := by
          rcases List.eq_nil_or_concat s with h | ⟨s', y, rfl⟩
          · exact h
          · exfalso
            have := (chain_ends c1 hf hg (s := s') (t := []) (y := y) (v := a) (x := f) (by rw [hs]; simp)).2
            rw [ha] at this; exact lt_irr _ this
        rw [hs, hs0]; rfl
      have n2 : (chainR l.reverse).length = 2 := by
        have hu0 : u = [] := by
          cases u with
          | nil => rfl
          | cons x t =>
            exfalso
            have := (chain_ends c2 (f := neg g) (g := neg f) (by rw [List.head?_map, List.head?_reverse, hg]; rfl) (by rw [List.getLast?_map, List.getLast?_reverse, hf]; rfl) (s := []) (t := t.map neg) (y := neg f) (v := neg b) (x := neg x) (by rw [e2, hbu]; rfl)).1
            rw [hb] at this; exact lt_irr _ this
        rw [e2, hbu, hu0]; rfl
      omega
    · rw [ha]; exact hb
    · rw [hb]; exact ha
    · exact tr_s1 (pos_sb hfa) (pos_sb hgl) (pos_sb hfb) ha (Int.le_of_lt hb)
  have d1 : xp (sb a f) (sb f p) ≤ 0 := by
    have e : cross f a p = - xp (sb a f) (sb f p) := by unfold cross xp sb; grind
    omega
  have d2 : 0 ≤ xp (sb b f) (sb f p) := by
    have e : cross b f p = xp (sb b f) (sb f p) := by unfold cross xp sb; grind
    omega
  have := tr_s1 (pos_sb hfa) (pos_sb hfb) (pos_sb hpf) hab d2
  omega
theorem neg_map_map (l : List C) : (l.map neg).map neg = l := by
  rw [List.map_map]; conv => rhs; rw [← List.map_id l]
  exact List.map_congr_left fun x _ => neg_neg x
theorem last_le {l : List C} (h : Sorted l) (h2 : 2 ≤ l.length) (hnd : 5 ≤ (chainR l).length + (chainR l.reverse).length) {g : C} (hg : l.getLast? = some g) {p : C} (hl : ∀ e ∈ edg (chainR l), 0 ≤ cross e.1 e.2 p) (hu : ∀ e ∈ edg (chainR l.reverse), 0 ≤ cross e.1 e.2 p) : le p g := by
  have er : (l.reverse.map neg).reverse = l.map neg := by rw [← List.map_reverse, List.reverse_reverse]
  have := first_le (sorted_neg h) (by simpa using h2) (by rw [er, chainR_neg, chainR_neg]; simp; omega) (f := neg g) (by rw [List.head?_map, List.head?_reverse, hg]; rfl) (p := neg p)
    (fun e he => by
      rw [chainR_neg, edg_map] at he
      obtain ⟨e', he', rfl⟩ := List.mem_map.1 he
      rw [cross_neg]; exact hu e' he')
    (fun e he => by
      rw [er, chainR_neg, edg_map] at he
      obtain ⟨e', he', rfl⟩ := List.mem_map.1 he
      rw [cross_neg]; exact hl e' he')
  intro hh
  exact this (lt_neg.2 hh)
def box (a b p : C) : Prop := (min a.1 b.1 ≤ p.1 ∧ p.1 ≤ max a.1 b.1) ∧ min a.2 b.2 ≤ p.2 ∧ p.2 ≤ max a.2 b.2
def InR (r : List C) (p : C) : Prop := (∀ e ∈ cyc r, 0 ≤ cross e.1 e.2 p) ∧ (2 < r.length ∨ ∃ a b, r.head? = some a ∧ r.getLast? = some b ∧ box a b p)
theorem zero_of_mul {x y : Int} (hx : 0 < x) (h : x * y = 0) : y = 0 := by
  rcases Int.mul_eq_zero.1 h with h | h
  · omega
  · exact h
theorem seg_le {a b p : C} (hab : lt a b) (hb : box a b p) (hc : cross a b p = 0) : le a p ∧ le p b := by
  unfold box at hb
  unfold lt at hab
  unfold cross at hc
  rcases hab with hab | ⟨h1, h2⟩
  · constructor
    · intro h
      unfold lt at h
      have e : p.1 = a.1 := by omega
      have : (b.1 - a.1) * (p.2 - a.2) = 0 := by rw [e] at hc; grind
      have := zero_of_mul (by omega) this
      omega
    · intro h
      unfold lt at h
      have e : p.1 = b.1 := by omega
      have : (b.1 - a.1) * (p.2 - b.2) = 0 := by rw [e] at hc; grind
      have := zero_of_mul (by omega) this
      omega
  · constructor <;> (intro h; unfold lt at h; omega)
theorem seg_box {a b p : C} (hab : lt a b) (h1 : le a p) (h2 : le p b) (hc : cross a b p = 0) : box a b p := by
  unfold box
  unfold le lt at h1 h2
  unfold lt at hab
  unfold cross at hc
  rcases hab with hab | ⟨h3, h4⟩
  · have k1 : 0 ≤ p.1 - a.1 := by omega
    have k2 : 0 ≤ b.1 - p.1 := by omega
    have e1 : (b.1 - a.1) * (p.2 - a.2) = (b.2 - a.2) * (p.1 - a.1) := by omega
    have e2 : (b.1 - a.1) * (b.2 - p.2) = (b.2 - a.2) * (b.1 - p.1) := by grind
    rcases Int.le_total a.2 b.2 with h | h
    · have q1 := Int.mul_nonneg (show 0 ≤ b.2 - a.2 by omega) k1
      have q2 := Int.mul_nonneg (show 0 ≤ b.2 - a.2 by omega) k2
      have := le_of_pmul (show 0 < b.1 - a.1 by omega) (by rw [e1]; exact q1)
      have := le_of_pmul (show 0 < b.1 - a.1 by omega) (by rw [e2]; exact q2)
      omega
    · have q1 := Int.mul_nonneg (show 0 ≤ a.2 - b.2 by omega) k1
      have q2 := Int.mul_nonneg (show 0 ≤ a.2 - b.2 by omega) k2
      have := le_of_pmul (y := a.2 - p.2) (show 0 < b.1 - a.1 by omega) (by have : (b.1 - a.1) * (a.2 - p.2) = (a.2 - b.2) * (p.1 - a.1) := by grind
                                                                            rw [this]; exact q1)
      have := le_of_pmul (y := p.2 - b.2) (show 0 < b.1 - a.1 by omega) (by have : (b.1 - a.1) * (p.2 - b.2) = (a.2 - b.2) * (b.1 - p.1) := by grind
                                                                            rw [this]; exact q2)
      omega
  · omega
theorem mem_edg {st : List C} {e : C × C} (he : e ∈ edg st) : e.1 ∈ st ∧ e.2 ∈ st := by
  induction st with
  | nil => simp [edg] at he
  | cons c r ih =>
    cases r with
    | nil => simp [edg] at he
    | cons b r =>
      simp only [edg, List.mem_cons] at he
      rcases he with rfl | he
      · simp
      · have := ih he
        exact ⟨List.mem_cons_of_mem _ this.1, List.mem_cons_of_mem _ this.2⟩
theorem chain_hull {l : List C} (h : Sorted l) (h3 : ¬ l.length < 3) : (∀ v ∈ chainR l, v ∈ hullS l) ∧ ∀ v ∈ chainR l.reverse, v ∈ hullS l := by
  obtain ⟨f, g, lo, up, hf, hg, hfg, e1, e2, b1, b2⟩ := chains h (by omega)
  constructor
  · intro v hm
    unfold hullS
    rw [if_neg h3, e1, e2]
    rw [e1] at hm
    simp only [List.tail_cons, List.mem_append, List.mem_reverse]
    rcases List.mem_cons.1 hm with rfl | hm
    · right; exact List.mem_of_getLast? b2
    · left; exact hm
  · intro v hm
    unfold hullS
    rw [if_neg h3, e1, e2]
    rw [e2] at hm
    simp only [List.tail_cons, List.mem_append, List.mem_reverse]
    rcases List.mem_cons.1 hm with rfl | hm
    · left; exact List.mem_of_getLast? b1
    · right; exact hm
theorem mid_max {l : List C} (h : Sorted l) (h3 : ¬ l.length < 3) {α β M : Int} (hv : ∀ v ∈ hullS l, α * v.1 + β * v.2 ≤ M) {p f g : C} (hf : l.head? = some f) (hg : l.getLast? = some g) (hc : ∀ e ∈ cyc (hullS l), 0 ≤ cross e.1 e.2 p) (h1 : le f p) (h2 : le p g) : α * p.1 + β * p.2 ≤ M := by
  obtain ⟨hlo, hup⟩ := chain_hull h h3
  obtain ⟨f', g', lo, up, hf', hg', hfg, e1, e2, b1, b2⟩ := chains h (by omega)
  rw [hf] at hf'; cases hf'
  rw [hg] at hg'; cases hg'
  by_cases hβ : β ≤ 0
  · have hcc := chain_is l h
    obtain ⟨e, he, h4, h5⟩ := straddle hcc.good (q := p) (t := g) (f := f) (by rw [e1]; rfl) (by rw [hcc.bot, hf]) (by rw [e1]; cases lo with | nil => simp at b1 | cons => simp) h1 h2
    obtain ⟨k1, _⟩ := good_edge hcc.good e he
    exact val_max k1 h4 h5 (hc e ((cyc_hull h (by omega) e).2 (Or.inl he))) (Or.inl hβ) (hv _ (hlo _ (mem_edg he).1)) (hv _ (hlo _ (mem_edg he).2))
  · have hu := up_is h
    obtain ⟨e, he, h4, h5⟩ := straddle hu.good (q := neg p) (t := neg f) (f := neg g) (by rw [e2]; rfl) (by rw [hu.bot, List.head?_map, List.head?_reverse, hg]; rfl) (by rw [e2]; cases up with | nil => simp at b2 | cons => simp) (fun hh => h2 (lt_neg.1 hh)) (fun hh => h1 (lt_neg.1 hh))
    obtain ⟨k1, _⟩ := good_edge hu.good e he
    rw [edg_map] at he
    obtain ⟨e', he', rfl⟩ := List.mem_map.1 he
    have r := val_max (α := -α) (β := -β) (M := M) k1 h4 h5 (by rw [cross_neg]; exact hc e' ((cyc_hull h (by omega) e').2 (Or.inr he'))) (Or.inl (by omega)) (by
      have := hv _ (hup _ (mem_edg he').1)
      simp only [neg]; rw [Int.neg_mul_neg, Int.neg_mul_neg]; exact this) (by
      have := hv _ (hup _ (mem_edg he').2)
      simp only [neg]; rw [Int.neg_mul_neg, Int.neg_mul_neg]; exact this)
    simp only [neg] at r
    rw [Int.neg_mul_neg, Int.neg_mul_neg] at r
    exact r
theorem hull_two {l : List C} (h : Sorted l) (h3 : ¬ l.length < 3) (hn : ¬ 5 ≤ (chainR l).length + (chainR l.reverse).length) : ∃ f g, l.head? = some f ∧ l.getLast? = some g ∧ lt f g ∧ hullS l = [f, g] ∧ chainR l = [g, f] ∧ chainR l.reverse = [f, g] := by
  obtain ⟨f, g, lo, up, hf, hg, hfg, e1, e2, b1, b2⟩ := chains h (by omega)
  have hgl : lt f g := by
    rcases lt_tri f g with h1 | h1 | h1
    · exact h1
    · exact absurd h1 hfg
    · exact absurd h1 (sorted_first h hf g (List.mem_of_getLast? hg))
  refine ⟨f, g, hf, hg, hgl, ?_⟩
  rw [e1, e2] at hn
  unfold hullS
  rw [if_neg h3, e1, e2]
  match lo, up, b1, b2, hn with
  | [x], [y], b1, b2, _ => simp at b1 b2; subst b1; subst b2; exact ⟨rfl, rfl, rfl⟩
  | [], _, b1, _, _ => simp at b1
  | _, [], _, b2, _ => simp at b2
  | _ :: _ :: _, _ :: _, _, _, hn => simp at hn; omega
  | [_], _ :: _ :: _, _, _, hn => simp at hn; omega
theorem hull_len {l : List C} (h3 : ¬ l.length < 3) : (hullS l).length + 2 = (chainR l).length - 1 + ((chainR l.reverse).length - 1) + 2 := by
  unfold hullS; rw [if_neg h3]; simp
theorem chain_len2 {l : List C} (h : Sorted l) (h2 : 2 ≤ l.length) : 2 ≤ (chainR l).length ∧ 2 ≤ (chainR l.reverse).length := by
  obtain ⟨f, g, lo, up, hf, hg, hfg, e1, e2, b1, b2⟩ := chains h h2
  rw [e1, e2]
  constructor
  · cases lo with | nil => simp at b1 | cons => simp
  · cases up with | nil => simp at b2 | cons => simp
theorem in_max {l : List C} (h : Sorted l) {α β M : Int} (hv : ∀ v ∈ hullS l, α * v.1 + β * v.2 ≤ M) {p : C} (hp : InR (hullS l) p) : α * p.1 + β * p.2 ≤ M := by
  obtain ⟨hc, hb⟩ := hp
  have seg : ∀ f g, lt f g → hullS l = [f, g] → α * p.1 + β * p.2 ≤ M := by
    intro f g hfg e
    rw [e] at hc hb hv
    have c1 := hc (f, g) (by simp [cyc, steps])
    have c2 := hc (g, f) (by simp [cyc, steps])
    simp only at c1 c2
    rw [cross_swap2] at c2
    obtain ⟨a, b, ha, hb', hbox⟩ : ∃ a b, [f, g].head? = some a ∧ [f, g].getLast? = some b ∧ box a b p := by simpa using hb
    simp at ha hb'; subst ha; subst hb'
    obtain ⟨k1, k2⟩ := seg_le hfg hbox (by omega)
    exact val_max hfg k1 k2 c1 (Or.inr (by omega)) (hv _ (by simp)) (hv _ (by simp))
  by_cases h3 : l.length < 3
  · have e : hullS l = l := by unfold hullS; rw [if_pos h3]
    match l, h3, h, e with
    | [], _, _, e => rw [e] at hb; simp at hb
    | [a], _, _, e =>
      rw [e] at hb hv
      obtain ⟨a', b, ha, hb', hbox⟩ : ∃ a' b, [a].head? = some a' ∧ [a].getLast? = some b ∧ box a' b p := by simpa using hb
      simp at ha hb'; subst ha; subst hb'
      unfold box at hbox
      have e1 : p.1 = a.1 := by omega
      have e2 : p.2 = a.2 := by omega
      rw [e1, e2]; exact hv a (by simp)
    | [a, b], _, h, e => exact seg a b ((List.pairwise_cons.1 h).1 b (by simp)) e
    | _ :: _ :: _ :: _, h3, _, _ => simp at h3; omega
  · by_cases hn : 5 ≤ (chainR l).length + (chainR l.reverse).length
    · obtain ⟨f, g, lo, up, hf, hg, _⟩ := chains h (by omega)
      have hl : ∀ e ∈ edg (chainR l), 0 ≤ cross e.1 e.2 p := fun e he => hc e ((cyc_hull h (by omega) e).2 (Or.inl he))
      have hu : ∀ e ∈ edg (chainR l.reverse), 0 ≤ cross e.1 e.2 p := fun e he => hc e ((cyc_hull h (by omega) e).2 (Or.inr he))
      exact mid_max h h3 hv hf hg hc (first_le h (by omega) hn hf hl hu) (last_le h (by omega) hn hg hl hu)
    · obtain ⟨f, g, _, _, hfg, e, _⟩ := hull_two h h3 hn
      exact seg f g hfg e
theorem hull_in {l : List C} (h : Sorted l) : ∀ q ∈ l, InR (hullS l) q := by
  intro q hq
  by_cases h3 : l.length < 3
  · have e : hullS l = l := by unfold hullS; rw [if_pos h3]
    rw [e]
    match l, h3, h, hq with
    | [], _, _, hq => simp at hq
    | [a], _, _, hq =>
      simp at hq; subst hq
      refine ⟨fun e he => ?_, Or.inr ⟨q, q, rfl, rfl, by unfold box; omega⟩⟩
      simp [cyc, steps] at he; subst he; rw [cross_self]; omega
    | [a, b], _, h, hq =>
      refine ⟨fun e he => ?_, Or.inr ⟨a, b, rfl, rfl, ?_⟩⟩
      · simp [cyc, steps] at he
        simp at hq
        rcases he with rfl | rfl <;> rcases hq with rfl | rfl <;> simp only [cross_self, cross_self2] <;> omega
      · simp at hq
        rcases hq with rfl | rfl <;> (unfold box; omega)
    | _ :: _ :: _ :: _, h3, _, _ => simp at h3; omega
  · have hl := hull_left h (by omega)
    refine ⟨fun e he => hl e he q hq, ?_⟩
    have hlen := hull_len h3
    have h22 := chain_len2 h (by omega)
    by_cases hn : 5 ≤ (chainR l).length + (chainR l.reverse).length
    · left; omega
    · right
      obtain ⟨f, g, hf, hg, hfg, e, _⟩ := hull_two h h3 hn
      refine ⟨f, g, by rw [e]; rfl, by rw [e]; rfl, ?_⟩
      have c1 := hl (f, g) (by rw [e]; simp [cyc, steps]) q hq
      have c2 := hl (g, f) (by rw [e]; simp [cyc, steps]) q hq
      simp only at c1 c2
      rw [cross_swap2] at c2
      have hlast : le q g := by
        have hs := sorted_neg h
        have := sorted_first hs (f := neg g) (by rw [List.head?_map, List.head?_reverse, hg]; rfl) (neg q) (List.mem_map.2 ⟨q, List.mem_reverse.2 hq, rfl⟩)
        intro hlt
        exact this (lt_neg.2 hlt)
      exact seg_box hfg (sorted_first h hf q hq) hlast (by omega)
end Go.Geo
