/- Contracts: what each function of the program computes, for the arguments that its theorem names; and from there the given statement. Conditions: those that each theorem states. -/
import Derived.Test.YtaedloehfgmcnaaRb
import Derived.Test.YtaedloehfgmcnaaPe
import Derived.Test.YtaedloehfgmcnaaHa
import Derived.Test.YtaedloehfgmcnaaRd
import Derived.Test.YtaedloehfgmcnaaGf
import Derived.Test.YtaedloehfgmcnaaFr
namespace Go.Proofs.Try
open Go.Psl
open Go.Geo (cross cyc InR box)
set_option maxHeartbeats 4000000 in
set_option maxRecDepth 20000 in
/-- the rounds of a loop over the sides, where a round leaves blocks under new names -/
theorem edges_runX (r : List (Int × Int)) (hl : r.length ≤ 1000000) (KS : List Nat) (XS : Nat → List Nat) (k a m : Nat) (go : Nat → Bool) (L : Nat → List (Nat × List V)) (hk : k ∈ KS) (ha : a ∈ KS) (hN : ∀ i ∈ KS, i < 1000000000) (hX : ∀ i, ∀ x ∈ XS i, x < 1048576) (hm : m ≤ r.length) (hL : ∀ i, i ≤ m → KeepX KS (XS i) (L i))
    (hrec : ∀ i, i < m → ∃ fr nt ps pa pb jmp, lk (L i) k = some [.lr fr nt ps pa pb jmp] ∧ ps.length = 2) (hbox : ∀ i, i ≤ m → lk (L i) a = some [.d (spansD r)]) (hgo : ∀ j, j + 1 < m → go j = true) (hend : m = r.length ∨ (0 < m ∧ go (m - 1) = false))
    (hY : ∀ i x y, i < m → (cyc r)[i]? = some (x, y) → Ym prog k [vsp x.1 x.2, vsp y.1 y.2] (lk (L i)) KS (.ret (vb (go i))) (lk (L (i + 1)))) :
    Cm prog 148 [.yl k, .lp a 0] (lk (L 0)) KS (.ret (.tup [])) (lk (L m)) := by
  have hNX : ∀ i, ∀ x ∈ KS ++ XS i, x < 1000000000 := fun i x hx => by
    rcases List.mem_append.1 hx with h | h
    · exact hN x h
    · have := hX i x h; omega
  refine Cm.by gok eok mixed 1000000000 func148 c148 rfl (by simp [ntmps148]) (by simp; exact ⟨hN k hk, hN a ha⟩) (HpIds.at ((hL 0 (by omega)).ids (hNX 0))) hN ⟨by simp, (hL m (Nat.le_refl _)).res⟩ fun E hs hE => ?_
  have haN := hN a ha
  have na : ∀ x, 1000000000 ≤ x → ¬ a = x := fun x _ => by omega
  have la : ∀ x, 1000000000 ≤ x → a < x := fun x _ => by omega
  have b0 := hbox 0 (by omega)
  have rk : ∀ i b, rx KS (XS i) b k = some k := fun i b => by simp [rx, hk]
  have ra : ∀ i b, rx KS (XS i) b a = some a := fun i b => by simp [rx, ha]
  simp [p148, b0]
  refine pw_loop (α := Nat) (fun i => ⟨slots [(0, .yl k), (1, .lp a 0), (5, .d (spansD r)), (6, vi r.length), (7, vi i)], lk (L i), 1000000000⟩) (fun i => i ≤ m ∧ (i = m → m = r.length)) (fun i => m - i) 0 ?_ ?_ ?_
  · omega
  · refine Weak.sameX hs (hL 0 (by omega)) rfl (hNX 0) _ ?_ ?_
    · simp [rid, hk, ha]
    · simp [hN k hk, hN a ha]
  · rintro i ⟨hi, him⟩
    simp [p148l0]
    refine cR_split (fun h => ?_) (fun h => ?_)
    · simp at h
      have him2 : i < m := by omega
      have bi := hbox i hi
      obtain ⟨x, hx⟩ : ∃ x, r[i]? = some x := ⟨_, List.getElem?_eq_getElem h⟩
      obtain ⟨n, hn⟩ : ∃ n, r.length = n := ⟨_, rfl⟩
      rw [hn] at h hl hm him hend
      obtain ⟨j, hj⟩ : ∃ j, j = (i + 1) % n := ⟨_, rfl⟩
      have hjn : j < n := by rw [hj]; exact Nat.mod_lt _ (by omega)
      obtain ⟨y, hy⟩ : ∃ y, r[j]? = some y := ⟨r[j], by simp [show j < r.length by omega]⟩
      have hcy := Go.Geo.cyc_at hx (by rw [hn]; exact hj) hy
      have hY' := hY i x y him2 hcy
      obtain ⟨fr, nt, ps, pa, pb, jmp, hr1, hr2⟩ := hrec i him2
      obtain ⟨i1, hi1⟩ : ∃ i1, i1 = i + 1 := ⟨_, rfl⟩
      have hz : IntKind.wrap .i64 ((i : Int) + 1) = (i1 : Int) := by rw [wrap64 (by omega) (by omega)]; omega
      rw [← hi1] at hj hY'
      have q1 : (0 : Int) ≤ (i1 : Int).tmod (n : Int) := Int.natCast_nonneg (i1 % n)
      have q2 : ((i1 : Int).tmod (n : Int)).toNat = j := by rw [hj]; rfl
      have hnz : ¬ (n : Int) = 0 := by omega
      have hnz' : ¬ n = 0 := by omega
      simp [hx, hz, hn, inC, Nat.testBit, splice, bi, na, la, hnz', q1, q2, hy]
      have hne : ∀ q ∈ KS ++ XS i, ¬ q = 1004194304 := fun q hq e => by have := hNX i q hq; omega
      have hbb : ∀ q ∈ KS ++ XS i, q < 1017825792 := fun q hq => by have := hNX i q hq; omega
      have hbk : ∀ q ∈ KS, q < 1017825792 := fun q hq => by have := hN q hq; omega
      refine AYield.keepX [vsp x.1 x.2, vsp y.1 y.2] (L i) (L i1) KS (XS i) (XS i1) _ hY' (hL i hi) (hL i1 (by omega)) (hX i1) ⟨fr, nt, ps, pa, pb, jmp, hr1, hr2⟩ (fun q hq => by simp [hne q hq]) (by simp) ?_
      obtain ⟨F, hF⟩ : ∃ F, F = heapM (upd (upd (lk (L i)) 1004194304 (some [V.d (D.lit (Value.int IntKind.i64 0)), V.d (D.lit (Value.int IntKind.i64 0))])) 1004194304 (some [V.d (di x.fst), V.d (di x.snd)])) 1017825792 (lk (L i)) KS (lk (L i1)) := ⟨_, rfl⟩
      have hFp : ∀ p ∈ L i1, F (sg KS 1017825792 p.1) = some (p.2.map (renC (sg KS 1017825792))) := fun p hp => by rw [hF]; exact heapX_at (hL i hi) (hL i1 (by omega)) hbb hp
      rw [← hF]
      cases hgi : go i
      · have e : i1 = m := by
          by_cases hlt : i + 1 < m
          · rw [hgo i hlt] at hgi; cases hgi
          · omega
        simp
        rw [← e]
        exact RetM.keepX rfl (hL i1 (by omega)) hbk hFp
      · simp [hz]
        refine ⟨i1, ⟨by omega, fun e => ?_⟩, by omega, ?_⟩
        · rcases hend with h1 | ⟨_, h1⟩
          · exact h1
          · rw [show m - 1 = i by omega, hgi] at h1; cases h1
        · refine Weak.keepX hs (hL i1 (by omega)) hbk hFp (hNX i1) _ ?_ ?_
          · simp [rk, ra]
          · simp [hN k hk, hN a ha]
    · simp at h
      have e : i = m := by omega
      subst e
      simp
      exact RetM.sameX rfl (hL i (Nat.le_refl _)) rfl
end Go.Proofs.Try
namespace Go.Proofs.Try
open Go.Psl
open Go.Geo (cross cyc InR box)
/-- the sides as steps -/
def stpS (r : List (Int × Int)) : List (Int × Int) := (cyc r).map fun e => subC e.1 e.2
def sidS (r : List (Int × Int)) : List (Int × Int) := if 1 < r.length then stpS r else []
def sKS : List Nat := [7340032, 6291456, 1048576]
def sXS (i : Nat) : List Nat := if i = 0 then [] else [7]
def sL (r : List (Int × Int)) (f : Nat → V) (i : Nat) : List (Nat × List V) := [(7340032, [.lr f 20 [11, 12] p109l0 p109l1 .ready]), (6291456, [.d (spansD r)]), (1048576, [hdrV ((stpS r).take i) 7])] ++ outB ((stpS r).take i) 7
theorem stp_len (r : List (Int × Int)) : (stpS r).length = r.length := by unfold stpS; rw [List.length_map, Go.Geo.cyc_len]
theorem sKeep (r : List (Int × Int)) (f : Nat → V) (i : Nat) (hi : i ≤ r.length) (hf : ∀ t, AV (· ∈ sKS) anyD (f t)) : KeepX sKS (sXS i) (sL r f i) := by
  have hl : ((stpS r).take i).length = i := by rw [List.length_take, stp_len]; omega
  by_cases h0 : i = 0
  · subst h0
    refine ⟨rfl, by simp [sKS, sXS], ?_⟩
    intro q hq
    simp only [sL, List.take_zero, hdrV_nil, outB_nil, List.append_nil, List.mem_cons, List.not_mem_nil, or_false] at hq
    rcases hq with rfl | rfl | rfl
    · exact ⟨by simp, Or.inr ⟨_, _, _, _, _, _, rfl⟩, fun c hc => by simp at hc; subst hc; exact hf⟩
    all_goals exact ⟨by simp, Or.inl rfl, fun c hc => by simp at hc; subst hc; exact rfl⟩
  · have hne : (stpS r).take i ≠ [] := fun e => by rw [e] at hl; simp at hl; omega
    have hx : sXS i = [7] := by simp [sXS, h0]
    rw [hx]
    refine ⟨by simp [sL, outB_ne hne, sKS], by simp [sKS], ?_⟩
    intro q hq
    simp only [sL, hdrV_ne hne, outB_ne hne, List.mem_append, List.mem_cons, List.not_mem_nil, or_false] at hq
    rcases hq with (rfl | rfl | rfl) | rfl
    · exact ⟨by simp, Or.inr ⟨_, _, _, _, _, _, rfl⟩, fun c hc => by simp at hc; subst hc; exact hf⟩
    · exact ⟨by simp, Or.inl rfl, fun c hc => by simp at hc; subst hc; exact rfl⟩
    · exact ⟨by simp, Or.inl rfl, fun c hc => by simp at hc; subst hc; simp [CX, W1, W0, rid, sKS]⟩
    · refine ⟨?_, cellsOk_data0, fun c hc => ?_⟩
      · simp only
        intro e
        have : (cellsI ((stpS r).take i)).length = 0 := by rw [e]; rfl
        have h2 : (spD ((stpS r).take i)).length = 0 := by simpa using this
        rw [spD_len, hl] at h2
        omega
      · obtain ⟨d, _, rfl⟩ := List.mem_map.1 hc
        exact rfl
set_option maxHeartbeats 8000000 in
set_option maxRecDepth 20000 in
theorem sid_round (r : List (Int × Int)) (f : Nat → V) (hf : ∀ t, AV (· ∈ sKS) anyD (f t)) (f3 : f 3 = .lp 1048576 0) (hl : r.length ≤ 1000000) (hb : ∀ q ∈ r, bd 1152921504606846976 q) (i : Nat) (x y : Int × Int) (hxy : (cyc r)[i]? = some (x, y)) :
    Ym prog 7340032 [vsp x.1 x.2, vsp y.1 y.2] (lk (sL r f i)) sKS (.ret (vb true)) (lk (sL r f (i + 1))) := by
  have hin := (List.getElem?_eq_some_iff.1 hxy).1
  rw [Go.Geo.cyc_len] at hin
  have hmem := Go.Geo.cyc_mem (List.mem_of_getElem? hxy)
  have hK1 := sKeep r f i (by omega) hf
  have hK2 := sKeep r f (i + 1) (by omega) hf
  have hlt : ∀ j ∈ sKS ++ sXS i, j < 10000000 := by
    intro j hj
    simp only [sKS, sXS, List.mem_append, List.mem_cons, List.not_mem_nil, or_false] at hj
    rcases hj with h | h
    · omega
    · split at h
      · simp at h
      · simp at h; omega
  have hst : (stpS r)[i]? = some (subC x y) := by unfold stpS; rw [List.getElem?_map, hxy]; rfl
  have hnx : (stpS r).take (i + 1) = (stpS r).take i ++ [subC x y] := by rw [List.take_add_one, hst]; rfl
  have hlen : ((stpS r).take i).length = i := by rw [List.length_take, stp_len]; omega
  have c := fn110 x y (hb x hmem.1) (hb y hmem.2)
  have hW : ∀ (x : Nat) s, WC (lk [(7340032, 7340032), (6291456, 6291456), (1048576, 1048576), (7, x)]) (.lr f 20 [11, 12] p109l0 p109l1 s) (.lr f 20 [11, 12] p109l0 p109l1 s) := fun x s => ⟨rfl, fun t => AV.mono (fun j hj => by simp [sKS] at hj; rcases hj with rfl | rfl | rfl <;> simp [lk]) (fun _ h => h) (hf t)⟩
  have hC : ∀ s, cellsOk [.lr f 20 [11, 12] p109l0 p109l1 s] := fun s => Or.inr ⟨_, _, _, _, _, _, rfl⟩
  have key : ∀ O : List (Int × Int), O = (stpS r).take i → Rnd prog tys eqs 7340032 f 20 [11, 12] p109l0 p109l1 [vsp x.1 x.2, vsp y.1 y.2] (lk ([(7340032, [.lr f 20 [11, 12] p109l0 p109l1 .ready]), (6291456, [.d (spansD r)]), (1048576, [hdrV O 7])] ++ outB O 7)) sKS .ready ([(7340032, [.lr f 20 [11, 12] p109l0 p109l1 .ready]), (6291456, [.d (spansD r)]), (1048576, [hdrV (O ++ [subC x y]) 7])] ++ outB (O ++ [subC x y]) 7) 10000000 → Ym prog 7340032 [vsp x.1 x.2, vsp y.1 y.2] (lk (sL r f i)) sKS (.ret (vb true)) (lk (sL r f (i + 1))) := fun O hO h => by
    refine Ym.ofX (k := 7340032) (fr := f) (nt := 20) (ps := [11, 12]) (pa := p109l0) (pb := p109l1) (args := [vsp x.1 x.2, vsp y.1 y.2]) (s := .ready) gok eok mixed 10000000 hK1 hK2 hlt (by simp [sKS]) (by simp [sL]) (by simp) (by simp) (by simp) ?_
    unfold sL
    rw [hnx, ← hO]
    exact h
  by_cases h0 : i = 0
  · refine key [] (by rw [h0]; rfl) ⟨fun E hE hs => ?_⟩
    simp only [List.nil_append]
    generalize V.lr f 20 [11, 12] p109l0 p109l1 = rc at hW hC ⊢
    simp [p109l0, frPuts, splice]
    simp [p109l1, f3, inC, Nat.testBit]
    refine ACall.mk _ _ _ (c) (by first | (simp; done) | simp [Bor_ls, Bor1_ls]) (by simp) (by first | (left; simp; done) | (right; simp; done)) ?_
    simp [splice, repl, f3]
    refine ⟨trivial, by simp, lk [(7340032, 7340032), (6291456, 6291456), (1048576, 1048576), (7, 19437184)], ?_⟩
    simp [hW, hC, sKS]
  · obtain ⟨O, hO⟩ : ∃ O, O = (stpS r).take i := ⟨_, rfl⟩
    rw [← hO] at hlen
    have hne : O ≠ [] := fun e => by rw [e] at hlen; simp at hlen; omega
    have hsl := spD_len O
    have htk : List.take (O.length * 2) (cellsI O) = cellsI O := List.take_of_length_le (by simp)
    have n1 : (O.length + 1) * 16 ≤ 140737488355328 := by omega
    have n2 : O.length + 1 ≤ 9223372036854775807 := by omega
    have fin : cellsI (O ++ [subC x y]) = (spD O).map V.d ++ [vi (subC x y).1, vi (subC x y).2] := spD_one _ O
    refine key O hO ⟨fun E hE hs => ?_⟩
    rw [hdrV_ne hne, outB_ne hne, hdrV_snoc, outB_ne (by simp), fin]
    generalize V.lr f 20 [11, 12] p109l0 p109l1 = rc at hW hC ⊢
    simp [p109l0, frPuts, splice]
    simp [p109l1, f3, inC, Nat.testBit]
    refine ACall.mk _ _ _ (c) (by first | (simp; done) | simp [Bor_ls, Bor1_ls]) (by simp) (by first | (left; simp; done) | (right; simp; done)) ?_
    simp [splice, repl, f3, hsl, htk, n1, n2]
    refine ⟨trivial, by simp, lk [(7340032, 7340032), (6291456, 6291456), (1048576, 1048576), (7, 19437184)], ?_⟩
    simp [hW, hC, sKS]
set_option maxHeartbeats 8000000 in
set_option maxRecDepth 20000 in
theorem fn109 (r : List (Int × Int)) (hl : r.length ≤ 1000000) (hb : ∀ q ∈ r, bd 1152921504606846976 q) : Ct prog 109 [.d (spansD r)] (hdrV (sidS r) 0) (outB (sidS r) 0) := by
  by_cases h1 : 1 < r.length
  case neg =>
    have e : sidS r = [] := by unfold sidS; rw [if_neg h1]
    have h1' : ¬ (1 : Int) < r.length := by omega
    rw [e, hdrV_nil, outB_nil]
    refine Ct.by gok eok mixed func109 c109 rfl (by simp [ntmps109]) (by simp) (by simp [ResIds]) fun E hE => ?_
    simp [p109, h1']
    refine RetOk.by (fun _ => none) ?_
    simp [results109]
  have e : sidS r = stpS r := by unfold sidS; rw [if_pos h1]
  have h1' : (1 : Int) < r.length := by omega
  have hne : stpS r ≠ [] := fun e => by have := stp_len r; rw [e] at this; simp at this; omega
  rw [e, hdrV_ne hne, outB_ne hne]
  refine Ct.byR gok eok mixed func109 c109 rfl (by simp [ntmps109]) (by simp) (by simp [ResIds]) fun E hE hE2 => ?_
  simp [p109, h1']
  refine ACall.mk _ _ _ (fn135 r) (by first | (simp; done) | simp [Bor_ls, Bor1_ls]) (by simp) (by first | (left; simp; done) | (right; simp; done)) ?_
  simp
  have hnt : E.nt = 20 := by rw [hE2.1]; exact ntmps109
  rw [← pw_rangeF (Γ := tys) (eqs := eqs)]
  obtain ⟨f, hf⟩ : ∃ f, f = upd (upd (upd (upd (upd (upd (upd (argF 0 [V.d (spansD r)]) 2 (V.d (D.lit (Value.slice none 0 0)))) 3 (V.lp 1048576 0)) 6 (V.d (spansD r))) 7 (V.d (D.lit (Value.int IntKind.i64 r.length)))) 8 (V.d (D.lit (Value.bool true)))) 9 (V.d (spansD r))) 10 (V.cl 148 [V.lp 6291456 0]) := ⟨_, rfl⟩
  have hfA : ∀ t, AV (· ∈ sKS) anyD (f t) := fun t => by
    rw [hf]
    simp only [upd_at]
    split
    · intro c hc; simp at hc; subst hc; exact (by simp [sKS] : (6291456 : Nat) ∈ sKS)
    · repeat (first | (split; exact trivial) | (split; exact (by simp [sKS] : (1048576 : Nat) ∈ sKS)))
      simp only [argF]
      split
      · exact trivial
      · exact fun c hc => by simp at hc
  have f3 : f 3 = .lp 1048576 0 := by rw [hf]; simp
  have f10 : f 10 = .cl 148 [.lp 6291456 0] := by rw [hf]; simp
  rw [← hf]
  have hK := fun i hi => sKeep r f i hi hfA
  have c := edges_runX r hl sKS sXS 7340032 6291456 r.length (fun _ => true) (sL r f) (by simp [sKS]) (by simp [sKS]) (by simp [sKS]) (fun i x hx => by unfold sXS at hx; split at hx <;> simp at hx; omega) (Nat.le_refl _) (fun i hi => hK i hi)
    (fun i _ => ⟨f, 20, [11, 12], p109l0, p109l1, .ready, by simp [sL], rfl⟩) (fun i _ => by simp [sL]) (fun _ _ => rfl) (Or.inl rfl) (fun i x y _ hxy => sid_round r f hfA f3 hl hb i x y hxy)
  have hK0 := hK 0 (by omega)
  have hKn := hK r.length (Nat.le_refl _)
  have ex0 : sXS 0 = [] := rfl
  have exn : sXS r.length = [7] := by unfold sXS; rw [if_neg (by omega)]
  have eL0 : sL r f 0 = (7340032, [.lr f 20 [11, 12] p109l0 p109l1 .ready]) :: [(6291456, [.d (spansD r)]), (1048576, [.d (.lit (.slice none 0 0))])] := by simp [sL]
  have etk : (stpS r).take r.length = stpS r := List.take_of_length_le (by rw [stp_len]; omega)
  have eLn : sL r f r.length = (7340032, [.lr f 20 [11, 12] p109l0 p109l1 .ready]) :: [(6291456, [.d (spansD r)]), (1048576, [.ls 7 0 (stpS r).length 2]), (7, cellsI (stpS r))] := by unfold sL; rw [etk, hdrV_ne hne, outB_ne hne]; rfl
  rw [ex0, eL0] at hK0
  rw [exn, eLn] at hKn
  rw [eL0, eLn] at c
  refine PRange.keepX [(6291456, [.d (spansD r)]), (1048576, [.d (.lit (.slice none 0 0))])] [(6291456, [.d (spansD r)]), (1048576, [.ls 7 0 (stpS r).length 2]), (7, cellsI (stpS r))] [6291456, 1048576] [] [7] (.tup []) .ready hE2.2 (g := 148) (caps := [.lp 6291456 0]) (by simp [f10]) (by rw [hnt]; exact c) (by rw [hnt]; exact hK0) (by rw [hnt]; exact hKn) (by simp) (by simp) (by simp) (by simp) fun F h1 h2 => ?_
  have F0 := h1 (1048576, _) (by simp; rfl)
  have F7 := h1 (7, _) (by simp; rfl)
  simp [sg, renC, ren1, ren0] at F0 F7
  show blkQ 0 _ .normal _
  simp [f3, F0]
  refine RetOk.by (lk [(0, 8388615)]) ?_
  simp [results109, F7]
end Go.Proofs.Try
namespace Go.Proofs.Try
open Go.Psl
open Go.Geo (cross cyc InR box)
theorem zero_cells (n : Nat) : repl n [vi 0, vi 0] = cellsI (List.replicate n ((0 : Int), (0 : Int))) := repl_spD n
set_option maxRecDepth 20000 in
theorem grow_zero : Ct prog 143 [.d (.lit (.slice none 0 0)), vi 0] (.d (.lit (.slice none 0 0))) [] := by
  have w0 : IntKind.wrap .i64 0 = 0 := by decide
  refine Ct.by gok eok mixed func143 c143 rfl (by simp [ntmps143]) (by simp) (by simp [ResIds]) fun E hE => ?_
  simp [p143, w0]
  refine RetOk.by (fun _ => none) ?_
  simp [results143]
set_option maxRecDepth 20000 in
theorem grow_some (n : Nat) (h0 : 0 < n) (hn : n ≤ 1000000) : Ct prog 143 [.d (.lit (.slice none 0 0)), vi n] (.ls 0 0 0 2) [(0, cellsI (List.replicate n (0, 0)))] := by
  have w0 : IntKind.wrap .i64 0 = 0 := by decide
  have w1 : IntKind.wrap .i64 (n : Int) = n := wrap64 (by omega) (by omega)
  have q1 : ¬ ((n : Int) < 0) := by omega
  have q2 : (0 : Int) < n := by omega
  have q3 : n * 16 ≤ 140737488355328 ∧ n ≤ 9223372036854775807 := by omega
  refine Ct.by gok eok mixed func143 c143 rfl (by simp [ntmps143]) (by simp) (by simp [ResIds]) fun E hE => ?_
  simp [p143, w0, w1, q1, q3, h0, zero_cells]
  refine RetOk.by (lk [(0, 18874368)]) ?_
  simp [results143]
def twoD (a b : List (Int × Int)) : D := .sl 1 [[spansD a], [spansD b]]
theorem cells_app (a b : List (Int × Int)) : cellsI a ++ cellsI b = cellsI (a ++ b) := by
  show (spD a).map V.d ++ (spD b).map V.d = (spD (a ++ b)).map V.d
  rw [← List.map_append]; unfold spD; rw [List.flatMap_append]
set_option maxHeartbeats 4000000 in
set_option maxRecDepth 20000 in
theorem cat_size (a b : List (Int × Int)) (ha : a.length ≤ 100000) (hb : b.length ≤ 100000) {E : Ent} (hE : ∀ i, ¬ E.stab i) {Q : AExit → St → Prop} : ∀ i : Nat, i ≤ 2 → PW prog tys eqs E p108l0
    (seqQ (fun st' => ∃ j, j ≤ 2 ∧ 2 - j < 2 - i ∧ Weak prog E st' ⟨slots [(0, .d (twoD a b)), (3, vi (if j = 0 then 0 else if j = 1 then a.length else a.length + b.length)), (9, .d (twoD a b)), (10, vi 2), (11, vi j)], lk [], 0⟩)
      (exC prog E Q 0 (fun _ : Unit => ⟨slots [(0, .d (twoD a b)), (3, vi (a.length + b.length))], lk [], 0⟩) (fun _ => True)))
    ⟨slots [(0, .d (twoD a b)), (3, vi (if i = 0 then 0 else if i = 1 then a.length else a.length + b.length)), (9, .d (twoD a b)), (10, vi 2), (11, vi i)], lk [], 0⟩ := by
  intro i hi
  unfold twoD
  match i, hi with
  | 0, _ =>
    have w1 : IntKind.wrap .i64 1 = 1 := by decide
    have w2 : IntKind.wrap .i64 (a.length : Int) = a.length := wrap64 (by omega) (by omega)
    have q : ¬ ((a.length : Int) < 0) := by omega
    simp [p108l0, w1, w2, q]
    refine ⟨1, by omega, by omega, ?_⟩
    refine Weak.mk hE (lk []) _ _ _ ?_ ?_ ?_ ?_ ?_ <;> simp
  | 1, _ =>
    have w1 : IntKind.wrap .i64 2 = 2 := by decide
    have w2 : IntKind.wrap .i64 ((a.length : Int) + b.length) = (a.length : Int) + b.length := wrap64 (by omega) (by omega)
    have q : ¬ ((a.length : Int) + b.length < 0) := by omega
    simp [p108l0, w1, w2, q]
    refine ⟨2, by omega, by omega, ?_⟩
    refine Weak.mk hE (lk []) _ _ _ ?_ ?_ ?_ ?_ ?_ <;> simp
  | 2, _ =>
    simp [p108l0]
    refine Weak.mk hE (lk []) _ _ _ ?_ ?_ ?_ ?_ ?_ <;> simp
/-- the states of the second loop -/
def catS (hdr : V) (blk : List (Nat × List V)) (a b : List (Int × Int)) : Nat → St
  | 0 => ⟨slots [(6, hdr), (25, .d (.sl 1 [[spansD a], [spansD b]])), (26, vi 2), (27, vi 0)], lk blk, 1⟩
  | 1 => ⟨slots [(6, .ls 0 0 a.length 2), (25, .d (.sl 1 [[spansD a], [spansD b]])), (26, vi 2), (27, vi 1)], lk [(0, cellsI a)], 1⟩
  | _ => ⟨slots [(6, .ls 0 0 (a.length + b.length) 2), (25, .d (.sl 1 [[spansD a], [spansD b]])), (26, vi 2), (27, vi 2)], lk [(0, cellsI (a ++ b))], 1⟩
theorem catD_ids (l : List (Int × Int)) : ResIds (.ls 0 0 l.length 2) [(0, cellsI l)] := by simp [ResIds]
set_option maxHeartbeats 8000000 in
set_option maxRecDepth 20000 in
theorem fn108 (a b : List (Int × Int)) (ha : a.length ≤ 100000) (hb : b.length ≤ 100000) : Ct prog 108 [.d (twoD a b)] (.ls 0 0 (a ++ b).length 2) [(0, cellsI (a ++ b))] := by
  have w1 : IntKind.wrap .i64 1 = 1 := by decide
  have w2 : IntKind.wrap .i64 2 = 2 := by decide
  have hfl := cells_flat b
  have hcell := cells_cell b
  have hfa := cells_flat a
  have hca := cells_cell a
  have hsl := spD_len a
  have htk : List.take (a.length * 2) (cellsI a) = cellsI a := List.take_of_length_le (by simp)
  have n1 : (a.length + b.length) * 16 ≤ 140737488355328 := by omega
  have n2 : a.length + b.length ≤ 9223372036854775807 := by omega
  have m1 : a.length * 16 ≤ 140737488355328 := by omega
  have m2 : a.length ≤ 9223372036854775807 := by omega
  refine Ct.by gok eok mixed func108 c108 rfl (by simp [ntmps108]) (by simp [twoD]) (catD_ids _) fun E hE => ?_
  rw [List.length_append]
  have e2 : twoD a b = (D.sl 1 [[spansD a], [spansD b]]) := rfl
  rw [e2]
  simp [p108]
  refine pw_loopC (α := Nat) 0 (fun _ : Unit => ⟨slots [(0, .d (twoD a b)), (3, vi (a.length + b.length))], lk [], 0⟩) (fun _ => True) (fun i => ⟨slots [(0, .d (twoD a b)), (3, vi (if i = 0 then 0 else if i = 1 then a.length else a.length + b.length)), (9, .d (twoD a b)), (10, vi 2), (11, vi i)], lk [], 0⟩) (fun i => i ≤ 2) (fun i => 2 - i) 0 ?_ ?_ ?_ fun _ _ => ?_
  · omega
  · rw [e2]
    refine Weak.mk hE (lk []) _ _ _ ?_ ?_ ?_ ?_ ?_ <;> simp
  · exact cat_size a b ha hb hE
  · by_cases h0 : a.length + b.length = 0
    · have hs0 : (a.length : Int) + b.length = 0 := by omega
      rw [hs0, e2]
      simp
      refine ACall.mk _ _ _ (grow_zero) (by first | (simp; done) | simp [Bor_ls, Bor1_ls]) (by simp) (by first | (left; simp; done) | (right; simp; done)) ?_
      simp
      refine pw_loopC (α := Nat) 2 (fun _ : Unit => ⟨slots [(6, .ls 0 0 (a.length + b.length) 2)], lk [(0, cellsI (a ++ b))], 1⟩) (fun _ => True) (catS (.d (.lit (.slice none 0 0))) [] a b) (fun i => i ≤ 2) (fun i => 2 - i) 0 ?_ ?_ ?_ fun _ _ => ?_
      · omega
      · unfold catS
        refine Weak.mk hE (lk []) _ _ _ ?_ ?_ ?_ ?_ ?_ <;> simp
      · intro i hi
        match i, hi with
        | 0, _ =>
          simp only [catS]
          simp [p108l1, hfa, m1, m2, w1]
          refine ⟨1, by omega, by omega, ?_⟩
          simp only
          refine Weak.mk hE (lk [(0, 6291457)]) _ _ _ ?_ ?_ ?_ ?_ ?_ <;> simp
        | 1, _ =>
          simp only [catS]
          simp [p108l1, w2, hfl, hsl, htk, n1, n2]
          refine ⟨2, by omega, by omega, ?_⟩
          simp only
          rw [cells_app]
          refine Weak.mk hE (lk [(0, 6291457)]) _ _ _ ?_ ?_ ?_ ?_ ?_ <;> simp
        | 2, _ =>
          simp only [catS]
          simp [p108l1]
          refine Weak.mk hE (lk [(0, 0)]) _ _ _ ?_ ?_ ?_ ?_ ?_ <;> simp
      · simp
        refine RetOk.by (lk [(0, 0)]) ?_
        simp [results108]
    · have hs0 : (a.length : Int) + b.length = ((a.length + b.length : Nat) : Int) := by omega
      rw [hs0, e2]
      simp
      refine ACall.mk _ _ _ (grow_some (a.length + b.length) (by omega) (by omega)) (by first | (simp; done) | simp [Bor_ls, Bor1_ls]) (by simp) (by first | (left; simp; done) | (right; simp; done)) ?_
      simp
      refine pw_loopC (α := Nat) 2 (fun _ : Unit => ⟨slots [(6, .ls 0 0 (a.length + b.length) 2)], lk [(0, cellsI (a ++ b))], 1⟩) (fun _ => True) (catS (.ls 0 0 0 2) [(0, cellsI (List.replicate (a.length + b.length) (0, 0)))] a b) (fun i => i ≤ 2) (fun i => 2 - i) 0 ?_ ?_ ?_ fun _ _ => ?_
      · omega
      · unfold catS
        refine Weak.mk hE (lk [(0, 1048576)]) _ _ _ ?_ ?_ ?_ ?_ ?_ <;> simp
      · intro i hi
        match i, hi with
        | 0, _ =>
          simp only [catS]
          simp [p108l1, hfa, m1, m2, w1]
          refine ⟨1, by omega, by omega, ?_⟩
          simp only
          refine Weak.mk hE (lk [(0, 6291457)]) _ _ _ ?_ ?_ ?_ ?_ ?_ <;> simp
        | 1, _ =>
          simp only [catS]
          simp [p108l1, w2, hfl, hsl, htk, n1, n2]
          refine ⟨2, by omega, by omega, ?_⟩
          simp only
          rw [cells_app]
          refine Weak.mk hE (lk [(0, 6291457)]) _ _ _ ?_ ?_ ?_ ?_ ?_ <;> simp
        | 2, _ =>
          simp only [catS]
          simp [p108l1]
          refine Weak.mk hE (lk [(0, 0)]) _ _ _ ?_ ?_ ?_ ?_ ?_ <;> simp
      · simp
        refine RetOk.by (lk [(0, 0)]) ?_
        simp [results108]
end Go.Proofs.Try
namespace Go.Proofs.Try
open Go.Psl
open Go.Geo (cross cyc InR box hullS)
def prtS (a b : List (Int × Int)) (dx dy : Int) : Bool := decide ((alongS a dx dy).2 < (alongS b dx dy).1)
set_option maxRecDepth 20000 in
theorem fn107 (a b : List (Int × Int)) (dx dy : Int) (ha : a.length ≤ 1000000000) (hb : b.length ≤ 1000000000) (hd : bd 1073741824 (dx, dy)) (ba : ∀ q ∈ a, bd 536870912 q) (bb : ∀ q ∈ b, bd 536870912 q) : Ct prog 107 [.d (spansD a), .d (spansD b), vi dx, vi dy] (vb (prtS a b dx dy)) [] := by
  refine Ct.by gok eok mixed func107 c107 rfl (by simp [ntmps107]) (by simp) (by simp [ResIds]) fun E hE => ?_
  simp [p107]
  refine ACall.mk _ _ _ (fn103 a dx dy ha hd ba) (by first | (simp; done) | simp [Bor_ls, Bor1_ls]) (by simp) (by first | (left; simp; done) | (right; simp; done)) ?_
  simp
  refine ACall.mk _ _ _ (fn103 b dx dy hb hd bb) (by first | (simp; done) | simp [Bor_ls, Bor1_ls]) (by simp) (by first | (left; simp; done) | (right; simp; done)) ?_
  simp
  refine RetOk.by (fun _ => none) ?_
  simp [results107, prtS]
def prtE (a b : List (Int × Int)) (dx dy : Int) : Int := if (regS a && regS b) = false then 14 else if strS dx dy = false then 2 else 0
def prtV (a b : List (Int × Int)) (dx dy : Int) : Bool := decide (prtE a b dx dy = 0) && prtS a b dx dy
set_option maxRecDepth 20000 in
theorem fn64 (hS : SortOk) (a b : List (Int × Int)) (dx dy : Int) (ha : a.length ≤ 1000000000) (hb : b.length ≤ 1000000000) : Ct prog 64 [.d (spansD a), .d (spansD b), vi dx, vi dy] (.tup [vb (prtV a b dx dy), vi (prtE a b dx dy)]) [] := by
  refine Ct.by gok eok mixed func64 c64 rfl (by simp [ntmps64]) (by simp) (by simp [ResIds]) fun E hE => ?_
  simp [p64, splice, repl]
  refine ACall.mk _ _ _ (fn98 hS a b ha hb) (by simp [bor_two_ls]) (by simp) (by first | (left; simp; done) | (right; simp; done)) ?_
  cases h : regS a && regS b
  · have e : prtE a b dx dy = 14 := by unfold prtE; rw [h]; rfl
    simp
    refine RetOk.by (fun _ => none) ?_
    simp [results64, prtV, e]
  · have h12 := h
    rw [Bool.and_eq_true] at h12
    simp
    refine ACall.mk _ _ _ (fn102 dx dy) (by first | (simp; done) | simp [Bor_ls, Bor1_ls]) (by simp) (by first | (left; simp; done) | (right; simp; done)) ?_
    cases hs : strS dx dy
    · have e : prtE a b dx dy = 2 := by unfold prtE; rw [h, hs]; rfl
      simp
      refine RetOk.by (fun _ => none) ?_
      simp [results64, prtV, e]
    · have e : prtE a b dx dy = 0 := by unfold prtE; rw [h, hs]; rfl
      simp
      refine ACall.mk _ _ _ (fn107 a b dx dy ha hb (strS_iff.1 hs) (fun q hq => bd_mono (regS_bd h12.1 q hq) (by omega)) (fun q hq => bd_mono (regS_bd h12.2 q hq) (by omega))) (by first | (simp; done) | simp [Bor_ls, Bor1_ls]) (by simp) (by first | (left; simp; done) | (right; simp; done)) ?_
      simp
      refine RetOk.by (fun _ => none) ?_
      simp [results64, prtV, e]
/-- the directions that are tried for a side -/
def fourS (u : Int × Int) : List (Int × Int) := [(u.2, -u.1), (-u.2, u.1), u, (-u.1, -u.2)]
set_option maxHeartbeats 4000000 in
set_option maxRecDepth 20000 in
theorem apt_dirs (a b U : List (Int × Int)) (hl : U.length ≤ 1000) (hu : ∀ u ∈ U, bd 536870912 u) {E : Ent} (hE : ∀ i, ¬ E.stab i) {Q : AExit → St → Prop} : ∀ i : Nat, i ≤ U.length → PW prog tys eqs E p66l0
    (seqQ (fun st' => ∃ j, j ≤ U.length ∧ U.length - j < U.length - i ∧ Weak prog E st' ⟨slots [(0, .d (spansD a)), (1, .d (spansD b)), (8, hdrV ((U.take j).flatMap fourS) 0), (25, .ls 1 0 U.length 2), (26, vi U.length), (27, vi j)], lk ((1, cellsI U) :: outB ((U.take j).flatMap fourS) 0), 2⟩)
      (exC prog E Q 0 (fun _ : Unit => ⟨slots [(0, .d (spansD a)), (1, .d (spansD b)), (8, hdrV (U.flatMap fourS) 0)], lk (outB (U.flatMap fourS) 0), 1⟩) (fun _ => True)))
    ⟨slots [(0, .d (spansD a)), (1, .d (spansD b)), (8, hdrV ((U.take i).flatMap fourS) 0), (25, .ls 1 0 U.length 2), (26, vi U.length), (27, vi i)], lk ((1, cellsI U) :: outB ((U.take i).flatMap fourS) 0), 2⟩ := by
  intro i hi
  have hfl : ∀ V : List (Int × Int), (V.flatMap fourS).length = 4 * V.length := fun V => by
    induction V with
    | nil => rfl
    | cons v V ih => simp [fourS] at ih ⊢; omega
  by_cases h : i < U.length
  · obtain ⟨u, hu0⟩ : ∃ u, U[i]? = some u := ⟨_, List.getElem?_eq_getElem h⟩
    have hnx : (U.take (i + 1)).flatMap fourS = (U.take i).flatMap fourS ++ fourS u := by rw [List.take_add_one, hu0]; simp [List.flatMap_append]
    have hol := hfl (U.take i)
    have hbu := hu u (List.mem_of_getElem? hu0)
    unfold bd at hbu
    have w1 : IntKind.wrap .i64 (-u.1) = -u.1 := wrap64 (by omega) (by omega)
    have w2 : IntKind.wrap .i64 (-u.2) = -u.2 := wrap64 (by omega) (by omega)
    have hz : IntKind.wrap .i64 ((i : Int) + 1) = ((i + 1 : Nat) : Int) := by rw [wrap64 (by omega) (by omega)]; omega
    obtain ⟨O, hO⟩ : ∃ O, (U.take i).flatMap fourS = O := ⟨_, rfl⟩
    rw [hO] at hnx hol ⊢
    have hOl : O.length ≤ 4000 := by rw [hol]; simp; omega
    have fin : cellsI (O ++ fourS u) = cellsI O ++ cellsI (fourS u) := (cells_app _ _).symm
    have hI : (i : Int) < U.length := by omega
    have cu := cells_at hu0
    have qu : i * 2 + 2 ≤ U.length * 2 := by omega
    have hul := spD_len U
    have f4l : (fourS u).length = 4 := rfl
    have f4 : cellsI (fourS u) = [vi u.2, vi (-u.1), vi (-u.2), vi u.1, vi u.1, vi u.2, vi (-u.1), vi (-u.2)] := rfl
    by_cases hne : O = []
    · subst hne
      simp [p66l0, hI, cu, qu, hul, repl, splice, w1, w2, hz]
      refine ⟨i + 1, by omega, by omega, ?_⟩
      rw [hnx, List.nil_append, hdrV_ne (by simp [fourS]), outB_ne (by simp [fourS]), f4, f4l]
      refine Weak.mk hE (lk [(0, 28311554), (1, 1)]) _ _ _ ?_ ?_ ?_ ?_ ?_ <;> simp
    · have hsl := spD_len O
      have htk : List.take (O.length * 2) (cellsI O) = cellsI O := List.take_of_length_le (by simp)
      have n1 : (O.length + 4) * 16 ≤ 140737488355328 := by omega
      have n2 : O.length + 4 ≤ 9223372036854775807 := by omega
      rw [hdrV_ne hne, outB_ne hne]
      simp [p66l0, hI, cu, qu, hul, repl, splice, w1, w2, hz, hsl, htk, n1, n2]
      refine ⟨i + 1, by omega, by omega, ?_⟩
      rw [hnx, hdrV_ne (by simp [hne]), outB_ne (by simp [hne]), fin, f4, List.length_append, f4l]
      refine Weak.mk hE (lk [(0, 28311554), (1, 1)]) _ _ _ ?_ ?_ ?_ ?_ ?_ <;> simp
      rintro c (⟨a, _, rfl⟩ | rfl | rfl | rfl | rfl | rfl | rfl | rfl | rfl) <;> simp
  · have e : i = U.length := by omega
    rw [e, List.take_length]
    by_cases hne : U.flatMap fourS = []
    · rw [hne]
      simp [p66l0]
      refine Weak.mk hE (lk []) _ _ _ ?_ ?_ ?_ ?_ ?_ <;> simp
    · rw [hdrV_ne hne, outB_ne hne]
      simp [p66l0]
      refine Weak.mk hE (lk [(0, 0)]) _ _ _ ?_ ?_ ?_ ?_ ?_ <;> simp
/-- the first direction that parts -/
def findP (a b : List (Int × Int)) (l : List (Int × Int)) : Option (Int × Int) := l.find? fun d => prtS a b d.1 d.2
set_option maxHeartbeats 4000000 in
set_option maxRecDepth 20000 in
theorem apt_find (a b L : List (Int × Int)) (res : Int × Int × Int) (hl : L.length ≤ 10000) (hL : ∀ d ∈ L, bd 1073741824 d) (ha : a.length ≤ 1000000000) (hb : b.length ≤ 1000000000) (ba : ∀ q ∈ a, bd 536870912 q) (bb : ∀ q ∈ b, bd 536870912 q) (hres : res = match findP a b L with | some d => (d.1, d.2, 0) | none => (0, 0, 6)) {E : Ent} (hE : ∀ i, ¬ E.stab i) {Q : AExit → St → Prop} (hQ : ∀ st, RetM tys f66 [] (.tup [vi res.1, vi res.2.1, vi res.2.2]) [] st → Q .ret st) : ∀ i : Nat, (i ≤ L.length ∧ findP a b (L.take i) = none) → PW prog tys eqs E p66l1
    (seqQ (fun st' => ∃ j, (j ≤ L.length ∧ findP a b (L.take j) = none) ∧ L.length - j < L.length - i ∧ Weak prog E st' ⟨slots [(0, .d (spansD a)), (1, .d (spansD b)), (65, .ls 0 0 L.length 2), (66, vi L.length), (67, vi j)], lk [(0, cellsI L)], 1⟩)
      (exC prog E Q 2 (fun _ : Unit => ⟨slots [], lk [], 0⟩) (fun _ => res = (0, 0, 6))))
    ⟨slots [(0, .d (spansD a)), (1, .d (spansD b)), (65, .ls 0 0 L.length 2), (66, vi L.length), (67, vi i)], lk [(0, cellsI L)], 1⟩ := by
  rintro i ⟨hi, hf⟩
  by_cases h : i < L.length
  · obtain ⟨d, hd⟩ : ∃ d, L[i]? = some d := ⟨_, List.getElem?_eq_getElem h⟩
    have hz : IntKind.wrap .i64 ((i : Int) + 1) = ((i + 1 : Nat) : Int) := by rw [wrap64 (by omega) (by omega)]; omega
    have cd := cells_at hd
    have q1 : i * 2 + 2 ≤ L.length * 2 := by omega
    have hsl := spD_len L
    have hnx : findP a b (L.take (i + 1)) = if prtS a b d.1 d.2 then some d else none := by
      unfold findP at hf ⊢
      rw [List.take_add_one, hd, List.find?_append, hf]
      simp
      try (cases prtS a b d.1 d.2 <;> rfl)
    have c := fn107 a b d.1 d.2 ha hb (hL d (List.mem_of_getElem? hd)) ba bb
    have hiI : (i : Int) < L.length := by omega
    simp [p66l1, hiI, cd, q1, hsl, splice]
    refine ACall.mk _ _ _ (c) (by first | (simp; done) | simp [Bor_ls, Bor1_ls]) (by simp) (by first | (left; simp; done) | (right; simp; done)) ?_
    cases hp : prtS a b d.1 d.2
    · rw [hp] at hnx
      simp [hz]
      refine ⟨i + 1, ⟨by omega, by rw [hnx]; rfl⟩, by omega, ?_⟩
      refine Weak.mk hE (lk [(0, 0)]) _ _ _ ?_ ?_ ?_ ?_ ?_ <;> simp
    · rw [hp] at hnx
      have hfd : findP a b L = some d := by
        unfold findP at hnx ⊢
        rw [← List.take_append_drop (i + 1) L, List.find?_append, hnx]; rfl
      rw [hfd] at hres
      subst hres
      simp [inC, Nat.testBit]
      refine hQ _ ?_
      refine RetOk.by (fun _ => none) ?_
      simp [results66]
  · have e : i = L.length := by omega
    have hn : ¬ (i : Int) < L.length := by omega
    have hr : res = (0, 0, 6) := by rw [e, List.take_length] at hf; rw [hres, hf]
    simp [p66l1, hn]
    refine ⟨hr, ?_⟩
    refine Weak.mk hE (lk []) _ _ _ ?_ ?_ ?_ ?_ ?_ <;> simp
theorem fz_sp {P : Program} {f : FuncId} {args : List V} {out : List (Int × Int)} (h : Ct P f args (hdrV out 0) (outB out 0)) : Ct P f args (.d (spansD out)) [] := by
  refine Cm.freeze h ?_
  have h1 := fz_spans out
  unfold Fz
  split
  · rename_i e _; rcases out_cases out with h2 | ⟨o, x, h2⟩ <;> rw [h2] at e <;> simp at e
  · exact h1
theorem fz_own {P : Program} {f : FuncId} {args : List V} {l : List (Int × Int)} (h : Ct P f args (.ls 0 0 l.length 2) [(0, cellsI l)]) : Ct P f args (.d (spansD l)) [] := by
  refine Cm.freeze h ?_
  have h1 : Bor (lk [(0, cellsI l)]) (.ls 0 0 l.length 2) (.d (spansD l)) := bor_own (by simp)
  exact h1
def candS (a b : List (Int × Int)) : List (Int × Int) := (sidS a ++ sidS b).flatMap fourS ++ [subC (a.headD (0, 0)) (b.headD (0, 0))]
/-- a direction that parts, or the error -/
def apartS (a b : List (Int × Int)) : Int × Int × Int := if regS a && regS b then (match findP a b (candS a b) with | some d => (d.1, d.2, 0) | none => (0, 0, 6)) else (0, 0, 14)
theorem sid_bd {r : List (Int × Int)} (h : ∀ q ∈ r, bd 268435456 q) : ∀ u ∈ sidS r, bd 536870912 u := fun u hu => by
  unfold sidS at hu
  split at hu
  · unfold stpS at hu
    obtain ⟨e, he, rfl⟩ := List.mem_map.1 hu
    have := Go.Geo.cyc_mem he
    exact bd_sub (h _ this.1) (h _ this.2) rfl
  · simp at hu
theorem sid_len (r : List (Int × Int)) : (sidS r).length ≤ r.length := by
  unfold sidS; split
  · rw [stp_len]; omega
  · simp
theorem cand_bd {a b : List (Int × Int)} (ha : ∀ q ∈ a, bd 268435456 q) (hb : ∀ q ∈ b, bd 268435456 q) (na : a ≠ []) (nb : b ≠ []) : ∀ d ∈ candS a b, bd 1073741824 d := fun d hd => by
  unfold candS at hd
  rcases List.mem_append.1 hd with h | h
  · obtain ⟨u, hu, h2⟩ := List.mem_flatMap.1 h
    have hbu : bd 536870912 u := by
      rcases List.mem_append.1 hu with h3 | h3
      · exact sid_bd ha u h3
      · exact sid_bd hb u h3
    unfold bd at hbu ⊢
    simp [fourS] at h2
    rcases h2 with rfl | rfl | rfl | rfl <;> (try simp only) <;> omega
  · rw [List.mem_singleton.1 h]
    obtain ⟨x, t, rfl⟩ := List.exists_cons_of_ne_nil na
    obtain ⟨y, s, rfl⟩ := List.exists_cons_of_ne_nil nb
    exact bd_mono (bd_sub (ha x (by simp)) (hb y (by simp)) rfl) (by omega)
set_option maxHeartbeats 8000000 in
set_option maxRecDepth 20000 in
theorem fn66 (hS : SortOk) (a b : List (Int × Int)) (ha : a.length ≤ 1000000000) (hb : b.length ≤ 1000000000) : Ct prog 66 [.d (spansD a), .d (spansD b)] (.tup [vi (apartS a b).1, vi (apartS a b).2.1, vi (apartS a b).2.2]) [] := by
  refine Ct.by gok eok mixed func66 c66 rfl (by simp [ntmps66]) (by simp) (by simp [ResIds]) fun E hE => ?_
  simp [p66, splice, repl]
  refine ACall.mk _ _ _ (fn98 hS a b ha hb) (by simp [bor_two_ls]) (by simp) (by first | (left; simp; done) | (right; simp; done)) ?_
  cases h : regS a && regS b
  · have e : apartS a b = (0, 0, 14) := by unfold apartS; rw [h]; rfl
    simp
    refine RetOk.by (fun _ => none) ?_
    simp [results66, e]
  have h12 := h
  rw [Bool.and_eq_true] at h12
  have ba := regS_bd h12.1
  have bb := regS_bd h12.2
  have la := regS_len h12.1
  have lb := regS_len h12.2
  have sa := sid_len a
  have sb := sid_len b
  have na := (reg_hull h12.1).2
  have nb := (reg_hull h12.2).2
  obtain ⟨res, hres⟩ : ∃ res, apartS a b = res := ⟨_, rfl⟩
  have hr2 : res = match findP a b (candS a b) with | some d => (d.1, d.2, 0) | none => (0, 0, 6) := by rw [← hres]; unfold apartS; rw [h]; rfl
  have hcb := cand_bd ba bb na nb
  rw [hres]
  simp
  refine ACall.mk _ _ _ (fz_sp (fn109 a (by omega) (fun q hq => bd_mono (ba q hq) (by omega)))) (by first | (simp; done) | simp [Bor_ls, Bor1_ls]) (by simp) (by first | (left; simp; done) | (right; simp; done)) ?_
  simp
  refine ACall.mk _ _ _ (fz_sp (fn109 b (by omega) (fun q hq => bd_mono (bb q hq) (by omega)))) (by first | (simp; done) | simp [Bor_ls, Bor1_ls]) (by simp) (by first | (left; simp; done) | (right; simp; done)) ?_
  simp [splice, repl]
  obtain ⟨U, hU⟩ : ∃ U, sidS a ++ sidS b = U := ⟨_, rfl⟩
  have hUl : U.length ≤ 128 := by rw [← hU, List.length_append]; omega
  have hUb : ∀ u ∈ U, bd 536870912 u := fun u hu => by
    rw [← hU] at hu
    rcases List.mem_append.1 hu with h3 | h3
    · exact sid_bd ba u h3
    · exact sid_bd bb u h3
  have cU := fn108 (sidS a) (sidS b) (by omega) (by omega)
  rw [hU] at cU
  refine ACall.mk _ _ _ (cU) (by simp [bor_two_ls, twoD]) (by simp) (by first | (left; simp; done) | (right; simp; done) | (right; simp; exact fun a h => spD_lit a h)) ?_
  simp
  refine pw_loopC (α := Nat) 0 (fun _ : Unit => ⟨slots [(0, .d (spansD a)), (1, .d (spansD b)), (8, hdrV (U.flatMap fourS) 0)], lk (outB (U.flatMap fourS) 0), 1⟩) (fun _ => True) (fun j => ⟨slots [(0, .d (spansD a)), (1, .d (spansD b)), (8, hdrV ((U.take j).flatMap fourS) 0), (25, .ls 1 0 U.length 2), (26, vi U.length), (27, vi j)], lk ((1, cellsI U) :: outB ((U.take j).flatMap fourS) 0), 2⟩) (fun j => j ≤ U.length) (fun j => U.length - j) 0 ?_ ?_ ?_ fun _ _ => ?_
  · simp
  · refine Weak.mk hE (lk [(1, 16777216)]) _ _ _ ?_ ?_ ?_ ?_ ?_ <;> simp
  · exact apt_dirs a b U (by omega) hUb hE
  · obtain ⟨x, ta, ea⟩ := List.exists_cons_of_ne_nil na
    obtain ⟨y, tb, eb⟩ := List.exists_cons_of_ne_nil nb
    have hx : a[0]? = some x := by rw [ea]; rfl
    have hy : b[0]? = some y := by rw [eb]; rfl
    have bx := ba x (by rw [ea]; simp)
    have by' := bb y (by rw [eb]; simp)
    have hq0 : (0 : Int) < a.length ∧ (0 : Int) < b.length := by omega
    have cs := fn110 x y (bd_mono bx (by omega)) (bd_mono by' (by omega))
    have hcd : candS a b = U.flatMap fourS ++ [subC x y] := by unfold candS; rw [hU, ea, eb]; rfl
    rw [hcd] at hr2 hcb
    have hfl : (U.flatMap fourS).length = 4 * U.length := by
      clear hr2 hcb hcd hUb hUl cU hU
      induction U with
      | nil => rfl
      | cons v V ih => simp [fourS] at ih ⊢; omega
    obtain ⟨O, hO⟩ : ∃ O, U.flatMap fourS = O := ⟨_, rfl⟩
    rw [hO] at hfl hr2 hcb ⊢
    have hOl : O.length ≤ 512 := by omega
    have fin : cellsI (O ++ [subC x y]) = (spD O).map V.d ++ [vi (subC x y).1, vi (subC x y).2] := spD_one _ O
    by_cases hne : O = []
    · subst hne
      simp [hx, hy]
      refine ACall.mk _ _ _ (cs) (by first | (simp; done) | simp [Bor_ls, Bor1_ls]) (by simp) (by first | (left; simp; done) | (right; simp; done)) ?_
      simp [splice, repl]
      refine pw_loopC (α := Nat) 2 (fun _ : Unit => ⟨slots [], lk [], 0⟩) (fun _ => res = (0, 0, 6)) (fun i => ⟨slots [(0, .d (spansD a)), (1, .d (spansD b)), (65, .ls 0 0 [subC x y].length 2), (66, vi [subC x y].length), (67, vi i)], lk [(0, cellsI [subC x y])], 1⟩) (fun i => i ≤ [subC x y].length ∧ findP a b ([subC x y].take i) = none) (fun i => [subC x y].length - i) 0 ?_ ?_ ?_ fun _ hr => ?_
      · exact ⟨by omega, rfl⟩
      · rw [show cellsI [subC x y] = [vi (subC x y).1, vi (subC x y).2] from rfl]
        refine Weak.mk hE (lk [(0, 9437185)]) _ _ _ ?_ ?_ ?_ ?_ ?_ <;> simp
        skip
      · exact apt_find a b [subC x y] res (by simp) hcb ha hb (fun q hq => bd_mono (ba q hq) (by omega)) (fun q hq => bd_mono (bb q hq) (by omega)) hr2 hE (fun st hst => by simpa using hst)
      · subst hr
        simp
        refine RetOk.by (fun _ => none) ?_
        simp [results66]
    · have hsl := spD_len O
      have htk : List.take (O.length * 2) (cellsI O) = cellsI O := List.take_of_length_le (by simp)
      have n1 : (O.length + 1) * 16 ≤ 140737488355328 := by omega
      have n2 : O.length + 1 ≤ 9223372036854775807 := by omega
      rw [hdrV_ne hne, outB_ne hne]
      simp [hx, hy]
      refine ACall.mk _ _ _ (cs) (by first | (simp; done) | simp [Bor_ls, Bor1_ls]) (by simp) (by first | (left; simp; done) | (right; simp; done)) ?_
      simp [splice, repl, hsl, htk, n1, n2]
      refine pw_loopC (α := Nat) 2 (fun _ : Unit => ⟨slots [], lk [], 0⟩) (fun _ => res = (0, 0, 6)) (fun i => ⟨slots [(0, .d (spansD a)), (1, .d (spansD b)), (65, .ls 0 0 (O ++ [subC x y]).length 2), (66, vi (O ++ [subC x y]).length), (67, vi i)], lk [(0, cellsI (O ++ [subC x y]))], 1⟩) (fun i => i ≤ (O ++ [subC x y]).length ∧ findP a b ((O ++ [subC x y]).take i) = none) (fun i => (O ++ [subC x y]).length - i) 0 ?_ ?_ ?_ fun _ hr => ?_
      · exact ⟨by omega, rfl⟩
      · rw [fin]
        refine Weak.mk hE (lk [(0, 9437185)]) _ _ _ ?_ ?_ ?_ ?_ ?_ <;> simp
        rintro c (⟨a, _, rfl⟩ | rfl | rfl) <;> simp
      · exact apt_find a b (O ++ [subC x y]) res (by simp; omega) hcb ha hb (fun q hq => bd_mono (ba q hq) (by omega)) (fun q hq => bd_mono (bb q hq) (by omega)) hr2 hE (fun st hst => by simpa using hst)
      · subst hr
        simp
        refine RetOk.by (fun _ => none) ?_
        simp [results66]
end Go.Proofs.Try
namespace Go.Proofs.Try
open Go.Psl
open Go.Geo (cross cyc InR box hullS Parted Tried dot)
theorem dot_eq (dx dy : Int) (v : Int × Int) : dot (dx, dy) v = dotS dx dy v := rfl
theorem prt_iff {a b : List (Int × Int)} (ha : 0 < a.length) (hb : 0 < b.length) (dx dy : Int) : prtS a b dx dy = true ↔ Parted (dx, dy) a b := by
  unfold prtS
  rw [decide_eq_true_eq]
  constructor
  · intro h p hp q hq
    have h1 := (al_max (dx := dx) (dy := dy) hp).2
    have h2 := (al_max (dx := dx) (dy := dy) hq).1
    rw [dot_eq, dot_eq]; omega
  · intro h
    obtain ⟨⟨p, hp, e1⟩, _⟩ := al_at (dx := dx) (dy := dy) ha
    obtain ⟨_, q, hq, e2⟩ := al_at (dx := dx) (dy := dy) hb
    have := h p hp q hq
    rw [dot_eq, dot_eq] at this; omega
theorem no_zero {a b : List (Int × Int)} (ha : a ≠ []) (hb : b ≠ []) {d : Int × Int} (h1 : d.1 = 0) (h2 : d.2 = 0) (h : Parted d a b) : False := by
  obtain ⟨x, s, rfl⟩ := List.exists_cons_of_ne_nil ha
  obtain ⟨y, t, rfl⟩ := List.exists_cons_of_ne_nil hb
  have := h x (by simp) y (by simp)
  unfold dot at this
  rw [h1, h2] at this
  simp at this
theorem side_in {r : List (Int × Int)} {e : (Int × Int) × (Int × Int)} (he : e ∈ cyc r) : Go.Geo.sb e.2 e.1 ∈ sidS r ∨ ((Go.Geo.sb e.2 e.1).1 = 0 ∧ (Go.Geo.sb e.2 e.1).2 = 0) := by
  by_cases h : 1 < r.length
  · left
    unfold sidS stpS
    rw [if_pos h]
    exact List.mem_map.2 ⟨e, he, rfl⟩
  · right
    match r, h, he with
    | [], _, he => simp [cyc] at he
    | [x], _, he => simp [cyc, Go.Geo.steps] at he; subst he; simp [Go.Geo.sb]
    | _ :: _ :: _, h, _ => simp at h
/-- what is tried is a candidate -/
theorem tried_cand {a b : List (Int × Int)} (na : a ≠ []) (nb : b ≠ []) {d : Int × Int} (ht : Tried a b d) (hp : Parted d a b) : d ∈ candS a b := by
  have key : ∀ (e : (Int × Int) × (Int × Int)), (e ∈ cyc a ∨ e ∈ cyc b) → (d ∈ fourS (Go.Geo.sb e.2 e.1)) → ((Go.Geo.sb e.2 e.1).1 = 0 → (Go.Geo.sb e.2 e.1).2 = 0 → d.1 = 0 ∧ d.2 = 0) → d ∈ candS a b := fun e he hd hz => by
    have hs : Go.Geo.sb e.2 e.1 ∈ sidS a ++ sidS b ∨ ((Go.Geo.sb e.2 e.1).1 = 0 ∧ (Go.Geo.sb e.2 e.1).2 = 0) := by
      rcases he with he | he
      · exact (side_in he).imp (fun h => List.mem_append_left _ h) id
      · exact (side_in he).imp (fun h => List.mem_append_right _ h) id
    rcases hs with hs | ⟨h1, h2⟩
    · exact List.mem_append_left _ (List.mem_flatMap.2 ⟨_, hs, hd⟩)
    · obtain ⟨z1, z2⟩ := hz h1 h2
      exact (no_zero na nb z1 z2 hp).elim
  cases ht with
  | right e he => exact key e he (by simp [fourS]) (fun h1 h2 => by simp only; omega)
  | left e he => exact key e he (by simp [fourS]) (fun h1 h2 => by simp only; omega)
  | on e he => exact key e he (by simp [fourS]) (fun h1 h2 => ⟨h1, h2⟩)
  | back e he => exact key e he (by simp [fourS]) (fun h1 h2 => by simp only; omega)
  | way x y ha hb => subst ha; subst hb; unfold candS; exact List.mem_append_right _ (by simp [Go.Geo.sb, subC])
theorem reg_poly {r : List (Int × Int)} (h : regS r = true) : Go.Geo.Poly r := by
  obtain ⟨e, _⟩ := reg_hull h
  rw [e]; exact Go.Geo.poly_hull (sorted_dd r)
theorem parted_neg {d : Int × Int} {a b : List (Int × Int)} (h : Parted d a b) : Parted (-d.1, -d.2) b a := fun p hp q hq => by
  have := h q hq p hp
  unfold dot at *
  have e1 : -d.1 * p.1 = -(d.1 * p.1) := Int.neg_mul _ _
  have e2 : -d.2 * p.2 = -(d.2 * p.2) := Int.neg_mul _ _
  have e3 : -d.1 * q.1 = -(d.1 * q.1) := Int.neg_mul _ _
  have e4 : -d.2 * q.2 = -(d.2 * q.2) := Int.neg_mul _ _
  simp only
  omega
/-- Apart says none just if no direction parts -/
theorem find_none {a b : List (Int × Int)} (ha : regS a = true) (hb : regS b = true) : findP a b (candS a b) = none ↔ ∀ d, ¬ Parted d a b := by
  have la := regS_len ha
  have lb := regS_len hb
  have na := (reg_hull ha).2
  have nb := (reg_hull hb).2
  unfold findP
  rw [List.find?_eq_none]
  constructor
  · intro h d hd
    obtain ⟨d', ht, hp⟩ := Go.Geo.tried_all na nb (reg_poly ha) (reg_poly hb) hd
    have := h d' (tried_cand na nb ht hp)
    exact this ((prt_iff (by omega) (by omega) d'.1 d'.2).2 hp)
  · intro h d _ hp
    exact h d ((prt_iff (by omega) (by omega) d.1 d.2).1 (by simpa using hp))
theorem find_some {a b : List (Int × Int)} {d : Int × Int} (h : findP a b (candS a b) = some d) : prtS a b d.1 d.2 = true ∧ d ∈ candS a b := by
  unfold findP at h
  exact ⟨by have := List.find?_some h; simpa using this, List.mem_of_find?_eq_some h⟩
theorem apart_sym {a b : List (Int × Int)} (ha : regS a = true) (hb : regS b = true) : (apartS b a).2.2 = (apartS a b).2.2 := by
  unfold apartS
  rw [ha, hb]
  simp only [Bool.and_self, if_true]
  have h1 := find_none ha hb
  have h2 := find_none hb ha
  have h3 : (∀ d, ¬ Parted d a b) ↔ ∀ d, ¬ Parted d b a := ⟨fun h d hd => h _ (parted_neg hd), fun h d hd => h _ (parted_neg hd)⟩
  cases e1 : findP a b (candS a b) with
  | none =>
    have := h2.2 (h3.1 (h1.1 e1))
    rw [this]
  | some d =>
    cases e2 : findP b a (candS b a) with
    | none => have := h1.2 (h3.2 (h2.1 e2)); rw [this] at e1; cases e1
    | some d' => rfl
theorem al_neg {l : List (Int × Int)} (h : 0 < l.length) (dx dy : Int) : (alongS l (-dx) (-dy)).2 = -(alongS l dx dy).1 := by
  obtain ⟨⟨p, hp, e1⟩, _⟩ := al_at (dx := -dx) (dy := -dy) h
  obtain ⟨_, q, hq, e2⟩ := al_at (dx := dx) (dy := dy) h
  have h1 := (al_max (dx := -dx) (dy := -dy) hq).2
  have h2 := (al_max (dx := dx) (dy := dy) hp).1
  have k : ∀ v : Int × Int, dotS (-dx) (-dy) v = - dotS dx dy v := fun v => by
    unfold dotS
    rw [Int.neg_mul, Int.neg_mul]; omega
  rw [k] at e1 h1
  omega
/-- no point is in both, if a direction parts them -/
theorem not_both {a b : List (Int × Int)} (ha : regS a = true) (hb : regS b = true) {x y : Int} (h : prtS a b x y = true) (p : Int × Int) : (insS a p && insS b p) = false := by
  cases h1 : insS a p
  · rfl
  cases h2 : insS b p
  · rfl
  have k1 := (in_reach ha h1 x y).2
  have k2 := (in_reach hb h2 x y).1
  unfold prtS at h
  rw [decide_eq_true_eq] at h
  omega
end Go.Proofs.Try
