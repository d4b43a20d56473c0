/- Own lemmas and contracts of functions, used by the last text of this claim for the given statement. Conditions: those that each theorem states. -/
import Derived.Test.YtaedloehfgmcnaaSj
import Derived.Test.YtaedloehfgmcnaaSg
import Derived.Test.YtaedloehfgmcnaaSi
namespace Go.Proofs.Try
open Go.Psl
open Go.Geo (cross cyc InR box)
def stpS (r : List (Int × Int)) : List (Int × Int) := (cyc r).map fun e => subC e.1 e.2
def sidS (r : List (Int × Int)) : List (Int × Int) := if 1 < r.length then stpS r else []
def sKS : List Nat := [7340032, 6291456, 1048576]
def sXS (i : Nat) : List Nat := if i = 0 then [] else [7]
def sL (r : List (Int × Int)) (f : Nat → V) (i : Nat) : List (Nat × List V) := [(7340032, [.lr f 20 [11, 12] p109l0 p109l1 .ready]), (6291456, [.d (spansD r)]), (1048576, [hdrV ((stpS r).take i) 7])] ++ outB ((stpS r).take i) 7
theorem stp_len (r : List (Int × Int)) : (stpS r).length = r.length := by unfold stpS; rw [List.length_map, Go.Geo.cyc_len]
theorem sKeep (r : List (Int × Int)) (f : Nat → V) (i : Nat) (hi : i ≤ r.length) (hf : ∀ t, AV (· ∈ sKS) anyD (f t)) : KeepX sKS (sXS i) (sL r f i) := by
  have hl : ((stpS r).take i).length = i := by rw [List.length_take, stp_len]; omega
  by_cases h0 : i = 0
  · subst h0
    refine ⟨rfl, by simp [sKS, sXS], ?_⟩
    intro q hq
    simp only [sL, List.take_zero, hdrV_nil, outB_nil, List.append_nil, List.mem_cons, List.not_mem_nil, or_false] at hq
    rcases hq with rfl | rfl | rfl
    · exact ⟨by simp, Or.inr ⟨_, _, _, _, _, _, rfl⟩, fun c hc => by simp at hc; subst hc; exact hf⟩
    all_goals exact ⟨by simp, Or.inl rfl, fun c hc => by simp at hc; subst hc; exact rfl⟩
  · have hne : (stpS r).take i ≠ [] := fun e => by rw [e] at hl; simp at hl; omega
    have hx : sXS i = [7] := by simp [sXS, h0]
    rw [hx]
    refine ⟨by simp [sL, outB_ne hne, sKS], by simp [sKS], ?_⟩
    intro q hq
    simp only [sL, hdrV_ne hne, outB_ne hne, List.mem_append, List.mem_cons, List.not_mem_nil, or_false] at hq
    rcases hq with (rfl | rfl | rfl) | rfl
    · exact ⟨by simp, Or.inr ⟨_, _, _, _, _, _, rfl⟩, fun c hc => by simp at hc; subst hc; exact hf⟩
    · exact ⟨by simp, Or.inl rfl, fun c hc => by simp at hc; subst hc; exact rfl⟩
    · exact ⟨by simp, Or.inl rfl, fun c hc => by simp at hc; subst hc; simp [CX, W1, W0, rid, sKS]⟩
    · refine ⟨?_, cellsOk_data0, fun c hc => ?_⟩
      · simp only
        intro e
        have : (cellsI ((stpS r).take i)).length = 0 := by rw [e]; rfl
        have h2 : (spD ((stpS r).take i)).length = 0 := by simpa using this
        rw [spD_len, hl] at h2
        omega
      · obtain ⟨d, _, rfl⟩ := List.mem_map.1 hc
        exact rfl
set_option maxHeartbeats 8000000 in
set_option maxRecDepth 20000 in
theorem sid_round (r : List (Int × Int)) (f : Nat → V) (hf : ∀ t, AV (· ∈ sKS) anyD (f t)) (f3 : f 3 = .lp 1048576 0) (hl : r.length ≤ 1000000) (hb : ∀ q ∈ r, bd 1152921504606846976 q) (i : Nat) (x y : Int × Int) (hxy : (cyc r)[i]? = some (x, y)) :
    Ym prog 7340032 [vsp x.1 x.2, vsp y.1 y.2] (lk (sL r f i)) sKS (.ret (vb true)) (lk (sL r f (i + 1))) := by
  have hin := (List.getElem?_eq_some_iff.1 hxy).1
  rw [Go.Geo.cyc_len] at hin
  have hmem := Go.Geo.cyc_mem (List.mem_of_getElem? hxy)
  have hK1 := sKeep r f i (by omega) hf
  have hK2 := sKeep r f (i + 1) (by omega) hf
  have hlt : ∀ j ∈ sKS ++ sXS i, j < 10000000 := by
    intro j hj
    simp only [sKS, sXS, List.mem_append, List.mem_cons, List.not_mem_nil, or_false] at hj
    rcases hj with h | h
    · omega
    · split at h
      · simp at h
      · simp at h; omega
  have hst : (stpS r)[i]? = some (subC x y) := by unfold stpS; rw [List.getElem?_map, hxy]; rfl
  have hnx : (stpS r).take (i + 1) = (stpS r).take i ++ [subC x y] := by rw [List.take_add_one, hst]; rfl
  have hlen : ((stpS r).take i).length = i := by rw [List.length_take, stp_len]; omega
  have c := fn110 x y (hb x hmem.1) (hb y hmem.2)
  have hW : ∀ (x : Nat) s, WC (lk [(7340032, 7340032), (6291456, 6291456), (1048576, 1048576), (7, x)]) (.lr f 20 [11, 12] p109l0 p109l1 s) (.lr f 20 [11, 12] p109l0 p109l1 s) := fun x s => ⟨rfl, fun t => AV.mono (fun j hj => by simp [sKS] at hj; rcases hj with rfl | rfl | rfl <;> simp [lk]) (fun _ h => h) (hf t)⟩
  have hC : ∀ s, cellsOk [.lr f 20 [11, 12] p109l0 p109l1 s] := fun s => Or.inr ⟨_, _, _, _, _, _, rfl⟩
  have key : ∀ O : List (Int × Int), O = (stpS r).take i → Rnd prog tys eqs 7340032 f 20 [11, 12] p109l0 p109l1 [vsp x.1 x.2, vsp y.1 y.2] (lk ([(7340032, [.lr f 20 [11, 12] p109l0 p109l1 .ready]), (6291456, [.d (spansD r)]), (1048576, [hdrV O 7])] ++ outB O 7)) sKS .ready ([(7340032, [.lr f 20 [11, 12] p109l0 p109l1 .ready]), (6291456, [.d (spansD r)]), (1048576, [hdrV (O ++ [subC x y]) 7])] ++ outB (O ++ [subC x y]) 7) 10000000 → Ym prog 7340032 [vsp x.1 x.2, vsp y.1 y.2] (lk (sL r f i)) sKS (.ret (vb true)) (lk (sL r f (i + 1))) := fun O hO h => by
    refine Ym.ofX (k := 7340032) (fr := f) (nt := 20) (ps := [11, 12]) (pa := p109l0) (pb := p109l1) (args := [vsp x.1 x.2, vsp y.1 y.2]) (s := .ready) gok eok mixed 10000000 hK1 hK2 hlt (by simp [sKS]) (by simp [sL]) (by simp) (by simp) (by simp) ?_
    unfold sL
    rw [hnx, ← hO]
    exact h
  by_cases h0 : i = 0
  · refine key [] (by rw [h0]; rfl) ⟨fun E hE hs => ?_⟩
    simp only [List.nil_append]
    generalize V.lr f 20 [11, 12] p109l0 p109l1 = rc at hW hC ⊢
    simp [p109l0, frPuts, splice]
    simp [p109l1, f3, inC, Nat.testBit]
    refine ACall.mk _ _ _ (c) (by first | (simp; done) | simp [Bor_ls, Bor1_ls]) (by simp) (by first | (left; simp; done) | (right; simp; done)) ?_
    simp [splice, repl, f3]
    refine ⟨trivial, by simp, lk [(7340032, 7340032), (6291456, 6291456), (1048576, 1048576), (7, 19437184)], ?_⟩
    simp [hW, hC, sKS]
  · obtain ⟨O, hO⟩ : ∃ O, O = (stpS r).take i := ⟨_, rfl⟩
    rw [← hO] at hlen
    have hne : O ≠ [] := fun e => by rw [e] at hlen; simp at hlen; omega
    have hsl := spD_len O
    have htk : List.take (O.length * 2) (cellsI O) = cellsI O := List.take_of_length_le (by simp)
    have n1 : (O.length + 1) * 16 ≤ 140737488355328 := by omega
    have n2 : O.length + 1 ≤ 9223372036854775807 := by omega
    have fin : cellsI (O ++ [subC x y]) = (spD O).map V.d ++ [vi (subC x y).1, vi (subC x y).2] := spD_one _ O
    refine key O hO ⟨fun E hE hs => ?_⟩
    rw [hdrV_ne hne, outB_ne hne, hdrV_snoc, outB_ne (by simp), fin]
    generalize V.lr f 20 [11, 12] p109l0 p109l1 = rc at hW hC ⊢
    simp [p109l0, frPuts, splice]
    simp [p109l1, f3, inC, Nat.testBit]
    refine ACall.mk _ _ _ (c) (by first | (simp; done) | simp [Bor_ls, Bor1_ls]) (by simp) (by first | (left; simp; done) | (right; simp; done)) ?_
    simp [splice, repl, f3, hsl, htk, n1, n2]
    refine ⟨trivial, by simp, lk [(7340032, 7340032), (6291456, 6291456), (1048576, 1048576), (7, 19437184)], ?_⟩
    simp [hW, hC, sKS]
set_option maxHeartbeats 8000000 in
set_option maxRecDepth 20000 in
theorem fn109 (r : List (Int × Int)) (hl : r.length ≤ 1000000) (hb : ∀ q ∈ r, bd 1152921504606846976 q) : Ct prog 109 [.d (spansD r)] (hdrV (sidS r) 0) (outB (sidS r) 0) := by
  by_cases h1 : 1 < r.length
  case neg =>
    have e : sidS r = [] := by unfold sidS; rw [if_neg h1]
    have h1' : ¬ (1 : Int) < r.length := by omega
    rw [e, hdrV_nil, outB_nil]
    refine Ct.by gok eok mixed func109 c109 rfl (by simp [ntmps109]) (by simp) (by simp [ResIds]) fun E hE => ?_
    simp [p109, h1']
    refine RetOk.by (fun _ => none) ?_
    simp [results109]
  have e : sidS r = stpS r := by unfold sidS; rw [if_pos h1]
  have h1' : (1 : Int) < r.length := by omega
  have hne : stpS r ≠ [] := fun e => by have := stp_len r; rw [e] at this; simp at this; omega
  rw [e, hdrV_ne hne, outB_ne hne]
  refine Ct.byR gok eok mixed func109 c109 rfl (by simp [ntmps109]) (by simp) (by simp [ResIds]) fun E hE hE2 => ?_
  simp [p109, h1']
  refine ACall.mk _ _ _ (fn135 r) (by first | (simp; done) | simp [Bor_ls, Bor1_ls]) (by simp) (by first | (left; simp; done) | (right; simp; done)) ?_
  simp
  have hnt : E.nt = 20 := by rw [hE2.1]; exact ntmps109
  rw [← pw_rangeF (Γ := tys) (eqs := eqs)]
  obtain ⟨f, hf⟩ : ∃ f, f = upd (upd (upd (upd (upd (upd (upd (argF 0 [V.d (spansD r)]) 2 (V.d (D.lit (Value.slice none 0 0)))) 3 (V.lp 1048576 0)) 6 (V.d (spansD r))) 7 (V.d (D.lit (Value.int IntKind.i64 r.length)))) 8 (V.d (D.lit (Value.bool true)))) 9 (V.d (spansD r))) 10 (V.cl 148 [V.lp 6291456 0]) := ⟨_, rfl⟩
  have hfA : ∀ t, AV (· ∈ sKS) anyD (f t) := fun t => by
    rw [hf]
    simp only [upd_at]
    split
    · intro c hc; simp at hc; subst hc; exact (by simp [sKS] : (6291456 : Nat) ∈ sKS)
    · repeat (first | (split; exact trivial) | (split; exact (by simp [sKS] : (1048576 : Nat) ∈ sKS)))
      simp only [argF]
      split
      · exact trivial
      · exact fun c hc => by simp at hc
  have f3 : f 3 = .lp 1048576 0 := by rw [hf]; simp
  have f10 : f 10 = .cl 148 [.lp 6291456 0] := by rw [hf]; simp
  rw [← hf]
  have hK := fun i hi => sKeep r f i hi hfA
  have c := edges_runX r hl sKS sXS 7340032 6291456 r.length (fun _ => true) (sL r f) (by simp [sKS]) (by simp [sKS]) (by simp [sKS]) (fun i x hx => by unfold sXS at hx; split at hx <;> simp at hx; omega) (Nat.le_refl _) (fun i hi => hK i hi)
    (fun i _ => ⟨f, 20, [11, 12], p109l0, p109l1, .ready, by simp [sL], rfl⟩) (fun i _ => by simp [sL]) (fun _ _ => rfl) (Or.inl rfl) (fun i x y _ hxy => sid_round r f hfA f3 hl hb i x y hxy)
  have hK0 := hK 0 (by omega)
  have hKn := hK r.length (Nat.le_refl _)
  have ex0 : sXS 0 = [] := rfl
  have exn : sXS r.length = [7] := by unfold sXS; rw [if_neg (by omega)]
  have eL0 : sL r f 0 = (7340032, [.lr f 20 [11, 12] p109l0 p109l1 .ready]) :: [(6291456, [.d (spansD r)]), (1048576, [.d (.lit (.slice none 0 0))])] := by simp [sL]
  have etk : (stpS r).take r.length = stpS r := List.take_of_length_le (by rw [stp_len]; omega)
  have eLn : sL r f r.length = (7340032, [.lr f 20 [11, 12] p109l0 p109l1 .ready]) :: [(6291456, [.d (spansD r)]), (1048576, [.ls 7 0 (stpS r).length 2]), (7, cellsI (stpS r))] := by unfold sL; rw [etk, hdrV_ne hne, outB_ne hne]; rfl
  rw [ex0, eL0] at hK0
  rw [exn, eLn] at hKn
  rw [eL0, eLn] at c
  refine PRange.keepX [(6291456, [.d (spansD r)]), (1048576, [.d (.lit (.slice none 0 0))])] [(6291456, [.d (spansD r)]), (1048576, [.ls 7 0 (stpS r).length 2]), (7, cellsI (stpS r))] [6291456, 1048576] [] [7] (.tup []) .ready hE2.2 (g := 148) (caps := [.lp 6291456 0]) (by simp [f10]) (by rw [hnt]; exact c) (by rw [hnt]; exact hK0) (by rw [hnt]; exact hKn) (by simp) (by simp) (by simp) (by simp) fun F h1 h2 => ?_
  have F0 := h1 (1048576, _) (by simp; rfl)
  have F7 := h1 (7, _) (by simp; rfl)
  simp [sg, renC, ren1, ren0] at F0 F7
  show blkQ 0 _ .normal _
  simp [f3, F0]
  refine RetOk.by (lk [(0, 8388615)]) ?_
  simp [results109, F7]
end Go.Proofs.Try
namespace Go.Proofs.Try
open Go.Psl
open Go.Geo (cross cyc InR box)
def onS (u v : Int × Int) : Bool := decide (0 ≤ v.1 * u.1) && (decide (0 ≤ v.2 * u.2) && (decide (v.1 * v.1 ≤ u.1 * u.1) && decide (v.2 * v.2 ≤ u.2 * u.2)))
def badS (sm : Bool) (p : Int × Int) (e : (Int × Int) × (Int × Int)) : Bool := decide (cross e.1 e.2 p < 0) || (decide (cross e.1 e.2 p = 0) && (sm && !onS (subC e.1 e.2) (subC e.1 p)))
def sayS (sm : Bool) (p : Int × Int) (e : (Int × Int) × (Int × Int)) : Option Bool := if e.1.1 = p.1 ∧ e.1.2 = p.2 then some true else if badS sm p e then some false else none
def smS (r : List (Int × Int)) : Bool := decide ((r.length : Int) < 3)
def holS (r : List (Int × Int)) (p : Int × Int) : Bool := ((cyc r).findSome? (sayS (smS r) p)).getD (decide ((1 : Int) < r.length))
def hKS : List Nat := [5242880, 4194304, 0, 1048576, 2097152]
def hL (r : List (Int × Int)) (p : Int × Int) (f : Nat → V) (s : LSt) (v : Bool) : List (Nat × List V) := [(5242880, [.lr f 83 [12, 13] p96l0 p96l1 s]), (4194304, [.d (spansD r)]), (0, [.d (spansD r)]), (1048576, [vi p.1, vi p.2]), (2097152, [vb v])]
def hAft (r : List (Int × Int)) (p : Int × Int) (f : Nat → V) (o : Option Bool) : List (Nat × List V) := match o with | none => hL r p f .ready false | some v => hL r p f (.done .ret) v
theorem hKeep (r : List (Int × Int)) (p : Int × Int) (f : Nat → V) (s : LSt) (v : Bool) (hf : ∀ t, AV (· ∈ hKS) anyD (f t)) : KeepOk hKS (hL r p f s v) := by
  refine ⟨rfl, by decide, ?_⟩
  intro q hq
  simp only [hL, List.mem_cons, List.not_mem_nil, or_false] at hq
  have hw : WC (rid hKS) (.lr f 83 [12, 13] p96l0 p96l1 s) (.lr f 83 [12, 13] p96l0 p96l1 s) := ⟨rfl, fun t => AV.mono (fun i hi => rid_in hi) (fun _ h => h) (hf t)⟩
  rcases hq with rfl | rfl | rfl | rfl | rfl
  · exact ⟨by simp, Or.inr ⟨_, _, _, _, _, _, rfl⟩, fun c hc => by simp at hc; subst hc; exact hw⟩
  all_goals exact ⟨by simp, Or.inl rfl, fun c hc => by simp at hc; first | (subst hc; exact rfl) | (rcases hc with rfl | rfl <;> exact rfl)⟩
set_option maxHeartbeats 8000000 in
set_option maxRecDepth 20000 in
theorem hol_round (r : List (Int × Int)) (p : Int × Int) (f : Nat → V) (hf : ∀ t, AV (· ∈ hKS) anyD (f t)) (f2 : f 2 = .lp 0 0) (f3 : f 3 = .lp 1048576 0) (f4 : f 4 = .lp 2097152 0) (_ : r.length ≤ 1000000) (hp : bd 268435456 p) (a b : Int × Int) (ba : bd 268435456 a) (bb : bd 268435456 b) :
    Ym prog 5242880 [vsp a.1 a.2, vsp b.1 b.2] (lk (hL r p f .ready false)) hKS (.ret (vb (sayS (smS r) p (a, b)).isNone)) (lk (hAft r p f (sayS (smS r) p (a, b)))) := by
  have hK := fun s v => hKeep r p f s v hf
  have hlt : ∀ i ∈ hKS, i < 10000000 := by simp [hKS]
  have key : ∀ (s : LSt) (v : Bool), Rnd prog tys eqs 5242880 f 83 [12, 13] p96l0 p96l1 [vsp a.1 a.2, vsp b.1 b.2] (lk (hL r p f .ready false)) hKS s (hL r p f s v) 10000000 → Ym prog 5242880 [vsp a.1 a.2, vsp b.1 b.2] (lk (hL r p f .ready false)) hKS (.ret (.d (.lit (.bool (goesOn s))))) (lk (hL r p f s v)) := fun s v h =>
    Ym.ofR gok eok mixed 10000000 (hK .ready false) (hK s v) hlt (by simp [hL]) (by simp) (by simp) (by simp) h
  by_cases h1 : a.1 = p.1 ∧ a.2 = p.2
  · have e : sayS (smS r) p (a, b) = some true := by unfold sayS; rw [if_pos h1]
    rw [e]
    refine key (.done .ret) true ⟨fun E hE hs => ?_⟩
    have hKK := hK (.done .ret) true
    simp only [hL] at hKK ⊢
    generalize V.lr f 83 [12, 13] p96l0 p96l1 = rc at hKK ⊢
    simp [p96l0, frPuts, splice]
    simp [p96l1, h1, f3, f4, splice]
    refine ⟨trivial, RndM.keep hKK ?_ ?_⟩
    · simp
    · simp [hKS]
  · have c1 := fn110 a b (bd_mono ba (by omega)) (bd_mono bb (by omega))
    have c2 := fn110 a p (bd_mono ba (by omega)) (bd_mono hp (by omega))
    have bu : bd 536870912 (subC a b) := bd_sub ba bb rfl
    have bv : bd 536870912 (subC a p) := bd_sub ba hp rfl
    have c3 := fn131 (subC a b) (subC a p) (bd_mono bu (by omega)) (bd_mono bv (by omega))
    have ht : turnS (subC a b) (subC a p) = cross a b p := rfl
    rw [ht] at c3
    have e0 : sayS (smS r) p (a, b) = if badS (smS r) p (a, b) then some false else none := by unfold sayS; rw [if_neg h1]
    obtain ⟨u, hu⟩ : ∃ u, subC a b = u := ⟨_, rfl⟩
    obtain ⟨v, hv⟩ : ∃ v, subC a p = v := ⟨_, rfl⟩
    have eb : badS (smS r) p (a, b) = (decide (cross a b p < 0) || (decide (cross a b p = 0) && (smS r && !onS u v))) := by unfold badS; rw [hu, hv]
    rw [hu] at c1 c3 bu
    rw [hv] at c2 c3 bv
    obtain ⟨t, ht⟩ : ∃ t, cross a b p = t := ⟨_, rfl⟩
    rw [ht] at c3 eb
    have ne : ¬ (a.1 = p.1 ∧ a.2 = p.2) := h1
    have nb : (decide (a.1 = p.1) && decide (a.2 = p.2)) = false := by rw [← Bool.not_eq_true, Bool.and_eq_true, decide_eq_true_eq, decide_eq_true_eq]; exact h1
    by_cases t1 : t < 0
    · have e : sayS (smS r) p (a, b) = some false := by rw [e0, eb, decide_eq_true t1]; rfl
      rw [e]
      refine key (.done .ret) false ⟨fun E hE hs => ?_⟩
      have hKK := hK (.done .ret) false
      simp only [hL] at hKK ⊢
      generalize V.lr f 83 [12, 13] p96l0 p96l1 = rc at hKK ⊢
      simp [p96l0, frPuts, splice]
      simp [p96l1, nb, f3, inC, Nat.testBit]
      refine ACall.mk _ _ _ (c1) (by first | (simp; done) | simp [Bor_ls, Bor1_ls]) (by simp) (by first | (left; simp; done) | (right; simp; done)) ?_
      simp [f3, inC, Nat.testBit]
      refine ACall.mk _ _ _ (c2) (by first | (simp; done) | simp [Bor_ls, Bor1_ls]) (by simp) (by first | (left; simp; done) | (right; simp; done)) ?_
      simp [splice]
      refine ACall.mk _ _ _ (c3) (by first | (simp; done) | simp [Bor_ls, Bor1_ls]) (by simp) (by first | (left; simp; done) | (right; simp; done)) ?_
      simp [t1, f4, splice]
      refine ⟨trivial, RndM.keep hKK (by simp) (by simp [hKS])⟩
    by_cases t0 : t = 0
    case neg =>
      have e : sayS (smS r) p (a, b) = none := by rw [e0, eb, decide_eq_false t1, decide_eq_false t0]; rfl
      rw [e]
      refine key .ready false ⟨fun E hE hs => ?_⟩
      have hKK := hK .ready false
      simp only [hL] at hKK ⊢
      generalize V.lr f 83 [12, 13] p96l0 p96l1 = rc at hKK ⊢
      simp [p96l0, frPuts, splice]
      simp [p96l1, nb, f3, inC, Nat.testBit]
      refine ACall.mk _ _ _ (c1) (by first | (simp; done) | simp [Bor_ls, Bor1_ls]) (by simp) (by first | (left; simp; done) | (right; simp; done)) ?_
      simp [f3, inC, Nat.testBit]
      refine ACall.mk _ _ _ (c2) (by first | (simp; done) | simp [Bor_ls, Bor1_ls]) (by simp) (by first | (left; simp; done) | (right; simp; done)) ?_
      simp [splice]
      refine ACall.mk _ _ _ (c3) (by first | (simp; done) | simp [Bor_ls, Bor1_ls]) (by simp) (by first | (left; simp; done) | (right; simp; done)) ?_
      simp [t1, t0]
      refine ⟨trivial, RndM.keep hKK (by simp) (by simp [hKS])⟩
    subst t0
    by_cases sm : (r.length : Int) < 3
    case neg =>
      have e : sayS (smS r) p (a, b) = none := by rw [e0, eb]; unfold smS; rw [decide_eq_false sm]; rfl
      rw [e]
      refine key .ready false ⟨fun E hE hs => ?_⟩
      have hKK := hK .ready false
      simp only [hL] at hKK ⊢
      generalize V.lr f 83 [12, 13] p96l0 p96l1 = rc at hKK ⊢
      simp [p96l0, frPuts, splice]
      simp [p96l1, nb, f3, inC, Nat.testBit]
      refine ACall.mk _ _ _ (c1) (by first | (simp; done) | simp [Bor_ls, Bor1_ls]) (by simp) (by first | (left; simp; done) | (right; simp; done)) ?_
      simp [f3, inC, Nat.testBit]
      refine ACall.mk _ _ _ (c2) (by first | (simp; done) | simp [Bor_ls, Bor1_ls]) (by simp) (by first | (left; simp; done) | (right; simp; done)) ?_
      simp [splice]
      refine ACall.mk _ _ _ (c3) (by first | (simp; done) | simp [Bor_ls, Bor1_ls]) (by simp) (by first | (left; simp; done) | (right; simp; done)) ?_
      simp [sm, f2]
      refine ⟨trivial, RndM.keep hKK (by simp) (by simp [hKS])⟩
    have eb2 : badS (smS r) p (a, b) = !onS u v := by rw [eb]; unfold smS; rw [decide_eq_true sm]; simp
    rw [eb2] at e0
    have mb : ∀ x y : Int, (-536870912 ≤ x ∧ x ≤ 536870912) → (-536870912 ≤ y ∧ y ≤ 536870912) → IntKind.wrap .i64 (x * y) = x * y := fun x y hx hy => by
      have := mul_abs hx hy
      exact wrap64 (by omega) (by omega)
    have w1 := mb v.1 u.1 bv.1 bu.1
    have w2 := mb v.2 u.2 bv.2 bu.2
    have w3 := mb v.1 v.1 bv.1 bv.1
    have w4 := mb u.1 u.1 bu.1 bu.1
    have w5 := mb v.2 v.2 bv.2 bv.2
    have w6 := mb u.2 u.2 bu.2 bu.2
    by_cases g1 : 0 ≤ v.1 * u.1
    case neg =>
      have e : sayS (smS r) p (a, b) = some false := by rw [e0]; unfold onS; rw [decide_eq_false g1]; rfl
      rw [e]
      refine key (.done .ret) false ⟨fun E hE hs => ?_⟩
      have hKK := hK (.done .ret) false
      simp only [hL] at hKK ⊢
      generalize V.lr f 83 [12, 13] p96l0 p96l1 = rc at hKK ⊢
      simp [p96l0, frPuts, splice]
      simp [p96l1, nb, f3, inC, Nat.testBit]
      refine ACall.mk _ _ _ (c1) (by first | (simp; done) | simp [Bor_ls, Bor1_ls]) (by simp) (by first | (left; simp; done) | (right; simp; done)) ?_
      simp [f3, inC, Nat.testBit]
      refine ACall.mk _ _ _ (c2) (by first | (simp; done) | simp [Bor_ls, Bor1_ls]) (by simp) (by first | (left; simp; done) | (right; simp; done)) ?_
      simp [splice]
      refine ACall.mk _ _ _ (c3) (by first | (simp; done) | simp [Bor_ls, Bor1_ls]) (by simp) (by first | (left; simp; done) | (right; simp; done)) ?_
      simp [sm, f2, f4, w1, g1, splice]
      refine ⟨trivial, RndM.keep hKK (by simp) (by simp [hKS])⟩
    by_cases g2 : 0 ≤ v.2 * u.2
    case neg =>
      have e : sayS (smS r) p (a, b) = some false := by rw [e0]; unfold onS; rw [decide_eq_true g1, decide_eq_false g2]; rfl
      rw [e]
      refine key (.done .ret) false ⟨fun E hE hs => ?_⟩
      have hKK := hK (.done .ret) false
      simp only [hL] at hKK ⊢
      generalize V.lr f 83 [12, 13] p96l0 p96l1 = rc at hKK ⊢
      simp [p96l0, frPuts, splice]
      simp [p96l1, nb, f3, inC, Nat.testBit]
      refine ACall.mk _ _ _ (c1) (by first | (simp; done) | simp [Bor_ls, Bor1_ls]) (by simp) (by first | (left; simp; done) | (right; simp; done)) ?_
      simp [f3, inC, Nat.testBit]
      refine ACall.mk _ _ _ (c2) (by first | (simp; done) | simp [Bor_ls, Bor1_ls]) (by simp) (by first | (left; simp; done) | (right; simp; done)) ?_
      simp [splice]
      refine ACall.mk _ _ _ (c3) (by first | (simp; done) | simp [Bor_ls, Bor1_ls]) (by simp) (by first | (left; simp; done) | (right; simp; done)) ?_
      simp [sm, f2, f4, w1, w2, g1, g2, splice]
      refine ⟨trivial, RndM.keep hKK (by simp) (by simp [hKS])⟩
    by_cases g3 : v.1 * v.1 ≤ u.1 * u.1
    case neg =>
      have e : sayS (smS r) p (a, b) = some false := by rw [e0]; unfold onS; rw [decide_eq_true g1, decide_eq_true g2, decide_eq_false g3]; rfl
      rw [e]
      refine key (.done .ret) false ⟨fun E hE hs => ?_⟩
      have hKK := hK (.done .ret) false
      simp only [hL] at hKK ⊢
      generalize V.lr f 83 [12, 13] p96l0 p96l1 = rc at hKK ⊢
      simp [p96l0, frPuts, splice]
      simp [p96l1, nb, f3, inC, Nat.testBit]
      refine ACall.mk _ _ _ (c1) (by first | (simp; done) | simp [Bor_ls, Bor1_ls]) (by simp) (by first | (left; simp; done) | (right; simp; done)) ?_
      simp [f3, inC, Nat.testBit]
      refine ACall.mk _ _ _ (c2) (by first | (simp; done) | simp [Bor_ls, Bor1_ls]) (by simp) (by first | (left; simp; done) | (right; simp; done)) ?_
      simp [splice]
      refine ACall.mk _ _ _ (c3) (by first | (simp; done) | simp [Bor_ls, Bor1_ls]) (by simp) (by first | (left; simp; done) | (right; simp; done)) ?_
      simp [sm, f2, f4, w1, w2, w3, w4, g1, g2, g3, splice]
      refine ⟨trivial, RndM.keep hKK (by simp) (by simp [hKS])⟩
    by_cases g4 : v.2 * v.2 ≤ u.2 * u.2
    case neg =>
      have e : sayS (smS r) p (a, b) = some false := by rw [e0]; unfold onS; rw [decide_eq_true g1, decide_eq_true g2, decide_eq_true g3, decide_eq_false g4]; rfl
      rw [e]
      refine key (.done .ret) false ⟨fun E hE hs => ?_⟩
      have hKK := hK (.done .ret) false
      simp only [hL] at hKK ⊢
      generalize V.lr f 83 [12, 13] p96l0 p96l1 = rc at hKK ⊢
      simp [p96l0, frPuts, splice]
      simp [p96l1, nb, f3, inC, Nat.testBit]
      refine ACall.mk _ _ _ (c1) (by first | (simp; done) | simp [Bor_ls, Bor1_ls]) (by simp) (by first | (left; simp; done) | (right; simp; done)) ?_
      simp [f3, inC, Nat.testBit]
      refine ACall.mk _ _ _ (c2) (by first | (simp; done) | simp [Bor_ls, Bor1_ls]) (by simp) (by first | (left; simp; done) | (right; simp; done)) ?_
      simp [splice]
      refine ACall.mk _ _ _ (c3) (by first | (simp; done) | simp [Bor_ls, Bor1_ls]) (by simp) (by first | (left; simp; done) | (right; simp; done)) ?_
      simp [sm, f2, f4, w1, w2, w3, w4, w5, w6, g1, g2, g3, g4, splice]
      refine ⟨trivial, RndM.keep hKK (by simp) (by simp [hKS])⟩
    have e : sayS (smS r) p (a, b) = none := by rw [e0]; unfold onS; rw [decide_eq_true g1, decide_eq_true g2, decide_eq_true g3, decide_eq_true g4]; rfl
    rw [e]
    refine key .ready false ⟨fun E hE hs => ?_⟩
    have hKK := hK .ready false
    simp only [hL] at hKK ⊢
    generalize V.lr f 83 [12, 13] p96l0 p96l1 = rc at hKK ⊢
    simp [p96l0, frPuts, splice]
    simp [p96l1, nb, f3, inC, Nat.testBit]
    refine ACall.mk _ _ _ (c1) (by first | (simp; done) | simp [Bor_ls, Bor1_ls]) (by simp) (by first | (left; simp; done) | (right; simp; done)) ?_
    simp [f3, inC, Nat.testBit]
    refine ACall.mk _ _ _ (c2) (by first | (simp; done) | simp [Bor_ls, Bor1_ls]) (by simp) (by first | (left; simp; done) | (right; simp; done)) ?_
    simp [splice]
    refine ACall.mk _ _ _ (c3) (by first | (simp; done) | simp [Bor_ls, Bor1_ls]) (by simp) (by first | (left; simp; done) | (right; simp; done)) ?_
    simp [sm, f2, w1, w2, w3, w4, w5, w6, g1, g2, g3, g4]
    refine ⟨trivial, RndM.keep hKK (by simp) (by simp [hKS])⟩
end Go.Proofs.Try
namespace Go.Proofs.Try
open Go.Psl
open Go.Geo (cross cyc InR box)
theorem findSome_ix {α β : Type} {f : α → Option β} {l : List α} {v : β} (h : l.findSome? f = some v) : ∃ (j : Nat) (e : α), l[j]? = some e ∧ f e = some v ∧ ∀ (i : Nat) (e' : α), i < j → l[i]? = some e' → f e' = none := by
  obtain ⟨l1, a, l2, rfl, h1, h2⟩ := List.findSome?_eq_some_iff.1 h
  refine ⟨l1.length, a, by simp, h1, fun i e' hi he => ?_⟩
  rw [List.getElem?_append_left hi] at he
  exact h2 e' (List.mem_of_getElem? he)
set_option maxHeartbeats 8000000 in
set_option maxRecDepth 20000 in
theorem fn96 (r : List (Int × Int)) (p : Int × Int) (hl : r.length ≤ 1000000) (hr : ∀ q ∈ r, bd 268435456 q) (hp : bd 268435456 p) : Ct prog 96 [.d (spansD r), vsp p.1 p.2] (vb (holS r p)) [] := by
  refine Ct.byR gok eok mixed func96 c96 rfl (by simp [ntmps96]) (by simp) (by simp [ResIds]) fun E hE hE2 => ?_
  simp [p96]
  refine ACall.mk _ _ _ (fn135 r) (by first | (simp; done) | simp [Bor_ls, Bor1_ls]) (by simp) (by first | (left; simp; done) | (right; simp; done)) ?_
  simp
  have hnt : E.nt = 83 := by rw [hE2.1]; exact ntmps96
  rw [← pw_rangeF (Γ := tys) (eqs := eqs)]
  obtain ⟨f, hf⟩ : ∃ f, f = upd (upd (upd (upd (upd (argF 0 [V.d (spansD r), vsp p.1 p.2]) 2 (V.lp 0 0)) 3 (V.lp 1048576 0)) 4 (V.lp 2097152 0)) 10 (V.d (spansD r))) 11 (V.cl 148 [V.lp 4194304 0]) := ⟨_, rfl⟩
  have hfA : ∀ t, AV (· ∈ hKS) anyD (f t) := fun t => by
    rw [hf]
    simp only [upd_at]
    split
    · intro c hc; simp at hc; subst hc; exact (by simp [hKS] : (4194304 : Nat) ∈ hKS)
    · split
      · exact trivial
      · split
        · exact (by simp [hKS] : (2097152 : Nat) ∈ hKS)
        · split
          · exact (by simp [hKS] : (1048576 : Nat) ∈ hKS)
          · split
            · exact (by simp [hKS] : (0 : Nat) ∈ hKS)
            · simp only [argF]
              split
              · exact trivial
              · split
                · intro c hc; simp at hc; rcases hc with rfl | rfl <;> exact trivial
                · exact fun c hc => by simp at hc
  have f2 : f 2 = .lp 0 0 := by rw [hf]; simp
  have f3 : f 3 = .lp 1048576 0 := by rw [hf]; simp
  have f4 : f 4 = .lp 2097152 0 := by rw [hf]; simp
  have f11 : f 11 = .cl 148 [.lp 4194304 0] := by rw [hf]; simp
  rw [← hf]
  have hN : ∀ i ∈ hKS, i < 1000000000 := by simp [hKS]
  have hK := fun s v => hKeep r p f s v hfA
  have hcl := Go.Geo.cyc_len r
  have round : ∀ x y, (x, y) ∈ cyc r → _ := fun x y hxy => hol_round r p f hfA f2 f3 f4 hl hp x y (hr x (Go.Geo.cyc_mem hxy).1) (hr y (Go.Geo.cyc_mem hxy).2)
  have rec0 : ∀ s v, ∃ fr nt ps pa pb jmp, lk (hL r p f s v) 5242880 = some [.lr fr nt ps pa pb jmp] ∧ ps.length = 2 := fun s v => ⟨f, 83, [12, 13], p96l0, p96l1, s, by simp [hL], rfl⟩
  have box0 : ∀ s v, lk (hL r p f s v) 4194304 = some [.d (spansD r)] := fun s v => by simp [hL]
  cases hfs : (cyc r).findSome? (sayS (smS r) p) with
  | none =>
    have e : holS r p = decide ((1 : Int) < r.length) := by unfold holS; rw [hfs]; rfl
    have c := edges_run r hl hKS 5242880 4194304 r.length (fun _ => true) (fun _ => hL r p f .ready false) (by simp [hKS]) (by simp [hKS]) hN (Nat.le_refl _) (fun _ _ => hK .ready false) (fun _ _ => rec0 _ _) (fun _ _ => box0 _ _) (fun _ _ => rfl) (Or.inl rfl) (fun i x y hi hcy => by
      have h1 := round x y (List.mem_of_getElem? hcy)
      have h2 : sayS (smS r) p (x, y) = none := List.findSome?_eq_none_iff.1 hfs _ (List.mem_of_getElem? hcy)
      rw [h2] at h1; exact h1)
    refine PRange.keep (hL r p f .ready false).tail (hL r p f .ready false).tail [4194304, 0, 1048576, 2097152] (.tup []) .ready hE2.2 (g := 148) (caps := [.lp 4194304 0]) (by simp [f11]) (by rw [hnt]; exact c) (by rw [hnt]; exact hK .ready false) (by rw [hnt]; exact hK .ready false) (by simp [hL]) (by simp) ?_
    show blkQ 0 _ .normal _
    simp [hL, f2, f4]
    refine RetOk.by (fun _ => none) ?_
    simp [results96, f4, e, splice]
  | some v =>
    have e : holS r p = v := by unfold holS; rw [hfs]; rfl
    obtain ⟨j, e0, h1, h2, h3⟩ := findSome_ix hfs
    have hj := (List.getElem?_eq_some_iff.1 h1).1
    rw [hcl] at hj
    have c := edges_run r hl hKS 5242880 4194304 (j + 1) (fun i => decide (i ≠ j)) (fun i => if i ≤ j then hL r p f .ready false else hL r p f (.done .ret) v) (by simp [hKS]) (by simp [hKS]) hN (by omega)
      (fun i _ => by show KeepOk hKS (if i ≤ j then hL r p f .ready false else hL r p f (.done .ret) v); split <;> exact hK _ _)
      (fun i _ => by show ∃ fr nt ps pa pb jmp, lk (if i ≤ j then hL r p f .ready false else hL r p f (.done .ret) v) 5242880 = some [.lr fr nt ps pa pb jmp] ∧ ps.length = 2; split <;> exact rec0 _ _)
      (fun i _ => by show lk (if i ≤ j then hL r p f .ready false else hL r p f (.done .ret) v) 4194304 = _; split <;> exact box0 _ _)
      (fun i hi => decide_eq_true (by omega)) (Or.inr ⟨by omega, decide_eq_false (by omega)⟩) (fun i x y hi hcy => by
        have r1 := round x y (List.mem_of_getElem? hcy)
        by_cases hij : i = j
        · subst hij
          rw [h1] at hcy; cases hcy
          rw [h2] at r1
          simp only [Nat.le_refl, if_true, show ¬ i + 1 ≤ i by omega, if_false, ne_eq, not_true_eq_false, decide_false]
          exact r1
        · have h4 := h3 i (x, y) (by omega) hcy
          rw [h4] at r1
          simp only [show i ≤ j by omega, show i + 1 ≤ j by omega, if_true, ne_eq, hij, not_false_eq_true, decide_true]
          exact r1)
    simp only [Nat.zero_le, if_true, show ¬ j + 1 ≤ j by omega, if_false] at c
    refine PRange.keep (hL r p f .ready false).tail (hL r p f (.done .ret) v).tail [4194304, 0, 1048576, 2097152] (.tup []) (.done .ret) hE2.2 (g := 148) (caps := [.lp 4194304 0]) (by simp [f11]) (by rw [hnt]; exact c) (by rw [hnt]; exact hK .ready false) (by rw [hnt]; exact hK (.done .ret) v) (by simp [hL]) (by simp) ?_
    show blkQ 0 _ .ret _
    simp [hL]
    refine RetOk.by (fun _ => none) ?_
    simp [results96, f4, e]
end Go.Proofs.Try
namespace Go.Proofs.Try
open Go.Psl
open Go.Geo (cross cyc InR box hullS)
theorem sq_le {u v : Int} : (0 ≤ v * u ∧ v * v ≤ u * u) ↔ (min 0 u ≤ v ∧ v ≤ max 0 u) := by
  rcases Int.lt_trichotomy u 0 with hu | hu | hu
  · constructor
    · rintro ⟨h1, h2⟩
      have a : v ≤ 0 := by
        apply Int.not_lt.1; intro h
        have := Int.mul_neg_of_pos_of_neg h hu
        omega
      have b : u ≤ v := by
        apply Int.not_lt.1; intro h
        have h3 := Int.mul_pos_of_neg_of_neg (show v - u < 0 by omega) (show v + u < 0 by omega)
        have e : (v - u) * (v + u) = v * v - u * u := by grind
        omega
      omega
    · intro ⟨h1, h2⟩
      have a := Int.mul_nonneg_of_nonpos_of_nonpos (show v ≤ 0 by omega) (show u ≤ 0 by omega)
      have b := Int.mul_nonneg (show 0 ≤ v - u by omega) (show 0 ≤ -(v + u) by omega)
      have e : (v - u) * -(v + u) = u * u - v * v := by grind
      omega
  · subst hu
    constructor
    · rintro ⟨_, h2⟩
      have : v = 0 := by
        rcases Int.lt_trichotomy v 0 with h | h | h
        · have := Int.mul_pos_of_neg_of_neg h h; omega
        · exact h
        · have := Int.mul_pos h h; omega
      omega
    · rintro ⟨h1, h2⟩
      have : v = 0 := by omega
      subst this; simp
  · constructor
    · rintro ⟨h1, h2⟩
      have a : 0 ≤ v := by
        apply Int.not_lt.1; intro h
        have := Int.mul_neg_of_neg_of_pos h hu
        omega
      have b : v ≤ u := by
        apply Int.not_lt.1; intro h
        have h3 := Int.mul_pos (show 0 < v - u by omega) (show 0 < v + u by omega)
        have e : (v - u) * (v + u) = v * v - u * u := by grind
        omega
      omega
    · intro ⟨h1, h2⟩
      have a := Int.mul_nonneg (show 0 ≤ v by omega) (show 0 ≤ u by omega)
      have b := Int.mul_nonneg (show 0 ≤ u - v by omega) (show 0 ≤ u + v by omega)
      have e : (u - v) * (u + v) = u * u - v * v := by grind
      omega
theorem onS_iff {a b p : Int × Int} : onS (subC a b) (subC a p) = true ↔ box a b p := by
  unfold onS
  simp only [Bool.and_eq_true, decide_eq_true_eq]
  have h1 := @sq_le (b.1 - a.1) (p.1 - a.1)
  have h2 := @sq_le (b.2 - a.2) (p.2 - a.2)
  unfold box
  show (0 ≤ (p.1 - a.1) * (b.1 - a.1) ∧ 0 ≤ (p.2 - a.2) * (b.2 - a.2) ∧ (p.1 - a.1) * (p.1 - a.1) ≤ (b.1 - a.1) * (b.1 - a.1) ∧ (p.2 - a.2) * (p.2 - a.2) ≤ (b.2 - a.2) * (b.2 - a.2)) ↔ _
  constructor
  · rintro ⟨q1, q2, q3, q4⟩
    have := h1.1 ⟨q1, q3⟩
    have := h2.1 ⟨q2, q4⟩
    omega
  · intro h
    obtain ⟨q1, q3⟩ := h1.2 (by omega)
    obtain ⟨q2, q4⟩ := h2.2 (by omega)
    exact ⟨q1, q2, q3, q4⟩
theorem box_swap {a b p : Int × Int} : box a b p ↔ box b a p := by unfold box; omega
theorem reg_hull {r : List (Int × Int)} (h : regS r = true) : r = hullS (ddC (sortC r)) ∧ r ≠ [] := by
  unfold regS at h
  simp only [Bool.and_eq_true, decide_eq_true_eq] at h
  refine ⟨h.2.symm, fun e => ?_⟩
  rw [e] at h; simp at h
theorem hull_seg {l : List (Int × Int)} (hs : Go.Geo.Sorted l) {a b : Int × Int} (h : hullS l = [a, b]) : Go.Geo.lt a b := by
  by_cases h3 : l.length < 3
  · have e : hullS l = l := by unfold hullS; rw [if_pos h3]
    rw [h] at e
    rw [← e] at hs
    exact (List.pairwise_cons.1 hs).1 b (by simp)
  · by_cases hn : 5 ≤ (Go.Geo.chainR l).length + (Go.Geo.chainR l.reverse).length
    · have := Go.Geo.hull_len h3
      have h2 := Go.Geo.chain_len2 hs (by omega)
      rw [h] at this; simp at this; omega
    · obtain ⟨f, g, _, _, hfg, e, _⟩ := Go.Geo.hull_two hs h3 hn
      rw [h] at e; cases e; exact hfg
theorem in_one {a p : Int × Int} : InR [a] p ↔ a = p := by
  constructor
  · rintro ⟨_, h⟩
    obtain ⟨x, y, h1, h2, hb⟩ : ∃ x y, [a].head? = some x ∧ [a].getLast? = some y ∧ box x y p := by simpa using h
    simp at h1 h2; subst h1; subst h2
    unfold box at hb
    ext <;> omega
  · rintro rfl
    refine ⟨fun e he => ?_, Or.inr ⟨a, a, rfl, rfl, by unfold box; omega⟩⟩
    simp [cyc, Go.Geo.steps] at he; subst he; rw [Go.Geo.cross_self]; omega
theorem in_two {a b p : Int × Int} : InR [a, b] p ↔ cross a b p = 0 ∧ box a b p := by
  constructor
  · rintro ⟨hc, h⟩
    obtain ⟨x, y, h1, h2, hb⟩ : ∃ x y, [a, b].head? = some x ∧ [a, b].getLast? = some y ∧ box x y p := by simpa using h
    simp at h1 h2; subst h1; subst h2
    have c1 := hc (a, b) (by simp [cyc, Go.Geo.steps])
    have c2 := hc (b, a) (by simp [cyc, Go.Geo.steps])
    simp only at c1 c2
    rw [Go.Geo.cross_swap2] at c2
    exact ⟨by omega, hb⟩
  · rintro ⟨hc, hb⟩
    refine ⟨fun e he => ?_, Or.inr ⟨a, b, rfl, rfl, hb⟩⟩
    simp [cyc, Go.Geo.steps] at he
    rcases he with rfl | rfl
    · simp only; omega
    · simp only; rw [Go.Geo.cross_swap2]; omega
theorem insS_iff {r : List (Int × Int)} (h : regS r = true) (p : Int × Int) : insS r p = true ↔ InR r p := by
  obtain ⟨hr, hne⟩ := reg_hull h
  match r, hne, hr with
  | [], hne, _ => exact absurd rfl hne
  | [a], _, _ => rw [in_one]; unfold insS; simp
  | [a, b], _, hr =>
    have hlt := hull_seg (sorted_dd _) hr.symm
    rw [in_two]
    unfold insS
    simp only [Bool.and_eq_true, Bool.or_eq_true, leftL_iff]
    have e : cyc [a, b] = [(a, b), (b, a)] := rfl
    rw [e]
    simp only [List.mem_cons, List.not_mem_nil, or_false, forall_eq_or_imp, forall_eq]
    rw [Go.Geo.cross_swap2 b a p]
    have hw : (winB p.1 a.1 b.1 = true ∧ winB p.2 (min a.2 b.2) (max a.2 b.2) = true) ↔ box a b p := by
      unfold winB box Go.Geo.lt at *
      simp only [Bool.and_eq_true, decide_eq_true_eq]
      omega
    rw [hw]
    simp
    omega
  | a :: b :: c :: t, _, _ =>
    unfold insS InR
    simp [leftL_iff]
theorem holS_iff {r : List (Int × Int)} (h : regS r = true) (p : Int × Int) : holS r p = true ↔ InR r p := by
  obtain ⟨hr, hne⟩ := reg_hull h
  have hcorner : ∀ q ∈ r, InR r q := fun q hq => by
    rw [hr] at hq ⊢
    exact Go.Geo.hull_in (sorted_dd _) q (Go.Geo.hull_sub (sorted_dd _) q hq)
  match r, hne, hcorner, hr with
  | [], hne, _, _ => exact absurd rfl hne
  | [a], _, _, _ =>
    rw [in_one]
    have e : cyc [a] = [(a, a)] := rfl
    unfold holS
    rw [e]
    simp only [List.findSome?_cons, List.findSome?_nil, sayS]
    by_cases h1 : a.1 = p.1 ∧ a.2 = p.2
    · rw [if_pos h1]
      have : a = p := by ext; exact h1.1; exact h1.2
      simp [this]
    · rw [if_neg h1]
      have hb : badS (smS [a]) p (a, a) = true := by
        unfold badS
        have : onS (subC a a) (subC a p) = false := by
          rw [← Bool.not_eq_true, onS_iff]
          intro hb; unfold box at hb; exact h1 (by omega)
        rw [show cross (a, a).1 (a, a).2 p = 0 from Go.Geo.cross_self3 a p]
        simp only
        rw [this]; rfl
      rw [hb]
      simp
      intro e; exact h1 (by rw [e]; exact ⟨rfl, rfl⟩)
  | [a, b], _, hcorner, hr =>
    have e : cyc [a, b] = [(a, b), (b, a)] := rfl
    have hsm : smS [a, b] = true := rfl
    unfold holS
    rw [e, hsm]
    simp only [List.findSome?_cons, List.findSome?_nil, sayS]
    by_cases h1 : a.1 = p.1 ∧ a.2 = p.2
    · rw [if_pos h1]
      have : a = p := by ext; exact h1.1; exact h1.2
      subst this
      simp; exact hcorner a (by simp)
    rw [if_neg h1, in_two]
    have hsw := Go.Geo.cross_swap2 b a p
    rcases Int.lt_trichotomy (cross a b p) 0 with hc | hc | hc
    · have hb : badS true p (a, b) = true := by unfold badS; rw [decide_eq_true hc]; rfl
      rw [hb]; simp; intro h; omega
    · by_cases hbx : box a b p
      · have hb : badS true p (a, b) = false := by unfold badS; rw [onS_iff.2 hbx]; simp; omega
        rw [hb]
        simp only [Bool.false_eq_true, if_false]
        by_cases h2 : b.1 = p.1 ∧ b.2 = p.2
        · rw [if_pos h2]; simp [hc, hbx]
        · rw [if_neg h2]
          have hb2 : badS true p (b, a) = false := by unfold badS; rw [onS_iff.2 (box_swap.1 hbx)]; simp; omega
          rw [hb2]; simp [hc, hbx]
      · have hb : badS true p (a, b) = true := by
          unfold badS
          have : onS (subC a b) (subC a p) = false := by rw [← Bool.not_eq_true, onS_iff]; exact hbx
          simp only; rw [this, hc]; rfl
        rw [hb]; simp [hbx]
    · have hb : badS true p (a, b) = false := by unfold badS; simp; omega
      rw [hb]
      simp only [Bool.false_eq_true, if_false]
      have h2 : ¬ (b.1 = p.1 ∧ b.2 = p.2) := fun h2 => by
        have : b = p := by ext; exact h2.1; exact h2.2
        rw [this, Go.Geo.cross_self2] at hc; omega
      rw [if_neg h2]
      have hb2 : badS true p (b, a) = true := by unfold badS; rw [decide_eq_true (p := cross (b, a).1 (b, a).2 p < 0) (by simp only; omega)]; rfl
      rw [hb2]; simp; intro h; omega
  | a :: b :: c :: t, _, hcorner, hr =>
    obtain ⟨R, hR⟩ : ∃ R, a :: b :: c :: t = R := ⟨_, rfl⟩
    have hl : 2 < R.length := by rw [← hR]; simp
    rw [hR] at hcorner ⊢
    have hsm : smS R = false := by unfold smS; rw [decide_eq_false (by omega)]
    have hin : InR R p ↔ ∀ e ∈ cyc R, 0 ≤ cross e.1 e.2 p := ⟨fun h => h.1, fun h => ⟨h, Or.inl hl⟩⟩
    unfold holS
    rw [hsm]
    cases hf : (cyc R).findSome? (sayS false p) with
    | none =>
      have := List.findSome?_eq_none_iff.1 hf
      simp only [Option.getD_none, decide_eq_true_eq]
      refine ⟨fun _ => hin.2 fun e he => ?_, fun _ => by omega⟩
      have h1 := this e he
      unfold sayS at h1
      split at h1
      · cases h1
      · split at h1
        · cases h1
        · rename_i h2
          unfold badS at h2; simp at h2; exact h2
    | some v =>
      obtain ⟨l1, e, l2, h1, h2, _⟩ := List.findSome?_eq_some_iff.1 hf
      have he : e ∈ cyc R := by rw [h1]; simp
      simp only [Option.getD_some]
      unfold sayS at h2
      split at h2
      · rename_i h3
        cases h2
        have : e.1 = p := by ext; exact h3.1; exact h3.2
        simp only [true_iff]
        rw [← this]; exact hcorner _ (Go.Geo.cyc_mem he).1
      · split at h2
        · rename_i h4
          cases h2
          unfold badS at h4; simp at h4
          simp only [Bool.false_eq_true, false_iff, hin]
          intro h5
          have := h5 e he
          omega
        · cases h2
theorem hol_ins {r : List (Int × Int)} (h : regS r = true) (p : Int × Int) : holS r p = insS r p := by
  rw [Bool.eq_iff_iff, holS_iff h, insS_iff h]
end Go.Proofs.Try
namespace Go.Proofs.Try
open Go.Psl
open Go.Geo (cross cyc InR box hullS)
def inV (r : List (Int × Int)) (p : Int × Int) : Bool := regS r && (okC p && insS r p)
def regE (r : List (Int × Int)) : Int := if regS r then 0 else 14
theorem near_one (p : Int × Int) : nearC [p] = okC p := by simp [nearC]
theorem bor_pt {H : Hp} {id : Nat} {p : Int × Int} (h : H id = some [vi p.1, vi p.2]) : Bor H (.ls id 0 1 2) (.d (spansD [p])) := bor_pairs [p] h rfl
set_option maxRecDepth 20000 in
theorem fn51 (hS : SortOk) (r : List (Int × Int)) (p : Int × Int) (hr : r.length ≤ 1000000000) : Ct prog 51 [.d (spansD r), vsp p.1 p.2] (.tup [vb (inV r p), vi (regE r)]) [] := by
  refine Ct.by gok eok mixed func51 c51 rfl (by simp [ntmps51]) (by simp) (by simp [ResIds]) fun E hE => ?_
  simp [p51]
  refine ACall.mk _ _ _ (fn55 hS r hr) (by first | (simp; done) | simp [Bor_ls, Bor1_ls]) (by simp) (by first | (left; simp; done) | (right; simp; done)) ?_
  cases h1 : regS r
  · simp
    refine RetOk.by (fun _ => none) ?_
    simp [results51, inV, regE, h1]
  · have hb := regS_bd h1
    have hlen := regS_len h1
    simp [splice, repl]
    refine ACall.mk _ _ _ (fn92 [p] (by simp)) (by simp [bor_pt]) (by simp) (by first | (left; simp; done) | (right; simp; done)) ?_
    rw [near_one]
    cases h2 : okC p
    · simp
      refine RetOk.by (fun _ => none) ?_
      simp [results51, inV, regE, h1, h2]
    · simp
      refine ACall.mk _ _ _ (fn96 r p (by omega) hb (okC_iff.1 h2)) (by first | (simp; done) | simp [Bor_ls, Bor1_ls]) (by simp) (by first | (left; simp; done) | (right; simp; done)) ?_
      rw [hol_ins h1]
      simp
      refine RetOk.by (fun _ => none) ?_
      simp [results51, inV, regE, h1, h2]
end Go.Proofs.Try
namespace Go.Proofs.Try
open Go.Psl
open Go.Geo (cross cyc InR box hullS)
set_option maxHeartbeats 4000000 in
set_option maxRecDepth 20000 in
theorem fn98 (hS : SortOk) (a b : List (Int × Int)) (ha : a.length ≤ 1000000000) (hb : b.length ≤ 1000000000) : Ct prog 98 [.d (.sl 1 [[spansD a], [spansD b]])] (vi (if regS a && regS b then 0 else 14)) [] := by
  refine Ct.by gok eok mixed func98 c98 rfl (by simp [ntmps98]) (by simp) (by simp [ResIds]) fun E hE => ?_
  simp [p98]
  refine pw_loop (α := Nat) (fun i => ⟨slots [(6, .d (.sl 1 [[spansD a], [spansD b]])), (7, vi 2), (8, vi i)], lk [], 0⟩) (fun i => i ≤ 2 ∧ (0 < i → regS a = true) ∧ (1 < i → regS b = true)) (fun i => 2 - i) 0 ?_ ?_ ?_
  · omega
  · refine Weak.mk hE (lk []) _ _ _ ?_ ?_ ?_ ?_ ?_ <;> simp
  · rintro i ⟨hi, h1, h2⟩
    match i, hi, h1, h2 with
    | 0, _, _, _ =>
      simp [p98l0]
      refine ACall.mk _ _ _ (fn55 hS a ha) (by first | (simp; done) | simp [Bor_ls, Bor1_ls]) (by simp) (by first | (left; simp; done) | (right; simp; done)) ?_
      cases h3 : regS a
      · simp
        refine RetOk.by (fun _ => none) ?_
        simp [results98]
      · have w : IntKind.wrap .i64 1 = 1 := by decide
        simp [w]
        refine ⟨1, by omega, by omega, ?_⟩
        refine Weak.mk hE (lk []) _ _ _ ?_ ?_ ?_ ?_ ?_ <;> simp
    | 1, _, h1, _ =>
      have h1' := h1 (by omega)
      simp [p98l0]
      refine ACall.mk _ _ _ (fn55 hS b hb) (by first | (simp; done) | simp [Bor_ls, Bor1_ls]) (by simp) (by first | (left; simp; done) | (right; simp; done)) ?_
      cases h3 : regS b
      · simp
        refine RetOk.by (fun _ => none) ?_
        simp [results98]
      · have w : IntKind.wrap .i64 2 = 2 := by decide
        simp [w]
        refine ⟨2, ?_, by omega, ?_⟩
        · simp [h1']
        · refine Weak.mk hE (lk []) _ _ _ ?_ ?_ ?_ ?_ ?_ <;> simp
    | 2, _, h1, h2 =>
      have h1' := h1 (by omega)
      have h2' := h2 (by omega)
      simp [p98l0]
      refine RetOk.by (fun _ => none) ?_
      simp [results98, h1', h2']
    | i + 3, hi, _, _ => omega
end Go.Proofs.Try
namespace Go.Proofs.Try
open Go.Psl
open Go.Geo (cross cyc InR box hullS)
theorem bor_two_ls {H : Hp} {id : Nat} {a b : List (Int × Int)} (h : H id = some [.d (spansD a), .d (spansD b)]) : Bor H (.ls id 0 2 1) (.d (.sl 1 [[spansD a], [spansD b]])) := by
  rw [Bor_ls]
  exact ⟨rfl, rfl, fun e he => by simp at he; rcases he with rfl | rfl <;> rfl, _, h, rfl⟩
end Go.Proofs.Try
namespace Go.Proofs.Try
open Go.Psl
open Go.Geo (cross cyc InR box hullS)
theorem cells_flat (L : List (Int × Int)) : (List.map (List.map V.d ∘ fun s : Int × Int => [di s.1, di s.2]) L).flatten = cellsI L := by
  show _ = (spD L).map V.d
  unfold spD
  rw [List.map_flatMap, List.flatMap_def]; rfl
theorem cells_cell (L : List (Int × Int)) : ∀ x : V, x ∈ cellsI L → x.isCell = true := fun x hx => by
  obtain ⟨y, _, rfl⟩ := List.mem_map.1 hx; rfl
theorem bor_own {H : Hp} {id : Nat} {l : List (Int × Int)} (h : H id = some (cellsI l)) : Bor H (.ls id 0 l.length 2) (.d (spansD l)) :=
  bor_cut (z := []) (by rw [List.append_nil]; exact h)
end Go.Proofs.Try
namespace Go.Proofs.Try
open Go.Psl
open Go.Geo (cross cyc InR box)
theorem zero_cells (n : Nat) : repl n [vi 0, vi 0] = cellsI (List.replicate n ((0 : Int), (0 : Int))) := repl_spD n
set_option maxRecDepth 20000 in
theorem grow_zero : Ct prog 143 [.d (.lit (.slice none 0 0)), vi 0] (.d (.lit (.slice none 0 0))) [] := by
  have w0 : IntKind.wrap .i64 0 = 0 := by decide
  refine Ct.by gok eok mixed func143 c143 rfl (by simp [ntmps143]) (by simp) (by simp [ResIds]) fun E hE => ?_
  simp [p143, w0]
  refine RetOk.by (fun _ => none) ?_
  simp [results143]
set_option maxRecDepth 20000 in
theorem grow_some (n : Nat) (h0 : 0 < n) (hn : n ≤ 1000000) : Ct prog 143 [.d (.lit (.slice none 0 0)), vi n] (.ls 0 0 0 2) [(0, cellsI (List.replicate n (0, 0)))] := by
  have w0 : IntKind.wrap .i64 0 = 0 := by decide
  have w1 : IntKind.wrap .i64 (n : Int) = n := wrap64 (by omega) (by omega)
  have q1 : ¬ ((n : Int) < 0) := by omega
  have q2 : (0 : Int) < n := by omega
  have q3 : n * 16 ≤ 140737488355328 ∧ n ≤ 9223372036854775807 := by omega
  refine Ct.by gok eok mixed func143 c143 rfl (by simp [ntmps143]) (by simp) (by simp [ResIds]) fun E hE => ?_
  simp [p143, w0, w1, q1, q3, h0, zero_cells]
  refine RetOk.by (lk [(0, 18874368)]) ?_
  simp [results143]
def twoD (a b : List (Int × Int)) : D := .sl 1 [[spansD a], [spansD b]]
theorem cells_app (a b : List (Int × Int)) : cellsI a ++ cellsI b = cellsI (a ++ b) := by
  show (spD a).map V.d ++ (spD b).map V.d = (spD (a ++ b)).map V.d
  rw [← List.map_append]; unfold spD; rw [List.flatMap_append]
set_option maxHeartbeats 4000000 in
set_option maxRecDepth 20000 in
theorem cat_size (a b : List (Int × Int)) (ha : a.length ≤ 100000) (hb : b.length ≤ 100000) {E : Ent} (hE : ∀ i, ¬ E.stab i) {Q : AExit → St → Prop} : ∀ i : Nat, i ≤ 2 → PW prog tys eqs E p108l0
    (seqQ (fun st' => ∃ j, j ≤ 2 ∧ 2 - j < 2 - i ∧ Weak prog E st' ⟨slots [(0, .d (twoD a b)), (3, vi (if j = 0 then 0 else if j = 1 then a.length else a.length + b.length)), (9, .d (twoD a b)), (10, vi 2), (11, vi j)], lk [], 0⟩)
      (exC prog E Q 0 (fun _ : Unit => ⟨slots [(0, .d (twoD a b)), (3, vi (a.length + b.length))], lk [], 0⟩) (fun _ => True)))
    ⟨slots [(0, .d (twoD a b)), (3, vi (if i = 0 then 0 else if i = 1 then a.length else a.length + b.length)), (9, .d (twoD a b)), (10, vi 2), (11, vi i)], lk [], 0⟩ := by
  intro i hi
  unfold twoD
  match i, hi with
  | 0, _ =>
    have w1 : IntKind.wrap .i64 1 = 1 := by decide
    have w2 : IntKind.wrap .i64 (a.length : Int) = a.length := wrap64 (by omega) (by omega)
    have q : ¬ ((a.length : Int) < 0) := by omega
    simp [p108l0, w1, w2, q]
    refine ⟨1, by omega, by omega, ?_⟩
    refine Weak.mk hE (lk []) _ _ _ ?_ ?_ ?_ ?_ ?_ <;> simp
  | 1, _ =>
    have w1 : IntKind.wrap .i64 2 = 2 := by decide
    have w2 : IntKind.wrap .i64 ((a.length : Int) + b.length) = (a.length : Int) + b.length := wrap64 (by omega) (by omega)
    have q : ¬ ((a.length : Int) + b.length < 0) := by omega
    simp [p108l0, w1, w2, q]
    refine ⟨2, by omega, by omega, ?_⟩
    refine Weak.mk hE (lk []) _ _ _ ?_ ?_ ?_ ?_ ?_ <;> simp
  | 2, _ =>
    simp [p108l0]
    refine Weak.mk hE (lk []) _ _ _ ?_ ?_ ?_ ?_ ?_ <;> simp
def catS (hdr : V) (blk : List (Nat × List V)) (a b : List (Int × Int)) : Nat → St
  | 0 => ⟨slots [(6, hdr), (25, .d (.sl 1 [[spansD a], [spansD b]])), (26, vi 2), (27, vi 0)], lk blk, 1⟩
  | 1 => ⟨slots [(6, .ls 0 0 a.length 2), (25, .d (.sl 1 [[spansD a], [spansD b]])), (26, vi 2), (27, vi 1)], lk [(0, cellsI a)], 1⟩
  | _ => ⟨slots [(6, .ls 0 0 (a.length + b.length) 2), (25, .d (.sl 1 [[spansD a], [spansD b]])), (26, vi 2), (27, vi 2)], lk [(0, cellsI (a ++ b))], 1⟩
theorem catD_ids (l : List (Int × Int)) : ResIds (.ls 0 0 l.length 2) [(0, cellsI l)] := by simp [ResIds]
set_option maxHeartbeats 8000000 in
set_option maxRecDepth 20000 in
theorem fn108 (a b : List (Int × Int)) (ha : a.length ≤ 100000) (hb : b.length ≤ 100000) : Ct prog 108 [.d (twoD a b)] (.ls 0 0 (a ++ b).length 2) [(0, cellsI (a ++ b))] := by
  have w1 : IntKind.wrap .i64 1 = 1 := by decide
  have w2 : IntKind.wrap .i64 2 = 2 := by decide
  have hfl := cells_flat b
  have hcell := cells_cell b
  have hfa := cells_flat a
  have hca := cells_cell a
  have hsl := spD_len a
  have htk : List.take (a.length * 2) (cellsI a) = cellsI a := List.take_of_length_le (by simp)
  have n1 : (a.length + b.length) * 16 ≤ 140737488355328 := by omega
  have n2 : a.length + b.length ≤ 9223372036854775807 := by omega
  have m1 : a.length * 16 ≤ 140737488355328 := by omega
  have m2 : a.length ≤ 9223372036854775807 := by omega
  refine Ct.by gok eok mixed func108 c108 rfl (by simp [ntmps108]) (by simp [twoD]) (catD_ids _) fun E hE => ?_
  rw [List.length_append]
  have e2 : twoD a b = (D.sl 1 [[spansD a], [spansD b]]) := rfl
  rw [e2]
  simp [p108]
  refine pw_loopC (α := Nat) 0 (fun _ : Unit => ⟨slots [(0, .d (twoD a b)), (3, vi (a.length + b.length))], lk [], 0⟩) (fun _ => True) (fun i => ⟨slots [(0, .d (twoD a b)), (3, vi (if i = 0 then 0 else if i = 1 then a.length else a.length + b.length)), (9, .d (twoD a b)), (10, vi 2), (11, vi i)], lk [], 0⟩) (fun i => i ≤ 2) (fun i => 2 - i) 0 ?_ ?_ ?_ fun _ _ => ?_
  · omega
  · rw [e2]
    refine Weak.mk hE (lk []) _ _ _ ?_ ?_ ?_ ?_ ?_ <;> simp
  · exact cat_size a b ha hb hE
  · by_cases h0 : a.length + b.length = 0
    · have hs0 : (a.length : Int) + b.length = 0 := by omega
      rw [hs0, e2]
      simp
      refine ACall.mk _ _ _ (grow_zero) (by first | (simp; done) | simp [Bor_ls, Bor1_ls]) (by simp) (by first | (left; simp; done) | (right; simp; done)) ?_
      simp
      refine pw_loopC (α := Nat) 2 (fun _ : Unit => ⟨slots [(6, .ls 0 0 (a.length + b.length) 2)], lk [(0, cellsI (a ++ b))], 1⟩) (fun _ => True) (catS (.d (.lit (.slice none 0 0))) [] a b) (fun i => i ≤ 2) (fun i => 2 - i) 0 ?_ ?_ ?_ fun _ _ => ?_
      · omega
      · unfold catS
        refine Weak.mk hE (lk []) _ _ _ ?_ ?_ ?_ ?_ ?_ <;> simp
      · intro i hi
        match i, hi with
        | 0, _ =>
          simp only [catS]
          simp [p108l1, hfa, m1, m2, w1]
          refine ⟨1, by omega, by omega, ?_⟩
          simp only
          refine Weak.mk hE (lk [(0, 6291457)]) _ _ _ ?_ ?_ ?_ ?_ ?_ <;> simp
        | 1, _ =>
          simp only [catS]
          simp [p108l1, w2, hfl, hsl, htk, n1, n2]
          refine ⟨2, by omega, by omega, ?_⟩
          simp only
          rw [cells_app]
          refine Weak.mk hE (lk [(0, 6291457)]) _ _ _ ?_ ?_ ?_ ?_ ?_ <;> simp
        | 2, _ =>
          simp only [catS]
          simp [p108l1]
          refine Weak.mk hE (lk [(0, 0)]) _ _ _ ?_ ?_ ?_ ?_ ?_ <;> simp
      · simp
        refine RetOk.by (lk [(0, 0)]) ?_
        simp [results108]
    · have hs0 : (a.length : Int) + b.length = ((a.length + b.length : Nat) : Int) := by omega
      rw [hs0, e2]
      simp
      refine ACall.mk _ _ _ (grow_some (a.length + b.length) (by omega) (by omega)) (by first | (simp; done) | simp [Bor_ls, Bor1_ls]) (by simp) (by first | (left; simp; done) | (right; simp; done)) ?_
      simp
      refine pw_loopC (α := Nat) 2 (fun _ : Unit => ⟨slots [(6, .ls 0 0 (a.length + b.length) 2)], lk [(0, cellsI (a ++ b))], 1⟩) (fun _ => True) (catS (.ls 0 0 0 2) [(0, cellsI (List.replicate (a.length + b.length) (0, 0)))] a b) (fun i => i ≤ 2) (fun i => 2 - i) 0 ?_ ?_ ?_ fun _ _ => ?_
      · omega
      · unfold catS
        refine Weak.mk hE (lk [(0, 1048576)]) _ _ _ ?_ ?_ ?_ ?_ ?_ <;> simp
      · intro i hi
        match i, hi with
        | 0, _ =>
          simp only [catS]
          simp [p108l1, hfa, m1, m2, w1]
          refine ⟨1, by omega, by omega, ?_⟩
          simp only
          refine Weak.mk hE (lk [(0, 6291457)]) _ _ _ ?_ ?_ ?_ ?_ ?_ <;> simp
        | 1, _ =>
          simp only [catS]
          simp [p108l1, w2, hfl, hsl, htk, n1, n2]
          refine ⟨2, by omega, by omega, ?_⟩
          simp only
          rw [cells_app]
          refine Weak.mk hE (lk [(0, 6291457)]) _ _ _ ?_ ?_ ?_ ?_ ?_ <;> simp
        | 2, _ =>
          simp only [catS]
          simp [p108l1]
          refine Weak.mk hE (lk [(0, 0)]) _ _ _ ?_ ?_ ?_ ?_ ?_ <;> simp
      · simp
        refine RetOk.by (lk [(0, 0)]) ?_
        simp [results108]
end Go.Proofs.Try
namespace Go.Proofs.Try
open Go.Psl
open Go.Geo (cross cyc InR box hullS)
def prtS (a b : List (Int × Int)) (dx dy : Int) : Bool := decide ((alongS a dx dy).2 < (alongS b dx dy).1)
set_option maxRecDepth 20000 in
theorem fn107 (a b : List (Int × Int)) (dx dy : Int) (ha : a.length ≤ 1000000000) (hb : b.length ≤ 1000000000) (hd : bd 1073741824 (dx, dy)) (ba : ∀ q ∈ a, bd 536870912 q) (bb : ∀ q ∈ b, bd 536870912 q) : Ct prog 107 [.d (spansD a), .d (spansD b), vi dx, vi dy] (vb (prtS a b dx dy)) [] := by
  refine Ct.by gok eok mixed func107 c107 rfl (by simp [ntmps107]) (by simp) (by simp [ResIds]) fun E hE => ?_
  simp [p107]
  refine ACall.mk _ _ _ (fn103 a dx dy ha hd ba) (by first | (simp; done) | simp [Bor_ls, Bor1_ls]) (by simp) (by first | (left; simp; done) | (right; simp; done)) ?_
  simp
  refine ACall.mk _ _ _ (fn103 b dx dy hb hd bb) (by first | (simp; done) | simp [Bor_ls, Bor1_ls]) (by simp) (by first | (left; simp; done) | (right; simp; done)) ?_
  simp
  refine RetOk.by (fun _ => none) ?_
  simp [results107, prtS]
def prtE (a b : List (Int × Int)) (dx dy : Int) : Int := if (regS a && regS b) = false then 14 else if strS dx dy = false then 2 else 0
def prtV (a b : List (Int × Int)) (dx dy : Int) : Bool := decide (prtE a b dx dy = 0) && prtS a b dx dy
set_option maxRecDepth 20000 in
theorem fn64 (hS : SortOk) (a b : List (Int × Int)) (dx dy : Int) (ha : a.length ≤ 1000000000) (hb : b.length ≤ 1000000000) : Ct prog 64 [.d (spansD a), .d (spansD b), vi dx, vi dy] (.tup [vb (prtV a b dx dy), vi (prtE a b dx dy)]) [] := by
  refine Ct.by gok eok mixed func64 c64 rfl (by simp [ntmps64]) (by simp) (by simp [ResIds]) fun E hE => ?_
  simp [p64, splice, repl]
  refine ACall.mk _ _ _ (fn98 hS a b ha hb) (by simp [bor_two_ls]) (by simp) (by first | (left; simp; done) | (right; simp; done)) ?_
  cases h : regS a && regS b
  · have e : prtE a b dx dy = 14 := by unfold prtE; rw [h]; rfl
    simp
    refine RetOk.by (fun _ => none) ?_
    simp [results64, prtV, e]
  · have h12 := h
    rw [Bool.and_eq_true] at h12
    simp
    refine ACall.mk _ _ _ (fn102 dx dy) (by first | (simp; done) | simp [Bor_ls, Bor1_ls]) (by simp) (by first | (left; simp; done) | (right; simp; done)) ?_
    cases hs : strS dx dy
    · have e : prtE a b dx dy = 2 := by unfold prtE; rw [h, hs]; rfl
      simp
      refine RetOk.by (fun _ => none) ?_
      simp [results64, prtV, e]
    · have e : prtE a b dx dy = 0 := by unfold prtE; rw [h, hs]; rfl
      simp
      refine ACall.mk _ _ _ (fn107 a b dx dy ha hb (strS_iff.1 hs) (fun q hq => bd_mono (regS_bd h12.1 q hq) (by omega)) (fun q hq => bd_mono (regS_bd h12.2 q hq) (by omega))) (by first | (simp; done) | simp [Bor_ls, Bor1_ls]) (by simp) (by first | (left; simp; done) | (right; simp; done)) ?_
      simp
      refine RetOk.by (fun _ => none) ?_
      simp [results64, prtV, e]
def fourS (u : Int × Int) : List (Int × Int) := [(u.2, -u.1), (-u.2, u.1), u, (-u.1, -u.2)]
set_option maxHeartbeats 4000000 in
set_option maxRecDepth 20000 in
theorem apt_dirs (a b U : List (Int × Int)) (hl : U.length ≤ 1000) (hu : ∀ u ∈ U, bd 536870912 u) {E : Ent} (hE : ∀ i, ¬ E.stab i) {Q : AExit → St → Prop} : ∀ i : Nat, i ≤ U.length → PW prog tys eqs E p66l0
    (seqQ (fun st' => ∃ j, j ≤ U.length ∧ U.length - j < U.length - i ∧ Weak prog E st' ⟨slots [(0, .d (spansD a)), (1, .d (spansD b)), (8, hdrV ((U.take j).flatMap fourS) 0), (25, .ls 1 0 U.length 2), (26, vi U.length), (27, vi j)], lk ((1, cellsI U) :: outB ((U.take j).flatMap fourS) 0), 2⟩)
      (exC prog E Q 0 (fun _ : Unit => ⟨slots [(0, .d (spansD a)), (1, .d (spansD b)), (8, hdrV (U.flatMap fourS) 0)], lk (outB (U.flatMap fourS) 0), 1⟩) (fun _ => True)))
    ⟨slots [(0, .d (spansD a)), (1, .d (spansD b)), (8, hdrV ((U.take i).flatMap fourS) 0), (25, .ls 1 0 U.length 2), (26, vi U.length), (27, vi i)], lk ((1, cellsI U) :: outB ((U.take i).flatMap fourS) 0), 2⟩ := by
  intro i hi
  have hfl : ∀ V : List (Int × Int), (V.flatMap fourS).length = 4 * V.length := fun V => by
    induction V with
    | nil => rfl
    | cons v V ih => simp [fourS] at ih ⊢; omega
  by_cases h : i < U.length
  · obtain ⟨u, hu0⟩ : ∃ u, U[i]? = some u := ⟨_, List.getElem?_eq_getElem h⟩
    have hnx : (U.take (i + 1)).flatMap fourS = (U.take i).flatMap fourS ++ fourS u := by rw [List.take_add_one, hu0]; simp [List.flatMap_append]
    have hol := hfl (U.take i)
    have hbu := hu u (List.mem_of_getElem? hu0)
    unfold bd at hbu
    have w1 : IntKind.wrap .i64 (-u.1) = -u.1 := wrap64 (by omega) (by omega)
    have w2 : IntKind.wrap .i64 (-u.2) = -u.2 := wrap64 (by omega) (by omega)
    have hz : IntKind.wrap .i64 ((i : Int) + 1) = ((i + 1 : Nat) : Int) := by rw [wrap64 (by omega) (by omega)]; omega
    obtain ⟨O, hO⟩ : ∃ O, (U.take i).flatMap fourS = O := ⟨_, rfl⟩
    rw [hO] at hnx hol ⊢
    have hOl : O.length ≤ 4000 := by rw [hol]; simp; omega
    have fin : cellsI (O ++ fourS u) = cellsI O ++ cellsI (fourS u) := (cells_app _ _).symm
    have hI : (i : Int) < U.length := by omega
    have cu := cells_at hu0
    have qu : i * 2 + 2 ≤ U.length * 2 := by omega
    have hul := spD_len U
    have f4l : (fourS u).length = 4 := rfl
    have f4 : cellsI (fourS u) = [vi u.2, vi (-u.1), vi (-u.2), vi u.1, vi u.1, vi u.2, vi (-u.1), vi (-u.2)] := rfl
    by_cases hne : O = []
    · subst hne
      simp [p66l0, hI, cu, qu, hul, repl, splice, w1, w2, hz]
      refine ⟨i + 1, by omega, by omega, ?_⟩
      rw [hnx, List.nil_append, hdrV_ne (by simp [fourS]), outB_ne (by simp [fourS]), f4, f4l]
      refine Weak.mk hE (lk [(0, 28311554), (1, 1)]) _ _ _ ?_ ?_ ?_ ?_ ?_ <;> simp
    · have hsl := spD_len O
      have htk : List.take (O.length * 2) (cellsI O) = cellsI O := List.take_of_length_le (by simp)
      have n1 : (O.length + 4) * 16 ≤ 140737488355328 := by omega
      have n2 : O.length + 4 ≤ 9223372036854775807 := by omega
      rw [hdrV_ne hne, outB_ne hne]
      simp [p66l0, hI, cu, qu, hul, repl, splice, w1, w2, hz, hsl, htk, n1, n2]
      refine ⟨i + 1, by omega, by omega, ?_⟩
      rw [hnx, hdrV_ne (by simp [hne]), outB_ne (by simp [hne]), fin, f4, List.length_append, f4l]
      refine Weak.mk hE (lk [(0, 28311554), (1, 1)]) _ _ _ ?_ ?_ ?_ ?_ ?_ <;> simp
      rintro c (⟨a, _, rfl⟩ | rfl | rfl | rfl | rfl | rfl | rfl | rfl | rfl) <;> simp
  · have e : i = U.length := by omega
    rw [e, List.take_length]
    by_cases hne : U.flatMap fourS = []
    · rw [hne]
      simp [p66l0]
      refine Weak.mk hE (lk []) _ _ _ ?_ ?_ ?_ ?_ ?_ <;> simp
    · rw [hdrV_ne hne, outB_ne hne]
      simp [p66l0]
      refine Weak.mk hE (lk [(0, 0)]) _ _ _ ?_ ?_ ?_ ?_ ?_ <;> simp
def findP (a b : List (Int × Int)) (l : List (Int × Int)) : Option (Int × Int) := l.find? fun d => prtS a b d.1 d.2
set_option maxHeartbeats 4000000 in
set_option maxRecDepth 20000 in
theorem apt_find (a b L : List (Int × Int)) (res : Int × Int × Int) (hl : L.length ≤ 10000) (hL : ∀ d ∈ L, bd 1073741824 d) (ha : a.length ≤ 1000000000) (hb : b.length ≤ 1000000000) (ba : ∀ q ∈ a, bd 536870912 q) (bb : ∀ q ∈ b, bd 536870912 q) (hres : res = match findP a b L with | some d => (d.1, d.2, 0) | none => (0, 0, 6)) {E : Ent} (hE : ∀ i, ¬ E.stab i) {Q : AExit → St → Prop} (hQ : ∀ st, RetM tys f66 [] (.tup [vi res.1, vi res.2.1, vi res.2.2]) [] st → Q .ret st) : ∀ i : Nat, (i ≤ L.length ∧ findP a b (L.take i) = none) → PW prog tys eqs E p66l1
    (seqQ (fun st' => ∃ j, (j ≤ L.length ∧ findP a b (L.take j) = none) ∧ L.length - j < L.length - i ∧ Weak prog E st' ⟨slots [(0, .d (spansD a)), (1, .d (spansD b)), (65, .ls 0 0 L.length 2), (66, vi L.length), (67, vi j)], lk [(0, cellsI L)], 1⟩)
      (exC prog E Q 2 (fun _ : Unit => ⟨slots [], lk [], 0⟩) (fun _ => res = (0, 0, 6))))
    ⟨slots [(0, .d (spansD a)), (1, .d (spansD b)), (65, .ls 0 0 L.length 2), (66, vi L.length), (67, vi i)], lk [(0, cellsI L)], 1⟩ := by
  rintro i ⟨hi, hf⟩
  by_cases h : i < L.length
  · obtain ⟨d, hd⟩ : ∃ d, L[i]? = some d := ⟨_, List.getElem?_eq_getElem h⟩
    have hz : IntKind.wrap .i64 ((i : Int) + 1) = ((i + 1 : Nat) : Int) := by rw [wrap64 (by omega) (by omega)]; omega
    have cd := cells_at hd
    have q1 : i * 2 + 2 ≤ L.length * 2 := by omega
    have hsl := spD_len L
    have hnx : findP a b (L.take (i + 1)) = if prtS a b d.1 d.2 then some d else none := by
      unfold findP at hf ⊢
      rw [List.take_add_one, hd, List.find?_append, hf]
      simp
      try (cases prtS a b d.1 d.2 <;> rfl)
    have c := fn107 a b d.1 d.2 ha hb (hL d (List.mem_of_getElem? hd)) ba bb
    have hiI : (i : Int) < L.length := by omega
    simp [p66l1, hiI, cd, q1, hsl, splice]
    refine ACall.mk _ _ _ (c) (by first | (simp; done) | simp [Bor_ls, Bor1_ls]) (by simp) (by first | (left; simp; done) | (right; simp; done)) ?_
    cases hp : prtS a b d.1 d.2
    · rw [hp] at hnx
      simp [hz]
      refine ⟨i + 1, ⟨by omega, by rw [hnx]; rfl⟩, by omega, ?_⟩
      refine Weak.mk hE (lk [(0, 0)]) _ _ _ ?_ ?_ ?_ ?_ ?_ <;> simp
    · rw [hp] at hnx
      have hfd : findP a b L = some d := by
        unfold findP at hnx ⊢
        rw [← List.take_append_drop (i + 1) L, List.find?_append, hnx]; rfl
      rw [hfd] at hres
      subst hres
      simp [inC, Nat.testBit]
      refine hQ _ ?_
      refine RetOk.by (fun _ => none) ?_
      simp [results66]
  · have e : i = L.length := by omega
    have hn : ¬ (i : Int) < L.length := by omega
    have hr : res = (0, 0, 6) := by rw [e, List.take_length] at hf; rw [hres, hf]
    simp [p66l1, hn]
    refine ⟨hr, ?_⟩
    refine Weak.mk hE (lk []) _ _ _ ?_ ?_ ?_ ?_ ?_ <;> simp
theorem fz_sp {P : Program} {f : FuncId} {args : List V} {out : List (Int × Int)} (h : Ct P f args (hdrV out 0) (outB out 0)) : Ct P f args (.d (spansD out)) [] := by
  refine Cm.freeze h ?_
  have h1 := fz_spans out
  unfold Fz
  split
  · rename_i e _; rcases out_cases out with h2 | ⟨o, x, h2⟩ <;> rw [h2] at e <;> simp at e
  · exact h1
def candS (a b : List (Int × Int)) : List (Int × Int) := (sidS a ++ sidS b).flatMap fourS ++ [subC (a.headD (0, 0)) (b.headD (0, 0))]
def apartS (a b : List (Int × Int)) : Int × Int × Int := if regS a && regS b then (match findP a b (candS a b) with | some d => (d.1, d.2, 0) | none => (0, 0, 6)) else (0, 0, 14)
theorem sid_bd {r : List (Int × Int)} (h : ∀ q ∈ r, bd 268435456 q) : ∀ u ∈ sidS r, bd 536870912 u := fun u hu => by
  unfold sidS at hu
  split at hu
  · unfold stpS at hu
    obtain ⟨e, he, rfl⟩ := List.mem_map.1 hu
    have := Go.Geo.cyc_mem he
    exact bd_sub (h _ this.1) (h _ this.2) rfl
  · simp at hu
theorem sid_len (r : List (Int × Int)) : (sidS r).length ≤ r.length := by
  unfold sidS; split
  · rw [stp_len]; omega
  · simp
theorem cand_bd {a b : List (Int × Int)} (ha : ∀ q ∈ a, bd 268435456 q) (hb : ∀ q ∈ b, bd 268435456 q) (na : a ≠ []) (nb : b ≠ []) : ∀ d ∈ candS a b, bd 1073741824 d := fun d hd => by
  unfold candS at hd
  rcases List.mem_append.1 hd with h | h
  · obtain ⟨u, hu, h2⟩ := List.mem_flatMap.1 h
    have hbu : bd 536870912 u := by
      rcases List.mem_append.1 hu with h3 | h3
      · exact sid_bd ha u h3
      · exact sid_bd hb u h3
    unfold bd at hbu ⊢
    simp [fourS] at h2
    rcases h2 with rfl | rfl | rfl | rfl <;> (try simp only) <;> omega
  · rw [List.mem_singleton.1 h]
    obtain ⟨x, t, rfl⟩ := List.exists_cons_of_ne_nil na
    obtain ⟨y, s, rfl⟩ := List.exists_cons_of_ne_nil nb
    exact bd_mono (bd_sub (ha x (by simp)) (hb y (by simp)) rfl) (by omega)
set_option maxHeartbeats 8000000 in
set_option maxRecDepth 20000 in
theorem fn66 (hS : SortOk) (a b : List (Int × Int)) (ha : a.length ≤ 1000000000) (hb : b.length ≤ 1000000000) : Ct prog 66 [.d (spansD a), .d (spansD b)] (.tup [vi (apartS a b).1, vi (apartS a b).2.1, vi (apartS a b).2.2]) [] := by
  refine Ct.by gok eok mixed func66 c66 rfl (by simp [ntmps66]) (by simp) (by simp [ResIds]) fun E hE => ?_
  simp [p66, splice, repl]
  refine ACall.mk _ _ _ (fn98 hS a b ha hb) (by simp [bor_two_ls]) (by simp) (by first | (left; simp; done) | (right; simp; done)) ?_
  cases h : regS a && regS b
  · have e : apartS a b = (0, 0, 14) := by unfold apartS; rw [h]; rfl
    simp
    refine RetOk.by (fun _ => none) ?_
    simp [results66, e]
  have h12 := h
  rw [Bool.and_eq_true] at h12
  have ba := regS_bd h12.1
  have bb := regS_bd h12.2
  have la := regS_len h12.1
  have lb := regS_len h12.2
  have sa := sid_len a
  have sb := sid_len b
  have na := (reg_hull h12.1).2
  have nb := (reg_hull h12.2).2
  obtain ⟨res, hres⟩ : ∃ res, apartS a b = res := ⟨_, rfl⟩
  have hr2 : res = match findP a b (candS a b) with | some d => (d.1, d.2, 0) | none => (0, 0, 6) := by rw [← hres]; unfold apartS; rw [h]; rfl
  have hcb := cand_bd ba bb na nb
  rw [hres]
  simp
  refine ACall.mk _ _ _ (fz_sp (fn109 a (by omega) (fun q hq => bd_mono (ba q hq) (by omega)))) (by first | (simp; done) | simp [Bor_ls, Bor1_ls]) (by simp) (by first | (left; simp; done) | (right; simp; done)) ?_
  simp
  refine ACall.mk _ _ _ (fz_sp (fn109 b (by omega) (fun q hq => bd_mono (bb q hq) (by omega)))) (by first | (simp; done) | simp [Bor_ls, Bor1_ls]) (by simp) (by first | (left; simp; done) | (right; simp; done)) ?_
  simp [splice, repl]
  obtain ⟨U, hU⟩ : ∃ U, sidS a ++ sidS b = U := ⟨_, rfl⟩
  have hUl : U.length ≤ 128 := by rw [← hU, List.length_append]; omega
  have hUb : ∀ u ∈ U, bd 536870912 u := fun u hu => by
    rw [← hU] at hu
    rcases List.mem_append.1 hu with h3 | h3
    · exact sid_bd ba u h3
    · exact sid_bd bb u h3
  have cU := fn108 (sidS a) (sidS b) (by omega) (by omega)
  rw [hU] at cU
  refine ACall.mk _ _ _ (cU) (by simp [bor_two_ls, twoD]) (by simp) (by first | (left; simp; done) | (right; simp; done) | (right; simp; exact fun a h => spD_lit a h)) ?_
  simp
  refine pw_loopC (α := Nat) 0 (fun _ : Unit => ⟨slots [(0, .d (spansD a)), (1, .d (spansD b)), (8, hdrV (U.flatMap fourS) 0)], lk (outB (U.flatMap fourS) 0), 1⟩) (fun _ => True) (fun j => ⟨slots [(0, .d (spansD a)), (1, .d (spansD b)), (8, hdrV ((U.take j).flatMap fourS) 0), (25, .ls 1 0 U.length 2), (26, vi U.length), (27, vi j)], lk ((1, cellsI U) :: outB ((U.take j).flatMap fourS) 0), 2⟩) (fun j => j ≤ U.length) (fun j => U.length - j) 0 ?_ ?_ ?_ fun _ _ => ?_
  · simp
  · refine Weak.mk hE (lk [(1, 16777216)]) _ _ _ ?_ ?_ ?_ ?_ ?_ <;> simp
  · exact apt_dirs a b U (by omega) hUb hE
  · obtain ⟨x, ta, ea⟩ := List.exists_cons_of_ne_nil na
    obtain ⟨y, tb, eb⟩ := List.exists_cons_of_ne_nil nb
    have hx : a[0]? = some x := by rw [ea]; rfl
    have hy : b[0]? = some y := by rw [eb]; rfl
    have bx := ba x (by rw [ea]; simp)
    have by' := bb y (by rw [eb]; simp)
    have hq0 : (0 : Int) < a.length ∧ (0 : Int) < b.length := by omega
    have cs := fn110 x y (bd_mono bx (by omega)) (bd_mono by' (by omega))
    have hcd : candS a b = U.flatMap fourS ++ [subC x y] := by unfold candS; rw [hU, ea, eb]; rfl
    rw [hcd] at hr2 hcb
    have hfl : (U.flatMap fourS).length = 4 * U.length := by
      clear hr2 hcb hcd hUb hUl cU hU
      induction U with
      | nil => rfl
      | cons v V ih => simp [fourS] at ih ⊢; omega
    obtain ⟨O, hO⟩ : ∃ O, U.flatMap fourS = O := ⟨_, rfl⟩
    rw [hO] at hfl hr2 hcb ⊢
    have hOl : O.length ≤ 512 := by omega
    have fin : cellsI (O ++ [subC x y]) = (spD O).map V.d ++ [vi (subC x y).1, vi (subC x y).2] := spD_one _ O
    by_cases hne : O = []
    · subst hne
      simp [hx, hy]
      refine ACall.mk _ _ _ (cs) (by first | (simp; done) | simp [Bor_ls, Bor1_ls]) (by simp) (by first | (left; simp; done) | (right; simp; done)) ?_
      simp [splice, repl]
      refine pw_loopC (α := Nat) 2 (fun _ : Unit => ⟨slots [], lk [], 0⟩) (fun _ => res = (0, 0, 6)) (fun i => ⟨slots [(0, .d (spansD a)), (1, .d (spansD b)), (65, .ls 0 0 [subC x y].length 2), (66, vi [subC x y].length), (67, vi i)], lk [(0, cellsI [subC x y])], 1⟩) (fun i => i ≤ [subC x y].length ∧ findP a b ([subC x y].take i) = none) (fun i => [subC x y].length - i) 0 ?_ ?_ ?_ fun _ hr => ?_
      · exact ⟨by omega, rfl⟩
      · rw [show cellsI [subC x y] = [vi (subC x y).1, vi (subC x y).2] from rfl]
        refine Weak.mk hE (lk [(0, 9437185)]) _ _ _ ?_ ?_ ?_ ?_ ?_ <;> simp
        skip
      · exact apt_find a b [subC x y] res (by simp) hcb ha hb (fun q hq => bd_mono (ba q hq) (by omega)) (fun q hq => bd_mono (bb q hq) (by omega)) hr2 hE (fun st hst => by simpa using hst)
      · subst hr
        simp
        refine RetOk.by (fun _ => none) ?_
        simp [results66]
    · have hsl := spD_len O
      have htk : List.take (O.length * 2) (cellsI O) = cellsI O := List.take_of_length_le (by simp)
      have n1 : (O.length + 1) * 16 ≤ 140737488355328 := by omega
      have n2 : O.length + 1 ≤ 9223372036854775807 := by omega
      rw [hdrV_ne hne, outB_ne hne]
      simp [hx, hy]
      refine ACall.mk _ _ _ (cs) (by first | (simp; done) | simp [Bor_ls, Bor1_ls]) (by simp) (by first | (left; simp; done) | (right; simp; done)) ?_
      simp [splice, repl, hsl, htk, n1, n2]
      refine pw_loopC (α := Nat) 2 (fun _ : Unit => ⟨slots [], lk [], 0⟩) (fun _ => res = (0, 0, 6)) (fun i => ⟨slots [(0, .d (spansD a)), (1, .d (spansD b)), (65, .ls 0 0 (O ++ [subC x y]).length 2), (66, vi (O ++ [subC x y]).length), (67, vi i)], lk [(0, cellsI (O ++ [subC x y]))], 1⟩) (fun i => i ≤ (O ++ [subC x y]).length ∧ findP a b ((O ++ [subC x y]).take i) = none) (fun i => (O ++ [subC x y]).length - i) 0 ?_ ?_ ?_ fun _ hr => ?_
      · exact ⟨by omega, rfl⟩
      · rw [fin]
        refine Weak.mk hE (lk [(0, 9437185)]) _ _ _ ?_ ?_ ?_ ?_ ?_ <;> simp
        rintro c (⟨a, _, rfl⟩ | rfl | rfl) <;> simp
      · exact apt_find a b (O ++ [subC x y]) res (by simp; omega) hcb ha hb (fun q hq => bd_mono (ba q hq) (by omega)) (fun q hq => bd_mono (bb q hq) (by omega)) hr2 hE (fun st hst => by simpa using hst)
      · subst hr
        simp
        refine RetOk.by (fun _ => none) ?_
        simp [results66]
end Go.Proofs.Try
namespace Go.Proofs.Try
open Go.Psl
open Go.Stb
theorem ins_nil (x : D) : Ct prog 152 [.d (spansD []), vi 0, vi 0, .d x] (.tup []) [] := by
  refine Ct.by gok eok mixed func152 c152 rfl (by simp [ntmps152]) (by simp) (by simp [ResIds]) fun E hE => ?_
  have w1 : IntKind.wrap .i64 1 = 1 := by decide
  simp [p152, w1]
  refine pw_loop (α := Unit) (fun _ => ⟨slots [(2, vi 0), (8, vi 1)], lk [], 0⟩) (fun _ => True) (fun _ => 0) () trivial ?_ ?_
  · refine Weak.mk hE (lk []) _ _ _ ?_ ?_ ?_ ?_ ?_ <;> simp
  · intro _ _
    simp [p152l1]
    refine RetOk.by (fun _ => none) ?_
    simp [results152]
theorem stable_nil (x : D) : Ct prog 149 [.d (spansD []), vi 0, .d x] (.tup []) [] := by
  refine Ct.by gok eok mixed func149 c149 rfl (by simp [ntmps149]) (by simp) (by simp [ResIds]) fun E hE => ?_
  simp [p149]
  refine pw_loopC (α := Unit) 0 (fun _ : Unit => ⟨slots [(0, .d (spansD [])), (1, vi 0), (2, .d x), (6, vi 20), (7, vi 0)], lk [], 0⟩) (fun _ => True) (fun _ => ⟨slots [(0, .d (spansD [])), (1, vi 0), (2, .d x), (6, vi 20), (7, vi 0), (8, vi 20)], lk [], 0⟩) (fun _ => True) (fun _ => 0) () trivial ?_ ?_ fun _ _ => ?_
  · refine Weak.mk hE (lk []) _ _ _ ?_ ?_ ?_ ?_ ?_ <;> simp
  · intro _ _
    simp [p149l0]
    refine Weak.mk hE (lk []) _ _ _ ?_ ?_ ?_ ?_ ?_ <;> simp
  · simp
    refine ACall.mk _ _ _ (ins_nil x) (by first | (simp; done) | simp [Bor_ls, Bor1_ls]) (by simp) (by first | (left; simp; done) | (right; simp; done)) ?_
    simp
    refine pw_loop (α := Unit) (fun _ => ⟨slots [(1, vi 0), (6, vi 20)], lk [], 0⟩) (fun _ => True) (fun _ => 0) () trivial ?_ ?_
    · refine Weak.mk hE (lk []) _ _ _ ?_ ?_ ?_ ?_ ?_ <;> simp
    · intro _ _
      simp [p149l2]
      refine RetOk.by (fun _ => none) ?_
      simp [results149]
theorem sort_nil (x : D) : Ct prog 138 [.d (spansD []), .d x] (.tup []) [] := by
  refine Ct.by gok eok mixed func138 c138 rfl (by simp [ntmps138]) (by simp) (by simp [ResIds]) fun E hE => ?_
  simp [p138]
  refine ACall.mk _ _ _ (stable_nil x) (by first | (simp; done) | simp [Bor_ls, Bor1_ls]) (by simp) (by first | (left; simp; done) | (right; simp; done)) ?_
  simp
  refine RetOk.by (fun _ => none) ?_
  simp [results138]
def addC (p e : Int × Int) : Int × Int := (p.1 + e.1, p.2 + e.2)
def ptsS : Int × Int → List (Int × Int) → List (Int × Int)
  | p, [] => [p]
  | p, e :: r => p :: ptsS (addC p e) r
theorem pts_len : ∀ (es : List (Int × Int)) (p : Int × Int), (ptsS p es).length = es.length + 1
  | [], _ => rfl
  | e :: r, p => by simp [ptsS, pts_len r]
theorem pts_zero : ∀ (es : List (Int × Int)) (p : Int × Int), (ptsS p es)[0]? = some p
  | [], _ => rfl
  | _ :: _, _ => rfl
theorem pts_next : ∀ {es : List (Int × Int)} {p : Int × Int} {i : Nat} {q e : Int × Int}, (ptsS p es)[i]? = some q → es[i]? = some e → (ptsS p es)[i + 1]? = some (addC q e)
  | [], _, i, _, _, _, h => by simp at h
  | e0 :: r, p, 0, q, e, h1, h2 => by
    simp only [ptsS, List.getElem?_cons_zero, Option.some.injEq] at h1 h2
    subst h1; subst h2
    simp only [ptsS, List.getElem?_cons_succ]
    exact pts_zero _ _
  | e0 :: r, p, i + 1, q, e, h1, h2 => by
    simp only [ptsS, List.getElem?_cons_succ] at h1 h2 ⊢
    exact pts_next h1 h2
end Go.Proofs.Try
namespace Go.Proofs.Try
open Go.Psl
open Go.Stb
def sumE (a b : List (Int × Int)) : List (Int × Int) := stb sumB (sidS a ++ sidS b)
def sumL (a b : List (Int × Int)) : List (Int × Int) := match a, b with
  | x :: _, y :: _ => ptsS (addC x y) (sumE a b)
  | _, _ => []
def ptA (p : Int × Int) (es : List (Int × Int)) (j : Nat) : Int × Int := (ptsS p es).getD j (0, 0)
set_option maxHeartbeats 1000000 in
theorem sum_round (es : List (Int × Int)) (p : Int × Int) (hl : es.length ≤ 1000) (hb : ∀ q ∈ ptsS p es, bd 536870912 q) {E : Ent} (hE : ∀ i, ¬ E.stab i) {Q : AExit → St → Prop} : ∀ i : Nat, i ≤ es.length → PW prog tys eqs E p105l0
    (seqQ (fun st' => ∃ j, j ≤ es.length ∧ es.length - j < es.length - i ∧ Weak prog E st' ⟨slots [(6, .lp 0 0), (7, .ls 1 0 (j + 1) 2), (39, .ls 2 0 es.length 2), (40, vi es.length), (41, vi j)], lk [(0, [vi (ptA p es j).1, vi (ptA p es j).2]), (1, cellsI ((ptsS p es).take (j + 1))), (2, cellsI es)], 3⟩)
      (exC prog E Q 0 (fun _ : Unit => ⟨slots [(7, .ls 0 0 (ptsS p es).length 2)], lk [(0, cellsI (ptsS p es))], 1⟩) (fun _ => True)))
    ⟨slots [(6, .lp 0 0), (7, .ls 1 0 (i + 1) 2), (39, .ls 2 0 es.length 2), (40, vi es.length), (41, vi i)], lk [(0, [vi (ptA p es i).1, vi (ptA p es i).2]), (1, cellsI ((ptsS p es).take (i + 1))), (2, cellsI es)], 3⟩ := by
  intro i hi
  have hpl := pts_len es p
  simp [p105l0]
  by_cases h : i < es.length
  · obtain ⟨e, he⟩ : ∃ e, es[i]? = some e := ⟨_, List.getElem?_eq_getElem h⟩
    obtain ⟨q, hq⟩ : ∃ q, (ptsS p es)[i]? = some q := ⟨_, List.getElem?_eq_getElem (by omega)⟩
    have hq2 := pts_next hq he
    have b1 := hb q (List.mem_of_getElem? hq)
    have b2 := hb _ (List.mem_of_getElem? hq2)
    unfold bd addC at b2
    unfold bd at b1
    simp only at b2
    have w1 : IntKind.wrap .i64 (q.1 + e.1) = q.1 + e.1 := wrap64 (by omega) (by omega)
    have w2 : IntKind.wrap .i64 (q.2 + e.2) = q.2 + e.2 := wrap64 (by omega) (by omega)
    have w3 : IntKind.wrap .i64 ((i : Int) + 1) = ((i + 1 : Nat) : Int) := by rw [wrap64 (by omega) (by omega)]; omega
    have gq : ptA p es i = q := by rw [ptA, List.getD_eq_getElem?_getD, hq]; rfl
    have gq2 : ptA p es (i + 1) = addC q e := by rw [ptA, List.getD_eq_getElem?_getD, hq2]; rfl
    have ce := cells_at he
    have q1 : i * 2 + 2 ≤ es.length * 2 := by omega
    have hdl := spD_len es
    have htk : (ptsS p es).take (i + 1 + 1) = (ptsS p es).take (i + 1) ++ [addC q e] := by rw [List.take_add_one (i := i + 1), hq2]; rfl
    obtain ⟨O, hO⟩ : ∃ O, (ptsS p es).take (i + 1) = O := ⟨_, rfl⟩
    have hOl : O.length = i + 1 := by rw [← hO, List.length_take]; omega
    have hsl := spD_len O
    rw [hOl] at hsl
    have hfull : List.take ((i + 1) * 2) (cellsI O) = cellsI O := List.take_of_length_le (by simp [hsl])
    have n1 : (i + 1 + 1) * 16 ≤ 140737488355328 := by omega
    have n2 : i + 1 + 1 ≤ 9223372036854775807 := by omega
    have fin : cellsI (O ++ [addC q e]) = (spD O).map V.d ++ [vi (addC q e).1, vi (addC q e).2] := spD_one _ O
    rw [hO] at htk ⊢
    rw [gq]
    simp [h, w1, w2, w3, ce, q1, hdl, hsl, hfull, n1, n2, splice, repl]
    refine ⟨i + 1, by omega, by omega, ?_⟩
    rw [gq2, htk, fin]
    refine Weak.mk hE (lk [(0, 0), (1, 20971523), (2, 2)]) _ _ _ ?_ ?_ ?_ ?_ ?_ <;> simp [addC]
    rintro c (⟨a, _, rfl⟩ | rfl | rfl) <;> simp
  · have : i = es.length := by omega
    subst this
    rw [List.take_of_length_le (by omega)]
    simp
    refine Weak.mk hE (lk [(0, 1)]) _ _ _ ?_ ?_ ?_ ?_ ?_ <;> simp
    omega
theorem st0_len (c : Int × Int → Int × Int → Bool) (N : Nat) : ∀ (n a : Nat) (M : List (Int × Int)), (st0 c N n a M).length = M.length
  | 0, a, M => insF_len _ _ _ _
  | n + 1, a, M => by
    unfold st0
    split
    · rw [st0_len c N n, insF_len]
    · exact insF_len _ _ _ _
theorem st2_len (c : Int × Int → Int × Int → Bool) (N : Nat) : ∀ (n a : Nat) (M : List (Int × Int)), M.length = N → (st2 c N n a M).length = N
  | 0, a, M, h => h
  | n + 1, a, M, h => by
    unfold st2
    split
    · exact st2_len c N n _ _ (st1_all (dom := fun _ => True) N a N 0 M (fun _ _ => trivial) h).2
    · exact h
theorem stb_length (c : Int × Int → Int × Int → Bool) (l : List (Int × Int)) : (stb c l).length = l.length := st2_len c _ _ _ _ (st0_len c _ _ _ _)
set_option maxHeartbeats 1000000 in
theorem fn105 (hS : SortOk) (a b : List (Int × Int)) (na : a ≠ []) (nb : b ≠ []) (la : a.length ≤ 64) (lb : b.length ≤ 64) (ba : ∀ q ∈ a, bd 268435456 q) (bb : ∀ q ∈ b, bd 268435456 q) (hb : ∀ q ∈ sumL a b, bd 536870912 q) : ∃ z, Ct prog 105 [.d (spansD a), .d (spansD b)] (.ls 0 0 (hullP (sumL a b)).length 2) [(0, cellsI (hullP (sumL a b) ++ z))] := by
  have sa := sid_len a
  have sb := sid_len b
  obtain ⟨U, hU⟩ : ∃ U, sidS a ++ sidS b = U := ⟨_, rfl⟩
  have hUl : U.length ≤ 128 := by rw [← hU, List.length_append]; omega
  have hUb : ∀ u ∈ U, bd 2000000000 u := fun u hu => by
    rw [← hU] at hu
    rcases List.mem_append.1 hu with h3 | h3
    · exact bd_mono (sid_bd ba u h3) (by omega)
    · exact bd_mono (sid_bd bb u h3) (by omega)
  obtain ⟨x, ta, ea⟩ := List.exists_cons_of_ne_nil na
  obtain ⟨y, tb, eb⟩ := List.exists_cons_of_ne_nil nb
  have hx : a[0]? = some x := by rw [ea]; rfl
  have hy : b[0]? = some y := by rw [eb]; rfl
  have hq0 : (0 : Int) < a.length ∧ (0 : Int) < b.length := by rw [ea, eb]; simp
  obtain ⟨W, hW⟩ : ∃ W, stb sumB U = W := ⟨_, rfl⟩
  have hWl : W.length = U.length := by rw [← hW, stb_length]
  have hsum : sumL a b = ptsS (addC x y) W := by rw [ea, eb, sumL, sumE, ← ea, ← eb, hU, hW]
  have hpl := pts_len W (addC x y)
  obtain ⟨z, ch⟩ := fn93 hS (sumL a b) (by rw [hsum]; omega) (by rw [hsum]; omega) hb
  refine ⟨z, ?_⟩
  have gA : ∀ V, ptA (addC x y) V 0 = addC x y := fun V => by rw [ptA, List.getD_eq_getElem?_getD, pts_zero]; rfl
  have gT : ∀ V, (ptsS (addC x y) V).take (0 + 1) = [addC x y] := fun V => by rw [List.take_add_one, pts_zero]; rfl
  have gC : ∀ p : Int × Int, cellsI [p] = [vi p.1, vi p.2] := fun _ => rfl
  have gN : cellsI [] = [] := rfl
  have bx := ba x (by rw [ea]; simp)
  have by' := bb y (by rw [eb]; simp)
  unfold bd at bx by'
  have w1 : IntKind.wrap .i64 (x.1 + y.1) = x.1 + y.1 := wrap64 (by omega) (by omega)
  have w2 : IntKind.wrap .i64 (x.2 + y.2) = x.2 + y.2 := wrap64 (by omega) (by omega)
  have cU := fn108 (sidS a) (sidS b) (by omega) (by omega)
  rw [hU] at cU
  rw [hsum] at ch hb ⊢
  refine Ct.by gok eok mixed func105 c105 rfl (by simp [ntmps105]) (by simp) (by simp [ResIds]) fun E hE => ?_
  simp [p105]
  refine ACall.mk _ _ _ (fz_sp (fn109 a (by omega) (fun q hq => bd_mono (ba q hq) (by omega)))) (by first | (simp; done) | simp [Bor_ls, Bor1_ls]) (by simp) (by first | (left; simp; done) | (right; simp; done)) ?_
  simp
  refine ACall.mk _ _ _ (fz_sp (fn109 b (by omega) (fun q hq => bd_mono (bb q hq) (by omega)))) (by first | (simp; done) | simp [Bor_ls, Bor1_ls]) (by simp) (by first | (left; simp; done) | (right; simp; done)) ?_
  simp [splice, repl]
  refine ACall.mk _ _ _ (cU) (by simp [bor_two_ls, twoD]) (by simp) (by first | (left; simp; done) | (right; simp; done) | (right; simp; exact fun a h => spD_lit a h)) ?_
  simp
  by_cases hu0 : U = []
  · subst hu0
    have hW0 : W = [] := List.eq_nil_of_length_eq_zero (by simpa using hWl)
    subst hW0
    refine ACall.mk _ _ _ (sort_nil (.fn 139 [])) (by first | (simp; done) | simp [Bor_ls]) (by simp) (by first | (left; simp; done) | (right; simp; done)) ?_
    simp [hx, hy, w1, w2, splice, repl]
    refine pw_loopC (α := Nat) 0 (fun _ : Unit => ⟨slots [(7, .ls 0 0 (ptsS (addC x y) ([] : List (Int × Int))).length 2)], lk [(0, cellsI (ptsS (addC x y) ([] : List (Int × Int))))], 1⟩) (fun _ => True) (fun j => ⟨slots [(6, .lp 0 0), (7, .ls 1 0 (j + 1) 2), (39, .ls 2 0 ([] : List (Int × Int)).length 2), (40, vi ([] : List (Int × Int)).length), (41, vi j)], lk [(0, [vi (ptA (addC x y) ([] : List (Int × Int)) j).1, vi (ptA (addC x y) ([] : List (Int × Int)) j).2]), (1, cellsI ((ptsS (addC x y) ([] : List (Int × Int))).take (j + 1))), (2, cellsI ([] : List (Int × Int)))], 3⟩) (fun j => j ≤ ([] : List (Int × Int)).length) (fun j => ([] : List (Int × Int)).length - j) 0 ?_ ?_ (sum_round ([] : List (Int × Int)) (addC x y) (by simp) hb hE) fun _ _ => ?_
    · simp
    · rw [gA, gT]
      refine Weak.mk hE (lk [(0, 30408704), (1, 33554432), (2, 6291456)]) _ _ _ ?_ ?_ ?_ ?_ ?_ <;> simp [addC, gC, gN]
    · simp
      refine ACall.mk _ _ _ (ch) (by simp [bor_own]) (by simp) (by first | (left; simp; done) | (right; simp; done) | (right; simp; exact fun a h => spD_lit a h)) ?_
      simp
      refine RetOk.by (lk [(0, 1048577)]) ?_
      simp [results105]
  · have hpos : 0 < U.length := List.length_pos_iff.2 hu0
    have n0 : spD U ≠ [] := spD_ne hpos
    have cs := fn138 sum_cmp U hUb hpos (by omega)
    rw [hW] at cs
    have cs2 := cs.rename (fun _ => 6291456) 1 (by omega) (by simp) (by simp) (by simp)
    simp [renL, renR] at cs2
    refine ACall.mkR _ _ _ _ _ (cs2) (by simp) (by simp) (by simp [n0]) (by simp) (by first | (left; simp; done) | (right; simp [n0]; done)) ?_
    simp [hx, hy, w1, w2, splice, repl]
    refine pw_loopC (α := Nat) 0 (fun _ : Unit => ⟨slots [(7, .ls 0 0 (ptsS (addC x y) W).length 2)], lk [(0, cellsI (ptsS (addC x y) W))], 1⟩) (fun _ => True) (fun j => ⟨slots [(6, .lp 0 0), (7, .ls 1 0 (j + 1) 2), (39, .ls 2 0 W.length 2), (40, vi W.length), (41, vi j)], lk [(0, [vi (ptA (addC x y) W j).1, vi (ptA (addC x y) W j).2]), (1, cellsI ((ptsS (addC x y) W).take (j + 1))), (2, cellsI W)], 3⟩) (fun j => j ≤ W.length) (fun j => W.length - j) 0 ?_ ?_ (sum_round W (addC x y) (by omega) hb hE) fun _ _ => ?_
    · omega
    · rw [gA, gT]
      refine Weak.mk hE (lk [(0, 30408704), (1, 33554432), (2, 6291456)]) _ _ _ ?_ ?_ ?_ ?_ ?_ <;> simp [addC, hWl, gC]
    · simp
      refine ACall.mk _ _ _ (ch) (by simp [bor_own]) (by simp) (by first | (left; simp; done) | (right; simp; done) | (right; simp; exact fun a h => spD_lit a h)) ?_
      simp
      refine RetOk.by (lk [(0, 1048577)]) ?_
      simp [results105]
end Go.Proofs.Try
namespace Go.Proofs.Try
open Go.Psl
open Go.Stb
def sumErr (a b : List (Int × Int)) : Int := if regS a && regS b then (if nearC (hullP (sumL a b)) then (if 64 < (hullP (sumL a b)).length then 4 else 0) else 11) else 14
def sumOut (a b : List (Int × Int)) : List (Int × Int) := if sumErr a b = 0 then hullP (sumL a b) else []
set_option maxHeartbeats 1000000 in
theorem fn62 (hS : SortOk) (a b : List (Int × Int)) (ha : a.length ≤ 1000000000) (hb : b.length ≤ 1000000000) (hbd : regS a = true → regS b = true → ∀ q ∈ sumL a b, bd 536870912 q) : ∃ z, Ct prog 62 [.d (spansD a), .d (spansD b)] (.tup [hdrV (sumOut a b) 0, vi (sumErr a b)]) (outZ (sumOut a b) z 0) := by
  cases h : regS a && regS b
  · have e : sumErr a b = 14 := by unfold sumErr; rw [h]; rfl
    have e2 : sumOut a b = [] := by unfold sumOut; rw [e]; rfl
    refine ⟨[], ?_⟩
    rw [e, e2, hdrV_nil, outZ_nil]
    have cr := fn98 hS a b ha hb
    rw [h] at cr
    refine Ct.by gok eok mixed func62 c62 rfl (by simp [ntmps62]) (by simp) (by simp [ResIds]) fun E hE => ?_
    simp [p62, splice, repl]
    refine ACall.mk _ _ _ (cr) (by simp [bor_two_ls]) (by simp) (by first | (left; simp; done) | (right; simp; done)) ?_
    simp
    refine RetOk.by (fun _ => none) ?_
    simp [results62]
  have h12 := h
  rw [Bool.and_eq_true] at h12
  have ba := regS_bd h12.1
  have bb := regS_bd h12.2
  have la := regS_len h12.1
  have lb := regS_len h12.2
  have na := (reg_hull h12.1).2
  have nb := (reg_hull h12.2).2
  have cr := fn98 hS a b ha hb
  rw [h] at cr
  obtain ⟨z, cs⟩ := fn105 hS a b na nb (by omega) (by omega) ba bb (hbd h12.1 h12.2)
  obtain ⟨x, ta, ea⟩ := List.exists_cons_of_ne_nil na
  obtain ⟨y, tb, eb⟩ := List.exists_cons_of_ne_nil nb
  have hsl : 0 < (sumL a b).length ∧ (sumL a b).length ≤ 1000 := by
    have s1 := sid_len a
    have s2 := sid_len b
    have : (sumL a b).length = (sidS a ++ sidS b).length + 1 := by
      rw [ea, eb, sumL, pts_len, sumE, stb_length]
    rw [this, List.length_append]; omega
  have hne := hullP_ne (l := sumL a b) hsl.1
  have hpl := hullP_len (sumL a b)
  obtain ⟨P, hP⟩ : ∃ P, hullP (sumL a b) = P := ⟨_, rfl⟩
  rw [hP] at cs hne hpl
  have e0 : sumErr a b = if nearC P then (if 64 < P.length then 4 else 0) else 11 := by unfold sumErr; rw [h, hP]; rfl
  cases h3 : nearC P
  · have e : sumErr a b = 11 := by rw [e0, h3]; rfl
    have e2 : sumOut a b = [] := by unfold sumOut; rw [e]; rfl
    refine ⟨[], ?_⟩
    rw [e, e2, hdrV_nil, outZ_nil]
    refine Ct.by gok eok mixed func62 c62 rfl (by simp [ntmps62]) (by simp) (by simp [ResIds]) fun E hE => ?_
    simp [p62, splice, repl]
    refine ACall.mk _ _ _ (cr) (by simp [bor_two_ls]) (by simp) (by first | (left; simp; done) | (right; simp; done)) ?_
    simp
    refine ACall.mk _ _ _ (cs) (by first | (simp; done) | simp [Bor_ls, Bor1_ls]) (by simp) (by first | (left; simp; done) | (right; simp; done)) ?_
    simp
    refine ACall.mk _ _ _ (fn92 P (by omega)) (by simp [bor_cut (z := z)]) (by simp) (by first | (left; simp; done) | (right; simp; done)) ?_
    simp [h3]
    refine RetOk.by (fun _ => none) ?_
    simp [results62]
  · by_cases h4 : 64 < P.length
    · have e : sumErr a b = 4 := by rw [e0, h3]; simp [h4]
      have e2 : sumOut a b = [] := by unfold sumOut; rw [e]; rfl
      have h4' : (64 : Int) < P.length := by omega
      refine ⟨[], ?_⟩
      rw [e, e2, hdrV_nil, outZ_nil]
      refine Ct.by gok eok mixed func62 c62 rfl (by simp [ntmps62]) (by simp) (by simp [ResIds]) fun E hE => ?_
      simp [p62, splice, repl]
      refine ACall.mk _ _ _ (cr) (by simp [bor_two_ls]) (by simp) (by first | (left; simp; done) | (right; simp; done)) ?_
      simp
      refine ACall.mk _ _ _ (cs) (by first | (simp; done) | simp [Bor_ls, Bor1_ls]) (by simp) (by first | (left; simp; done) | (right; simp; done)) ?_
      simp
      refine ACall.mk _ _ _ (fn92 P (by omega)) (by simp [bor_cut (z := z)]) (by simp) (by first | (left; simp; done) | (right; simp; done)) ?_
      simp [h3, h4']
      refine RetOk.by (fun _ => none) ?_
      simp [results62]
    · have e : sumErr a b = 0 := by rw [e0, h3]; simp [h4]
      have e2 : sumOut a b = P := by unfold sumOut; rw [e, hP]; rfl
      have h4' : ¬ (64 : Int) < P.length := by omega
      refine ⟨z, ?_⟩
      rw [e, e2, hdrV_ne hne, outZ_ne hne]
      refine Ct.by gok eok mixed func62 c62 rfl (by simp [ntmps62]) (by simp) (by simp [ResIds]) fun E hE => ?_
      simp [p62, splice, repl]
      refine ACall.mk _ _ _ (cr) (by simp [bor_two_ls]) (by simp) (by first | (left; simp; done) | (right; simp; done)) ?_
      simp
      refine ACall.mk _ _ _ (cs) (by first | (simp; done) | simp [Bor_ls, Bor1_ls]) (by simp) (by first | (left; simp; done) | (right; simp; done)) ?_
      simp
      refine ACall.mk _ _ _ (fn92 P (by omega)) (by simp [bor_cut (z := z)]) (by simp) (by first | (left; simp; done) | (right; simp; done)) ?_
      simp [h3, h4']
      refine RetOk.by (lk [(0, 11534336)]) ?_
      simp [results62]
end Go.Proofs.Try
namespace Go.Geo
def Sup (l m : List C) : Prop := ∀ (d : C) (M : Int), (∀ v ∈ m, dot d v ≤ M) → ∀ v ∈ l, dot d v ≤ M
theorem Sup.mem {l m : List C} (h : ∀ x ∈ l, x ∈ m) : Sup l m := fun _ _ hM v hv => hM v (h v hv)
theorem Sup.trans {l m k : List C} (h1 : Sup l m) (h2 : Sup m k) : Sup l k := fun d M hM => h1 d M (h2 d M hM)
theorem far_low (f : C) : ∀ l : List C, ∃ N : Int, 0 ≤ N ∧ ∀ v ∈ l, f.2 - v.2 ≤ N
  | [] => ⟨0, by omega, by simp⟩
  | a :: r => by
    obtain ⟨N, h0, h⟩ := far_low f r
    refine ⟨max N (f.2 - a.2), by omega, fun v hv => ?_⟩
    rcases List.mem_cons.1 hv with rfl | hv
    · omega
    · have := h v hv; omega
theorem Sup.first {k l : List C} (hs : Sup k l) {f : C} (h : ∀ v ∈ l, ¬ lt v f) : ∀ x ∈ k, ¬ lt x f := fun x hx hlt => by
  rcases hlt with hlt | ⟨e, hlt⟩
  · have := hs (-1, 0) (-f.1) (fun v hv => by have := h v hv; unfold lt at this; unfold dot; simp only; omega) x hx
    unfold dot at this; simp only at this; omega
  · obtain ⟨N, h0, hN⟩ := far_low f l
    have := hs (-N, -1) (-N * f.1 - f.2) (fun v hv => by
      have h1 := h v hv
      have h2 := hN v hv
      unfold lt at h1
      unfold dot; simp only
      by_cases e : v.1 = f.1
      · rw [e]; omega
      · have h3 : f.1 + 1 ≤ v.1 := by omega
        have h4 := Int.mul_le_mul_of_nonneg_left (show 1 ≤ v.1 - f.1 by omega) h0
        have h5 : N * (v.1 - f.1) = N * v.1 - N * f.1 := Int.mul_sub _ _ _
        have h6 : -N * v.1 = -(N * v.1) := Int.neg_mul _ _
        have h7 : -N * f.1 = -(N * f.1) := Int.neg_mul _ _
        omega) x hx
    unfold dot at this; simp only at this
    rw [e] at this; omega
theorem dot_neg (d v : C) : dot d (neg v) = - dot d v := by unfold dot neg; grind
theorem dot_neg2 (d v : C) : dot (neg d) v = - dot d v := by unfold dot neg; grind
theorem Sup.neg {k l : List C} (hs : Sup k l) : Sup (k.map neg) (l.map neg) := fun d M hM v hv => by
  obtain ⟨y, hy, rfl⟩ := List.mem_map.1 hv
  have := hs (Go.Geo.neg d) M (fun v hv => by
    have := hM (Go.Geo.neg v) (List.mem_map.2 ⟨v, hv, rfl⟩)
    rw [dot_neg] at this; rw [dot_neg2]; exact this) y hy
  rw [dot_neg2] at this; rw [dot_neg]; exact this
theorem Sup.rev {k l : List C} (hs : Sup k l) : Sup (k.reverse.map Go.Geo.neg) (l.reverse.map Go.Geo.neg) := by
  refine Sup.neg fun d M hM v hv => hs d M (fun v hv => hM v (List.mem_reverse.2 hv)) v (List.mem_reverse.1 hv)
theorem cross_sup {k l : List C} (hs : Sup k l) {b c : C} (h : ∀ q ∈ l, 0 ≤ cross b c q) : ∀ q ∈ k, 0 ≤ cross b c q := fun q hq => by
  have e : ∀ q, dot (c.2 - b.2, -(c.1 - b.1)) q = dot (c.2 - b.2, -(c.1 - b.1)) b - cross b c q := fun q => by unfold dot cross; grind
  have := hs (c.2 - b.2, -(c.1 - b.1)) (dot (c.2 - b.2, -(c.1 - b.1)) b) (fun v hv => by have := h v hv; rw [e v]; omega) q hq
  rw [e q] at this; omega
theorem Good.sup {k l : List C} (hs : Sup k l) : ∀ {st : List C}, Good l st → Good k st
  | [], _ => trivial
  | [_], _ => trivial
  | [_, _], h => ⟨h.1, cross_sup hs h.2⟩
  | _ :: _ :: _ :: _, h => ⟨h.1, h.2.1, cross_sup hs h.2.2.1, Good.sup hs h.2.2.2⟩
theorem chain_more {l k : List C} (hl : Sorted l) (hk : Sorted k) (hs : ∀ x ∈ l, x ∈ k) (hS : Sup k l) (hne : l ≠ []) : chainR k = chainR l := by
  have c1 := chain_is l hl
  obtain ⟨f, t, e⟩ := List.exists_cons_of_ne_nil hne
  have hf : l.head? = some f := by rw [e]; rfl
  obtain ⟨g, hg⟩ : ∃ g, l.getLast? = some g := by
    cases h : l.getLast? with
    | none => rw [List.getLast?_eq_none_iff] at h; exact absurd h hne
    | some g => exact ⟨g, rfl⟩
  have kf : k.head? = some f := head_is hk (hs f (List.mem_of_head? hf)) (hS.first (sorted_first hl hf))
  have kg : k.getLast? = some g := by
    refine last_is hk (hs g (List.mem_of_getLast? hg)) fun x hx hlt => ?_
    refine hS.neg.first (f := Go.Geo.neg g) (fun v hv => ?_) (Go.Geo.neg x) (List.mem_map.2 ⟨x, hx, rfl⟩) (lt_neg.2 hlt)
    obtain ⟨y, hy, rfl⟩ := List.mem_map.1 hv
    exact fun h => sorted_last hl hg y hy (lt_neg.1 h)
  refine chain_unique hk (chain_is k hk) ⟨c1.good.sup hS, c1.sub.trans (sub_of_mem hl hk hs), ?_, ?_⟩
  · rw [c1.top, hg, kg]
  · rw [c1.bot, hf, kf]
theorem chain_more2 {l k : List C} (hl : Sorted l) (hk : Sorted k) (hs : ∀ x ∈ l, x ∈ k) (hS : Sup k l) (hne : l ≠ []) : chainR k.reverse = chainR l.reverse := by
  have := chain_more (sorted_neg hl) (sorted_neg hk) (fun x hx => by
    obtain ⟨y, hy, rfl⟩ := List.mem_map.1 hx
    exact List.mem_map.2 ⟨y, List.mem_reverse.2 (hs y (List.mem_reverse.1 hy)), rfl⟩) hS.rev (fun e => hne (by simpa using e))
  rw [chainR_neg, chainR_neg] at this
  have k := congrArg (List.map neg) this
  rwa [neg_map_map, neg_map_map] at k
theorem hull_more {l k : List C} (hl : Sorted l) (hk : Sorted k) (hs : ∀ x ∈ l, x ∈ k) (hS : Sup k l) (hne : l ≠ []) : hullS k = hullS l := by
  have h1 := chain_more hl hk hs hS hne
  have h2 := chain_more2 hl hk hs hS hne
  have hsub := (sub_of_mem hl hk hs).length_le
  by_cases k3 : k.length < 3
  · have l3 : l.length < 3 := by omega
    unfold hullS
    rw [if_pos k3, if_pos l3]
    match k, l, hne, k3 with
    | _, [], hne, _ => exact absurd rfl hne
    | [a], [b], _, _ => have := hs b (by simp); simp at this; rw [this]
    | [a, c], [b, d], _, _ => exact ((sub_of_mem hl hk hs).eq_of_length (by simp)).symm
    | [a, c], [b], _, _ =>
      have hac : lt a c := (List.pairwise_cons.1 hk).1 c (by simp)
      simp [chainR, pushS] at h1
    | _ :: _ :: _ :: _, _, _, k3 => simp at k3; omega
    | [a], _ :: _ :: _, _, _ => simp at hsub
    | [a, c], _ :: _ :: _ :: _, _, _ => simp at hsub
    | [], _ :: _, _, _ => simp at hsub
  · unfold hullS
    rw [if_neg k3, h1, h2]
    by_cases l3 : l.length < 3
    · rw [if_pos l3]
      match l, hne, l3 with
      | [], hne, _ => exact absurd rfl hne
      | [b], _, _ =>
        obtain ⟨f, g, lo, up, hf, hg, hfg, e1, e2, b1, b2⟩ := chains hk (by omega)
        rw [e1] at h1
        simp [chainR, pushS] at h1
        rw [h1.2] at b1; simp at b1
      | [b, d], _, _ => simp [chainR, pushS]
      | _ :: _ :: _ :: _, _, l3 => simp at l3; omega
    · rw [if_neg l3]
theorem Sup.union {k l m : List C} (hk : ∀ x ∈ k, x ∈ l ∨ x ∈ m) (h : Sup m l) : Sup k l := fun d M hM v hv => by
  rcases hk v hv with h' | h'
  · exact hM v h'
  · exact h d M hM v h'
theorem hull_same {l m k : List C} (hl : Sorted l) (hm : Sorted m) (hk : Sorted k) (he : ∀ x, x ∈ k ↔ x ∈ l ∨ x ∈ m) (hl0 : l ≠ []) (hm0 : m ≠ []) (h1 : Sup l m) (h2 : Sup m l) : hullS l = hullS m := by
  rw [← hull_more hl hk (fun x hx => (he x).2 (Or.inl hx)) (Sup.union (fun x hx => (he x).1 hx) h2) hl0]
  exact hull_more hm hk (fun x hx => (he x).2 (Or.inr hx)) (Sup.union (fun x hx => ((he x).1 hx).symm) h1) hm0
end Go.Geo
namespace Go.Geo
def bf (a b : C) : Prop := (pos a ∧ ¬ pos b) ∨ ((pos a ↔ pos b) ∧ 0 < xp a b)
instance (a b : C) : Decidable (bf a b) := by unfold bf pos; infer_instance
theorem not_pos {a : C} (ha : a ≠ (0, 0)) (h : ¬ pos a) : pos (neg a) := by
  unfold pos at *; unfold neg
  have : ¬ (a.1 = 0 ∧ a.2 = 0) := fun h => ha (Prod.ext h.1 h.2)
  simp only; omega
theorem xp_neg1 (a b : C) : xp (neg a) b = - xp a b := by unfold xp neg; grind
theorem xp_neg2 (a b : C) : xp a (neg b) = - xp a b := by unfold xp neg; grind
def le2 (a b : C) : Prop := ¬ bf b a
theorem le2_trans {a b c : C} (ha : a ≠ (0, 0)) (hb : b ≠ (0, 0)) (hc : c ≠ (0, 0)) (h1 : le2 a b) (h2 : le2 b c) : le2 a c := by
  unfold le2 bf at *
  by_cases pa : pos a <;> by_cases pb : pos b <;> by_cases pc : pos c <;> simp only [pa, pb, pc, not_true, not_false_eq_true, and_true, and_false, true_and, false_and, or_false, false_or, iff_self, true_iff, false_iff, Int.not_lt] at h1 h2 ⊢
  · have e1 := xp_neg b a
    have e2 := xp_neg c b
    have e3 := xp_neg c a
    have := tr pa pb pc (by omega) (by omega)
    omega
  · have e1 := xp_neg b a
    have e2 := xp_neg c b
    have e3 := xp_neg c a
    have := tr (not_pos ha pa) (not_pos hb pb) (not_pos hc pc) (by rw [xp_neg1, xp_neg2]; omega) (by rw [xp_neg1, xp_neg2]; omega)
    rw [xp_neg1, xp_neg2] at this; omega
def sm (d : C) (l : List C) : Int := (l.map (dot d)).sum
theorem sm_nil (d : C) : sm d [] = 0 := rfl
theorem sm_cons (d a : C) (l : List C) : sm d (a :: l) = dot d a + sm d l := by simp [sm]
theorem sm_app (d : C) (l m : List C) : sm d (l ++ m) = sm d l + sm d m := by simp [sm]
theorem sm_perm {d : C} {l m : List C} (h : l.Perm m) : sm d l = sm d m := by
  unfold sm
  induction h with
  | nil => rfl
  | cons x _ ih => simp [ih]
  | swap x y l => simp; omega
  | trans _ _ i1 i2 => rw [i1, i2]
theorem sm_nonneg {d : C} : ∀ {l : List C}, (∀ e ∈ l, 0 ≤ dot d e) → 0 ≤ sm d l
  | [], _ => by simp [sm]
  | a :: r, h => by
    rw [sm_cons]
    have := h a (by simp)
    have := sm_nonneg (fun e he => h e (List.mem_cons_of_mem _ he))
    omega
theorem sm_nonpos {d : C} : ∀ {l : List C}, (∀ e ∈ l, dot d e ≤ 0) → sm d l ≤ 0
  | [], _ => by simp [sm]
  | a :: r, h => by
    rw [sm_cons]
    have := h a (by simp)
    have := sm_nonpos (fun e he => h e (List.mem_cons_of_mem _ he))
    omega
def lf (d : C) : C := (-d.2, d.1)
theorem dot_lf (d e : C) : dot d e = xp e (lf d) := by unfold dot xp lf; grind
theorem dot0 (e : C) : dot (0, 0) e = 0 := by unfold dot; grind
def mx (d : C) (l : List C) : Int := sm d (l.filter fun e => decide (bf e (lf d)))
theorem mx_app (d : C) (l m : List C) : mx d (l ++ m) = mx d l + mx d m := by unfold mx; rw [List.filter_append, sm_app]
theorem mx_perm {d : C} {l m : List C} (h : l.Perm m) : mx d l = mx d m := sm_perm (h.filter _)
def Dirs (l : List C) : Prop := (∀ e ∈ l, e ≠ (0, 0)) ∧ l.Pairwise le2
theorem before_prefix {u : C} (hu : u ≠ (0, 0)) : ∀ {l : List C}, Dirs l → ∃ m, l = l.filter (fun e => decide (bf e u)) ++ m ∧ ∀ e ∈ m, ¬ bf e u
  | [], _ => ⟨[], rfl, by simp⟩
  | a :: r, h => by
    obtain ⟨hz, hp⟩ := h
    have hp' := List.pairwise_cons.1 hp
    have hr : Dirs r := ⟨fun e he => hz e (List.mem_cons_of_mem _ he), hp'.2⟩
    by_cases ha : bf a u
    · obtain ⟨m, e, hm⟩ := before_prefix hu hr
      refine ⟨m, ?_, hm⟩
      rw [List.filter_cons, if_pos (by simpa using ha), List.cons_append, ← e]
    · have hall : ∀ e ∈ r, ¬ bf e u := fun e he => le2_trans hu (hz a (by simp)) (hz e (List.mem_cons_of_mem _ he)) ha (hp'.1 e he)
      refine ⟨a :: r, ?_, fun e he => ?_⟩
      · rw [List.filter_eq_nil_iff.2]; rfl
        intro e he
        rcases List.mem_cons.1 he with rfl | he
        · simpa using ha
        · simpa using hall e he
      · rcases List.mem_cons.1 he with rfl | he
        · exact ha
        · exact hall e he
theorem app_split {x y s t : List C} (h : x ++ y = s ++ t) : (∃ z, s = x ++ z ∧ y = z ++ t) ∨ ∃ z, x = s ++ z ∧ t = z ++ y := by
  rcases List.append_eq_append_iff.1 h with ⟨z, h1, h2⟩ | ⟨z, h1, h2⟩
  · exact Or.inl ⟨z, h1, h2⟩
  · exact Or.inr ⟨z, h1, h2⟩
theorem mx_zero (l : List C) : mx (0, 0) l = 0 := by
  have h : ∀ l, sm (0, 0) l = 0 := fun l => by
    have h1 := sm_nonneg (d := (0, 0)) (l := l) (fun e _ => by rw [dot0]; omega)
    have h2 := sm_nonpos (d := (0, 0)) (l := l) (fun e _ => by rw [dot0]; omega)
    omega
  exact h _
theorem mx_most {d : C} {l : List C} (h : Dirs l) (h0 : sm d l = 0) {x y : List C} (e : l = x ++ y) : sm d x ≤ mx d l := by
  by_cases hd : d = (0, 0)
  · subst hd
    rw [mx_zero]
    exact sm_nonpos fun e _ => by rw [dot0]; omega
  have hu : lf d ≠ (0, 0) := fun h => hd (by
    have h1 := congrArg Prod.fst h
    have h2 := congrArg Prod.snd h
    simp only [lf] at h1 h2
    exact Prod.ext h2 (by simp only; omega))
  obtain ⟨m, hm, hb⟩ := before_prefix hu h
  obtain ⟨s, hs⟩ : ∃ s, l.filter (fun e => decide (bf e (lf d))) = s := ⟨_, rfl⟩
  have hsb : ∀ e ∈ s, bf e (lf d) := fun e he => by rw [← hs] at he; simpa using (List.mem_filter.1 he).2
  have hmx : mx d l = sm d s := by unfold mx; rw [hs]
  rw [hs] at hm
  rw [hmx]
  obtain ⟨hz, hp⟩ := h
  have htot : sm d s + sm d m = 0 := by rw [← sm_app, ← hm]; exact h0
  rcases app_split (e ▸ hm) with ⟨z, e1, e2⟩ | ⟨z, e1, e2⟩
  ·
    have hsz : sm d s = sm d x + sm d z := by rw [e1, sm_app]
    by_cases hall : ∀ e ∈ z, 0 ≤ dot d e
    · have := sm_nonneg hall; omega
    · simp only [Classical.not_forall, Int.not_le] at hall
      obtain ⟨e', he', hneg⟩ := hall
      have hbz := hsb e' (by rw [e1]; simp [he'])
      rw [dot_lf] at hneg
      have pe : pos e' := by
        rcases hbz with ⟨h1, _⟩ | ⟨_, h2⟩
        · exact h1
        · omega
      have pu : ¬ pos (lf d) := by
        rcases hbz with ⟨_, h1⟩ | ⟨_, h2⟩
        · exact h1
        · omega
      have hx : sm d x ≤ 0 := sm_nonpos fun a ha => by
        have hle : le2 a e' := by
          rw [e] at hp
          refine (List.pairwise_append.1 hp).2.2 a ha e' ?_
          rw [e2]; simp [he']
        have pa : pos a := by
          refine Classical.byContradiction fun na => hle ?_
          exact Or.inl ⟨pe, na⟩
        have h1 : 0 ≤ xp a e' := by
          refine Classical.byContradiction fun hn => hle (Or.inr ⟨by simp [pa, pe], ?_⟩)
          rw [xp_neg]; omega
        have := tr pa pe (not_pos hu pu) h1 (by rw [xp_neg2]; omega)
        rw [xp_neg2] at this
        rw [dot_lf]; omega
      have hm0 : sm d m ≤ 0 := sm_nonpos fun a ha => by
        have := hb a ha
        rw [dot_lf]
        refine Classical.byContradiction fun hn => this ?_
        by_cases pa : pos a
        · exact Or.inl ⟨pa, pu⟩
        · exact Or.inr ⟨by simp [pa, pu], by omega⟩
      omega
  · have hxz : sm d x = sm d s + sm d z := by rw [e1, sm_app]
    by_cases hall : ∀ e ∈ z, dot d e ≤ 0
    · have := sm_nonpos hall; omega
    · simp only [Classical.not_forall, Int.not_le] at hall
      obtain ⟨e', he', hpos⟩ := hall
      have hnb := hb e' (by rw [e2]; simp [he'])
      rw [dot_lf] at hpos
      have pu : pos (lf d) := by
        refine Classical.byContradiction fun pu => hnb ?_
        by_cases pa : pos e'
        · exact Or.inl ⟨pa, pu⟩
        · exact Or.inr ⟨by simp [pa, pu], by omega⟩
      have ne : ¬ pos e' := fun pe => hnb (Or.inr ⟨by simp [pe, pu], by omega⟩)
      have ze : e' ≠ (0, 0) := hz e' (by rw [hm, e2]; simp [he'])
      have hy : 0 ≤ sm d y := sm_nonneg fun a ha => by
        have za : a ≠ (0, 0) := hz a (by rw [e]; simp [ha])
        have hle : le2 e' a := by
          rw [e] at hp
          refine (List.pairwise_append.1 hp).2.2 e' ?_ a ha
          rw [e1]; simp [he']
        have na : ¬ pos a := fun pa => hle (Or.inl ⟨pa, ne⟩)
        have h1 : 0 ≤ xp e' a := by
          refine Classical.byContradiction fun hn => hle (Or.inr ⟨by simp [na, ne], ?_⟩)
          rw [xp_neg]; omega
        have := tr pu (not_pos ze ne) (not_pos za na) (by rw [xp_neg2, xp_neg]; omega) (by rw [xp_neg1, xp_neg2]; omega)
        rw [xp_neg2, xp_neg] at this
        rw [dot_lf]; omega
      have hs0 : 0 ≤ sm d s := sm_nonneg fun a ha => by
        rw [dot_lf]
        rcases hsb a ha with ⟨_, h2⟩ | ⟨_, h2⟩
        · exact absurd pu h2
        · omega
      have hm' : sm d m = sm d z + sm d y := by rw [e2, sm_app]
      omega
theorem mx_met {d : C} {l : List C} (h : Dirs l) : ∃ x y, l = x ++ y ∧ sm d x = mx d l := by
  by_cases hd : d = (0, 0)
  · subst hd
    exact ⟨[], l, rfl, by rw [mx_zero, sm_nil]⟩
  have hu : lf d ≠ (0, 0) := fun h => hd (by
    have h1 := congrArg Prod.fst h
    have h2 := congrArg Prod.snd h
    simp only [lf] at h1 h2
    exact Prod.ext h2 (by simp only; omega))
  obtain ⟨m, hm, _⟩ := before_prefix hu h
  exact ⟨_, m, hm, rfl⟩
end Go.Geo
namespace Go.Geo
def df (e : C × C) : C := sb e.2 e.1
theorem good_turn {done : List C} : ∀ {st : List C}, Good done st → (edg st).Pairwise (fun e' e => 0 < xp (df e) (df e')) ∧ ∀ e ∈ edg st, pos (df e)
  | [], _ => ⟨List.Pairwise.nil, by simp [edg]⟩
  | [_], _ => ⟨List.Pairwise.nil, by simp [edg]⟩
  | [c, b], h => ⟨List.pairwise_singleton _ _, fun e he => by simp [edg] at he; subst he; exact pos_sb h.1⟩
  | c :: b :: a :: r, h => by
    obtain ⟨h1, h2⟩ := good_turn h.2.2.2
    have hcb : pos (df (b, c)) := pos_sb h.1
    have hba : pos (df (a, b)) := h2 (a, b) (by simp [edg])
    have ht : 0 < xp (df (a, b)) (df (b, c)) := by have := h.2.1; rw [cross_xp2] at this; exact this
    refine ⟨?_, fun e he => ?_⟩
    · show ((b, c) :: edg (b :: a :: r)).Pairwise _
      refine List.pairwise_cons.2 ⟨fun e he => ?_, h1⟩
      have h1' := List.pairwise_cons.1 (show ((a, b) :: edg (a :: r)).Pairwise _ from h1)
      rcases List.mem_cons.1 (show e ∈ (a, b) :: edg (a :: r) from he) with rfl | he'
      · exact ht
      · exact tr_s1 (h2 e he) hba hcb (h1'.1 e he') (Int.le_of_lt ht)
    · rcases List.mem_cons.1 (show e ∈ (b, c) :: edg (b :: a :: r) from he) with rfl | he'
      · exact hcb
      · exact h2 e he'
theorem cyc_hull_eq {l : List C} (h : Sorted l) (h3 : 3 ≤ l.length) : cyc (hullS l) = (edg (chainR l)).reverse ++ (edg (chainR l.reverse)).reverse := by
  obtain ⟨f, g, lo, up, hf, hg, hfg, e1, e2, b1, b2⟩ := chains h (by omega)
  unfold hullS
  rw [if_neg (by omega), e1, e2]
  simp only [List.tail_cons]
  obtain ⟨lo', rfl⟩ : ∃ lo', lo = lo' ++ [f] := by
    rcases List.eq_nil_or_concat lo with rfl | ⟨x, y, rfl⟩
    · simp at b1
    · rw [List.concat_eq_append] at b1 ⊢; simp at b1; exact ⟨x, by rw [b1]⟩
  obtain ⟨up', rfl⟩ : ∃ up', up = up' ++ [g] := by
    rcases List.eq_nil_or_concat up with rfl | ⟨x, y, rfl⟩
    · simp at b2
    · rw [List.concat_eq_append] at b2 ⊢; simp at b2; exact ⟨x, by rw [b2]⟩
  have hc : cyc ((lo' ++ [f]).reverse ++ (up' ++ [g]).reverse) = steps ((g :: (lo' ++ [f])).reverse) ++ steps ((f :: (up' ++ [g])).reverse) := by
    simp only [List.reverse_append, List.reverse_cons, List.reverse_nil, List.nil_append, List.cons_append, cyc]
    have := steps_app g (up'.reverse ++ [f]) (f :: lo'.reverse)
    simpa [List.append_assoc] using this
  rw [hc, steps_rev, steps_rev]
theorem le2_of_pos {a b : C} (pa : pos a) (_ : pos b) (h : 0 < xp a b) : le2 a b := by
  rintro (⟨_, h2⟩ | ⟨_, h2⟩)
  · exact h2 pa
  · rw [xp_neg] at h2; omega
theorem pos_ne {a : C} (h : pos a) : a ≠ (0, 0) := fun e => by subst e; unfold pos at h; simp at h
theorem pos_not {a : C} (h : pos (neg a)) : ¬ pos a := fun h2 => by unfold pos neg at *; simp only at h; omega
theorem le2_neg {a b : C} (_ : pos (neg a)) (pb : pos (neg b)) (h : 0 < xp a b) : le2 a b := by
  rintro (⟨h1, _⟩ | ⟨_, h2⟩)
  · exact pos_not pb h1
  · rw [xp_neg] at h2; omega
theorem df_neg (e : C × C) : df (neg e.1, neg e.2) = neg (df e) := by unfold df sb neg; simp only; exact Prod.ext (by simp only; omega) (by simp only; omega)
theorem dirs_hull {l : List C} (h : Sorted l) (h2 : 2 ≤ (hullS l).length) : Dirs ((cyc (hullS l)).map df) := by
  by_cases h3 : l.length < 3
  · have e : hullS l = l := by unfold hullS; rw [if_pos h3]
    rw [e] at h2 ⊢
    match l, h2, h3, h with
    | [f, g], _, _, h =>
      have hfg : lt f g := (List.pairwise_cons.1 h).1 g (by simp)
      have p1 : pos (df (f, g)) := pos_sb hfg
      have p2 : pos (neg (df (g, f))) := by
        have : neg (df (g, f)) = df (f, g) := by unfold df sb neg; simp only; exact Prod.ext (by simp only; omega) (by simp only; omega)
        rw [this]; exact p1
      show Dirs [df (f, g), df (g, f)]
      refine ⟨fun e he => ?_, ?_⟩
      · simp only [List.mem_cons, List.not_mem_nil, or_false] at he
        rcases he with rfl | rfl
        · exact pos_ne p1
        · intro e; rw [e] at p2; revert p2; unfold pos neg; simp
      · refine List.pairwise_cons.2 ⟨fun e he => ?_, List.pairwise_singleton _ _⟩
        rw [List.mem_singleton.1 he]
        rintro (⟨h1, _⟩ | ⟨h1, _⟩)
        · exact pos_not p2 h1
        · exact pos_not p2 (h1.2 p1)
    | [_], h2, _, _ => simp at h2
    | [], h2, _, _ => simp at h2
    | _ :: _ :: _ :: _, _, h3, _ => simp at h3; omega
  · rw [cyc_hull_eq h (by omega), List.map_append, List.map_reverse, List.map_reverse]
    obtain ⟨g1, g2⟩ := good_turn (chain_is l h).good
    obtain ⟨k1, k2⟩ := good_turn (up_is h).good
    rw [edg_map, List.pairwise_map] at k1
    rw [edg_map] at k2
    have k2' : ∀ e ∈ edg (chainR l.reverse), pos (neg (df e)) := fun e he => by
      have := k2 _ (List.mem_map.2 ⟨e, he, rfl⟩)
      rwa [df_neg] at this
    have nz : ∀ {a : C}, pos (neg a) → a ≠ (0, 0) := fun h e => by rw [e] at h; revert h; unfold pos neg; simp
    refine ⟨fun e he => ?_, ?_⟩
    · rcases List.mem_append.1 he with he | he
      · obtain ⟨x, hx, rfl⟩ := List.mem_map.1 (List.mem_reverse.1 he)
        exact pos_ne (g2 x hx)
      · obtain ⟨x, hx, rfl⟩ := List.mem_map.1 (List.mem_reverse.1 he)
        exact nz (k2' x hx)
    · refine List.pairwise_append.2 ⟨?_, ?_, fun a ha b hb => ?_⟩
      · rw [List.pairwise_reverse, List.pairwise_map]
        exact g1.imp_of_mem fun ha hb hab => le2_of_pos (g2 _ hb) (g2 _ ha) hab
      · rw [List.pairwise_reverse, List.pairwise_map]
        refine k1.imp_of_mem fun ha hb hab => ?_
        rw [df_neg, df_neg, xp_neg1, xp_neg2] at hab
        exact le2_neg (k2' _ hb) (k2' _ ha) (by omega)
      · obtain ⟨x, hx, rfl⟩ := List.mem_map.1 (List.mem_reverse.1 ha)
        obtain ⟨y, hy, rfl⟩ := List.mem_map.1 (List.mem_reverse.1 hb)
        rintro (⟨h1, _⟩ | ⟨h1, _⟩)
        · exact pos_not (k2' y hy) h1
        · exact pos_not (k2' y hy) (h1.2 (g2 x hx))
def ad (p e : C) : C := (p.1 + e.1, p.2 + e.2)
def way : C → List C → List C
  | p, [] => [p]
  | p, e :: r => p :: way (ad p e) r
theorem dot_ad (d p e : C) : dot d (ad p e) = dot d p + dot d e := by unfold dot ad; grind
theorem way_dot {d q : C} : ∀ {l : List C} {p : C}, q ∈ way p l → ∃ x y, l = x ++ y ∧ dot d q = dot d p + sm d x
  | [], p, h => ⟨[], [], rfl, by simp [way] at h; rw [h, sm_nil]; omega⟩
  | e :: r, p, h => by
    rcases List.mem_cons.1 (show q ∈ p :: way (ad p e) r from h) with rfl | h
    · exact ⟨[], e :: r, rfl, by rw [sm_nil]; omega⟩
    · obtain ⟨x, y, h1, h2⟩ := way_dot (d := d) h
      exact ⟨e :: x, y, by rw [h1]; rfl, by rw [h2, sm_cons, dot_ad]; omega⟩
theorem way_at (d : C) (x y : List C) : ∀ p : C, ∃ q ∈ way p (x ++ y), dot d q = dot d p + sm d x := by
  induction x with
  | nil => exact fun p => ⟨p, by cases y <;> simp [way], by rw [sm_nil]; omega⟩
  | cons e r ih =>
    intro p
    obtain ⟨q, h1, h2⟩ := ih (ad p e)
    exact ⟨q, List.mem_cons_of_mem _ h1, by rw [h2, sm_cons, dot_ad]; omega⟩
theorem way_steps : ∀ (t : List C) (a : C), way a ((steps (a :: t)).map df) = a :: t
  | [], a => rfl
  | b :: r, a => by
    show a :: way (ad a (df (a, b))) ((steps (b :: r)).map df) = _
    have : ad a (df (a, b)) = b := by unfold ad df sb; exact Prod.ext (by simp only; omega) (by simp only; omega)
    rw [this, way_steps r b]
theorem sm_steps (d : C) : ∀ (t : List C) (a b : C), sm d ((steps (a :: t ++ [b])).map df) = dot d b - dot d a
  | [], a, b => by
    show sm d [df (a, b)] = _
    rw [sm_cons, sm_nil]; unfold df; rw [dot_sb]; simp only; omega
  | c :: r, a, b => by
    show sm d (df (a, c) :: (steps (c :: r ++ [b])).map df) = _
    rw [sm_cons, sm_steps d r c b]; unfold df; rw [dot_sb]; simp only; omega
def sds (r : List C) : List C := if 1 < r.length then (cyc r).map df else []
theorem sds_zero (d : C) (r : List C) : sm d (sds r) = 0 := by
  unfold sds
  split
  · match r with
    | [] => rfl
    | a :: t =>
      show sm d ((steps (a :: t ++ [a])).map df) = 0
      rw [sm_steps]; omega
  · rfl
theorem sds_way {r : List C} {a : C} (h : r.head? = some a) (q : C) : q ∈ way a (sds r) ↔ q ∈ r := by
  match r, h with
  | b :: t, h =>
    simp at h; subst h
    unfold sds
    split
    · show q ∈ way b ((steps (b :: (t ++ [b]))).map df) ↔ _
      rw [way_steps]; simp; exact ⟨fun h => by rcases h with h | h | h <;> simp [h], fun h => by rcases h with h | h <;> simp [h]⟩
    · rename_i hl
      have : t = [] := by cases t <;> simp_all
      subst this
      simp [way]
theorem sds_dirs {l : List C} (h : Sorted l) : Dirs (sds (hullS l)) := by
  unfold sds
  split
  · exact dirs_hull h (by omega)
  · exact ⟨by simp, List.Pairwise.nil⟩
theorem hull_mx {l : List C} (h : Sorted l) {a : C} (ha : (hullS l).head? = some a) (d : C) : (∀ v ∈ hullS l, dot d v ≤ dot d a + mx d (sds (hullS l))) ∧ ∃ v ∈ hullS l, dot d v = dot d a + mx d (sds (hullS l)) := by
  constructor
  · intro v hv
    obtain ⟨x, y, h1, h2⟩ := way_dot (d := d) ((sds_way ha v).2 hv)
    have := mx_most (sds_dirs h) (sds_zero d _) h1
    omega
  · obtain ⟨x, y, h1, h2⟩ := mx_met (d := d) (sds_dirs h)
    obtain ⟨q, h3, h4⟩ := way_at d x y a
    rw [← h1] at h3
    exact ⟨q, (sds_way ha q).1 h3, by omega⟩
theorem sum_mx {A B : List C} {l m : List C} (hl : Sorted l) (hm : Sorted m) (eA : A = hullS l) (eB : B = hullS m) {a b : C} (ha : A.head? = some a) (hb : B.head? = some b) {E : List C} (hp : E.Perm (sds A ++ sds B)) (hE : E.Pairwise le2) (d : C) :
    (∀ q ∈ way (ad a b) E, ∃ v ∈ A, ∃ w ∈ B, dot d q ≤ dot d (ad v w)) ∧ ∀ v ∈ A, ∀ w ∈ B, ∃ q ∈ way (ad a b) E, dot d (ad v w) ≤ dot d q := by
  subst eA; subst eB
  have hd : Dirs E := ⟨fun e he => by
    rcases List.mem_append.1 (hp.mem_iff.1 he) with h | h
    · exact (sds_dirs hl).1 e h
    · exact (sds_dirs hm).1 e h, hE⟩
  have h0 : sm d E = 0 := by rw [sm_perm hp, sm_app, sds_zero, sds_zero]; rfl
  have hmx : mx d E = mx d (sds (hullS l)) + mx d (sds (hullS m)) := by rw [mx_perm hp, mx_app]
  obtain ⟨a1, v, hv, a2⟩ := hull_mx hl ha d
  obtain ⟨b1, w, hw, b2⟩ := hull_mx hm hb d
  constructor
  · intro q hq
    obtain ⟨x, y, h1, h2⟩ := way_dot (d := d) hq
    have := mx_most hd h0 h1
    refine ⟨v, hv, w, hw, ?_⟩
    rw [dot_ad] at h2 ⊢
    omega
  · intro v' hv' w' hw'
    obtain ⟨x, y, h1, h2⟩ := mx_met (d := d) hd
    obtain ⟨q, h3, h4⟩ := way_at d x y (ad a b)
    rw [← h1] at h3
    refine ⟨q, h3, ?_⟩
    have := a1 v' hv'
    have := b1 w' hw'
    rw [dot_ad] at h4 ⊢
    omega
end Go.Geo
