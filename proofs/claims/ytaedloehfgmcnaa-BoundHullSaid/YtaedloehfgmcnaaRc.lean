/- Contracts: what each function of the program computes, for the arguments that its theorem names; and from there the given statement. Conditions: those that each theorem states. -/
import Derived.Test.YtaedloehfgmcnaaRb
import Derived.Test.YtaedloehfgmcnaaFn
import Derived.Test.YtaedloehfgmcnaaFr
namespace Go.Proofs.Try
open Go.Psl
open Go.Geo (cross cyc InR box hullS)
theorem fn48 (l : List (Int × Int)) : Ct prog 48 [.d (spansD l)] (vb (decide (80 < l.length))) [] := by
  refine Ct.by gok eok mixed func48 c48 rfl (by simp [ntmps48]) (by simp) (by simp [ResIds]) fun E hE => ?_
  simp [p48]
  refine RetOk.by (fun _ => none) ?_
  simp [results48]
  omega
theorem cells_flat (L : List (Int × Int)) : (List.map (List.map V.d ∘ fun s : Int × Int => [di s.1, di s.2]) L).flatten = cellsI L := by
  show _ = (spD L).map V.d
  unfold spD
  rw [List.map_flatMap, List.flatMap_def]; rfl
theorem cells_cell (L : List (Int × Int)) : ∀ x : V, x ∈ cellsI L → x.isCell = true := fun x hx => by
  obtain ⟨y, _, rfl⟩ := List.mem_map.1 hx; rfl
theorem bor_own {H : Hp} {id : Nat} {l : List (Int × Int)} (h : H id = some (cellsI l)) : Bor H (.ls id 0 l.length 2) (.d (spansD l)) :=
  bor_cut (z := []) (by rw [List.append_nil]; exact h)
theorem bor_cut1 {H : Hp} {id : Nat} {o z : List (Int × Int)} {x : Int × Int} (h : H id = some (cellsI (o ++ [x] ++ z))) : Bor H (.ls id 0 (o.length + 1) 2) (.d (spansD (o ++ [x]))) := by
  have := bor_cut (l := o ++ [x]) (z := z) h
  rwa [show (o ++ [x]).length = o.length + 1 by simp] at this
set_option maxHeartbeats 16000000 in
set_option maxRecDepth 20000 in
theorem fn6 (hS : SortOk) (l a b : List (Int × Int)) (p : Int × Int) : Ct prog 6 [.d (spansD l), .d (spansD a), .d (spansD b), vsp p.1 p.2] (vb true) [] := by
  refine Ct.by gok eok mixed func6 c6 rfl (by simp [ntmps6]) (by simp) (by simp [ResIds]) fun E hE => ?_
  simp [p6]
  refine ACall.mk _ _ _ (fn48 l) (by first | (simp; done) | simp [Bor_ls, Bor1_ls]) (by simp) (by first | (left; simp; done) | (right; simp; done)) ?_
  by_cases g1 : 80 < l.length
  · simp [g1]
    refine RetOk.by (fun _ => none) ?_
    simp [results6]
  simp [g1]
  refine ACall.mk _ _ _ (fn48 a) (by first | (simp; done) | simp [Bor_ls, Bor1_ls]) (by simp) (by first | (left; simp; done) | (right; simp; done)) ?_
  by_cases g2 : 80 < a.length
  · simp [g2]
    refine RetOk.by (fun _ => none) ?_
    simp [results6]
  simp [g2]
  refine ACall.mk _ _ _ (fn48 b) (by first | (simp; done) | simp [Bor_ls, Bor1_ls]) (by simp) (by first | (left; simp; done) | (right; simp; done)) ?_
  by_cases g3 : 80 < b.length
  · simp [g3]
    refine RetOk.by (fun _ => none) ?_
    simp [results6]
  have n1 : l.length * 16 ≤ 140737488355328 := by omega
  have n2 : l.length ≤ 9223372036854775807 := by omega
  have hfl := cells_flat l
  have hcell := cells_cell l
  simp [g3, repl, hfl, n1, n2]
  obtain ⟨z, c⟩ := fn49 hS l (by omega)
  have d1 := fn50 l (by omega)
  have d2 := fn51 hS a p (by omega)
  have d3 := fn52 a p (by omega)
  have d4 := fn53 hS a b (by omega) (by omega)
  have d5 := fn54 a b (by omega) (by omega)
  have d6 := fn55 hS a (by omega)
  have d7 := fn56 a (by omega)
  have d9 := fn57 l l (by omega) (by omega)
  have hOl : (hullO l).length ≤ 1000000 := by
    unfold hullO
    split
    · have := hullP_len l; omega
    · simp
  have d8 := fn57 (hullO l) (hullO l) (by omega) (by omega)
  rcases out_cases (hullO l) with h0 | ⟨o, x, h0⟩
  · rw [h0, hdrV_nil, outZ_nil] at c
    rw [h0] at d1 d8
    refine ACall.mk _ _ _ (c) (by simp [bor_own]) (by simp) (by first | (left; simp; done) | (right; simp; done)) ?_
    simp
    repeat ((first | (refine ACall.mk _ _ _ (d1) ?_ ?_ ?_ ?_; (focus (simp; done)); (focus (simp; done)); (focus (first | (left; simp; done) | (right; simp; done)))) | (refine ACall.mk _ _ _ (d2) ?_ ?_ ?_ ?_; (focus (simp; done)); (focus (simp; done)); (focus (first | (left; simp; done) | (right; simp; done)))) | (refine ACall.mk _ _ _ (d3) ?_ ?_ ?_ ?_; (focus (simp; done)); (focus (simp; done)); (focus (first | (left; simp; done) | (right; simp; done)))) | (refine ACall.mk _ _ _ (d4) ?_ ?_ ?_ ?_; (focus (simp; done)); (focus (simp; done)); (focus (first | (left; simp; done) | (right; simp; done)))) | (refine ACall.mk _ _ _ (d5) ?_ ?_ ?_ ?_; (focus (simp; done)); (focus (simp; done)); (focus (first | (left; simp; done) | (right; simp; done)))) | (refine ACall.mk _ _ _ (d6) ?_ ?_ ?_ ?_; (focus (simp; done)); (focus (simp; done)); (focus (first | (left; simp; done) | (right; simp; done)))) | (refine ACall.mk _ _ _ (d7) ?_ ?_ ?_ ?_; (focus (simp; done)); (focus (simp; done)); (focus (first | (left; simp; done) | (right; simp; done)))) | (refine ACall.mk _ _ _ (d8) ?_ ?_ ?_ ?_; (focus (simp; done)); (focus (simp; done)); (focus (first | (left; simp; done) | (right; simp; done))))); simp)
    refine pw_loopC (α := Nat) 0 (fun _ : Unit => ⟨slots [(0, .d (spansD l)), (9, .ls 0 0 l.length 2), (22, vb true)], lk [(0, cellsI l)], 1⟩) (fun _ => True) (fun i => ⟨slots [(0, .d (spansD l)), (9, .ls 0 0 l.length 2), (22, vb true), (107, vi 0), (108, vi 0)], lk [(0, cellsI l)], 1⟩) (fun i => i = 0) (fun i => i) 0 ?_ ?_ ?_ fun _ _ => ?_
    · rfl
    · refine Weak.mk hE (lk [(0, 14680064)]) _ _ _ ?_ ?_ ?_ ?_ ?_ <;> simp
    · rintro i rfl
      simp [p6l0]
      refine Weak.mk hE (lk [(0, 0)]) _ _ _ ?_ ?_ ?_ ?_ ?_ <;> simp
    · simp
      refine ACall.mk _ _ _ (d9) (by simp [bor_own]) (by simp) (by first | (left; simp; done) | (right; simp; done)) ?_
      simp
      refine RetOk.by (fun _ => none) ?_
      simp [results6]
  · rw [h0, hdrV_snoc, outZ_snoc] at c
    rw [h0] at d1 d8 hOl
    have hol : o.length ≤ 1000000 := by simp at hOl; omega
    have hid : ∀ H : Hp, H 0 = some (cellsI (o ++ [x] ++ z)) → True := fun _ _ => trivial
    obtain ⟨M, hM⟩ : ∃ M, o ++ [x] ++ z = M := ⟨_, rfl⟩
    have hbc : ∀ (H : Hp) (id : Nat), H id = some (cellsI M) → Bor H (.ls id 0 (o.length + 1) 2) (.d (spansD (o ++ [x]))) := fun H id h => bor_cut1 (z := z) (by rw [hM]; exact h)
    have hMl : o.length + 1 ≤ M.length := by rw [← hM]; simp
    rw [hM] at c
    refine ACall.mk _ _ _ (c) (by simp [bor_own]) (by simp) (by first | (left; simp; done) | (right; simp; done) | (right; simp; exact fun a h => spD_lit a h)) ?_
    simp
    repeat ((first | (refine ACall.mk _ _ _ (d1) ?_ ?_ ?_ ?_; (focus (simp; done)); (focus (simp; done)); (focus (first | (left; simp; done) | (right; simp; done)))) | (refine ACall.mk _ _ _ (d2) ?_ ?_ ?_ ?_; (focus (simp; done)); (focus (simp; done)); (focus (first | (left; simp; done) | (right; simp; done)))) | (refine ACall.mk _ _ _ (d3) ?_ ?_ ?_ ?_; (focus (simp; done)); (focus (simp; done)); (focus (first | (left; simp; done) | (right; simp; done)))) | (refine ACall.mk _ _ _ (d4) ?_ ?_ ?_ ?_; (focus (simp; done)); (focus (simp; done)); (focus (first | (left; simp; done) | (right; simp; done)))) | (refine ACall.mk _ _ _ (d5) ?_ ?_ ?_ ?_; (focus (simp; done)); (focus (simp; done)); (focus (first | (left; simp; done) | (right; simp; done)))) | (refine ACall.mk _ _ _ (d6) ?_ ?_ ?_ ?_; (focus (simp; done)); (focus (simp; done)); (focus (first | (left; simp; done) | (right; simp; done)))) | (refine ACall.mk _ _ _ (d7) ?_ ?_ ?_ ?_; (focus (simp; done)); (focus (simp; done)); (focus (first | (left; simp; done) | (right; simp; done))))); simp)
    refine ACall.mk _ _ _ (d8) (by simp [hbc]) (by simp) (by first | (left; simp; done) | (right; simp; done)) ?_
    simp
    refine pw_loopC (α := Nat × List (Int × Int)) 0 (fun _ : Unit => ⟨slots [(0, .d (spansD l)), (9, .ls 0 0 l.length 2), (22, vb true)], lk [(0, cellsI l)], 1⟩) (fun _ => True) (fun y => ⟨slots [(0, .d (spansD l)), (9, .ls 0 0 l.length 2), (10, .ls 1 0 (o.length + 1) 2), (22, vb true), (107, vi ((o.length + 1 : Nat) : Int)), (108, vi y.1)], lk [(0, cellsI l), (1, cellsI y.2)], 2⟩) (fun y => y.1 ≤ o.length + 1 ∧ o.length + 1 ≤ y.2.length) (fun y => o.length + 1 - y.1) (0, M) ?_ ?_ ?_ fun _ _ => ?_
    · exact ⟨by simp, hMl⟩
    · refine Weak.mk hE (lk [(0, 14680064), (1, 17825792)]) _ _ _ ?_ ?_ ?_ ?_ ?_ <;> simp
    · rintro ⟨i, Y⟩ ⟨hi, hY⟩
      simp only at hi hY
      have hz : IntKind.wrap .i64 ((i : Int) + 1) = ((i + 1 : Nat) : Int) := by rw [wrap64 (by omega) (by omega)]; omega
      obtain ⟨n, hn⟩ : ∃ n, n = o.length + 1 := ⟨_, rfl⟩
      rw [← hn] at hi hY
      simp [p6l0, ← hn]
      refine cR_split (fun h => ?_) (fun h => ?_)
      · simp at h
        have cs := cells_set (l := Y) (-7, 7) (i := i) (by omega)
        have q2 : i * 2 + 2 ≤ Y.length * 2 := by omega
        simp [h, hz, q2, splice]
        refine ⟨i + 1, Y.set i (-7, 7), ⟨by omega, by simp; omega⟩, by omega, ?_⟩
        have cs2 : List.take (i * 2) (cellsI Y) ++ V.d (D.lit (Value.int IntKind.i64 (-7))) :: V.d (D.lit (Value.int IntKind.i64 7)) :: List.drop (i * 2 + 2) (cellsI Y) = cellsI (Y.set i (-7, 7)) := by
          have e : cellsI (Y.set i (-7, 7)) = splice (List.map V.d (spD Y)) (i * 2) [vi (-7), vi 7] := cs.symm
          rw [e]; simp [splice]
        rw [cs2]
        refine Weak.mk hE (lk [(0, 0), (1, 1)]) _ _ _ ?_ ?_ ?_ ?_ ?_ <;> simp
      · simp
        refine Weak.mk hE (lk [(0, 0)]) _ _ _ ?_ ?_ ?_ ?_ ?_ <;> simp
    · simp
      refine ACall.mk _ _ _ (d9) (by simp [bor_own]) (by simp) (by first | (left; simp; done) | (right; simp; done)) ?_
      simp
      refine RetOk.by (fun _ => none) ?_
      simp [results6]
end Go.Proofs.Try
