/- Contracts: what each function of the program computes, for the arguments that its theorem names; and from there the given statement. Conditions: those that each theorem states. -/
import Derived.Test.YtaedloehfgmcnaaRb
namespace Go.Proofs.Try
open Go.Psl
open Go.Geo (cross cyc InR box hullS)
/-- the greatest value over the corners -/
theorem al_step (l : List (Int × Int)) (dx dy : Int) : ∀ i, i ≤ l.length → (∀ (j : Nat) q, j < i → l[j]? = some q → (alN l dx dy i).1 ≤ dotS dx dy q ∧ dotS dx dy q ≤ (alN l dx dy i).2) ∧ (0 < i → (∃ (j : Nat) (q : Int × Int), j < i ∧ l[j]? = some q ∧ dotS dx dy q = (alN l dx dy i).2) ∧ ∃ (j : Nat) (q : Int × Int), j < i ∧ l[j]? = some q ∧ dotS dx dy q = (alN l dx dy i).1)
  | 0, _ => ⟨fun j q hj => by omega, fun h => by omega⟩
  | i + 1, hi => by
    obtain ⟨h1, h2⟩ := al_step l dx dy i (by omega)
    obtain ⟨p, hp⟩ : ∃ p, l[i]? = some p := ⟨_, List.getElem?_eq_getElem (by omega)⟩
    by_cases h0 : i = 0
    · subst h0
      have e : alN l dx dy (0 + 1) = (dotS dx dy p, dotS dx dy p) := by simp [alN, hp]
      rw [e]
      refine ⟨fun j q hj hq => ?_, fun _ => ⟨⟨0, p, by omega, hp, rfl⟩, 0, p, by omega, hp, rfl⟩⟩
      have : j = 0 := by omega
      subst this
      rw [hp] at hq; cases hq
      exact ⟨Int.le_refl _, Int.le_refl _⟩
    · have e : alN l dx dy (i + 1) = (min (alN l dx dy i).1 (dotS dx dy p), max (alN l dx dy i).2 (dotS dx dy p)) := by simp [alN, hp, h0]
      rw [e]
      obtain ⟨⟨j1, q1, a1, a2, a3⟩, j2, q2, b1, b2, b3⟩ := h2 (by omega)
      refine ⟨fun j q hj hq => ?_, fun _ => ⟨?_, ?_⟩⟩
      · by_cases hji : j = i
        · subst hji
          rw [hp] at hq; cases hq
          simp only; omega
        · have := h1 j q (by omega) hq
          simp only; omega
      · by_cases hm : (alN l dx dy i).2 ≤ dotS dx dy p
        · exact ⟨i, p, by omega, hp, by simp only; omega⟩
        · exact ⟨j1, q1, by omega, a2, by simp only; omega⟩
      · by_cases hm : dotS dx dy p ≤ (alN l dx dy i).1
        · exact ⟨i, p, by omega, hp, by simp only; omega⟩
        · exact ⟨j2, q2, by omega, b2, by simp only; omega⟩
theorem al_max {l : List (Int × Int)} {dx dy : Int} {q : Int × Int} (hq : q ∈ l) : (alongS l dx dy).1 ≤ dotS dx dy q ∧ dotS dx dy q ≤ (alongS l dx dy).2 := by
  obtain ⟨j, hj⟩ := List.getElem?_of_mem hq
  exact (al_step l dx dy l.length (Nat.le_refl _)).1 j q (List.getElem?_eq_some_iff.1 hj).1 hj
theorem al_at {l : List (Int × Int)} {dx dy : Int} (h : 0 < l.length) : (∃ q ∈ l, dotS dx dy q = (alongS l dx dy).2) ∧ ∃ q ∈ l, dotS dx dy q = (alongS l dx dy).1 := by
  obtain ⟨⟨j, q, _, a, b⟩, j', q', _, a', b'⟩ := (al_step l dx dy l.length (Nat.le_refl _)).2 h
  exact ⟨⟨q, List.mem_of_getElem? a, b⟩, q', List.mem_of_getElem? a', b'⟩
/-- no point of a region goes further than its corners -/
theorem in_reach {r : List (Int × Int)} (h : regS r = true) {p : Int × Int} (hp : insS r p = true) (dx dy : Int) : (alongS r dx dy).1 ≤ dotS dx dy p ∧ dotS dx dy p ≤ (alongS r dx dy).2 := by
  obtain ⟨hr, hne⟩ := reg_hull h
  have hi := (insS_iff h p).1 hp
  have hs := sorted_dd r
  constructor
  · have := Go.Geo.in_max (l := ddC (sortC r)) hs (α := -dx) (β := -dy) (M := -(alongS r dx dy).1) (fun v hv => by
      rw [← hr] at hv
      have := (al_max (dx := dx) (dy := dy) hv).1
      unfold dotS at this
      have e1 : -dx * v.1 = -(dx * v.1) := Int.neg_mul _ _
      have e2 : -dy * v.2 = -(dy * v.2) := Int.neg_mul _ _
      omega) (p := p) (by rw [← hr]; exact hi)
    unfold dotS
    have e1 : -dx * p.1 = -(dx * p.1) := Int.neg_mul _ _
    have e2 : -dy * p.2 = -(dy * p.2) := Int.neg_mul _ _
    omega
  · exact Go.Geo.in_max (l := ddC (sortC r)) hs (α := dx) (β := dy) (M := (alongS r dx dy).2) (fun v hv => by
      rw [← hr] at hv
      exact (al_max hv).2) (p := p) (by rw [← hr]; exact hi)
end Go.Proofs.Try
