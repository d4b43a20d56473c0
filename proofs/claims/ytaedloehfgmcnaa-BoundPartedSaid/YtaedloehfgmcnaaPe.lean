/- Contracts: what each function of the program computes, for the arguments that its theorem names; and from there the given statement. Conditions: those that each theorem states. -/
import Derived.Test.YtaedloehfgmcnaaPc
import Derived.Test.YtaedloehfgmcnaaPd
/- Loops over functions: blocks that are handed to and fro under names that stay. -/
namespace Go.Psl
variable {P : Program} {Γ : Tys} {eqs : Eqs} {E : Ent}
def rid (ks : List Nat) (i : Nat) : Option Nat := if i ∈ ks then some i else none
/-- blocks under the names ks, with names of ks alone in them -/
structure KeepOk (ks : List Nat) (L : List (Nat × List V)) : Prop where
  names : L.map (·.1) = ks
  nd : ks.Nodup
  cells : ∀ p ∈ L, p.2 ≠ [] ∧ cellsOk p.2 ∧ ∀ c ∈ p.2, WC (rid ks) c c
theorem rid_in {ks : List Nat} {i : Nat} (h : i ∈ ks) : rid ks i = some i := by simp [rid, h]
theorem lk_nd : ∀ {L : List (Nat × List V)}, (L.map (·.1)).Nodup → ∀ p ∈ L, lk L p.1 = some p.2
  | [], _, p, hp => by simp at hp
  | q :: r, hn, p, hp => by
    simp only [List.map_cons, List.nodup_cons] at hn
    simp only [lk]
    rcases List.mem_cons.1 hp with rfl | hp
    · simp
    · have : p.1 ≠ q.1 := fun e => hn.1 (e ▸ List.mem_map.2 ⟨p, hp, rfl⟩)
      rw [if_neg this]
      exact lk_nd hn.2 p hp
section
variable {ks : List Nat} {L L1 : List (Nat × List V)}
theorem KeepOk.lk (h : KeepOk ks L) {p : Nat × List V} (hp : p ∈ L) : Go.Psl.lk L p.1 = some p.2 := lk_nd (by rw [h.names]; exact h.nd) p hp
theorem KeepOk.mem (h : KeepOk ks L) {p : Nat × List V} (hp : p ∈ L) : p.1 ∈ ks := by rw [← h.names]; exact List.mem_map.2 ⟨p, hp, rfl⟩
theorem KeepOk.isIn (h : KeepOk ks L) {i : Nat} : (Go.Psl.lk L i).isSome = true ↔ i ∈ ks := by
  constructor
  · intro hi
    obtain ⟨x, hx⟩ := Option.isSome_iff_exists.1 hi
    exact h.mem (p := (i, x)) (lk_mem' hx)
  · intro hi
    rw [← h.names] at hi
    obtain ⟨p, hp, rfl⟩ := List.mem_map.1 hi
    rw [h.lk hp]; rfl
theorem rid_some {i j : Nat} (h : rid ks i = some j) : i ∈ ks ∧ j = i := by
  unfold rid at h; split at h
  · cases h; exact ⟨by assumption, rfl⟩
  · cases h
theorem W0_rid {c : V} (h : W0 (rid ks) c c) : A0 (· ∈ ks) anyD c ∧ ∀ b, ren0 (sg ks b) c = c := by
  cases c with
  | junk => exact ⟨trivial, fun _ => rfl⟩
  | d x => exact ⟨trivial, fun _ => rfl⟩
  | lp i o =>
    obtain ⟨j, hj, _⟩ := h
    have hi := (rid_some hj).1
    exact ⟨hi, fun b => by simp [ren0, sg, hi]⟩
  | ls i o l z =>
    unfold W0 at h
    simp only at h
    split at h
    · rename_i j hj
      have hi := (rid_some hj).1
      exact ⟨hi, fun b => by simp [ren0, sg, hi]⟩
    · cases h.2
  | yl i =>
    obtain ⟨j, hj, _⟩ := h
    have hi := (rid_some hj).1
    exact ⟨hi, fun b => by simp [ren0, sg, hi]⟩
  | lr => exact False.elim h
  | cl f cs => exact ⟨trivial, fun _ => rfl⟩
  | agg cs => exact ⟨trivial, fun _ => rfl⟩
  | tup cs => exact ⟨trivial, fun _ => rfl⟩
theorem map_same {α : Type} {f : α → α} : ∀ {l : List α}, (∀ x ∈ l, f x = x) → l.map f = l
  | [], _ => rfl
  | a :: l, h => by rw [List.map_cons, h a (by simp), map_same fun x hx => h x (List.mem_cons_of_mem _ hx)]
theorem all2_same {α : Type} {R : α → α → Prop} : ∀ {l : List α}, All2 R l l → ∀ x ∈ l, R x x
  | [], _, _, hx => by simp at hx
  | a :: l, h, x, hx => by
    rcases List.mem_cons.1 hx with rfl | hx
    · exact h.1
    · exact all2_same h.2 x hx
theorem all2_refl {α : Type} {R : α → α → Prop} : ∀ {l : List α}, (∀ x ∈ l, R x x) → All2 R l l
  | [], _ => trivial
  | a :: l, h => ⟨h a (by simp), all2_refl fun x hx => h x (List.mem_cons_of_mem _ hx)⟩
theorem A0_ren {c : V} (h : A0 (· ∈ ks) anyD c) (b : Nat) : ren0 (sg ks b) c = c := by
  cases c <;> first | rfl | (have h2 : _ ∈ ks := h; simp [ren0, sg, h2]) | exact False.elim h
theorem A1_ren {c : V} (h : A1 (· ∈ ks) anyD c) (b : Nat) : ren1 (sg ks b) c = c := by
  cases c with
  | cl f cs => simp only [ren1]; rw [map_same fun x hx => A0_ren (h x hx) b]
  | junk => exact A0_ren (ks := ks) (c := .junk) h b
  | d x => exact A0_ren (ks := ks) (c := .d x) h b
  | lp i o => exact A0_ren (ks := ks) (c := .lp i o) h b
  | ls i o l z => exact A0_ren (ks := ks) (c := .ls i o l z) h b
  | yl i => exact A0_ren (ks := ks) (c := .yl i) h b
  | lr f n p pa pb j => exact A0_ren (ks := ks) (c := .lr f n p pa pb j) h b
  | agg cs => exact A0_ren (ks := ks) (c := .agg cs) h b
  | tup cs => exact A0_ren (ks := ks) (c := .tup cs) h b
theorem A2_ren {c : V} (h : A2 (· ∈ ks) anyD c) (b : Nat) : ren2 (sg ks b) c = c := by
  cases c with
  | agg cs => simp only [ren2]; rw [map_same fun x hx => A1_ren (h x hx) b]
  | junk => exact A1_ren (ks := ks) (c := .junk) h b
  | d x => exact A1_ren (ks := ks) (c := .d x) h b
  | lp i o => exact A1_ren (ks := ks) (c := .lp i o) h b
  | ls i o l z => exact A1_ren (ks := ks) (c := .ls i o l z) h b
  | yl i => exact A1_ren (ks := ks) (c := .yl i) h b
  | lr f n p pa pb j => exact A1_ren (ks := ks) (c := .lr f n p pa pb j) h b
  | cl f cs => exact A1_ren (ks := ks) (c := .cl f cs) h b
  | tup cs => exact A1_ren (ks := ks) (c := .tup cs) h b
theorem AV_ren {c : V} (h : AV (· ∈ ks) anyD c) (b : Nat) : ren (sg ks b) c = c := by
  cases c with
  | tup cs => simp only [ren]; rw [map_same fun x hx => A2_ren (h x hx) b]
  | junk => exact A2_ren (ks := ks) (c := .junk) h b
  | d x => exact A2_ren (ks := ks) (c := .d x) h b
  | lp i o => exact A2_ren (ks := ks) (c := .lp i o) h b
  | ls i o l z => exact A2_ren (ks := ks) (c := .ls i o l z) h b
  | yl i => exact A2_ren (ks := ks) (c := .yl i) h b
  | lr f n p pa pb j => exact A2_ren (ks := ks) (c := .lr f n p pa pb j) h b
  | cl f cs => exact A2_ren (ks := ks) (c := .cl f cs) h b
  | agg cs => exact A2_ren (ks := ks) (c := .agg cs) h b
theorem WC_rid {c : V} (h : WC (rid ks) c c) : AC (· ∈ ks) anyD c ∧ ∀ b, renC (sg ks b) c = c := by
  cases c with
  | lr fr nt ps pa pb jmp =>
    have h2 : ∀ t, AV (· ∈ ks) anyD (fr t) := fun t => AV.mono (fun i hi => (rid_some hi).1) (fun _ h => h) (h.2 t)
    refine ⟨h2, fun b => ?_⟩
    simp only [renC]
    congr 1
    funext t; exact AV_ren (h2 t) b
  | cl f cs =>
    obtain ⟨cs', e, h2⟩ := h
    cases e
    have h3 := all2_same h2
    exact ⟨fun c hc => (W0_rid (h3 c hc)).1, fun b => by simp only [renC, ren1]; rw [map_same fun x hx => (W0_rid (h3 x hx)).2 b]⟩
  | junk => exact ⟨trivial, fun _ => rfl⟩
  | d x => exact ⟨trivial, fun _ => rfl⟩
  | lp i o => exact W0_rid (c := .lp i o) h
  | ls i o l z => exact W0_rid (c := .ls i o l z) h
  | yl i => exact W0_rid (c := .yl i) h
  | agg cs => exact False.elim h
  | tup cs => exact False.elim h
theorem KeepOk.ac (h : KeepOk ks L) {p : Nat × List V} (hp : p ∈ L) : ∀ c ∈ p.2, AC (· ∈ ks) anyD c := fun c hc => (WC_rid ((h.cells p hp).2.2 c hc)).1
theorem KeepOk.hp (h : KeepOk ks L) {H : Hp} (hH : ∀ i ∈ ks, H i = Go.Psl.lk L i) : HpOk (rid ks) H L := by
  have key : ∀ M : List (Nat × List V), (∀ p ∈ M, p ∈ L) → HpOk (rid ks) H M := by
    intro M
    induction M with
    | nil => intro _; trivial
    | cons p r ih =>
      intro hM
      have hp := hM p (by simp)
      have hm := h.mem hp
      obtain ⟨c1, c2, c3⟩ := h.cells p hp
      refine ⟨?_, ih fun q hq => hM q (List.mem_cons_of_mem _ hq)⟩
      rw [rid_in hm]
      exact ⟨⟨p.2, by rw [hH _ hm, h.lk hp], all2_refl c3⟩, c2⟩
  exact key L fun _ h => h
theorem KeepOk.inj (h : KeepOk ks L) : RhoInj (rid ks) L := by
  have key : ∀ M : List (Nat × List V), (∀ p ∈ M, p ∈ L) → RhoInj (rid ks) M := by
    intro M
    induction M with
    | nil => intro _; trivial
    | cons p r ih =>
      intro hM
      refine ⟨fun q hq => ?_, ih fun q hq => hM q (List.mem_cons_of_mem _ hq)⟩
      have h1 := h.mem (hM p (by simp))
      have h2 := h.mem (hM q (List.mem_cons_of_mem _ hq))
      rw [rid_in h1, rid_in h2]
      by_cases e : q.1 = p.1
      · exact Or.inr (Or.inr e)
      · exact Or.inr (Or.inl fun e' => e (Option.some.inj e'))
  exact key L fun _ h => h
theorem KeepOk.stab (_ : KeepOk ks L) {H : Hp} (hH : ∀ i ∈ ks, H i = Go.Psl.lk L i) : StabL (rid ks) H (Go.Psl.lk L) ks := by
  have key : ∀ M : List Nat, (∀ i ∈ M, i ∈ ks) → StabL (rid ks) H (Go.Psl.lk L) M := by
    intro M
    induction M with
    | nil => intro _; trivial
    | cons i r ih =>
      intro hM
      have hi := hM i (by simp)
      exact ⟨fun hs => ⟨rid_in hi, by rw [hH i hi]; exact hs⟩, ih fun j hj => hM j (List.mem_cons_of_mem _ hj)⟩
  exact key ks fun _ h => h
theorem KeepOk.stabW (_ : KeepOk ks L) {H : Hp} (hH : ∀ i ∈ ks, H i = Go.Psl.lk L i) {n : Nat} (hn : ∀ i ∈ ks, i < n) : StabW (rid ks) H (Go.Psl.lk L) n ks := by
  have key : ∀ M : List Nat, (∀ i ∈ M, i ∈ ks) → StabW (rid ks) H (Go.Psl.lk L) n M := by
    intro M
    induction M with
    | nil => intro _; trivial
    | cons i r ih =>
      intro hM
      have hi := hM i (by simp)
      exact ⟨hn i hi, fun hs => ⟨rid_in hi, by rw [hH i hi]; exact hs⟩, ih fun j hj => hM j (List.mem_cons_of_mem _ hj)⟩
  exact key ks fun _ h => h
theorem KeepOk.ids (h : KeepOk ks L) {n : Nat} (hn : ∀ i ∈ ks, i < n) : HpIds n L := by
  have key : ∀ M : List (Nat × List V), (∀ p ∈ M, p ∈ L) → HpIds n M := by
    intro M
    induction M with
    | nil => intro _; trivial
    | cons p r ih =>
      intro hM
      have hp := hM p (by simp)
      exact ⟨hn _ (h.mem hp), fun c hc => AC.mono hn (fun _ h => h) (h.ac hp c hc), ih fun q hq => hM q (List.mem_cons_of_mem _ hq)⟩
  exact key L fun _ h => h
theorem KeepOk.res (h : KeepOk ks L) : ∀ p ∈ L, ∀ c ∈ p.2, AC (InB L) anyD c := fun _ hp c hc => AC.mono (fun _ hi => h.isIn.2 hi) (fun _ h => h) (h.ac hp c hc)
theorem Weak.keep {st : St} (hs : ∀ i, E.stab i ↔ i ∈ ks) (h : KeepOk ks L) (hH : ∀ i ∈ ks, st.H i = Go.Psl.lk L i) {n : Nat} (hn : ∀ i ∈ ks, i < n) (l : List (Nat × V)) (h1 : SlotsOk (rid ks) st.fr l) (h4 : SlotsIds n l) : Weak P E st ⟨slots l, Go.Psl.lk L, n⟩ :=
  Weak.mkM hs (rid ks) l L n h1 (h.hp hH) h.inj h4 (h.ids hn) (h.stabW hH hn)
theorem heapM_keep {H : Hp} {b : Nat} (hL : KeepOk ks L) (hL1 : KeepOk ks L1) : heapM H b (Go.Psl.lk L) ks (Go.Psl.lk L1) = fun i => if i ∈ ks then Go.Psl.lk L1 i else H i := by
  funext i
  unfold heapM
  by_cases hi : i ∈ ks
  · simp only [hi, if_true]
    have h1 := hL1.isIn.2 hi
    obtain ⟨x, hx⟩ := Option.isSome_iff_exists.1 h1
    rw [hx]
    have hm := hL1.cells (i, x) (lk_mem' hx)
    simp only [Option.map_some]
    rw [map_same fun c hc => (WC_rid (hm.2.2 c hc)).2 b]
  · simp only [hi, if_false]
    have h2 : (Go.Psl.lk L i).isSome = false := by
      cases hc : (Go.Psl.lk L i).isSome with
      | false => rfl
      | true => exact absurd (hL.isIn.1 hc) hi
    rw [h2]
    simp only [Bool.false_eq_true, if_false]
    split
    · split
      · rfl
      · rename_i hn
        have h3 : Go.Psl.lk L1 (i - b) = none := by
          cases hc : Go.Psl.lk L1 (i - b) with
          | none => rfl
          | some x => exact absurd (hL1.isIn.1 (by rw [hc]; rfl)) hn
        rw [h3]
    · rfl
theorem callB_keep {H : Hp} {av args : List V} {res : Res} (hL : KeepOk ks L) (hL1 : KeepOk ks L1) (hH : ∀ i ∈ ks, H i = Go.Psl.lk L i) (hb : All2 (Bor noH) av args) : CallB H av args (Go.Psl.lk L) ks res (Go.Psl.lk L1) :=
  ⟨fun i cs h => by rw [hH i (hL.isIn.1 (by rw [h]; rfl)), h], fun i h hn => absurd (hL1.isIn.1 h) hn, fun i hi => by
    obtain ⟨x, hx⟩ := Option.isSome_iff_exists.1 (hL.isIn.2 hi)
    exact ⟨x, hx, (hL.cells (i, x) (lk_mem' hx)).1⟩, Or.inl hb⟩
/-- a call of yield that keeps all names -/
theorem AYield.keep {H : Hp} {b k : Nat} {av : List V} {Kc Kx : V → Hp → Prop} (args : List V) (L L1 : List (Nat × List V)) (ks : List Nat) (r : D) (hf : Ym P k args (Go.Psl.lk L) ks (.ret (.d r)) (Go.Psl.lk L1)) (hL : KeepOk ks L) (hL1 : KeepOk ks L1)
    (hrec : ∃ fr nt ps pa pb jmp, Go.Psl.lk L k = some [.lr fr nt ps pa pb jmp] ∧ ps.length = args.length) (hH : ∀ i ∈ ks, H i = Go.Psl.lk L i) (hb : All2 (Bor noH) av args) (hk : Kc (.d r) (fun i => if i ∈ ks then Go.Psl.lk L1 i else H i)) : AYield P true H H b k av Kc Kx :=
  ⟨rfl, args, Go.Psl.lk L, ks, .ret (.d r), Go.Psl.lk L1, _, ⟨hf, hrec, callB_keep hL hL1 hH hb⟩, (heapM_keep hL hL1).symm, hk⟩
/-- a call that keeps all names -/
theorem ACall.keep {H : Hp} {b : Nat} {g : FuncId} {av : List V} {Kc Kx : V → Hp → Prop} (args : List V) (L L1 : List (Nat × List V)) (ks : List Nat) (r : V) (hf : Cm P g args (Go.Psl.lk L) ks (.ret r) (Go.Psl.lk L1)) (hL : KeepOk ks L) (hL1 : KeepOk ks L1) (hr : AV (· ∈ ks) anyD r)
    (hH : ∀ i ∈ ks, H i = Go.Psl.lk L i) (hb : All2 (Bor noH) av args) (hk : Kc r (fun i => if i ∈ ks then Go.Psl.lk L1 i else H i)) : ACall P true H H b g av Kc Kx :=
  ⟨args, Go.Psl.lk L, ks, .ret r, Go.Psl.lk L1, _, ⟨hf, callB_keep hL hL1 hH hb⟩, nofun, (heapM_keep hL hL1).symm, by show Kc (ren (sg ks b) r) _; rw [AV_ren hr]; exact hk⟩
theorem RetM.keep {fn : Func} {st : St} (hn : fn.results = #[]) (h : KeepOk ks L) (hH : ∀ i ∈ ks, st.H i = Go.Psl.lk L i) : RetM Γ fn ks (.tup []) L st :=
  ⟨[], rid ks, by rw [hn]; rfl, rfl, by simp, h.hp hH, h.inj, h.stab hH⟩
/-- a loop over a function -/
theorem PRange.keep {fo : Operand} {ps : List Nat} {pa pb : PC} {Q : AExit → St → Prop} {f : Nat → V} {H : Hp} {n : Nat} {g : FuncId} {caps : List V} (L L1 : List (Nat × List V)) (ks : List Nat) (r : V) (jmp : LSt) (h0 : E.rd = none) (hg : calleeOf (evF f fo) = some (g, caps))
    (hf : Cm P g (.yl n :: caps) (Go.Psl.lk ((n, [.lr f E.nt ps pa pb .ready]) :: L)) (n :: ks) (.ret r) (Go.Psl.lk ((n, [.lr f E.nt ps pa pb jmp]) :: L1)))
    (hL : KeepOk (n :: ks) ((n, [.lr f E.nt ps pa pb .ready]) :: L)) (hL1 : KeepOk (n :: ks) ((n, [.lr f E.nt ps pa pb jmp]) :: L1)) (hH : ∀ i ∈ ks, H i = Go.Psl.lk L i) (hb : All2 (Bor noH) caps caps)
    (hq : jumpQ Q ⟨f, fun i => if i = n then none else if i ∈ ks then Go.Psl.lk L1 i else H i, n + 2097152⟩ jmp) : PW P Γ eqs E (.rangeF fo ps pa pb) Q ⟨f, H, n⟩ := by
  have hH' : ∀ i ∈ n :: ks, upd H n (some [.lr f E.nt ps pa pb .ready]) i = Go.Psl.lk ((n, [.lr f E.nt ps pa pb .ready]) :: L) i := fun i hi => by
    simp only [upd_at, Go.Psl.lk]
    by_cases e : i = n
    · simp [e]
    · simp only [e, if_false]
      rcases List.mem_cons.1 hi with h | h
      · exact absurd h e
      · exact hH i h
  refine ⟨h0, g, caps, .yl n :: caps, _, n :: ks, .ret r, _, hg, ⟨hf, callB_keep hL hL1 hH' ⟨rfl, hb⟩⟩, by simp, jmp, by simp [Go.Psl.lk], ?_⟩
  have e : upd (heapM (upd H n (some [.lr f E.nt ps pa pb .ready])) (n + 1048576) (Go.Psl.lk ((n, [.lr f E.nt ps pa pb .ready]) :: L)) (n :: ks) (Go.Psl.lk ((n, [.lr f E.nt ps pa pb jmp]) :: L1))) n none = fun i => if i = n then none else if i ∈ ks then Go.Psl.lk L1 i else H i := by
    rw [heapM_keep hL hL1]
    funext i
    simp only [upd_at]
    by_cases h : i = n
    · simp [h]
    · simp [h, Go.Psl.lk]
  show jumpQ Q ⟨f, upd (heapM _ _ _ _ _) n none, n + 2097152⟩ jmp
  rw [e]; exact hq
/-- what a round leaves -/
theorem RndM.keep {k : Nat} {rc : LSt → V} {s : LSt} {st : St} (h : KeepOk ks L) (hb : st.H k = some [rc .busy]) (hH : ∀ i ∈ ks, upd st.H k (some [rc s]) i = Go.Psl.lk L i) : RndM k rc s ks L st :=
  ⟨hb, rid ks, h.hp hH, h.inj, h.stab hH⟩
end
/-- a round, from the body (a structure, so that nothing unfolds it) -/
structure Rnd (P : Program) (Γ : Tys) (eqs : Eqs) (k : Nat) (fr : Nat → V) (nt : Nat) (ps : List Nat) (pa pb : PC) (args : List V) (Hin : Hp) (ks : List Nat) (s : LSt) (H1 : List (Nat × List V)) (N : Nat) : Prop where
  run : ∀ E : Ent, E.nt = nt → (∀ i, E.stab i ↔ i ∈ ks) → PW P Γ eqs E pa (seqQ (fun st => st.H k = some [.lr fr nt ps pa pb .ready] ∧ PW P Γ eqs E pb (rndQ k (.lr fr nt ps pa pb) s ks H1) ⟨st.fr, upd st.H k (some [.lr fr nt ps pa pb .busy]), st.nx⟩) (fun _ _ => False)) ⟨frPuts fr ps args, Hin, N⟩
theorem Ym.ofR (hΓ : GOk P Γ) (hE : EqOk P eqs) (hm : P.follows .mixedOrders = true) {k : Nat} {fr : Nat → V} {nt : Nat} {ps : List Nat} {pa pb : PC} {args : List V} {ks : List Nat} {s : LSt} {L L1 : List (Nat × List V)} (N : Nat)
    (hL : KeepOk ks L) (hL1 : KeepOk ks L1) (hlt : ∀ i ∈ ks, i < N) (hk : lk L k = some [.lr fr nt ps pa pb .ready]) (hlen : ps.length = args.length) (hps : ∀ p ∈ ps, p < nt) (hcl : ∀ v ∈ args, A2 (· < N) anyD v)
    (h : Rnd P Γ eqs k fr nt ps pa pb args (lk L) ks s L1 N) : Ym P k args (lk L) ks (.ret (.d (.lit (.bool (goesOn s))))) (lk L1) :=
  Ym.of hΓ hE hm N hk (hL.isIn.1 (by rw [hk]; rfl)) hlen hps hcl (HpIds.at (hL.ids hlt)) hlt hL1.res h.run
end Go.Psl
/- Loops over functions, where a round leaves blocks under new names too. -/
namespace Go.Psl
variable {P : Program} {Γ : Tys} {eqs : Eqs} {E : Ent}
/-- a cell with names of ks and xs; of ks alone in a loop's record -/
def CX (ks xs : List Nat) (c : V) : Prop := match c with
  | .lr fr _ _ _ _ _ => ∀ t, AV (· ∈ ks) anyD (fr t)
  | c => W1 (rid (ks ++ xs)) c c
structure KeepX (ks xs : List Nat) (L : List (Nat × List V)) : Prop where
  names : L.map (·.1) = ks ++ xs
  nd : (ks ++ xs).Nodup
  cells : ∀ p ∈ L, p.2 ≠ [] ∧ cellsOk p.2 ∧ ∀ c ∈ p.2, CX ks xs c
section
variable {ks xs xs1 : List Nat} {L L1 : List (Nat × List V)}
theorem KeepX.lk (h : KeepX ks xs L) {p : Nat × List V} (hp : p ∈ L) : Go.Psl.lk L p.1 = some p.2 := lk_nd (by rw [h.names]; exact h.nd) p hp
theorem KeepX.mem (h : KeepX ks xs L) {p : Nat × List V} (hp : p ∈ L) : p.1 ∈ ks ++ xs := by rw [← h.names]; exact List.mem_map.2 ⟨p, hp, rfl⟩
theorem KeepX.isIn (h : KeepX ks xs L) {i : Nat} : (Go.Psl.lk L i).isSome = true ↔ i ∈ ks ++ xs := by
  constructor
  · intro hi
    obtain ⟨x, hx⟩ := Option.isSome_iff_exists.1 hi
    exact h.mem (p := (i, x)) (lk_mem' hx)
  · intro hi
    rw [← h.names] at hi
    obtain ⟨p, hp, rfl⟩ := List.mem_map.1 hi
    rw [h.lk hp]; rfl
/-- where a name of L1 is found behind a call -/
def rx (ks xs : List Nat) (b i : Nat) : Option Nat := if i ∈ ks then some i else if i ∈ xs then some (b + i) else none
theorem rx_sg {b i : Nat} (h : i ∈ ks ++ xs) : rx ks xs b i = some (sg ks b i) := by
  unfold rx sg
  by_cases hk : i ∈ ks
  · simp [hk]
  · rcases List.mem_append.1 h with h | h
    · exact absurd h hk
    · simp [hk, h]
theorem W0_rx {b : Nat} {c : V} (h : W0 (rid (ks ++ xs)) c c) : W0 (rx ks xs b) (ren0 (sg ks b) c) c := by
  cases c with
  | junk => trivial
  | d x => rfl
  | lp i o =>
    obtain ⟨j, hj, _⟩ := h
    exact ⟨_, rx_sg (rid_some hj).1, rfl⟩
  | ls i o l z =>
    unfold W0 at h
    simp only at h
    split at h
    · rename_i j hj
      simp only [W0, rx_sg (rid_some hj).1]; rfl
    · cases h.2
  | yl i =>
    obtain ⟨j, hj, _⟩ := h
    exact ⟨_, rx_sg (rid_some hj).1, rfl⟩
  | lr => exact False.elim h
  | cl f cs => exact False.elim h
  | agg cs => exact False.elim h
  | tup cs => exact False.elim h
theorem all2_map {α : Type} {R : α → α → Prop} {f : α → α} : ∀ {l : List α}, (∀ x ∈ l, R (f x) x) → All2 R (l.map f) l
  | [], _ => trivial
  | a :: l, h => ⟨h a (by simp), all2_map fun x hx => h x (List.mem_cons_of_mem _ hx)⟩
theorem CX_rx {b : Nat} {c : V} (h : CX ks xs c) : WC (rx ks xs b) (renC (sg ks b) c) c := by
  cases c with
  | lr fr nt ps pa pb jmp =>
    have h : ∀ t, AV (· ∈ ks) anyD (fr t) := h
    refine ⟨?_, fun t => AV.mono (fun i hi => by simp [rx, hi]) (fun _ h => h) (h t)⟩
    simp only [renC]
    congr 1
    funext t; exact AV_ren (h t) b
  | cl f cs =>
    obtain ⟨cs', e, h2⟩ := h
    cases e
    have h3 := all2_same h2
    exact ⟨_, rfl, all2_map fun x hx => W0_rx (h3 x hx)⟩
  | junk => trivial
  | d x => rfl
  | lp i o => exact W0_rx (c := .lp i o) h
  | ls i o l z => exact W0_rx (c := .ls i o l z) h
  | yl i => exact W0_rx (c := .yl i) h
  | agg cs => exact False.elim h
  | tup cs => exact False.elim h
theorem W1_rid {c : V} (h : W1 (rid ks) c c) : A1 (· ∈ ks) anyD c := by
  cases c with
  | cl f cs =>
    obtain ⟨cs', e, h2⟩ := h
    cases e
    exact fun c hc => (W0_rid (all2_same h2 c hc)).1
  | junk => exact trivial
  | d x => exact trivial
  | lp i o => exact (W0_rid (c := .lp i o) h).1
  | ls i o l z => exact (W0_rid (c := .ls i o l z) h).1
  | yl i => exact (W0_rid (c := .yl i) h).1
  | lr => exact False.elim h
  | agg cs => exact False.elim h
  | tup cs => exact False.elim h
theorem CX_ac {c : V} (h : CX ks xs c) : AC (· ∈ ks ++ xs) anyD c := by
  cases c with
  | lr fr nt ps pa pb jmp => exact fun t => AV.mono (fun i hi => List.mem_append_left _ hi) (fun _ h => h) (h t)
  | cl f cs => exact W1_rid (c := .cl f cs) h
  | junk => exact trivial
  | d x => exact trivial
  | lp i o => exact W1_rid (c := .lp i o) h
  | ls i o l z => exact W1_rid (c := .ls i o l z) h
  | yl i => exact W1_rid (c := .yl i) h
  | agg cs => exact False.elim h
  | tup cs => exact False.elim h
theorem KeepX.ids (h : KeepX ks xs L) {n : Nat} (hn : ∀ i ∈ ks ++ xs, i < n) : HpIds n L := by
  have key : ∀ M : List (Nat × List V), (∀ p ∈ M, p ∈ L) → HpIds n M := by
    intro M
    induction M with
    | nil => intro _; trivial
    | cons p r ih =>
      intro hM
      have hp := hM p (by simp)
      exact ⟨hn _ (h.mem hp), fun c hc => AC.mono hn (fun _ h => h) (CX_ac ((h.cells p hp).2.2 c hc)), ih fun q hq => hM q (List.mem_cons_of_mem _ hq)⟩
  exact key L fun _ h => h
theorem KeepX.res (h : KeepX ks xs L) : ∀ p ∈ L, ∀ c ∈ p.2, AC (InB L) anyD c := fun p hp c hc => AC.mono (fun _ hi => h.isIn.2 hi) (fun _ h => h) (CX_ac ((h.cells p hp).2.2 c hc))
/-- the heap behind a call, name by name -/
theorem heapX_at {H : Hp} {b : Nat} (hL : KeepX ks xs L) (hL1 : KeepX ks xs1 L1) (hb : ∀ i ∈ ks ++ xs, i < b) {p : Nat × List V} (hp : p ∈ L1) : heapM H b (Go.Psl.lk L) ks (Go.Psl.lk L1) (sg ks b p.1) = some (p.2.map (renC (sg ks b))) := by
  have h1 := hL1.lk hp
  by_cases hk : p.1 ∈ ks
  · simp only [heapM, sg, hk, if_true, h1, Option.map_some]
  · have e : sg ks b p.1 = b + p.1 := by simp [sg, hk]
    have n1 : ¬ (b + p.1 ∈ ks) := fun h => by have := hb _ (List.mem_append_left _ h); omega
    have n2 : (Go.Psl.lk L (b + p.1)).isSome = false := by
      cases hc : (Go.Psl.lk L (b + p.1)).isSome with
      | false => rfl
      | true => have := hb _ (hL.isIn.1 hc); omega
    rw [e]
    simp only [heapM, n1, if_false, n2, Bool.false_eq_true, Nat.le_add_right, if_true, Nat.add_sub_cancel_left, hk, h1]
theorem heapX_out {H : Hp} {b : Nat} (hL : KeepX ks xs L) (_ : KeepX ks xs1 L1) {i : Nat} (h1 : i ∉ ks ++ xs) (h2 : i < b) : heapM H b (Go.Psl.lk L) ks (Go.Psl.lk L1) i = H i := by
  have n1 : ¬ i ∈ ks := fun h => h1 (List.mem_append_left _ h)
  have n2 : (Go.Psl.lk L i).isSome = false := by
    cases hc : (Go.Psl.lk L i).isSome with
    | false => rfl
    | true => exact absurd (hL.isIn.1 hc) h1
  simp only [heapM, n1, if_false, n2, Bool.false_eq_true, show ¬ b ≤ i by omega]
theorem rx_names {H' : Hp} {b : Nat} (hL1 : KeepX ks xs1 L1) (hH : ∀ p ∈ L1, H' (sg ks b p.1) = some (p.2.map (renC (sg ks b)))) : HpOk (rx ks xs1 b) H' L1 := by
  have key : ∀ M : List (Nat × List V), (∀ p ∈ M, p ∈ L1) → HpOk (rx ks xs1 b) H' M := by
    intro M
    induction M with
    | nil => intro _; trivial
    | cons p r ih =>
      intro hM
      have hp := hM p (by simp)
      obtain ⟨c1, c2, c3⟩ := hL1.cells p hp
      refine ⟨?_, ih fun q hq => hM q (List.mem_cons_of_mem _ hq)⟩
      rw [rx_sg (hL1.mem hp)]
      exact ⟨⟨_, hH p hp, all2_map fun c hc => CX_rx (c3 c hc)⟩, c2⟩
  exact key L1 fun _ h => h
theorem rx_inj {b : Nat} (hL1 : KeepX ks xs1 L1) (hb : ∀ i ∈ ks, i < b) : RhoInj (rx ks xs1 b) L1 := by
  have key : ∀ M : List (Nat × List V), (∀ p ∈ M, p ∈ L1) → RhoInj (rx ks xs1 b) M := by
    intro M
    induction M with
    | nil => intro _; trivial
    | cons p r ih =>
      intro hM
      refine ⟨fun q hq => ?_, ih fun q hq => hM q (List.mem_cons_of_mem _ hq)⟩
      rw [rx_sg (hL1.mem (hM p (by simp))), rx_sg (hL1.mem (hM q (List.mem_cons_of_mem _ hq)))]
      by_cases e : q.1 = p.1
      · exact Or.inr (Or.inr e)
      · refine Or.inr (Or.inl fun e' => e ?_)
        have e' := Option.some.inj e'
        unfold sg at e'
        split at e' <;> split at e'
        · exact e'
        · rename_i h1 h2; have := hb _ h1; omega
        · rename_i h1 h2; have := hb _ h2; omega
        · omega
  exact key L1 fun _ h => h
theorem rx_stab {H' : Hp} {b : Nat} (_ : KeepX ks xs1 L1) (hH : ∀ p ∈ L1, H' (sg ks b p.1) = some (p.2.map (renC (sg ks b)))) : ∀ i ∈ ks, (Go.Psl.lk L1 i).isSome = true → rx ks xs1 b i = some i ∧ (H' i).isSome = true := fun i hi hs => by
  obtain ⟨x, hx⟩ := Option.isSome_iff_exists.1 hs
  have := hH (i, x) (lk_mem' hx)
  rw [show sg ks b i = i by simp [sg, hi]] at this
  exact ⟨by simp [rx, hi], by rw [this]; rfl⟩
theorem stabL_of {ρ : Nat → Option Nat} {H h : Hp} : ∀ {M : List Nat}, (∀ i ∈ M, (h i).isSome = true → ρ i = some i ∧ (H i).isSome = true) → StabL ρ H h M
  | [], _ => trivial
  | i :: r, hM => ⟨hM i (by simp), stabL_of fun j hj => hM j (List.mem_cons_of_mem _ hj)⟩
theorem stabW_of {ρ : Nat → Option Nat} {H h : Hp} {n : Nat} : ∀ {M : List Nat}, (∀ i ∈ M, i < n) → (∀ i ∈ M, (h i).isSome = true → ρ i = some i ∧ (H i).isSome = true) → StabW ρ H h n M
  | [], _, _ => trivial
  | i :: r, hn, hM => ⟨hn i (by simp), hM i (by simp), stabW_of (fun j hj => hn j (List.mem_cons_of_mem _ hj)) fun j hj => hM j (List.mem_cons_of_mem _ hj)⟩
theorem Weak.keepX {st : St} {b : Nat} (hs : ∀ i, E.stab i ↔ i ∈ ks) (h : KeepX ks xs1 L1) (hb : ∀ i ∈ ks, i < b) (hH : ∀ p ∈ L1, st.H (sg ks b p.1) = some (p.2.map (renC (sg ks b)))) {n : Nat} (hn : ∀ i ∈ ks ++ xs1, i < n) (l : List (Nat × V)) (h1 : SlotsOk (rx ks xs1 b) st.fr l) (h4 : SlotsIds n l) : Weak P E st ⟨slots l, Go.Psl.lk L1, n⟩ :=
  Weak.mkM hs (rx ks xs1 b) l L1 n h1 (rx_names h hH) (rx_inj h hb) h4 (h.ids hn) (stabW_of (fun i hi => hn i (List.mem_append_left _ hi)) (rx_stab h hH))
theorem RetM.keepX {fn : Func} {st : St} {b : Nat} (hn : fn.results = #[]) (h : KeepX ks xs1 L1) (hb : ∀ i ∈ ks, i < b) (hH : ∀ p ∈ L1, st.H (sg ks b p.1) = some (p.2.map (renC (sg ks b)))) : RetM Γ fn ks (.tup []) L1 st :=
  ⟨[], rx ks xs1 b, by rw [hn]; rfl, rfl, by simp, rx_names h hH, rx_inj h hb, stabL_of (rx_stab h hH)⟩
theorem callB_keepX {H : Hp} {av args : List V} {res : Res} (hL : KeepX ks xs L) (hL1 : KeepX ks xs1 L1) (hx : ∀ i ∈ xs1, i < 1048576) (hH : ∀ i ∈ ks ++ xs, H i = Go.Psl.lk L i) (hb : All2 (Bor noH) av args) : CallB H av args (Go.Psl.lk L) ks res (Go.Psl.lk L1) :=
  ⟨fun i cs h => by rw [hH i (hL.isIn.1 (by rw [h]; rfl)), h], fun i h hn => by
    rcases List.mem_append.1 (hL1.isIn.1 h) with h | h
    · exact absurd h hn
    · exact hx i h, fun i hi => by
    obtain ⟨x, hx⟩ := Option.isSome_iff_exists.1 (hL.isIn.2 (List.mem_append_left _ hi))
    exact ⟨x, hx, (hL.cells (i, x) (lk_mem' hx)).1⟩, Or.inl hb⟩
theorem CX_rid {c : V} (h : CX ks xs c) : WC (rid (ks ++ xs)) c c := by
  cases c with
  | lr fr nt ps pa pb jmp => exact ⟨rfl, fun t => AV.mono (fun i hi => rid_in (List.mem_append_left _ hi)) (fun _ h => h) (h t)⟩
  | cl f cs => exact h
  | junk => exact h
  | d x => exact h
  | lp i o => exact h
  | ls i o l z => exact h
  | yl i => exact h
  | agg cs => exact h
  | tup cs => exact h
theorem KeepX.same (h : KeepX ks xs L) : KeepOk (ks ++ xs) L := ⟨h.names, h.nd, fun p hp => ⟨(h.cells p hp).1, (h.cells p hp).2.1, fun c hc => CX_rid ((h.cells p hp).2.2 c hc)⟩⟩
theorem Weak.sameX {st : St} (hs : ∀ i, E.stab i ↔ i ∈ ks) (h : KeepX ks xs L) (hH : st.H = Go.Psl.lk L) {n : Nat} (hn : ∀ i ∈ ks ++ xs, i < n) (l : List (Nat × V)) (h1 : SlotsOk (rid (ks ++ xs)) st.fr l) (h4 : SlotsIds n l) : Weak P E st ⟨slots l, Go.Psl.lk L, n⟩ :=
  Weak.mkM hs (rid (ks ++ xs)) l L n h1 (h.same.hp fun i _ => by rw [hH]) h.same.inj h4 (h.ids hn) (stabW_of (fun i hi => hn i (List.mem_append_left _ hi)) fun i hi hs => ⟨rid_in (List.mem_append_left _ hi), by rw [hH]; exact hs⟩)
theorem RetM.sameX {fn : Func} {st : St} (hn : fn.results = #[]) (h : KeepX ks xs L) (hH : st.H = Go.Psl.lk L) : RetM Γ fn ks (.tup []) L st :=
  ⟨[], rid (ks ++ xs), by rw [hn]; rfl, rfl, by simp, h.same.hp fun i _ => by rw [hH], h.same.inj, stabL_of fun i hi hs => ⟨rid_in (List.mem_append_left _ hi), by rw [hH]; exact hs⟩⟩
/-- a call of yield -/
theorem AYield.keepX {H : Hp} {b k : Nat} {av : List V} {Kc Kx : V → Hp → Prop} (args : List V) (L L1 : List (Nat × List V)) (ks xs xs1 : List Nat) (r : D) (hf : Ym P k args (Go.Psl.lk L) ks (.ret (.d r)) (Go.Psl.lk L1)) (hL : KeepX ks xs L) (hL1 : KeepX ks xs1 L1) (hx : ∀ i ∈ xs1, i < 1048576)
    (hrec : ∃ fr nt ps pa pb jmp, Go.Psl.lk L k = some [.lr fr nt ps pa pb jmp] ∧ ps.length = args.length) (hH : ∀ i ∈ ks ++ xs, H i = Go.Psl.lk L i) (hb : All2 (Bor noH) av args) (hk : Kc (.d r) (heapM H b (Go.Psl.lk L) ks (Go.Psl.lk L1))) : AYield P true H H b k av Kc Kx :=
  ⟨rfl, args, Go.Psl.lk L, ks, .ret (.d r), Go.Psl.lk L1, _, ⟨hf, hrec, callB_keepX hL hL1 hx hH hb⟩, rfl, hk⟩
theorem Ym.ofX (hΓ : GOk P Γ) (hE : EqOk P eqs) (hm : P.follows .mixedOrders = true) {k : Nat} {fr : Nat → V} {nt : Nat} {ps : List Nat} {pa pb : PC} {args : List V} {s : LSt} (N : Nat)
    (hL : KeepX ks xs L) (hL1 : KeepX ks xs1 L1) (hlt : ∀ i ∈ ks ++ xs, i < N) (hkk : k ∈ ks) (hk : Go.Psl.lk L k = some [.lr fr nt ps pa pb .ready]) (hlen : ps.length = args.length) (hps : ∀ p ∈ ps, p < nt) (hcl : ∀ v ∈ args, A2 (· < N) anyD v)
    (h : Rnd P Γ eqs k fr nt ps pa pb args (Go.Psl.lk L) ks s L1 N) : Ym P k args (Go.Psl.lk L) ks (.ret (.d (.lit (.bool (goesOn s))))) (Go.Psl.lk L1) :=
  Ym.of hΓ hE hm N hk hkk hlen hps hcl (HpIds.at (hL.ids hlt)) (fun i hi => hlt i (List.mem_append_left _ hi)) hL1.res h.run
/-- a loop over a function; what is behind it is told name by name -/
theorem PRange.keepX {fo : Operand} {ps : List Nat} {pa pb : PC} {Q : AExit → St → Prop} {f : Nat → V} {H : Hp} {n : Nat} {g : FuncId} {caps : List V} (L L1 : List (Nat × List V)) (ks xs xs1 : List Nat) (r : V) (jmp : LSt) (h0 : E.rd = none) (hg : calleeOf (evF f fo) = some (g, caps))
    (hf : Cm P g (.yl n :: caps) (Go.Psl.lk ((n, [.lr f E.nt ps pa pb .ready]) :: L)) (n :: ks) (.ret r) (Go.Psl.lk ((n, [.lr f E.nt ps pa pb jmp]) :: L1)))
    (hL : KeepX (n :: ks) xs ((n, [.lr f E.nt ps pa pb .ready]) :: L)) (hL1 : KeepX (n :: ks) xs1 ((n, [.lr f E.nt ps pa pb jmp]) :: L1)) (hx : ∀ i ∈ xs1, i < 1048576) (hlt : ∀ i ∈ ks ++ xs, i < n) (hH : ∀ i ∈ ks ++ xs, H i = Go.Psl.lk L i) (hb : All2 (Bor noH) caps caps)
    (hq : ∀ F : Hp, (∀ p ∈ L1, F (sg (n :: ks) (n + 1048576) p.1) = some (p.2.map (renC (sg (n :: ks) (n + 1048576))))) → (∀ i, i ∉ ks ++ xs → i < n → F i = H i) → jumpQ Q ⟨f, F, n + 2097152⟩ jmp) : PW P Γ eqs E (.rangeF fo ps pa pb) Q ⟨f, H, n⟩ := by
  have hH' : ∀ i ∈ n :: ks ++ xs, upd H n (some [.lr f E.nt ps pa pb .ready]) i = Go.Psl.lk ((n, [.lr f E.nt ps pa pb .ready]) :: L) i := fun i hi => by
    simp only [upd_at, Go.Psl.lk]
    by_cases e : i = n
    · simp [e]
    · simp only [e, if_false]
      rw [List.cons_append] at hi
      rcases List.mem_cons.1 hi with h | h
      · exact absurd h e
      · exact hH i h
  have hbk : ∀ i ∈ n :: ks ++ xs, i < n + 1048576 := fun i hi => by
    rw [List.cons_append] at hi
    rcases List.mem_cons.1 hi with h | h
    · omega
    · have := hlt i h; omega
  refine ⟨h0, g, caps, .yl n :: caps, _, n :: ks, .ret r, _, hg, ⟨hf, callB_keepX hL hL1 hx hH' ⟨rfl, hb⟩⟩, by simp, jmp, by simp [Go.Psl.lk], ?_⟩
  refine hq _ (fun p hp => ?_) fun i hi hin => ?_
  · have hm : p.1 ∈ ks ++ xs1 := by
      have := hL1.names
      simp only [List.map_cons, List.cons_append, List.cons.injEq, true_and] at this
      rw [← this]; exact List.mem_map.2 ⟨p, hp, rfl⟩
    have hne : sg (n :: ks) (n + 1048576) p.1 ≠ n := fun e => by
      have hnd := hL1.nd
      rw [List.cons_append] at hnd
      have hnm := (List.nodup_cons.1 hnd).1
      unfold sg at e
      split at e
      · rw [e] at hm; exact hnm hm
      · omega
    simp only [upd_at, hne, if_false]
    exact heapX_at hL hL1 hbk (List.mem_cons_of_mem _ hp)
  · have hne : i ≠ n := by omega
    simp only [upd_at, hne, if_false]
    rw [heapX_out hL hL1 (by rw [List.cons_append]; intro h; rcases List.mem_cons.1 h with h | h; exact hne h; exact hi h) (by omega)]
    simp [upd_at, hne]
end
end Go.Psl
