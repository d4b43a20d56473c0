/- Own lemmas and contracts of functions, used by the last text of this claim for the given statement. Conditions: those that each theorem states. -/
import Derived.Test.YtigekgfbcfbobaaGreatCah
import Derived.Test.YtigekgfbcfbobaaGreatCak
import Derived.Test.YtigekgfbcfbobaaGreatCan
namespace Go.Psl
variable {P : Program} {Γ : Tys} {eqs : Eqs} {E : Ent}
def CX (ks xs : List Nat) (c : V) : Prop := match c with
 | .lr fr _ _ _ _ _ => ∀ t, AV (· ∈ ks) anyD (fr t)
 | c => W1 (rid (ks ++ xs)) c c
structure KeepX (ks xs : List Nat) (L : List (Nat × List V)) : Prop where
 names : L.map (·.1) = ks ++ xs
 nd : (ks ++ xs).Nodup
 cells : ∀ p ∈ L, p.2 ≠ [] /\ cellsOk p.2 /\ ∀ c ∈ p.2, CX ks xs c
section
variable {ks xs xs1 : List Nat} {L L1 : List (Nat × List V)}
theorem KeepX.lk (h : KeepX ks xs L) {p : Nat × List V} (hp : p ∈ L) : Go.Psl.lk L p.1 = some p.2 := lk_nd (by rw [h.names]; exact h.nd) p hp
theorem KeepX.mem (h : KeepX ks xs L) {p : Nat × List V} (hp : p ∈ L) : p.1 ∈ ks ++ xs := by rw [<- h.names]; exact List.mem_map.2 ⟨p, hp, rfl⟩
theorem KeepX.isIn (h : KeepX ks xs L) {i : Nat} : (Go.Psl.lk L i).isSome = true ↔ i ∈ ks ++ xs := by
 constructor
 . intro hi
   obtain ⟨x, hx⟩ := Option.isSome_iff_exists.1 hi
   exact h.mem (p := (i, x)) (lk_mem' hx)
 . intro hi
   rw [<- h.names] at hi
   obtain ⟨p, hp, rfl⟩ := List.mem_map.1 hi
   rw [h.lk hp]; rfl
def rx (ks xs : List Nat) (b i : Nat) : Option Nat := if i ∈ ks then some i else if i ∈ xs then some (b + i) else none
theorem rx_sg {b i : Nat} (h : i ∈ ks ++ xs) : rx ks xs b i = some (sg ks b i) := by
 unfold rx sg
 by_cases hk : i ∈ ks
 . simp [hk]
 . rcases List.mem_append.1 h with h | h
   . exact absurd h hk
   . simp [hk, h]
theorem W0_rx {b : Nat} {c : V} (h : W0 (rid (ks ++ xs)) c c) : W0 (rx ks xs b) (ren0 (sg ks b) c) c := by
 cases c with
 | junk => trivial
 | d x => rfl
 | lp i o =>
   obtain ⟨j, hj, _⟩ := h
   exact ⟨_, rx_sg (rid_some hj).1, rfl⟩
 | ls i o l z =>
   unfold W0 at h
   simp only at h
   split at h
   . rename_i j hj
     simp only [W0, rx_sg (rid_some hj).1]; rfl
   . cases h.2
 | yl i =>
   obtain ⟨j, hj, _⟩ := h
   exact ⟨_, rx_sg (rid_some hj).1, rfl⟩
 | lr => exact False.elim h
 | cl f cs => exact False.elim h
 | agg cs => exact False.elim h
 | tup cs => exact False.elim h
theorem all2_map {α : Type} {R : α -> α -> Prop} {f : α -> α} : ∀ {l : List α}, (∀ x ∈ l, R (f x) x) -> All2 R (l.map f) l
 | [], _ => trivial
 | a :: l, h => ⟨h a (by simp), all2_map fun x hx => h x (List.mem_cons_of_mem _ hx)⟩
theorem CX_rx {b : Nat} {c : V} (h : CX ks xs c) : WC (rx ks xs b) (renC (sg ks b) c) c := by
 cases c with
 | lr fr nt ps pa pb jmp =>
   have h : ∀ t, AV (· ∈ ks) anyD (fr t) := h
   refine ⟨?_, fun t => AV.mono (fun i hi => by simp [rx, hi]) (fun _ h => h) (h t)⟩
   simp only [renC]
   congr 1
   funext t; exact AV_ren (h t) b
 | cl f cs =>
   obtain ⟨cs', e, h2⟩ := h
   cases e
   have h3 := all2_same h2
   exact ⟨_, rfl, all2_map fun x hx => W0_rx (h3 x hx)⟩
 | junk => trivial
 | d x => rfl
 | lp i o => exact W0_rx (c := .lp i o) h
 | ls i o l z => exact W0_rx (c := .ls i o l z) h
 | yl i => exact W0_rx (c := .yl i) h
 | agg cs => exact False.elim h
 | tup cs => exact False.elim h
theorem W1_rid {c : V} (h : W1 (rid ks) c c) : A1 (· ∈ ks) anyD c := by
 cases c with
 | cl f cs =>
   obtain ⟨cs', e, h2⟩ := h
   cases e
   exact fun c hc => (W0_rid (all2_same h2 c hc)).1
 | junk => exact trivial
 | d x => exact trivial
 | lp i o => exact (W0_rid (c := .lp i o) h).1
 | ls i o l z => exact (W0_rid (c := .ls i o l z) h).1
 | yl i => exact (W0_rid (c := .yl i) h).1
 | lr => exact False.elim h
 | agg cs => exact False.elim h
 | tup cs => exact False.elim h
theorem CX_ac {c : V} (h : CX ks xs c) : AC (· ∈ ks ++ xs) anyD c := by
 cases c with
 | lr fr nt ps pa pb jmp => exact fun t => AV.mono (fun i hi => List.mem_append_left _ hi) (fun _ h => h) (h t)
 | cl f cs => exact W1_rid (c := .cl f cs) h
 | junk => exact trivial
 | d x => exact trivial
 | lp i o => exact W1_rid (c := .lp i o) h
 | ls i o l z => exact W1_rid (c := .ls i o l z) h
 | yl i => exact W1_rid (c := .yl i) h
 | agg cs => exact False.elim h
 | tup cs => exact False.elim h
theorem KeepX.ids (h : KeepX ks xs L) {n : Nat} (hn : ∀ i ∈ ks ++ xs, i < n) : HpIds n L := by
 have key : ∀ M : List (Nat × List V), (∀ p ∈ M, p ∈ L) -> HpIds n M := by
   intro M
   induction M with
   | nil => intro _; trivial
   | cons p r ih =>
     intro hM
     have hp := hM p (by simp)
     exact ⟨hn _ (h.mem hp), fun c hc => AC.mono hn (fun _ h => h) (CX_ac ((h.cells p hp).2.2 c hc)), ih fun q hq => hM q (List.mem_cons_of_mem _ hq)⟩
 exact key L fun _ h => h
theorem KeepX.res (h : KeepX ks xs L) : ∀ p ∈ L, ∀ c ∈ p.2, AC (InB L) anyD c := fun p hp c hc => AC.mono (fun _ hi => h.isIn.2 hi) (fun _ h => h) (CX_ac ((h.cells p hp).2.2 c hc))
theorem heapX_at {H : Hp} {b : Nat} (hL : KeepX ks xs L) (hL1 : KeepX ks xs1 L1) (hb : ∀ i ∈ ks ++ xs, i < b) {p : Nat × List V} (hp : p ∈ L1) : heapM H b (Go.Psl.lk L) ks (Go.Psl.lk L1) (sg ks b p.1) = some (p.2.map (renC (sg ks b))) := by
 have h1 := hL1.lk hp
 by_cases hk : p.1 ∈ ks
 . simp only [heapM, sg, hk, if_true, h1, Option.map_some]
 . have e : sg ks b p.1 = b + p.1 := by simp [sg, hk]
   have n1 : ¬ (b + p.1 ∈ ks) := fun h => by have := hb _ (List.mem_append_left _ h); omega
   have n2 : (Go.Psl.lk L (b + p.1)).isSome = false := by
     cases hc : (Go.Psl.lk L (b + p.1)).isSome with
     | false => rfl
     | true => have := hb _ (hL.isIn.1 hc); omega
   rw [e]
   simp only [heapM, n1, if_false, n2, Bool.false_eq_true, Nat.le_add_right, if_true, Nat.add_sub_cancel_left, hk, h1]
theorem heapX_out {H : Hp} {b : Nat} (hL : KeepX ks xs L) (_ : KeepX ks xs1 L1) {i : Nat} (h1 : i ∉ ks ++ xs) (h2 : i < b) : heapM H b (Go.Psl.lk L) ks (Go.Psl.lk L1) i = H i := by
 have n1 : ¬ i ∈ ks := fun h => h1 (List.mem_append_left _ h)
 have n2 : (Go.Psl.lk L i).isSome = false := by
   cases hc : (Go.Psl.lk L i).isSome with
   | false => rfl
   | true => exact absurd (hL.isIn.1 hc) h1
 simp only [heapM, n1, if_false, n2, Bool.false_eq_true, show ¬ b <= i by omega]
theorem rx_names {H' : Hp} {b : Nat} (hL1 : KeepX ks xs1 L1) (hH : ∀ p ∈ L1, H' (sg ks b p.1) = some (p.2.map (renC (sg ks b)))) : HpOk (rx ks xs1 b) H' L1 := by
 have key : ∀ M : List (Nat × List V), (∀ p ∈ M, p ∈ L1) -> HpOk (rx ks xs1 b) H' M := by
   intro M
   induction M with
   | nil => intro _; trivial
   | cons p r ih =>
     intro hM
     have hp := hM p (by simp)
     obtain ⟨c1, c2, c3⟩ := hL1.cells p hp
     refine ⟨?_, ih fun q hq => hM q (List.mem_cons_of_mem _ hq)⟩
     rw [rx_sg (hL1.mem hp)]
     exact ⟨⟨_, hH p hp, all2_map fun c hc => CX_rx (c3 c hc)⟩, c2⟩
 exact key L1 fun _ h => h
theorem rx_inj {b : Nat} (hL1 : KeepX ks xs1 L1) (hb : ∀ i ∈ ks, i < b) : RhoInj (rx ks xs1 b) L1 := by
 have key : ∀ M : List (Nat × List V), (∀ p ∈ M, p ∈ L1) -> RhoInj (rx ks xs1 b) M := by
   intro M
   induction M with
   | nil => intro _; trivial
   | cons p r ih =>
     intro hM
     refine ⟨fun q hq => ?_, ih fun q hq => hM q (List.mem_cons_of_mem _ hq)⟩
     rw [rx_sg (hL1.mem (hM p (by simp))), rx_sg (hL1.mem (hM q (List.mem_cons_of_mem _ hq)))]
     by_cases e : q.1 = p.1
     . exact Or.inr (Or.inr e)
     . refine Or.inr (Or.inl fun e' => e ?_)
       have e' := Option.some.inj e'
       unfold sg at e'
       split at e' <;> split at e'
       . exact e'
       . rename_i h1 h2; have := hb _ h1; omega
       . rename_i h1 h2; have := hb _ h2; omega
       . omega
 exact key L1 fun _ h => h
theorem rx_stab {H' : Hp} {b : Nat} (_ : KeepX ks xs1 L1) (hH : ∀ p ∈ L1, H' (sg ks b p.1) = some (p.2.map (renC (sg ks b)))) : ∀ i ∈ ks, (Go.Psl.lk L1 i).isSome = true -> rx ks xs1 b i = some i /\ (H' i).isSome = true := fun i hi hs => by
 obtain ⟨x, hx⟩ := Option.isSome_iff_exists.1 hs
 have := hH (i, x) (lk_mem' hx)
 rw [show sg ks b i = i by simp [sg, hi]] at this
 exact ⟨by simp [rx, hi], by rw [this]; rfl⟩
theorem stabL_of {ρ : Nat -> Option Nat} {H h : Hp} : ∀ {M : List Nat}, (∀ i ∈ M, (h i).isSome = true -> ρ i = some i /\ (H i).isSome = true) -> StabL ρ H h M
 | [], _ => trivial
 | i :: r, hM => ⟨hM i (by simp), stabL_of fun j hj => hM j (List.mem_cons_of_mem _ hj)⟩
theorem stabW_of {ρ : Nat -> Option Nat} {H h : Hp} {n : Nat} : ∀ {M : List Nat}, (∀ i ∈ M, i < n) -> (∀ i ∈ M, (h i).isSome = true -> ρ i = some i /\ (H i).isSome = true) -> StabW ρ H h n M
 | [], _, _ => trivial
 | i :: r, hn, hM => ⟨hn i (by simp), hM i (by simp), stabW_of (fun j hj => hn j (List.mem_cons_of_mem _ hj)) fun j hj => hM j (List.mem_cons_of_mem _ hj)⟩
theorem Weak.keepX {st : St} {b : Nat} (hs : ∀ i, E.stab i ↔ i ∈ ks) (h : KeepX ks xs1 L1) (hb : ∀ i ∈ ks, i < b) (hH : ∀ p ∈ L1, st.H (sg ks b p.1) = some (p.2.map (renC (sg ks b)))) {n : Nat} (hn : ∀ i ∈ ks ++ xs1, i < n) (l : List (Nat × V)) (h1 : SlotsOk (rx ks xs1 b) st.fr l) (h4 : SlotsIds n l) : Weak P E st ⟨slots l, Go.Psl.lk L1, n⟩ :=
 Weak.mkM hs (rx ks xs1 b) l L1 n h1 (rx_names h hH) (rx_inj h hb) h4 (h.ids hn) (stabW_of (fun i hi => hn i (List.mem_append_left _ hi)) (rx_stab h hH))
theorem RetM.keepX {fn : Func} {st : St} {b : Nat} (hn : fn.results = #[]) (h : KeepX ks xs1 L1) (hb : ∀ i ∈ ks, i < b) (hH : ∀ p ∈ L1, st.H (sg ks b p.1) = some (p.2.map (renC (sg ks b)))) : RetM Γ fn ks (.tup []) L1 st :=
 ⟨[], rx ks xs1 b, by rw [hn]; rfl, rfl, by simp, rx_names h hH, rx_inj h hb, stabL_of (rx_stab h hH)⟩
theorem callB_keepX {H : Hp} {av args : List V} {res : Res} (hL : KeepX ks xs L) (hL1 : KeepX ks xs1 L1) (hx : ∀ i ∈ xs1, i < 1048576) (hH : ∀ i ∈ ks ++ xs, H i = Go.Psl.lk L i) (hb : All2 (Bor noH) av args) : CallB H av args (Go.Psl.lk L) ks res (Go.Psl.lk L1) :=
 ⟨fun i cs h => by rw [hH i (hL.isIn.1 (by rw [h]; rfl)), h], fun i h hn => by
   rcases List.mem_append.1 (hL1.isIn.1 h) with h | h
   . exact absurd h hn
   . exact hx i h, fun i hi => by
   obtain ⟨x, hx⟩ := Option.isSome_iff_exists.1 (hL.isIn.2 (List.mem_append_left _ hi))
   exact ⟨x, hx, (hL.cells (i, x) (lk_mem' hx)).1⟩, Or.inl hb⟩
theorem CX_rid {c : V} (h : CX ks xs c) : WC (rid (ks ++ xs)) c c := by
 cases c with
 | lr fr nt ps pa pb jmp => exact ⟨rfl, fun t => AV.mono (fun i hi => rid_in (List.mem_append_left _ hi)) (fun _ h => h) (h t)⟩
 | cl f cs => exact h
 | junk => exact h
 | d x => exact h
 | lp i o => exact h
 | ls i o l z => exact h
 | yl i => exact h
 | agg cs => exact h
 | tup cs => exact h
theorem KeepX.same (h : KeepX ks xs L) : KeepOk (ks ++ xs) L := ⟨h.names, h.nd, fun p hp => ⟨(h.cells p hp).1, (h.cells p hp).2.1, fun c hc => CX_rid ((h.cells p hp).2.2 c hc)⟩⟩
theorem Weak.sameX {st : St} (hs : ∀ i, E.stab i ↔ i ∈ ks) (h : KeepX ks xs L) (hH : st.H = Go.Psl.lk L) {n : Nat} (hn : ∀ i ∈ ks ++ xs, i < n) (l : List (Nat × V)) (h1 : SlotsOk (rid (ks ++ xs)) st.fr l) (h4 : SlotsIds n l) : Weak P E st ⟨slots l, Go.Psl.lk L, n⟩ :=
 Weak.mkM hs (rid (ks ++ xs)) l L n h1 (h.same.hp fun i _ => by rw [hH]) h.same.inj h4 (h.ids hn) (stabW_of (fun i hi => hn i (List.mem_append_left _ hi)) fun i hi hs => ⟨rid_in (List.mem_append_left _ hi), by rw [hH]; exact hs⟩)
theorem RetM.sameX {fn : Func} {st : St} (hn : fn.results = #[]) (h : KeepX ks xs L) (hH : st.H = Go.Psl.lk L) : RetM Γ fn ks (.tup []) L st :=
 ⟨[], rid (ks ++ xs), by rw [hn]; rfl, rfl, by simp, h.same.hp fun i _ => by rw [hH], h.same.inj, stabL_of fun i hi hs => ⟨rid_in (List.mem_append_left _ hi), by rw [hH]; exact hs⟩⟩
theorem AYield.keepX {H : Hp} {b k : Nat} {av : List V} {Kc Kx : V -> Hp -> Prop} (args : List V) (L L1 : List (Nat × List V)) (ks xs xs1 : List Nat) (r : D) (hf : Ym P k args (Go.Psl.lk L) ks (.ret (.d r)) (Go.Psl.lk L1)) (hL : KeepX ks xs L) (hL1 : KeepX ks xs1 L1) (hx : ∀ i ∈ xs1, i < 1048576)
   (hrec : ∃ fr nt ps pa pb jmp, Go.Psl.lk L k = some [.lr fr nt ps pa pb jmp] /\ ps.length = args.length) (hH : ∀ i ∈ ks ++ xs, H i = Go.Psl.lk L i) (hb : All2 (Bor noH) av args) (hk : Kc (.d r) (heapM H b (Go.Psl.lk L) ks (Go.Psl.lk L1))) : AYield P none H H b k av Kc Kx :=
 ⟨rfl, args, Go.Psl.lk L, ks, .ret (.d r), Go.Psl.lk L1, _, ⟨hf, hrec, callB_keepX hL hL1 hx hH hb⟩, rfl, hk⟩
theorem Ym.ofX (hΓ : GOk P Γ) (hE : EqOk P eqs) (hm : P.follows .mixedOrders = true) {k : Nat} {fr : Nat -> V} {nt : Nat} {ps : List Nat} {pa pb : PC} {args : List V} {s : LSt} (N : Nat)
   (hL : KeepX ks xs L) (hL1 : KeepX ks xs1 L1) (hlt : ∀ i ∈ ks ++ xs, i < N) (hkk : k ∈ ks) (hk : Go.Psl.lk L k = some [.lr fr nt ps pa pb .ready]) (hlen : ps.length = args.length) (hps : ∀ p ∈ ps, p < nt) (hcl : ∀ v ∈ args, A2 (· < N) anyD v)
   (h : Rnd P Γ eqs k fr nt ps pa pb args (Go.Psl.lk L) ks s L1 N) : Ym P k args (Go.Psl.lk L) ks (.ret (.d (.lit (.bool (goesOn s))))) (Go.Psl.lk L1) :=
 Ym.of hΓ hE hm N hk hkk hlen hps hcl (HpIds.at (hL.ids hlt)) (fun i hi => hlt i (List.mem_append_left _ hi)) hL1.res h.run
theorem PRange.keepX {fo : Operand} {ps : List Nat} {pa pb : PC} {Q : AExit -> St -> Prop} {f : Nat -> V} {H : Hp} {n : Nat} {g : FuncId} {caps : List V} (L L1 : List (Nat × List V)) (ks xs xs1 : List Nat) (r : V) (jmp : LSt) (h0 : E.rq) (hg : calleeOf (evF f fo) = some (g, caps))
   (hf : Cm P g (.yl n :: caps) (Go.Psl.lk ((n, [.lr f E.nt ps pa pb .ready]) :: L)) (n :: ks) (.ret r) (Go.Psl.lk ((n, [.lr f E.nt ps pa pb jmp]) :: L1)))
   (hL : KeepX (n :: ks) xs ((n, [.lr f E.nt ps pa pb .ready]) :: L)) (hL1 : KeepX (n :: ks) xs1 ((n, [.lr f E.nt ps pa pb jmp]) :: L1)) (hx : ∀ i ∈ xs1, i < 1048576) (hlt : ∀ i ∈ ks ++ xs, i < n) (hH : ∀ i ∈ ks ++ xs, H i = Go.Psl.lk L i) (hb : All2 (Bor noH) caps caps)
   (hq : ∀ F : Hp, (∀ p ∈ L1, F (sg (n :: ks) (n + 1048576) p.1) = some (p.2.map (renC (sg (n :: ks) (n + 1048576))))) -> (∀ i, i ∉ ks ++ xs -> i < n -> F i = H i) -> jumpQ Q ⟨f, F, n + 2097152⟩ jmp) : PW P Γ eqs E (.rangeF fo ps pa pb) Q ⟨f, H, n⟩ := by
 have hH' : ∀ i ∈ n :: ks ++ xs, upd H n (some [.lr f E.nt ps pa pb .ready]) i = Go.Psl.lk ((n, [.lr f E.nt ps pa pb .ready]) :: L) i := fun i hi => by
   simp only [upd_at, Go.Psl.lk]
   by_cases e : i = n
   . simp [e]
   . simp only [e, if_false]
     rw [List.cons_append] at hi
     rcases List.mem_cons.1 hi with h | h
     . exact absurd h e
     . exact hH i h
 have hbk : ∀ i ∈ n :: ks ++ xs, i < n + 1048576 := fun i hi => by
   rw [List.cons_append] at hi
   rcases List.mem_cons.1 hi with h | h
   . omega
   . have := hlt i h; omega
 refine ⟨h0, g, caps, .yl n :: caps, _, n :: ks, .ret r, _, hg, ⟨hf, callB_keepX hL hL1 hx hH' ⟨rfl, hb⟩⟩, by simp, jmp, by simp [Go.Psl.lk], ?_⟩
 refine hq _ (fun p hp => ?_) fun i hi hin => ?_
 . have hm : p.1 ∈ ks ++ xs1 := by
     have := hL1.names
     simp only [List.map_cons, List.cons_append, List.cons.injEq, true_and] at this
     rw [<- this]; exact List.mem_map.2 ⟨p, hp, rfl⟩
   have hne : sg (n :: ks) (n + 1048576) p.1 ≠ n := fun e => by
     have hnd := hL1.nd
     rw [List.cons_append] at hnd
     have hnm := (List.nodup_cons.1 hnd).1
     unfold sg at e
     split at e
     . rw [e] at hm; exact hnm hm
     . omega
   simp only [upd_at, hne, if_false]
   exact heapX_at hL hL1 hbk (List.mem_cons_of_mem _ hp)
 . have hne : i ≠ n := by omega
   simp only [upd_at, hne, if_false]
   rw [heapX_out hL hL1 (by rw [List.cons_append]; intro h; rcases List.mem_cons.1 h with h | h; exact hne h; exact hi h) (by omega)]
   simp [upd_at, hne]
end
end Go.Psl
namespace Go.Proofs.Tryz
open Go.Psl
open Go.Air
set_option maxRecDepth 50000
set_option maxHeartbeats 8000000
theorem fn129 (l : List Leg) : Ct prog 129 [.d (legsD l)] (.cl 205 [.lp 0 0]) [(0, [.d (legsD l)])] := by
 refine CB func129 c129 (by simp [ntmps129]) fun E hE => ?_
 simp [p129]
 refine RetOk.by (lk [(0, 0)]) ?_
 simp [results129]
def posL (l : List Leg) (i : Nat) : Nat := (minL 0 (l.take i)).length
theorem minL_app : ∀ (a b : List Leg) (i : Nat), minL i (a ++ b) = minL i a ++ minL (i + a.length) b
 | [], b, i => rfl
 | x :: a, b, i => by
   show _ ++ minL (i + 1) (a ++ b) = (_ ++ minL (i + 1) a) ++ _
   rw [minL_app a b (i + 1), List.append_assoc, List.length_cons, show i + 1 + a.length = i + (a.length + 1) by omega]
theorem posL_zero (l : List Leg) : posL l 0 = 0 := rfl
theorem posL_next {l : List Leg} {i : Nat} {x : Leg} (h : l[i]? = some x) : posL l (i + 1) = posL l i + x.m.toNat := by
 unfold posL
 rw [List.take_add_one, h, minL_app]
 simp [minL]
theorem posL_all (l : List Leg) : posL l l.length = (minL 0 l).length := by unfold posL; rw [List.take_length]
theorem posL_le {l : List Leg} {i : Nat} : posL l i <= (minL 0 l).length := by
 have : (minL 0 l).length = posL l i + (minL (0 + (l.take i).length) (l.drop i)).length := by
   unfold posL
   rw [<- List.length_append, <- minL_app, List.take_append_drop]
 omega
theorem minL_at {l : List Leg} {i m : Nat} {x : Leg} (h : l[i]? = some x) (hm : m < x.m.toNat) : (minL 0 l)[posL l i + m]? = some (i, m) := by
 have hi := (List.getElem?_eq_some_iff.1 h).1
 have e : l = l.take i ++ (x :: l.drop (i + 1)) := by
   have : x :: l.drop (i + 1) = l.drop i := by
     rw [List.drop_eq_getElem_cons hi]; congr 1
     rw [List.getElem?_eq_getElem hi] at h; exact (Option.some.inj h).symm
   rw [this, List.take_append_drop]
 have e2 : minL 0 l = minL 0 (l.take i) ++ minL i (x :: l.drop (i + 1)) := by
   conv => lhs; rw [e]
   rw [minL_app, List.length_take, Nat.min_eq_left (by omega), Nat.zero_add]
 rw [e2, List.getElem?_append_right (by unfold posL; omega)]
 unfold posL
 rw [Nat.add_sub_cancel_left]
 show ((List.range x.m.toNat).map (fun m => (i, m)) ++ _)[m]? = _
 rw [List.getElem?_append_left (by simpa using hm), List.getElem?_map, List.getElem?_range hm]
 rfl
theorem Weak.restX {E : Ent} {ks xs : List Nat} {L : List (Nat × List V)} {st : St} (hs : ∀ i, E.stab i ↔ i ∈ ks) (h : KeepX ks xs L) (hH : ∀ i ∈ ks ++ xs, st.H i = lk L i) {n : Nat} (hn : ∀ i ∈ ks ++ xs, i < n) (l : List (Nat × V)) (h1 : SlotsOk (rid (ks ++ xs)) st.fr l) (h4 : SlotsIds n l) : Weak prog E st ⟨slots l, lk L, n⟩ :=
 Weak.mkM hs (rid (ks ++ xs)) l L n h1 (h.same.hp hH) h.same.inj h4 (h.ids hn) (stabW_of (fun i hi => hn i (List.mem_append_left _ hi)) fun i hi hs => ⟨rid_in (List.mem_append_left _ hi), by rw [hH i (List.mem_append_left _ hi)]; exact hs⟩)
theorem minutes_run (l : List Leg) (hl : l.length <= 1000000) (hok : ∀ x ∈ l, okLeg x = true) (KS : List Nat) (XS : Nat -> List Nat) (k a M : Nat) (go : Nat -> Bool) (L : Nat -> List (Nat × List V)) (hk : k ∈ KS) (ha : a ∈ KS) (hN : ∀ i ∈ KS, i < 1000000000) (hX : ∀ i, ∀ x ∈ XS i, x < 1048576) (hm : M <= (minL 0 l).length) (hL : ∀ i, i <= M -> KeepX KS (XS i) (L i))
   (hrec : ∀ i, i < M -> ∃ fr nt ps pa pb jmp, lk (L i) k = some [.lr fr nt ps pa pb jmp] /\ ps.length = 2) (hbox : ∀ i, i <= M -> lk (L i) a = some [.d (legsD l)]) (hgo : ∀ j, j + 1 < M -> go j = true) (hend : M = (minL 0 l).length \/ (0 < M /\ go (M - 1) = false))
   (hY : ∀ j i m, j < M -> (minL 0 l)[j]? = some (i, m) -> Ym prog k [vi i, vi m] (lk (L j)) KS (.ret (vb (go j))) (lk (L (j + 1)))) :
   Cm prog 205 [.yl k, .lp a 0] (lk (L 0)) KS (.ret (.tup [])) (lk (L M)) := by
 have hNX : ∀ i, ∀ x ∈ KS ++ XS i, x < 1000000000 := fun i x hx => by
   rcases List.mem_append.1 hx with h | h
   . exact hN x h
   . have := hX i x h; omega
 refine Cm.by gok eok mixed 1000000000 func205 c205 rfl (by simp [ntmps205]) (by simp; exact ⟨hN k hk, hN a ha⟩) (HpIds.at ((hL 0 (by omega)).ids (hNX 0))) hN ⟨by simp, (hL M (Nat.le_refl _)).res⟩ fun E hs hE => ?_
 have haN := hN a ha
 have na : ∀ x, 1000000000 <= x -> ¬ a = x := fun x _ => by omega
 have la : ∀ x, 1000000000 <= x -> a < x := fun x _ => by omega
 have b0 := hbox 0 (by omega)
 have rk : ∀ i b, rx KS (XS i) b k = some k := fun i b => by simp [rx, hk]
 have ra : ∀ i b, rx KS (XS i) b a = some a := fun i b => by simp [rx, ha]
 simp [p205, b0]
 refine pw_loop (α := Nat) (fun i => ⟨slots [(0, .yl k), (1, .lp a 0), (6, .d (legsD l)), (7, vi l.length), (8, vi i)], lk (L (posL l i)), 1000000000⟩) (fun i => i <= l.length /\ posL l i <= M /\ (posL l i = M -> M = (minL 0 l).length)) (fun i => l.length - i) 0 ?_ ?_ ?_
 . rw [posL_zero]
   exact ⟨by omega, by omega, fun e => by omega⟩
 . rw [posL_zero]
   refine Weak.sameX hs (hL 0 (by omega)) rfl (hNX 0) _ ?_ ?_
   . simp [rid, hk, ha]
   . simp [hN k hk, hN a ha]
 . rintro i ⟨hi, hp, him⟩
   simp [p205l1]
   refine cR_split (fun h => ?_) (fun h => ?_)
   . simp at h
     obtain ⟨x, hx⟩ : ∃ x, l[i]? = some x := ⟨_, List.getElem?_eq_getElem h⟩
     have hxm := okLeg_m (hok x (List.mem_of_getElem? hx))
     have hpn := posL_next hx
     have hpl := posL_le (l := l) (i := i + 1)
     have hz : IntKind.wrap .i64 ((i : Int) + 1) = ((i + 1 : Nat) : Int) := by rw [wrap64 (by omega) (by omega)]; omega
     have hne0 : ∀ q ∈ KS ++ XS (posL l i + 0), ¬ q = 1004194304 := fun q hq e => by have := hNX (posL l i + 0) q hq; omega
     simp [hx, splice]
     refine pw_loop (α := Nat) (fun m => ⟨slots [(0, .yl k), (1, .lp a 0), (3, vi i), (6, .d (legsD l)), (7, vi l.length), (8, vi i), (14, vi x.m), (15, vi m)], lk (L (posL l i + m)), 1000000000⟩) (fun m => m <= x.m.toNat /\ posL l i + m <= M /\ (posL l i + m = M -> M = (minL 0 l).length)) (fun m => x.m.toNat - m) 0 ?_ ?_ ?_
     . exact ⟨by omega, by omega, fun e => him (by omega)⟩
     . refine Weak.restX hs (hL _ (by omega)) (fun q hq => ?_) (hNX _) _ ?_ ?_
       . simp [hne0 q hq]
       . simp [rid, hk, ha]
       . simp [hN k hk, hN a ha]
     . rintro m ⟨hmi, hmp, hme⟩
       by_cases hmx : m < x.m.toNat
       . have hmI : (m : Int) < x.m := by omega
         have hjl : posL l i + m < (minL 0 l).length := by omega
         have hj : posL l i + m < M := by
           rcases Nat.lt_or_ge (posL l i + m) M with h9 | h9
           . exact h9
           . have := hme (by omega); omega
         have hat := minL_at hx hmx
         obtain ⟨J, hJ⟩ : ∃ J, posL l i + m = J := ⟨_, rfl⟩
         rw [hJ] at hat hj hjl
         have hY' := hY J i m hj hat
         obtain ⟨fr, nt, ps, pa, pb, jmp, hr1, hr2⟩ := hrec J hj
         have hzm : IntKind.wrap .i64 ((m : Int) + 1) = ((m + 1 : Nat) : Int) := by rw [wrap64 (by omega) (by omega)]; omega
         have hbb : ∀ q ∈ KS ++ XS J, q < 1006291456 := fun q hq => by have := hNX J q hq; omega
         have hbk : ∀ q ∈ KS, q < 1006291456 := fun q hq => by have := hN q hq; omega
         rw [hJ]
         simp [p205l0, hmI]
         refine AYield.keepX [vi i, vi m] (L J) (L (J + 1)) KS (XS J) (XS (J + 1)) _ hY' (hL J (by omega)) (hL (J + 1) (by omega)) (hX _) ⟨fr, nt, ps, pa, pb, jmp, hr1, hr2⟩ (fun q hq => rfl) (by simp) ?_
         obtain ⟨F, hF⟩ : ∃ F, F = heapM (lk (L J)) 1006291456 (lk (L J)) KS (lk (L (J + 1))) := ⟨_, rfl⟩
         have hFp : ∀ p ∈ L (J + 1), F (sg KS 1006291456 p.1) = some (p.2.map (renC (sg KS 1006291456))) := fun p hp => by rw [hF]; exact heapX_at (hL J (by omega)) (hL (J + 1) (by omega)) hbb hp
         rw [<- hF]
         cases hgi : go J
         . have e : J + 1 = M := by
             by_cases hlt : J + 1 < M
             . rw [hgo J hlt] at hgi; cases hgi
             . omega
           simp
           rw [<- e]
           exact RetM.keepX rfl (hL (J + 1) (by omega)) hbk hFp
         . simp [hzm]
           refine ⟨m + 1, ⟨by omega, by omega, fun e => ?_⟩, by omega, ?_⟩
           . rcases hend with h1 | ⟨_, h1⟩
             . exact h1
             . rw [show M - 1 = J by omega, hgi] at h1; cases h1
           . rw [show posL l i + (m + 1) = J + 1 by omega]
             refine Weak.keepX hs (hL (J + 1) (by omega)) hbk hFp (hNX (J + 1)) _ ?_ ?_
             . simp [rk, ra]
             . simp [hN k hk, hN a ha]
       . have em : m = x.m.toNat := by omega
         have hmI : ¬ (m : Int) < x.m := by omega
         have e9 : posL l i + m = posL l (i + 1) := by omega
         have hbm := hL (posL l (i + 1)) (by omega)
         rw [e9]
         simp [p205l0, hmI, hz]
         refine ⟨i + 1, ⟨by omega, by omega, fun e => hme (by omega)⟩, by omega, ?_⟩
         refine Weak.sameX hs hbm rfl (hNX _) _ ?_ ?_
         . simp [rid, hk, ha]
         . simp [hN k hk, hN a ha]
   . simp at h
     have e : i = l.length := by omega
     have e2 : posL l i = M := by
       have := posL_all l
       rw [<- e] at this
       omega
     simp
     rw [e2]
     exact RetM.sameX rfl (hL M (Nat.le_refl _)) rfl
theorem hf25 : ∀ x : Shp, (shpR x).length = 25 := fun _ => rfl
theorem after1 (acc : List Shp) (n : Shp) (hl : acc.length <= 100000) : Cm prog 104 [shpV n (.d (cellsD n.gas.cs)), .lp 0 0] (lk ([(0, [hdF 25 acc 1])] ++ ouF shpR acc 1)) [0] (.ret (.tup [shpV n (.d (cellsD n.gas.cs)), vi 0])) (lk ([(0, [hdF 25 (acc ++ [n]) 1])] ++ ouF shpR (acc ++ [n]) 1)) := by
 by_cases hne : acc = []
 . subst hne
   rw [hdF_nil, ouF_nil, List.nil_append, hdF_ne (by simp), ouF_ne (by simp)]
   refine Cm.by gok eok mixed 2 func104 c104 rfl (by simp [ntmps104]) (by simp) (HpIds.at (by simp)) (by simp) (by simp [ResIds]) fun E hs hE => ?_
   simp [p104, splice, repl]
   refine RetOk.by (lk [(0, 0), (1, 6291458)]) ?_
   simp [results104, fcel]
 . have hsl := fcel_len hf25 acc
   have hwh := fcel_whole hf25 acc
   have n1 : (acc.length + 1) * 216 <= 140737488355328 := by omega
   have n2 : acc.length + 1 <= 9223372036854775807 := by omega
   rw [hdF_ne hne, ouF_ne hne, hdF_ne (by simp), ouF_ne (by simp), fcel_one]
   refine Cm.by gok eok mixed 2 func104 c104 rfl (by simp [ntmps104]) (by simp) (HpIds.at (by simp)) (by simp) (by simp [ResIds]) fun E hs hE => ?_
   simp [p104, splice, repl, hsl, hwh, n1, n2]
   refine RetOk.by (lk [(0, 0), (1, 6291458)]) ?_
   simp [results104]
   refine Or.inl ?_
   rw [List.all_append, List.all_eq_true.2 fcel_cell]
   rfl
def flyP (k : Sky) (r : Rig) (l : List Leg) : List (Nat × Nat) -> Shp -> List Shp
 | [], _ => []
 | (i, m) :: rest, s => match l[i]? with
   | none => []
   | some x => match oneS k r x m s with
     | .error _ => []
     | .ok n => n :: flyP k r l rest n
def shpJ (s : Shp) (ns : List Shp) (j : Nat) : Shp := if j = 0 then s else (ns[j - 1]?).getD s
theorem shpJ_cons {s n : Shp} {ns : List Shp} {j : Nat} (h : j < ns.length + 1) : shpJ s (n :: ns) (j + 1) = shpJ n ns j := by
 unfold shpJ
 cases j with
 | zero => simp
 | succ j =>
   rw [if_neg (by omega), if_neg (by omega)]
   have h1 : j < ns.length := by omega
   simp [h1]
theorem flyP_round {k : Sky} {r : Rig} {l : List Leg} : ∀ {im : List (Nat × Nat)} {s : Shp} {j : Nat} {n : Shp}, (flyP k r l im s)[j]? = some n -> ∃ i m x, im[j]? = some (i, m) /\ l[i]? = some x /\ oneS k r x m (shpJ s (flyP k r l im s) j) = .ok n
 | [], s, j, n, h => by simp [flyP] at h
 | (i, m) :: rest, s, j, n, h => by
   unfold flyP at h ⊢
   split at h
   . simp at h
   rename_i x hx
   split at h
   . simp at h
   rename_i n1 h1
   cases j with
   | zero =>
     simp at h; subst h
     exact ⟨i, m, x, by simp, hx, by simpa [shpJ] using h1⟩
   | succ j =>
     have h2 : (flyP k r l rest n1)[j]? = some n := by simpa using h
     obtain ⟨i2, m2, x2, e1, e2, e3⟩ := flyP_round h2
     have hj := (List.getElem?_eq_some_iff.1 h2).1
     refine ⟨i2, m2, x2, by simpa using e1, e2, ?_⟩
     rw [shpJ_cons (by omega)]
     exact e3
theorem flyP_end {k : Sky} {r : Rig} {l : List Leg} : ∀ {im : List (Nat × Nat)} {s : Shp}, (∀ p ∈ im, ∃ x, l[p.1]? = some x) -> (flyK k r l im s = .ok (flyP k r l im s) /\ (flyP k r l im s).length = im.length) \/
   ∃ i m x e, im[(flyP k r l im s).length]? = some (i, m) /\ l[i]? = some x /\ oneS k r x m (shpJ s (flyP k r l im s) (flyP k r l im s).length) = .error e /\ flyK k r l im s = .error (evOf i m e)
 | [], s, _ => .inl ⟨rfl, rfl⟩
 | (i, m) :: rest, s, hm => by
   obtain ⟨x, hx⟩ := hm (i, m) (by simp)
   simp only at hx
   unfold flyP flyK
   rw [hx]
   simp only
   cases h1 : oneS k r x m s with
   | error e => exact .inr ⟨i, m, x, e, by simp, hx, by simpa [shpJ] using h1, rfl⟩
   | ok n =>
     simp only
     rcases flyP_end (im := rest) (s := n) (fun p hp => hm p (by simp [hp])) with ⟨h2, h3⟩ | ⟨i2, m2, x2, e2, h2, h3, h4, h5⟩
     . left; rw [h2]; exact ⟨rfl, by simp [h3]⟩
     . right
       rw [h5]
       refine ⟨i2, m2, x2, e2, by simpa using h2, h3, ?_, rfl⟩
       rw [List.length_cons, shpJ_cons (by omega)]
       exact h4
def fKS : List Nat := [8388609, 7340033, 1, 1048577, 2097153, 3145729, 4194305, 5242881, 0]
def fXS (acc : List Shp) : List Nat := if acc = [] then [] else [7]
abbrev evL (e : Evt) : List V := [vi e.1, vi e.2.1, vi e.2.2.1, vi e.2.2.2]
def fL (k : Sky) (r : Rig) (l : List Leg) (f : Nat -> V) (z : LSt) (acc : List Shp) (s : Shp) (e : Evt) (er : Int) : List (Nat × List V) :=
 [(8388609, [.lr f 69 [19, 20] p103l0 p103l1 z]), (7340033, [.d (legsD l)]), (1, [tripV k r]), (1048577, shB s), (2097153, [.d (legsD l)]), (3145729, [.cl 104 [.lp 0 0]]), (4194305, evL e), (5242881, [vi er]), (0, [hdF 25 acc 7])] ++ ouF shpR acc 7
theorem fKeep (k : Sky) (r : Rig) (l : List Leg) (f : Nat -> V) (z : LSt) (acc : List Shp) (s : Shp) (e : Evt) (er : Int) (hf : ∀ t, AV (· ∈ fKS) anyD (f t)) : KeepX fKS (fXS acc) (fL k r l f z acc s e er) := by
 by_cases h0 : acc = []
 . subst h0
   refine ⟨rfl, by simp [fKS, fXS], ?_⟩
   intro q hq
   simp only [fL, hdF_nil, ouF_nil, List.append_nil, List.mem_cons, List.not_mem_nil, or_false] at hq
   rcases hq with rfl | rfl | rfl | rfl | rfl | rfl | rfl | rfl | rfl
   . exact ⟨by simp, Or.inr ⟨_, _, _, _, _, _, rfl⟩, fun c hc => by simp at hc; subst hc; exact hf⟩
   all_goals refine ⟨by simp, Or.inl rfl, fun c hc => ?_⟩
   all_goals simp only [List.mem_cons, List.not_mem_nil, or_false] at hc
   all_goals first
     | (subst hc; exact rfl)
     | (subst hc; simp [CX, W1, W0, rid, fKS, All2, fXS])
     | (rcases hc with rfl | rfl | rfl | rfl <;> exact rfl)
     | (rcases hc with rfl | rfl | rfl | rfl | rfl | rfl | rfl | rfl | rfl | rfl | rfl | rfl | rfl | rfl | rfl | rfl | rfl | rfl | rfl | rfl | rfl | rfl | rfl | rfl | rfl <;> exact rfl)
 . have hx : fXS acc = [7] := by simp [fXS, h0]
   rw [hx]
   refine ⟨by simp [fL, ouF_ne h0, fKS], by simp [fKS], ?_⟩
   intro q hq
   simp only [fL, hdF_ne h0, ouF_ne h0, List.mem_append, List.mem_cons, List.not_mem_nil, or_false] at hq
   rcases hq with (rfl | rfl | rfl | rfl | rfl | rfl | rfl | rfl | rfl) | rfl
   . exact ⟨by simp, Or.inr ⟨_, _, _, _, _, _, rfl⟩, fun c hc => by simp at hc; subst hc; exact hf⟩
   rotate_left 8
   . refine ⟨?_, Or.inl (List.all_eq_true.2 fcel_cell), fun c hc => ?_⟩
     . intro e
       have := congrArg List.length e
       rw [fcel_len hf25] at this
       cases acc with
       | nil => exact h0 rfl
       | cons a t => simp at this
     . obtain ⟨d, _, rfl⟩ := List.mem_map.1 (show c ∈ List.map V.d (List.map shpR acc).flatten from hc)
       exact rfl
   all_goals refine ⟨by simp, Or.inl rfl, fun c hc => ?_⟩
   all_goals simp only [List.mem_cons, List.not_mem_nil, or_false] at hc
   all_goals first
     | (subst hc; exact rfl)
     | (subst hc; simp [CX, W1, W0, rid, fKS, All2])
     | (rcases hc with rfl | rfl | rfl | rfl <;> exact rfl)
     | (rcases hc with rfl | rfl | rfl | rfl | rfl | rfl | rfl | rfl | rfl | rfl | rfl | rfl | rfl | rfl | rfl | rfl | rfl | rfl | rfl | rfl | rfl | rfl | rfl | rfl | rfl <;> exact rfl)
theorem afterR (acc : List Shp) (n : Shp) (hl : acc.length <= 100000) : Cm prog 104 [shpV n (.d (cellsD n.gas.cs)), .lp 0 0] (lk ([(0, [hdF 25 acc 7])] ++ ouF shpR acc 7)) [0] (.ret (.tup [shpV n (.d (cellsD n.gas.cs)), vi 0])) (lk ([(0, [hdF 25 (acc ++ [n]) 7])] ++ ouF shpR (acc ++ [n]) 7)) := by
 have hr : ∀ l : List Shp, (fcel shpR l).map (renC fun i => if i = 0 then 0 else 7) = fcel shpR l := fun l => by
   simp [fcel, List.map_flatten, Function.comp_def]
 have h := Cm.rename (fun i => if i = 0 then 0 else 7) 2 (by intro i j hi hj; split <;> split <;> omega) (after1 acc n hl) (by
   by_cases h0 : acc = []
   . subst h0; simp [idsLt, hdF_nil, ouF_nil]
   . simp [idsLt, hdF_ne h0, ouF_ne h0]) (by rw [hdF_ne (by simp), ouF_ne (by simp)]; simp [idsLt]) (by simp)
 by_cases h0 : acc = []
 . subst h0
   rw [hdF_nil, ouF_nil, List.nil_append, hdF_ne (by simp), ouF_ne (by simp)] at h ⊢
   simpa [renL, renR, hr] using h
 . rw [hdF_ne h0, ouF_ne h0, hdF_ne (by simp), ouF_ne (by simp)] at h ⊢
   simpa [renL, renR, hr] using h
structure FlyF (f : Nat -> V) : Prop where
 av : ∀ t, AV (· ∈ fKS) anyD (f t)
 f4 : f 4 = .lp 1 0
 f5 : f 5 = .lp 1048577 0
 f6 : f 6 = .lp 2097153 0
 f7 : f 7 = .lp 3145729 0
 f8 : f 8 = .lp 4194305 0
 f9 : f 9 = .lp 5242881 0
theorem fly_round (hS : SortOk) (k : Sky) (r : Rig) (l : List Leg) (f : Nat -> V) (hF : FlyF f) (acc : List Shp) (s n : Shp) (i m : Nat) (x : Leg) (_ : l.length <= 1000000) (ha : acc.length <= 100000) (h1 : k.s.length <= 1000000) (h2 : k.w.length <= 1000000) (h3 : r.reg.length <= 1000000) (hk : okSky k = true) (hR : okRig r = true) (hg : rngS k r = true) (hs : okShp s = true) (hlo : okLeg x = true) (hx : l[i]? = some x) (ho : oneS k r x m s = .ok n) :
   Ym prog 8388609 [vi i, vi m] (lk (fL k r l f .ready acc s ev0 0)) fKS (.ret (vb true)) (lk (fL k r l f .ready (acc ++ [n]) n ev0 0)) := by
 obtain ⟨hf, f4, f5, f6, f7, f8, f9⟩ := hF
 have hil := (List.getElem?_eq_some_iff.1 hx).1
 have hiI : (i : Int) < l.length := by omega
 have hK1 := fKeep k r l f .ready acc s ev0 0 hf
 have hK2 := fKeep k r l f .ready (acc ++ [n]) n ev0 0 hf
 have hlt : ∀ j ∈ fKS ++ fXS acc, j < 10000000 := by
   intro j hj
   simp only [fKS, fXS, List.mem_append, List.mem_cons, List.not_mem_nil, or_false] at hj
   rcases hj with h | h
   . omega
   . split at h
     . simp at h
     . simp at h; omega
 have hW : ∀ (y : Nat) z, WC (lk [(8388609, 8388609), (7340033, 7340033), (1, 1), (1048577, 1048577), (2097153, 2097153), (3145729, 3145729), (4194305, 4194305), (5242881, 5242881), (0, 0), (7, y)]) (.lr f 69 [19, 20] p103l0 p103l1 z) (.lr f 69 [19, 20] p103l0 p103l1 z) := fun y z => ⟨rfl, fun t => AV.mono (fun j hj => by simp [fKS] at hj; rcases hj with rfl | rfl | rfl | rfl | rfl | rfl | rfl | rfl | rfl <;> simp [lk]) (fun _ h => h) (hf t)⟩
 have hC : ∀ z, cellsOk [.lr f 69 [19, 20] p103l0 p103l1 z] := fun z => Or.inr ⟨_, _, _, _, _, _, rfl⟩
 have ca := afterR acc n ha
 refine Ym.ofX (k := 8388609) (fr := f) (nt := 69) (ps := [19, 20]) (pa := p103l0) (pb := p103l1) (args := [vi i, vi m]) (s := .ready) gok eok mixed 10000000 hK1 hK2 hlt (by simp [fKS]) (by simp [fL]) (by simp) (by simp) (by simp) ?_
 obtain ⟨t, ht, hmo, hnx⟩ := one_iff.1 ho
 have hto := start_ok hs hlo ht
 have cm := fn99 hS k r t x h1 h2 h3 hk hR hg hto hlo
 rw [min_iff.2 ⟨hmo, hnx⟩] at cm
 simp only [minV] at cm
 by_cases hm : m = 0
 . rw [if_pos hm] at ht
   subst hm
   have cb := fn96 s x hs hlo
   rw [ht] at cb
   simp only [begV] at cb
   by_cases h0 : acc = []
   . subst h0
     rw [hdF_nil, ouF_nil, List.nil_append, hdF_ne (by simp), ouF_ne (by simp)] at ca
     refine ⟨fun E hE hs => ?_⟩
     unfold fL
     rw [hdF_nil, ouF_nil, List.nil_append, hdF_ne (by simp), ouF_ne (by simp)]
     generalize V.lr f 69 [19, 20] p103l0 p103l1 = rc at hW hC ⊢
     simp [p103l0, frPuts]
     simp [p103l1]
     refine pw_drawW [(10, 23631488)] (by kernel_rfl) ?_
     simp [inC, Nat.testBit, hx, f5, f6]
     refine CLa (cb) ?_
     simp [splice, inC, Nat.testBit, f5]
     refine pw_drawW [(13, 42505856), (14, 43554432)] (by kernel_rfl) ?_
     simp [inC, Nat.testBit, hx, f4, f5, f6]
     refine CLa (cm) ?_
     simp [splice, inC, Nat.testBit, f7]
     refine ACall.mkR _ _ _ _ _ (ca) (by simp) (by simp) (by simp) (by simp) (by first | (left; simp; done) | (right; simp; done)) ?_
     simp [splice, f5]
     refine ⟨trivial, by simp, lk [(8388609, 8388609), (7340033, 7340033), (1, 1), (1048577, 1048577), (2097153, 2097153), (3145729, 3145729), (4194305, 4194305), (5242881, 5242881), (0, 0), (7, 51943047)], ?_⟩
     simp [hW, hC, fKS, fcel]
   . have n1 : fcel shpR acc ≠ [] := fun e => by
       have := congrArg List.length e
       rw [fcel_len hf25] at this
       cases acc with
       | nil => exact h0 rfl
       | cons a t => simp at this
     rw [hdF_ne h0, ouF_ne h0, hdF_ne (by simp), ouF_ne (by simp)] at ca
     refine ⟨fun E hE hs => ?_⟩
     unfold fL
     rw [hdF_ne h0, ouF_ne h0, hdF_ne (by simp), ouF_ne (by simp)]
     generalize V.lr f 69 [19, 20] p103l0 p103l1 = rc at hW hC ⊢
     simp [p103l0, frPuts]
     simp [p103l1]
     refine pw_drawW [(10, 23631488)] (by kernel_rfl) ?_
     simp [inC, Nat.testBit, hx, f5, f6]
     refine CLa (cb) ?_
     simp [splice, inC, Nat.testBit, f5]
     refine pw_drawW [(13, 42505856), (14, 43554432)] (by kernel_rfl) ?_
     simp [inC, Nat.testBit, hx, f4, f5, f6]
     refine CLa (cm) ?_
     simp [splice, inC, Nat.testBit, f7]
     refine ACall.mkR _ _ _ _ _ (ca) (by simp) (by simp) (by simp) (by simp) (by first | (left; simp; done) | (right; simp [n1]; done)) ?_
     simp [splice, f5]
     refine ⟨trivial, by simp, lk [(8388609, 8388609), (7340033, 7340033), (1, 1), (1048577, 1048577), (2097153, 2097153), (3145729, 3145729), (4194305, 4194305), (5242881, 5242881), (0, 0), (7, 51943047)], ?_⟩
     simp [hW, hC, fKS]
     all_goals first | exact Or.inl (List.all_eq_true.2 fcel_cell) | skip
 . rw [if_neg hm] at ht
   subst ht
   by_cases h0 : acc = []
   . subst h0
     rw [hdF_nil, ouF_nil, List.nil_append, hdF_ne (by simp), ouF_ne (by simp)] at ca
     refine ⟨fun E hE hs => ?_⟩
     unfold fL
     rw [hdF_nil, ouF_nil, List.nil_append, hdF_ne (by simp), ouF_ne (by simp)]
     generalize V.lr f 69 [19, 20] p103l0 p103l1 = rc at hW hC ⊢
     simp [p103l0, frPuts]
     simp [p103l1, hm]
     refine pw_drawW [(13, 25728640), (14, 26777216)] (by kernel_rfl) ?_
     simp [inC, Nat.testBit, hx, f4, f5, f6]
     refine CLa (cm) ?_
     simp [splice, inC, Nat.testBit, f7]
     refine ACall.mkR _ _ _ _ _ (ca) (by simp) (by simp) (by simp) (by simp) (by first | (left; simp; done) | (right; simp; done)) ?_
     simp [splice, f5]
     refine ⟨trivial, by simp, lk [(8388609, 8388609), (7340033, 7340033), (1, 1), (1048577, 1048577), (2097153, 2097153), (3145729, 3145729), (4194305, 4194305), (5242881, 5242881), (0, 0), (7, 35165831)], ?_⟩
     simp [hW, hC, fKS, fcel]
   . have n1 : fcel shpR acc ≠ [] := fun e => by
       have := congrArg List.length e
       rw [fcel_len hf25] at this
       cases acc with
       | nil => exact h0 rfl
       | cons a t => simp at this
     rw [hdF_ne h0, ouF_ne h0, hdF_ne (by simp), ouF_ne (by simp)] at ca
     refine ⟨fun E hE hs => ?_⟩
     unfold fL
     rw [hdF_ne h0, ouF_ne h0, hdF_ne (by simp), ouF_ne (by simp)]
     generalize V.lr f 69 [19, 20] p103l0 p103l1 = rc at hW hC ⊢
     simp [p103l0, frPuts]
     simp [p103l1, hm]
     refine pw_drawW [(13, 25728640), (14, 26777216)] (by kernel_rfl) ?_
     simp [inC, Nat.testBit, hx, f4, f5, f6]
     refine CLa (cm) ?_
     simp [splice, inC, Nat.testBit, f7]
     refine ACall.mkR _ _ _ _ _ (ca) (by simp) (by simp) (by simp) (by simp) (by first | (left; simp; done) | (right; simp [n1]; done)) ?_
     simp [splice, f5]
     refine ⟨trivial, by simp, lk [(8388609, 8388609), (7340033, 7340033), (1, 1), (1048577, 1048577), (2097153, 2097153), (3145729, 3145729), (4194305, 4194305), (5242881, 5242881), (0, 0), (7, 35165831)], ?_⟩
     simp [hW, hC, fKS]
     all_goals first | exact Or.inl (List.all_eq_true.2 fcel_cell) | skip
theorem play_54 : ∀ {acts : List Act} {p : Plt} {i : Nat}, ¬ (playS p acts i).2.2 = 54
 | [], p, i => by simp [playS]
 | a :: rr, p, i => by
   unfold playS
   cases hd : doS p a with
   | ok q => exact play_54
   | error e =>
     show ¬ e = 54
     unfold doS vlS mvS at hd
     repeat' split at hd
     all_goals first | (have := finS_err hd; omega) | (cases hd; omega)
theorem beg_54 {s : Shp} {x : Leg} {e : Int} (h : begS s x = .error e) : ¬ e = 54 := by
 unfold begS at h
 split at h
 . split at h
   . cases h; decide
   split at h
   . cases h; decide
   . cases h
 . cases h; exact play_54
theorem min_54 {k : Sky} {r : Rig} {s : Shp} {x : Leg} {e : Int × Int × Int} (h : minS k r s x = .error e) : (e.1 = 54 /\ True) \/ (e.1 = 9 /\ e.2.1 = 0 /\ e.2.2 = 0) := by
 unfold minS at h
 split at h
 . split at h
   . cases h; exact .inr ⟨rfl, rfl, rfl⟩
   . cases h
 . cases h; exact .inl ⟨rfl, trivial⟩
def failS (x : Leg) (m : Nat) (s : Shp) : Shp := if m = 0 then (match begS s x with | .ok t => t | .error _ => s) else s
theorem fly_fail (hS : SortOk) (k : Sky) (r : Rig) (l : List Leg) (f : Nat -> V) (hF : FlyF f) (acc : List Shp) (s : Shp) (i m : Nat) (x : Leg) (e : Int × Int × Int) (_ : l.length <= 1000000) (h1 : k.s.length <= 1000000) (h2 : k.w.length <= 1000000) (h3 : r.reg.length <= 1000000) (hk : okSky k = true) (hR : okRig r = true) (hg : rngS k r = true) (hs : okShp s = true) (hlo : okLeg x = true) (hx : l[i]? = some x) (ho : oneS k r x m s = .error e) :
   Ym prog 8388609 [vi i, vi m] (lk (fL k r l f .ready acc s ev0 0)) fKS (.ret (vb false)) (lk (fL k r l f (.done .ret) acc (failS x m s) (evOf i m e).2 (evOf i m e).1)) := by
 obtain ⟨hf, f4, f5, f6, f7, f8, f9⟩ := hF
 have hil := (List.getElem?_eq_some_iff.1 hx).1
 have hiI : (i : Int) < l.length := by omega
 have hK1 := fKeep k r l f .ready acc s ev0 0 hf
 have hK2 := fKeep k r l f (.done .ret) acc (failS x m s) (evOf i m e).2 (evOf i m e).1 hf
 have hlt : ∀ j ∈ fKS ++ fXS acc, j < 10000000 := by
   intro j hj
   simp only [fKS, fXS, List.mem_append, List.mem_cons, List.not_mem_nil, or_false] at hj
   rcases hj with h | h
   . omega
   . split at h
     . simp at h
     . simp at h; omega
 have hW : ∀ (y : Nat) z, WC (lk [(8388609, 8388609), (7340033, 7340033), (1, 1), (1048577, 1048577), (2097153, 2097153), (3145729, 3145729), (4194305, 4194305), (5242881, 5242881), (0, 0), (7, y)]) (.lr f 69 [19, 20] p103l0 p103l1 z) (.lr f 69 [19, 20] p103l0 p103l1 z) := fun y z => ⟨rfl, fun t => AV.mono (fun j hj => by simp [fKS] at hj; rcases hj with rfl | rfl | rfl | rfl | rfl | rfl | rfl | rfl | rfl <;> simp [lk]) (fun _ h => h) (hf t)⟩
 have hC : ∀ z, cellsOk [.lr f 69 [19, 20] p103l0 p103l1 z] := fun z => Or.inr ⟨_, _, _, _, _, _, rfl⟩
 refine Ym.ofX (k := 8388609) (fr := f) (nt := 69) (ps := [19, 20]) (pa := p103l0) (pb := p103l1) (args := [vi i, vi m]) (s := .done .ret) gok eok mixed 10000000 hK1 hK2 hlt (by simp [fKS]) (by simp [fL]) (by simp) (by simp) (by simp) ?_
 clear hK1 hK2
 unfold oneS at ho
 by_cases hm : m = 0
 . rw [if_pos hm] at ho
   subst hm
   have cb := fn96 s x hs hlo
   cases hbs : begS s x with
   | error b =>
     rw [hbs] at ho cb
     simp only [begV] at cb
     have he : e = (b, 0, 0) := by cases ho; rfl
     subst he
     have hbe := beg_err hbs
     have h54 := beg_54 hbs
     have e1 : failS x 0 s = s := by unfold failS; rw [if_pos rfl, hbs]
     have e2 : evOf i 0 (b, 0, 0) = (b, ev0) := by unfold evOf; simp only; rw [if_neg h54]
     rw [e1, e2]
     simp only
     by_cases h0 : acc = []
     . subst h0
       refine ⟨fun E hE hs => ?_⟩
       unfold fL
       rw [hdF_nil, ouF_nil]
       generalize V.lr f 69 [19, 20] p103l0 p103l1 = rc at hW hC ⊢
       simp [p103l0, frPuts]
       simp [p103l1]
       refine pw_drawW [(10, 23631488)] (by kernel_rfl) ?_
       simp [inC, Nat.testBit, hx, f5, f6]
       refine CLa (cb) ?_
       simp [splice, inC, Nat.testBit, f8, f9, hbe]
       refine ⟨trivial, by simp, lk [(8388609, 8388609), (7340033, 7340033), (1, 1), (1048577, 1048577), (2097153, 2097153), (3145729, 3145729), (4194305, 4194305), (5242881, 5242881), (0, 0), (7, 7)], ?_⟩
       simp [hW, hC, fKS, ev0]
     . refine ⟨fun E hE hs => ?_⟩
       unfold fL
       rw [hdF_ne h0, ouF_ne h0]
       generalize V.lr f 69 [19, 20] p103l0 p103l1 = rc at hW hC ⊢
       simp [p103l0, frPuts]
       simp [p103l1]
       refine pw_drawW [(10, 23631488)] (by kernel_rfl) ?_
       simp [inC, Nat.testBit, hx, f5, f6]
       refine CLa (cb) ?_
       simp [splice, inC, Nat.testBit, f8, f9, hbe]
       refine ⟨trivial, by simp, lk [(8388609, 8388609), (7340033, 7340033), (1, 1), (1048577, 1048577), (2097153, 2097153), (3145729, 3145729), (4194305, 4194305), (5242881, 5242881), (0, 0), (7, 7)], ?_⟩
       simp [hW, hC, fKS, ev0]
       all_goals first | exact Or.inl (List.all_eq_true.2 fcel_cell) | skip
   | ok t =>
     rw [hbs] at ho cb
     simp only [begV] at cb
     simp only at ho
     have hto := beg_ok hs hlo hbs
     have cm := fn99 hS k r t x h1 h2 h3 hk hR hg hto hlo
     rw [ho] at cm
     simp only [minV] at cm
     have e1 : failS x 0 s = t := by unfold failS; rw [if_pos rfl, hbs]
     rw [e1]
     rcases min_54 ho with ⟨h54, _⟩ | ⟨h9, k1, k2⟩
     . have e2 : evOf i 0 e = ((54 : Int), e.2.1, (i : Int), (0 : Int), e.2.2) := by unfold evOf; rw [h54, if_pos rfl]; rfl
       rw [e2]
       rw [h54] at cm
       simp only
       by_cases h0 : acc = []
       . subst h0
         refine ⟨fun E hE hs => ?_⟩
         unfold fL
         rw [hdF_nil, ouF_nil]
         generalize V.lr f 69 [19, 20] p103l0 p103l1 = rc at hW hC ⊢
         simp [p103l0, frPuts]
         simp [p103l1]
         refine pw_drawW [(10, 23631488)] (by kernel_rfl) ?_
         simp [inC, Nat.testBit, hx, f5, f6]
         refine CLa (cb) ?_
         simp [splice, inC, Nat.testBit, f5]
         refine pw_drawW [(13, 42505856), (14, 43554432)] (by kernel_rfl) ?_
         simp [inC, Nat.testBit, hx, f4, f5, f6]
         refine CLa (cm) ?_
         simp [splice, inC, Nat.testBit, f8, f9]
         refine ⟨trivial, by simp, lk [(8388609, 8388609), (7340033, 7340033), (1, 1), (1048577, 1048577), (2097153, 2097153), (3145729, 3145729), (4194305, 4194305), (5242881, 5242881), (0, 0), (7, 7)], ?_⟩
         simp [hW, hC, fKS, ev0]
       . refine ⟨fun E hE hs => ?_⟩
         unfold fL
         rw [hdF_ne h0, ouF_ne h0]
         generalize V.lr f 69 [19, 20] p103l0 p103l1 = rc at hW hC ⊢
         simp [p103l0, frPuts]
         simp [p103l1]
         refine pw_drawW [(10, 23631488)] (by kernel_rfl) ?_
         simp [inC, Nat.testBit, hx, f5, f6]
         refine CLa (cb) ?_
         simp [splice, inC, Nat.testBit, f5]
         refine pw_drawW [(13, 42505856), (14, 43554432)] (by kernel_rfl) ?_
         simp [inC, Nat.testBit, hx, f4, f5, f6]
         refine CLa (cm) ?_
         simp [splice, inC, Nat.testBit, f8, f9]
         refine ⟨trivial, by simp, lk [(8388609, 8388609), (7340033, 7340033), (1, 1), (1048577, 1048577), (2097153, 2097153), (3145729, 3145729), (4194305, 4194305), (5242881, 5242881), (0, 0), (7, 7)], ?_⟩
         simp [hW, hC, fKS, ev0]
         all_goals first | exact Or.inl (List.all_eq_true.2 fcel_cell) | skip
     . have e2 : evOf i 0 e = (9, ev0) := by unfold evOf; rw [h9, if_neg (by decide)]
       rw [e2]
       rw [h9, k1, k2] at cm
       simp only
       by_cases h0 : acc = []
       . subst h0
         refine ⟨fun E hE hs => ?_⟩
         unfold fL
         rw [hdF_nil, ouF_nil]
         generalize V.lr f 69 [19, 20] p103l0 p103l1 = rc at hW hC ⊢
         simp [p103l0, frPuts]
         simp [p103l1]
         refine pw_drawW [(10, 23631488)] (by kernel_rfl) ?_
         simp [inC, Nat.testBit, hx, f5, f6]
         refine CLa (cb) ?_
         simp [splice, inC, Nat.testBit, f5]
         refine pw_drawW [(13, 42505856), (14, 43554432)] (by kernel_rfl) ?_
         simp [inC, Nat.testBit, hx, f4, f5, f6]
         refine CLa (cm) ?_
         simp [splice, inC, Nat.testBit, f8, f9]
         refine ⟨trivial, by simp, lk [(8388609, 8388609), (7340033, 7340033), (1, 1), (1048577, 1048577), (2097153, 2097153), (3145729, 3145729), (4194305, 4194305), (5242881, 5242881), (0, 0), (7, 7)], ?_⟩
         simp [hW, hC, fKS, ev0]
       . refine ⟨fun E hE hs => ?_⟩
         unfold fL
         rw [hdF_ne h0, ouF_ne h0]
         generalize V.lr f 69 [19, 20] p103l0 p103l1 = rc at hW hC ⊢
         simp [p103l0, frPuts]
         simp [p103l1]
         refine pw_drawW [(10, 23631488)] (by kernel_rfl) ?_
         simp [inC, Nat.testBit, hx, f5, f6]
         refine CLa (cb) ?_
         simp [splice, inC, Nat.testBit, f5]
         refine pw_drawW [(13, 42505856), (14, 43554432)] (by kernel_rfl) ?_
         simp [inC, Nat.testBit, hx, f4, f5, f6]
         refine CLa (cm) ?_
         simp [splice, inC, Nat.testBit, f8, f9]
         refine ⟨trivial, by simp, lk [(8388609, 8388609), (7340033, 7340033), (1, 1), (1048577, 1048577), (2097153, 2097153), (3145729, 3145729), (4194305, 4194305), (5242881, 5242881), (0, 0), (7, 7)], ?_⟩
         simp [hW, hC, fKS, ev0]
         all_goals first | exact Or.inl (List.all_eq_true.2 fcel_cell) | skip
 . rw [if_neg hm] at ho
   have cm := fn99 hS k r s x h1 h2 h3 hk hR hg hs hlo
   rw [ho] at cm
   simp only [minV] at cm
   have e1 : failS x m s = s := by unfold failS; rw [if_neg hm]
   rw [e1]
   rcases min_54 ho with ⟨h54, _⟩ | ⟨h9, k1, k2⟩
   . have e2 : evOf i m e = ((54 : Int), e.2.1, (i : Int), (m : Int), e.2.2) := by unfold evOf; rw [h54, if_pos rfl]
     rw [e2]
     rw [h54] at cm
     simp only
     by_cases h0 : acc = []
     . subst h0
       refine ⟨fun E hE hs => ?_⟩
       unfold fL
       rw [hdF_nil, ouF_nil]
       generalize V.lr f 69 [19, 20] p103l0 p103l1 = rc at hW hC ⊢
       simp [p103l0, frPuts]
       simp [p103l1, hm]
       refine pw_drawW [(13, 25728640), (14, 26777216)] (by kernel_rfl) ?_
       simp [inC, Nat.testBit, hx, f4, f5, f6]
       refine CLa (cm) ?_
       simp [splice, inC, Nat.testBit, f8, f9]
       refine ⟨trivial, by simp, lk [(8388609, 8388609), (7340033, 7340033), (1, 1), (1048577, 1048577), (2097153, 2097153), (3145729, 3145729), (4194305, 4194305), (5242881, 5242881), (0, 0), (7, 7)], ?_⟩
       simp [hW, hC, fKS, ev0]
     . refine ⟨fun E hE hs => ?_⟩
       unfold fL
       rw [hdF_ne h0, ouF_ne h0]
       generalize V.lr f 69 [19, 20] p103l0 p103l1 = rc at hW hC ⊢
       simp [p103l0, frPuts]
       simp [p103l1, hm]
       refine pw_drawW [(13, 25728640), (14, 26777216)] (by kernel_rfl) ?_
       simp [inC, Nat.testBit, hx, f4, f5, f6]
       refine CLa (cm) ?_
       simp [splice, inC, Nat.testBit, f8, f9]
       refine ⟨trivial, by simp, lk [(8388609, 8388609), (7340033, 7340033), (1, 1), (1048577, 1048577), (2097153, 2097153), (3145729, 3145729), (4194305, 4194305), (5242881, 5242881), (0, 0), (7, 7)], ?_⟩
       simp [hW, hC, fKS, ev0]
       all_goals first | exact Or.inl (List.all_eq_true.2 fcel_cell) | skip
   . have e2 : evOf i m e = (9, ev0) := by unfold evOf; rw [h9, if_neg (by decide)]
     rw [e2]
     rw [h9, k1, k2] at cm
     simp only
     by_cases h0 : acc = []
     . subst h0
       refine ⟨fun E hE hs => ?_⟩
       unfold fL
       rw [hdF_nil, ouF_nil]
       generalize V.lr f 69 [19, 20] p103l0 p103l1 = rc at hW hC ⊢
       simp [p103l0, frPuts]
       simp [p103l1, hm]
       refine pw_drawW [(13, 25728640), (14, 26777216)] (by kernel_rfl) ?_
       simp [inC, Nat.testBit, hx, f4, f5, f6]
       refine CLa (cm) ?_
       simp [splice, inC, Nat.testBit, f8, f9]
       refine ⟨trivial, by simp, lk [(8388609, 8388609), (7340033, 7340033), (1, 1), (1048577, 1048577), (2097153, 2097153), (3145729, 3145729), (4194305, 4194305), (5242881, 5242881), (0, 0), (7, 7)], ?_⟩
       simp [hW, hC, fKS, ev0]
     . refine ⟨fun E hE hs => ?_⟩
       unfold fL
       rw [hdF_ne h0, ouF_ne h0]
       generalize V.lr f 69 [19, 20] p103l0 p103l1 = rc at hW hC ⊢
       simp [p103l0, frPuts]
       simp [p103l1, hm]
       refine pw_drawW [(13, 25728640), (14, 26777216)] (by kernel_rfl) ?_
       simp [inC, Nat.testBit, hx, f4, f5, f6]
       refine CLa (cm) ?_
       simp [splice, inC, Nat.testBit, f8, f9]
       refine ⟨trivial, by simp, lk [(8388609, 8388609), (7340033, 7340033), (1, 1), (1048577, 1048577), (2097153, 2097153), (3145729, 3145729), (4194305, 4194305), (5242881, 5242881), (0, 0), (7, 7)], ?_⟩
       simp [hW, hC, fKS, ev0]
       all_goals first | exact Or.inl (List.all_eq_true.2 fcel_cell) | skip
def flyZ (a : Except (Int × Evt) (List Shp)) : Int × Evt := match a with | .ok _ => (0, ev0) | .error e => e
theorem flyP_ok {k : Sky} {r : Rig} {l : List Leg} (hT : Trip k r) (hl : ∀ x ∈ l, okLeg x = true) : ∀ {im : List (Nat × Nat)} {s : Shp}, okShp s = true -> ∀ n ∈ flyP k r l im s, okShp n = true
 | [], s, _, n, h => by simp [flyP] at h
 | (i, m) :: rest, s, hs, n, h => by
   unfold flyP at h
   split at h
   . simp at h
   rename_i x hx
   split at h
   . simp at h
   rename_i n1 h1
   have h2 := one_ok hT hs (hl x (List.mem_of_getElem? hx)) h1
   rcases List.mem_cons.1 h with rfl | h
   . exact h2
   . exact flyP_ok hT hl h2 n h
theorem shpJ_ok {s : Shp} {ns : List Shp} (hs : okShp s = true) (hn : ∀ n ∈ ns, okShp n = true) {j : Nat} (hj : j <= ns.length) : okShp (shpJ s ns j) = true := by
 unfold shpJ
 split
 . exact hs
 . obtain ⟨n, hnn⟩ : ∃ n, ns[j - 1]? = some n := ⟨_, List.getElem?_eq_getElem (by omega)⟩
   rw [hnn]
   exact hn n (List.mem_of_getElem? hnn)
theorem shpJ_next {s n : Shp} {ns : List Shp} {j : Nat} (h : ns[j]? = some n) : shpJ s ns (j + 1) = n := by
 unfold shpJ; rw [if_neg (by omega), Nat.add_sub_cancel, h]; rfl
theorem fly_res (l : List Shp) : ∀ (a : Nat) (b : List V), (a, b) ∈ (0, [hdF 25 l 1]) :: ouF shpR l 1 -> ∀ c ∈ b, AC (InB ((0, [hdF 25 l 1]) :: ouF shpR l 1)) anyD c := by
 by_cases h0 : l = []
 . subst h0; simp [hdF_nil, ouF_nil]
 . rw [hdF_ne h0, ouF_ne h0]
   intro a b hab c hc
   simp only [List.mem_cons, List.not_mem_nil, or_false, Prod.mk.injEq] at hab
   rcases hab with ⟨rfl, rfl⟩ | ⟨rfl, rfl⟩
   . simp at hc; subst hc; simp
   . obtain ⟨d, _, rfl⟩ := List.mem_map.1 (show c ∈ List.map V.d (List.map shpR l).flatten from hc)
     simp
def fT (k : Sky) (r : Rig) (l : List Leg) (acc : List Shp) (s : Shp) (e : Evt) (er : Int) : List (Nat × List V) :=
 [(7340033, [.d (legsD l)]), (1, [tripV k r]), (1048577, shB s), (2097153, [.d (legsD l)]), (3145729, [.cl 104 [.lp 0 0]]), (4194305, evL e), (5242881, [vi er]), (0, [hdF 25 acc 7])] ++ ouF shpR acc 7
theorem fL_T (k : Sky) (r : Rig) (l : List Leg) (f : Nat -> V) (z : LSt) (acc : List Shp) (s : Shp) (e : Evt) (er : Int) : fL k r l f z acc s e er = (8388609, [.lr f 69 [19, 20] p103l0 p103l1 z]) :: fT k r l acc s e er := rfl
theorem fKS_eq : fKS = 8388609 :: [7340033, 1, 1048577, 2097153, 3145729, 4194305, 5242881, 0] := rfl
theorem fly_F (hS : SortOk) (k : Sky) (r : Rig) (l : List Leg) (s : Shp) (hl : l.length <= 100) (hok : ∀ x ∈ l, okLeg x = true) (h1 : k.s.length <= 1000000) (h2 : k.w.length <= 1000000) (h3 : r.reg.length <= 1000000) (hk : okSky k = true) (hR : okRig r = true) (hg : rngS k r = true) (hs : okShp s = true) :
   Cm prog 103 [tripV k r, shpV s (.d (cellsD s.gas.cs)), .d (legsD l), .cl 104 [.lp 0 0]] (lk [(0, [.d (.lit (.slice none 0 0))])]) [0] (.ret (.tup [evtV (flyZ (flyK k r l (minL 0 l) s)).2, vi (flyZ (flyK k r l (minL 0 l) s)).1])) (lk ([(0, [hdF 25 (flyP k r l (minL 0 l) s) 1])] ++ ouF shpR (flyP k r l (minL 0 l) s) 1)) := by
 have hT : Trip k r := ⟨hk, okRig_B hR, hg⟩
 have hlen := minL_len (i := 0) hok
 have hmem : ∀ p ∈ minL 0 l, ∃ x, l[p.1]? = some x := fun p hp => by
   obtain ⟨x, _, h, _⟩ := mem_minL hp
   exact ⟨x, by simpa using h⟩
 have hend := flyP_end (k := k) (r := r) (s := s) hmem
 have hrd : ∀ {j : Nat} {n : Shp}, (flyP k r l (minL 0 l) s)[j]? = some n -> _ := fun h => flyP_round h
 have hnok := flyP_ok hT hok (im := minL 0 l) hs
 have hlb : (minL 0 l).length <= 60000 := by
   have := sumM_bd hok
   omega
 obtain ⟨ns, hns⟩ : ∃ ns, flyP k r l (minL 0 l) s = ns := ⟨_, rfl⟩
 obtain ⟨FK, hFK⟩ : ∃ FK, flyK k r l (minL 0 l) s = FK := ⟨_, rfl⟩
 rw [hns] at hend hnok hrd ⊢
 rw [hFK] at hend ⊢
 have hnl : ns.length <= (minL 0 l).length := by
   rcases hend with ⟨_, h⟩ | ⟨i, m, x, e, h, _⟩
   . omega
   . have := (List.getElem?_eq_some_iff.1 h).1; omega
 have hsj : ∀ {j : Nat}, j <= ns.length -> okShp (shpJ s ns j) = true := fun hj => shpJ_ok hs hnok hj
 refine Cm.by gok eok mixed 1 func103 c103 rfl (by simp [ntmps103]) (by simp) (HpIds.at (by simp)) (by simp) (by
   refine ⟨by simp, ?_⟩
   exact fun p hp c hc => fly_res ns p.1 p.2 hp c hc) fun E hs' hE => ?_
 simp [p103]
 refine CLa (fn129 l) ?_
 simp
 have hnt : E.nt = 69 := by rw [hE.1]; exact ntmps103
 rw [<- pw_rangeF (Γ := tys) (eqs := eqs)]
 obtain ⟨f, hf⟩ : ∃ f, f = upd (upd (upd (upd (upd (upd (upd (upd (argF 0 [tripV k r, shpV s (.d (cellsD s.gas.cs)), .d (legsD l), .cl 104 [.lp 0 0]]) 4 (.lp 1 0)) 5 (.lp 1048577 0)) 6 (.lp 2097153 0)) 7 (.lp 3145729 0)) 8 (.lp 4194305 0)) 9 (.lp 5242881 0)) 17 (.d (legsD l))) 18 (.cl 205 [.lp 7340033 0]) := ⟨_, rfl⟩
 have hfA : ∀ t, AV (· ∈ fKS) anyD (f t) := fun t => by
   rw [hf]
   simp only [upd_at]
   split
   . intro c hc; simp at hc; subst hc; exact (by simp [fKS] : (7340033 : Nat) ∈ fKS)
   split
   . exact trivial
   split
   . exact (by simp [fKS] : (5242881 : Nat) ∈ fKS)
   split
   . exact (by simp [fKS] : (4194305 : Nat) ∈ fKS)
   split
   . exact (by simp [fKS] : (3145729 : Nat) ∈ fKS)
   split
   . exact (by simp [fKS] : (2097153 : Nat) ∈ fKS)
   split
   . exact (by simp [fKS] : (1048577 : Nat) ∈ fKS)
   split
   . exact (by simp [fKS] : (1 : Nat) ∈ fKS)
   simp only [argF]
   split
   . exact trivial
   split
   . intro c hc; simp at hc; rcases hc with rfl | rfl | rfl | rfl | rfl | rfl | rfl | rfl | rfl | rfl | rfl | rfl | rfl | rfl | rfl | rfl | rfl | rfl | rfl | rfl | rfl | rfl | rfl | rfl | rfl <;> exact trivial
   split
   . exact trivial
   split
   . intro c hc; simp at hc; subst hc; exact (by simp [fKS] : (0 : Nat) ∈ fKS)
   . exact fun c hc => by simp at hc
 have hFF : FlyF f := ⟨hfA, by rw [hf]; simp, by rw [hf]; simp, by rw [hf]; simp, by rw [hf]; simp, by rw [hf]; simp, by rw [hf]; simp⟩
 have f18 : f 18 = .cl 205 [.lp 7340033 0] := by rw [hf]; simp
 obtain ⟨_, f4, f5, f6, f7, f8, f9⟩ := id hFF
 rw [<- hf]
 have hK := fun z acc t e er => fKeep k r l f z acc t e er hfA
 have hN : ∀ i ∈ fKS, i < 1000000000 := by simp [fKS]
 have hX : ∀ i : Nat, ∀ x ∈ fXS (ns.take i), x < 1048576 := fun i x hx => by
   unfold fXS at hx; split at hx <;> simp at hx; omega
 have hrec : ∀ z acc t e er, ∃ fr nt ps pa pb jmp, lk (fL k r l f z acc t e er) 8388609 = some [.lr fr nt ps pa pb jmp] /\ ps.length = 2 := fun z acc t e er => ⟨f, 69, [19, 20], p103l0, p103l1, z, by simp [fL], rfl⟩
 have hbox : ∀ z acc t e er, lk (fL k r l f z acc t e er) 7340033 = some [.d (legsD l)] := fun z acc t e er => by simp [fL]
 have hround : ∀ j i m, j < ns.length -> (minL 0 l)[j]? = some (i, m) -> Ym prog 8388609 [vi i, vi m] (lk (fL k r l f .ready (ns.take j) (shpJ s ns j) ev0 0)) fKS (.ret (vb true)) (lk (fL k r l f .ready (ns.take (j + 1)) (shpJ s ns (j + 1)) ev0 0)) := fun j i m hj him => by
   obtain ⟨n, hn⟩ : ∃ n, ns[j]? = some n := ⟨_, List.getElem?_eq_getElem hj⟩
   obtain ⟨i', m', x, e1, e2, e3⟩ := hrd hn
   rw [him] at e1
   cases e1
   have := fly_round hS k r l f hFF (ns.take j) (shpJ s ns j) n i m x (by omega) (by rw [List.length_take]; omega) h1 h2 h3 hk hR hg (hsj (by omega)) (hok x (List.mem_of_getElem? e2)) e2 e3
   rw [shpJ_next hn, List.take_add_one, hn]
   exact this
 rcases hend with ⟨hok1, hlen1⟩ | ⟨i, m, x, e, hm1, hm2, hm3, hm4⟩
 ·
   have c := minutes_run l (by omega) hok fKS (fun j => fXS (ns.take j)) 8388609 7340033 ns.length (fun _ => true) (fun j => fL k r l f .ready (ns.take j) (shpJ s ns j) ev0 0) (by simp [fKS]) (by simp [fKS]) hN hX (by omega) (fun j _ => hK _ _ _ _ _) (fun j _ => hrec _ _ _ _ _) (fun j _ => hbox _ _ _ _ _) (fun _ _ => rfl) (Or.inl hlen1) (fun j i m hj him => hround j i m hj him)
   have hK0 := hK .ready [] s ev0 0
   have hKn := hK .ready ns (shpJ s ns ns.length) ev0 0
   have c0 : fL k r l f .ready (ns.take 0) (shpJ s ns 0) ev0 0 = fL k r l f .ready [] s ev0 0 := rfl
   have cn : fL k r l f .ready (ns.take ns.length) (shpJ s ns ns.length) ev0 0 = fL k r l f .ready ns (shpJ s ns ns.length) ev0 0 := by rw [List.take_length]
   rw [c0, cn, fL_T, fL_T, fKS_eq] at c
   rw [fL_T, fKS_eq] at hK0 hKn
   have hFe : flyZ FK = (0, ev0) := by rw [hok1]; rfl
   rw [hFe]
   refine PRange.keepX (fT k r l [] s ev0 0) (fT k r l ns (shpJ s ns ns.length) ev0 0) [7340033, 1, 1048577, 2097153, 3145729, 4194305, 5242881, 0] (fXS []) (fXS ns) (.tup []) .ready hE.2 (g := 205) (caps := [.lp 7340033 0]) (by simp [f18]) (by rw [hnt]; exact c) (by rw [hnt]; exact hK0) (by rw [hnt]; exact hKn) (fun x hx => by have := hX ns.length x (by rw [List.take_length]; exact hx); exact this) (by simp [fXS]) (by simp [fXS, fT, hdF_nil, ouF_nil, ev0]) (by simp) fun F h1 h2 => ?_
   by_cases h0 : ns = []
   . subst h0
     have F0 := h1 (0, _) (by simp [fT, hdF_nil, ouF_nil]; rfl)
     have F8 := h1 (4194305, _) (by simp [fT, hdF_nil, ouF_nil]; rfl)
     have F9 := h1 (5242881, _) (by simp [fT, hdF_nil, ouF_nil]; rfl)
     simp [sg, renC, ren1, ren0] at F0 F8 F9
     rw [hdF_nil, ouF_nil]
     show blkQ 0 _ .normal _
     simp [f8, f9, F8, F9, splice]
     refine RetOk.by (lk [(0, 0)]) ?_
     simp [results103, F0, ev0, f8, f9]
   . have F0 := h1 (0, _) (by simp [fT, hdF_ne h0, ouF_ne h0]; rfl)
     have F7 := h1 (7, _) (by simp [fT, hdF_ne h0, ouF_ne h0]; rfl)
     have F8 := h1 (4194305, _) (by simp [fT, hdF_ne h0, ouF_ne h0]; rfl)
     have F9 := h1 (5242881, _) (by simp [fT, hdF_ne h0, ouF_ne h0]; rfl)
     simp [sg, renC, ren1, ren0] at F0 F7 F8 F9
     rw [hdF_ne h0, ouF_ne h0]
     show blkQ 0 _ .normal _
     simp [f8, f9, F8, F9, splice]
     refine RetOk.by (lk [(0, 0), (1, 9437192)]) ?_
     simp [results103, F0, F7, ev0, f8, f9]
     all_goals first | exact Or.inl (List.all_eq_true.2 fcel_cell) | skip
 . have hal : ns.length < (minL 0 l).length := (List.getElem?_eq_some_iff.1 hm1).1
   obtain ⟨EZ, hEZ⟩ : ∃ EZ, evOf i m e = EZ := ⟨_, rfl⟩
   have hFe : flyZ FK = EZ := by rw [hm4, hEZ]; rfl
   rw [hFe]
   have hfail := fly_fail hS k r l f hFF ns (shpJ s ns ns.length) i m x e (by omega) h1 h2 h3 hk hR hg (hsj (Nat.le_refl _)) (hok x (List.mem_of_getElem? hm2)) hm2 hm3
   rw [hEZ] at hfail
   obtain ⟨SF, hSF⟩ : ∃ SF, failS x m (shpJ s ns ns.length) = SF := ⟨_, rfl⟩
   rw [hSF] at hfail
   obtain ⟨LL, hLL⟩ : ∃ LL : Nat -> List (Nat × List V), LL = fun j => if j <= ns.length then fL k r l f .ready (ns.take j) (shpJ s ns j) ev0 0 else fL k r l f (.done .ret) ns SF EZ.2 EZ.1 := ⟨_, rfl⟩
   have LLa : ∀ j, j <= ns.length -> LL j = fL k r l f .ready (ns.take j) (shpJ s ns j) ev0 0 := fun j hj => by rw [hLL]; simp only; rw [if_pos hj]
   have LLb : LL (ns.length + 1) = fL k r l f (.done .ret) ns SF EZ.2 EZ.1 := by rw [hLL]; simp only; rw [if_neg (by omega)]
   have tk : ∀ j, ns.length <= j -> ns.take j = ns := fun j hj => List.take_of_length_le hj
   have c := minutes_run l (by omega) hok fKS (fun j => fXS (ns.take j)) 8388609 7340033 (ns.length + 1) (fun j => decide (j < ns.length)) LL (by simp [fKS]) (by simp [fKS]) hN hX (by omega) (fun j hj => by
       by_cases h : j <= ns.length
       . rw [LLa j h]; exact hK _ _ _ _ _
       . rw [show j = ns.length + 1 by omega, LLb, tk _ (by omega)]; exact hK _ _ _ _ _) (fun j hj => by
       rw [LLa j (by omega)]; exact hrec _ _ _ _ _) (fun j hj => by
       by_cases h : j <= ns.length
       . rw [LLa j h]; exact hbox _ _ _ _ _
       . rw [show j = ns.length + 1 by omega, LLb]; exact hbox _ _ _ _ _) (fun j hj => decide_eq_true (by omega)) (Or.inr ⟨by omega, decide_eq_false (by omega)⟩) (fun j i' m' hj him => by
       by_cases h : j < ns.length
       . rw [LLa j (by omega), LLa (j + 1) (by omega), decide_eq_true h]; exact hround j i' m' h him
       . have e1 : j = ns.length := by omega
         subst e1
         rw [hm1] at him
         cases him
         rw [LLa ns.length (Nat.le_refl _), LLb, decide_eq_false h, List.take_length]
         exact hfail)
   have hK0 := hK .ready [] s ev0 0
   have hKn := hK (.done .ret) ns SF EZ.2 EZ.1
   have c0 : LL 0 = fL k r l f .ready [] s ev0 0 := by rw [LLa 0 (by omega)]; rfl
   rw [c0, LLb, fL_T, fL_T, fKS_eq] at c
   rw [fL_T, fKS_eq] at hK0 hKn
   refine PRange.keepX (fT k r l [] s ev0 0) (fT k r l ns SF EZ.2 EZ.1) [7340033, 1, 1048577, 2097153, 3145729, 4194305, 5242881, 0] (fXS []) (fXS ns) (.tup []) (.done .ret) hE.2 (g := 205) (caps := [.lp 7340033 0]) (by simp [f18]) (by rw [hnt]; exact c) (by rw [hnt]; exact hK0) (by rw [hnt]; exact hKn) (fun x hx => by have := hX ns.length x (by rw [List.take_length]; exact hx); exact this) (by simp [fXS]) (by simp [fXS, fT, hdF_nil, ouF_nil, ev0]) (by simp) fun F h1 h2 => ?_
   by_cases h0 : ns = []
   . subst h0
     have F0 := h1 (0, _) (by simp [fT, hdF_nil, ouF_nil]; rfl)
     have F8 := h1 (4194305, _) (by simp [fT, hdF_nil, ouF_nil]; rfl)
     have F9 := h1 (5242881, _) (by simp [fT, hdF_nil, ouF_nil]; rfl)
     simp [sg, renC, ren1, ren0] at F0 F8 F9
     rw [hdF_nil, ouF_nil]
     show blkQ 0 _ .ret _
     simp
     refine RetOk.by (lk [(0, 0)]) ?_
     simp [results103, F0, F8, F9, f8, f9]
   . have F0 := h1 (0, _) (by simp [fT, hdF_ne h0, ouF_ne h0]; rfl)
     have F7 := h1 (7, _) (by simp [fT, hdF_ne h0, ouF_ne h0]; rfl)
     have F8 := h1 (4194305, _) (by simp [fT, hdF_ne h0, ouF_ne h0]; rfl)
     have F9 := h1 (5242881, _) (by simp [fT, hdF_ne h0, ouF_ne h0]; rfl)
     simp [sg, renC, ren1, ren0] at F0 F7 F8 F9
     rw [hdF_ne h0, ouF_ne h0]
     show blkQ 0 _ .ret _
     simp
     refine RetOk.by (lk [(0, 0), (1, 9437192)]) ?_
     simp [results103, F0, F7, F8, F9, f8, f9]
     all_goals first | exact Or.inl (List.all_eq_true.2 fcel_cell) | skip
abbrev shpsD (l : List Shp) : D := .sl 25 (l.map shpR)
def flyO (a : Except (Int × Evt) (List Shp)) : List Shp := match a with | .ok ns => ns | .error _ => []
abbrev flyV (a : Except (Int × Evt) (List Shp)) : V := .tup [.d (shpsD (flyO a)), evtV (flyZ a).2, vi (flyZ a).1]
theorem ask_open {k : Sky} {r : Rig} {s : Shp} {a b : Int} (ha : (if okShp s then (0 : Int) else 52) = a) (hz : ¬ askF k r s b = 0) : (¬ frst k r a b = 0 /\ frst k r a b = askF k r s b) \/ (okSky k = true /\ okRig r = true /\ a = 0 /\ b = 0 /\ rngS k r = false /\ askF k r s b = 2) := by
 unfold frst askF at *
 unfold e0 e1
 cases h1 : okSky k
 . left; simp
 . cases h2 : okRig r
   . left; simp
   . cases h3 : okShp s
     . rw [h3] at ha; simp at ha; subst ha; left; simp
     . rw [h3] at ha; simp at ha; subst ha
       by_cases hb0 : b = 0
       . cases h4 : rngS k r
         . right; simp [hb0]
         . rw [h1, h2, h3, h4, hb0] at hz; simp at hz
       . left; simp [hb0]
theorem chkL_ok {l : List Leg} (h : chkL l = 0) : l.length <= 20 /\ (∀ x ∈ l, okLeg x = true) /\ sumM l <= 600 := by
 unfold chkL at h
 split at h
 . simp at h
 split at h
 . rename_i h1 h2
   split at h
   . simp at h
   . exact ⟨by omega, List.all_eq_true.1 h2, by omega⟩
 . simp at h
theorem fly_ID (ID : Nat) (hI : 2 <= ID) (hS : SortOk) (k : Sky) (r : Rig) (l : List Leg) (s : Shp) (hl : l.length <= 100) (hok : ∀ x ∈ l, okLeg x = true) (h1 : k.s.length <= 1000000) (h2 : k.w.length <= 1000000) (h3 : r.reg.length <= 1000000) (hk : okSky k = true) (hR : okRig r = true) (hg : rngS k r = true) (hs : okShp s = true) :
   Cm prog 103 [tripV k r, shpV s (.d (cellsD s.gas.cs)), .d (legsD l), .cl 104 [.lp ID 0]] (lk [(ID, [.d (.lit (.slice none 0 0))])]) [ID] (.ret (.tup [evtV (flyZ (flyK k r l (minL 0 l) s)).2, vi (flyZ (flyK k r l (minL 0 l) s)).1])) (lk ([(ID, [hdF 25 (flyP k r l (minL 0 l) s) 1])] ++ ouF shpR (flyP k r l (minL 0 l) s) 1)) := by
 have h := fly_F hS k r l s hl hok h1 h2 h3 hk hR hg hs
 generalize flyP k r l (minL 0 l) s = ns at *
 generalize flyZ (flyK k r l (minL 0 l) s) = e at *
 have hr : ∀ l : List Shp, (fcel shpR l).map (renC fun i => if i = 0 then ID else i) = fcel shpR l := fun l => by
   simp [fcel, List.map_flatten, Function.comp_def]
 have := Cm.rename (fun i => if i = 0 then ID else i) 2 (by intro i j hi hj; split <;> split <;> omega) h (by simp [idsLt]) (by
   by_cases h0 : ns = []
   . subst h0; simp [idsLt, hdF_nil, ouF_nil]
   . simp [idsLt, hdF_ne h0, ouF_ne h0]) (by simp)
 have hc : ren2 (fun i => if i = 0 then ID else i) (V.cl 104 [.lp 0 0]) = .cl 104 [.lp ID 0] := rfl
 by_cases h0 : ns = []
 . subst h0
   rw [hdF_nil, ouF_nil] at this ⊢
   simpa [renL, renR, hc] using this
 . rw [hdF_ne h0, ouF_ne h0] at this ⊢
   simpa [renL, renR, hr, hc] using this
theorem fly_0 (hS : SortOk) (k : Sky) (r : Rig) (s : Shp) (l : List Leg) (h1 : k.s.length <= 1000000) (h2 : k.w.length <= 1000000) (h3 : r.reg.length <= 1000000) (h4 : s.gas.cs.length <= 1000000) (h5 : l.length <= 1000000) (h6 : ∀ x ∈ l, x.acts.length <= 1000000) : Ct prog 45 [skyV k, rigV r, shpV s (.d (cellsD s.gas.cs)), .d (legsD l)] (.tup [hdF 25 (flyO (flyA k r s l)) 0, evtV (flyZ (flyA k r s l)).2, vi (flyZ (flyA k r s l)).1]) (ouF shpR (flyO (flyA k r s l)) 0) := by
 have c1 := fn36 s (by omega)
 have c2 := fn38 l h5 h6
 obtain ⟨a, ha⟩ : ∃ a : Int, (if okShp s then 0 else 52) = a := ⟨_, rfl⟩
 obtain ⟨b, hb⟩ : ∃ b : Int, chkL l = b := ⟨_, rfl⟩
 rw [ha] at c1
 rw [hb] at c2
 unfold flyA
 rw [hb]
 by_cases hz : askF k r s b = 0
 . rw [if_pos hz]
   obtain ⟨hk, hR, hs, hb0, hg⟩ := ask_parts hz
   have ha0 : a = 0 := by rw [<- ha, hs]; rfl
   subst ha0 hb0
   obtain ⟨q1, q2, q3⟩ := chkL_ok hb
   have c3 := open_at 12582912 hS k r h1 h2 h3 hk hR hg
   have c4 := fly_ID 22020096 (by omega) hS k r l s (by omega) q2 h1 h2 h3 hk hR hg hs
   have hmem : ∀ p ∈ minL 0 l, ∃ x, l[p.1]? = some x := fun p hp => by
     obtain ⟨x, _, h, _⟩ := mem_minL hp
     exact ⟨x, by simpa using h⟩
   have hend := flyP_end (k := k) (r := r) (s := s) hmem
   have herr := fun e => fly_err (k := k) (r := r) (l := l) (im := minL 0 l) (s := s) (e := e) hmem
   generalize flyP k r l (minL 0 l) s = ns at *
   generalize flyK k r l (minL 0 l) s = FK at *
   rcases hend with ⟨e1, _⟩ | ⟨i, m, x, e, _, _, _, e4⟩
   . subst e1
     simp only [flyO, flyZ] at c4 ⊢
     by_cases h0 : ns = []
     . subst h0
       rw [hdF_nil, ouF_nil] at c4 ⊢
       refine CB func45 c45 (by simp [ntmps45]) fun E hE => ?_
       simp [p45]
       refine pw_drawW [(7, 12582912)] (by kernel_rfl) ?_
       simp [inC, Nat.testBit]
       refine CLa (c1) ?_
       simp [inC, Nat.testBit]
       refine CLa (c2) ?_
       simp [splice, repl, inC, Nat.testBit]
       refine ACall.mkD _ _ _ _ _ (c3) (by simp [inC, Nat.testBit]) (by simp) (by simp) (by simp) (by first | (left; simp; done) | (right; simp [bor1_same, inC, Nat.testBit]; done)) (by intro r h; first | (cases h; done) | (cases h; simp [wrL])) (by intro r h; cases h; try exact ⟨_, rfl⟩) ?_
       simp
       refine ACall.mkR _ _ _ _ _ (c4) (by simp) (by simp) (by simp) (by simp) (by first | (left; simp; done) | (right; simp; done)) ?_
       simp [splice, ev0]
       refine RetOk.by (fun _ => none) ?_
       simp [results45]
     . rw [hdF_ne h0, ouF_ne h0] at c4 ⊢
       refine CB func45 c45 (by simp [ntmps45]) fun E hE => ?_
       simp [p45]
       refine pw_drawW [(7, 12582912)] (by kernel_rfl) ?_
       simp [inC, Nat.testBit]
       refine CLa (c1) ?_
       simp [inC, Nat.testBit]
       refine CLa (c2) ?_
       simp [splice, repl, inC, Nat.testBit]
       refine ACall.mkD _ _ _ _ _ (c3) (by simp [inC, Nat.testBit]) (by simp) (by simp) (by simp) (by first | (left; simp; done) | (right; simp [bor1_same, inC, Nat.testBit]; done)) (by intro r h; first | (cases h; done) | (cases h; simp [wrL])) (by intro r h; cases h; try exact ⟨_, rfl⟩) ?_
       simp
       refine ACall.mkR _ _ _ _ _ (c4) (by simp) (by simp) (by simp) (by simp) (by first | (left; simp; done) | (right; simp; done)) ?_
       simp [splice, ev0]
       refine RetOk.by (lk [(0, 27262977)]) ?_
       simp [results45]
       all_goals first | exact Or.inl (List.all_eq_true.2 fcel_cell) | skip
   . have he := (herr _ e4).1
     subst e4
     simp only [flyO, flyZ, hdF_nil, ouF_nil] at c4 ⊢
     generalize evOf i m e = ee at *
     by_cases h0 : ns = []
     . subst h0
       rw [hdF_nil, ouF_nil] at c4
       refine CB func45 c45 (by simp [ntmps45]) fun E hE => ?_
       simp [p45]
       refine pw_drawW [(7, 12582912)] (by kernel_rfl) ?_
       simp [inC, Nat.testBit]
       refine CLa (c1) ?_
       simp [inC, Nat.testBit]
       refine CLa (c2) ?_
       simp [splice, repl, inC, Nat.testBit]
       refine ACall.mkD _ _ _ _ _ (c3) (by simp [inC, Nat.testBit]) (by simp) (by simp) (by simp) (by first | (left; simp; done) | (right; simp [bor1_same, inC, Nat.testBit]; done)) (by intro r h; first | (cases h; done) | (cases h; simp [wrL])) (by intro r h; cases h; try exact ⟨_, rfl⟩) ?_
       simp
       refine ACall.mkR _ _ _ _ _ (c4) (by simp) (by simp) (by simp) (by simp) (by first | (left; simp; done) | (right; simp; done)) ?_
       simp [splice, he]
       refine pw_drawW [(3, 4194304)] (by kernel_rfl) ?_
       simp [splice, inC, Nat.testBit]
       refine RetOk.by (fun _ => none) ?_
       simp [results45]
     . rw [hdF_ne h0, ouF_ne h0] at c4
       refine CB func45 c45 (by simp [ntmps45]) fun E hE => ?_
       simp [p45]
       refine pw_drawW [(7, 12582912)] (by kernel_rfl) ?_
       simp [inC, Nat.testBit]
       refine CLa (c1) ?_
       simp [inC, Nat.testBit]
       refine CLa (c2) ?_
       simp [splice, repl, inC, Nat.testBit]
       refine ACall.mkD _ _ _ _ _ (c3) (by simp [inC, Nat.testBit]) (by simp) (by simp) (by simp) (by first | (left; simp; done) | (right; simp [bor1_same, inC, Nat.testBit]; done)) (by intro r h; first | (cases h; done) | (cases h; simp [wrL])) (by intro r h; cases h; try exact ⟨_, rfl⟩) ?_
       simp
       refine ACall.mkR _ _ _ _ _ (c4) (by simp) (by simp) (by simp) (by simp) (by first | (left; simp; done) | (right; simp; done)) ?_
       simp [splice, he]
       refine pw_drawW [(3, 4194304)] (by kernel_rfl) ?_
       simp [splice, inC, Nat.testBit]
       refine RetOk.by (fun _ => none) ?_
       simp [results45]
 . rw [if_neg hz]
   simp only [flyO, flyZ, hdF_nil, ouF_nil, ev0]
   rcases ask_open ha hz with ⟨k1, k2⟩ | ⟨k1, k2, k3, k4, k5, k6⟩
   . have c3 := open_err hS k r a b h1 h2 h3 k1
     rw [<- k2]
     generalize frst k r a b = e at *
     refine CB func45 c45 (by simp [ntmps45]) fun E hE => ?_
     simp [p45]
     refine pw_drawW [] (by kernel_rfl) ?_
     simp [inC, Nat.testBit]
     refine CLa (c1) ?_
     simp [inC, Nat.testBit]
     refine CLa (c2) ?_
     simp [splice, repl, inC, Nat.testBit]
     refine CLb (c3) (by simp [bor_i2, Hcl, inC, Nat.testBit]) ?_
     simp [splice, k1]
     refine RetOk.by (fun _ => none) ?_
     simp [results45]
   . subst k3 k4
     have c3 := open_rng hS k r h1 h2 h3 k1 k2 k5
     rw [k6]
     refine CB func45 c45 (by simp [ntmps45]) fun E hE => ?_
     simp [p45]
     refine pw_drawW [] (by kernel_rfl) ?_
     simp [inC, Nat.testBit]
     refine CLa (c1) ?_
     simp [inC, Nat.testBit]
     refine CLa (c2) ?_
     simp [splice, repl, inC, Nat.testBit]
     refine CLb (c3) (by simp [bor_i2, Hcl, inC, Nat.testBit]) ?_
     simp [splice]
     refine RetOk.by (fun _ => none) ?_
     simp [results45]
theorem fn45 (hS : SortOk) (k : Sky) (r : Rig) (s : Shp) (l : List Leg) (h1 : k.s.length <= 1000000) (h2 : k.w.length <= 1000000) (h3 : r.reg.length <= 1000000) (h4 : s.gas.cs.length <= 1000000) (h5 : l.length <= 1000000) (h6 : ∀ x ∈ l, x.acts.length <= 1000000) : Ct prog 45 [skyV k, rigV r, shpV s (.d (cellsD s.gas.cs)), .d (legsD l)] (flyV (flyA k r s l)) [] := by
 refine Cm.freeze (fly_0 hS k r s l h1 h2 h3 h4 h5 h6) ?_
 obtain ⟨ns, hns⟩ : ∃ ns, flyO (flyA k r s l) = ns := ⟨_, rfl⟩
 unfold flyV
 rw [hns]
 have z : ∀ (H : Hp) (x : Int), FzC H (vi x) (vi x) := fun H x => ⟨_, rfl, .inl rfl⟩
 refine ⟨?_, ⟨z _ _, z _ _, z _ _, z _ _, trivial⟩, .inl rfl, trivial⟩
 by_cases h0 : ns = []
 . subst h0
   rw [hdF_nil]
   exact .inr ⟨rfl, _, rfl⟩
 . rw [hdF_ne h0, ouF_ne h0]
   exact bor_fcel (H := lk [(0, fcel shpR ns)]) (id := 0) hf25 (l := ns) (by simp)
abbrev lgV (l : Leg) : List V := [vi l.m, vi l.axl, vi l.axh, vi l.ayl, vi l.ayh, vi l.ul, vi l.uh, vi l.bl, vi l.bh, vi l.dr, .d (actsD l.acts)]
theorem bor_leg1 {l : Leg} : ∀ (H : Hp) (b : Nat), H b = some (lgV l) -> Bor H (.ls b 0 1 11) (.d (legsD [l])) := fun _ _ hh => bor_fcel (f := legL) (fun _ => rfl) (l := [l]) hh
theorem fz_d {H : Hp} (d : D) : FzC H (.d d) (.d d) := ⟨d, rfl, by cases d <;> first | exact Or.inl rfl | rfl⟩
theorem fz_ds {H : Hp} : ∀ ds : List D, All2 (FzC H) (ds.map .d) (ds.map .d)
 | [] => trivial
 | d :: ds => ⟨fz_d d, fz_ds ds⟩
theorem fz_sky {H : Hp} (k : Sky) : Fz1 H (skyV k) (skyV k) := fz_ds [levsD k.s, galsD k.w]
theorem fz_rig {H : Hp} (r : Rig) : Fz1 H (rigV r) (rigV r) := fz_ds [spansD r.reg, di r.gl, di r.gh, di r.tank, di r.rsv, di r.lo, di r.hi]
theorem fz_shp {H : Hp} (s : Shp) : Fz1 H (shpV s (.d (cellsD s.gas.cs))) (shpV s (.d (cellsD s.gas.cs))) := fz_ds (shpR s)
theorem fz_leg1 {H : Hp} {b : Nat} {l : Leg} (h : H b = some (lgV l)) : Fz1 H (.ls b 0 1 11) (.d (legsD [l])) := bor_leg1 H b h
theorem fly_give {k : Sky} {r : Rig} {s : Shp} {l : Leg} {R : V} (h : Ct prog 45 [skyV k, rigV r, shpV s (.d (cellsD s.gas.cs)), .d (legsD [l])] R []) (b : Nat) : Cm prog 45 [skyV k, rigV r, shpV s (.d (cellsD s.gas.cs)), .ls b 0 1 11] (lk [(b, lgV l)]) [] (.ret R) (lk []) :=
 Cm.give h ⟨fz_sky k, fz_rig r, fz_shp s, fz_leg1 (by simp [lk]), trivial⟩
theorem fn48 (hS : SortOk) : Ct prog 48 [] (vb true) [] := by
 have sp := fn51
 have e1 := fn66
 have e2 := fn67
 have e3 := fn64
 have e4 := fn65
 have d1 := fn21 exSky exShip (by decide) (by decide) (by decide)
 have d2 := fn45 hS exSky exRig exShip [exLeg] (by decide) (by decide) (by decide) (by decide) (by decide) (by decide)
 have d3 := fn45 hS exSky exLow exShip [exLeg] (by decide) (by decide) (by decide) (by decide) (by decide) (by decide)
 rw [ex_hv] at d1
 rw [ex_fly] at d2
 rw [ex_low] at d3
 simp only [flyV, flyO, flyZ] at d2 d3
 have d3 : Cm prog 45 [skyV exSky, .agg [.d (spansD exRig.reg), vi exRig.gl, vi exRig.gh, vi exRig.tank, vi exRig.rsv, vi exRig.lo, vi 219], shpV exShip (.d (cellsD exShip.gas.cs)), .ls 34603008 0 1 11] (lk [(34603008, lgV exLeg)]) [] _ _ := fly_give d3 34603008
 refine CB func48 c48 (by simp [ntmps48]) fun E hE => ?_
 simp [p48]
 repeat ((first | (refine CLr (e1) ?_ ?_ ?_; (focus (simp; done)); (focus (first | (left; simp; done) | (right; simp; done)))) | (refine CLr (e2) ?_ ?_ ?_; (focus (simp; done)); (focus (first | (left; simp; done) | (right; simp; done)))) | (refine CLr (e3) ?_ ?_ ?_; (focus (simp; done)); (focus (first | (left; simp; done) | (right; simp; done)))) | (refine CLr (e4) ?_ ?_ ?_; (focus (simp; done)); (focus (first | (left; simp; done) | (right; simp; done)))) | (refine CLr (d1) ?_ ?_ ?_; (focus (simp; done)); (focus (first | (left; simp; done) | (right; simp; done))))); simp [splice, repl])
 refine ACall.mkR _ _ _ _ _ (fly_give d2 14680064) (by simp) (by simp) (by simp) (by simp) (by first | (left; simp; done) | (right; simp; done)) ?_
 simp [splice]
 repeat ((first | (refine CLr (e1) ?_ ?_ ?_; (focus (simp; done)); (focus (first | (left; simp; done) | (right; simp; done)))) | (refine CLr (e2) ?_ ?_ ?_; (focus (simp; done)); (focus (first | (left; simp; done) | (right; simp; done)))) | (refine CLr (e3) ?_ ?_ ?_; (focus (simp; done)); (focus (first | (left; simp; done) | (right; simp; done)))) | (refine CLr (e4) ?_ ?_ ?_; (focus (simp; done)); (focus (first | (left; simp; done) | (right; simp; done))))); simp [splice])
 refine pw_drawW [(5, 34603008), (12, 40894464)] (by kernel_rfl) ?_
 simp [inC, Nat.testBit]
 refine CLa (e1) ?_
 simp [inC, Nat.testBit]
 refine CLa (e3) ?_
 simp [inC, Nat.testBit]
 refine CLa (e4) ?_
 simp [splice, repl, inC, Nat.testBit]
 refine ACall.mkD _ _ _ _ _ (d3) (by simp [inC, Nat.testBit]) (by simp) (by simp) (by simp) (by first | (left; simp; done) | (right; simp [inC, Nat.testBit]; done)) (by intro r h; first | (cases h; done) | (cases h; simp [wrL])) (by intro r h; cases h; try exact ⟨_, rfl⟩) ?_
 simp [splice, inC, Nat.testBit]
 refine CLa (sp 0 0) ?_
 simp [splice, inC, Nat.testBit, ev0]
 refine pw_drawW [(8, 82837504)] (by kernel_rfl) ?_
 simp [splice, inC, Nat.testBit]
 repeat ((first | (refine CLr (sp 660 720) ?_ ?_ ?_; (focus (simp; done)); (focus (first | (left; simp; done) | (right; simp; done)))) | (refine CLr (sp 0 0) ?_ ?_ ?_; (focus (simp; done)); (focus (first | (left; simp; done) | (right; simp; done)))) | (refine CLr (sp 140 160) ?_ ?_ ?_; (focus (simp; done)); (focus (first | (left; simp; done) | (right; simp; done)))) | (refine CLr (sp 980 990) ?_ ?_ ?_; (focus (simp; done)); (focus (first | (left; simp; done) | (right; simp; done)))) | (refine CLr (sp 5 20) ?_ ?_ ?_; (focus (simp; done)); (focus (first | (left; simp; done) | (right; simp; done)))) | (refine CLr (sp 10 20) ?_ ?_ ?_; (focus (simp; done)); (focus (first | (left; simp; done) | (right; simp; done)))) | (refine CLr (sp 1320 1440) ?_ ?_ ?_; (focus (simp; done)); (focus (first | (left; simp; done) | (right; simp; done)))) | (refine CLr (sp 180 220) ?_ ?_ ?_; (focus (simp; done)); (focus (first | (left; simp; done) | (right; simp; done)))) | (refine CLr (sp 960 980) ?_ ?_ ?_; (focus (simp; done)); (focus (first | (left; simp; done) | (right; simp; done)))) | (refine CLr (sp 10 30) ?_ ?_ ?_; (focus (simp; done)); (focus (first | (left; simp; done) | (right; simp; done)))) | (refine CLr (sp 20 40) ?_ ?_ ?_; (focus (simp; done)); (focus (first | (left; simp; done) | (right; simp; done))))); simp [inC, Nat.testBit, exA, exB])
 refine RetOk.by (fun _ => none) ?_
 simp [results48]
abbrev skB (k : Sky) : List V := [.d (levsD k.s), .d (galsD k.w)]
abbrev rgB7 (r : Rig) : List V := [.d (spansD r.reg), vi r.gl, vi r.gh, vi r.tank, vi r.rsv, vi r.lo, vi r.hi]
theorem cons_w {r : Rig} {s t : Shp} {n m : Nat} (_ : RigB r) (h : Cons r s t n) (hn : n <= m) : t.wh <= s.wh + (t.bh - s.bh) * r.gh / 100 + m + 1 := by
 have h1 := h.water
 generalize (t.bh - s.bh) * r.gh = z at *
 omega
theorem fly_bad {k : Sky} {r : Rig} {s : Shp} {l : List Leg} {e : Int × Evt} (h : flyA k r s l = .error e) : ¬ e.1 = 0 := by
 unfold flyA at h
 split at h
 . rename_i hz
   exact (fly_err (fun p hp => by
     obtain ⟨x, _, h, _⟩ := mem_minL hp
     exact ⟨x, by simpa using h⟩) h).1
 . rename_i hz; cases h; exact hz
theorem fly_good {k : Sky} {r : Rig} {s : Shp} {l : List Leg} {ns : List Shp} (h : flyA k r s l = .ok ns) : Trip k r /\ okShp s = true /\ (∀ x ∈ l, okLeg x = true) /\ (l.length <= 20 /\ sumM l <= 600) /\ okRig r = true /\ flyK k r l (minL 0 l) s = .ok ns := by
 unfold flyA at h
 split at h
 . rename_i hz
   obtain ⟨h1, h2, h3, h4, h5⟩ := ask_parts hz
   obtain ⟨q1, q2, q3⟩ := chkL_ok h4
   exact ⟨⟨h1, okRig_B h2, h5⟩, h3, q2, ⟨q1, q3⟩, h2, h⟩
 . cases h
theorem fn8 (hS : SortOk) (k : Sky) (r : Rig) (s : Shp) (l : List Leg) : Ct prog 8 [skyV k, rigV r, shpV s (.d (cellsD s.gas.cs)), .d (legsD l)] (vb true) [] := by
 have d0 := fn48 hS
 have d1 := fn29 k r s l
 cases hg : grA k r s l
 case true =>
   rw [hg] at d1
   refine CB func8 c8 (by simp [ntmps8]) fun E hE => ?_
   simp [p8]
   refine CLa (d0) ?_
   simp
   refine CLa (d1) ?_
   simp
   refine RetOk.by (fun _ => none) ?_
   simp [results8]
 rw [hg] at d1
 obtain ⟨⟨g1, g2⟩, g3, g4, g5, g6⟩ := grA_no hg
 have d2 := fn45 hS k r s l (by omega) (by omega) (by omega) (by omega) (by omega) fun x hx => by have := g6 x hx; omega
 cases hf : flyA k r s l with
 | error e =>
   have he := fly_bad hf
   rw [hf] at d2
   simp only [flyV, flyO, flyZ] at d2
   refine CB func8 c8 (by simp [ntmps8]) fun E hE => ?_
   simp [p8]
   refine CLa (d0) ?_
   simp
   refine CLa (d1) ?_
   simp
   refine CLa (d2) ?_
   simp [splice, he]
   refine RetOk.by (fun _ => none) ?_
   simp [results8]
 | ok ns =>
   rw [hf] at d2
   simp only [flyV, flyO, flyZ] at d2
   obtain ⟨hT, hs, hl, ⟨l1, l2⟩, hR, hK⟩ := fly_good hf
   have hlen := fly_len hK
   have hml := minL_len (i := 0) hl
   have hok := fly_ok hT hl hs hK
   have hcons := fly_cons_all hT hl hs (Cons.refl r s) hK
   have hnl : ns.length <= 600 := by omega
   have sB := okShp_B hs
   have sX := okShp_X hs
   have rg := hT.rig.g
   refine CB func8 c8 (by simp [ntmps8]) fun E hE => ?_
   simp [p8]
   refine CLa (d0) ?_
   simp
   refine CLa (d1) ?_
   simp
   refine CLa (d2) ?_
   simp [splice]
   refine pw_loop (α := Nat) (fun i => ⟨slots [(4, .lp 0 0), (5, .lp 1 0), (6, .lp 2 0), (9, vb true), (10, .d (shpsD ns)), (44, .d (shpsD ns)), (45, vi ns.length), (46, vi i)], lk [(0, skB k), (1, rgB7 r), (2, shB s)], 3⟩) (fun i => i <= ns.length) (fun i => ns.length - i) 0 ?_ ?_ ?_
   . omega
   . refine Weak.mk hE (lk [(0, 0), (1, 1048576), (2, 2097152)]) _ _ _ ?_ ?_ ?_ ?_ ?_ <;> simp
   . intro i hi
     by_cases h : i < ns.length
     . obtain ⟨n, hn⟩ : ∃ n, ns[i]? = some n := ⟨_, List.getElem?_eq_getElem h⟩
       have hz : IntKind.wrap .i64 ((i : Int) + 1) = ((i + 1 : Nat) : Int) := by rw [wrap64 (by omega) (by omega)]; omega
       have hI : (i : Int) < ns.length := by omega
       have hno := hok n (List.mem_of_getElem? hn)
       obtain ⟨hc, hw⟩ := hcons i n hn
       have hcw := cons_w (m := ns.length) hT.rig hc (by omega)
       obtain ⟨a1, a2, a3, a4, ⟨g1', g2', g3', g4', g5', g6'⟩, a6, a7⟩ := hc
       have nB := okShp_B hno
       have nX := okShp_X hno
       have b1 := sX.p; have b2 := sX.b; have b3 := nX.p; have b4 := nX.b
       have b5 := sB.f; have b6 := nB.f; have b7 := sB.w; have b8 := nB.w; have b9 := sB.b; have bA := nB.b
       obtain ⟨S1, hS1⟩ : ∃ S1, s.bal + s.drp = S1 := ⟨_, rfl⟩
       obtain ⟨S2, hS2⟩ : ∃ S2, s.fl + s.bh = S2 := ⟨_, rfl⟩
       obtain ⟨S3, hS3⟩ : ∃ S3, s.fh + s.bl = S3 := ⟨_, rfl⟩
       have e1 : IntKind.wrap .i64 (s.bal + s.drp) = S1 := by rw [wrap64 (by omega) (by omega)]; exact hS1
       have e1' : IntKind.wrap .i64 (n.bal + n.drp) = S1 := by rw [wrap64 (by omega) (by omega)]; omega
       have e2 : IntKind.wrap .i64 (s.fl + s.bh) = S2 := by rw [wrap64 (by omega) (by omega)]; exact hS2
       have e2' : IntKind.wrap .i64 (n.fl + n.bh) = S2 := by rw [wrap64 (by omega) (by omega)]; omega
       have e3 : IntKind.wrap .i64 (s.fh + s.bl) = S3 := by rw [wrap64 (by omega) (by omega)]; exact hS3
       have e3' : IntKind.wrap .i64 (n.fh + n.bl) = S3 := by rw [wrap64 (by omega) (by omega)]; omega
       have d3 := fn53 n.gas (by have := okPlt_len (okShp_gas hno); omega)
       rw [okShp_gas hno] at d3
       have p0 : 0 <= (n.bh - s.bh) * r.gh := Int.mul_nonneg (by omega) (by omega)
       have p1 : (n.bh - s.bh) * r.gh <= 1000000000000 * 120 := Int.mul_le_mul (by omega) (by omega) (by omega) (by omega)
       have w1 : IntKind.wrap .i64 (n.bh - s.bh) = n.bh - s.bh := wrap64 (by omega) (by omega)
       obtain ⟨Z, hZ⟩ : ∃ Z, (n.bh - s.bh) * r.gh = Z := ⟨_, rfl⟩
       rw [hZ] at p0 p1 hcw
       have w2 : IntKind.wrap .i64 Z = Z := wrap64 (by omega) (by omega)
       have hd : Z.tdiv 100 = Z / 100 := Int.tdiv_eq_ediv_of_nonneg p0
       obtain ⟨Y, hY⟩ : ∃ Y, Z / 100 = Y := ⟨_, rfl⟩
       rw [hY] at hd hcw
       have w2' : IntKind.wrap .i64 Y = Y := wrap64 (by omega) (by omega)
       have w3 : IntKind.wrap .i64 (s.wh + Y) = s.wh + Y := wrap64 (by omega) (by omega)
       have w4 : IntKind.wrap .i64 (s.wh + Y + ns.length) = s.wh + Y + ns.length := wrap64 (by omega) (by omega)
       have w5 : IntKind.wrap .i64 (s.wh + Y + ns.length + 1) = s.wh + Y + ns.length + 1 := wrap64 (by omega) (by omega)
       have hg1 : ¬ s.wh + Y + ns.length + 1 < n.wh := by omega
       have hg2 : ¬ r.tank < n.wh := by omega
       simp [p8l0, hI, hn, splice, e1, e1', e2, e2', e3, e3', a4]
       refine CLa (d3) ?_
       simp [g1', g2', g3', g4', g5', g6', w1, hZ, w2, hd, w2', w3, w4, w5, hg1, hg2, hz]
       refine ⟨i + 1, by omega, by omega, ?_⟩
       refine Weak.mk hE (lk [(0, 0), (1, 1), (2, 2)]) _ _ _ ?_ ?_ ?_ ?_ ?_ <;> simp
     . have hn : ¬ (i : Int) < ns.length := by omega
       simp [p8l0, hn]
       refine RetOk.by (fun _ => none) ?_
       simp [results8]
end Go.Proofs.Tryz
