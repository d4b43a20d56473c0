/- Own lemmas, used by the last text. Conditions: those that each theorem states. -/
import Derived.Lib.SmallJoins
import Derived.OpenShut
import Derived.ProofKit
import Derived.Test.YtcmmbjblncfhbaaGreatDoorOaae
set_option maxRecDepth 200000
set_option maxHeartbeats 8000000
namespace Go.Psl
variable {P : Program} {Γ : Tys} {eqs : Eqs} {E : Ent}
def stOk (s : LSt) (rc : Loop) : Prop := match s with | .ready => rc.state = .ready /\ rc.pending = none | .busy => rc.state = .busy | .done c => rc.state = .done /\ rc.pending = some c | .mapr _ => False
theorem Inv.loopAt {U : Nat -> Prop} {G : Gh} {st : St} {a : Act} {W : World} (hI : Inv E U G st a W) {k : Nat} {fr : Nat -> V} {nt : Nat} {ps : List Nat} {pa pb : PC} {s : LSt} (hk : st.H k = some [.lr fr nt ps pa pb s]) :
   G.ph k = false /\ G.lo k = true /\ ¬ G.Im (G.β k) /\ ∃ rc, W.heap[G.β k]? = some (.loop rc) /\ LRel G W fr nt ps pa pb s rc := by
 rcases hI.hp k _ hk with ⟨_, h⟩ | ⟨_, _, _, c, T, _, _, _, h, h2⟩ | ⟨h0, h1, h2, ⟨_, fr', nt', ps', pa', pb', jmp', rec, h3, h4, h5⟩ | ⟨_, es, ms, ck, h3, _⟩ | ⟨_, bx, bp, bv, h3, _⟩⟩
 . cases h
 . simp [V.isCell] at h2
 . cases h3; exact ⟨h0, h1, h2, rec, h4, h5⟩
 . simp [mapC] at h3
 . simp at h3
theorem Inv.loopBs {U : Nat -> Prop} {G : Gh} {st : St} {a : Act} {W : World} (hI : Inv E U G st a W) {k : Nat} {fr : Nat -> V} {nt : Nat} {ps : List Nat} {pa pb : PC} {s : LSt} (hk : st.H k = some [.lr fr nt ps pa pb s]) : G.bs k = 0 := by
 rcases hI.hp k _ hk with ⟨_, h⟩ | ⟨_, _, _, c, T, _, _, _, h, h2⟩ | ⟨_, _, _, ⟨h, _⟩ | ⟨_, es, ms, ck, h3, _⟩ | ⟨_, bx, bp, bv, h3, _⟩⟩
 . cases h
 . simp [V.isCell] at h2
 . exact h
 . simp [mapC] at h3
 . simp at h3
theorem Inv.setLoop {U : Nat -> Prop} {G : Gh} {st : St} {a : Act} {W : World} (hI : Inv E U G st a W) {k : Nat} {fr : Nat -> V} {nt : Nat} {ps : List Nat} {pa pb : PC} {s s' : LSt} (hk : st.H k = some [.lr fr nt ps pa pb s]) {rc rc' : Loop}
   (hrec : W.heap[G.β k]? = some (.loop rc)) (hs : rc'.params = rc.params /\ rc'.assign = rc.assign /\ rc'.body = rc.body /\ rc'.tmps = rc.tmps /\ rc'.fn = rc.fn) (hst : stOk s' rc') :
   Inv E U G ⟨st.fr, upd st.H k (some [.lr fr nt ps pa pb s']), st.nx⟩ a (W.putObj (G.β k) (.loop rc')) := by
 obtain ⟨hph, hlo, hnim, rc0, hrec0, q1, q2, q3, q4, q5, _, q7⟩ := hI.loopAt hk
 rw [hrec] at hrec0; cases hrec0
 have hlive : (st.H k).isSome = true := by rw [hk]; rfl
 have hlt := (Array.getElem?_eq_some_iff.1 hrec).1
 have hsame : ∀ j, j ≠ G.β k -> (W.putObj (G.β k) (.loop rc')).heap[j]? = W.heap[j]? := fun j hj => World.putObj_heap_other hj
 have hchg : Chg U G W G (W.putObj (G.β k) (.loop rc')) := ⟨fun i _ => ⟨rfl, rfl, rfl, rfl⟩, fun j hj => ⟨hj, hsame j (fun e => hnim (by rw [<- e]; exact hj))⟩⟩
 have hsome : ∀ i, (upd st.H k (some [.lr fr nt ps pa pb s']) i).isSome = true -> (st.H i).isSome = true := fun i hi => by
   by_cases e : i = k
   . subst e; exact hlive
   . simpa only [upd_at, if_neg e] using hi
 have hw := hI.wh k _ hk (.lr fr nt ps pa pb s) (by simp)
 refine { fr := fun t => hchg.rv (hI.wf t) (hI.fr t), wf := hI.wf, hp := ?_, wh := ?_, dom := fun i hi => hI.dom i (hsome i hi), inj := fun i j hi hj => hI.inj i j (hsome i hi) (hsome j hj), own := fun i hi => hI.own i (hsome i hi), im := fun b hb => ⟨by rw [World.putObj_size]; exact (hI.im b hb).1, (hI.im b hb).2⟩, im0 := hI.im0, keep := ?_, stab := fun i hs hi => hI.stab i hs (hsome i hi), sU := hI.sU, nt := hI.nt, df := ?_, gl := hI.gl.mono hchg.im }
 . intro id cs' h
   simp only [upd_at] at h
   split at h
   . rename_i e; subst e; cases h
     refine .inr (.inr ⟨hph, hlo, hnim, .inl ⟨hI.loopBs hk, fr, nt, ps, pa, pb, s', rc', rfl, World.putObj_heap_same hlt, by rw [hs.1]; exact q1, by rw [hs.2.1]; exact q2, by rw [hs.2.2.1]; exact q3, by rw [hs.2.2.2.1]; exact q4, fun t => by rw [hs.2.2.2.1]; exact hchg.rv (hw t) (q5 t), hst, by rw [hs.2.2.2.2]; exact q7⟩⟩)
   . rename_i e
     have hlv : (st.H id).isSome = true := by rw [h]; rfl
     exact hchg.hb (hI.dom id hlv) (hI.wh id cs' h) (hI.hp id cs' h) (fun hp => hsame _ (fun e' => e (hI.inj id k hlv hlive hp hph e'))) (fun hx _ => hx)
 . intro id cs' h x hx
   simp only [upd_at] at h
   split at h
   . cases h
     simp only [List.mem_singleton] at hx
     subst hx
     exact hw
   . exact hI.wh id cs' h x hx
 . refine ⟨hI.keep.os, hI.keep.tape, hI.keep.output, hI.keep.drawn, by rw [World.putObj_size]; exact hI.keep.size, fun j hj hm => (hsame j fun e => ?_).trans (hI.keep.block j hj hm)⟩
   rcases hI.own k hlive hph with h | h
   . omega
   . exact hm (e ▸ h)
 . obtain ⟨ds, h1, h2⟩ := hI.df
   exact ⟨ds, h1, h2.same (fun D hD hd => hsame D (fun e => by rw [e, hrec] at hd; cases hd)) (fun _ _ _ h => h)⟩
def frPuts (f : Nat -> V) : List Nat -> List V -> Nat -> V
 | p :: ps, v :: vs => frPuts (upd f p v) ps vs
 | _, _ => f
theorem frPuts_rel {G : Gh} {W : World} : ∀ {ps : List Nat} {vs : List V} {xs : List Value} {f : Nat -> V} {tmps : Array Value}, All2 (RV G W) vs xs -> ps.length = vs.length -> (∀ p ∈ ps, p < tmps.size) -> (∀ t, RV G W (f t) (tmps.getD t undef)) ->
   (∀ t, RV G W (frPuts f ps vs t) (((ps.zip xs).foldl (fun (tmps : Array Value) (p : Nat × Value) => tmps.setIfInBounds p.1 p.2) tmps).getD t undef)) /\ ((ps.zip xs).foldl (fun (tmps : Array Value) (p : Nat × Value) => tmps.setIfInBounds p.1 p.2) tmps).size = tmps.size
 | [], [], [], f, tmps, _, _, _, hf => ⟨hf, rfl⟩
 | p :: ps, v :: vs, x :: xs, f, tmps, hr, hl, hp, hf => by
   have := frPuts_rel (ps := ps) (vs := vs) (xs := xs) (f := upd f p v) (tmps := tmps.setIfInBounds p x) hr.2 (by simpa using hl) (fun q hq => by simp; exact hp q (by simp [hq])) (fun t => by
     have hpt := hp p (by simp)
     rw [Array.getD_eq_getD_getElem?]
     simp only [upd_at, Array.getElem?_setIfInBounds]
     by_cases h : t = p
     . subst h; simp [hpt]; exact hr.1
     . rw [if_neg h, if_neg (Ne.symm h), <- Array.getD_eq_getD_getElem?]; exact hf t)
   refine ⟨fun t => this.1 t, ?_⟩
   rw [List.zip_cons_cons, List.foldl_cons, this.2]
   simp
 | [], _ :: _, _, _, _, _, hl, _, _ => by simp at hl
 | _ :: _, [], _, _, _, _, hl, _, _ => by simp at hl
 | _ :: _, _ :: _, [], _, _, hr, _, _, _ => hr.elim
 | [], [], _ :: _, _, _, hr, _, _, _ => hr.elim
theorem frPuts_ok {p : Nat -> Prop} : ∀ {ps : List Nat} {vs : List V} {f : Nat -> V}, (∀ v ∈ vs, AV p anyD v) -> (∀ t, AV p anyD (f t)) -> ∀ t, AV p anyD (frPuts f ps vs t)
 | [], _, _, _, hf, t => hf t
 | _ :: _, [], _, _, hf, t => hf t
 | q :: ps, v :: vs, f, hv, hf, t => frPuts_ok (ps := ps) (vs := vs) (fun w hw => hv w (by simp [hw])) (fun t => by
     simp only [upd_at]; split
     . exact hv v (by simp)
     . exact hf t) t
def RndM (k : Nat) (rc : LSt -> V) (s : LSt) (ks : List Nat) (H1 : List (Nat × List V)) (st : St) : Prop :=
 st.H k = some [rc .busy] /\ ∃ ρ, HpOk ρ (upd st.H k (some [rc s])) H1 /\ RhoInj ρ H1 /\ StabL ρ (upd st.H k (some [rc s])) (lk H1) ks
def rndQ (k : Nat) (rc : LSt -> V) (s : LSt) (ks : List Nat) (H1 : List (Nat × List V)) : AExit -> St -> Prop
 | .normal, st => (match s with | .ready => True | _ => False) /\ RndM k rc s ks H1 st
 | .ret, st => (match s with | .done .ret => True | _ => False) /\ RndM k rc s ks H1 st
 | .exit i, st => (match s with | .done (.exit j) => i = j | _ => False) /\ RndM k rc s ks H1 st
 | _, _ => False
def goesOn : LSt -> Bool
 | .ready => true
 | _ => false
theorem Ym.ofA {k : Nat} {fr : Nat -> V} {nt : Nat} {ps : List Nat} {pa pb : PC} {args : List V} {Hin : Hp} {ks : List Nat} {s : LSt} {H1 : List (Nat × List V)} (N : Nat)
   (hk : Hin k = some [.lr fr nt ps pa pb .ready]) (hkk : k ∈ ks) (hlen : ps.length = args.length) (hps : ∀ p ∈ ps, p < nt) (hcl : ∀ v ∈ args, A2 (· < N) anyD v) (hids : IdsFn N Hin) (hks : ∀ i ∈ ks, i < N) (hri : ∀ p ∈ H1, ∀ c ∈ p.2, AC (InB H1) anyD c)
   (h : ∀ E : Ent, E.nt = nt -> (∀ i, E.stab i ↔ i ∈ ks) -> E.rd = some (E.β0 k) -> ∀ c, comp E.nt c = some pa -> AW P E c (seqQ (fun st => st.H k = some [.lr fr nt ps pa pb .ready] /\ ∀ c', comp E.nt c' = some pb -> AW P E c' (rndQ k (.lr fr nt ps pa pb) s ks H1) ⟨st.fr, upd st.H k (some [.lr fr nt ps pa pb .busy]), st.nx⟩) (fun _ _ => False)) ⟨frPuts fr ps args, Hin, N⟩) :
   Ym P k args Hin ks (.ret (.d (.lit (.bool (goesOn s))))) (lk H1) := by
 intro G W xs rc hGW hargs hpre hrec hsz
 obtain ⟨q1, q2, q3, q4, q5, q6⟩ : LRel G W fr nt ps pa pb .ready rc := by
   rcases hpre.hb k _ hk with ⟨_, h⟩ | ⟨_, _, _, c, T, _, _, _, h, h2⟩ | ⟨h0, h1, h2, ⟨_, fr', nt', ps', pa', pb', jmp', rec, h3, h4, h5⟩ | ⟨_, es, ms, ck, h3, _⟩ | ⟨_, bx, bp, bv, h3, _⟩⟩
   . cases h
   . simp [V.isCell] at h2
   . cases h3; rw [hrec] at h4; cases h4; exact h5
   . simp [mapC] at h3
   . simp at h3
 have hargsV : All2 (RV G W) args xs.toList := hargs.mono fun _ _ _ h => h.rv
 have hfold : (rc.params.zip xs).foldl (fun tmps (t, a) => tmps.setIfInBounds t a) rc.tmps = (ps.zip xs.toList).foldl (fun (tmps : Array Value) (p : Nat × Value) => tmps.setIfInBounds p.1 p.2) rc.tmps := by
   rw [<- Array.foldl_toList, Array.toList_zip, q1]
 obtain ⟨r1, r2⟩ := frPuts_rel (ps := ps) (f := fr) (tmps := rc.tmps) hargsV hlen (fun p hp => Nat.lt_of_lt_of_le (hps p hp) q4) q5
 have hwf : ∀ t, AV (· < N) anyD (frPuts fr ps args t) := frPuts_ok (fun v hv => by
   obtain ⟨i, hi⟩ := List.mem_iff_getElem?.1 hv
   obtain ⟨x, _, hx⟩ := hargs.get hi
   exact hx.av (hcl v hv)) (fun t => (hids k _ hk).2 (.lr fr nt ps pa pb .ready) (by simp) t)
 rw [hfold]
 have hI := Inv.start (nt := nt) (rd := some (G.β k)) hGW hpre hids hks (f := frPuts fr ps args) (tmps := (ps.zip xs.toList).foldl (fun (tmps : Array Value) (p : Nat × Value) => tmps.setIfInBounds p.1 p.2) rc.tmps) r1 hwf (by rw [r2]; exact q4)
 refine roundIn_of_wpIn trivial ?_
 have hpw := h { W0 := W, Im0 := G.Im, mu := lentB G Hin, β0 := G.β, bs0 := G.bs, lo0 := G.lo, stab := (· ∈ ks), nt := nt, rd := some (G.β k) } rfl (fun _ => Iff.rfl) rfl
 refine wpIn_mono (hpw rc.assign q2 G _ W hI) fun e a' W' ⟨x, st', G', hI', hx, ho, hq⟩ => ?_
 cases e with
 | normal =>
   cases x with
   | normal =>
     obtain ⟨hk', hb⟩ := hq
     obtain ⟨hph, _, _, rc1, hrec1, hl1⟩ := hI'.loopAt hk'
     have hβ : G'.β k = G.β k := (hI'.stab k hkk (by rw [hk']; rfl)).1
     have hrec1' : W'.heap[G.β k]? = some (.loop rc1) := by rw [<- hβ]; exact hrec1
     have hI2 := hI'.setLoop hk' (rc' := { rc1 with state := .busy }) (s' := .busy) hrec1 ⟨rfl, rfl, rfl, rfl, rfl⟩ rfl
     rw [hβ] at hI2
     refine ⟨_, run_beginRound hrec1' hl1.2.2.2.2.2.1.1, ?_⟩
     refine wpIn_mono (hb rc.body q3 G' a' _ hI2) fun e a2 W2 ⟨x, st2, G2, hI3, hx, ho, hq⟩ => ?_
     have fin : ∀ (j : Option Code), RndM k (.lr fr nt ps pa pb) s ks H1 st2 -> j.isNone = goesOn s -> (∀ rc2 : Loop, stOk s { rc2 with state := if j.isNone then .ready else .done, pending := j }) ->
         ∃ v w', (Instr.endRound (G.β k) j).run P W2 = .ok v w' /\ ∃ G', Post G W Hin ks (.ret (.d (.lit (.bool (goesOn s))))) (lk H1) (.returned v) w' G' := fun j ⟨hk2, ρ, h4, h5, h6⟩ hj hs => by
       obtain ⟨_, _, _, rc2, hrec2, _⟩ := hI3.loopAt hk2
       have hβ2 : G2.β k = G.β k := (hI3.stab k hkk (by rw [hk2]; rfl)).1
       have hI4 := hI3.setLoop hk2 (rc' := { rc2 with state := if j.isNone then .ready else .done, pending := j }) (s' := s) hrec2 ⟨rfl, rfl, rfl, rfl, rfl⟩ (hs rc2)
       rw [hβ2] at hI4 hrec2
       have hri' : ResIds (Res.v (.ret (.d (.lit (.bool (goesOn s)))))) H1 := ⟨trivial, hri⟩
       refine ⟨_, _, by rw [run_endRound j hrec2, hj], _, post_of (res := .ret (.d (.lit (.bool (goesOn s))))) ⟨rfl, rfl, fun _ => Iff.rfl, fun _ h => ⟨h, rfl, rfl, rfl⟩⟩ hri' hI4 h4 h5 h6 (e := .returned (.bool (goesOn s))) ?_⟩
       exact RD.lit _ rfl
     cases e with
     | normal =>
       cases x with
       | normal =>
         obtain ⟨hs, hr⟩ := hq
         cases s with
         | ready => exact fin none hr rfl (fun _ => ⟨rfl, rfl⟩)
         | _ => exact hs.elim
       | _ => exact hx.elim
     | ret =>
       cases x with
       | ret =>
         obtain ⟨hs, hr⟩ := hq
         split at hs
         . exact fin (some .ret) hr rfl (fun _ => ⟨rfl, rfl⟩)
         . exact hs.elim
       | _ => exact hx.elim
     | exit i =>
       cases x with
       | exit i' =>
         have hx : i' = i := hx
         subst hx
         obtain ⟨hs, hr⟩ := hq
         split at hs
         . subst hs; exact fin (some (.exit i')) hr rfl (fun _ => ⟨rfl, rfl⟩)
         . exact hs.elim
       | _ => exact hx.elim
     | goto l => cases x <;> first | exact hq.elim | exact False.elim hx
     | panic ch => cases x <;> first | exact hq.elim | exact False.elim hx
     | outgrown => cases x <;> exact False.elim hx
   | _ => exact hx.elim
 | _ => cases x <;> first | exact False.elim hx | exact hq.elim
theorem Ym.of (hΓ : GOk P Γ) (hE : EqOk P eqs) (hm : P.follows .mixedOrders = true) {k : Nat} {fr : Nat -> V} {nt : Nat} {ps : List Nat} {pa pb : PC} {args : List V} {Hin : Hp} {ks : List Nat} {s : LSt} {H1 : List (Nat × List V)} (N : Nat)
   (hk : Hin k = some [.lr fr nt ps pa pb .ready]) (hkk : k ∈ ks) (hlen : ps.length = args.length) (hps : ∀ p ∈ ps, p < nt) (hcl : ∀ v ∈ args, A2 (· < N) anyD v) (hids : IdsFn N Hin) (hks : ∀ i ∈ ks, i < N) (hri : ∀ p ∈ H1, ∀ c ∈ p.2, AC (InB H1) anyD c)
   (h : ∀ E : Ent, E.nt = nt -> (∀ i, E.stab i ↔ i ∈ ks) -> E.rd = some (E.β0 k) -> PW P Γ eqs E pa (seqQ (fun st => st.H k = some [.lr fr nt ps pa pb .ready] /\ PW P Γ eqs E pb (rndQ k (.lr fr nt ps pa pb) s ks H1) ⟨st.fr, upd st.H k (some [.lr fr nt ps pa pb .busy]), st.nx⟩) (fun _ _ => False)) ⟨frPuts fr ps args, Hin, N⟩) :
   Ym P k args Hin ks (.ret (.d (.lit (.bool (goesOn s))))) (lk H1) :=
 Ym.ofA N hk hkk hlen hps hcl hids hks hri fun E h1 h2 h3 c hc => AW.mono (PW.sound hΓ hE hm c pa hc _ _ (h E h1 h2 h3)) fun e st hq => seqQ_mono (fun _ q => ⟨q.1, fun c' hc' => PW.sound hΓ hE hm c' pb hc' _ _ q.2⟩) (fun _ _ h => h) e st hq
end Go.Psl
namespace Go.Psl
variable {P : Program}
def eqFl : Value -> Value -> Bool
 | .bool a, .bool b => a == b
 | .int k a, .int k' b => decide (k = k') && a == b
 | .string a, .string b => decide (a = b)
 | .nilFunc, .nilFunc => true
 | .nilIface, .nilIface => true
 | .pointer none, .pointer none => true
 | .slice none a b, .slice none a' b' => a == a' && b == b'
 | .map none, .map none => true
 | _, _ => false
theorem eqFl_eq {a b : Value} (h : eqFl a b = true) : a = b := by
 unfold eqFl at h
 split at h <;> first | rfl | (simp_all; done) | cases h
def eqFls : List Value -> List Value -> Bool
 | [], [] => true
 | a :: az, b :: bs => eqFl a b && eqFls az bs
 | _, _ => false
theorem eqFls_eq : ∀ {az bs : List Value}, eqFls az bs = true -> az = bs
 | [], [], _ => rfl
 | a :: az, b :: bs, h => by
   simp only [eqFls, Bool.and_eq_true] at h
   rw [eqFl_eq h.1, eqFls_eq h.2]
 | [], _ :: _, h => by cases h
 | _ :: _, [], h => by cases h
def shB (d : TypeDesc) (y : Ty) : Bool :=
 match d, y.sh with
 | .int k, .int k' => decide (k = k') && !y.agg
 | .bool, .bool => !y.agg
 | .string, .str => !y.agg
 | .pointer e, .ptr e' => e == e' && !y.agg
 | .slice e, .slice e' => e == e' && !y.agg
 | .array n e, .array n' e' => n == n' && e == e' && y.agg
 | .struct fs, .struct gs => decide (fs.toList.map (fun f => (f.offset, f.type)) = gs) && y.agg
 | .map k e, .map k' e' => k == k' && e == e' && !y.agg
 | .interface ms, .ifc e => (e == ms.isEmpty) && !y.agg
 | .struct _, .other => y.agg
 | .array _ _, .other => y.agg
 | .struct _, _ => false
 | .array _ _, _ => false
 | _, .other => !y.agg
 | _, _ => false
theorem shB_ok {d : TypeDesc} {y : Ty} (h : shB d y = true) : ShOk d y := by
 unfold shB at h
 unfold ShOk
 split at h <;> (try simp_all) <;> (split <;> simp_all)
def tyB (P : Program) (t : TypeId) (y : Ty) : Bool :=
 (match P.info? t with
  | some i => i.size == y.size && i.bytes == y.bytes && (match i.zero with | some z => eqFls z.cells.toList y.zero && y.agg == isAg z | none => false)
  | none => false) &&
 (match P.underlying t with | some d => shB d y | none => false) &&
 y.zero.length == y.size && y.zero.all flatV && (y.agg || y.size == 1)
theorem tyB_ok {t : TypeId} {y : Ty} (h : tyB P t y = true) : TyOk P t y := by
 unfold tyB at h
 simp only [Bool.and_eq_true, beq_iff_eq] at h
 obtain ⟨⟨⟨⟨h1, h2⟩, h3⟩, h4⟩, h5⟩ := h
 refine ⟨?_, ?_, h3, h4, fun e => by simpa [e] using h5, fun i z hi hz => ?_⟩
 . split at h1
   . rename_i i hi
     simp only [Bool.and_eq_true, beq_iff_eq] at h1
     obtain ⟨⟨e1, e2⟩, e3⟩ := h1
     split at e3
     . rename_i z hz
       simp only [Bool.and_eq_true] at e3
       exact ⟨i, z, hi, e1, e2, hz, eqFls_eq e3.1⟩
     . cases e3
   . cases h1
 . split at h2
   . rename_i d hd; exact ⟨d, hd, shB_ok h2⟩
   . cases h2
 . rw [hi] at h1
   simp only [hz, Bool.and_eq_true, beq_iff_eq] at h1
   exact h1.2.2
theorem gok_of {l : List (Nat × Ty)} (h : l.all (fun p => tyB P p.1 p.2) = true) : GOk P (lk l) := fun t y ht => by
 have := List.all_eq_true.1 h _ (lk_mem' ht)
 exact tyB_ok this
def eqB (P : Program) (t : TypeId) (ks : List CK) : Bool :=
 decide (tyKinds P 8 t = some ks) && !P.eqGuardType P.depth t && (match P.underlying t with | some (.struct _) => true | _ => false)
theorem eqok_of {l : List (Nat × List CK)} (h : l.all (fun p => eqB P p.1 p.2) = true) : EqOk P (lk l) := fun t ks ht => by
 have := List.all_eq_true.1 h _ (lk_mem' ht)
 simp only [eqB, Bool.and_eq_true, decide_eq_true_eq, Bool.not_eq_true'] at this
 obtain ⟨⟨h1, h2⟩, h3⟩ := this
 refine ⟨h1, h2, ?_⟩
 split at h3
 . rename_i fs hfs; exact ⟨fs, hfs⟩
 . cases h3
end Go.Psl
namespace Go.Psl
variable {P : Program} {Γ : Tys} {eqs : Eqs} {E : Ent}
theorem nrfl {α : Sort _} {a b : α} (h : a = b) : a = b := h
def rr (P : Program) (Γ : Tys) (eqs : Eqs) (Kx : V -> RK) (K : RK) (b : Nat) (ops : List PO) (f : Nat -> V) (H : Hp) : Prop := runR P Γ eqs Kx b ops f H K
def rg (P : Program) (Γ : Tys) (eqs : Eqs) (x : Option Bool) (Kx : V -> RK) (K : RK) (b : Nat) (o : PO) (r : List PO) (f : Nat -> V) (H : Hp) : Prop := match x with
 | some true => rr P Γ eqs Kx K b (⟨o.dst, o.op, none⟩ :: r) f H
 | some false => rr P Γ eqs Kx K (b + 1048576) r (frPut f o.dst (.tup [])) H
 | none => False
def goE (dst : Option Nat) (K : (Nat -> V) -> Hp -> Prop) (f : Nat -> V) (H : Hp) : Option (V × Eff) -> Prop
 | some (v, e) => K (frPut f dst v) (H.app e)
 | none => False
def aK (dst : Option Nat) (K : (Nat -> V) -> Hp -> Prop) (f : Nat -> V) (v : V) (H : Hp) : Prop := K (frPut f dst v) H
def xK (Kx : V -> RK) (n : Nat) (f : Nat -> V) (v : V) (H : Hp) : Prop := Kx v f H n
def callR (P : Program) (m : CM) (cv : V) (az : List V) (dst : Option Nat) (b : Nat) (Kx : V -> RK) (K : (Nat -> V) -> Hp -> Prop) (f : Nat -> V) (Hr H : Hp) : Prop := callV P m Hr H b cv az (aK dst K f) (xK Kx (b + 1048576) f)
def rQ (Q : AExit -> St -> Prop) (f : Nat -> V) (H : Hp) (n : Nat) : Prop := Q .normal ⟨f, H, n⟩
def xQ (Q : AExit -> St -> Prop) (v : V) (f : Nat -> V) (H : Hp) (n : Nat) : Prop := Q (.pan v) ⟨f, H, n⟩
section
variable {K : RK} {Kx : V -> RK} {b : Nat} {r : List PO} {f : Nat -> V} {H : Hp} {dst : Option Nat} {Q : AExit -> St -> Prop}
theorem rQ_eq {n : Nat} : rQ Q f H n = Q .normal ⟨f, H, n⟩ := nrfl rfl
theorem xQ_eq {v : V} {n : Nat} : xQ Q v f H n = Q (.pan v) ⟨f, H, n⟩ := nrfl rfl
theorem rr_nil : rr P Γ eqs Kx K b [] f H = K f H b := nrfl rfl
theorem rr_guard {op : Op} {d : Nat} {w : Bool} : rr P Γ eqs Kx K b (⟨dst, op, some (some d, w)⟩ :: r) f H = rg P Γ eqs ((gV (f d)).map fun y => y == some w) Kx K b ⟨dst, op, none⟩ r f H := by
 simp only [rr, rg, runR, PO.run, gV2]
 all_goals
   cases (gV (f d)).map fun y => y == some w with
   | none => rfl
   | some x => cases x <;> rfl
theorem rg_true {o : PO} : rg P Γ eqs (some true) Kx K b o r f H = rr P Γ eqs Kx K b (⟨o.dst, o.op, none⟩ :: r) f H := nrfl rfl
theorem rg_false {o : PO} : rg P Γ eqs (some false) Kx K b o r f H = rr P Γ eqs Kx K (b + 1048576) r (frPut f o.dst (.tup [])) H := nrfl rfl
def isCallOp : Op -> Bool
 | .call c => match c.callee with | .value _ => true | _ => false
 | .panic _ => true
 | _ => false
theorem rr_op {op : Op} (h : isCallOp op = false) : rr P Γ eqs Kx K b (⟨dst, op, none⟩ :: r) f H = goE dst (rr P Γ eqs Kx K (b + 1048576) r) f H (evalOp Γ eqs H b f op) := by
 show PO.run P Γ eqs ⟨dst, op, none⟩ b f H (fun f H => runR P Γ eqs Kx (b + 1048576) r f H K) Kx = _
 simp only [PO.run, gV2, stepC]
 cases h1 : evalOp Γ eqs H b f op with
 | none =>
   cases op with
   | call c => obtain ⟨cc, az, ts⟩ := c; cases cc <;> first | rfl | (cases h; done)
   | panic x => cases h
   | _ => rfl
 | some p => obtain ⟨v, e⟩ := p; rfl
theorem rr_move {x : Operand} : rr P Γ eqs Kx K b (⟨dst, .move x, none⟩ :: r) f H = rr P Γ eqs Kx K (b + 1048576) r (frPut f dst (evF f x)) H := nrfl rfl
theorem rr_assign {x : Operand} : rr P Γ eqs Kx K b (⟨dst, .assign x, none⟩ :: r) f H = rr P Γ eqs Kx K (b + 1048576) r (frPut f dst (evF f x)) H := nrfl rfl
theorem rr_pick {c x y : Operand} : rr P Γ eqs Kx K b (⟨dst, .pick c x y, none⟩ :: r) f H = goE dst (rr P Γ eqs Kx K (b + 1048576) r) f H (pickF (evF f c) (evF f x) (evF f y)) := rr_op rfl
theorem rr_alloc {t : TypeId} : rr P Γ eqs Kx K b (⟨dst, .alloc t, none⟩ :: r) f H = goE dst (rr P Γ eqs Kx K (b + 1048576) r) f H (allocF Γ b t) := rr_op rfl
theorem rr_box {t : TypeId} {x : Operand} : rr P Γ eqs Kx K b (⟨dst, .box t x, none⟩ :: r) f H = goE dst (rr P Γ eqs Kx K (b + 1048576) r) f H (boxF b (evF f x)) := rr_op rfl
theorem rr_build {t : TypeId} {ps : List (Nat × Operand)} : rr P Γ eqs Kx K b (⟨dst, .build t ps.toArray, none⟩ :: r) f H = goE dst (rr P Γ eqs Kx K (b + 1048576) r) f H (buildF Γ t (opdL f ps)) := rr_op rfl
theorem rr_buildSlice {t : TypeId} {n : Nat} {ps : List (Nat × Operand)} : rr P Γ eqs Kx K b (⟨dst, .buildSlice t n ps.toArray, none⟩ :: r) f H = goE dst (rr P Γ eqs Kx K (b + 1048576) r) f H (buildSliceF Γ b t n (opdL f ps)) := rr_op rfl
theorem rr_mks {t : TypeId} {x y : Operand} : rr P Γ eqs Kx K b (⟨dst, .makeSlice t x y, none⟩ :: r) f H = goE dst (rr P Γ eqs Kx K (b + 1048576) r) f H (mksF Γ b t (evF f x) (evF f y)) := rr_op rfl
theorem mksF_lit {t : TypeId} {k k' : IntKind} {n m : Int} : mksF Γ b t (.d (.lit (.int k n))) (.d (.lit (.int k' m))) = (Γ t).bind fun y => match y.sh with
   | .slice e => (Γ e).bind fun ye => if 0 < ye.size /\ 0 <= n /\ n <= m /\ m.toNat * ye.bytes <= maxA /\ m <= maxL then some (.ls b 0 n.toNat ye.size, .new b (repl n.toNat (ye.zero.map cV))) else none
   | _ => none := by
 unfold mksF
 congr 1
theorem rr_makeMap {t : TypeId} : rr P Γ eqs Kx K b (⟨dst, .makeMap t none, none⟩ :: r) f H = rr P Γ eqs Kx K (b + 1048576) r (frPut f dst (.yl b)) (upd H b (some (mapC []))) := rr_op rfl
theorem rr_mapUpdate {t : TypeId} {m k x : Operand} : rr P Γ eqs Kx K b (⟨dst, .mapUpdate t m k x, none⟩ :: r) f H = goE dst (rr P Γ eqs Kx K (b + 1048576) r) f H (putM Γ eqs H t (evF f m) (evF f k) (evF f x)) := rr_op rfl
theorem rr_insert {t : TypeId} {m k x : Operand} : rr P Γ eqs Kx K b (⟨dst, .insert t m k x, none⟩ :: r) f H = goE dst (rr P Γ eqs Kx K (b + 1048576) r) f H (putM Γ eqs H t (evF f m) (evF f k) (evF f x)) := rr_op rfl
theorem rr_lookup {t : TypeId} {m k : Operand} {ok : Bool} : rr P Γ eqs Kx K b (⟨dst, .lookup t m k ok, none⟩ :: r) f H = goE dst (rr P Γ eqs Kx K (b + 1048576) r) f H (lookF Γ eqs H t (evF f m) (evF f k) ok) := rr_op rfl
theorem mapAt_eq {t : TypeId} {id : Nat} {v : Value} : mapAt Γ eqs H t (.yl id) (.d (.lit v)) = (Γ t).bind fun y => match y.sh with
   | .map kt et => (Γ kt).bind fun yk => (H id).bind fun cs => (mapsOf cs).bind fun es => if (keyS yk.sh v || keyT eqs kt v) = true then (findM v es 0).map fun r => (id, es, v, r, et) else none
   | _ => none := nrfl rfl
theorem mapAt_agg {t : TypeId} {id : Nat} {vs : List V} : mapAt Γ eqs H t (.yl id) (.agg vs) = (Γ t).bind fun y => match y.sh with
   | .map kt et => (Γ kt).bind fun yk => (H id).bind fun cs => (mapsOf cs).bind fun es => ((litL vs).map fun vs => Value.agg vs.toArray).bind fun v => if (keyS yk.sh v || keyT eqs kt v) = true then (findM v es 0).map fun r => (id, es, v, r, et) else none
   | _ => none := nrfl rfl
theorem litL_nil : litL [] = some [] := nrfl rfl
theorem litL_cons {v : Value} {r : List V} : litL (.d (.lit v) :: r) = (litL r).map fun vs => v :: vs := nrfl rfl
theorem keyT_agg {t : TypeId} {a : Array Value} : keyT eqs t (.agg a) = match eqs t with | some ks => kindsV ks a.toList | none => false := nrfl rfl
theorem kindsV_nil : kindsV [] [] = true := nrfl rfl
theorem kindsV_cons {k : CK} {ks : List CK} {v : Value} {vs : List Value} : kindsV (k :: ks) (v :: vs) = (kindV k v && kindsV ks vs) := nrfl rfl
theorem kindV_int {k : IntKind} {n : Int} : kindV .int (.int k n) = true := nrfl rfl
theorem kindV_bool {b : Bool} : kindV .bool (.bool b) = true := nrfl rfl
theorem keyEq_agg {a b : Array Value} : keyEq (.agg a) (.agg b) = keyEqs a.toList b.toList := nrfl rfl
theorem keyEqs_nil : keyEqs [] [] = some true := nrfl rfl
theorem keyEqs_cons {a b : Value} {az bs : List Value} : keyEqs (a :: az) (b :: bs) = (keyEq0 a b).bind fun r => (keyEqs az bs).map fun s => r && s := nrfl rfl
theorem keyEq0_int {k k' : IntKind} {a b : Int} : keyEq0 (.int k a) (.int k' b) = if k = k' then some (a == b) else none := nrfl rfl
theorem keyEq0_bool {a b : Bool} : keyEq0 (.bool a) (.bool b) = some (a == b) := nrfl rfl
theorem mapsOf_C {es : List (Value × Bool × List D)} : mapsOf (mapC es) = some es := nrfl rfl
theorem keyS_int {k k' : IntKind} {n : Int} : keyS (.int k) (.int k' n) = true := nrfl rfl
theorem keyS_str {s : ByteArray} : keyS .str (.string s) = true := nrfl rfl
theorem lookF_eq {t : TypeId} {m k : V} {ok : Bool} : lookF Γ eqs H t m k ok = (mapAt Γ eqs H t m k).bind fun p => (Γ p.2.2.2.2).bind fun ye => match p.2.2.2.1 with
   | some i => (p.2.1[i]?).bind fun e => (valM e).map fun v => (if ok then .tup [v, cV (.bool true)] else v, .none)
   | none => some (if ok then .tup [mkV ye.agg (ye.zero.map cV), cV (.bool false)] else mkV ye.agg (ye.zero.map cV), .none) := nrfl rfl
theorem putM_eq {t : TypeId} {m k x : V} : putM Γ eqs H t m k x = (mapAt Γ eqs H t m k).bind fun p => (dataV x).map fun d => match p.2.2.2.1 with
   | some i => (.junk, .put p.1 (mapC (p.2.1.set i (p.2.2.1, d))))
   | none => (.junk, .put p.1 (mapC (p.2.1 ++ [(p.2.2.1, d)]))) := nrfl rfl
theorem dataV_d {x : D} : dataV (.d x) = some (false, [x]) := nrfl rfl
theorem dataV_agg {cs : List V} : dataV (.agg cs) = (dataL cs).map fun ds => (true, ds) := nrfl rfl
theorem valM_eq {k : Value} {ag : Bool} {ds : List D} : valM (k, ag, ds) = outF ds ag := nrfl rfl
theorem rr_load {t : TypeId} {x : Operand} : rr P Γ eqs Kx K b (⟨dst, .load t x, none⟩ :: r) f H = goE dst (rr P Γ eqs Kx K (b + 1048576) r) f H (loadF Γ H t (evF f x)) := rr_op rfl
theorem rr_store {t : TypeId} {x y : Operand} : rr P Γ eqs Kx K b (⟨dst, .store t x y, none⟩ :: r) f H = goE dst (rr P Γ eqs Kx K (b + 1048576) r) f H (storeF Γ H t (evF f x) (evF f y)) := rr_op rfl
theorem rr_bin {o : BinOp} {t t' : TypeId} {x y : Operand} : rr P Γ eqs Kx K b (⟨dst, .binOp o t x y t', none⟩ :: r) f H = goE dst (rr P Γ eqs Kx K (b + 1048576) r) f H (binF Γ eqs o t (nilOp y) (evF f x) (evF f y)) := rr_op rfl
theorem rr_un {o : UnOp} {t : TypeId} {x : Operand} : rr P Γ eqs Kx K b (⟨dst, .unOp o t x, none⟩ :: r) f H = goE dst (rr P Γ eqs Kx K (b + 1048576) r) f H (unF o (evF f x)) := rr_op rfl
theorem rr_conv {s t : TypeId} {x : Operand} : rr P Γ eqs Kx K b (⟨dst, .convert s t x, none⟩ :: r) f H = goE dst (rr P Γ eqs Kx K (b + 1048576) r) f H (convF Γ H b s t (evF f x)) := rr_op rfl
theorem rr_makeI {t : TypeId} {x : Operand} : rr P Γ eqs Kx K b (⟨dst, .makeInterface t x, none⟩ :: r) f H = goE dst (rr P Γ eqs Kx K (b + 1048576) r) f H (ifcF Γ t (evF f x)) := rr_op rfl
theorem rr_assert {s t : TypeId} {x : Operand} : rr P Γ eqs Kx K b (⟨dst, .typeAssert x s t false, none⟩ :: r) f H = goE dst (rr P Γ eqs Kx K (b + 1048576) r) f H (assF Γ t (evF f x)) := rr_op rfl
theorem rr_nilCheck {x : Operand} : rr P Γ eqs Kx K b (⟨dst, .nilCheck x, none⟩ :: r) f H = goE dst (rr P Γ eqs Kx K (b + 1048576) r) f H (nilF (evF f x)) := rr_op rfl
theorem rr_extract {i : Nat} {x : Operand} : rr P Γ eqs Kx K b (⟨dst, .extract x i, none⟩ :: r) f H = goE dst (rr P Γ eqs Kx K (b + 1048576) r) f H (extrF (evF f x) i) := rr_op rfl
theorem rr_fieldAddr {t : TypeId} {i : Nat} {x : Operand} : rr P Γ eqs Kx K b (⟨dst, .fieldAddr t x i, none⟩ :: r) f H = goE dst (rr P Γ eqs Kx K (b + 1048576) r) f H (fieldF Γ t (evF f x) i) := rr_op rfl
theorem rr_field {t : TypeId} {i : Nat} {x : Operand} : rr P Γ eqs Kx K b (⟨dst, .field t x i, none⟩ :: r) f H = goE dst (rr P Γ eqs Kx K (b + 1048576) r) f H (fieldV Γ t (evF f x) i) := rr_op rfl
theorem rr_indexAddr {t : TypeId} {x y : Operand} : rr P Γ eqs Kx K b (⟨dst, .indexAddr t x y, none⟩ :: r) f H = goE dst (rr P Γ eqs Kx K (b + 1048576) r) f H (indexF Γ t (evF f x) (evF f y)) := rr_op rfl
theorem rr_index {t : TypeId} {x y : Operand} : rr P Γ eqs Kx K b (⟨dst, .index t x y, none⟩ :: r) f H = goE dst (rr P Γ eqs Kx K (b + 1048576) r) f H (indexV Γ t (evF f x) (evF f y)) := rr_op rfl
theorem rr_slice {t : TypeId} {x : Operand} {lo hi : Option Operand} : rr P Γ eqs Kx K b (⟨dst, .slice t x lo hi none, none⟩ :: r) f H = goE dst (rr P Γ eqs Kx K (b + 1048576) r) f H (sliceF Γ H t (evF f x) (lo.map (evF f)) (hi.map (evF f))) := rr_op rfl
theorem rr_bnd {g : FuncId} {x : Operand} : rr P Γ eqs Kx K b (⟨dst, .makeFunc (.func g) #[x] #[], none⟩ :: r) f H = goE dst (rr P Γ eqs Kx K (b + 1048576) r) f H (bndF g (evF f x) 0) := rr_op rfl
theorem bndF_three {g : FuncId} {k k' k'' : IntKind} {a b c : Int} : bndF g (.agg [.d (.lit (.int k a)), .d (.lit (.int k' b)), .d (.lit (.int k'' c))]) 0 = some (.d (.lit (.func (.func g) #[.agg #[.int k a, .int k' b, .int k'' c]] #[])), .none) := rfl
theorem rr_makeFunc {g : FuncId} {cs : List Operand} : rr P Γ eqs Kx K b (⟨dst, .makeFunc (.func g) #[] cs.toArray, none⟩ :: r) f H = goE dst (rr P Γ eqs Kx K (b + 1048576) r) f H (mkFuncF g 0 (capL f cs)) := rr_op rfl
theorem rr_len {t : TypeId} {x : Operand} : rr P Γ eqs Kx K b (⟨dst, .call ⟨.builtin .len, #[x], #[t]⟩, none⟩ :: r) f H = goE dst (rr P Γ eqs Kx K (b + 1048576) r) f H (lenF Γ t (evF f x)) := rr_op rfl
theorem rr_max {xs : List Operand} {ts : Array TypeId} : rr P Γ eqs Kx K b (⟨dst, .call ⟨.builtin .max, xs.toArray, ts⟩, none⟩ :: r) f H = goE dst (rr P Γ eqs Kx K (b + 1048576) r) f H (maxF (capL f xs)) := rr_op rfl
theorem rr_min {xs : List Operand} {ts : Array TypeId} : rr P Γ eqs Kx K b (⟨dst, .call ⟨.builtin .min, xs.toArray, ts⟩, none⟩ :: r) f H = goE dst (rr P Γ eqs Kx K (b + 1048576) r) f H (minF (capL f xs)) := rr_op rfl
theorem rr_clear {t : TypeId} {x : Operand} : rr P Γ eqs Kx K b (⟨dst, .call ⟨.builtin .clear, #[x], #[t]⟩, none⟩ :: r) f H = goE dst (rr P Γ eqs Kx K (b + 1048576) r) f H (clearF Γ H t (evF f x)) := rr_op rfl
theorem rr_append {t : TypeId} {x y : Operand} : rr P Γ eqs Kx K b (⟨dst, .call ⟨.builtin .append, #[x, y], #[t, t]⟩, none⟩ :: r) f H = goE dst (rr P Γ eqs Kx K (b + 1048576) r) f H (appF Γ H b t (evF f x) (evF f y)) := by
 rw [rr_op rfl]
 simp [evalOp]
theorem rr_cap {t : TypeId} {x : Operand} : rr P Γ eqs Kx K b (⟨dst, .call ⟨.builtin .cap, #[x], #[t]⟩, none⟩ :: r) f H = goE dst (rr P Γ eqs Kx K (b + 1048576) r) f H (capF Γ t (evF f x)) := rr_op rfl
theorem rr_zer {t t' : TypeId} {x y : Operand} (h : (t == t') = false) : rr P Γ eqs Kx K b (⟨dst, .call ⟨.builtin .append, #[x, y], #[t, t']⟩, none⟩ :: r) f H = goE dst (rr P Γ eqs Kx K (b + 1048576) r) f H (zerF Γ b t t' (evF f x) (evF f y)) := by
 rw [rr_op rfl]
 have h2 : ¬ t = t' := by simpa using h
 simp [evalOp, h2]
theorem capF_lit {t : TypeId} {p : Option Addr} {n c : Nat} : capF Γ t (.d (.lit (.slice p n c))) = (Γ t).bind fun y => match y.sh with | .slice _ => some (cV (.int .i64 0), .none) | _ => none := by
 unfold capF
 congr 1; funext y
 cases y.sh <;> rfl
theorem zerF_lit {t t' : TypeId} {p : Option Addr} {n c : Nat} {k : IntKind} {m : Int} : zerF Γ b t t' (.d (.lit (.slice p n c))) (.d (.lit (.int k m))) = (Γ t).bind fun y => match y.sh with
   | .slice e => (Γ e).bind fun ye => (Γ t').bind fun y' => match y'.sh with
     | .int _ => if 0 < ye.size /\ 0 <= m /\ m.toNat * ye.bytes <= maxA /\ m.toNat <= maxL then some (.ls b 0 m.toNat ye.size, .new b (repl m.toNat (ye.zero.map cV))) else none
     | _ => none
   | _ => none := by
 unfold zerF
 congr 1; funext y
 cases y.sh with
 | slice e =>
   simp only
   congr 1; funext ye
   congr 1; funext y'
   cases y'.sh <;> rfl
 | _ => rfl
theorem rr_call {fo : Operand} {xs : List Operand} {ts : Array TypeId} : rr P Γ eqs Kx K b (⟨dst, .call ⟨.value fo, xs.toArray, ts⟩, none⟩ :: r) f H = callR P none (evF f fo) (capL f xs) dst b Kx (rr P Γ eqs Kx K (b + 1048576) r) f H H := nrfl rfl
theorem goE_none {Kp : (Nat -> V) -> Hp -> Prop} {v : V} : goE dst Kp f H (some (v, .none)) = Kp (frPut f dst v) H := nrfl rfl
theorem goE_new {Kp : (Nat -> V) -> Hp -> Prop} {v : V} {i : Nat} {cs : List V} : goE dst Kp f H (some (v, .new i cs)) = Kp (frPut f dst v) (upd H i (some cs)) := nrfl rfl
theorem goE_put {Kp : (Nat -> V) -> Hp -> Prop} {v : V} {i : Nat} {cs : List V} : goE dst Kp f H (some (v, .put i cs)) = Kp (frPut f dst v) (upd H i (some cs)) := nrfl rfl
theorem goE_mov {Kp : (Nat -> V) -> Hp -> Prop} {v : V} {i j : Nat} {cs : List V} : goE dst Kp f H (some (v, .mov i j cs)) = Kp (frPut f dst v) (upd (upd H i none) j (some cs)) := nrfl rfl
theorem callR_fn {m : CM} {g : FuncId} {caps : List D} {az : List V} {Hr : Hp} {Kp : (Nat -> V) -> Hp -> Prop} : callR P m (.d (.fn g caps)) az dst b Kx Kp f Hr H = ACall P m Hr H b g (az ++ caps.map .d) (aK dst Kp f) (xK Kx (b + 1048576) f) := nrfl rfl
theorem callR_cl {m : CM} {g : FuncId} {caps az : List V} {Hr : Hp} {Kp : (Nat -> V) -> Hp -> Prop} : callR P m (.cl g caps) az dst b Kx Kp f Hr H = ACall P m Hr H b g (az ++ caps) (aK dst Kp f) (xK Kx (b + 1048576) f) := nrfl rfl
theorem callR_bnd {m : CM} {g : FuncId} {k k' k'' : IntKind} {x y z : Int} {az : List V} {Hr : Hp} {Kp : (Nat -> V) -> Hp -> Prop} : callR P m (.d (.lit (.func (.func g) #[.agg #[.int k x, .int k' y, .int k'' z]] #[]))) az dst b Kx Kp f Hr H = ACall P m Hr H b g (.agg [.d (.lit (.int k x)), .d (.lit (.int k' y)), .d (.lit (.int k'' z))] :: az) (aK dst Kp f) (xK Kx (b + 1048576) f) := nrfl rfl
theorem callR_yl {m : CM} {k : Nat} {az : List V} {Hr : Hp} {Kp : (Nat -> V) -> Hp -> Prop} : callR P m (.yl k) az dst b Kx Kp f Hr H = AYield P m Hr H b k az (aK dst Kp f) (xK Kx (b + 1048576) f) := nrfl rfl
theorem aK_eq {Kp : (Nat -> V) -> Hp -> Prop} {v : V} : aK dst Kp f v H = Kp (frPut f dst v) H := nrfl rfl
theorem xK_eq {v : V} {n : Nat} : xK Kx n f v H = Kx v f H n := nrfl rfl
theorem frPut_some {t : Nat} {v : V} : frPut f (some t) v = upd f t v := nrfl rfl
theorem frPut_none {v : V} : frPut f none v = f := nrfl rfl
def dd (P : Program) (Γ : Tys) (eqs : Eqs) (ws : List (Nat × Nat)) (cl : List Nat) (n0 : Nat) (Z : V -> Prop) (K : (Nat -> V) -> Hp -> Nat -> Prop) (k b : Nat) (ops : List PO) (f : Nat -> V) (H : Hp) : Prop := runD P Γ eqs ws cl n0 Z k b ops f H K
def dg (P : Program) (Γ : Tys) (eqs : Eqs) (ws : List (Nat × Nat)) (cl : List Nat) (n0 : Nat) (Z : V -> Prop) (x : Option Bool) (K : (Nat -> V) -> Hp -> Nat -> Prop) (k b : Nat) (o : PO) (r : List PO) (f : Nat -> V) (H : Hp) : Prop := match x with
 | some true => dd P Γ eqs ws cl n0 Z K k b (⟨o.dst, o.op, none⟩ :: r) f H
 | some false => dd P Γ eqs ws cl n0 Z K (k + 1) (b + 1048576) r (frPut f o.dst (.tup [])) H
 | none => False
def goD (ws : List (Nat × Nat)) (k : Nat) (dst : Option Nat) (b : Nat) (K : (Nat -> V) -> Hp -> Prop) (f : Nat -> V) (H : Hp) : Option (V × Eff) -> Prop
 | some (v, .none) => K (frPut f dst v) H
 | some (v, .new i cs) => i = b /\ K (frPut f dst v) (upd H b (some cs))
 | some (v, .put i cs) => (k, i) ∈ ws /\ K (frPut f dst v) (upd H i (some cs))
 | some (v, .mov i j cs) => ((k, i) ∈ ws /\ j = b) /\ K (frPut f dst v) (upd (upd H i none) b (some cs))
 | none => False
variable {ws : List (Nat × Nat)} {cl : List Nat} {n0 k : Nat} {Z : V -> Prop}
theorem dd_nil : dd P Γ eqs ws cl n0 Z K k b [] f H = K f H b := nrfl rfl
theorem dd_guard {op : Op} {d : Nat} {w : Bool} : dd P Γ eqs ws cl n0 Z K k b (⟨dst, op, some (some d, w)⟩ :: r) f H = dg P Γ eqs ws cl n0 Z ((gV (f d)).map fun y => y == some w) K k b ⟨dst, op, none⟩ r f H := by
 simp only [dd, dg, runD, PO.runD, gV2]
 all_goals
   cases (gV (f d)).map fun y => y == some w with
   | none => rfl
   | some x => cases x <;> rfl
theorem dg_true {o : PO} : dg P Γ eqs ws cl n0 Z (some true) K k b o r f H = dd P Γ eqs ws cl n0 Z K k b (⟨o.dst, o.op, none⟩ :: r) f H := nrfl rfl
theorem dg_false {o : PO} : dg P Γ eqs ws cl n0 Z (some false) K k b o r f H = dd P Γ eqs ws cl n0 Z K (k + 1) (b + 1048576) r (frPut f o.dst (.tup [])) H := nrfl rfl
theorem dd_op {op : Op} (h : isCallOp op = false) : dd P Γ eqs ws cl n0 Z K k b (⟨dst, op, none⟩ :: r) f H = goD ws k dst b (dd P Γ eqs ws cl n0 Z K (k + 1) (b + 1048576) r) f H (evalOp Γ eqs (Hcl ws cl k n0 H) b f op) := by
 show PO.runD P Γ eqs ws k ⟨dst, op, none⟩ b f _ H _ (fun f H => runD P Γ eqs ws cl n0 Z (k + 1) (b + 1048576) r f H K) = _
 simp only [PO.runD, gV2, stepC]
 cases h1 : evalOp Γ eqs (Hcl ws cl k n0 H) b f op with
 | none =>
   cases op with
   | call c => obtain ⟨cc, az, ts⟩ := c; cases cc <;> first | rfl | (cases h; done)
   | panic x => cases h
   | _ => rfl
 | some p => obtain ⟨v, e⟩ := p; cases e <;> rfl
theorem goD_none {Kp : (Nat -> V) -> Hp -> Prop} {v : V} : goD ws k dst b Kp f H (some (v, .none)) = Kp (frPut f dst v) H := nrfl rfl
theorem goD_new {Kp : (Nat -> V) -> Hp -> Prop} {v : V} {cs : List V} : goD ws k dst b Kp f H (some (v, .new b cs)) = Kp (frPut f dst v) (upd H b (some cs)) := by simp [goD]
theorem goD_put {Kp : (Nat -> V) -> Hp -> Prop} {v : V} {i : Nat} {cs : List V} : goD ws k dst b Kp f H (some (v, .put i cs)) = ((k, i) ∈ ws /\ Kp (frPut f dst v) (upd H i (some cs))) := nrfl rfl
theorem goD_mov {Kp : (Nat -> V) -> Hp -> Prop} {v : V} {i : Nat} {cs : List V} : goD ws k dst b Kp f H (some (v, .mov i b cs)) = ((k, i) ∈ ws /\ Kp (frPut f dst v) (upd (upd H i none) b (some cs))) := by simp [goD]
theorem dd_append {t : TypeId} {x y : Operand} : dd P Γ eqs ws cl n0 Z K k b (⟨dst, .call ⟨.builtin .append, #[x, y], #[t, t]⟩, none⟩ :: r) f H = goD ws k dst b (dd P Γ eqs ws cl n0 Z K (k + 1) (b + 1048576) r) f H (appF Γ (Hcl ws cl k n0 H) b t (evF f x) (evF f y)) := by
 rw [dd_op rfl]
 simp [evalOp]
theorem dd_store {t : TypeId} {x y : Operand} : dd P Γ eqs ws cl n0 Z K k b (⟨dst, .store t x y, none⟩ :: r) f H = goD ws k dst b (dd P Γ eqs ws cl n0 Z K (k + 1) (b + 1048576) r) f H (storeF Γ (Hcl ws cl k n0 H) t (evF f x) (evF f y)) := dd_op rfl
theorem dd_move {x : Operand} : dd P Γ eqs ws cl n0 Z K k b (⟨dst, .move x, none⟩ :: r) f H = dd P Γ eqs ws cl n0 Z K (k + 1) (b + 1048576) r (frPut f dst (evF f x)) H := nrfl rfl
theorem dd_assign {x : Operand} : dd P Γ eqs ws cl n0 Z K k b (⟨dst, .assign x, none⟩ :: r) f H = dd P Γ eqs ws cl n0 Z K (k + 1) (b + 1048576) r (frPut f dst (evF f x)) H := nrfl rfl
theorem dd_pick {c x y : Operand} : dd P Γ eqs ws cl n0 Z K k b (⟨dst, .pick c x y, none⟩ :: r) f H = goD ws k dst b (dd P Γ eqs ws cl n0 Z K (k + 1) (b + 1048576) r) f H (pickF (evF f c) (evF f x) (evF f y)) := dd_op rfl
theorem dd_alloc {t : TypeId} : dd P Γ eqs ws cl n0 Z K k b (⟨dst, .alloc t, none⟩ :: r) f H = goD ws k dst b (dd P Γ eqs ws cl n0 Z K (k + 1) (b + 1048576) r) f H (allocF Γ b t) := dd_op rfl
theorem dd_box {t : TypeId} {x : Operand} : dd P Γ eqs ws cl n0 Z K k b (⟨dst, .box t x, none⟩ :: r) f H = goD ws k dst b (dd P Γ eqs ws cl n0 Z K (k + 1) (b + 1048576) r) f H (boxF b (evF f x)) := dd_op rfl
theorem dd_build {t : TypeId} {ps : List (Nat × Operand)} : dd P Γ eqs ws cl n0 Z K k b (⟨dst, .build t ps.toArray, none⟩ :: r) f H = goD ws k dst b (dd P Γ eqs ws cl n0 Z K (k + 1) (b + 1048576) r) f H (buildF Γ t (opdL f ps)) := dd_op rfl
theorem dd_buildSlice {t : TypeId} {n : Nat} {ps : List (Nat × Operand)} : dd P Γ eqs ws cl n0 Z K k b (⟨dst, .buildSlice t n ps.toArray, none⟩ :: r) f H = goD ws k dst b (dd P Γ eqs ws cl n0 Z K (k + 1) (b + 1048576) r) f H (buildSliceF Γ b t n (opdL f ps)) := dd_op rfl
theorem dd_mapUpdate {t : TypeId} {m x y : Operand} : dd P Γ eqs ws cl n0 Z K k b (⟨dst, .mapUpdate t m x y, none⟩ :: r) f H = goD ws k dst b (dd P Γ eqs ws cl n0 Z K (k + 1) (b + 1048576) r) f H (putM Γ eqs (Hcl ws cl k n0 H) t (evF f m) (evF f x) (evF f y)) := dd_op rfl
theorem dd_lookup {t : TypeId} {m x : Operand} {ok : Bool} : dd P Γ eqs ws cl n0 Z K k b (⟨dst, .lookup t m x ok, none⟩ :: r) f H = goD ws k dst b (dd P Γ eqs ws cl n0 Z K (k + 1) (b + 1048576) r) f H (lookF Γ eqs (Hcl ws cl k n0 H) t (evF f m) (evF f x) ok) := dd_op rfl
theorem dd_load {t : TypeId} {x : Operand} : dd P Γ eqs ws cl n0 Z K k b (⟨dst, .load t x, none⟩ :: r) f H = goD ws k dst b (dd P Γ eqs ws cl n0 Z K (k + 1) (b + 1048576) r) f H (loadF Γ (Hcl ws cl k n0 H) t (evF f x)) := dd_op rfl
theorem dd_bin {o : BinOp} {t t' : TypeId} {x y : Operand} : dd P Γ eqs ws cl n0 Z K k b (⟨dst, .binOp o t x y t', none⟩ :: r) f H = goD ws k dst b (dd P Γ eqs ws cl n0 Z K (k + 1) (b + 1048576) r) f H (binF Γ eqs o t (nilOp y) (evF f x) (evF f y)) := dd_op rfl
theorem dd_un {o : UnOp} {t : TypeId} {x : Operand} : dd P Γ eqs ws cl n0 Z K k b (⟨dst, .unOp o t x, none⟩ :: r) f H = goD ws k dst b (dd P Γ eqs ws cl n0 Z K (k + 1) (b + 1048576) r) f H (unF o (evF f x)) := dd_op rfl
theorem dd_conv {s t : TypeId} {x : Operand} : dd P Γ eqs ws cl n0 Z K k b (⟨dst, .convert s t x, none⟩ :: r) f H = goD ws k dst b (dd P Γ eqs ws cl n0 Z K (k + 1) (b + 1048576) r) f H (convF Γ (Hcl ws cl k n0 H) b s t (evF f x)) := dd_op rfl
theorem dd_makeI {t : TypeId} {x : Operand} : dd P Γ eqs ws cl n0 Z K k b (⟨dst, .makeInterface t x, none⟩ :: r) f H = goD ws k dst b (dd P Γ eqs ws cl n0 Z K (k + 1) (b + 1048576) r) f H (ifcF Γ t (evF f x)) := dd_op rfl
theorem dd_nilCheck {x : Operand} : dd P Γ eqs ws cl n0 Z K k b (⟨dst, .nilCheck x, none⟩ :: r) f H = goD ws k dst b (dd P Γ eqs ws cl n0 Z K (k + 1) (b + 1048576) r) f H (nilF (evF f x)) := dd_op rfl
theorem dd_extract {i : Nat} {x : Operand} : dd P Γ eqs ws cl n0 Z K k b (⟨dst, .extract x i, none⟩ :: r) f H = goD ws k dst b (dd P Γ eqs ws cl n0 Z K (k + 1) (b + 1048576) r) f H (extrF (evF f x) i) := dd_op rfl
theorem dd_fieldAddr {t : TypeId} {i : Nat} {x : Operand} : dd P Γ eqs ws cl n0 Z K k b (⟨dst, .fieldAddr t x i, none⟩ :: r) f H = goD ws k dst b (dd P Γ eqs ws cl n0 Z K (k + 1) (b + 1048576) r) f H (fieldF Γ t (evF f x) i) := dd_op rfl
theorem dd_field {t : TypeId} {i : Nat} {x : Operand} : dd P Γ eqs ws cl n0 Z K k b (⟨dst, .field t x i, none⟩ :: r) f H = goD ws k dst b (dd P Γ eqs ws cl n0 Z K (k + 1) (b + 1048576) r) f H (fieldV Γ t (evF f x) i) := dd_op rfl
theorem dd_indexAddr {t : TypeId} {x y : Operand} : dd P Γ eqs ws cl n0 Z K k b (⟨dst, .indexAddr t x y, none⟩ :: r) f H = goD ws k dst b (dd P Γ eqs ws cl n0 Z K (k + 1) (b + 1048576) r) f H (indexF Γ t (evF f x) (evF f y)) := dd_op rfl
theorem dd_index {t : TypeId} {x y : Operand} : dd P Γ eqs ws cl n0 Z K k b (⟨dst, .index t x y, none⟩ :: r) f H = goD ws k dst b (dd P Γ eqs ws cl n0 Z K (k + 1) (b + 1048576) r) f H (indexV Γ t (evF f x) (evF f y)) := dd_op rfl
theorem dd_slice {t : TypeId} {x : Operand} {lo hi : Option Operand} : dd P Γ eqs ws cl n0 Z K k b (⟨dst, .slice t x lo hi none, none⟩ :: r) f H = goD ws k dst b (dd P Γ eqs ws cl n0 Z K (k + 1) (b + 1048576) r) f H (sliceF Γ (Hcl ws cl k n0 H) t (evF f x) (lo.map (evF f)) (hi.map (evF f))) := dd_op rfl
theorem dd_makeFunc {g : FuncId} {cs : List Operand} : dd P Γ eqs ws cl n0 Z K k b (⟨dst, .makeFunc (.func g) #[] cs.toArray, none⟩ :: r) f H = goD ws k dst b (dd P Γ eqs ws cl n0 Z K (k + 1) (b + 1048576) r) f H (mkFuncF g 0 (capL f cs)) := dd_op rfl
theorem dd_len {t : TypeId} {x : Operand} : dd P Γ eqs ws cl n0 Z K k b (⟨dst, .call ⟨.builtin .len, #[x], #[t]⟩, none⟩ :: r) f H = goD ws k dst b (dd P Γ eqs ws cl n0 Z K (k + 1) (b + 1048576) r) f H (lenF Γ t (evF f x)) := dd_op rfl
theorem dd_max {xs : List Operand} {ts : Array TypeId} : dd P Γ eqs ws cl n0 Z K k b (⟨dst, .call ⟨.builtin .max, xs.toArray, ts⟩, none⟩ :: r) f H = goD ws k dst b (dd P Γ eqs ws cl n0 Z K (k + 1) (b + 1048576) r) f H (maxF (capL f xs)) := dd_op rfl
theorem dd_min {xs : List Operand} {ts : Array TypeId} : dd P Γ eqs ws cl n0 Z K k b (⟨dst, .call ⟨.builtin .min, xs.toArray, ts⟩, none⟩ :: r) f H = goD ws k dst b (dd P Γ eqs ws cl n0 Z K (k + 1) (b + 1048576) r) f H (minF (capL f xs)) := dd_op rfl
theorem dd_call {fo : Operand} {xs : List Operand} {ts : Array TypeId} : dd P Γ eqs ws cl n0 Z K k b (⟨dst, .call ⟨.value fo, xs.toArray, ts⟩, none⟩ :: r) f H = callR P (some (ws, k)) (evF f fo) (capL f xs) dst b (fun v _ _ _ => Z v /\ runDead P Γ eqs ws cl n0 k (k + 1) (b + 1048576) r f H) (dd P Γ eqs ws cl n0 Z K (k + 1) (b + 1048576) r) f (Hcl ws cl k n0 H) H := nrfl rfl
theorem Hcl_at {i : Nat} : Hcl ws cl k n0 H i = if (i < n0 \/ inC cl k ((i - n0) / 1048576) = true) /\ seen ws cl k i = true then H i else none := nrfl rfl
theorem seen_nil {i : Nat} : seen [] cl k i = true := nrfl rfl
theorem seen_cons {i j x : Nat} {r : List (Nat × Nat)} : seen ((j, x) :: r) cl k i = ((x != i || j == k || inC cl k j || inC cl j k) && seen r cl k i) := nrfl rfl
theorem de_nil {k0 : Nat} : runDead P Γ eqs ws cl n0 k0 k b [] f H = True := nrfl rfl
theorem de_dead {k0 : Nat} {o : PO} (h : inC cl k k0 = true) : runDead P Γ eqs ws cl n0 k0 k b (o :: r) f H = runDead P Γ eqs ws cl n0 k0 (k + 1) (b + 1048576) r f H := by
 simp [runDead, h]
theorem de_live {k0 : Nat} {o : PO} (h : inC cl k k0 = false) : runDead P Γ eqs ws cl n0 k0 k b (o :: r) f H = dd P Γ eqs ws cl n0 (fun _ => False) (fun f H b' => runDead P Γ eqs ws cl n0 k0 (k + 1) b' r f H) k b [o] f H := by
 simp only [runDead, h, dd, runD, false_and]
 simp
def zQ (Q : AExit -> St -> Prop) (v : V) : Prop := ∀ st, Q (.pan v) st
theorem zQ_eq {Q : AExit -> St -> Prop} {v : V} : zQ Q v = ∀ st, Q (.pan v) st := nrfl rfl
def bsK (P : Program) (Γ : Tys) (eqs : Eqs) (bs : List PO) (Q : AExit -> St -> Prop) (f : Nat -> V) (H : Hp) (n : Nat) : Prop := rr P Γ eqs (xQ Q) (rQ Q) n bs f H
variable {n : Nat}
theorem bsK_eq {bs : List PO} : bsK P Γ eqs bs Q f H n = rr P Γ eqs (xQ Q) (rQ Q) n bs f H := nrfl rfl
theorem pw_reg {ops : List PO} : PW P Γ eqs E (.reg ops) Q ⟨f, H, n⟩ = rr P Γ eqs (xQ Q) (rQ Q) n ops f H := nrfl rfl
theorem pw_draw {cl : List Nat} {az bs : List PO} : PW P Γ eqs E (.draw cl az bs) Q ⟨f, H, n⟩ = dd P Γ eqs [] cl n (zQ Q) (bsK P Γ eqs bs Q) 0 n az f H := nrfl rfl
theorem pw_seq {a b : PC} : PW P Γ eqs E (.seq a b) Q ⟨f, H, n⟩ = PW P Γ eqs E a (seqQ (PW P Γ eqs E b Q) Q) ⟨f, H, n⟩ := nrfl rfl
theorem pw_block {id : Nat} {a : PC} : PW P Γ eqs E (.block id a) Q ⟨f, H, n⟩ = PW P Γ eqs E a (blkQ id Q) ⟨f, H, n⟩ := nrfl rfl
theorem pw_exit {id : Nat} : PW P Γ eqs E (.exit id) Q ⟨f, H, n⟩ = Q (.exit id) ⟨f, H, n⟩ := nrfl rfl
theorem pw_ret : PW P Γ eqs E .ret Q ⟨f, H, n⟩ = Q .ret ⟨f, H, n⟩ := nrfl rfl
theorem pw_skip : PW P Γ eqs E .skip Q ⟨f, H, n⟩ = Q .normal ⟨f, H, n⟩ := nrfl rfl
def cR (P : Program) (Γ : Tys) (eqs : Eqs) (E : Ent) (v : V) (a b : PC) (Q : AExit -> St -> Prop) (f : Nat -> V) (H : Hp) (n : Nat) : Prop := condP v (PW P Γ eqs E a Q ⟨f, H, n⟩) (PW P Γ eqs E b Q ⟨f, H, n⟩)
theorem pw_cond {c : Operand} {a b : PC} : PW P Γ eqs E (.cond c a b) Q ⟨f, H, n⟩ = cR P Γ eqs E (evF f c) a b Q f H n := nrfl rfl
theorem cR_true {a b : PC} : cR P Γ eqs E (.d (.lit (.bool true))) a b Q f H n = PW P Γ eqs E a Q ⟨f, H, n⟩ := by simp [cR, condP]
theorem cR_ub {a b : PC} : cR P Γ eqs E (.d .ub) a b Q f H n = (PW P Γ eqs E a Q ⟨f, H, n⟩ /\ PW P Γ eqs E b Q ⟨f, H, n⟩) := by simp [cR, condP]
theorem cR_false {a b : PC} : cR P Γ eqs E (.d (.lit (.bool false))) a b Q f H n = PW P Γ eqs E b Q ⟨f, H, n⟩ := by simp [cR, condP]
def exC (P : Program) (E : Ent) (Q : AExit -> St -> Prop) (i : Nat) {β : Type} (C : β -> St) (Pr : β -> Prop) (e : AExit) (st : St) : Prop := match e with
 | .exit j => if j = i then ∃ y, Pr y /\ Weak P E st (C y) else Q (.exit j) st
 | e => Q e st
theorem exC_exit {i j : Nat} {β : Type} {C : β -> St} {Pr : β -> Prop} {st : St} : exC P E Q i C Pr (.exit j) st = if j = i then ∃ y, Pr y /\ Weak P E st (C y) else Q (.exit j) st := nrfl rfl
theorem exC_ret {i : Nat} {β : Type} {C : β -> St} {Pr : β -> Prop} {st : St} : exC P E Q i C Pr .ret st = Q .ret st := nrfl rfl
theorem exC_pan {i : Nat} {β : Type} {C : β -> St} {Pr : β -> Prop} {st : St} {v : V} : exC P E Q i C Pr (.pan v) st = Q (.pan v) st := nrfl rfl
theorem seqQ_normal {Kp : St -> Prop} {st : St} : seqQ Kp Q .normal st = Kp st := nrfl rfl
theorem seqQ_ret {Kp : St -> Prop} {st : St} : seqQ Kp Q .ret st = Q .ret st := nrfl rfl
theorem seqQ_exit {Kp : St -> Prop} {st : St} {id : Nat} : seqQ Kp Q (.exit id) st = Q (.exit id) st := nrfl rfl
theorem blkQ_normal {st : St} {id : Nat} : blkQ id Q .normal st = Q .normal st := nrfl rfl
theorem blkQ_ret {st : St} {id : Nat} : blkQ id Q .ret st = Q .ret st := nrfl rfl
theorem blkQ_exit {st : St} {id j : Nat} : blkQ id Q (.exit j) st = if j = id then Q .normal st else Q (.exit j) st := nrfl rfl
theorem pw_rangeF {fo : Operand} {ps : List Nat} {a c : PC} : PW P Γ eqs E (.rangeF fo ps a c) Q ⟨f, H, n⟩ = PRange P E fo ps a c Q ⟨f, H, n⟩ := nrfl rfl
theorem seqQ_pan {Kp : St -> Prop} {st : St} {v : V} : seqQ Kp Q (.pan v) st = Q (.pan v) st := nrfl rfl
theorem blkQ_pan {st : St} {id : Nat} {v : V} : blkQ id Q (.pan v) st = Q (.pan v) st := nrfl rfl
theorem retQ_pan {fn : Func} {ks : List Nat} {r v : V} {H1 : List (Nat × List V)} {st : St} : retM Γ fn ks (.pan r) H1 (.pan v) st = PanM ks v r H1 st := nrfl rfl
theorem retQ_ret {fn : Func} {ks : List Nat} {v : V} {H1 : List (Nat × List V)} {st : St} : retM Γ fn ks (.ret v) H1 .ret st = RetM Γ fn ks v H1 st := nrfl rfl
theorem retQ_normal {fn : Func} {ks : List Nat} {v : V} {H1 : List (Nat × List V)} {st : St} : retM Γ fn ks (.ret v) H1 .normal st = RetM Γ fn ks v H1 st := nrfl rfl
end
end Go.Psl
namespace Go.Psl
variable {Γ : Tys} {eqs : Eqs} {H : Hp} {t : TypeId} {b : Nat}
theorem loadF_ref {cs : List D} : loadF Γ H t (.d (.ref cs)) = (Γ t).bind fun y => if y.size <= cs.length then some (mkV y.agg ((cs.take y.size).map .d), .none) else none := nrfl rfl
theorem loadF_lp {id off : Nat} : loadF Γ H t (.lp id off) = (Γ t).bind fun y => (H id).bind fun cells => if off + y.size <= cells.length then some (mkV y.agg ((cells.drop off).take y.size), .none) else none := nrfl rfl
theorem mkV_agg {cs : List V} : mkV true cs = .agg cs := nrfl rfl
theorem mkV_one {c : V} {cs : List V} : mkV false (c :: cs) = c := nrfl rfl
theorem storeF_lp {id off : Nat} {v : V} : storeF Γ H t (.lp id off) v = (Γ t).bind fun y => (H id).bind fun cells => if v.cells.length = y.size /\ off + y.size <= cells.length /\ v.cells.all V.isCell = true then some (.junk, .put id (splice cells off v.cells)) else none := nrfl rfl
theorem cells_agg {cs : List V} : V.cells (.agg cs) = cs := nrfl rfl
theorem cells_d {x : D} : V.cells (.d x) = [.d x] := nrfl rfl
theorem cells_lp {i o : Nat} : V.cells (.lp i o) = [.lp i o] := nrfl rfl
theorem cells_ls {i o l z : Nat} : V.cells (.ls i o l z) = [.ls i o l z] := nrfl rfl
theorem cells_cl {f : FuncId} {c : List V} : V.cells (.cl f c) = [.cl f c] := nrfl rfl
theorem isCell_d {x : D} : V.isCell (.d x) = true := nrfl rfl
theorem isCell_lp {i o : Nat} : V.isCell (.lp i o) = true := nrfl rfl
theorem isCell_ls {i o l z : Nat} : V.isCell (.ls i o l z) = true := nrfl rfl
theorem isCell_cl {f : FuncId} {c : List V} : V.isCell (.cl f c) = true := nrfl rfl
theorem opdL_nil {f : Nat -> V} : opdL f [] = [] := nrfl rfl
theorem opdL_cons {f : Nat -> V} {i : Nat} {x : Operand} {r : List (Nat × Operand)} : opdL f ((i, x) :: r) = (i, evF f x) :: opdL f r := nrfl rfl
theorem capL_nil {f : Nat -> V} : capL f [] = [] := nrfl rfl
theorem capL_cons {f : Nat -> V} {x : Operand} {r : List Operand} : capL f (x :: r) = evF f x :: capL f r := nrfl rfl
theorem evF_tmp {f : Nat -> V} {t : Nat} : evF f (.tmp t) = f t := nrfl rfl
theorem evF_const {f : Nat -> V} {v : Value} : evF f (.const v) = evC v := nrfl rfl
theorem evF_func {f : Nat -> V} {g : FuncId} : evF f (.func g) = .d (.fn g []) := nrfl rfl
theorem callee_fn {g : FuncId} {cs : List D} : calleeOf (.d (.fn g cs)) = some (g, cs.map .d) := nrfl rfl
theorem callee_cl {g : FuncId} {cs : List V} : calleeOf (.cl g cs) = some (g, cs) := nrfl rfl
theorem cells_yl {i : Nat} : V.cells (.yl i) = [.yl i] := nrfl rfl
theorem isCell_yl {i : Nat} : V.isCell (.yl i) = true := nrfl rfl
theorem fieldF_ref {cs : List D} {i : Nat} : fieldF Γ t (.d (.ref cs)) i = (Γ t).bind fun y => match y.sh with
 | .struct fs => fs[i]?.bind fun p => (Γ p.2).bind fun yf => if yf.size = 0 then none else some (.d (.ref (cs.drop p.1)), .none)
 | _ => none := nrfl rfl
theorem fieldF_lp {id off i : Nat} : fieldF Γ t (.lp id off) i = (Γ t).bind fun y => match y.sh with
 | .struct fs => fs[i]?.bind fun p => (Γ p.2).bind fun yf => if yf.size = 0 then none else some (.lp id (off + p.1), .none)
 | _ => none := nrfl rfl
theorem lenF_sl {sz : Nat} {es : List (List D)} : lenF Γ t (.d (.sl sz es)) = (Γ t).bind fun y => match y.sh with | .slice _ => some (.d (.lit (.int .i64 es.length)), .none) | _ => none := by
 unfold lenF; congr; funext y; cases y.sh <;> rfl
theorem lenF_ls {i o l z : Nat} : lenF Γ t (.ls i o l z) = (Γ t).bind fun y => match y.sh with | .slice _ => some (.d (.lit (.int .i64 l)), .none) | _ => none := by
 unfold lenF; congr; funext y; cases y.sh <;> rfl
theorem lenF_nil {a : Option Addr} {n c : Nat} : lenF Γ t (.d (.lit (.slice a n c))) = (Γ t).bind fun y => match y.sh with | .slice _ => some (.d (.lit (.int .i64 0)), .none) | _ => none := by
 unfold lenF; congr; funext y; cases y.sh <;> rfl
theorem binF_int {o : BinOp} {c : Bool} {k k' : IntKind} {x y : Int} : binF Γ eqs o t c (.d (.lit (.int k x))) (.d (.lit (.int k' y))) = (binI o k k' x y).map fun v => (.d (.lit v), .none) := nrfl rfl
theorem binF_bool {o : BinOp} {c : Bool} {x y : Bool} : binF Γ eqs o t c (.d (.lit (.bool x))) (.d (.lit (.bool y))) = (Γ t).bind fun z => match z.sh, o with
   | .bool, .eql => some (.d (.lit (.bool (x == y))), .none)
   | .bool, .neq => some (.d (.lit (.bool (x != y))), .none)
   | _, _ => none := nrfl rfl
theorem binF_agg {o : BinOp} {c : Bool} {x y : List V} : binF Γ eqs o t c (.agg x) (.agg y) = (eqs t).bind fun ks => match o with
   | .eql => (eqCells ks x y).map fun r => (.d (.lit (.bool r)), .none)
   | .neq => (eqCells ks x y).map fun r => (.d (.lit (.bool (!r))), .none)
   | _ => none := nrfl rfl
section
variable {k : IntKind} {x y : Int}
theorem binI_add : binI .add k k x y = some (.int k (k.wrap (x + y))) := by simp [binI]
theorem binI_sub : binI .sub k k x y = some (.int k (k.wrap (x - y))) := by simp [binI]
theorem binI_mul : binI .mul k k x y = some (.int k (k.wrap (x * y))) := by simp [binI]
theorem binI_quo : binI .quo k k x y = if y = 0 then none else some (.int k (k.wrap (x.tdiv y))) := by simp [binI]
theorem binI_rem : binI .rem k k x y = if y = 0 then none else some (.int k (x.tmod y)) := by simp [binI]
theorem beq_dec {x y : Int} : (x == y) = decide (x = y) := by by_cases h : x = y <;> simp [h]
theorem bne_dec {x y : Int} : (x != y) = !decide (x = y) := by by_cases h : x = y <;> simp [h]
theorem binI_eql : binI .eql k k x y = some (.bool (decide (x = y))) := by simp [binI, beq_dec]
theorem binI_neq : binI .neq k k x y = some (.bool (!decide (x = y))) := by simp [binI, bne_dec]
theorem binI_lss : binI .lss k k x y = some (.bool (decide (x < y))) := by simp [binI]
theorem binI_leq : binI .leq k k x y = some (.bool (decide (x <= y))) := by simp [binI]
theorem binI_gtr : binI .gtr k k x y = some (.bool (decide (y < x))) := by simp [binI]
theorem binI_geq : binI .geq k k x y = some (.bool (decide (y <= x))) := by simp [binI]
end
section
variable {k k' : IntKind} {x y : Int}
theorem binI_shl : binI .shl k k' x y = if 0 <= y /\ y <= k.bits then some (.int k (k.wrap (x * 2 ^ y.toNat))) else none := nrfl rfl
theorem binI_shr : binI .shr k k' x y = if 0 <= y /\ y <= k.bits then some (.int k (x / 2 ^ y.toNat)) else none := nrfl rfl
theorem binI_and : binI .and k k x y = some (.int k (bits .and k x y)) := by simp [binI]
theorem binI_or : binI .or k k x y = some (.int k (bits .or k x y)) := by simp [binI]
theorem binI_xor : binI .xor k k x y = some (.int k (bits .xor k x y)) := by simp [binI]
theorem bits_u64 : IntKind.bits .u64 = 64 := nrfl rfl
theorem bits_i64 : IntKind.bits .i64 = 64 := nrfl rfl
end
theorem unF_not {x : Bool} : unF .not (.d (.lit (.bool x))) = some (.d (.lit (.bool (!x))), .none) := nrfl rfl
theorem unF_neg {k : IntKind} {x : Int} : unF .neg (.d (.lit (.int k x))) = some (.d (.lit (.int k (k.wrap (-x)))), .none) := nrfl rfl
theorem pickF_bool {c : Bool} {x y : Bool} : pickF (.d (.lit (.bool c))) (.d (.lit (.bool x))) (.d (.lit (.bool y))) = some (.d (.lit (.bool (if c then x else y))), .none) := nrfl rfl
theorem pickF_true {x y : V} : pickF (.d (.lit (.bool true))) x y = some (x, .none) := by
 have : pickV true x y = x := by unfold pickV; split <;> rfl
 show some (pickV true x y, Eff.none) = _
 rw [this]
theorem pickF_false {x y : V} : pickF (.d (.lit (.bool false))) x y = some (y, .none) := by
 have : pickV false x y = y := by unfold pickV; split <;> rfl
 show some (pickV false x y, Eff.none) = _
 rw [this]
theorem gV_bool {x : Bool} : gV (.d (.lit (.bool x))) = some (some x) := nrfl rfl
theorem gV_undef : gV (.tup []) = some none := nrfl rfl
theorem extrF_tup {vs : List V} {i : Nat} : extrF (.tup vs) i = vs[i]?.map fun v => (v, .none) := nrfl rfl
theorem boxF_eq {v : V} : boxF b v = if v.cells.all V.isCell then some (.lp b 0, .new b v.cells) else none := nrfl rfl
theorem allocF_eq : allocF Γ b t = (Γ t).bind fun y => if t == bldT then (if bldZ y.zero = true then some (.yl b, .new b [.d (.lit (.slice none 0 0)), .d (.lit (.int .i64 0))]) else none) else some (.lp b 0, .new b (y.zero.map cV)) := nrfl rfl
theorem cV_eq {v : Value} : cV v = .d (.lit v) := nrfl rfl
theorem some_beq {x y : Bool} : ((some x : Option Bool) == some y) = (x == y) := nrfl rfl
theorem none_beq {y : Bool} : ((none : Option Bool) == some y) = false := nrfl rfl
theorem argF_nil {k t : Nat} : argF k [] t = .tup [] := nrfl rfl
theorem argF_cons {k t : Nat} {a : V} {r : List V} : argF k (a :: r) t = if t = k then a else argF (k + 1) r t := nrfl rfl
theorem slots_nil {t : Nat} : slots [] t = .junk := nrfl rfl
theorem slots_cons {k t : Nat} {a : V} {r : List (Nat × V)} : slots ((k, a) :: r) t = if t = k then a else slots r t := by
 simp only [slots, lk]; split <;> rfl
theorem lk_nil {α : Type} {t : Nat} : lk ([] : List (Nat × α)) t = none := nrfl rfl
theorem lk_cons {α : Type} {k t : Nat} {a : α} {r : List (Nat × α)} : lk ((k, a) :: r) t = if t = k then some a else lk r t := nrfl rfl
section
variable {ρ : Nat -> Option Nat}
theorem All2_nil {α β : Type} {R : α -> β -> Prop} : All2 R [] [] = True := nrfl rfl
theorem All2_cons {α β : Type} {R : α -> β -> Prop} {a : α} {b : β} {az : List α} {bs : List β} : All2 R (a :: az) (b :: bs) = (R a b /\ All2 R az bs) := nrfl rfl
theorem W0_d {v : V} {x : D} : W0 ρ v (.d x) = (v = .d x) := nrfl rfl
theorem W1_d {v : V} {x : D} : W1 ρ v (.d x) = (v = .d x) := nrfl rfl
theorem W2_d {v : V} {x : D} : W2 ρ v (.d x) = (v = .d x) := nrfl rfl
theorem WV_d {v : V} {x : D} : WV ρ v (.d x) = (v = .d x) := nrfl rfl
theorem W0_junk {v : V} : W0 ρ v .junk = True := nrfl rfl
theorem W1_junk {v : V} : W1 ρ v .junk = True := nrfl rfl
theorem W2_junk {v : V} : W2 ρ v .junk = True := nrfl rfl
theorem WV_junk {v : V} : WV ρ v .junk = True := nrfl rfl
theorem W0_lp {i j o o' : Nat} : W0 ρ (.lp j o) (.lp i o') = (ρ i = some j /\ o = o') := by
 simp only [W0, V.lp.injEq, eq_iff_iff]
 constructor
 . rintro ⟨j', h1, rfl, rfl⟩; exact ⟨h1, rfl⟩
 . rintro ⟨h1, rfl⟩; exact ⟨j, h1, rfl, rfl⟩
theorem W1_lp {i j o o' : Nat} : W1 ρ (.lp j o) (.lp i o') = (ρ i = some j /\ o = o') := W0_lp
theorem W2_lp {i j o o' : Nat} : W2 ρ (.lp j o) (.lp i o') = (ρ i = some j /\ o = o') := W0_lp
theorem WV_lp {i j o o' : Nat} : WV ρ (.lp j o) (.lp i o') = (ρ i = some j /\ o = o') := W0_lp
theorem W0_ls {i j o o' l l' z z' : Nat} : W0 ρ (.ls j o l z) (.ls i o' l' z') = (ρ i = some j /\ o = o' /\ l = l' /\ z = z') := by
 simp only [W0, eq_iff_iff]
 cases ρ i with
 | none => simp
 | some k => simp [eq_comm]
theorem W1_ls {i j o o' l l' z z' : Nat} : W1 ρ (.ls j o l z) (.ls i o' l' z') = (ρ i = some j /\ o = o' /\ l = l' /\ z = z') := W0_ls
theorem W2_ls {i j o o' l l' z z' : Nat} : W2 ρ (.ls j o l z) (.ls i o' l' z') = (ρ i = some j /\ o = o' /\ l = l' /\ z = z') := W0_ls
theorem WV_ls {i j o o' l l' z z' : Nat} : WV ρ (.ls j o l z) (.ls i o' l' z') = (ρ i = some j /\ o = o' /\ l = l' /\ z = z') := W0_ls
theorem W0_nils {i o l z : Nat} : W0 ρ (.d (.lit (.slice none 0 0))) (.ls i o l z) = (ρ i = none /\ l = 0) := by
 simp only [W0, eq_iff_iff]
 cases ρ i with
 | none => simp
 | some k => simp
theorem W1_nils {i o l z : Nat} : W1 ρ (.d (.lit (.slice none 0 0))) (.ls i o l z) = (ρ i = none /\ l = 0) := W0_nils
theorem W2_nils {i o l z : Nat} : W2 ρ (.d (.lit (.slice none 0 0))) (.ls i o l z) = (ρ i = none /\ l = 0) := W0_nils
theorem WV_nils {i o l z : Nat} : WV ρ (.d (.lit (.slice none 0 0))) (.ls i o l z) = (ρ i = none /\ l = 0) := W0_nils
theorem W2_agg {az bs : List V} : W2 ρ (.agg az) (.agg bs) = All2 (W1 ρ) az bs := by simp [W2]
theorem WV_agg {az bs : List V} : WV ρ (.agg az) (.agg bs) = All2 (W1 ρ) az bs := by simp [WV, W2]
theorem WV_tup {az bs : List V} : WV ρ (.tup az) (.tup bs) = All2 (W2 ρ) az bs := by simp [WV]
theorem SlotsOk_nil {f : Nat -> V} : SlotsOk ρ f [] = True := nrfl rfl
theorem SlotsOk_cons {f : Nat -> V} {t : Nat} {v : V} {r : List (Nat × V)} : SlotsOk ρ f ((t, v) :: r) = (WV ρ (f t) v /\ SlotsOk ρ f r) := nrfl rfl
theorem HpOk_nil : HpOk ρ H [] = True := nrfl rfl
theorem HpOk_cons {i : Nat} {cs : List V} {r : List (Nat × List V)} : HpOk ρ H ((i, cs) :: r) = ((match ρ i with | some j => (∃ cs', H j = some cs' /\ All2 (WC ρ) cs' cs) /\ cellsOk cs | none => cs = []) /\ HpOk ρ H r) := nrfl rfl
theorem cellsOk_nil : cellsOk [] = True := by simp [cellsOk]
theorem cellsOk_cons {c : V} {cs : List V} (h : V.isCell c = true) : cellsOk (c :: cs) = (cs.all V.isCell = true) := by
 simp only [cellsOk, List.all_cons, h, Bool.true_and, eq_iff_iff, or_iff_left_iff_imp]
 rintro (⟨fr, nt, ps, pa, pb, jmp, e⟩ | ⟨es, e⟩)
 . cases e; cases h
 . cases e; cases h
theorem All2_mapC {es : List (Value × Bool × List D)} {cs : List V} : All2 (WC ρ) cs (mapC es) = (cs = mapC es) := by
 have hm : ∀ t, AV (fun i => ρ i = some i) anyD (mapFr es t) := fun t => by
   unfold mapFr
   split
   . intro c hc
     obtain ⟨x, _, rfl⟩ := List.mem_map.1 hc
     trivial
   . trivial
 refine propext ⟨fun h => ?_, fun h => ?_⟩
 . match cs, h with
   | [a, b], h =>
     obtain ⟨h1, h2, _⟩ := h
     have e1 : a = mapB es := h1.1
     have e2 : b = .d (.lit (.bool true)) := h2
     rw [e1, e2]; rfl
   | [], h => exact h.elim
   | [_], h => exact h.2.elim
   | _ :: _ :: _ :: _, h => exact h.2.2.elim
 . subst h
   exact ⟨⟨rfl, hm⟩, rfl, trivial⟩
theorem cellsOk_mapC {es : List (Value × Bool × List D)} : cellsOk (mapC es) = True := eq_true (.inr (.inr ⟨es, rfl⟩))
theorem acl_mapC {p : Nat -> Prop} {es : List (Value × Bool × List D)} : (∀ c, c ∈ mapC es -> AC p anyD c) = True := eq_true fun c hc => by
 simp only [mapC, List.mem_cons, List.not_mem_nil, or_false] at hc
 rcases hc with rfl | rfl
 . intro t
   unfold mapFr
   split
   . intro c hc
     obtain ⟨x, _, rfl⟩ := List.mem_map.1 hc
     trivial
   . trivial
 . trivial
theorem WC_d {v : V} {x : D} : WC ρ v (.d x) = (v = .d x) := nrfl rfl
theorem WC_lp {i j o o' : Nat} : WC ρ (.lp j o) (.lp i o') = (ρ i = some j /\ o = o') := W0_lp
theorem WC_ls {i j o o' l l' z z' : Nat} : WC ρ (.ls j o l z) (.ls i o' l' z') = (ρ i = some j /\ o = o' /\ l = l' /\ z = z') := W0_ls
theorem WC_nils {i o l z : Nat} : WC ρ (.d (.lit (.slice none 0 0))) (.ls i o l z) = (ρ i = none /\ l = 0) := W0_nils
theorem W1_cl {f g : FuncId} {cs ds : List V} : W1 ρ (.cl f cs) (.cl g ds) = (f = g /\ All2 (W0 ρ) cs ds) := by
 simp only [W1, V.cl.injEq, eq_iff_iff]
 constructor
 . rintro ⟨c, ⟨rfl, rfl⟩, h⟩; exact ⟨rfl, h⟩
 . rintro ⟨rfl, h⟩; exact ⟨cs, ⟨rfl, rfl⟩, h⟩
theorem WC_cl {f g : FuncId} {cs ds : List V} : WC ρ (.cl f cs) (.cl g ds) = (f = g /\ All2 (W0 ρ) cs ds) := W1_cl
theorem W2_cl {f g : FuncId} {cs ds : List V} : W2 ρ (.cl f cs) (.cl g ds) = (f = g /\ All2 (W0 ρ) cs ds) := W1_cl
theorem WV_cl {f g : FuncId} {cs ds : List V} : WV ρ (.cl f cs) (.cl g ds) = (f = g /\ All2 (W0 ρ) cs ds) := W1_cl
theorem W0_yl {i j : Nat} : W0 ρ (.yl j) (.yl i) = (ρ i = some j) := by
 simp only [W0, V.yl.injEq, eq_iff_iff]
 constructor
 . rintro ⟨k, h1, rfl⟩; exact h1
 . intro h; exact ⟨j, h, rfl⟩
theorem W1_yl {i j : Nat} : W1 ρ (.yl j) (.yl i) = (ρ i = some j) := W0_yl
theorem W2_yl {i j : Nat} : W2 ρ (.yl j) (.yl i) = (ρ i = some j) := W0_yl
theorem WV_yl {i j : Nat} : WV ρ (.yl j) (.yl i) = (ρ i = some j) := W0_yl
theorem WC_lr {v : V} {fr : Nat -> V} {nt : Nat} {ps : List Nat} {pa pb : PC} {jmp : LSt} : WC ρ v (.lr fr nt ps pa pb jmp) = (v = .lr fr nt ps pa pb jmp /\ ∀ t, AV (fun i => ρ i = some i) anyD (fr t)) := nrfl rfl
theorem StabL_nil {h : Hp} : StabL ρ H h [] = True := nrfl rfl
theorem StabL_cons {h : Hp} {i : Nat} {r : List Nat} : StabL ρ H h (i :: r) = (((h i).isSome = true -> ρ i = some i /\ (H i).isSome = true) /\ StabL ρ H h r) := nrfl rfl
theorem StabW_nil {h : Hp} {n : Nat} : StabW ρ H h n [] = True := nrfl rfl
theorem StabW_cons {h : Hp} {i n : Nat} {r : List Nat} : StabW ρ H h n (i :: r) = (i < n /\ ((h i).isSome = true -> ρ i = some i /\ (H i).isSome = true) /\ StabW ρ H h n r) := nrfl rfl
theorem RhoInj_nil : RhoInj ρ [] = True := nrfl rfl
theorem RhoInj_cons {i : Nat} {cs : List V} {r : List (Nat × List V)} : RhoInj ρ ((i, cs) :: r) = ((∀ q ∈ r, ρ q.1 = none \/ ρ q.1 ≠ ρ i \/ q.1 = i) /\ RhoInj ρ r) := nrfl rfl
end
section
variable {p : Nat -> Prop}
theorem AV_d {x : D} : AV p anyD (.d x) = True := nrfl rfl
theorem A2_d {x : D} : A2 p anyD (.d x) = True := nrfl rfl
theorem A1_d {x : D} : A1 p anyD (.d x) = True := nrfl rfl
theorem A0_d {x : D} : A0 p anyD (.d x) = True := nrfl rfl
theorem AV_lp {i o : Nat} : AV p anyD (.lp i o) = p i := nrfl rfl
theorem A2_lp {i o : Nat} : A2 p anyD (.lp i o) = p i := nrfl rfl
theorem A1_lp {i o : Nat} : A1 p anyD (.lp i o) = p i := nrfl rfl
theorem A0_lp {i o : Nat} : A0 p anyD (.lp i o) = p i := nrfl rfl
theorem AV_ls {i o l z : Nat} : AV p anyD (.ls i o l z) = p i := nrfl rfl
theorem A2_ls {i o l z : Nat} : A2 p anyD (.ls i o l z) = p i := nrfl rfl
theorem A1_ls {i o l z : Nat} : A1 p anyD (.ls i o l z) = p i := nrfl rfl
theorem A0_ls {i o l z : Nat} : A0 p anyD (.ls i o l z) = p i := nrfl rfl
theorem AV_agg {cs : List V} : AV p anyD (.agg cs) = ∀ c ∈ cs, A1 p anyD c := nrfl rfl
theorem A2_agg {cs : List V} : A2 p anyD (.agg cs) = ∀ c ∈ cs, A1 p anyD c := nrfl rfl
theorem AV_tup {cs : List V} : AV p anyD (.tup cs) = ∀ c ∈ cs, A2 p anyD c := nrfl rfl
theorem AV_cl {f : FuncId} {cs : List V} : AV p anyD (.cl f cs) = ∀ c ∈ cs, A0 p anyD c := nrfl rfl
theorem A2_cl {f : FuncId} {cs : List V} : A2 p anyD (.cl f cs) = ∀ c ∈ cs, A0 p anyD c := nrfl rfl
theorem A1_cl {f : FuncId} {cs : List V} : A1 p anyD (.cl f cs) = ∀ c ∈ cs, A0 p anyD c := nrfl rfl
theorem SlotsIds_nil {n : Nat} : SlotsIds n [] = True := nrfl rfl
theorem SlotsIds_cons {n t : Nat} {v : V} {r : List (Nat × V)} : SlotsIds n ((t, v) :: r) = (AV (· < n) anyD v /\ SlotsIds n r) := nrfl rfl
theorem HpIds_nil {n : Nat} : HpIds n [] = True := nrfl rfl
theorem HpIds_cons {n i : Nat} {cs : List V} {r : List (Nat × List V)} : HpIds n ((i, cs) :: r) = (i < n /\ (∀ c ∈ cs, AC (· < n) anyD c) /\ HpIds n r) := nrfl rfl
theorem AC_d {x : D} : AC p anyD (.d x) = True := nrfl rfl
theorem AC_lp {i o : Nat} : AC p anyD (.lp i o) = p i := nrfl rfl
theorem AC_ls {i o l z : Nat} : AC p anyD (.ls i o l z) = p i := nrfl rfl
theorem AC_yl {i : Nat} : AC p anyD (.yl i) = p i := nrfl rfl
theorem AC_cl {f : FuncId} {cs : List V} : AC p anyD (.cl f cs) = ∀ c ∈ cs, A0 p anyD c := nrfl rfl
theorem AC_lr {fr : Nat -> V} {nt : Nat} {ps : List Nat} {pa pb : PC} {jmp : LSt} : AC p anyD (.lr fr nt ps pa pb jmp) = ∀ t, AV p anyD (fr t) := nrfl rfl
theorem A0_yl {i : Nat} : A0 p anyD (.yl i) = p i := nrfl rfl
theorem A1_yl {i : Nat} : A1 p anyD (.yl i) = p i := nrfl rfl
theorem A2_yl {i : Nat} : A2 p anyD (.yl i) = p i := nrfl rfl
theorem AV_yl {i : Nat} : AV p anyD (.yl i) = p i := nrfl rfl
theorem Closed_d {x : D} : Closed (.d x) = True := nrfl rfl
theorem Closed_agg {cs : List V} : Closed (.agg cs) = ∀ c ∈ cs, A1 (fun _ => False) anyD c := nrfl rfl
theorem InB_eq {H1 : List (Nat × List V)} {i : Nat} : InB H1 i = ((lk H1 i).isSome = true) := nrfl rfl
end
theorem resL_nil {f : Nat -> V} : resL Γ H f [] = some [] := nrfl rfl
theorem resL_tmp {f : Nat -> V} {t : Nat} {r : List ResultVar} : resL Γ H f (.tmp t :: r) = (resL Γ H f r).map (f t :: ·) := nrfl rfl
theorem resL_cell {f : Nat -> V} {a T : Nat} {r : List ResultVar} : resL Γ H f (.cell a T :: r) = (loadF Γ H T (f a)).bind fun p => (resL Γ H f r).map (p.1 :: ·) := nrfl rfl
theorem pack_one {v : V} : pack [v] = v := nrfl rfl
theorem pack_two {v w : V} {r : List V} : pack (v :: w :: r) = .tup (v :: w :: r) := nrfl rfl
theorem isTup_d {x : D} : V.isTup (.d x) = false := nrfl rfl
theorem isTup_lp {i o : Nat} : V.isTup (.lp i o) = false := nrfl rfl
theorem isTup_ls {i o l z : Nat} : V.isTup (.ls i o l z) = false := nrfl rfl
theorem isTup_agg {cs : List V} : V.isTup (.agg cs) = false := nrfl rfl
theorem isTup_cl {f : FuncId} {cs : List V} : V.isTup (.cl f cs) = false := nrfl rfl
theorem ren_d {ρ : Nat -> Nat} {x : D} : ren ρ (.d x) = .d x := nrfl rfl
theorem ren_lp {ρ : Nat -> Nat} {i o : Nat} : ren ρ (.lp i o) = .lp (ρ i) o := nrfl rfl
theorem ren_ls {ρ : Nat -> Nat} {i o l z : Nat} : ren ρ (.ls i o l z) = .ls (ρ i) o l z := nrfl rfl
theorem ren_agg {ρ : Nat -> Nat} {cs : List V} : ren ρ (.agg cs) = .agg (cs.map (ren1 ρ)) := nrfl rfl
theorem ren_tup {ρ : Nat -> Nat} {cs : List V} : ren ρ (.tup cs) = .tup (cs.map (ren2 ρ)) := nrfl rfl
theorem ren2_d {ρ : Nat -> Nat} {x : D} : ren2 ρ (.d x) = .d x := nrfl rfl
theorem ren2_ls {ρ : Nat -> Nat} {i o l z : Nat} : ren2 ρ (.ls i o l z) = .ls (ρ i) o l z := nrfl rfl
theorem ren2_lp {ρ : Nat -> Nat} {i o : Nat} : ren2 ρ (.lp i o) = .lp (ρ i) o := nrfl rfl
theorem ren2_agg {ρ : Nat -> Nat} {cs : List V} : ren2 ρ (.agg cs) = .agg (cs.map (ren1 ρ)) := nrfl rfl
theorem ren1_d {ρ : Nat -> Nat} {x : D} : ren1 ρ (.d x) = .d x := nrfl rfl
theorem ren1_ls {ρ : Nat -> Nat} {i o l z : Nat} : ren1 ρ (.ls i o l z) = .ls (ρ i) o l z := nrfl rfl
theorem ren1_lp {ρ : Nat -> Nat} {i o : Nat} : ren1 ρ (.lp i o) = .lp (ρ i) o := nrfl rfl
theorem addH_nil {base : Nat} : addH H base [] = H := nrfl rfl
theorem addH_cons {base i : Nat} {cs : List V} {r : List (Nat × List V)} : addH H base ((i, cs) :: r) = upd (addH H base r) (base + i) (some (cs.map (renC (base + ·)))) := nrfl rfl
theorem idsLt_nil {n : Nat} : idsLt n [] = True := nrfl rfl
theorem idsLt_cons {n i : Nat} {cs : List V} {r : List (Nat × List V)} : idsLt n ((i, cs) :: r) = (i < n /\ idsLt n r) := nrfl rfl
theorem Bor_d {x y : D} : Bor H (.d x) (.d y) = (x = y \/ (x = .lit (.slice none 0 0) /\ ∃ sz, y = .sl sz [])) := nrfl rfl
theorem Bor1_d {x y : D} : Bor1 H (.d x) (.d y) = (x = y \/ (x = .lit (.slice none 0 0) /\ ∃ sz, y = .sl sz [])) := nrfl rfl
theorem Bor_agg {az bs : List V} : Bor H (.agg az) (.agg bs) = All2 (Bor1 H) az bs := nrfl rfl
theorem Bor_lp {i o : Nat} {ds : List D} : Bor H (.lp i o) (.d (.ref ds)) = ∃ cs, H i = some cs /\ (cs.drop o).take ds.length = ds.map .d := nrfl rfl
theorem Bor_clfn {f g : FuncId} {caps : List V} {ds : List D} : Bor H (.cl f caps) (.d (.fn g ds)) = (f = g /\ All2 (Bor0 H) caps (ds.map .d)) := nrfl rfl
theorem Bor0_lp {i o : Nat} {ds : List D} : Bor0 H (.lp i o) (.d (.ref ds)) = ∃ cs, H i = some cs /\ (cs.drop o).take ds.length = ds.map .d := nrfl rfl
theorem Bor0_d {x y : D} : Bor0 H (.d x) (.d y) = (x = y \/ (x = .lit (.slice none 0 0) /\ ∃ sz, y = .sl sz [])) := nrfl rfl
theorem Bor_lplp {i o i' o' : Nat} : Bor H (.lp i o) (.lp i' o') = (i = i' /\ o = o') := nrfl rfl
theorem Bor_lsls {i o l z i' o' l' z' : Nat} : Bor H (.ls i o l z) (.ls i' o' l' z') = (i = i' /\ o = o' /\ l = l' /\ z = z') := nrfl rfl
theorem Bor_yl {i i' : Nat} : Bor H (.yl i) (.yl i') = (i = i') := nrfl rfl
theorem Bor_cl {f g : FuncId} {cs ds : List V} : Bor H (.cl f cs) (.cl g ds) = (f = g /\ cs = ds) := nrfl rfl
theorem noH_at {i : Nat} : noH i = none := nrfl rfl
theorem renC_d {ρ : Nat -> Nat} {x : D} : renC ρ (.d x) = .d x := nrfl rfl
theorem renC_ls {ρ : Nat -> Nat} {i o l z : Nat} : renC ρ (.ls i o l z) = .ls (ρ i) o l z := nrfl rfl
theorem renC_lp {ρ : Nat -> Nat} {i o : Nat} : renC ρ (.lp i o) = .lp (ρ i) o := nrfl rfl
theorem renC_cl {ρ : Nat -> Nat} {f : FuncId} {cs : List V} : renC ρ (.cl f cs) = .cl f (cs.map (ren0 ρ)) := nrfl rfl
theorem ren0_d {ρ : Nat -> Nat} {x : D} : ren0 ρ (.d x) = .d x := nrfl rfl
theorem ren0_ls {ρ : Nat -> Nat} {i o l z : Nat} : ren0 ρ (.ls i o l z) = .ls (ρ i) o l z := nrfl rfl
theorem ren0_lp {ρ : Nat -> Nat} {i o : Nat} : ren0 ρ (.lp i o) = .lp (ρ i) o := nrfl rfl
theorem ren_cl {ρ : Nat -> Nat} {f : FuncId} {cs : List V} : ren ρ (.cl f cs) = .cl f (cs.map (ren0 ρ)) := nrfl rfl
theorem sg_eq {ks : List Nat} {b j : Nat} : sg ks b j = if j ∈ ks then j else b + j := nrfl rfl
theorem HinOk_nil : HinOk H [] = True := nrfl rfl
theorem HinOk_cons {p : Nat × List V} {r : List (Nat × List V)} : HinOk H (p :: r) = (H p.1 = some p.2 /\ HinOk H r) := nrfl rfl
theorem delL_nil : delL H [] = H := nrfl rfl
theorem delL_cons {p : Nat × List V} {r : List (Nat × List V)} : delL H (p :: r) = upd (delL H r) p.1 none := nrfl rfl
theorem addM_nil {ks : List Nat} {b : Nat} : addM H ks b [] = H := nrfl rfl
theorem addM_cons {ks : List Nat} {b : Nat} {p : Nat × List V} {r : List (Nat × List V)} : addM H ks b (p :: r) = upd (addM H ks b r) (sg ks b p.1) (some (p.2.map (renC (sg ks b)))) := nrfl rfl
theorem ksOk_nil {b : Nat} {L L1 : List (Nat × List V)} : ksOk b L L1 [] = True := nrfl rfl
theorem ksOk_cons {b i : Nat} {L L1 : List (Nat × List V)} {r : List Nat} : ksOk b L L1 (i :: r) = (i < b /\ (lk L1 i).isSome = true /\ (∃ cs, lk L i = some cs /\ cs ≠ []) /\ ksOk b L L1 r) := nrfl rfl
theorem afterC_ret {r : V} {ρ : Nat -> Nat} {Ho : Hp} {Kc Kx : V -> Hp -> Prop} : afterC (.ret r) ρ Ho Kc Kx = Kc (ren ρ r) Ho := nrfl rfl
theorem afterC_pan {r : V} {ρ : Nat -> Nat} {Ho : Hp} {Kc Kx : V -> Hp -> Prop} : afterC (.pan r) ρ Ho Kc Kx = Kx (ren ρ r) Ho := nrfl rfl
theorem lkIn_nil {b : Nat} : (∀ i, InH (lk ([] : List (Nat × List V))) i -> i < b) = True := by simp [InH, lk]
theorem lkIn_cons {b : Nat} {p : Nat × List V} {r : List (Nat × List V)} : (∀ i, InH (lk (p :: r)) i -> i < b) = (p.1 < b /\ ∀ i, InH (lk r) i -> i < b) := by
 simp only [InH, lk, eq_iff_iff]
 constructor
 . intro h
   refine ⟨h p.1 (by simp), fun i hi => h i ?_⟩
   split
   . rfl
   . exact hi
 . rintro ⟨h1, h2⟩ i hi
   split at hi
   . rename_i e; rw [e]; exact h1
   . exact h2 i hi
theorem buildF_eq {ps : List (Nat × V)} : buildF Γ t ps = (Γ t).bind fun y => match y.sh with
 | .struct fs => if fs.all (fun p => (Γ p.2).isSome) then (fillV (fieldsOf Γ fs) (y.zero.map cV) ps).map fun cs => (.agg cs, .none) else none
 | .array _ e => (Γ e).bind fun ye => (fillV (fun i => some (i * ye.size, ye.size)) (y.zero.map cV) ps).map fun cs => (.agg cs, .none)
 | _ => none := nrfl rfl
theorem buildSliceF_eq {n : Nat} {ps : List (Nat × V)} : buildSliceF Γ b t n ps = (Γ t).bind fun y => match y.sh with
 | .slice e => (Γ e).bind fun ye => if n * ye.size <= 16777216 /\ 0 < ye.size then (fillV (fun i => some (i * ye.size, ye.size)) (repl n (ye.zero.map cV)) ps).map fun cs => (.ls b 0 n ye.size, .new b cs) else none
 | _ => none := nrfl rfl
theorem fillV_nil {fs : Nat -> Option (Nat × Nat)} {cells : List V} : fillV fs cells [] = some cells := nrfl rfl
theorem fillV_cons {fs : Nat -> Option (Nat × Nat)} {cells : List V} {i : Nat} {v : V} {r : List (Nat × V)} : fillV fs cells ((i, v) :: r) = match fs i with
   | none => none
   | some (off, size) => if v.cells.length = size /\ off + size <= cells.length /\ v.cells.all V.isCell = true then fillV fs (splice cells off v.cells) r else none := nrfl rfl
theorem fieldsOf_eq {fs : List (Nat × TypeId)} {i : Nat} : fieldsOf Γ fs i = fs[i]?.bind fun p => (Γ p.2).map fun y => (p.1, y.size) := nrfl rfl
theorem indexF_sl {sz : Nat} {es : List (List D)} {k : IntKind} {n : Int} : indexF Γ t (.d (.sl sz es)) (.d (.lit (.int k n))) = (Γ t).bind fun y => match y.sh with
 | .slice e => (Γ e).bind fun ye => if 0 <= n /\ ye.size = sz then es[n.toNat]?.map fun c => (.d (.ref c), .none) else none
 | _ => none := by
 unfold indexF; congr; funext y; cases y.sh <;> first | rfl | (simp; done) | (rename_i n e; cases Γ e <;> rfl)
theorem indexF_ls {i o l z : Nat} {k : IntKind} {n : Int} : indexF Γ t (.ls i o l z) (.d (.lit (.int k n))) = (Γ t).bind fun y => match y.sh with
 | .slice e => (Γ e).bind fun ye => if 0 <= n /\ n < l /\ ye.size = z then some (.lp i (o + n.toNat * z), .none) else none
 | _ => none := by
 unfold indexF; congr; funext y; cases y.sh <;> first | rfl | (simp; done) | (rename_i n e; cases Γ e <;> rfl)
theorem sliceF_sl {sz : Nat} {es : List (List D)} {lo hi : Option V} : sliceF Γ H t (.d (.sl sz es)) lo hi = (Γ t).bind fun y => match y.sh with
 | .slice e => (Γ e).bind fun ye => if ye.size = sz then (loHi es.length lo hi).map fun p => (.d (.sl sz ((es.take p.2).drop p.1)), .none) else none
 | _ => none := by
 unfold sliceF; congr; funext y; cases y.sh <;> first | rfl | (simp; done) | (rename_i n e; cases Γ e <;> rfl)
theorem sliceF_ls {i o l z : Nat} {lo hi : Option V} : sliceF Γ H t (.ls i o l z) lo hi = (Γ t).bind fun y => match y.sh with
 | .slice e => (Γ e).bind fun ye => if ye.size = z then (loHi l lo hi).map fun p => (.ls i (o + p.1 * z) (p.2 - p.1) z, .none) else none
 | _ => none := by
 unfold sliceF; congr; funext y; cases y.sh <;> first | rfl | (simp; done) | (rename_i n e; cases Γ e <;> rfl)
theorem indexV_str {s : ByteArray} {k : IntKind} {n : Int} : indexV Γ t (.d (.lit (.string s))) (.d (.lit (.int k n))) = (Γ t).bind fun y => match y.sh with
 | .str => if 0 <= n then s[n.toNat]?.map fun b => (.d (.lit (.int .u8 b.toNat)), .none) else none
 | _ => none := by
 unfold indexV; congr; funext y; cases y.sh <;> first | rfl | (simp; done)
theorem indexV_agg {cs : List V} {k : IntKind} {n : Int} : indexV Γ t (.agg cs) (.d (.lit (.int k n))) = (Γ t).bind fun y => match y.sh with
 | .array m e => (Γ e).bind fun ye => if 0 <= n /\ n < m /\ n.toNat * ye.size + ye.size <= cs.length then some (mkV ye.agg ((cs.drop (n.toNat * ye.size)).take ye.size), .none) else none
 | _ => none := by
 unfold indexV; congr; funext y; cases y.sh <;> first | rfl | (simp; done)
theorem indexF_lp {i o : Nat} {k : IntKind} {n : Int} : indexF Γ t (.lp i o) (.d (.lit (.int k n))) = (Γ t).bind fun y => match y.sh with
 | .array m e => (Γ e).bind fun ye => if 0 <= n /\ n < m then some (.lp i (o + n.toNat * ye.size), .none) else none
 | _ => none := by
 unfold indexF; congr; funext y; cases y.sh <;> first | rfl | (simp; done) | (rename_i e; cases Γ e <;> rfl)
theorem indexF_ref {cs : List D} {k : IntKind} {n : Int} : indexF Γ t (.d (.ref cs)) (.d (.lit (.int k n))) = (Γ t).bind fun y => match y.sh with
 | .array m e => (Γ e).bind fun ye => if 0 <= n /\ n < m then some (.d (.ref (cs.drop (n.toNat * ye.size))), .none) else none
 | _ => none := by
 unfold indexF; congr; funext y; cases y.sh <;> first | rfl | (simp; done) | (rename_i e; cases Γ e <;> rfl)
theorem sliceF_lp {i o : Nat} {lo hi : Option V} : sliceF Γ H t (.lp i o) lo hi = (Γ t).bind fun y => match y.sh with
 | .array m e => (Γ e).bind fun ye => (H i).bind fun cs => if o + m * ye.size <= cs.length /\ m <= maxL then (loHi m lo hi).map fun p => (.ls i (o + p.1 * ye.size) (p.2 - p.1) ye.size, .none) else none
 | _ => none := by
 unfold sliceF; congr; funext y; cases y.sh <;> first | rfl | (simp; done) | (rename_i e; cases Γ e <;> rfl)
theorem sliceF_nil {a : Option Addr} {n c : Nat} {lo hi : Option V} : sliceF Γ H t (.d (.lit (.slice a n c))) lo hi = (Γ t).bind fun y => match y.sh with
 | .slice e => (Γ e).bind fun _ => (loHi 0 lo hi).map fun _ => (.d (.lit (.slice none 0 0)), .none)
 | _ => none := by
 unfold sliceF; congr; funext y; cases y.sh <;> first | rfl | (simp; done) | (rename_i n e; cases Γ e <;> rfl)
theorem sliceF_str {s : ByteArray} {lo hi : Option V} : sliceF Γ H t (.d (.lit (.string s))) lo hi = (Γ t).bind fun y => match y.sh with
 | .str => (loHi s.size lo hi).map fun p => (.d (.lit (.string (s.extract p.1 p.2))), .none)
 | _ => none := by
 unfold sliceF; congr; funext y; cases y.sh <;> first | rfl | (simp; done) | (rename_i e; cases Γ e <;> rfl) | (rename_i n e; cases Γ e <;> rfl)
theorem lenF_str {s : ByteArray} : lenF Γ t (.d (.lit (.string s))) = (Γ t).bind fun y => match y.sh with | .str => some (.d (.lit (.int .i64 s.size)), .none) | _ => none := by
 unfold lenF; congr; funext y; cases y.sh <;> rfl
theorem binF_str {o : BinOp} {c : Bool} {a b : ByteArray} : binF Γ eqs o t c (.d (.lit (.string a))) (.d (.lit (.string b))) = match o with
   | .eql => some (.d (.lit (.bool (a == b))), .none)
   | .neq => some (.d (.lit (.bool (a != b))), .none)
   | .add => if a.size + b.size <= maxL then some (.d (.lit (.string (a ++ b))), .none) else none
   | _ => none := nrfl rfl
theorem binF_nil_ls {o : BinOp} {c : Bool} {i of l z : Nat} : binF Γ eqs o t c (.ls i of l z) (.d (.lit (.slice none 0 0))) = (Γ t).bind fun y => match y.sh, o with
   | .slice _, .eql => if 0 < l then some (.d (.lit (.bool false)), .none) else none
   | .slice _, .neq => if 0 < l then some (.d (.lit (.bool true)), .none) else none
   | _, _ => none := by
 unfold binF
 simp only [show isNilLit (.d (.lit (.slice none 0 0))) = true from rfl, if_true]
 congr; funext y; split <;> simp_all [nilR, nilV, cV] <;> (by_cases h : 0 < l <;> simp [h])
theorem binF_nil_sl {o : BinOp} {c : Bool} {z : Nat} {e : List D} {es : List (List D)} : binF Γ eqs o t c (.d (.sl z (e :: es))) (.d (.lit (.slice none 0 0))) = (Γ t).bind fun y => match y.sh, o with
   | .slice _, .eql => some (.d (.lit (.bool false)), .none)
   | .slice _, .neq => some (.d (.lit (.bool true)), .none)
   | _, _ => none := by
 unfold binF
 simp only [show isNilLit (.d (.lit (.slice none 0 0))) = true from rfl, if_true]
 first | rfl | (congr; funext y; split <;> simp_all [nilR, nilV, cV])
theorem binF_nil_e {o : BinOp} {c : Bool} {z : Nat} : binF Γ eqs o t c (.d (.sl z [])) (.d (.lit (.slice none 0 0))) = (Γ t).bind fun y => match y.sh, o with
   | .slice _, .eql => some (.d .ub, .none)
   | .slice _, .neq => some (.d .ub, .none)
   | _, _ => none := by
 unfold binF
 simp only [show isNilLit (.d (.lit (.slice none 0 0))) = true from rfl, if_true]
 first | rfl | (congr; funext y; split <;> simp_all [nilR, nilV, cV])
theorem binF_nil_nil {o : BinOp} {c : Bool} : binF Γ eqs o t c (.d (.lit (.slice none 0 0))) (.d (.lit (.slice none 0 0))) = (Γ t).bind fun y => match y.sh, o with
   | .slice _, .eql => some (.d (.lit (.bool true)), .none)
   | .slice _, .neq => some (.d (.lit (.bool false)), .none)
   | _, _ => none := by
 unfold binF
 simp only [show isNilLit (.d (.lit (.slice none 0 0))) = true from rfl, if_true]
 first | rfl | (congr; funext y; split <;> simp_all [nilR, nilV, cV])
theorem clearF_ls {i o l z : Nat} : clearF Γ H t (.ls i o l z) = (Γ t).bind fun y => match y.sh with
 | .slice e => (Γ e).bind fun ye => if l = 0 then some (.tup [], .none) else if z = ye.size /\ 0 < z then (H i).bind fun cs => if o + l * z <= cs.length then some (.tup [], .put i (splice cs o (repl l (ye.zero.map cV)))) else none else none
 | _ => none := by
 unfold clearF; congr
theorem maxL_eq : maxL = 9223372036854775807 := nrfl rfl
theorem maxA_eq : maxA = 140737488355328 := nrfl rfl
theorem eqCell_int {k : IntKind} {a b : Int} : eqCell .int (.d (.lit (.int k a))) (.d (.lit (.int k b))) = some (decide (a = b)) := by simp [eqCell, beq_dec]
theorem eqCell_bool {a b : Bool} : eqCell .bool (.d (.lit (.bool a))) (.d (.lit (.bool b))) = some (a == b) := nrfl rfl
theorem eqCell_str {a b : ByteArray} : eqCell .str (.d (.lit (.string a))) (.d (.lit (.string b))) = some (a == b) := nrfl rfl
theorem eqCells_nil : eqCells [] [] [] = some true := nrfl rfl
theorem eqCells_cons {k : CK} {ks : List CK} {a b : V} {az bs : List V} : eqCells (k :: ks) (a :: az) (b :: bs) = (eqCell k a b).bind fun r => (eqCells ks az bs).map fun s => r && s := nrfl rfl
theorem fieldV_agg {cs : List V} {i : Nat} : fieldV Γ t (.agg cs) i = (Γ t).bind fun y => match y.sh with
 | .struct fs => fs[i]?.bind fun p => (Γ p.2).bind fun yf => if p.1 + yf.size <= cs.length then some (mkV yf.agg ((cs.drop p.1).take yf.size), .none) else none
 | _ => none := nrfl rfl
theorem convF_int {s : TypeId} {k : IntKind} {n : Int} : convF Γ H b s t (.d (.lit (.int k n))) = (Γ s).bind fun ys => (Γ t).bind fun y => match y.sh with
 | .int k' => some (.d (.lit (.int k' (k'.wrap n))), .none)
 | .str => strF Γ H ys.sh (.d (.lit (.int k n)))
 | _ => none := by
 unfold convF; first | rfl | (congr; done) | (congr; funext _; congr; done) | (congr; funext _; congr; funext y; cases y.sh <;> rfl)
theorem convF_str {s : TypeId} {x : ByteArray} : convF Γ H b s t (.d (.lit (.string x))) = (Γ s).bind fun ys => (Γ t).bind fun y => match y.sh with
 | .str => strF Γ H ys.sh (.d (.lit (.string x)))
 | .slice e => bytF Γ b ys.sh e (.d (.lit (.string x)))
 | _ => none := by
 unfold convF; first | rfl | (congr; done) | (congr; funext _; congr; done) | (congr; funext _; congr; funext y; cases y.sh <;> rfl)
theorem bytF_str {e : TypeId} {x : ByteArray} : bytF Γ b .str e (.d (.lit (.string x))) = (Γ e).bind fun ye => if isU8 ye.sh = true /\ x.size <= maxL then some (.ls b 0 x.size 1, .new b (x.data.toList.map u8V)) else none := nrfl rfl
theorem convF_ls {s : TypeId} {i o l z : Nat} : convF Γ H b s t (.ls i o l z) = (Γ s).bind fun ys => (Γ t).bind fun y => match y.sh with
 | .str => strF Γ H ys.sh (.ls i o l z)
 | _ => none := by
 unfold convF; first | rfl | (congr; done) | (congr; funext _; congr; done) | (congr; funext _; congr; funext y; cases y.sh <;> rfl)
theorem strF_ls {e : TypeId} {i o l z : Nat} : strF Γ H (.slice e) (.ls i o l z) = (Γ e).bind fun ye => if isU8 ye.sh = true then (cellsOf H 1 (.ls i o l z)).bind fun p => (bytesV p.2).map fun l => (.d (.lit (.string ⟨l.toArray⟩)), .none) else none := nrfl rfl
theorem isU8_eq : isU8 (.int .u8) = true := nrfl rfl
theorem bytesV_nil : bytesV [] = some [] := nrfl rfl
theorem bytesV_cons {n : Int} {r : List V} : bytesV (.d (.lit (.int .u8 n)) :: r) = if 0 <= n /\ n < 256 then (bytesV r).map (UInt8.ofNat n.toNat :: ·) else none := by
 simp only [bytesV, byteV]
 split <;> rfl
theorem maxF_int {k : IntKind} {x : Int} {r : List V} : maxF (.d (.lit (.int k x)) :: r) = (maxR k x r).map fun m => (.d (.lit (.int k m)), .none) := nrfl rfl
theorem minF_int {k : IntKind} {x : Int} {r : List V} : minF (.d (.lit (.int k x)) :: r) = (minR k x r).map fun m => (.d (.lit (.int k m)), .none) := nrfl rfl
theorem maxR_nil {k : IntKind} {m : Int} : maxR k m [] = some m := nrfl rfl
theorem minR_nil {k : IntKind} {m : Int} : minR k m [] = some m := nrfl rfl
theorem maxR_cons {k : IntKind} {m x : Int} {r : List V} : maxR k m (.d (.lit (.int k x)) :: r) = maxR k (max m x) r := by simp [maxR]
theorem minR_cons {k : IntKind} {m x : Int} {r : List V} : minR k m (.d (.lit (.int k x)) :: r) = minR k (min m x) r := by simp [minR]
theorem ifcF_agg {t : TypeId} {cs : List V} : ifcF Γ t (.agg cs) = (Γ t).bind fun y => match y.sh with | .ifc _ => none | .other => none | _ => (dataL cs).map fun ds => (.d (.ifc t true ds), .none) := nrfl rfl
theorem ifcF_d {t : TypeId} {x : D} : ifcF Γ t (.d x) = (Γ t).bind fun y => match y.sh with | .ifc _ => none | .other => none | _ => some (.d (.ifc t false [x]), .none) := nrfl rfl
theorem dataL_nil : dataL [] = some [] := nrfl rfl
theorem dataL_d {x : D} {r : List V} : dataL (.d x :: r) = (dataL r).map (x :: ·) := nrfl rfl
theorem outF_true {cs : List D} : outF cs true = some (.agg (cs.map .d)) := nrfl rfl
theorem outF_false {c : D} : outF [c] false = some (.d c) := nrfl rfl
theorem assF_ifc {t t' : TypeId} {ag : Bool} {cs : List D} : assF Γ t (.d (.ifc t' ag cs)) = (Γ t).bind fun y => match y.sh with | .ifc _ => none | .other => none | _ => if t' = t then (outF cs ag).map fun v => (v, .none) else none := nrfl rfl
theorem binF_ifc_nil {op : BinOp} {c : Bool} {t t' : TypeId} {ag : Bool} {cs : List D} : binF Γ eqs op t c (.d (.ifc t' ag cs)) (.d (.lit .nilIface)) = (Γ t).bind fun y => match y.sh, op with | .ifc _, .eql => some (.d (.lit (.bool false)), .none) | .ifc _, .neq => some (.d (.lit (.bool true)), .none) | _, _ => none := nrfl rfl
theorem binF_nilI {op : BinOp} {c : Bool} {t : TypeId} : binF Γ eqs op t c (.d (.lit .nilIface)) (.d (.lit .nilIface)) = (Γ t).bind fun y => match y.sh, op with | .ifc e, .eql => if e || c then some (.d (.lit (.bool true)), .none) else none | .ifc e, .neq => if e || c then some (.d (.lit (.bool false)), .none) else none | _, _ => none := nrfl rfl
theorem nilOp_c : nilOp (.const .nilIface) = true := nrfl rfl
theorem nilOp_t {i : Nat} : nilOp (.tmp i) = false := nrfl rfl
theorem nilF_lp {id off : Nat} : nilF (.lp id off) = some (.lp id off, .none) := nrfl rfl
theorem nilF_ref {cs : List D} : nilF (.d (.ref cs)) = some (.d (.ref cs), .none) := nrfl rfl
theorem mkFuncF_eq {g : FuncId} {n : Nat} {caps : List V} : mkFuncF g n caps = if n = 0 /\ caps.all V.cap = true then some (.cl g caps, .none) else none := nrfl rfl
theorem cap_d {x : D} : V.cap (.d x) = true := nrfl rfl
theorem cap_lp {i o : Nat} : V.cap (.lp i o) = true := nrfl rfl
theorem cap_ls {i o l z : Nat} : V.cap (.ls i o l z) = true := nrfl rfl
theorem loHi_eq {n : Nat} {lo hi : Option V} : loHi n lo hi = (hiOf n hi).bind fun h => (loOf h lo).bind fun l => some (l, h) := nrfl rfl
theorem hiOf_none {n : Nat} : hiOf n none = some n := nrfl rfl
theorem hiOf_int {n : Nat} {k : IntKind} {h : Int} : hiOf n (some (.d (.lit (.int k h)))) = if 0 <= h /\ h <= n then some h.toNat else none := nrfl rfl
theorem loOf_none {n : Nat} : loOf n none = some 0 := nrfl rfl
theorem loOf_int {n : Nat} {k : IntKind} {h : Int} : loOf n (some (.d (.lit (.int k h)))) = if 0 <= h /\ h <= n then some h.toNat else none := nrfl rfl
section
variable {p : Nat -> Prop} {v : Value}
theorem AV_lit : AV p litD (.d (.lit v)) = True := by simp [AV, A2, A1, A0, litD]
theorem A2_lit : A2 p litD (.d (.lit v)) = True := by simp [A2, A1, A0, litD]
theorem A1_lit : A1 p litD (.d (.lit v)) = True := by simp [A1, A0, litD]
theorem AVl_ls {i o l z : Nat} : AV p litD (.ls i o l z) = p i := nrfl rfl
theorem A2l_ls {i o l z : Nat} : A2 p litD (.ls i o l z) = p i := nrfl rfl
theorem A1l_ls {i o l z : Nat} : A1 p litD (.ls i o l z) = p i := nrfl rfl
theorem AVl_agg {cs : List V} : AV p litD (.agg cs) = ∀ c ∈ cs, A1 p litD c := nrfl rfl
theorem A2l_agg {cs : List V} : A2 p litD (.agg cs) = ∀ c ∈ cs, A1 p litD c := nrfl rfl
theorem AVl_tup {cs : List V} : AV p litD (.tup cs) = ∀ c ∈ cs, A2 p litD c := nrfl rfl
theorem ACl_lit : AC p litD (.d (.lit v)) = True := by simp [AC, A1, A0, litD]
theorem ACl_ls {i o l z : Nat} : AC p litD (.ls i o l z) = p i := nrfl rfl
theorem ACl_lp {i o : Nat} : AC p litD (.lp i o) = p i := nrfl rfl
def flatL (p : Nat -> Prop) : List (Nat × List V) -> Prop
 | [] => True
 | x :: r => (∀ c ∈ x.2, AC p litD c) /\ flatL p r
theorem flatL_nil : flatL p [] = True := nrfl rfl
theorem flatL_cons {x : Nat × List V} {r : List (Nat × List V)} : flatL p (x :: r) = ((∀ c ∈ x.2, AC p litD c) /\ flatL p r) := nrfl rfl
theorem flatL_at : ∀ {L : List (Nat × List V)}, flatL p L -> ∀ i cs, lk L i = some cs -> ∀ c ∈ cs, AC p litD c
 | [], _, i, cs, h => by simp [lk] at h
 | x :: r, hf, i, cs, h => by
   simp only [lk] at h
   split at h
   . cases h; exact hf.1
   . exact flatL_at hf.2 i cs h
theorem flatRes_of {r : Res} {L : List (Nat × List V)} (h1 : AV (InH (lk L)) litD r.v) (h2 : flatL (InH (lk L)) L) : flatRes r (lk L) := ⟨h1, flatL_at h2⟩
theorem InH_eq {h : Hp} {i : Nat} : InH h i = ((h i).isSome = true) := nrfl rfl
theorem resV_ret {r : V} : Res.v (.ret r) = r := nrfl rfl
theorem resV_pan {r : V} : Res.v (.pan r) = r := nrfl rfl
end
section
variable {P : Program}
theorem ACall.mk {m : CM} {Hr H : Hp} {b : Nat} {g : FuncId} {az : List V} {Kc Kx : V -> Hp -> Prop} (args : List V) (r : V) (H1 : List (Nat × List V)) (hf : Ct P g args r H1) (hb : All2 (Bor Hr) az args) (hi : idsLt 1048576 H1) (hc : All2 (Bor noH) az args \/ (AV (InH (lk H1)) litD r /\ flatL (InH (lk H1)) H1)) (hk : Kc (ren (b + ·) r) (addH H b H1)) : ACall P m Hr H b g az Kc Kx :=
 ACall.mk0 args r H1 hf hb hi (hc.imp id fun h => flatRes_of h.1 h.2) hk
theorem ACall.mkM {H : Hp} {b : Nat} {g : FuncId} {az : List V} {Kc Kx : V -> Hp -> Prop} (args : List V) (L : List (Nat × List V)) (ks : List Nat) (res : Res) (L1 : List (Nat × List V)) (hf : Cm P g args (lk L) ks res (lk L1)) (hin : HinOk H L) (hi : idsLt 1048576 L1) (hks : ksOk b L L1 ks) (hL : ∀ i, InH (lk L) i -> i < b)
   (hb : All2 (Bor noH) az args \/ (All2 (Bor (delL H L)) az args /\ AV (InH (lk L1)) litD res.v /\ flatL (InH (lk L1)) L1)) (hk : afterC res (sg ks b) (addM (delL H L) ks b L1) Kc Kx) : ACall P none H H b g az Kc Kx :=
 ACall.mkM0 args L ks res L1 hf hin hi hks hL (hb.imp id fun h => ⟨h.1, flatRes_of h.2.1 h.2.2⟩) hk
end
def retR (ρ : Nat -> Option Nat) (ks : List Nat) (r : V) (H : Hp) (H1 : List (Nat × List V)) : Option (List V) -> Prop
 | some vs => vs.all (fun v => !v.isTup) = true /\ WV ρ (pack vs) r /\ HpOk ρ H H1 /\ RhoInj ρ H1 /\ StabL ρ H (lk H1) ks
 | none => False
theorem retM_some {ρ : Nat -> Option Nat} {ks : List Nat} {r : V} {H1 : List (Nat × List V)} {vs : List V} : retR ρ ks r H H1 (some vs) = (vs.all (fun v => !v.isTup) = true /\ WV ρ (pack vs) r /\ HpOk ρ H H1 /\ RhoInj ρ H1 /\ StabL ρ H (lk H1) ks) := nrfl rfl
attribute [simp] rQ_eq rr_nil rr_guard rg_true rg_false rr_move rr_assign rr_pick rr_alloc rr_box rr_build rr_buildSlice rr_load rr_store rr_bin rr_un rr_conv rr_extract rr_fieldAddr rr_field rr_indexAddr rr_index rr_slice rr_bnd bndF_three rr_makeFunc rr_len rr_nilCheck rr_makeI rr_assert rr_max rr_min rr_append rr_clear rr_cap rr_zer capF_lit zerF_lit rr_mks mksF_lit rr_makeMap rr_mapUpdate rr_insert rr_lookup mapAt_eq mapAt_agg litL_nil litL_cons keyT_agg kindsV_nil kindsV_cons kindV_int kindV_bool keyEq_agg keyEqs_nil keyEqs_cons keyEq0_int keyEq0_bool mapsOf_C keyS_int keyS_str lookF_eq putM_eq dataV_d dataV_agg valM_eq dd_mapUpdate dd_lookup All2_mapC cellsOk_mapC acl_mapC rr_call
 goE_none goE_new goE_put goE_mov callR_fn callR_bnd callR_cl callR_yl aK_eq xQ_eq xK_eq frPut_some frPut_none
 de_nil de_dead de_live zQ_eq dd_nil dd_guard dg_true dg_false dd_move dd_assign dd_pick dd_alloc dd_box dd_build dd_buildSlice dd_load dd_bin dd_un dd_conv dd_extract dd_fieldAddr dd_field dd_indexAddr dd_index dd_slice dd_makeFunc dd_len dd_nilCheck dd_makeI dd_max dd_min dd_call goD_none goD_new goD_put goD_mov dd_append dd_store seen_nil seen_cons Hcl_at
 bsK_eq pw_reg pw_draw pw_seq pw_block pw_exit pw_ret pw_skip pw_cond cR_true cR_false cR_ub seqQ_normal seqQ_ret seqQ_exit blkQ_normal blkQ_ret blkQ_exit retQ_ret retQ_normal retQ_pan seqQ_pan blkQ_pan pw_rangeF exC_exit exC_ret exC_pan
 loadF_ref loadF_lp mkV_agg mkV_one storeF_lp cells_agg cells_d cells_lp cells_ls cells_cl isCell_d isCell_lp isCell_ls isCell_cl opdL_nil opdL_cons capL_nil capL_cons evF_tmp evF_const evF_func callee_fn callee_cl upd_at fieldF_ref fieldF_lp lenF_sl lenF_ls lenF_nil
 binF_int binF_bool binF_agg binI_add binI_sub binI_mul binI_quo binI_rem binI_eql binI_neq binI_lss binI_leq binI_gtr binI_geq binI_shl binI_shr binI_and binI_or binI_xor bits_u64 bits_i64 unF_not unF_neg pickF_bool pickF_true pickF_false gV_bool gV_undef extrF_tup boxF_eq allocF_eq cV_eq some_beq none_beq
 AV_lit A2_lit A1_lit AVl_ls A2l_ls A1l_ls AVl_agg A2l_agg AVl_tup ACl_lit ACl_ls ACl_lp flatL_nil flatL_cons InH_eq resV_ret resV_pan
 retM_some
 eqCell_int eqCell_bool eqCell_str eqCells_nil eqCells_cons indexV_str indexV_agg indexF_lp indexF_ref sliceF_lp sliceF_nil sliceF_str lenF_str binF_nil_ls binF_nil_sl binF_nil_e binF_nil_nil clearF_ls binF_str maxL_eq maxA_eq indexF_sl indexF_ls sliceF_sl sliceF_ls fieldV_agg convF_int convF_ls convF_str bytF_str strF_ls isU8_eq bytesV_nil bytesV_cons maxF_int minF_int maxR_nil minR_nil maxR_cons minR_cons nilF_lp nilF_ref ifcF_agg ifcF_d dataL_nil dataL_d outF_true outF_false assF_ifc binF_ifc_nil binF_nilI nilOp_c nilOp_t mkFuncF_eq cap_d cap_lp cap_ls loHi_eq hiOf_none hiOf_int loOf_none loOf_int
 argF_nil argF_cons slots_nil slots_cons lk_nil lk_cons All2_nil All2_cons W0_d W1_d W2_d WV_d W0_junk W1_junk W2_junk WV_junk W0_lp W1_lp W2_lp WV_lp W0_ls W1_ls W2_ls WV_ls W0_nils W1_nils W2_nils WV_nils W2_agg WV_agg WV_tup SlotsOk_nil SlotsOk_cons HpOk_nil HpOk_cons RhoInj_nil RhoInj_cons
 AV_d A2_d A1_d A0_d AV_lp A2_lp A1_lp A0_lp AV_ls A2_ls A1_ls A0_ls AV_agg A2_agg AV_tup AV_cl A2_cl A1_cl SlotsIds_nil SlotsIds_cons HpIds_nil HpIds_cons Closed_d Closed_agg InB_eq
 resL_nil resL_tmp resL_cell pack_one pack_two isTup_d isTup_lp isTup_ls isTup_agg isTup_cl WC_d WC_lp WC_ls WC_nils W1_cl WC_cl W2_cl WV_cl W0_yl W1_yl W2_yl WV_yl WC_lr StabL_nil StabL_cons StabW_nil StabW_cons AC_d AC_lp AC_ls AC_yl AC_cl AC_lr A0_yl A1_yl A2_yl AV_yl cellsOk_nil cellsOk_cons cells_yl isCell_yl ren_d ren_lp ren_ls ren_agg ren_tup ren2_d ren2_ls ren2_lp ren2_agg ren1_d ren1_ls ren1_lp addH_nil addH_cons idsLt_nil idsLt_cons Bor_d Bor1_d Bor_agg Bor_lp Bor_lplp Bor_lsls Bor_yl Bor_cl Bor_clfn Bor0_lp Bor0_d noH_at renC_d renC_ls renC_lp renC_cl ren0_d ren0_ls ren0_lp ren_cl sg_eq HinOk_nil HinOk_cons delL_nil delL_cons addM_nil addM_cons ksOk_nil ksOk_cons afterC_ret afterC_pan lkIn_nil lkIn_cons
 buildF_eq buildSliceF_eq fillV_nil fillV_cons fieldsOf_eq
 evC_int evC_bool evC_string evC_nils evC_nilp evC_nilF evC_nilI evC_nilm
section
variable {P : Program} {m : CM} {Hr H : Hp} {b : Nat} {g : FuncId} {az : List V} {Kc Kx : V -> Hp -> Prop} {args : List V} {r : V} {H1 : List (Nat × List V)}
theorem CLa (hf : Ct P g args r H1) (hk : Kc (ren (b + ·) r) (addH H b H1)) (hb : All2 (Bor Hr) az args := by first | (simp; done) | simp [Bor_ls, Bor1_ls]) (hi : idsLt 1048576 H1 := by simp) (hc : All2 (Bor noH) az args \/ (AV (InH (lk H1)) litD r /\ flatL (InH (lk H1)) H1) := by first | (left; simp; done) | (right; simp; done)) : ACall P m Hr H b g az Kc Kx :=
 ACall.mk args r H1 hf hb hi hc hk
theorem CLb (hf : Ct P g args r H1) (hb : All2 (Bor Hr) az args) (hk : Kc (ren (b + ·) r) (addH H b H1)) (hi : idsLt 1048576 H1 := by simp) (hc : All2 (Bor noH) az args \/ (AV (InH (lk H1)) litD r /\ flatL (InH (lk H1)) H1) := by first | (left; simp; done) | (right; simp; done)) : ACall P m Hr H b g az Kc Kx :=
 ACall.mk args r H1 hf hb hi hc hk
theorem CLr (hf : Ct P g args r H1) (hb : All2 (Bor Hr) az args /\ idsLt 1048576 H1) (hc : All2 (Bor noH) az args \/ (AV (InH (lk H1)) litD r /\ flatL (InH (lk H1)) H1)) (hk : Kc (ren (b + ·) r) (addH H b H1)) : ACall P m Hr H b g az Kc Kx :=
 ACall.mk args r H1 hf hb.1 hb.2 hc hk
end
section
variable {P : Program} {m : CM} {Hr H : Hp} {b : Nat} {g : FuncId} {az : List V} {Kc Kx : V → Hp → Prop} {args : List V} {r : V} {H1 : List (Nat × List V)} {E : Ent}
end
end Go.Psl
namespace Go.Psl
open Go.ChangeShapes Go.WideShapes Go.ChangeAt Go.RowKit
variable {P : Program} {H : Type} {enc : TypeId × Value -> H}
def rowedTs (P : Program) (ts : List TypeId) : Bool := ts.all fun t => P.readableRec t && decide (t < P.types.size)
theorem trodAll_stay (hl : laidOutB P = true) {W W' : World} (hb : Below W.heap.size W W') {sp : Nat -> Bool} : ∀ {ts : List TypeId} {vs : List Value} {ds : List (DataW H)} {ps : List MemPlace}, rowedTs P ts = true ->
   DataW.TrodAll enc P W 0 (fun _ => true) true ts vs ds ps -> (∀ p ∈ ps, p.block < W.heap.size) -> (∀ p ∈ ps, sp p.block = true) -> DataW.TrodAll enc P W' 0 sp true ts vs ds ps
 | [], [], [], ps, _, h, _, _ => h
 | t :: ts, v :: vs, d :: ds, ps, hr, h, h1, h2 => by
   obtain ⟨p, q, h3, h4, rfl⟩ := h
   simp only [rowedTs, List.all_cons, Bool.and_eq_true, decide_eq_true_eq] at hr
   exact ⟨p, q, WideElems.Trod_stays hl hr.1.1 hr.1.2 h3 (fun x hx => hb.same (h1 x (by simp [hx]))) (fun x hx => h2 x (by simp [hx])),
     trodAll_stay hl hb (by simpa [rowedTs] using hr.2) h4 (fun x hx => h1 x (by simp [hx])) (fun x hx => h2 x (by simp [hx])), rfl⟩
 | [], _ :: _, _, _, _, h, _, _ => h.elim
 | [], [], _ :: _, _, _, h, _, _ => h.elim
 | _ :: _, [], _, _, _, h, _, _ => h.elim
 | _ :: _, _ :: _, [], _, _, h, _, _ => h.elim
def LawOk (P : Program) (f : FuncId) (args : Array Value) (W : World) : Prop := Calls P f args W fun e W' => e = .returned (.bool true) /\ Below W.heap.size W W'
theorem LawOk.of_ct {f : FuncId} {az : List V} {xs : Array Value} {W : World} {G : Gh} (h : Ct P f az (.d (.lit (.bool true))) []) (hG : GW G.Im W) (ha : All2 (R2 G W) az xs.toList) : LawOk P f xs W := by
 refine Calls.mono (h.2 G W xs hG ha ⟨fun _ _ h => by simp at h, fun _ _ h => by simp [InH] at h, fun _ h => by simp at h⟩) fun e W' ⟨G', hp⟩ => ?_
 have hv := hp.rv
 have hb : Below W.heap.size W W' := ⟨hp.os, hp.tape, hp.output, hp.size, fun b hb => hp.block b hb fun ⟨_, h, _⟩ => by simp [InH] at h⟩
 cases e with
 | returned v =>
   have hv : v = .bool true := rv_lit hv
   subst hv
   exact ⟨rfl, hb⟩
 | _ => exact hv.elim
theorem law_post (hl : laidOutB P = true) {f : Func} {s : ChangeSpec} {apart fresh handsOn again : Bool} {W W' : World} {args : Array Value} {ds : List (DataW H)} {before : List MemPlace} {tb : TypeId}
   (hvars : s.vars = []) (hW : DataW.Whole enc P f.params.toList s.vars apart W args.toList ds [] before) (hr : rowedTs P f.params.toList = true) (hres : f.resultTypes = #[tb]) (htb : P.underlying tb = some .bool)
   (hfn : s.fn H (ds ++ []) = { results := [.lit (.bool true)], args := ds }) (hb : Below W.heap.size W W') : s.post enc P f apart fresh handsOn again W args (.bool true) W' := by
 have hlt := hW.lt
 have hW' := hW
 obtain ⟨p, q, hA, hV, rfl, hz, hn⟩ := hW'
 have hq : q = [] := by
   rw [hvars] at hV
   exact (trodVars_none hV).2
 subst hq
 rw [List.append_nil] at hlt hz hn hW
 have hargs : ∀ sp : Nat -> Bool, (∀ x ∈ p, sp x.block = true) -> DataW.TrodAll enc P W' 0 sp true f.params.toList args.toList (s.fn H (ds ++ [])).args p := fun sp hsp => by
   rw [hfn]
   exact trodAll_stay hl hb hr hA hlt hsp
 have hress : ∀ (b : Nat) (sp : Nat -> Bool) (hd : Bool), DataW.TrodAll enc P W' b sp hd f.resultTypes.toList ((Value.bool true).resultList f.resultTypes.size) (s.fn H (ds ++ [])).results [] := fun _ _ _ => by
   rw [hfn, hres]
   exact trodAll_mk1 (shut_bool htb true)
 have hvs : ∀ sp : Nat -> Bool, DataW.TrodVars enc P W' sp s.vars (s.fn H (ds ++ [])).vars [] := fun _ => by
   rw [hfn, hvars]; rfl
 have hold : ∀ x ∈ p, (fun b => decide (b < W.heap.size)) x.block = true := fun x hx => by simpa using hlt x hx
 refine ⟨ds, [], p, [], p, [], hW, hress _ _ _, hargs _ hold, hvs _, hb.frame _, fun _ => ?_⟩
 refine ⟨ok_one hres rfl (okWide_bool_mk htb true), DataW.lit (Lit.bool true) :: ds, (s.fn H (ds ++ [])).vars, p, ⟨p, [], ?_, hvs _, by simp, fun b off hp => ?_, fun ha => hn ha⟩, fun x hx _ => hx⟩
 . rw [hres]
   have := hargs (fun _ => true) (fun _ _ => rfl)
   rw [hfn] at this
   exact ⟨[], p, shut_bool htb true, this, rfl⟩
 . rw [hb.frozen (p := ⟨b, off, none⟩) (hlt _ hp)]
   exact hz b off hp
end Go.Psl
