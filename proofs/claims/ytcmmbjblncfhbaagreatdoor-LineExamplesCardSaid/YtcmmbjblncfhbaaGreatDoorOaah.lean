/- Own lemmas, used by the last text. Conditions: those that each theorem states. -/
import Derived.Test.YtcmmbjblncfhbaaGreatDoorOaae
import Derived.Test.YtcmmbjblncfhbaaGreatDoorOaag
set_option maxRecDepth 200000
set_option maxHeartbeats 8000000
namespace Go.Psl
inductive Bt (α : Type) where
 | nil
 | node (v : Option α) (l r : Bt α)
section
variable {α : Type}
def Bt.get : Bt α -> Nat -> Option α
 | .nil, _ => none
 | .node v l r, i => match i with
   | 0 => v
   | j + 1 => bif j % 2 == 0 then l.get (j / 2) else r.get (j / 2)
def Bt.putN : Nat -> Bt α -> Nat -> α -> Bt α
 | 0, t, _, _ => t
 | n + 1, .nil, i, x => match i with
   | 0 => .node (some x) .nil .nil
   | j + 1 => bif j % 2 == 0 then .node none (putN n .nil (j / 2) x) .nil else .node none .nil (putN n .nil (j / 2) x)
 | n + 1, .node v l r, i, x => match i with
   | 0 => .node (some x) l r
   | j + 1 => bif j % 2 == 0 then .node v (putN n l (j / 2) x) r else .node v l (putN n r (j / 2) x)
def Bt.put (t : Bt α) (i : Nat) (x : α) : Bt α := putN (i + 1) t i x
def Bt.of : List (Nat × α) -> Bt α
 | [] => .nil
 | p :: r => (Bt.of r).put p.1 p.2
end
abbrev Tr := List (Nat × V)
noncomputable def Tr.fn (t : Tr) (i : Nat) : V := List.rec (motive := fun _ => V) (.tup []) (fun p _ ih => Bool.rec (motive := fun _ => V) ih p.2 (Nat.beq i p.1)) t
def Tr.put (t : Tr) (i : Nat) (x : V) : Tr := (i, x) :: t
noncomputable def Tr.putO (t : Tr) (d : Option Nat) (v : V) : Tr := Option.rec (motive := fun _ => Tr) t (fun i => (i, v) :: t) d
def Tr.vals (t : Tr) : List V := t.map (·.2)
def Tr.puts (t : Tr) : List Nat -> List V -> Tr
 | p :: ps, v :: vs => Tr.puts ((p, v) :: t) ps vs
 | _, _ => t
def Tr.args : Nat -> List V -> Tr
 | _, [] => []
 | k, a :: r => (k, a) :: Tr.args (k + 1) r
def Tr.map (g : V -> V) (t : Tr) : Tr := List.map (fun p => (p.1, g p.2)) t
inductive EC where
 | cs (l : List V)
 | mp (es : List (Value × Bool × List D))
 | st (s : LSt)
structure Rc where
 F : Tr
 nt : Nat
 ps : List Nat
 pa : PC
 pb : PC
 me : Nat
abbrev EH := List (Nat × EC)
abbrev RS := List (Nat × Rc)
noncomputable def EC.toC (rs : RS) (id : Nat) : EC -> List V
 | .cs l => l
 | .mp es => mapC es
 | .st s => match lk rs id with | some r => [.lr r.F.fn r.nt r.ps r.pa r.pb s] | none => []
noncomputable def fnd {α : Type} (h : List (Nat × α)) (i : Nat) : Option α := List.rec (motive := fun _ => Option α) none (fun p _ ih => Bool.rec (motive := fun _ => Option α) ih (some p.2) (Nat.beq i p.1)) h
noncomputable def EH.hp (rs : RS) (h : EH) : Hp := fun id => (fnd h id).map (EC.toC rs id)
noncomputable def EH.toL (rs : RS) (h : EH) : List (Nat × List V) := h.map fun p => (p.1, p.2.toC rs p.1)
structure ES where
 f : Tr
 h : EH
 n : Nat
noncomputable def ES.abs (rs : RS) (s : ES) : St := ⟨s.f.fn, s.h.hp rs, s.n⟩
def hset {α : Type} : List (Nat × α) -> Nat -> α -> List (Nat × α)
 | [], i, x => [(i, x)]
 | p :: r, i, x => if i = p.1 then (i, x) :: r else p :: hset r i x
def hdel {α : Type} : List (Nat × α) -> Nat -> List (Nat × α)
 | [], _ => []
 | p :: r, i => if i = p.1 then hdel r i else p :: hdel r i
inductive EE where
 | none
 | new (id : Nat) (c : EC)
 | put (id : Nat) (c : EC)
 | mov (old id : Nat) (c : EC)
def EE.app (h : EH) : EE -> EH
 | .none => h
 | .new id c => (id, c) :: h
 | .put id c => hset h id c
 | .mov old id c => (id, c) :: hdel h old
def ofEff : Eff -> EE
 | .none => .none
 | .new id cs => .new id (.cs cs)
 | .put id cs => .put id (.cs cs)
 | .mov old id cs => .mov old id (.cs cs)
def putE (Γ : Tys) (eqs : Eqs) (H : Hp) (t : TypeId) (m k x : V) : Option (Nat × List (Value × Bool × List D)) := (mapAt Γ eqs H t m k).bind fun p => (dataV x).map fun d => (p.1, match p.2.2.2.1 with
 | some i => p.2.1.set i (p.2.2.1, d)
 | none => p.2.1 ++ [(p.2.2.1, d)])
def ivL (w : Value) : Option (IntKind × Int) := match w with
 | .int k n => some (k, n)
 | _ => none
def ivD (x : D) : Option (IntKind × Int) := match x with
 | .lit w => ivL w
 | _ => none
def ivX (v : V) : Option (IntKind × Int) := match v with
 | .d x => ivD x
 | _ => none
def oRes (p : Option (V × Eff)) : Option (V × EE) := p.map fun p => (p.1, ofEff p.2)
def oMove (f : Nat -> V) (x : Operand) : Option (V × EE) := some (evF f x, .none)
def wr64 : Int -> Int
 | .ofNat m => bif Nat.blt m 9223372036854775808 then .ofNat m else IntKind.i64.wrap (.ofNat m)
 | .negSucc m => bif Nat.blt m 9223372036854775808 then .negSucc m else IntKind.i64.wrap (.negSucc m)
def ltI : Int -> Int -> Bool
 | .ofNat m, .ofNat n => Nat.blt m n
 | .ofNat _, .negSucc _ => false
 | .negSucc _, .ofNat _ => true
 | .negSucc m, .negSucc n => Nat.blt n m
def eqI : Int -> Int -> Bool
 | .ofNat m, .ofNat n => Nat.beq m n
 | .negSucc m, .negSucc n => Nat.beq m n
 | _, _ => false
def oInt (n : Int) : Option (V × EE) := some (.d (.lit (.int .i64 n)), .none)
def oBool (b : Bool) : Option (V × EE) := some (.d (.lit (.bool b)), .none)
def oSlow (o : BinOp) (k k' : IntKind) (a b : Int) : Option (V × EE) := (binI o k k' a b).map fun v => (cV v, .none)
def o64 (o : BinOp) (a b : Int) : Option (V × EE) := match o with
 | .add => oInt (wr64 (Int.add a b))
 | .sub => oInt (wr64 (Int.sub a b))
 | .mul => oInt (wr64 (Int.mul a b))
 | .eql => oBool (eqI a b)
 | .neq => oBool (!eqI a b)
 | .lss => oBool (ltI a b)
 | .gtr => oBool (ltI b a)
 | .leq => oBool (!ltI b a)
 | .geq => oBool (!ltI a b)
 | o => oSlow o .i64 .i64 a b
def is64 : IntKind -> Bool
 | .i64 => true
 | _ => false
def oBinI (o : BinOp) (p q : IntKind × Int) : Option (V × EE) := bif is64 p.1 then (bif is64 q.1 then o64 o p.2 q.2 else oSlow o p.1 q.1 p.2 q.2) else oSlow o p.1 q.1 p.2 q.2
def oBinV (Γ : Tys) (eqs : Eqs) (o : BinOp) (t : TypeId) (c : Bool) (x y : V) : Option (V × EE) := match ivX x with
 | some p => (match ivX y with
   | some q => oBinI o p q
   | none => oRes (binF Γ eqs o t c x y))
 | none => oRes (binF Γ eqs o t c x y)
def oBin (Γ : Tys) (eqs : Eqs) (f : Nat -> V) (o : BinOp) (t : TypeId) (x y : Operand) : Option (V × EE) := oBinV Γ eqs o t (nilOp y) (evF f x) (evF f y)
def oPut (q : Option (Nat × List (Value × Bool × List D))) : Option (V × EE) := q.map fun q => (.junk, .put q.1 (.mp q.2))
def oRest (Γ : Tys) (eqs : Eqs) (H : Hp) (b : Nat) (f : Nat -> V) (op : Op) : Option (V × EE) := oRes (evalOp Γ eqs H b f op)
def opE (Γ : Tys) (eqs : Eqs) (H : Hp) (b : Nat) (f : Nat -> V) (op : Op) : Option (V × EE) := match op with
 | .move x => oMove f x
 | .assign x => oMove f x
 | .binOp o t x y _ => oBin Γ eqs f o t x y
 | .makeMap _ none => some (.yl b, .new b (.mp []))
 | .mapUpdate t m k x => oPut (putE Γ eqs H t (evF f m) (evF f k) (evF f x))
 | .insert t m k x => oPut (putE Γ eqs H t (evF f m) (evF f k) (evF f x))
 | op => oRest Γ eqs H b f op
def nm0 : V -> List Nat
 | .lp id _ => [id]
 | .ls id _ _ _ => [id]
 | .yl id => [id]
 | _ => []
def nm1 : V -> List Nat
 | .cl _ caps => caps.flatMap nm0
 | v => nm0 v
def nm2 : V -> List Nat
 | .agg cs => cs.flatMap nm1
 | v => nm1 v
def nmV : V -> List Nat
 | .tup vs => vs.flatMap nm2
 | v => nm2 v
def ok0 (p : Nat -> Bool) : V -> Bool
 | .junk => true
 | .d _ => true
 | .lp id _ => p id
 | .ls id _ _ _ => p id
 | .yl id => p id
 | _ => false
def ok1 (p : Nat -> Bool) : V -> Bool
 | .cl _ caps => caps.all (ok0 p)
 | v => ok0 p v
def ok2 (p : Nat -> Bool) : V -> Bool
 | .agg cs => cs.all (ok1 p)
 | v => ok1 p v
def okV (p : Nat -> Bool) : V -> Bool
 | .tup vs => vs.all (ok2 p)
 | v => ok2 p v
def okE (p : Nat -> Bool) (rs : RS) (id : Nat) : EC -> Bool
 | .cs l => l.all fun c => V.isCell c && ok1 p c
 | .mp _ => true
 | .st _ => match lk rs id with | some r => r.F.vals.all (okV p) | none => true
def nmE (rs : RS) (id : Nat) : EC -> List Nat
 | .cs l => l.flatMap nm1
 | .mp _ => []
 | .st _ => match lk rs id with | some r => r.F.vals.flatMap nmV | none => []
def bor0 : V -> Bool
 | .d _ | .lp _ _ | .ls _ _ _ _ | .yl _ => true
 | _ => false
def bor1 : V -> Bool
 | .cl _ _ => true
 | v => bor0 v
def borB : V -> Bool
 | .agg cs => cs.all bor1
 | v => bor1 v
def ECe (rs : RS) (id : Nat) : EC -> Bool
 | .cs l => l.isEmpty
 | .mp _ => false
 | .st _ => (lk rs id).isNone
def reach (rs : RS) (emp : Bool) (h : EH) : Nat -> List Nat -> EH -> EH
 | 0, _, acc => acc
 | _, [], acc => acc
 | n + 1, i :: r, acc => match lk acc i with
   | some _ => reach rs emp h n r acc
   | none => match lk h i with
     | none => reach rs emp h n r acc
     | some c => if emp || !ECe rs i c then reach rs emp h n (nmE rs i c ++ r) ((i, c) :: acc) else reach rs emp h n r acc
def lo : Nat := 1048576
def eqL {α : Type} (f : α -> α -> Bool) : List α -> List α -> Bool
 | [], [] => true
 | a :: az, b :: bs => f a b && eqL f az bs
 | _, _ => false
def eqD : Nat -> D -> D -> Bool
 | 0, _, _ => false
 | n + 1, a, b => match a, b with
   | .lit a, .lit b => eqFl a b
   | .sl s es, .sl t fs => s == t && eqL (eqL (eqD n)) es fs
   | .ref es, .ref fs => eqL (eqD n) es fs
   | .fn f es, .fn g fs => f == g && eqL (eqD n) es fs
   | .ifc t a es, .ifc u b fs => t == u && a == b && eqL (eqD n) es fs
   | _, _ => false
def eq0 : V -> V -> Bool
 | .d a, .d b => eqD 20 a b
 | .lp i o, .lp j p => i == j && o == p
 | .ls i o l s, .ls j p m t => i == j && o == p && l == m && s == t
 | .yl i, .yl j => i == j
 | _, _ => false
def eqC : EC -> EC -> Bool
 | .cs a, .cs b => eqL eq0 a b
 | _, _ => false
def eq1 : V -> V -> Bool
 | .agg az, .agg bs => eqL eq0 az bs
 | a, b => eq0 a b
def eq2 : V -> V -> Bool
 | .tup az, .tup bs => eqL eq1 az bs
 | a, b => eq1 a b
def eqR : Res -> Res -> Bool
 | .ret a, .ret b => eq2 a b
 | .pan a, .pan b => eq2 a b
 | _, _ => false
def endsB (r : Option (Res × EH)) (x : Res) : Bool := match r with
 | some (y, []) => eqR y x
 | _ => false
def memL : List (List V × Res) -> List V -> Option (Res × EH)
 | [], _ => none
 | p :: r, az => bif eqL eq1 az p.1 then some (p.2, []) else memL r az
def idxOf : List Nat -> Nat -> Nat -> Option Nat
 | [], _, _ => none
 | j :: r, i, k => if i = j then some k else idxOf r i (k + 1)
def renE (ρ : Nat -> Nat) : EC -> EC
 | .cs l => .cs (l.map (ren1 ρ))
 | c => c
def afterH (h : EH) (b : Nat) (L : EH) (ks : List Nat) (H1 : EH) : EH :=
 (H1.map fun p => (sg ks b p.1, renE (sg ks b) p.2)) ++ h.filter fun p => (lk L p.1).isNone
def chunk {α : Type} (sz : Nat) : Nat -> List α -> List (List α)
 | 0, _ => []
 | n + 1, l => l.take sz :: chunk sz n (l.drop sz)
abbrev FZ := List (Nat × List D)
def cv0 (fz : FZ) (dead : Nat -> Bool) : V -> V
 | .ls id off len sz => match lk fz id with
   | some ds => if off + len * sz <= ds.length then .d (.sl sz (chunk sz len (ds.drop off))) else .junk
   | none => if dead id then (if len = 0 then .d (.sl sz []) else .junk) else .ls id off len sz
 | .lp id off => match lk fz id with
   | some ds => .d (.ref (ds.drop off))
   | none => if dead id then .junk else .lp id off
 | v => v
def clD (f : FuncId) (cs : List V) : V := match dataL cs with
 | some ds => .d (.fn f ds)
 | none => .cl f cs
def cv1 (fz : FZ) (dead : Nat -> Bool) : V -> V
 | .cl f caps => clD f (caps.map (cv0 fz dead))
 | v => cv0 fz dead v
def cv2 (fz : FZ) (dead : Nat -> Bool) : V -> V
 | .agg cs => .agg (cs.map (cv1 fz dead))
 | v => cv1 fz dead v
def cvV (fz : FZ) (dead : Nat -> Bool) : V -> V
 | .tup vs => .tup (vs.map (cv2 fz dead))
 | v => cv2 fz dead v
def noDead : Nat -> Bool := fun _ => false
def cvE (fz : FZ) : EC -> EC
 | .cs l => .cs (l.map (cv1 fz noDead))
 | c => c
def isDc : V -> Bool
 | .d _ => true
 | _ => false
def selD (ok : Nat -> Bool) (emp : Bool) (h : EH) : List Nat := (h.filter fun p => ok p.1 && match p.2 with
 | .cs l => (!emp || l.isEmpty) && l.all isDc
 | _ => false).map (·.1)
def fzOf (h : EH) : List Nat -> FZ
 | [] => []
 | i :: r => match lk h i with
   | some (.cs l) => (match dataL l with | some ds => (i, ds) :: fzOf h r | none => fzOf h r)
   | _ => fzOf h r
def isCs : EC -> Bool
 | .cs l => l.all V.isCell
 | _ => true
def clean (ks ids : List Nat) (dead : Bool) (s : ES) : Option ES :=
 let fz := fzOf s.h ids
 let h := (s.h.filter fun p => (lk fz p.1).isNone).map fun p => (p.1, cvE fz p.2)
 if ids.all (fun i => !ks.contains i) && h.all (fun p => isCs p.2) then some ⟨Tr.map (cvV fz fun i => dead && (lk s.h i).isNone) s.f, h, s.n⟩ else none
def fzAll (ks : List Nat) (ex : EH) : Nat -> ES -> Option ES
 | 0, s => some s
 | n + 1, s => match selD (fun i => !ks.contains i && (lk ex i).isNone) false s.h with
   | [] => clean ks [] true s
   | ids => (clean ks ids false s).bind (fzAll ks ex n)
def stK (rs : RS) (ks : List Nat) (pr : Nat -> Bool) (id : Nat) : EC -> Bool
 | .st _ => ks.contains id && match lk rs id with | some r => r.F.vals.all (okV pr) | none => false
 | _ => true
def sgN (ks frs : List Nat) (i : Nat) : Nat := if ks.contains i then i else (idxOf frs i 0).getD i
def endN (rs : RS) (ks : List Nat) (res : Res) (h : EH) : Option (Res × EH) :=
 let all := reach rs true h 100000 (ks ++ nmV res.v) []
 let frs := (all.filter fun p => !ks.contains p.1).map (·.1)
 let p : Nat -> Bool := fun i => (lk all i).isSome
 if Nat.ble frs.length lo && ks.all (Nat.ble lo) && okV p res.v && all.all (fun q => okE p rs q.1 q.2 && stK rs ks (fun i => ks.contains i && p i) q.1 q.2) then some (renR (sgN ks frs) res, all.map fun q => (sgN ks frs q.1, renE (sgN ks frs) q.2)) else none
structure FI where
 pc : PC
 nt : Nat
 res : List ResultVar
 keep : Nat -> Bool
 give : Bool
 kind : Nat
 t3 : Nat
 t2 : Nat
inductive RdM where
 | plain
 | round (k : Nat)
 | nomark
 | panf
structure Cx where
 m : RdM
 nt : Nat
 ks : List Nat
 rs : RS
 me : Nat
structure Cfg where
 Γ : Tys
 eqs : Eqs
 tab : Nat -> Option FI
 orc : RS -> Nat -> List V -> EH -> List Nat -> Option (Res × EH)
 mem : Nat -> List V -> Option (Res × EH)
abbrev Ev := Cx -> PC -> ES -> Option (AExit × ES)
def ksOf (rs : RS) (L : EH) : List Nat := (L.filter fun p => !ECe rs p.1 p.2).map (·.1)
def hand (rs : RS) (emp : Bool) (h : EH) (is : List Nat) : EH :=
 let r := reach rs false h 100000 is []
 if emp then reach rs true h 100000 (r.flatMap fun p => nmE rs p.1 p.2) r else r
def callOk (rs : RS) (b : Nat) (az : List V) (L : EH) : Bool :=
 let p : Nat -> Bool := fun i => Nat.ble lo i && Nat.blt i b
 az.all (fun v => borB v && ok2 p v) && L.all fun q => p q.1 && okE p rs q.1 q.2
def goodH (rs : RS) (ks : List Nat) (H1 : EH) : Bool := H1.all fun p => (ks.contains p.1 || Nat.blt p.1 lo) && (isCs p.2 && stK rs ks ks.contains p.1 p.2)
noncomputable def resE (C : Cfg) (rs : RS) (fi : FI) (s : ES) : Option Res :=
 (resL C.Γ (s.h.hp rs) s.f.fn fi.res).bind fun vs => if vs.all (fun v => !v.isTup) then some (.ret (pack vs)) else none
def isDef : PC -> Option (Nat × FuncId × List Operand)
 | .reg [⟨some t, .makeFunc (.func g) first caps, none⟩, ⟨none, .defer cl, none⟩] => if first.isEmpty && cl.args.isEmpty then (match cl.callee with
   | .value (.tmp t') => if t' = t then some (t, g, caps.toList) else none
   | _ => none) else none
 | _ => none
def boxes : List V -> Option (List (Nat × Nat))
 | [] => some []
 | .lp i o :: r => (boxes r).map ((i, o) :: ·)
 | _ :: _ => none
noncomputable def closE (C : Cfg) (ev : Ev) (rs : RS) (g : FuncId) (bx : List V) (m : Option V) (s : ES) : Option ES :=
 match C.tab g with
 | some fi => if fi.kind = 2 then
     let L := hand rs true s.h (bx.flatMap nmV)
     let ks := ksOf rs L
     let rv := recV m
     if callOk rs s.n bx L && okV (fun _ => false) rv && Nat.ble bx.length fi.nt && bx.all (fun v => match v with | .lp i _ => (lk s.h i).isSome | _ => false) then
       match ev ⟨.nomark, fi.nt, ks, rs, g⟩ fi.pc ⟨((Tr.args 0 bx).put fi.t3 rv).put fi.t2 rv, L, s.n⟩ with
       | some (.ret, s') | some (.normal, s') => (endN rs ks (.ret (.tup [])) s'.h).bind fun r => if goodH rs ks r.2 then some ⟨s.f, afterH s.h s.n L ks r.2, s.n⟩ else none
       | _ => none
     else none
   else none
 | none => none
noncomputable def leave0 (C : Cfg) (rs : RS) (fi : FI) (s : ES) : Option (Res × EH) := match s.h with
 | [] => (match resE C rs fi s with
   | some (.ret v) => bif okV (fun _ => false) v then some (.ret v, []) else none
   | _ => none)
 | _ => none
noncomputable def leaveE (C : Cfg) (me : Nat) (rs : RS) (fi : FI) (ks : List Nat) (s : ES) : Option (Res × EH) :=
 match leave0 C rs fi s with
 | some r => some r
 | none => (if fi.keep me then some s else fzAll ks (reach rs true s.h 100000 ks []) 12 s).bind fun s1 => (resE C rs fi s1).bind fun r => endN rs ks r s1.h
def bodyM (g : Nat) : RdM := bif Nat.beq g panF then .panf else .plain
noncomputable def evD (C : Cfg) (ev : Ev) (me g0 : Nat) (rs : RS) (fi : FI) : PC -> ES -> Option (Res × EH)
 | .seq a b, s => match isDef a with
   | some (t, g, caps) =>
     let bx := capL s.f.fn caps
     match boxes bx with
     | some ids => match ev ⟨bodyM g0, fi.nt, ids.map (·.1), rs, g0⟩ b ⟨s.f.put t (.cl g bx), s.h, s.n + 2097152⟩ with
       | some (.ret, s') | some (.normal, s') => (fzAll (ids.map (·.1)) [] 12 s').bind fun s1 => (closE C ev rs g bx none s1).bind fun s2 => (resE C rs fi s2).bind fun r => endN rs [] r s2.h
       | some (.pan (.d x), s') => (closE C ev rs g bx (some (.d x)) s').bind fun s2 => (resE C rs fi s2).bind fun r => endN rs [] r s2.h
       | _ => none
     | none => none
   | none => match ev ⟨.nomark, fi.nt, [], rs, g0⟩ a s with
     | some (.normal, s') => evD C ev me g0 rs fi b s'
     | some (.ret, s') => leaveE C me rs fi [] s'
     | _ => none
 | _, _ => none
def frzA (L : EH) (az : List V) : List V := az.map (cv2 (fzOf L (L.map (·.1))) noDead)
noncomputable def rnD (C : Cfg) (ev : Ev) (me : Nat) (rs : RS) (g : FuncId) (az : List V) (ks : List Nat) (fi : FI) : Option (Res × EH) := if ks.isEmpty && az.all (ok2 fun _ => false) then evD C ev me g rs fi fi.pc ⟨Tr.args 0 az, [], lo⟩ else none
noncomputable def memE (C : Cfg) (g : FuncId) (az : List V) (L : EH) (ks : List Nat) : Option (Res × EH) := match L with
 | [] => (match ks with
   | [] => C.mem g az
   | _ => none)
 | _ => none
noncomputable def rnM (C : Cfg) (ev : Ev) (me : Nat) (rs : RS) (g : FuncId) (az : List V) (ks : List Nat) (fi : FI) : Option (Res × EH) := match memE C g az [] ks with
 | some r => (match r with | (.ret v, H) => some (.ret v, H) | _ => none)
 | none => rnD C ev me rs g az ks fi
noncomputable def runT (C : Cfg) (ev : Ev) (me : Nat) (rs : RS) (g : FuncId) (az : List V) (L : EH) (ks : List Nat) (N : Nat) (fi : FI) : Option (Res × EH) :=
 if Nat.ble az.length fi.nt then (if fi.kind = 0 then
     (match ev ⟨.plain, fi.nt, ks, rs, g⟩ fi.pc ⟨Tr.args 0 az, L, N⟩ with
     | some (.ret, s) | some (.normal, s) => leaveE C me rs fi ks s
     | some (.pan v, s) => endN rs ks (.pan v) s.h
     | _ => none)
   else if fi.kind = 1 then rnM C ev me rs g (frzA L az) ks fi else none) else none
noncomputable def runE (C : Cfg) (ev : Ev) (me : Nat) (rs : RS) (g : FuncId) (az : List V) (L : EH) (ks : List Nat) (N : Nat) : Option (Res × EH) :=
 match memE C g az L ks with
 | some r => some r
 | none => (match C.tab g with
   | none => C.orc rs g az L ks
   | some fi => runT C ev me rs g az L ks N fi)
def giveE (C : Cfg) (g : FuncId) : Bool := match C.tab g with | some fi => fi.give | none => false
structure CR where
 res : Res
 H1 : EH
 L : EH
 ks : List Nat
def CR.h (r : CR) (h : EH) (b : Nat) : EH := afterH h b r.L r.ks r.H1
def clnV : V -> Bool
 | .d _ => true
 | .agg cs => cs.all isDc
 | _ => false
noncomputable def callQ (rs : RS) (L : EH) (ks : List Nat) (r : Option (Res × EH)) : Option CR := match r with
 | some r => if goodH rs ks r.2 then some ⟨r.1, r.2, L, ks⟩ else none
 | none => none
noncomputable def callG (C : Cfg) (ev : Ev) (me : Nat) (rs : RS) (b : Nat) (g : FuncId) (az : List V) (L : EH) (ks : List Nat) : Option CR := if callOk rs b az L then callQ rs L ks (runE C ev me rs g az L ks b) else none
noncomputable def callH (C : Cfg) (ev : Ev) (me : Nat) (rs : RS) (b : Nat) (g : FuncId) (az : List V) (L : EH) : Option CR := callG C ev me rs b g az L (if giveE C g then [] else ksOf rs L)
noncomputable def callE (C : Cfg) (ev : Ev) (me : Nat) (rs : RS) (emp : Bool) (hv : EH) (b : Nat) (g : FuncId) (az : List V) : Option CR :=
 bif az.all clnV then callQ rs [] [] (runE C ev me rs g az [] [] b) else callH C ev me rs b g az (hand rs emp hv (az.flatMap nmV))
noncomputable def yieldE (ev : Ev) (rs : RS) (h : EH) (b k : Nat) (az : List V) : Option CR :=
 match lk rs k, lk h k with
 | some r, some (.st .ready) =>
   let L := hand rs true h (k :: az.flatMap nmV)
   let ks := ksOf rs L
   if callOk rs b az L && (r.ps.length == az.length) && r.ps.all (fun p => Nat.blt p r.nt) && (lk L k).isSome && ks.contains k then
     match ev ⟨.round k, r.nt, ks, rs, r.me⟩ r.pa ⟨r.F.puts r.ps az, L, b⟩ with
     | some (.normal, s1) => match lk s1.h k with
       | some (.st .ready) => match ev ⟨.round k, r.nt, ks, rs, r.me⟩ r.pb ⟨s1.f, hset s1.h k (.st .busy), s1.n⟩ with
         | some (.pan v, s2) => if r.nt == panN && Nat.blt r.nt 1000000 then (endN rs ks (.pan v) s2.h).bind fun q => if goodH rs ks q.2 then some ⟨q.1, q.2, L, ks⟩ else none else none
         | some (e, s2) =>
           let s : Option LSt := match e with | .normal => some .ready | .ret => some (.done .ret) | .exit i => some (.done (.exit i)) | _ => none
           match s, lk s2.h k with
           | some s, some (.st .busy) => (endN rs ks (.ret (.d (.lit (.bool (goesOn s))))) (hset s2.h k (.st s))).bind fun q => if goodH rs ks q.2 then some ⟨q.1, q.2, L, ks⟩ else none
           | _, _ => none
         | none => none
       | _ => none
     | _ => none
   else none
 | _, _ => none
noncomputable def calE (C : Cfg) (ev : Ev) (me : Nat) (rs : RS) (emp : Bool) (hv : EH) (b : Nat) (cv : V) (az : List V) : Option CR := match cv with
 | .d (.fn g caps) => callE C ev me rs emp hv b g (az ++ caps.map .d)
 | .cl g caps => callE C ev me rs emp hv b g (az ++ caps)
 | .yl k => if emp then yieldE ev rs hv b k az else none
 | .d (.lit (.func (.func g) b' c')) => match c'.toList, b'.toList with
   | [], [.agg vs] => callE C ev me rs emp hv b g (.agg (vs.toList.map cV) :: az)
   | _, _ => none
 | _ => none
abbrev RR := Option (AExit × ES)
abbrev KR := Tr -> EH -> Nat -> RR
noncomputable def rPut (o : PO) (r : KR) (f : Tr) (h : EH) (b : Nat) (v : V) : RR := r (Tr.putO f o.dst v) h (Nat.add b 1048576)
noncomputable def rRes (o : PO) (r : KR) (f : Tr) (h : EH) (b : Nat) (q : CR) : RR := match q.res with
 | .ret v => rPut o r f (q.h h b) b (ren (sg q.ks b) v)
 | .pan v => some (.pan (ren (sg q.ks b) v), ⟨f, q.h h b, Nat.add b 1048576⟩)
noncomputable def rCal (C : Cfg) (ev : Ev) (me : Nat) (rs : RS) (o : PO) (r : KR) (f : Tr) (h : EH) (b : Nat) (fo : Operand) (c : Call) : RR := match calE C ev me rs true h b (evF f.fn fo) (capL f.fn c.args.toList) with
 | some q => rRes o r f h b q
 | none => none
noncomputable def rCall (C : Cfg) (ev : Ev) (me : Nat) (rs : RS) (o : PO) (r : KR) (f : Tr) (h : EH) (b : Nat) (c : Call) : RR := match c.callee with
 | .value fo => rCal C ev me rs o r f h b fo c
 | _ => none
noncomputable def rPan (f : Tr) (h : EH) (b : Nat) (x : Operand) : RR := match evF f.fn x with
 | .d (.ifc t ag cs) => some (.pan (.d (.ifc t ag cs)), ⟨f, h, Nat.add b 1048576⟩)
 | _ => none
noncomputable def rOth (C : Cfg) (ev : Ev) (me : Nat) (rs : RS) (o : PO) (r : KR) (f : Tr) (h : EH) (b : Nat) : RR := match o.op with
 | .call c => rCall C ev me rs o r f h b c
 | .panic x => rPan f h b x
 | _ => none
noncomputable def rOp (C : Cfg) (ev : Ev) (me : Nat) (rs : RS) (o : PO) (r : KR) (f : Tr) (h : EH) (b : Nat) (x : Option (V × EE)) : RR := match x with
 | some (v, e) => rPut o r f (e.app h) b v
 | none => rOth C ev me rs o r f h b
noncomputable def rStep (C : Cfg) (ev : Ev) (me : Nat) (rs : RS) (o : PO) (r : KR) (f : Tr) (h : EH) (b : Nat) : RR := match gV2 f.fn o.g with
 | some true => rOp C ev me rs o r f h b (opE C.Γ C.eqs (h.hp rs) b f.fn o.op)
 | some false => rPut o r f h b (.tup [])
 | none => none
noncomputable def regE (C : Cfg) (ev : Ev) (me : Nat) (rs : RS) (l : List PO) : KR := List.rec (motive := fun _ => KR) (fun f h b => some (.normal, ⟨f, h, b⟩)) (fun o _ r f h b => rStep C ev me rs o r f h b) l
def visE (ws : List (Nat × Nat)) (cl : List Nat) (all : Bool) (k n0 : Nat) (h : EH) : EH := if all then h else h.filter fun p => (Nat.blt p.1 n0 || inC cl k ((p.1 - n0) / 1048576)) && seen ws cl k p.1
def wrE (b k : Nat) : EE -> Option (List (Nat × Nat))
 | .none => some []
 | .new i _ => if i = b then some [] else none
 | .put i _ => some [(k, i)]
 | .mov i j _ => if j = b then some [(k, i)] else none
def inW (ws w : List (Nat × Nat)) : Bool := w.all fun p => ws.any fun q => q.1 == p.1 && q.2 == p.2
def chgE (q : CR) (b : Nat) : List Nat := (q.L.filter fun p => !q.ks.contains p.1).map (·.1) ++ q.ks.filter fun i => match lk q.L i, lk q.H1 i with
 | some c, some c' => !eqC c (renE (sg q.ks b) c')
 | _, _ => true
abbrev RD2 := Option (List (Nat × Nat) × ES)
abbrev KD := Nat -> Tr -> EH -> Nat -> RD2
noncomputable def dPut (o : PO) (r : KD) (k : Nat) (f : Tr) (h : EH) (b : Nat) (v : V) (w : List (Nat × Nat)) : RD2 := (r (Nat.succ k) (Tr.putO f o.dst v) h (Nat.add b 1048576)).map fun x => (w ++ x.1, x.2)
noncomputable def dW (all : Bool) (ws w : List (Nat × Nat)) (x : RD2) : RD2 := if all || inW ws w then x else none
noncomputable def dRes (ws : List (Nat × Nat)) (all : Bool) (o : PO) (r : KD) (k : Nat) (f : Tr) (h : EH) (b : Nat) (q : CR) : RD2 := match q.res with
 | .ret v => dW all ws ((chgE q b).map fun i => (k, i)) (dPut o r k f (q.h h b) b (ren (sg q.ks b) v) ((chgE q b).map fun i => (k, i)))
 | .pan _ => none
noncomputable def dCal (C : Cfg) (ev : Ev) (me : Nat) (rs : RS) (ws : List (Nat × Nat)) (all : Bool) (o : PO) (r : KD) (k : Nat) (f : Tr) (hv h : EH) (b : Nat) (fo : Operand) (c : Call) : RD2 := match calE C ev me rs false hv b (evF f.fn fo) (capL f.fn c.args.toList) with
 | some q => dRes ws all o r k f h b q
 | none => none
noncomputable def dCall (C : Cfg) (ev : Ev) (me : Nat) (rs : RS) (ws : List (Nat × Nat)) (all : Bool) (o : PO) (r : KD) (k : Nat) (f : Tr) (hv h : EH) (b : Nat) (c : Call) : RD2 := match c.callee with
 | .value fo => dCal C ev me rs ws all o r k f hv h b fo c
 | _ => none
noncomputable def dOth (C : Cfg) (ev : Ev) (me : Nat) (rs : RS) (ws : List (Nat × Nat)) (all : Bool) (o : PO) (r : KD) (k : Nat) (f : Tr) (hv h : EH) (b : Nat) : RD2 := match o.op with
 | .call c => dCall C ev me rs ws all o r k f hv h b c
 | _ => none
noncomputable def dEff (ws : List (Nat × Nat)) (all : Bool) (o : PO) (r : KD) (k : Nat) (f : Tr) (h : EH) (b : Nat) (v : V) (e : EE) : RD2 := match wrE b k e with
 | some w => dW all ws w (dPut o r k f (e.app h) b v w)
 | none => none
noncomputable def dOp (C : Cfg) (ev : Ev) (me : Nat) (rs : RS) (ws : List (Nat × Nat)) (all : Bool) (o : PO) (r : KD) (k : Nat) (f : Tr) (hv h : EH) (b : Nat) (x : Option (V × EE)) : RD2 := match x with
 | some (v, e) => dEff ws all o r k f h b v e
 | none => dOth C ev me rs ws all o r k f hv h b
noncomputable def dVis (C : Cfg) (ev : Ev) (me : Nat) (rs : RS) (ws : List (Nat × Nat)) (all : Bool) (o : PO) (r : KD) (k : Nat) (f : Tr) (h : EH) (b : Nat) (hv : EH) : RD2 := dOp C ev me rs ws all o r k f hv h b (opE C.Γ C.eqs (hv.hp rs) b f.fn o.op)
noncomputable def dStep (C : Cfg) (ev : Ev) (me : Nat) (rs : RS) (ws : List (Nat × Nat)) (cl : List Nat) (all : Bool) (n0 : Nat) (o : PO) (r : KD) (k : Nat) (f : Tr) (h : EH) (b : Nat) : RD2 := match gV2 f.fn o.g with
 | some true => dVis C ev me rs ws all o r k f h b (visE ws cl all k n0 h)
 | some false => dPut o r k f h b (.tup []) []
 | none => none
noncomputable def drawE (C : Cfg) (ev : Ev) (me : Nat) (rs : RS) (ws : List (Nat × Nat)) (cl : List Nat) (all : Bool) (n0 : Nat) (l : List PO) : KD := List.rec (motive := fun _ => KD) (fun _ f h b => some ([], ⟨f, h, b⟩)) (fun o _ r k f h b => dStep C ev me rs ws cl all n0 o r k f h b) l
def okR (X : Cx) (h : EH) : Bool := match X.m with
 | .plain => true
 | .round k => match lk h k, lk X.rs k with | some (.st _), some _ => true | _, _ => false
 | .nomark => false
 | .panf => true
noncomputable def eBs (C : Cfg) (ev : Ev) (X : Cx) (bs : List PO) (x : RD2) : RR := match x with
 | some (_, s) => regE C ev X.me X.rs bs s.f s.h s.n
 | none => none
noncomputable def eDW (C : Cfg) (ev : Ev) (X : Cx) (cl : List Nat) (az bs : List PO) (s : ES) (x : RD2) : RR := match x with
 | some (ws, _) => if wsOk ws cl s.n then eBs C ev X bs (drawE C ev X.me X.rs ws cl false s.n az 0 s.f s.h s.n) else none
 | none => none
noncomputable def eSeq (ev : Ev) (X : Cx) (b : PC) (r : RR) : RR := match r with
 | some (e, s') => (match e with
   | .normal => ev X b s'
   | _ => r)
 | none => r
noncomputable def eCnd (ev : Ev) (X : Cx) (a b : PC) (s : ES) (v : V) : RR := match v with
 | .d (.lit (.bool true)) => ev X a s
 | .d (.lit (.bool false)) => ev X b s
 | _ => none
noncomputable def eBlk (id : Nat) (r : RR) : RR := match r with
 | some (e, s') => (match e with
   | .exit j => some (if j = id then .normal else .exit j, s')
   | _ => r)
 | none => r
noncomputable def eEnd (s' : ES) (j : LSt) : RR := match j with
 | .ready => some (.normal, s')
 | .done .ret => some (.ret, s')
 | .done (.exit i) => some (.exit i, s')
 | _ => none
noncomputable def eRan2 (s : ES) (k : Nat) (q : CR) : RR := if q.ks.contains k then
   let s' : ES := ⟨s.f, hdel (q.h ((k, .st .ready) :: s.h) (k + 1048576)) k, k + 2097152⟩
   match q.res with
   | .ret _ => match lk q.H1 k with
     | some (.st j) => eEnd s' j
     | _ => none
   | .pan v => some (.pan (ren (sg q.ks (k + 1048576)) v), s')
 else none
noncomputable def eRan1 (C : Cfg) (ev : Ev) (X : Cx) (ps : List Nat) (pa pb : PC) (s : ES) (g : FuncId) (caps : List V) : RR :=
 match callE C ev X.me ((s.n, ⟨s.f, X.nt, ps, pa, pb, X.me⟩) :: X.rs) true ((s.n, .st .ready) :: s.h) (s.n + 1048576) g (.yl s.n :: caps) with
 | some q => eRan2 s s.n q
 | none => none
def isPf : RdM -> Bool
 | .panf => true
 | _ => false
noncomputable def eRan0 (C : Cfg) (ev : Ev) (X : Cx) (fo : Operand) (ps : List Nat) (pa pb : PC) (s : ES) : RR :=
 if okR X s.h && (isPf X.m || !(X.nt == panN)) then match calleeOf (evF s.f.fn fo) with
   | some (g, caps) => eRan1 C ev X ps pa pb s g caps
   | none => none
 else none
noncomputable def eRan (C : Cfg) (ev : Ev) (X : Cx) (fo : Operand) (ps : List Nat) (pa pb : PC) (s : ES) : RR := (clean X.ks (selD (fun i => !X.ks.contains i) true s.h) true s).bind fun s => eRan0 C ev X fo ps pa pb s
noncomputable def evS (C : Cfg) (ev : Ev) (X : Cx) (p : PC) (s : ES) : RR := match p with
 | .reg ops => regE C ev X.me X.rs ops s.f s.h s.n
 | .draw cl az bs => eBs C ev X bs (drawE C ev X.me X.rs [] cl false s.n az 0 s.f s.h s.n)
 | .drawW cl az bs => eDW C ev X cl az bs s (drawE C ev X.me X.rs [] cl true s.n az 0 s.f s.h s.n)
 | .seq a b => eSeq ev X b (ev X a s)
 | .cond c a b => eCnd ev X a b s (evF s.f.fn c)
 | .block id a => eBlk id (ev X a s)
 | .loop a => eSeq ev X (.loop a) (ev X a s)
 | .exit id => some (.exit id, s)
 | .ret => some (.ret, s)
 | .skip => some (.normal, s)
 | .rangeF fo ps pa pb => eRan C ev X fo ps pa pb s
noncomputable def evF' (C : Cfg) (ev : Ev) (X : Cx) (p : PC) (s : ES) : RR := match p with
 | .seq a b => eSeq ev X b (ev X a s)
 | .block id a => eBlk id (ev X a s)
 | .rangeF fo ps pa pb => eRan C ev X fo ps pa pb s
 | p => ev { X with m := .plain } p s
noncomputable def evM (C : Cfg) (ev : Ev) (X : Cx) (p : PC) (s : ES) : RR := bif isPf X.m then evF' C ev X p s else evS C ev X p s
noncomputable def ev (C : Cfg) (n : Nat) : Ev := Nat.rec (motive := fun _ => Ev) (fun _ _ _ => none) (fun _ r X p s => evM C r X p s) n
end Go.Psl
namespace Go.Psl
variable {P : Program}
theorem Bt.get_putN {α : Type} : ∀ (n : Nat) (t : Bt α) (i : Nat) (x : α), i < n -> ∀ j, (Bt.putN n t i x).get j = if j = i then some x else t.get j
 | 0, _, _, _, h, _ => absurd h (Nat.not_lt_zero _)
 | n + 1, .nil, 0, x, _, j => by cases j <;> simp [Bt.putN, Bt.get]
 | n + 1, .node v l r, 0, x, _, j => by cases j <;> simp [Bt.putN, Bt.get]
 | n + 1, .nil, i + 1, x, h, j => by
   have ih := fun t => Bt.get_putN n t (i / 2) x (by omega)
   have hb : ∀ m : Nat, ¬ m % 2 = 0 -> (m % 2 == 0) = false := fun m h => by simpa using h
   cases j with
   | zero =>
     by_cases hp : i % 2 = 0
     . simp [Bt.putN, Bt.get, hp]
     . simp [Bt.putN, Bt.get, hb i hp]
   | succ j =>
     have e : (j = i) ↔ (j % 2 = i % 2 /\ j / 2 = i / 2) := by omega
     by_cases hp : i % 2 = 0 <;> by_cases hq : j % 2 = 0
     . simp [Bt.putN, Bt.get, hp, hq, ih, e]
     . simp [Bt.putN, Bt.get, hp, hb j hq, ih, e, hq]
     . have : ¬ (0 = i % 2) := fun h => hp h.symm
       simp [Bt.putN, Bt.get, hb i hp, hq, ih, e, this]
     . have : j % 2 = i % 2 := by omega
       simp [Bt.putN, Bt.get, hb i hp, ih, e, this]
 | n + 1, .node v l r, i + 1, x, h, j => by
   have ih := fun t => Bt.get_putN n t (i / 2) x (by omega)
   have hb : ∀ m : Nat, ¬ m % 2 = 0 -> (m % 2 == 0) = false := fun m h => by simpa using h
   cases j with
   | zero =>
     by_cases hp : i % 2 = 0
     . simp [Bt.putN, Bt.get, hp]
     . simp [Bt.putN, Bt.get, hb i hp]
   | succ j =>
     have e : (j = i) ↔ (j % 2 = i % 2 /\ j / 2 = i / 2) := by omega
     by_cases hp : i % 2 = 0 <;> by_cases hq : j % 2 = 0
     . simp [Bt.putN, Bt.get, hp, hq, ih, e]
     . simp [Bt.putN, Bt.get, hp, hb j hq, ih, e, hq]
     . have : ¬ (0 = i % 2) := fun h => hp h.symm
       simp [Bt.putN, Bt.get, hb i hp, hq, ih, e, this]
     . have : j % 2 = i % 2 := by omega
       simp [Bt.putN, Bt.get, hb i hp, ih, e, this]
theorem Bt.get_put {α : Type} (t : Bt α) (i : Nat) (x : α) (j : Nat) : (t.put i x).get j = if j = i then some x else t.get j := Bt.get_putN _ t i x (Nat.lt_succ_self i) j
theorem Bt.get_of {α : Type} : ∀ {l : List (Nat × α)} {i : Nat} {x : α}, (Bt.of l).get i = some x -> (i, x) ∈ l
 | [], _, _, h => by cases h
 | p :: r, i, x, h => by
   simp only [Bt.of, Bt.get_put] at h
   split at h
   . rename_i e; cases h; rw [e]; simp
   . exact List.mem_cons_of_mem _ (Bt.get_of h)
theorem Tr.fn_cons (t : Tr) (j : Nat) (x : V) (i : Nat) : Tr.fn ((j, x) :: t) i = if i = j then x else t.fn i := by
 show Bool.rec (motive := fun _ => V) (t.fn i) x (Nat.beq i j) = _
 cases h : Nat.beq i j with
 | true => rw [if_pos (Nat.eq_of_beq_eq_true h)]
 | false => rw [if_neg (Nat.ne_of_beq_eq_false h)]
theorem Tr.fn_put (t : Tr) (i : Nat) (x : V) : (t.put i x).fn = upd t.fn i x := by
 funext j
 exact Tr.fn_cons t i x j
theorem Tr.fn_putO (t : Tr) (d : Option Nat) (x : V) : (t.putO d x).fn = frPut t.fn d x := by
 cases d with
 | none => rfl
 | some i => exact Tr.fn_put t i x
theorem Tr.fn_args : ∀ (az : List V) (k : Nat), (Tr.args k az).fn = argF k az
 | [], _ => rfl
 | a :: r, k => by
   funext j
   simp only [Tr.args, Tr.fn_cons, argF, Tr.fn_args r]
theorem Tr.fn_puts : ∀ (ps : List Nat) (vs : List V) (t : Tr), (t.puts ps vs).fn = frPuts t.fn ps vs
 | [], _, _ => rfl
 | _ :: _, [], _ => rfl
 | p :: ps, v :: vs, t => by
   simp only [Tr.puts, frPuts, Tr.fn_puts ps vs]
   congr 1
   exact Tr.fn_put t p v
theorem Tr.fn_map {g : V -> V} (h0 : g (.tup []) = .tup []) : ∀ (t : Tr) (i : Nat), (t.map g).fn i = g (t.fn i)
 | [], _ => h0.symm
 | p :: r, i => by
   show Tr.fn ((p.1, g p.2) :: Tr.map g r) i = _
   rw [Tr.fn_cons, Tr.fn_map h0 r]
   show _ = g (Tr.fn ((p.1, p.2) :: r) i)
   rw [Tr.fn_cons]
   split <;> rfl
theorem Tr.fn_all {p : V -> Prop} : ∀ {t : Tr}, (∀ v ∈ t.vals, p v) -> p (.tup []) -> ∀ i : Nat, p (t.fn i)
 | [], _, h0, _ => h0
 | q :: r, h, h0, i => by
   show p (Tr.fn ((q.1, q.2) :: r) i)
   rw [Tr.fn_cons]
   split
   . exact h q.2 (by simp [Tr.vals])
   . exact Tr.fn_all (fun v hv => h v (by simp only [Tr.vals, List.map_cons, List.mem_cons] at hv ⊢; exact .inr hv)) h0 i
section lks
variable {α : Type}
theorem lk_hset : ∀ (h : List (Nat × α)) (i : Nat) (x : α), lk (hset h i x) = upd (lk h) i (some x)
 | [], i, x => by funext j; simp [hset, lk, upd]
 | p :: r, i, x => by
   funext j
   simp only [hset]
   by_cases e : i = p.1
   . rw [if_pos e]; simp only [lk, upd_at]
     by_cases hj : j = i
     . simp [hj]
     . simp [hj, show ¬ j = p.1 from e ▸ hj]
   . rw [if_neg e]; simp only [lk, upd_at, lk_hset r i x]
     by_cases hj : j = p.1
     . simp [hj, show ¬ p.1 = i from fun h => e h.symm]
     . simp [hj]
theorem lk_hdel : ∀ (h : List (Nat × α)) (i : Nat), lk (hdel h i) = upd (lk h) i none
 | [], i => by funext j; simp [hdel, lk, upd]
 | p :: r, i => by
   funext j
   simp only [hdel]
   by_cases e : i = p.1
   . rw [if_pos e, lk_hdel r i]; simp only [lk, upd_at]
     by_cases hj : j = i
     . simp [hj]
     . simp [hj, show ¬ j = p.1 from e ▸ hj]
   . rw [if_neg e]; simp only [lk, upd_at, lk_hdel r i]
     by_cases hj : j = p.1
     . simp [hj, show ¬ p.1 = i from fun h => e h.symm]
     . simp [hj]
theorem lk_filter (P : Nat -> Bool) : ∀ (h : List (Nat × α)) (i : Nat), lk (h.filter fun p => P p.1) i = if P i = true then lk h i else none
 | [], i => by simp [lk]
 | p :: r, i => by
   simp only [List.filter_cons]
   by_cases hp : P p.1 = true
   . simp only [hp, if_true, lk, lk_filter P r]
     by_cases e : i = p.1
     . simp [e, hp]
     . simp [e]
   . simp only [hp, Bool.false_eq_true, if_false, lk, lk_filter P r]
     by_cases e : i = p.1
     . simp [e, hp]
     . simp [e]
theorem lk_append : ∀ (a b : List (Nat × α)) (i : Nat), lk (a ++ b) i = (lk a i).or (lk b i)
 | [], b, i => by simp [lk]
 | p :: r, b, i => by
   simp only [List.cons_append, lk, lk_append r b i]
   split <;> rfl
theorem lk_map {β : Type} (g : Nat -> α -> β) : ∀ (h : List (Nat × α)) (i : Nat), lk (h.map fun p => (p.1, g p.1 p.2)) i = (lk h i).map (g i)
 | [], i => rfl
 | p :: r, i => by
   simp only [List.map_cons, lk, lk_map g r i]
   by_cases e : i = p.1
   . subst e; simp
   . simp [e]
end lks
theorem fnd_eq {α : Type} : ∀ (h : List (Nat × α)) (i : Nat), fnd h i = lk h i
 | [], _ => rfl
 | p :: r, i => by
   show Bool.rec (motive := fun _ => Option α) (fnd r i) (some p.2) (Nat.beq i p.1) = _
   simp only [lk]
   cases h : Nat.beq i p.1 with
   | true => rw [if_pos (Nat.eq_of_beq_eq_true h)]
   | false => rw [if_neg (Nat.ne_of_beq_eq_false h)]; exact fnd_eq r i
theorem hp_at (rs : RS) (h : EH) (i : Nat) : h.hp rs i = (lk h i).map (EC.toC rs i) := by
 show (fnd h i).map _ = _
 rw [fnd_eq]
theorem hp_eq (rs : RS) (h : EH) : h.hp rs = lk (h.toL rs) := by
 funext i
 rw [hp_at]
 simp only [EH.toL]
 rw [lk_map (fun id c => EC.toC rs id c)]
inductive EffR : Eff -> EE -> Prop
 | none : EffR .none .none
 | new (id : Nat) (cs : List V) (c : EC) (h : ∀ rs, c.toC rs id = cs) : EffR (.new id cs) (.new id c)
 | put (id : Nat) (cs : List V) (c : EC) (h : ∀ rs, c.toC rs id = cs) : EffR (.put id cs) (.put id c)
 | mov (old id : Nat) (cs : List V) (c : EC) (h : ∀ rs, c.toC rs id = cs) : EffR (.mov old id cs) (.mov old id c)
theorem EffR.of (e : Eff) : EffR e (ofEff e) := by
 cases e with
 | none => exact .none
 | new id cs => exact .new id cs _ fun _ => rfl
 | put id cs => exact .put id cs _ fun _ => rfl
 | mov old id cs => exact .mov old id cs _ fun _ => rfl
theorem hp_cons (rs : RS) (h : EH) (id : Nat) (c : EC) : EH.hp rs ((id, c) :: h) = upd (h.hp rs) id (some (c.toC rs id)) := by
 funext i
 simp only [hp_at, lk, upd_at]
 by_cases e : i = id
 . subst e; simp
 . simp [e]
theorem hp_hset (rs : RS) (h : EH) (id : Nat) (c : EC) : EH.hp rs (hset h id c) = upd (h.hp rs) id (some (c.toC rs id)) := by
 funext i
 simp only [hp_at, lk_hset, upd_at]
 by_cases e : i = id
 . subst e; simp
 . simp [e]
theorem hp_hdel (rs : RS) (h : EH) (id : Nat) : EH.hp rs (hdel h id) = upd (h.hp rs) id none := by
 funext i
 simp only [hp_at, lk_hdel, upd_at]
 by_cases e : i = id
 . subst e; simp
 . simp [e]
theorem hp_app {e : Eff} {e' : EE} (h : EffR e e') (rs : RS) (H : EH) : (e'.app H).hp rs = (H.hp rs).app e := by
 cases h with
 | none => rfl
 | new id cs c hc => simp only [EE.app, Hp.app, hp_cons, hc]
 | put id cs c hc => simp only [EE.app, Hp.app, hp_hset, hc]
 | mov old id cs c hc => simp only [EE.app, Hp.app, hp_cons, hp_hdel, hc]
theorem putE_put {Γ : Tys} {eqs : Eqs} {H : Hp} {t : TypeId} {m k x : V} {q : Nat × List (Value × Bool × List D)} (h : putE Γ eqs H t m k x = some q) : putM Γ eqs H t m k x = some (.junk, .put q.1 (mapC q.2)) := by
 unfold putE at h
 unfold putM
 cases hm : mapAt Γ eqs H t m k with
 | none => rw [hm] at h; cases h
 | some p =>
   rw [hm] at h
   simp only [Option.bind_some, Option.map_eq_some_iff] at h ⊢
   obtain ⟨d, hd, rfl⟩ := h
   refine ⟨d, hd, ?_⟩
   cases p.2.2.2.1 <;> rfl
theorem ivX_at {v : V} {p : IntKind × Int} (h : ivX v = some p) : v = .d (.lit (.int p.1 p.2)) := by
 unfold ivX at h
 split at h
 . unfold ivD at h
   split at h
   . unfold ivL at h
     split at h
     . cases h; rfl
     . cases h
   . cases h
 . cases h
theorem b64a : (2 ^ IntKind.i64.bits : Int) = 18446744073709551616 := by decide
theorem b64b : (2 ^ (IntKind.i64.bits - 1) : Int) = 9223372036854775808 := by decide
theorem b64c : IntKind.i64.signed = true := rfl
theorem wr_key (z : Int) (h1 : -9223372036854775808 <= z) (h2 : z < 9223372036854775808) : IntKind.i64.wrap z = z := by
 unfold IntKind.wrap
 rw [b64a, b64b, b64c]
 simp only [Bool.true_and, decide_eq_true_eq]
 split <;> omega
theorem blt_lt {m n : Nat} (h : Nat.blt m n = true) : m < n := Nat.le_of_ble_eq_true h
theorem wr64_eq (n : Int) : wr64 n = IntKind.i64.wrap n := by
 cases n with
 | ofNat m =>
   show (bif Nat.blt m 9223372036854775808 then Int.ofNat m else IntKind.i64.wrap (Int.ofNat m)) = _
   cases h : Nat.blt m 9223372036854775808 with
   | true =>
     have := blt_lt h
     rw [wr_key (Int.ofNat m) (by simp only [Int.ofNat_eq_natCast]; omega) (by simp only [Int.ofNat_eq_natCast]; omega), cond_true]
   | false => rw [cond_false]
 | negSucc m =>
   show (bif Nat.blt m 9223372036854775808 then Int.negSucc m else IntKind.i64.wrap (Int.negSucc m)) = _
   cases h : Nat.blt m 9223372036854775808 with
   | true =>
     have := blt_lt h
     rw [wr_key (Int.negSucc m) (by omega) (by omega), cond_true]
   | false => rw [cond_false]
theorem blt_eq (m n : Nat) : Nat.blt m n = decide (m < n) := by
 cases h : Nat.blt m n with
 | true => exact (decide_eq_true (Nat.le_of_ble_eq_true h)).symm
 | false => exact (decide_eq_false fun h2 => by rw [show Nat.blt m n = true from Nat.ble_eq_true_of_le h2] at h; cases h).symm
theorem ltI_eq (a b : Int) : ltI a b = decide (a < b) := by
 cases a <;> cases b <;> simp only [ltI, blt_eq]
 . exact decide_eq_decide.2 (by simp only [Int.ofNat_eq_natCast]; omega)
 . exact (decide_eq_false (by simp only [Int.ofNat_eq_natCast]; omega)).symm
 . exact (decide_eq_true (by simp only [Int.ofNat_eq_natCast]; omega)).symm
 . exact decide_eq_decide.2 (by omega)
theorem eqI_eq (a b : Int) : eqI a b = (a == b) := by
 have h : ∀ m n : Nat, Nat.beq m n = decide (m = n) := fun m n => by
   cases h : Nat.beq m n with
   | true => exact (decide_eq_true (Nat.eq_of_beq_eq_true h)).symm
   | false => exact (decide_eq_false (Nat.ne_of_beq_eq_false h)).symm
 cases a <;> cases b <;> simp only [eqI, h]
 . rw [Bool.eq_iff_iff]; simp only [decide_eq_true_eq, beq_iff_eq, Int.ofNat_eq_natCast]; omega
 . symm; rw [beq_eq_false_iff_ne]; nofun
 . symm; rw [beq_eq_false_iff_ne]; nofun
 . rw [Bool.eq_iff_iff]; simp
theorem o64_eq (o : BinOp) (a b : Int) : o64 o a b = oSlow o .i64 .i64 a b := by
 have h1 : ∀ x y : Int, decide (x <= y) = !decide (y < x) := fun x y => by rw [<- decide_not]; exact decide_eq_decide.2 (by omega)
 cases o <;> simp only [o64, oSlow, oInt, oBool, binI, wr64_eq, ltI_eq, eqI_eq, if_true, Option.map_some, cV, ge_iff_le, gt_iff_lt, h1] <;> rfl
theorem oBinI_eq (o : BinOp) (p q : IntKind × Int) : oBinI o p q = oSlow o p.1 q.1 p.2 q.2 := by
 obtain ⟨k, a⟩ := p
 obtain ⟨k', b⟩ := q
 unfold oBinI
 cases k <;> cases k' <;> simp only [is64, cond_true, cond_false] <;> exact o64_eq o a b
theorem oBinV_eq {Γ : Tys} {eqs : Eqs} {o : BinOp} {t : TypeId} {c : Bool} {x y : V} : oBinV Γ eqs o t c x y = oRes (binF Γ eqs o t c x y) := by
 unfold oBinV
 split
 . rename_i p hp
   split
   . rename_i q hq
     rw [ivX_at hp, ivX_at hq]
     simp only [oBinI_eq, oSlow, oRes, binF, Option.map_map]
     rfl
   . rfl
 . rfl
theorem oRes_at {x : Option (V × Eff)} {v : V} {e' : EE} (h : oRes x = some (v, e')) : ∃ e, x = some (v, e) /\ EffR e e' := by
 simp only [oRes, Option.map_eq_some_iff] at h
 obtain ⟨p, hp, h⟩ := h
 cases h
 exact ⟨p.2, hp, EffR.of _⟩
theorem opE_eval {Γ : Tys} {eqs : Eqs} {H : Hp} {b : Nat} {f : Nat -> V} {op : Op} {v : V} {e' : EE} (h : opE Γ eqs H b f op = some (v, e')) : ∃ e, evalOp Γ eqs H b f op = some (v, e) /\ EffR e e' := by
 unfold opE at h
 split at h
 . cases h; exact ⟨_, rfl, .none⟩
 . cases h; exact ⟨_, rfl, .none⟩
 . unfold oBin at h
   rw [oBinV_eq] at h
   exact oRes_at h
 . cases h; exact ⟨_, rfl, .new _ _ _ fun _ => rfl⟩
 . simp only [oPut, Option.map_eq_some_iff] at h
   obtain ⟨q, hq, h⟩ := h
   cases h
   exact ⟨_, putE_put hq, .put _ _ _ fun _ => rfl⟩
 . simp only [oPut, Option.map_eq_some_iff] at h
   obtain ⟨q, hq, h⟩ := h
   cases h
   exact ⟨_, putE_put hq, .put _ _ _ fun _ => rfl⟩
 . exact oRes_at h
theorem opE_call {Γ : Tys} {eqs : Eqs} {H : Hp} {b : Nat} {f : Nat -> V} {c : Call} (h : opE Γ eqs H b f (.call c) = none) : evalOp Γ eqs H b f (.call c) = none := by
 simpa [opE, oRest, oRes] using h
section ok
variable {p : Nat -> Bool}
theorem A0_of {v : V} (h : ok0 p v = true) : A0 (fun i => p i = true) anyD v := by cases v <;> simp_all [ok0, A0, anyD]
theorem A1_of {v : V} (h : ok1 p v = true) : A1 (fun i => p i = true) anyD v := by
 cases v with
 | cl f caps => exact fun c hc => A0_of (List.all_eq_true.1 h c hc)
 | _ => exact A0_of (by simpa [ok1] using h)
theorem A2_of {v : V} (h : ok2 p v = true) : A2 (fun i => p i = true) anyD v := by
 cases v with
 | agg cs => exact fun c hc => A1_of (List.all_eq_true.1 h c hc)
 | cl f caps => exact A1_of (v := .cl f caps) (by simpa [ok2] using h)
 | _ => exact A0_of (by simpa [ok2, ok1] using h)
theorem AV_of {v : V} (h : okV p v = true) : AV (fun i => p i = true) anyD v := by
 cases v with
 | tup cs => exact fun c hc => A2_of (List.all_eq_true.1 h c hc)
 | agg cs => exact A2_of (v := .agg cs) (by simpa [okV] using h)
 | cl f caps => exact A1_of (v := .cl f caps) (by simpa [okV, ok2] using h)
 | _ => exact A0_of (by simpa [okV, ok2, ok1] using h)
theorem AV_vals {t : Tr} (h : t.vals.all (okV p) = true) (i : Nat) : AV (fun i => p i = true) anyD (t.fn i) :=
 Tr.fn_all (p := AV (fun i => p i = true) anyD) (fun v hv => AV_of (List.all_eq_true.1 h v hv)) (fun _ h => nomatch h) i
theorem AV_map {q : Nat -> Prop} {es : List (Value × Bool × List D)} (t : Nat) : AV q anyD (mapFr es t) := by
 unfold mapFr
 split
 . intro c hc
   obtain ⟨x, _, rfl⟩ := List.mem_map.1 hc
   trivial
 . trivial
theorem AC_mapC {q : Nat -> Prop} {es : List (Value × Bool × List D)} : ∀ c ∈ mapC es, AC q anyD c := by
 intro c hc
 simp only [mapC, List.mem_cons, List.not_mem_nil, or_false] at hc
 rcases hc with rfl | rfl
 . exact fun t => AV_map t
 . trivial
theorem AC_okE {rs : RS} {id : Nat} {c : EC} (h : okE p rs id c = true) : ∀ x ∈ c.toC rs id, AC (fun i => p i = true) anyD x := by
 intro x hx
 cases c with
 | cs l =>
   have := List.all_eq_true.1 h x hx
   simp only [Bool.and_eq_true] at this
   exact A1.ac (A1_of this.2)
 | mp es => exact AC_mapC x hx
 | st s =>
   simp only [EC.toC] at hx
   simp only [okE] at h
   cases hr : lk rs id with
   | none => rw [hr] at hx; cases hx
   | some r =>
     rw [hr] at hx h
     simp only [List.mem_singleton] at hx
     subst hx
     exact fun t => AV_vals h t
end ok
theorem bor0_of {v : V} (h : bor0 v = true) : Bor0 noH v v := by cases v <;> simp_all [bor0, Bor0]
theorem bor1_of {v : V} (h : bor1 v = true) : Bor1 noH v v := by
 cases v with
 | cl f caps => exact ⟨rfl, rfl⟩
 | _ => first | exact bor0_of (by simpa [bor1] using h) | (simp [bor1, bor0] at h)
theorem All2.refl {α : Type} {R : α -> α -> Prop} : ∀ {l : List α}, (∀ x ∈ l, R x x) -> All2 R l l
 | [], _ => trivial
 | a :: r, h => ⟨h a (by simp), All2.refl fun x hx => h x (by simp [hx])⟩
theorem bor_of {v : V} (h : borB v = true) : Bor noH v v := by
 cases v with
 | agg cs => exact All2.refl fun c hc => bor1_of (List.all_eq_true.1 h c hc)
 | _ => first | exact bor1_of (by simpa [borB] using h) | (simp [borB, bor1, bor0] at h)
theorem chunk_spec {α : Type} (sz : Nat) : ∀ (n : Nat) (l : List α), n * sz <= l.length -> (chunk sz n l).length = n /\ (∀ e ∈ chunk sz n l, e.length = sz) /\ (chunk sz n l).flatten = l.take (n * sz)
 | 0, l, _ => by simp [chunk]
 | n + 1, l, h => by
   rw [Nat.add_mul, Nat.one_mul] at h
   obtain ⟨h1, h2, h3⟩ := chunk_spec sz n (l.drop sz) (by simp; omega)
   refine ⟨by simp [chunk, h1], fun e he => ?_, ?_⟩
   . simp only [chunk, List.mem_cons] at he
     rcases he with rfl | he
     . simp; omega
     . exact h2 e he
   . simp only [chunk, List.flatten_cons, h3]
     rw [Nat.add_mul, Nat.one_mul, Nat.add_comm, List.take_add]
theorem eqL_eq {α : Type} {f : α -> α -> Bool} (hf : ∀ a b, f a b = true -> a = b) : ∀ {az bs : List α}, eqL f az bs = true -> az = bs
 | [], [], _ => rfl
 | a :: az, b :: bs, h => by
   simp only [eqL, Bool.and_eq_true] at h
   rw [hf a b h.1, eqL_eq hf h.2]
 | [], _ :: _, h => by cases h
 | _ :: _, [], h => by cases h
theorem eqD_eq : ∀ (n : Nat) (a b : D), eqD n a b = true -> a = b
 | 0, _, _, h => by cases h
 | n + 1, a, b, h => by
   have ih := eqD_eq n
   have ih2 : ∀ az bs, eqL (eqD n) az bs = true -> az = bs := fun az bs h => eqL_eq ih h
   unfold eqD at h
   split at h
   . rw [eqFl_eq h]
   . simp only [Bool.and_eq_true, beq_iff_eq] at h; rw [h.1, eqL_eq ih2 h.2]
   . rw [eqL_eq ih h]
   . simp only [Bool.and_eq_true, beq_iff_eq] at h; rw [h.1, eqL_eq ih h.2]
   . simp only [Bool.and_eq_true, beq_iff_eq] at h; rw [h.1.1, h.1.2, eqL_eq ih h.2]
   . cases h
theorem eq0_eq (a b : V) (h : eq0 a b = true) : a = b := by
 unfold eq0 at h
 split at h
 . rw [eqD_eq _ _ _ h]
 . simp only [Bool.and_eq_true, beq_iff_eq] at h; rw [h.1, h.2]
 . simp only [Bool.and_eq_true, beq_iff_eq] at h; rw [h.1.1.1, h.1.1.2, h.1.2, h.2]
 . simp only [beq_iff_eq] at h; rw [h]
 . cases h
theorem eq1_eq (a b : V) (h : eq1 a b = true) : a = b := by
 unfold eq1 at h
 split at h
 . rw [eqL_eq eq0_eq h]
 . exact eq0_eq _ _ h
theorem eq2_eq (a b : V) (h : eq2 a b = true) : a = b := by
 unfold eq2 at h
 split at h
 . rw [eqL_eq eq1_eq h]
 . exact eq1_eq _ _ h
theorem eqR_eq {a b : Res} (h : eqR a b = true) : a = b := by
 unfold eqR at h
 split at h
 . rw [eq2_eq _ _ h]
 . rw [eq2_eq _ _ h]
 . cases h
theorem endsB_eq {r : Option (Res × EH)} {x : Res} (h : endsB r x = true) : r = some (x, []) := by
 unfold endsB at h
 split at h
 . rw [eqR_eq h]
 . cases h
theorem memL_at : ∀ {l : List (List V × Res)} {az : List V} {r : Res × EH}, memL l az = some r -> (az, r.1) ∈ l /\ r.2 = []
 | [], _, _, h => by cases h
 | p :: l, az, r, h => by
   simp only [memL] at h
   cases he : eqL eq1 az p.1 with
   | true =>
     rw [he, cond_true] at h
     cases h
     rw [eqL_eq eq1_eq he]
     exact ⟨by simp, rfl⟩
   | false =>
     rw [he, cond_false] at h
     obtain ⟨h1, h2⟩ := memL_at h
     exact ⟨List.mem_cons_of_mem _ h1, h2⟩
theorem cln_ok {p : Nat -> Bool} {v : V} (h : clnV v = true) : borB v = true /\ ok2 p v = true := by
 unfold clnV at h
 split at h
 . exact ⟨rfl, rfl⟩
 . rename_i cs
   have hc : ∀ c ∈ cs, bor1 c = true /\ ok1 p c = true := fun c hc => by
     have := List.all_eq_true.1 h c hc
     cases c <;> first | exact ⟨rfl, rfl⟩ | (cases this; done)
   exact ⟨List.all_eq_true.2 fun c hm => (hc c hm).1, List.all_eq_true.2 fun c hm => (hc c hm).2⟩
 . cases h
theorem eqC_eq {a b : EC} (h : eqC a b = true) : a = b := by
 unfold eqC at h
 split at h
 . rw [eqL_eq eq0_eq h]
 . cases h
theorem reach_sub (rs : RS) (emp : Bool) (h : EH) : ∀ (n : Nat) (todo : List Nat) (acc : EH), (∀ i c, lk acc i = some c -> lk h i = some c) -> ∀ i c, lk (reach rs emp h n todo acc) i = some c -> lk h i = some c
 | 0, _, _, ha, i, c, e => ha i c (by simpa [reach] using e)
 | n + 1, [], _, ha, i, c, e => ha i c (by simpa [reach] using e)
 | n + 1, j :: r, acc, ha, i, c, e => by
   simp only [reach] at e
   split at e
   . exact reach_sub rs emp h n r acc ha i c e
   . split at e
     . exact reach_sub rs emp h n r acc ha i c e
     . rename_i x hx
       split at e
       . refine reach_sub rs emp h n _ _ (fun i c hi => ?_) i c e
         simp only [lk] at hi
         split at hi
         . rename_i e2; cases hi; rw [e2]; exact hx
         . exact ha i c hi
       . exact reach_sub rs emp h n r acc ha i c e
theorem ks_mem {rs : RS} {L : EH} {i : Nat} (h : i ∈ ksOf rs L) : ∃ c, (i, c) ∈ L /\ ECe rs i c = false := by
 simp only [ksOf, List.mem_map, List.mem_filter] at h
 obtain ⟨p, ⟨h1, h2⟩, rfl⟩ := h
 exact ⟨p.2, h1, by simpa using h2⟩
def Nd (L : EH) : Prop := ∀ i c, (i, c) ∈ L -> lk L i = some c
theorem Nd.cons {L : EH} {i : Nat} {c : EC} (h : Nd L) (hi : lk L i = none) : Nd ((i, c) :: L) := fun j x hj => by
 simp only [lk]
 rcases List.mem_cons.1 hj with hj' | hj'
 . cases hj'; simp
 . by_cases e : j = i
   . subst e; have := h j x hj'; rw [hi] at this; cases this
   . rw [if_neg e]; exact h j x hj'
theorem reach_nd (rs : RS) (emp : Bool) (h : EH) : ∀ (n : Nat) (todo : List Nat) (acc : EH), Nd acc -> Nd (reach rs emp h n todo acc)
 | 0, _, _, ha => by simpa [reach] using ha
 | n + 1, [], _, ha => by simpa [reach] using ha
 | n + 1, j :: r, acc, ha => by
   simp only [reach]
   split
   . exact reach_nd rs emp h n r acc ha
   . rename_i hn
     split
     . exact reach_nd rs emp h n r acc ha
     . split
       . exact reach_nd rs emp h n _ _ (ha.cons hn)
       . exact reach_nd rs emp h n r acc ha
theorem ECe_ne {rs : RS} {i : Nat} {c : EC} (h : ECe rs i c = false) : c.toC rs i ≠ [] := by
 cases c with
 | cs l => simpa [ECe, EC.toC] using h
 | mp es => simp [EC.toC, mapC]
 | st s =>
   simp only [ECe] at h
   simp only [EC.toC]
   cases hr : lk rs i with
   | none => rw [hr] at h; cases h
   | some r => simp
end Go.Psl
namespace Go.Psl
variable {P : Program} {E : Ent}
theorem Weak.trans {a b c : St} (h : Weak P E a b) (g : Weak P E b c) : Weak P E a c := fun G x W hI => by
 obtain ⟨G', h'⟩ := h G x W hI
 exact g G' x W h'
def FzK (H : Hp) (v c : V) : Prop := v = c \/ FzC H v c
theorem FzK.one {G : Gh} {W : World} {H : Hp} (hB : ∀ id cs, H id = some cs -> HB G W id cs) (hin : Into (fun _ => True) anyD (fun i => i) G W { G with Im := fzIm G H } W) {v c : V} {x : Value} (h : FzK H v c) (ha : A1 (fun _ => True) anyD v) (hx : R1 G W v x) : R1 { G with Im := fzIm G H } W c x := by
 rcases h with rfl | ⟨y, rfl, hy⟩
 . exact hin.s1 ha hx
 . exact R0.r1 (fz0 hB hy (R2.rv (R1.r2 hx)))
end Go.Psl
namespace Go.Psl
variable {P : Program} {E : Ent}
theorem Weak.self {st : St} : Weak P E st st := fun G _ _ h => ⟨G, h⟩
def fzH (fz : FZ) : Hp := fun i => (lk fz i).map (·.map .d)
section rel
variable {G : Gh} {W : World} {fz : FZ} {dead : Nat -> Bool}
theorem fz_into : Into (fun _ => True) anyD (fun i => i) G W { G with Im := fzIm G (fzH fz) } W := ⟨fun _ _ => ⟨rfl, rfl, rfl, rfl⟩, fun _ _ _ hx => RD.mono hx fun _ hb => ⟨.inl hb, rfl⟩⟩
theorem cv0_rel (hB : ∀ id cs, fzH fz id = some cs -> HB G W id cs) {v : V} {x : Value} (ha : A0 (fun _ => True) anyD v) (hx : R0 G W v x) : R0 { G with Im := fzIm G (fzH fz) } W (cv0 fz dead v) x := by
 have same : R0 { G with Im := fzIm G (fzH fz) } W v x := by
   cases v with
   | d y => exact RD.mono (x := y) hx fun b hb => ⟨.inl hb, rfl⟩
   | _ => exact hx
 have hxv : RV G W v x := R2.rv (R1.r2 (R0.r1 hx))
 unfold cv0
 split
 . rename_i id off len sz
   split
   . rename_i ds hds
     split
     . rename_i hl
       obtain ⟨h1, h2, h3⟩ := chunk_spec sz len (ds.drop off) (by simp; omega)
       refine fz0 hB ?_ hxv
       refine ⟨rfl, h1, h2, ds.map .d, by simp [fzH, hds], ?_⟩
       rw [h3, <- List.map_drop, <- List.map_take]
     . trivial
   . split
     . split
       . rename_i hl
         rw [hl] at hxv hx
         obtain ⟨_, ⟨_, _, hx⟩ | ⟨_, o, cap, hx, hcap, _⟩⟩ : 0 <= maxL /\ _ := hx
         . rw [hx]; exact RD.sl sz [] none 0 (fun _ _ => undef) (fun _ h => by cases h) (Nat.zero_le _) (Nat.le_refl _) (fun i e h => by simp at h) (fun i e h => by simp at h)
         . rw [hx]; exact RD.sl sz [] _ cap (fun _ _ => undef) (fun _ h => by cases h) (Nat.zero_le _) (Nat.zero_le _) (fun i e h => by simp at h) (fun i e h => by simp at h)
       . trivial
     . exact same
 . rename_i id off
   split
   . rename_i ds hds
     refine fz0 hB ?_ hxv
     refine ⟨ds.map .d, by simp [fzH, hds], ?_⟩
     rw [<- List.map_drop, <- List.map_take, List.take_of_length_le (Nat.le_refl _)]
   . split
     . trivial
     . exact same
 . exact same
theorem cv1_rel (hB : ∀ id cs, fzH fz id = some cs -> HB G W id cs) {v : V} {x : Value} (ha : A1 (fun _ => True) anyD v) (hx : R1 G W v x) : R1 { G with Im := fzIm G (fzH fz) } W (cv1 fz dead v) x := by
 unfold cv1
 split
 . rename_i f caps
   obtain ⟨cv, rfl, hr⟩ := hx
   have hr' : All2 (R0 { G with Im := fzIm G (fzH fz) } W) (caps.map (cv0 fz dead)) cv.toList := All2.map_left.2 (hr.mono fun c hc y hy => cv0_rel hB (ha c hc) hy)
   unfold clD
   split
   . rename_i ds hd
     rw [dataL_eq hd] at hr'
     refine RD.fn f ds cv (by have := hr'.length; simpa using this.symm) fun j y z hy hz => ?_
     obtain ⟨u, hu, hru⟩ := (All2.map_left.1 hr').get hy
     rw [Array.getElem?_toList, hz] at hu; cases hu
     exact hru
   . exact ⟨cv, rfl, hr'⟩
 . rename_i hne
   refine R0.r1 (cv0_rel hB ?_ ?_)
   . cases v <;> first | exact ha | exact absurd rfl (hne _ _)
   . cases v <;> first | exact hx | exact absurd rfl (hne _ _)
theorem cv2_rel (hB : ∀ id cs, fzH fz id = some cs -> HB G W id cs) {v : V} {x : Value} (ha : A2 (fun _ => True) anyD v) (hx : R2 G W v x) : R2 { G with Im := fzIm G (fzH fz) } W (cv2 fz dead v) x := by
 unfold cv2
 split
 . rename_i cs
   obtain ⟨cv, rfl, hr⟩ := hx
   refine ⟨cv, rfl, All2.map_left.2 (hr.mono fun c hc y hy => cv1_rel hB (ha c hc) hy)⟩
 . rename_i hne
   refine R1.r2 (cv1_rel hB ?_ ?_)
   . cases v <;> first | exact ha | exact absurd rfl (hne _)
   . cases v <;> first | exact hx | exact absurd rfl (hne _)
theorem cvV_rel (hB : ∀ id cs, fzH fz id = some cs -> HB G W id cs) {v : V} {x : Value} (ha : AV (fun _ => True) anyD v) (hx : RV G W v x) : RV { G with Im := fzIm G (fzH fz) } W (cvV fz dead v) x := by
 unfold cvV
 split
 . rename_i vs
   obtain ⟨cv, rfl, hr⟩ := hx
   refine ⟨cv, rfl, All2.map_left.2 (hr.mono fun c hc y hy => cv2_rel hB (ha c hc) hy)⟩
 . rename_i hne
   refine R2.rv (cv2_rel hB ?_ ?_)
   . cases v <;> first | exact ha | exact absurd rfl (hne _)
   . cases v <;> first | exact hx | exact absurd rfl (hne _)
variable {p : Nat -> Prop}
theorem cv0_ok {v : V} (h : A0 p anyD v) : A0 p anyD (cv0 fz dead v) := by
 unfold cv0
 split
 . split
   . split <;> trivial
   . split
     . split <;> trivial
     . exact h
 . split
   . trivial
   . split
     . trivial
     . exact h
 . exact h
theorem cv1_ok {v : V} (h : A1 p anyD v) : A1 p anyD (cv1 fz dead v) := by
 unfold cv1
 split
 . unfold clD
   split
   . trivial
   . intro c hc
     obtain ⟨x, hx, rfl⟩ := List.mem_map.1 hc
     exact cv0_ok (h x hx)
 . rename_i hne
   have : A0 p anyD v := by cases v <;> first | exact h | exact absurd rfl (hne _ _)
   have := cv0_ok (fz := fz) (dead := dead) this
   have hn : ∀ f cs, cv0 fz dead v ≠ .cl f cs := by
     intro f cs he
     unfold cv0 at he
     split at he
     . split at he
       . split at he <;> cases he
       . split at he
         . split at he <;> cases he
         . cases he
     . split at he
       . cases he
       . split at he <;> cases he
     . exact hne _ _ he
   revert this hn
   generalize cv0 fz dead v = w
   intro h hn; cases w <;> first | exact h | exact h.elim | exact absurd rfl (hn _ _)
theorem cv2_ok {v : V} (h : A2 p anyD v) : A2 p anyD (cv2 fz dead v) := by
 unfold cv2
 split
 . intro c hc
   obtain ⟨x, hx, rfl⟩ := List.mem_map.1 hc
   exact cv1_ok (h x hx)
 . rename_i hne
   have : A1 p anyD v := by cases v <;> first | exact h | exact absurd rfl (hne _)
   have := cv1_ok (fz := fz) (dead := dead) this
   have hn : ∀ cs, cv1 fz dead v ≠ .agg cs := by
     intro cs he
     unfold cv1 at he
     split at he
     . unfold clD at he
       split at he <;> cases he
     . unfold cv0 at he
       split at he
       . split at he
         . split at he <;> cases he
         . split at he
           . split at he <;> cases he
           . cases he
       . split at he
         . cases he
         . split at he <;> cases he
       . exact hne _ he
   revert this hn
   generalize cv1 fz dead v = w
   intro h hn; cases w <;> first | exact h | exact absurd rfl (hn _)
theorem cvV_ok {v : V} (h : AV p anyD v) : AV p anyD (cvV fz dead v) := by
 unfold cvV
 split
 . intro c hc
   obtain ⟨x, hx, rfl⟩ := List.mem_map.1 hc
   exact cv2_ok (h x hx)
 . rename_i hne
   have : A2 p anyD v := by cases v <;> first | exact h | exact absurd rfl (hne _)
   have := cv2_ok (fz := fz) (dead := dead) this
   have hn : ∀ cs, cv2 fz dead v ≠ .tup cs := by
     intro cs he
     unfold cv2 at he
     split at he
     . cases he
     . unfold cv1 at he
       split at he
       . unfold clD at he
         split at he <;> cases he
       . unfold cv0 at he
         split at he
         . split at he
           . split at he <;> cases he
           . split at he
             . split at he <;> cases he
             . cases he
         . split at he
           . cases he
           . split at he <;> cases he
         . exact hne _ he
   revert this hn
   generalize cv2 fz dead v = w
   intro h hn; cases w <;> first | exact h | exact absurd rfl (hn _)
end rel
theorem cvV_tup0 {fz : FZ} {dead : Nat -> Bool} : cvV fz dead (.tup []) = .tup [] := rfl
theorem fzOf_at {h : EH} : ∀ {ids : List Nat} {i : Nat} {ds : List D}, lk (fzOf h ids) i = some ds -> i ∈ ids /\ lk h i = some (.cs (ds.map .d))
 | [], i, ds, e => by cases e
 | j :: r, i, ds, e => by
   simp only [fzOf] at e
   split at e
   . rename_i l hl
     split at e
     . rename_i xs hx
       simp only [lk] at e
       split at e
       . rename_i he
         cases e
         subst he
         exact ⟨by simp, by rw [hl, dataL_eq hx]⟩
       . obtain ⟨h1, h2⟩ := fzOf_at e
         exact ⟨by simp [h1], h2⟩
     . obtain ⟨h1, h2⟩ := fzOf_at e
       exact ⟨by simp [h1], h2⟩
   . obtain ⟨h1, h2⟩ := fzOf_at e
     exact ⟨by simp [h1], h2⟩
theorem clean_weak {ks ids : List Nat} {dead : Bool} {s s' : ES} {rs : RS} (_ : ∀ i, E.stab i -> i ∈ ks) (h : clean ks ids dead s = some s') : Weak P E (s.abs rs) (s'.abs rs) := by
 unfold clean at h
 simp only at h
 split at h
 case isFalse => cases h
 rename_i hc
 simp only [Bool.and_eq_true, List.all_eq_true] at hc
 obtain ⟨hc1, hc2⟩ := hc
 generalize hfz : fzOf s.h ids = fz at *
 have hf : ∀ i ds, lk fz i = some ds -> i ∉ ks /\ lk s.h i = some (.cs (ds.map .d)) := fun i ds hi => by
   rw [<- hfz] at hi
   obtain ⟨h1, h2⟩ := fzOf_at hi
   exact ⟨by simpa using hc1 i h1, h2⟩
 cases h
 intro G a W hI
 have hF : ∀ id cs, fzH fz id = some cs -> (s.h.hp rs) id = some cs /\ id ∉ ks := fun id cs e => by
   simp only [fzH, Option.map_eq_some_iff] at e
   obtain ⟨ds, h1, rfl⟩ := e
   obtain ⟨h2, h3⟩ := hf id ds h1
   exact ⟨by rw [hp_at, h3]; rfl, h2⟩
 have hB : ∀ id cs, fzH fz id = some cs -> HB G W id cs := fun id cs e => hI.hp id cs (hF id cs e).1
 have hin : Into (fun _ => True) anyD (fun i => i) G W { G with Im := fzIm G (fzH fz) } W := fz_into
 have hlk : ∀ id, lk ((s.h.filter fun p => (lk fz p.1).isNone).map fun p => (p.1, cvE fz p.2)) id = if (lk fz id).isNone then (lk s.h id).map (cvE fz) else none := fun id => by
   rw [lk_map (fun _ c => cvE fz c), lk_filter (fun i => (lk fz i).isNone)]
   split <;> rfl
 have hnew : ∀ id cs', EH.hp rs ((s.h.filter fun p => (lk fz p.1).isNone).map fun p => (p.1, cvE fz p.2)) id = some cs' -> ∃ c, lk s.h id = some c /\ lk fz id = none /\ cs' = (cvE fz c).toC rs id := fun id cs' e => by
   rw [hp_at, hlk] at e
   split at e
   . rename_i hn
     simp only [Option.map_map, Option.map_eq_some_iff, Function.comp] at e
     obtain ⟨c, h1, h2⟩ := e
     exact ⟨c, h1, by simpa using hn, h2.symm⟩
   . cases e
 have hold : ∀ id, (EH.hp rs ((s.h.filter fun p => (lk fz p.1).isNone).map fun p => (p.1, cvE fz p.2)) id).isSome = true -> ((s.h.hp rs) id).isSome = true := fun id e => by
   obtain ⟨cs', hc⟩ := Option.isSome_iff_exists.1 e
   obtain ⟨c, h1, _⟩ := hnew id cs' hc
   rw [hp_at, h1]; rfl
 have hno : ∀ id c, lk s.h id = some c -> lk fz id = none -> G.ph id = false -> ¬ G.Im (G.β id) -> ¬ fzIm G (fzH fz) (G.β id) := by
   rintro id c h1 h2 hp h3 (h4 | ⟨i, hi, hpi, he⟩)
   . exact h3 h4
   . obtain ⟨x, hx⟩ := Option.isSome_iff_exists.1 hi
     obtain ⟨h5, h6⟩ := hF i x hx
     have : i = id := hI.inj i id (by show ((s.h.hp rs) i).isSome = true; rw [h5]; rfl) (by show ((s.h.hp rs) id).isSome = true; rw [hp_at, h1]; rfl) hpi hp he
     subst this
     simp only [fzH, h2] at hx
     cases hx
 have hchg : Chg (· < s.n) G W { G with Im := fzIm G (fzH fz) } W := ⟨fun i _ => ⟨rfl, rfl, rfl, rfl⟩, fun b hb => ⟨.inl hb, rfl⟩⟩
 refine ⟨{ G with Im := fzIm G (fzH fz) }, { fr := fun t => ?_, wf := fun t => ?_, hp := fun id cs' hid => ?_, wh := fun id cs' hid => ?_, dom := fun id hid => ?_, inj := fun i j h1 h2 => ?_, own := fun i h1 => ?_, im := fun b hb => ?_, im0 := fun b hb => .inl (hI.im0 b hb), keep := hI.keep, stab := fun i h1 h2 => ?_, sU := hI.sU, nt := hI.nt, df := ?_, gl := hI.gl.mono fun b hb => ⟨.inl hb, rfl⟩ }⟩
 . show RV _ W ((Tr.map _ s.f).fn t) _
   rw [Tr.fn_map cvV_tup0]
   exact cvV_rel hB (AV.mono (fun _ _ => trivial) (fun _ h => h) (hI.wf t)) (hI.fr t)
 . show AV _ _ ((Tr.map _ s.f).fn t)
   rw [Tr.fn_map cvV_tup0]
   exact cvV_ok (hI.wf t)
 . obtain ⟨c, h1, h2, rfl⟩ := hnew id cs' hid
   have hh : (s.h.hp rs) id = some (c.toC rs id) := by rw [hp_at, h1]; rfl
   have hu : id < s.n := hI.dom id (by show ((s.h.hp rs) id).isSome = true; rw [hh]; rfl)
   have same : HB { G with Im := fzIm G (fzH fz) } W id (c.toC rs id) := hchg.hb hu (hI.wh id _ hh) (hI.hp id _ hh) (fun _ => rfl) (fun hx hph => Classical.byContradiction fun hn => hno id c h1 h2 hph hn hx)
   cases c with
   | mp es => exact same
   | st st => exact same
   | cs l =>
     show HB _ W id (l.map (cv1 fz noDead))
     have hcell : ∀ c ∈ l.map (cv1 fz noDead), V.isCell c = true := by
       have h3 := hc2 (id, .cs (l.map (cv1 fz noDead)))
       have h4 : (id, EC.cs (l.map (cv1 fz noDead))) ∈ (s.h.filter fun p => (lk fz p.1).isNone).map fun p => (p.1, cvE fz p.2) := by
         refine List.mem_map.2 ⟨(id, .cs l), List.mem_filter.2 ⟨lk_mem' h1, by simp [h2]⟩, rfl⟩
       have := h3 h4
       simpa [isCs] using this
     have hl0 : HB G W id l := hI.hp id _ hh
     rcases hl0 with ⟨h5, h6⟩ | ⟨h5, h0, h6, c, T, h7, h8, h9, h10, h11⟩ | ⟨h5, h0, h6, hl⟩
     . have : l = [] := h6
       subst this
       exact .inl ⟨h5, rfl⟩
     . refine .inr (.inl ⟨h5, h0, hno id _ h1 h2 h5 h6, c, T, h7, h8, by simpa using h9, ?_, by simpa using hcell⟩)
       rw [List.length_map]
       refine All2.map_left.2 (All2.of_get (by simpa using h10.length) fun i y z hy hz => ?_)
       obtain ⟨u, hu, hwu⟩ := h10.get hy
       rw [hz] at hu; cases hu
       exact cv1_rel hB (R1.ac hwu (AC.mono (fun _ _ => trivial) (fun _ h => h) (hI.wh id _ hh _ (List.mem_of_getElem? hy)))) hwu
     . have hcl : ∀ y ∈ l, V.isCell y = false -> False := fun y hy hn => by
         have := hcell _ (List.mem_map.2 ⟨y, hy, rfl⟩)
         cases y <;> first | (simp [V.isCell] at hn; done) | (simp [cv1, cv0, V.isCell] at this; done)
       rcases hl with ⟨hz, fr, nt, ps, pa, pb, jmp, rec, h7, h8, h9⟩ | ⟨hz, es, ms, ck, h7, h8, h9⟩ | ⟨hz, bx, bp, bv, h7, h8, h9, h10, h11⟩
       . have : l = [_] := h7
         subst this
         exact (hcl (.lr fr nt ps pa pb jmp) (by simp) rfl).elim
       . have : l = mapC es := h7
         subst this
         exact (hcl (mapB es) (by simp [mapC]) rfl).elim
       . have : l = [bx, _] := h7
         subst this
         have hb1 : A1 (fun _ => True) anyD bx := R1.ac h10 (AC.mono (fun _ _ => trivial) (fun _ h => h) (hI.wh id _ hh bx (by simp [EC.toC])))
         refine .inr (.inr ⟨h5, h0, hno id _ h1 h2 h5 h6, .inr (.inr ⟨hz, cv1 fz noDead bx, bp, bv, rfl, h8, h9, cv1_rel hB hb1 h10, hcell _ (by simp)⟩)⟩)
 . obtain ⟨c, h1, h2, rfl⟩ := hnew id cs' hid
   have hh : (s.h.hp rs) id = some (c.toC rs id) := by rw [hp_at, h1]; rfl
   have hw := hI.wh id _ hh
   cases c with
   | mp es => exact hw
   | st st => exact hw
   | cs l =>
     intro y hy
     have hy : y ∈ l.map (cv1 fz noDead) := hy
     obtain ⟨x, hx, rfl⟩ := List.mem_map.1 hy
     have h3 := hw x hx
     cases x with
     | lr => exact h3
     | _ => exact A1.ac (cv1_ok h3)
 . exact hI.dom id (hold id hid)
 . exact hI.inj i j (hold i h1) (hold j h2)
 . exact hI.own i (hold i h1)
 . rcases hb with hb | ⟨i, hi, hp, rfl⟩
   . exact hI.im b hb
   . obtain ⟨x, hx⟩ := Option.isSome_iff_exists.1 hi
     obtain ⟨h5, h6⟩ := hF i x hx
     exact ⟨(hI.hp i x h5).lt hp, .inr (hI.own i (by show ((s.h.hp rs) i).isSome = true; rw [h5]; rfl) hp)⟩
 . exact hI.stab i h1 (hold i h2)
 . obtain ⟨ds, h1, h2⟩ := hI.df
   refine ⟨ds, h1, h2.nodup, fun D hD => ?_, h2.nm⟩
   obtain ⟨h3, h4, h5⟩ := h2.at' D hD
   refine ⟨h3, h4, ?_⟩
   rintro (h6 | ⟨i, hi, hp, rfl⟩)
   . exact h5 h6
   . obtain ⟨x, hx⟩ := Option.isSome_iff_exists.1 hi
     exact (hI.hp i x (hF i x hx).1).kind hp h3
theorem fzAll_weak {ks : List Nat} {ex : EH} {rs : RS} (hE : ∀ i, E.stab i -> i ∈ ks) : ∀ (n : Nat) (s s' : ES), fzAll ks ex n s = some s' -> Weak P E (s.abs rs) (s'.abs rs)
 | 0, s, s', h => by cases h; exact Weak.self
 | n + 1, s, s', h => by
   simp only [fzAll] at h
   split at h
   . exact clean_weak hE h
   . simp only [Option.bind_eq_some_iff] at h
     obtain ⟨s1, h1, h2⟩ := h
     exact (clean_weak hE h1).trans (fzAll_weak hE n s1 s' h2)
end Go.Psl
namespace Go.Psl
variable {P : Program} {E : Ent}
theorem idxOf_at : ∀ (l : List Nat) (i k : Nat), i ∈ l -> ∃ j, idxOf l i k = some (k + j) /\ l[j]? = some i
 | [], _, _, h => by cases h
 | x :: r, i, k, h => by
   by_cases e : i = x
   . exact ⟨0, by simp [idxOf, e], by simp [e]⟩
   . rcases List.mem_cons.1 h with h | h
     . exact absurd h e
     . obtain ⟨j, h1, h2⟩ := idxOf_at r i (k + 1) h
       exact ⟨j + 1, by simp only [idxOf, if_neg e, h1]; congr 1; omega, by simpa using h2⟩
section wv
variable {p : Nat -> Bool} {σ : Nat -> Nat} {ρ : Nat -> Option Nat}
theorem W0_of (hp : ∀ i, p i = true -> ρ (σ i) = some i) {v : V} (h : ok0 p v = true) : W0 ρ v (ren0 σ v) := by
 cases v with
 | junk => trivial
 | d x => rfl
 | lp id off => exact ⟨id, hp id h, rfl⟩
 | ls id off len sz =>
   show match ρ (σ id) with | some j => _ | none => _
   rw [hp id h]
 | yl id => exact ⟨id, hp id h, rfl⟩
 | _ => cases h
theorem W1_of (hp : ∀ i, p i = true -> ρ (σ i) = some i) {v : V} (h : ok1 p v = true) : W1 ρ v (ren1 σ v) := by
 cases v with
 | cl f caps => exact ⟨caps, rfl, All2.of_get (by simp) fun i a b ha hb => by
     rw [List.getElem?_map, ha] at hb; cases hb
     exact W0_of hp (List.all_eq_true.1 h a (List.mem_of_getElem? ha))⟩
 | _ => first | exact W0_of hp (by simpa [ok1] using h) | (simp [ok1, ok0] at h)
theorem W2_of (hp : ∀ i, p i = true -> ρ (σ i) = some i) {v : V} (h : ok2 p v = true) : W2 ρ v (ren2 σ v) := by
 cases v with
 | agg cs => exact ⟨cs, rfl, All2.of_get (by simp) fun i a b ha hb => by
     rw [List.getElem?_map, ha] at hb; cases hb
     exact W1_of hp (List.all_eq_true.1 h a (List.mem_of_getElem? ha))⟩
 | _ => first | exact W1_of hp (by simpa [ok2] using h) | (simp [ok2, ok1, ok0] at h)
theorem WV_of (hp : ∀ i, p i = true -> ρ (σ i) = some i) {v : V} (h : okV p v = true) : WV ρ v (ren σ v) := by
 cases v with
 | tup cs => exact ⟨cs, rfl, All2.of_get (by simp) fun i a b ha hb => by
     rw [List.getElem?_map, ha] at hb; cases hb
     exact W2_of hp (List.all_eq_true.1 h a (List.mem_of_getElem? ha))⟩
 | _ => first | exact W2_of hp (by simpa [okV] using h) | (simp [okV, ok2, ok1, ok0] at h)
end wv
theorem WC_cell {ρ : Nat -> Option Nat} {v w : V} (hw : V.isCell w = true) (h : W1 ρ v w) : WC ρ v w := by
 cases w <;> first | exact h | (simp [V.isCell] at hw)
theorem HpOk_of {ρ : Nat -> Option Nat} {H : Hp} : ∀ {L : List (Nat × List V)}, (∀ p ∈ L, ∃ j, ρ p.1 = some j /\ (∃ cs, H j = some cs /\ All2 (WC ρ) cs p.2) /\ cellsOk p.2) -> HpOk ρ H L
 | [], _ => trivial
 | p :: r, h => by
   obtain ⟨j, h1, h2⟩ := h p (by simp)
   refine ⟨?_, HpOk_of fun q hq => h q (by simp [hq])⟩
   rw [h1]; exact h2
theorem RhoInj_of {ρ : Nat -> Option Nat} : ∀ {L : List (Nat × List V)}, (∀ p ∈ L, ∀ q ∈ L, ρ q.1 = none \/ ρ q.1 ≠ ρ p.1 \/ q.1 = p.1) -> RhoInj ρ L
 | [], _ => trivial
 | p :: r, h => ⟨fun q hq => h p (by simp) q (by simp [hq]), RhoInj_of fun p hp q hq => h p (by simp [hp]) q (by simp [hq])⟩
theorem StabL_of {ρ : Nat -> Option Nat} {H h : Hp} : ∀ {ks : List Nat}, (∀ i ∈ ks, (h i).isSome = true -> ρ i = some i /\ (H i).isSome = true) -> StabL ρ H h ks
 | [], _ => trivial
 | k :: r, h => ⟨h k (by simp), StabL_of fun i hi => h i (by simp [hi])⟩
theorem lk_some_of {α : Type} : ∀ {L : List (Nat × α)} {i : Nat} {x : α}, (i, x) ∈ L -> (lk L i).isSome = true
 | [], _, _, h => by cases h
 | p :: r, i, x, h => by
   simp only [lk]
   split
   . rfl
   . rename_i hn
     rcases List.mem_cons.1 h with h | h
     . cases h; exact absurd rfl hn
     . exact lk_some_of h
theorem reach_mem (rs : RS) (emp : Bool) (h : EH) (n : Nat) (todo : List Nat) : ∀ q ∈ reach rs emp h n todo [], lk (reach rs emp h n todo []) q.1 = some q.2 /\ lk h q.1 = some q.2 := fun q hq => by
 have h1 := reach_nd rs emp h n todo [] (fun _ _ h => by cases h) q.1 q.2 hq
 exact ⟨h1, reach_sub rs emp h n todo [] (fun _ _ h => by cases h) q.1 q.2 h1⟩
theorem hand_mem (rs : RS) (emp : Bool) (h : EH) (is : List Nat) : (∀ q ∈ hand rs emp h is, lk (hand rs emp h is) q.1 = some q.2 /\ lk h q.1 = some q.2) /\ ∀ i c, lk (hand rs emp h is) i = some c -> lk h i = some c := by
 have h0 : ∀ i c, lk (hand rs emp h is) i = some c -> lk h i = some c := fun i c hi => by
   unfold hand at hi
   simp only at hi
   split at hi
   . exact reach_sub rs true h _ _ _ (fun i c => reach_sub rs false h _ _ [] (fun _ _ h => by cases h) i c) i c hi
   . exact reach_sub rs false h _ _ [] (fun _ _ h => by cases h) i c hi
 refine ⟨fun q hq => ?_, h0⟩
 have hn : Nd (hand rs emp h is) := by
   unfold hand
   simp only
   split
   . exact reach_nd rs true h _ _ _ (reach_nd rs false h _ _ [] (fun _ _ h => by cases h))
   . exact reach_nd rs false h _ _ [] (fun _ _ h => by cases h)
 have h1 := hn q.1 q.2 hq
 exact ⟨h1, h0 _ _ h1⟩
theorem endN_ok {rs : RS} {ks : List Nat} {res r' : Res} {h H1 : EH} (he : endN rs ks res h = some (r', H1)) :
   ResIds r'.v (H1.toL rs) /\ (∃ σ, r' = renR σ res) /\ ∃ ρ, WV ρ res.v r'.v /\ HpOk ρ (h.hp rs) (H1.toL rs) /\ RhoInj ρ (H1.toL rs) /\ StabL ρ (h.hp rs) (lk (H1.toL rs)) ks := by
 unfold endN at he
 simp only at he
 split at he
 case isFalse => cases he
 rename_i hc
 have hm := reach_mem rs true h 100000 (ks ++ nmV res.v)
 generalize reach rs true h 100000 (ks ++ nmV res.v) [] = all at *
 simp only [Bool.and_eq_true, List.all_eq_true] at hc
 obtain ⟨⟨⟨hl, hk⟩, hr⟩, ha⟩ := hc
 generalize hfrs : (all.filter fun p => !ks.contains p.1).map (·.1) = frs at *
 have hσi : ∀ i, sgN ks frs i = if ks.contains i = true then i else (idxOf frs i 0).getD i := fun _ => rfl
 generalize sgN ks frs = σ at *
 let ρ : Nat -> Option Nat := fun j => if lo <= j then some j else frs[j]?
 have hlen : frs.length <= lo := Nat.le_of_ble_eq_true hl
 have hks : ∀ i ∈ ks, lo <= i := fun i hi => Nat.le_of_ble_eq_true (hk i hi)
 have hp : ∀ i, (lk all i).isSome = true -> ρ (σ i) = some i := fun i hi => by
   rw [hσi]
   by_cases hc : ks.contains i = true
   . rw [if_pos hc]
     have := hks i (by simpa using hc)
     simp only [ρ, if_pos this]
   . rw [if_neg hc]
     obtain ⟨c, hi⟩ := Option.isSome_iff_exists.1 hi
     have hmem : i ∈ frs := by
       rw [<- hfrs]
       exact List.mem_map.2 ⟨(i, c), List.mem_filter.2 ⟨lk_mem' hi, by simpa using hc⟩, rfl⟩
     obtain ⟨j, h1, h2⟩ := idxOf_at frs i 0 hmem
     have hj := (List.getElem?_eq_some_iff.1 h2).1
     rw [h1]
     simp only [Option.getD_some, Nat.zero_add, ρ]
     rw [if_neg (by omega), h2]
 cases he
 have hv : (renR σ res).v = ren σ res.v := by cases res <;> rfl
 have hB : ∀ i, (lk all i).isSome = true -> InB (EH.toL rs (all.map fun q => (σ q.1, renE σ q.2))) (σ i) := fun i hi => by
   obtain ⟨c, hi⟩ := Option.isSome_iff_exists.1 hi
   refine lk_some_of (x := (renE σ c).toC rs (σ i)) ?_
   exact List.mem_map.2 ⟨(σ i, renE σ c), List.mem_map.2 ⟨(i, c), lk_mem' hi, rfl⟩, rfl⟩
 have hst : ∀ q ∈ all, ∀ s, q.2 = .st s -> σ q.1 = q.1 /\ ∃ r, lk rs q.1 = some r /\ ∀ t, AV (fun i => (ks.contains i && (lk all i).isSome) = true) anyD (r.F.fn t) := fun q hq s hs => by
   have h1 := (ha q hq).2
   rw [hs] at h1
   simp only [stK, Bool.and_eq_true] at h1
   refine ⟨by rw [hσi, if_pos h1.1], ?_⟩
   cases hr : lk rs q.1 with
   | none => rw [hr] at h1; cases h1.2
   | some r => rw [hr] at h1; exact ⟨r, rfl, fun t => AV_vals h1.2 t⟩
 have hks2 : ∀ i, ks.contains i = true -> ρ i = some i := fun i hi => by
   have := hks i (by simpa using hi)
   simp only [ρ, if_pos this]
 have hksB : ∀ q ∈ all, ∀ s, q.2 = .st s -> ∀ c ∈ (EC.st s).toC rs q.1, AC (InB (EH.toL rs (all.map fun q => (σ q.1, renE σ q.2)))) anyD c := fun q hq s hs c hc => by
   obtain ⟨_, r, h2, h3⟩ := hst q hq s hs
   simp only [EC.toC, h2, List.mem_singleton] at hc
   subst hc
   intro t
   refine AV.mono (fun i hi => ?_) (fun _ h => h) (h3 t)
   simp only [Bool.and_eq_true] at hi
   have := hB i hi.2
   rwa [hσi, if_pos hi.1] at this
 refine ⟨⟨?_, ?_⟩, ⟨σ, rfl⟩, ρ, ?_, ?_, ?_, ?_⟩
 . rw [hv]
   exact (AV_of hr).ren hB
 . intro p hp c hc
   obtain ⟨q, hq, rfl⟩ := List.mem_map.1 hp
   obtain ⟨q0, hq0, rfl⟩ := List.mem_map.1 hq
   cases hq2 : q0.2 with
   | cs l =>
     simp only [hq2, renE, EC.toC] at hc
     obtain ⟨x, hx, rfl⟩ := List.mem_map.1 hc
     have h1 := (ha q0 hq0).1
     rw [hq2] at h1
     have h2 := List.all_eq_true.1 h1 x hx
     simp only [Bool.and_eq_true] at h2
     exact A1.ac ((A1_of h2.2).ren hB)
   | mp es =>
     simp only [hq2, renE, EC.toC] at hc
     exact AC_mapC c hc
   | st s =>
     obtain ⟨h0, _⟩ := hst q0 hq0 s hq2
     simp only [hq2, renE, h0] at hc
     exact hksB q0 hq0 s hq2 c hc
 . rw [hv]
   exact WV_of hp hr
 . refine HpOk_of fun p hpm => ?_
   obtain ⟨q, hq, rfl⟩ := List.mem_map.1 hpm
   obtain ⟨q0, hq0, rfl⟩ := List.mem_map.1 hq
   obtain ⟨h1, h2⟩ := hm q0 hq0
   refine ⟨q0.1, hp q0.1 (by rw [h1]; rfl), ⟨_, by rw [hp_at, h2]; rfl, ?_⟩, ?_⟩
   . cases hq2 : q0.2 with
     | cs l =>
       simp only [renE, EC.toC]
       have h3 := (ha q0 hq0).1
       rw [hq2] at h3
       refine All2.of_get (by simp) fun i a b hia hib => ?_
       rw [List.getElem?_map, hia] at hib; cases hib
       have h4 := List.all_eq_true.1 h3 a (List.mem_of_getElem? hia)
       simp only [Bool.and_eq_true] at h4
       exact WC_cell (isCell_ren h4.1) (W1_of hp h4.2)
     | mp es =>
       simp only [renE, EC.toC, mapC]
       exact ⟨⟨rfl, fun t => AV_map t⟩, rfl, trivial⟩
     | st s =>
       obtain ⟨h0, r, h5, h6⟩ := hst q0 hq0 s hq2
       simp only [renE, EC.toC, h0, h5]
       exact ⟨⟨rfl, fun t => AV.mono (fun i hi => hks2 i (by simp only [Bool.and_eq_true] at hi; exact hi.1)) (fun _ h => h) (h6 t)⟩, trivial⟩
   . cases hq2 : q0.2 with
     | cs l =>
       simp only [renE, EC.toC]
       have h3 := (ha q0 hq0).1
       rw [hq2] at h3
       refine .inl ?_
       rw [List.all_map, List.all_eq_true]
       intro a hia
       have h4 := List.all_eq_true.1 h3 a hia
       simp only [Bool.and_eq_true] at h4
       exact isCell_ren h4.1
     | mp es => exact .inr (.inr ⟨es, rfl⟩)
     | st s =>
       obtain ⟨h0, r, h5, h6⟩ := hst q0 hq0 s hq2
       simp only [renE, EC.toC, h0, h5]
       exact .inr (.inl ⟨_, _, _, _, _, _, rfl⟩)
 . refine RhoInj_of fun p hpm q hqm => ?_
   obtain ⟨p1, hp1, rfl⟩ := List.mem_map.1 hpm
   obtain ⟨p0, hp0, rfl⟩ := List.mem_map.1 hp1
   obtain ⟨q1, hq1, rfl⟩ := List.mem_map.1 hqm
   obtain ⟨q0, hq0, rfl⟩ := List.mem_map.1 hq1
   have e1 := hp p0.1 (by rw [(hm p0 hp0).1]; rfl)
   have e2 := hp q0.1 (by rw [(hm q0 hq0).1]; rfl)
   simp only [e1, e2]
   by_cases e : q0.1 = p0.1
   . exact .inr (.inr (by rw [e]))
   . exact .inr (.inl (by simpa using e))
 . refine StabL_of fun i hi hs => ?_
   have h1 := hks2 i (by simpa using hi)
   refine ⟨h1, ?_⟩
   obtain ⟨x, hx⟩ := Option.isSome_iff_exists.1 hs
   obtain ⟨q1, hq1, e⟩ := List.mem_map.1 (lk_mem' hx)
   obtain ⟨q0, hq0, rfl⟩ := List.mem_map.1 hq1
   have e1 : σ q0.1 = i := congrArg Prod.fst e
   have e2 := hp q0.1 (by rw [(hm q0 hq0).1]; rfl)
   rw [e1, h1] at e2
   cases e2
   rw [hp_at, (hm q0 hq0).2]; rfl
end Go.Psl
namespace Go.Psl
variable {P : Program} {E : Ent} {C : Cfg}
section keep
variable {ρ : Nat -> Nat}
theorem ren0_keep {v : V} (h : A0 (fun i => ρ i = i) anyD v) : ren0 ρ v = v := by
 cases v with
 | lp id off => show V.lp (ρ id) off = _; rw [show ρ id = id from h]
 | ls id off len sz => show V.ls (ρ id) off len sz = _; rw [show ρ id = id from h]
 | yl id => show V.yl (ρ id) = _; rw [show ρ id = id from h]
 | _ => rfl
theorem map_keep {f : V -> V} : ∀ {l : List V}, (∀ c ∈ l, f c = c) -> l.map f = l
 | [], _ => rfl
 | a :: r, h => by rw [List.map_cons, h a (by simp), map_keep fun c hc => h c (by simp [hc])]
theorem ren1_keep' {v : V} (h : A1 (fun i => ρ i = i) anyD v) : ren1 ρ v = v := by
 cases v with
 | cl f caps => exact congrArg (V.cl f) (map_keep fun c hc => ren0_keep (h c hc))
 | lp id off => exact ren0_keep (ρ := ρ) (v := .lp id off) h
 | ls id off len sz => exact ren0_keep (ρ := ρ) (v := .ls id off len sz) h
 | yl id => exact ren0_keep (ρ := ρ) (v := .yl id) h
 | _ => rfl
theorem ren2_keep {v : V} (h : A2 (fun i => ρ i = i) anyD v) : ren2 ρ v = v := by
 cases v with
 | agg cs => exact congrArg V.agg (map_keep fun c hc => ren1_keep' (h c hc))
 | cl f caps => exact ren1_keep' (ρ := ρ) (v := .cl f caps) h
 | lp id off => exact ren0_keep (ρ := ρ) (v := .lp id off) h
 | ls id off len sz => exact ren0_keep (ρ := ρ) (v := .ls id off len sz) h
 | yl id => exact ren0_keep (ρ := ρ) (v := .yl id) h
 | _ => rfl
theorem ren_keep {v : V} (h : AV (fun i => ρ i = i) anyD v) : ren ρ v = v := by
 cases v with
 | tup cs => exact congrArg V.tup (map_keep fun c hc => ren2_keep (h c hc))
 | agg cs => exact ren2_keep (ρ := ρ) (v := .agg cs) h
 | cl f caps => exact ren1_keep' (ρ := ρ) (v := .cl f caps) h
 | lp id off => exact ren0_keep (ρ := ρ) (v := .lp id off) h
 | ls id off len sz => exact ren0_keep (ρ := ρ) (v := .ls id off len sz) h
 | yl id => exact ren0_keep (ρ := ρ) (v := .yl id) h
 | _ => rfl
end keep
theorem lk_sg {β : Type} {ks : List Nat} {b : Nat} (hks : ∀ i ∈ ks, i < b) (g : EC -> β) : ∀ (H1 : EH) (id : Nat), lk (H1.map fun p => (sg ks b p.1, g p.2)) id = if id ∈ ks then (lk H1 id).map g else if b <= id /\ (id - b) ∉ ks then (lk H1 (id - b)).map g else none
 | [], id => by simp [lk]
 | p :: r, id => by
   simp only [List.map_cons, lk, lk_sg hks g r id]
   by_cases hp : p.1 ∈ ks
   . have e : sg ks b p.1 = p.1 := by simp [sg, hp]
     rw [e]
     by_cases h : id = p.1
     . subst h; simp [hp]
     . simp only [if_neg h]
       by_cases hi : id ∈ ks
       . simp [hi]
       . simp only [if_neg hi]
         by_cases hb : b <= id /\ (id - b) ∉ ks
         . have : id - b ≠ p.1 := fun e => hb.2 (e ▸ hp)
           simp [hb, this]
         . simp [hb]
   . have e : sg ks b p.1 = b + p.1 := by simp [sg, hp]
     rw [e]
     by_cases h : id = b + p.1
     . subst h
       have h1 : ¬ (b + p.1) ∈ ks := fun h => by have := hks _ h; omega
       simp [h1, hp]
     . simp only [if_neg h]
       by_cases hi : id ∈ ks
       . have : id ≠ p.1 := fun e => hp (e ▸ hi)
         simp [hi, this]
       . simp only [if_neg hi]
         by_cases hb : b <= id /\ (id - b) ∉ ks
         . have : id - b ≠ p.1 := by omega
           simp [hb, this]
         . simp [hb]
theorem toC_ren {rs : RS} {ks : List Nat} {b i i' : Nat} {c : EC} (h1 : isCs c = true) (h2 : stK rs ks ks.contains i c = true) (hi : ∀ s, c = .st s -> i' = i) : (renE (sg ks b) c).toC rs i' = (c.toC rs i).map (renC (sg ks b)) := by
 cases c with
 | cs l =>
   exact List.map_congr_left fun x hx => (renC_cell (List.all_eq_true.1 h1 x hx)).symm
 | mp es =>
   show mapC es = (mapC es).map _
   simp only [mapC, List.map_cons, List.map_nil, renC_map]
   rfl
 | st s =>
   cases hi s rfl
   simp only [renE, EC.toC]
   simp only [stK, Bool.and_eq_true] at h2
   cases hr : lk rs i with
   | none => rfl
   | some r =>
     rw [hr] at h2
     simp only [List.map_cons, List.map_nil, renC]
     refine congrArg (fun f => [V.lr f _ _ _ _ _]) (funext fun t => ?_)
     refine (ren_keep ?_).symm
     exact AV.mono (fun j hj => by
       have : j ∈ ks := by simpa using hj
       simp [sg, this]) (fun _ h => h) (AV_vals h2.2 t)
theorem goodH_at {rs : RS} {ks : List Nat} {H1 : EH} (h : goodH rs ks H1 = true) {i : Nat} {c : EC} (hi : lk H1 i = some c) : (i ∈ ks \/ i < 1048576) /\ isCs c = true /\ stK rs ks ks.contains i c = true := by
 have := List.all_eq_true.1 h _ (lk_mem' hi)
 simp only [Bool.and_eq_true, Bool.or_eq_true] at this
 refine ⟨this.1.imp (fun h => by simpa using h) (fun h => ?_), this.2⟩
 exact Nat.le_of_ble_eq_true h
theorem after_hp {rs : RS} {h L H1 : EH} {b : Nat} {ks : List Nat} (hg : goodH rs ks H1 = true) (hL : ∀ i c, lk L i = some c -> i < b) (hk : ∀ i ∈ ks, (lk L i).isSome = true) :
   (afterH h b L ks H1).hp rs = heapM (h.hp rs) b (lk (L.toL rs)) ks (lk (H1.toL rs)) := by
 have hks : ∀ i ∈ ks, i < b := fun i hi => by
   obtain ⟨c, hc⟩ := Option.isSome_iff_exists.1 (hk i hi)
   exact hL i c hc
 funext id
 rw [hp_at, <- hp_eq, <- hp_eq]
 simp only [afterH, lk_append, lk_sg hks (renE (sg ks b)), lk_filter (fun i => (lk L i).isNone), heapM, hp_at]
 by_cases hi : id ∈ ks
 . have hs := hk id hi
   simp only [if_pos hi]
   cases hc : lk H1 id with
   | none =>
     have : (lk L id).isNone = false := by cases h : lk L id <;> simp_all
     simp [this]
   | some c =>
     obtain ⟨_, h1, h2⟩ := goodH_at hg hc
     simp only [Option.map_some, Option.some_or]
     rw [toC_ren h1 h2 fun _ _ => rfl]
 . simp only [if_neg hi]
   rcases Option.eq_none_or_eq_some (lk L id) with hl | ⟨x, hl⟩
   case inr =>
     have := hL id x hl
     simp [hl, show ¬ b <= id by omega]
   case inl =>
     simp only [hl, Option.map_none, Option.isSome_none, Bool.false_eq_true, if_false, Option.isNone_none, if_true]
     by_cases hb : b <= id
     . by_cases hib : id - b ∈ ks
       . simp [hb, hib]
       . simp only [hb, hib, not_false_eq_true, and_self, if_true, if_false]
         cases hc : lk H1 (id - b) with
         | none => simp
         | some c =>
           obtain ⟨_, h1, h2⟩ := goodH_at hg hc
           simp only [Option.map_some, Option.some_or]
           rw [toC_ren h1 h2 fun s hs => ?_]
           subst hs
           simp only [stK, Bool.and_eq_true] at h2
           exact absurd (by simpa using h2.1) hib
     . simp [hb]
theorem callOk_at {rs : RS} {b : Nat} {az : List V} {L : EH} (h : callOk rs b az L = true) : (∀ v ∈ az, Bor noH v v /\ A2 (fun i => lo <= i /\ i < b) anyD v) /\ ∀ q ∈ L, (lo <= q.1 /\ q.1 < b) /\ ∀ x ∈ q.2.toC rs q.1, AC (fun i => lo <= i /\ i < b) anyD x := by
 have hp : ∀ i, (Nat.ble lo i && Nat.blt i b) = true -> lo <= i /\ i < b := fun i hi => by
   simp only [Bool.and_eq_true] at hi
   exact ⟨Nat.le_of_ble_eq_true hi.1, Nat.le_of_ble_eq_true hi.2⟩
 simp only [callOk, Bool.and_eq_true, List.all_eq_true] at h
 refine ⟨fun v hv => ⟨bor_of (h.1 v hv).1, A2.mono hp (fun _ h => h) (A2_of (h.1 v hv).2)⟩, fun q hq => ?_⟩
 have := h.2 q hq
 refine ⟨hp q.1 (by simp only [Bool.and_eq_true]; exact this.1), fun x hx => ?_⟩
 exact AC.mono hp (fun _ h => h) (AC_okE this.2 x hx)
structure CrOk (rs : RS) (hv : EH) (b : Nat) (az : List V) (q : CR) : Prop where
 sub : ∀ i c, lk q.L i = some c -> lk hv i = some c
 nd : ∀ p ∈ q.L, lk q.L p.1 = some p.2
 ok : callOk rs b az q.L = true
 hk : ∀ i ∈ q.ks, ∃ c, lk q.L i = some c /\ ECe rs i c = false
 good : goodH rs q.ks q.H1 = true
theorem ks_hk {rs : RS} {L : EH} (nd : ∀ p ∈ L, lk L p.1 = some p.2) : ∀ i ∈ ksOf rs L, ∃ c, lk L i = some c /\ ECe rs i c = false := fun i hi => by
 obtain ⟨c, h1, h2⟩ := ks_mem hi
 exact ⟨c, nd _ h1, h2⟩
theorem CrOk.lt {rs : RS} {hv : EH} {b : Nat} {az : List V} {q : CR} (h : CrOk rs hv b az q) : ∀ i c, lk q.L i = some c -> i < b := fun _ _ hi => ((callOk_at h.ok).2 _ (lk_mem' hi)).1.2
theorem CrOk.hp {rs : RS} {hv h : EH} {b : Nat} {az : List V} {q : CR} (hq : CrOk rs hv b az q) : (q.h h b).hp rs = heapM (h.hp rs) b (lk (q.L.toL rs)) q.ks (lk (q.H1.toL rs)) :=
 after_hp hq.good hq.lt fun i hi => by obtain ⟨c, hc, _⟩ := hq.hk i hi; rw [hc]; rfl
theorem CrOk.callB {rs : RS} {hv : EH} {b : Nat} {az : List V} {q : CR} (hq : CrOk rs hv b az q) : CallB (hv.hp rs) az az (lk (q.L.toL rs)) q.ks q.res (lk (q.H1.toL rs)) := by
 refine ⟨fun i cs h => ?_, fun i h hn => ?_, fun i hi => ?_, .inl (All2.refl fun v hv => ((callOk_at hq.ok).1 v hv).1)⟩
 . rw [<- hp_eq, hp_at] at h
   rw [hp_at]
   cases hl : lk q.L i with
   | none => rw [hl] at h; cases h
   | some c => rw [hl] at h; rw [hq.sub i c hl]; exact h
 . rw [<- hp_eq] at h
   simp only [InH, hp_at] at h
   cases hl : lk q.H1 i with
   | none => rw [hl] at h; cases h
   | some c => exact ((goodH_at hq.good hl).1).resolve_left hn
 . obtain ⟨c, h1, h2⟩ := hq.hk i hi
   exact ⟨_, by rw [<- hp_eq, hp_at, h1]; rfl, ECe_ne h2⟩
abbrev RunOk (P : Program) (C : Cfg) (ev : Ev) : Prop := ∀ me rs g az L ks N res H1, runE C ev me rs g az L ks N = some (res, H1) -> callOk rs N az L = true -> (∀ p ∈ L, lk L p.1 = some p.2) -> (∀ i ∈ ks, ∃ c, lk L i = some c /\ ECe rs i c = false) -> Cm P g az (lk (L.toL rs)) ks res (lk (H1.toL rs))
abbrev YldOk (P : Program) (ev : Ev) : Prop := ∀ rs h b k az q, yieldE ev rs h b k az = some q -> Ym P k az (lk (q.L.toL rs)) q.ks q.res (lk (q.H1.toL rs))
theorem callE_ok {ev : Ev} (hR : RunOk P C ev) {me : Nat} {rs : RS} {emp : Bool} {hv : EH} {b : Nat} {g : FuncId} {az : List V} {q : CR} (h : callE C ev me rs emp hv b g az = some q) :
   CrOk rs hv b az q /\ Cm P g az (lk (q.L.toL rs)) q.ks q.res (lk (q.H1.toL rs)) := by
 have main : ∀ (L : EH) (ks : List Nat), callOk rs b az L = true -> (∀ p ∈ L, lk L p.1 = some p.2) -> (∀ i c, lk L i = some c -> lk hv i = some c) -> (∀ i ∈ ks, ∃ c, lk L i = some c /\ ECe rs i c = false) -> callQ rs L ks (runE C ev me rs g az L ks b) = some q ->
     CrOk rs hv b az q /\ Cm P g az (lk (q.L.toL rs)) q.ks q.res (lk (q.H1.toL rs)) := fun L ks hok hm hsub hks h => by
   unfold callQ at h
   split at h
   . rename_i r h1
     split at h
     . rename_i hg
       cases h
       exact ⟨⟨hsub, hm, hok, hks, hg⟩, hR _ _ _ _ _ _ _ _ _ h1 hok hm hks⟩
     . cases h
   . cases h
 unfold callE at h
 cases hc : az.all clnV with
 | true =>
   rw [hc, cond_true] at h
   refine main [] [] ?_ (fun p hp => by cases hp) (fun i c hi => by cases hi) (fun i hi => by cases hi) h
   simp only [callOk, List.all_nil, Bool.and_true]
   refine List.all_eq_true.2 fun v hv => ?_
   obtain ⟨h1, h2⟩ := cln_ok (p := fun i => Nat.ble lo i && Nat.blt i b) (List.all_eq_true.1 hc v hv)
   rw [h1, h2]; rfl
 | false =>
   rw [hc, cond_false] at h
   obtain ⟨hm, hsub⟩ := hand_mem rs emp hv (az.flatMap nmV)
   unfold callH callG at h
   split at h
   . rename_i hok
     refine main _ _ hok (fun p hp => (hm p hp).1) hsub (fun i hi => ?_) h
     split at hi
     . cases hi
     . exact ks_hk (fun p hp => (hm p hp).1) i hi
   . cases h
theorem yieldE_ok {ev : Ev} (hY : YldOk P ev) {rs : RS} {h : EH} {b k : Nat} {az : List V} {q : CR} (hq : yieldE ev rs h b k az = some q) :
   CrOk rs h b az q /\ Ym P k az (lk (q.L.toL rs)) q.ks q.res (lk (q.H1.toL rs)) /\ ∃ r, lk rs k = some r /\ lk q.L k = some (.st .ready) /\ r.ps.length = az.length := by
 have hy := hY _ _ _ _ _ _ hq
 unfold yieldE at hq
 obtain ⟨hm, hsub⟩ := hand_mem rs true h (k :: az.flatMap nmV)
 split at hq
 case h_2 => cases hq
 rename_i r hr hk
 simp only at hq
 split at hq
 case isFalse => cases hq
 rename_i hc
 simp only [Bool.and_eq_true] at hc
 obtain ⟨⟨⟨⟨h1, h2⟩, h3⟩, h4⟩, h5⟩ := hc
 have hfin : ∀ (o : Option (Res × EH)), (o.bind fun q => if goodH rs (ksOf rs (hand rs true h (k :: az.flatMap nmV))) q.2 then some (⟨q.1, q.2, hand rs true h (k :: az.flatMap nmV), ksOf rs (hand rs true h (k :: az.flatMap nmV))⟩ : CR) else none) = some q -> CrOk rs h b az q /\ Ym P k az (lk (q.L.toL rs)) q.ks q.res (lk (q.H1.toL rs)) /\ ∃ r, lk rs k = some r /\ lk q.L k = some (.st .ready) /\ r.ps.length = az.length := fun o ho => by
   simp only [Option.bind_eq_some_iff] at ho
   obtain ⟨x, hx1, hx2⟩ := ho
   split at hx2
   case isFalse => cases hx2
   rename_i hg
   cases hx2
   refine ⟨⟨hsub, fun p hp => (hm p hp).1, h1, ks_hk fun p hp => (hm p hp).1, hg⟩, hy, r, hr, ?_, by simpa using h2⟩
   obtain ⟨c, hc⟩ := Option.isSome_iff_exists.1 h4
   have := hsub k c hc
   rw [hk] at this
   cases this
   exact hc
 split at hq
 case h_2 => cases hq
 split at hq
 case h_2 => cases hq
 split at hq
 case h_3 => cases hq
 . split at hq
   . exact hfin _ hq
   . cases hq
 try simp only at hq
 split at hq
 case h_2 => cases hq
 exact hfin _ hq
theorem calE_sound {ev : Ev} (hR : RunOk P C ev) (hY : YldOk P ev) {me : Nat} {rs : RS} {emp : Bool} {hv h : EH} {b : Nat} {cv : V} {az : List V} {q : CR} (hq : calE C ev me rs emp hv b cv az = some q) {m : CM}
   (hm : (m = none /\ emp = true /\ hv = h) \/ ∃ ws k, m = some (ws, k) /\ emp = false /\ (∀ i ∈ chgE q b, (k, i) ∈ ws) /\ ∃ r, q.res = .ret r) {Kc Kx : V -> Hp -> Prop} (hres : afterC q.res (sg q.ks b) ((q.h h b).hp rs) Kc Kx) : callV P m (hv.hp rs) (h.hp rs) b cv az Kc Kx := by
 have call : ∀ g az, callE C ev me rs emp hv b g az = some q -> ACall P m (hv.hp rs) (h.hp rs) b g az Kc Kx := fun g az hc => by
   obtain ⟨h1, h2⟩ := callE_ok hR hc
   refine ⟨az, _, q.ks, q.res, _, _, ⟨h2, h1.callB⟩, ?_, h1.hp, hres⟩
   rcases hm with ⟨rfl, _⟩ | ⟨ws, k, rfl, rfl, hw, r, hr⟩
   . trivial
   . refine ⟨fun _ _ id hid => ?_, fun r' e => by rw [hr] at e; cases e⟩
     rw [<- hp_eq, <- hp_eq] at hid
     rcases hid with ⟨hi, hne⟩ | ⟨hi, hs⟩
     . refine hw id ?_
       simp only [chgE, List.mem_append, List.mem_filter]
       refine .inr ⟨hi, ?_⟩
       obtain ⟨c, hc1, hc2⟩ := h1.hk id hi
       rw [hc1]
       cases hc3 : lk q.H1 id with
       | none => rfl
       | some c' =>
         simp only [Bool.not_eq_true']
         cases he : eqC c (renE (sg q.ks b) c') with
         | false => rfl
         | true =>
           exfalso
           apply hne
           obtain ⟨_, g1, g2⟩ := goodH_at h1.good hc3
           rw [hp_at, hp_at, hc3, hc1]
           simp only [Option.map_some]
           rw [<- toC_ren (b := b) g1 g2 fun _ _ => rfl, <- eqC_eq he]
     . rw [hp_at] at hs
       cases hl : lk q.L id with
       | none => rw [hl] at hs; cases hs
       | some c =>
         refine hw id ?_
         simp only [chgE, List.mem_append]
         exact .inl (List.mem_map.2 ⟨(id, c), List.mem_filter.2 ⟨lk_mem' hl, by simpa using hi⟩, rfl⟩)
 unfold calE at hq
 unfold callV
 split at hq
 . exact call _ _ hq
 . exact call _ _ hq
 . rename_i k
   split at hq
   . rename_i he
     rcases hm with ⟨rfl, _, rfl⟩ | ⟨ws, k', rfl, he', _⟩
     . obtain ⟨h1, h2, r, h3, h4, h5⟩ := yieldE_ok hY hq
       refine ⟨rfl, az, _, q.ks, q.res, _, _, ⟨h2, ⟨r.F.fn, r.nt, r.ps, r.pa, r.pb, .ready, ?_, h5⟩, h1.callB⟩, h1.hp, hres⟩
       rw [<- hp_eq, hp_at, h4]
       simp [EC.toC, h3]
     . rw [he] at he'; cases he'
   . cases hq
 . rename_i g b' c'
   show bndC P m (hv.hp rs) (h.hp rs) b g b'.toList c'.toList az Kc Kx
   unfold bndC
   split at hq
   . rename_i vs h1 h2
     rw [h1, h2]
     exact call _ _ hq
   . cases hq
 . cases hq
end Go.Psl
namespace Go.Psl
variable {P : Program} {Γ : Tys} {eqs : Eqs} {E : Ent} {f0 : FuncId}
theorem PWf.ofA {p : PC} {Q : AExit -> St -> Prop} {st : St} (h : ∀ c, comp E.nt c = some p -> AW P E c Q st) : PWf P E f0 p Q st :=
 fun c hc G a W hI => wpAt.of (h c hc G a W hI)
theorem PWf.weak {p : PC} {Q : AExit -> St -> Prop} {st st' : St} (hw : Weak P E st st') (h : PWf P E f0 p Q st') : PWf P E f0 p Q st := fun c hc G a W hI => by
 obtain ⟨G', hI'⟩ := hw G a W hI
 exact h c hc G' a W hI'
theorem PWf.clQ {p : PC} {Q : AExit -> St -> Prop} {st : St} (h : PWf P E f0 p (clQ P E Q) st) : PWf P E f0 p Q st := fun c hc G a W hI => wpAt.mono (h c hc G a W hI) fun e a' W' ⟨x, st', G', hI', hx, ho, hq⟩ => by
 rcases hq with hq | ⟨st1, hw, hq, hn⟩
 . exact ⟨x, st', G', hI', hx, ho, hq⟩
 . obtain ⟨G2, hI2⟩ := hw G' a' W' hI'
   have hx2 : exRel G2 W' x e := by
     cases x <;> first | exact absurd rfl (hn _) | (cases e <;> exact hx)
   have ho2 : exOk (· < st1.nx) x := by
     cases x <;> first | exact absurd rfl (hn _) | exact trivial
   exact ⟨x, st1, G2, hI2, hx2, ho2, hq⟩
theorem DWf.seqA (hΓ : GOk P Γ) {fn : Func} {r : V} {H1 : List (Nat × List V)} {pa pb : PC} {st : St} (h : ∀ c, comp E.nt c = some pa -> AW P E c (dwfQ P Γ E f0 fn r H1 pb) st) : DWf P E f0 fn r H1 (.seq pa pb) st := by
 intro hri c hc G0 W0 hB G a W hI
 obtain ⟨x, y, rfl, hx, hy⟩ := comp_seq hc
 have h1 := PWf.ofA (f0 := f0) h x hx G a W hI
 rw [hB.rd] at h1
 refine wpAt.seq (wpAt.mono h1 fun e a' W' ⟨z, st', G', hI', hz, ho, hq⟩ => ?_)
 have hbase : E.W0 = W0 /\ E.Im0 = G0.Im /\ (∀ b, E.mu b ↔ lentB G0 noH b) /\ ∀ i, i ∈ ([] : List Nat) -> E.stab i /\ E.β0 i = G0.β i /\ E.bs0 i = G0.bs i /\ E.lo0 i = G0.lo i := ⟨hB.w, hB.im, hB.mu, fun _ h => by cases h⟩
 cases z with
 | normal =>
   cases e <;> first | exact hq hri y hy G0 W0 hB G' a' W' hI' | exact False.elim hz
 | ret =>
   cases e with
   | ret =>
     show LeavesInM Fence.wide 0 P fn a'.tmps (EndR G0 W0 r H1) a'.defers .returning W'
     obtain ⟨ds, hd, hmk⟩ := hI'.df
     rw [hmk.nm hB.nm, hB.dx] at hd
     rw [hd]
     obtain ⟨ρ, v, hv, hr, h4, h5, h6⟩ := run_resM hΓ hI' hq
     exact ⟨v, hv, _, post_of (res := .ret r) hbase hri hI' h4 h5 h6 (e := .returned v) hr⟩
   | _ => exact False.elim hz
 | _ => exact hq.elim
theorem Ym.ofPA {fn : Func} (hpf : P.funcs[panF]? = some fn) {k : Nat} {fr : Nat -> V} {nt : Nat} (hnp : nt = panN) {ps : List Nat} {pa pb : PC} {args : List V} {Hin : Hp} {ks : List Nat} {r : V} {H1 : List (Nat × List V)} (N : Nat)
   (hk : Hin k = some [.lr fr nt ps pa pb .ready]) (hkk : k ∈ ks) (hlen : ps.length = args.length) (hps : ∀ p ∈ ps, p < nt) (hcl : ∀ v ∈ args, A2 (· < N) anyD v) (hids : IdsFn N Hin) (hks : ∀ i ∈ ks, i < N) (hri : ResIds r H1)
   (h : ∀ E : Ent, E.nt = nt -> (∀ i, E.stab i ↔ i ∈ ks) -> E.rd = some (E.β0 k) -> ∀ c, comp E.nt c = some pa -> AW P E c (seqQ (fun st => st.H k = some [.lr fr nt ps pa pb .ready] /\ ∀ c', comp E.nt c' = some pb -> AW P E c' (panQ ks r H1) ⟨st.fr, upd st.H k (some [.lr fr nt ps pa pb .busy]), st.nx⟩) (fun _ _ => False)) ⟨frPuts fr ps args, Hin, N⟩) : Ym P k args Hin ks (.pan r) (lk H1) := by
 intro G W xs rc hGW hargs hpre hrec hsz
 obtain ⟨q1, q2, q3, q4, q5, q6, q7⟩ : LRel G W fr nt ps pa pb .ready rc := by
   rcases hpre.hb k _ hk with ⟨_, h⟩ | ⟨_, _, _, c, T, _, _, _, h, h2⟩ | ⟨h0, h1, h2, ⟨_, fr', nt', ps', pa', pb', jmp', rec, h3, h4, h5⟩ | ⟨_, es, ms, ck, h3, _⟩ | ⟨_, bx, bp, bv, h3, _⟩⟩
   . cases h
   . simp [V.isCell] at h2
   . cases h3; rw [hrec] at h4; cases h4; exact h5
   . simp [mapC] at h3
   . simp at h3
 have hargsV : All2 (RV G W) args xs.toList := hargs.mono fun _ _ _ h => h.rv
 have hfold : (rc.params.zip xs).foldl (fun tmps (t, a) => tmps.setIfInBounds t a) rc.tmps = (ps.zip xs.toList).foldl (fun (tmps : Array Value) (p : Nat × Value) => tmps.setIfInBounds p.1 p.2) rc.tmps := by
   rw [<- Array.foldl_toList, Array.toList_zip, q1]
 obtain ⟨r1, r2⟩ := frPuts_rel (ps := ps) (f := fr) (tmps := rc.tmps) hargsV hlen (fun p hp => Nat.lt_of_lt_of_le (hps p hp) q4) q5
 have hwf : ∀ t, AV (· < N) anyD (frPuts fr ps args t) := frPuts_ok (fun v hv => by
   obtain ⟨i, hi⟩ := List.mem_iff_getElem?.1 hv
   obtain ⟨x, _, hx⟩ := hargs.get hi
   exact hx.av (hcl v hv)) (fun t => (hids k _ hk).2 (.lr fr nt ps pa pb .ready) (by simp) t)
 rw [hfold]
 have hI := Inv.startN (nt := nt) (rd := some (G.β k)) (nm := true) hGW hpre hids hks (f := frPuts fr ps args) (tmps := (ps.zip xs.toList).foldl (fun (tmps : Array Value) (p : Nat × Value) => tmps.setIfInBounds p.1 p.2) rc.tmps) r1 hwf (by rw [r2]; exact q4)
 refine roundIn_of_wpInP (F := Fence.wide) (n := 0) (fn := fn) trivial (by rw [q7 hnp]; exact hpf) ?_
 have hpw := h { W0 := W, Im0 := G.Im, mu := lentB G Hin, β0 := G.β, bs0 := G.bs, lo0 := G.lo, stab := (· ∈ ks), nt := nt, rd := some (G.β k), nm := true } rfl (fun _ => Iff.rfl) rfl
 refine wpIn_mono (hpw rc.assign q2 G _ W hI) fun e a' W' ⟨x, st', G', hI', hx, ho, hq⟩ => ?_
 cases e with
 | normal =>
   cases x with
   | normal =>
     obtain ⟨hk', hb⟩ := hq
     obtain ⟨hph, _, _, rc1, hrec1, hl1⟩ := hI'.loopAt hk'
     have hβ : G'.β k = G.β k := (hI'.stab k hkk (by rw [hk']; rfl)).1
     have hrec1' : W'.heap[G.β k]? = some (.loop rc1) := by rw [<- hβ]; exact hrec1
     have hI2 := hI'.setLoop hk' (rc' := { rc1 with state := .busy }) (s' := .busy) hrec1 ⟨rfl, rfl, rfl, rfl, rfl⟩ rfl
     rw [hβ] at hI2
     refine ⟨_, run_beginRound hrec1' hl1.2.2.2.2.2.1.1, ?_⟩
     refine wpIn_mono (hb rc.body q3 G' a' _ hI2) fun e a2 W2 ⟨x, st2, G2, hI3, hx, ho, hq⟩ => ?_
     cases e with
     | panic ch =>
       cases x with
       | pan v =>
         obtain ⟨ρ, h3, h4, h5, h6⟩ := hq
         obtain ⟨y, hy, hry⟩ := hx
         obtain ⟨ds, hd, hmk⟩ := hI3.df
         have hd0 : a2.defers = [] := by rw [hmk.nm rfl] at hd; exact hd
         exact ⟨hd0, _, post_of (res := .pan r) ⟨rfl, rfl, fun _ => Iff.rfl, fun _ h => ⟨h, rfl, rfl, rfl⟩⟩ hri hI3 h4 h5 h6 (e := .panicked ch) ⟨y, hy, h3.rel hry⟩⟩
       | _ => exact hx.elim
     | _ => cases x <;> first | exact hq.elim | exact False.elim hx
   | _ => exact hx.elim
 | _ => cases x <;> first | exact False.elim hx | exact hq.elim
theorem Ct.byDfN (N : Nat) (_ : GOk P Γ) {f : FuncId} {fn : Func} {p : PC} {args : List V} {r : V} {H1 : List (Nat × List V)} (hf : P.funcs[f]? = some fn) (hc : fn.body.bind (comp fn.ntmps) = some p) (hname : (fn.name == "runtime.NumGoroutine") = false)
   (hn : args.length <= fn.ntmps) (hcl : ∀ v ∈ args, Closed v) (hri : ResIds r H1) (h : ∀ E : Ent, (∀ i, ¬ E.stab i) -> E.nt = fn.ntmps -> DWf P E f fn r H1 p ⟨argF 0 args, fun _ => none, N⟩) : Ct P f args r H1 := by
 cases hb : fn.body with
 | none => rw [hb] at hc; cases hc
 | some c =>
   rw [hb] at hc
   refine ⟨⟨fn, hf, by rw [hb]; rfl, hname⟩, fun G W xs hGW hargs hpre => ?_⟩
   have hcl' : ∀ v ∈ args, A2 (· < N) anyD v := fun v hv => A2.mono (fun _ h => h.elim) (fun _ h => h) (hcl v hv)
   obtain ⟨hfr, hwf⟩ := begin_rel (fn := fn) hcl' hargs
   have hl : args.length = xs.size := by have := hargs.length; simpa using this
   have hI := Inv.startN (N := N) (nt := fn.ntmps) (rd := none) (nm := true) hGW hpre nofun nofun (tmps := xs ++ Array.replicate (fn.ntmps - xs.size) undef) hfr hwf (by simp; omega)
   rw [<- callsIn_wide (n := 0)]
   refine callsIn_of_at hf hb ?_
   exact h { W0 := W, Im0 := G.Im, mu := lentB G noH, β0 := G.β, bs0 := G.bs, lo0 := G.lo, stab := (· ∈ ([] : List Nat)), nt := fn.ntmps, rd := none, nm := true } (fun i hi => by cases hi) rfl hri c hc G W ⟨rfl, rfl, fun _ => Iff.rfl, rfl, rfl, rfl⟩ G _ W hI
end Go.Psl
