/- Own lemmas, used by the last text. Conditions: those that each theorem states. -/
import Derived.Orders
import Derived.Test.YtmaoncnifomnkaaGreatDoorNaac
set_option maxRecDepth 200000
set_option maxHeartbeats 8000000
namespace Go.Psl
variable {P:Program} {Γ:Tys} {eqs:Eqs}
def HLe (H H':Hp):Prop:=∀ id cs,H id=some cs->H' id=some cs
theorem A8 {f f':Nat->V} {x:Operand} (h:∀ t,x= .tmp t->f t=f' t):evF f x=evF f' x:=by
 cases x with
 | tmp t=>exact h t rfl
 | _=>rfl
theorem D7 {f f':Nat->V}:∀ {l:List Operand},(∀ t,Operand.tmp t∈l->f t=f' t)->BX f l=BX f' l
 | [],_=>rfl
 | x::r,h=>by
   simp only [BX];rw [A8 (fun t ht=>h t (by simp [ht])),D7 (fun t ht=>h t (by simp [ht]))]
theorem LU {f f':Nat->V}:∀ {l:List (Nat × Operand)},(∀ t,Operand.tmp t∈l.map (·.2)->f t=f' t)->ED f l=ED f' l
 | [],_=>rfl
 | (i,x)::r,h=>by
   simp only [ED];rw [A8 (fun t ht=>h t (by simp [ht])),LU (fun t ht=>h t (by simp [ht]))]
theorem LV {f f':Nat->V} {o:Option Operand} (h:∀ t,o=some (.tmp t)->f t=f' t):o.map (evF f)=o.map (evF f'):=by
 cases o with
 | none=>rfl
 | some x=>exact congrArg some (A8 fun t ht=>h t (by rw [ht]))
theorem Dk {H:Hp} {b:Nat} {f f':Nat->V} {op:Op} (h:∀ t,Operand.tmp t∈op.operands.toList->f t=f' t):A9 Γ eqs H b f op=A9 Γ eqs H b f' op:=by
 cases op with
 | move x | assign x | box _ x | load _ x | nilCheck x | unOp _ _ x | convert _ _ x | extract x _ | fieldAddr _ x _ | field _ x _ | makeInterface _ x=>
   simp only [A9];rw [A8 (fun t ht=>h t (by subst ht;simp [Op.operands]))]
 | makeMap t r=>cases r<;>rfl
 | lookup _ x y _=>
   simp only [A9];rw [A8 (x:=x) (fun t ht=>h t (by subst ht;simp [Op.operands])),A8 (x:=y) (fun t ht=>h t (by subst ht;simp [Op.operands]))]
 | mapUpdate _ x y z | insert _ x y z=>
   simp only [A9];rw [A8 (x:=x) (fun t ht=>h t (by subst ht;simp [Op.operands])),A8 (x:=y) (fun t ht=>h t (by subst ht;simp [Op.operands])),A8 (x:=z) (fun t ht=>h t (by subst ht;simp [Op.operands]))]
 | typeAssert x s t ok=>
   cases ok with
   | true=>rfl
   | false=>simp only [A9];rw [A8 (fun t ht=>h t (by subst ht;simp [Op.operands]))]
 | pick c x y=>
   simp only [A9];rw [A8 (x:=c) (fun t ht=>h t (by subst ht;simp [Op.operands])),A8 (x:=x) (fun t ht=>h t (by subst ht;simp [Op.operands])),A8 (x:=y) (fun t ht=>h t (by subst ht;simp [Op.operands]))]
 | store _ x y | binOp _ _ x y _ | indexAddr _ x y | index _ x y | makeSlice _ x y=>
   simp only [A9];rw [A8 (x:=x) (fun t ht=>h t (by subst ht;simp [Op.operands])),A8 (x:=y) (fun t ht=>h t (by subst ht;simp [Op.operands]))]
 | build t ps | buildSlice t n ps=>
   simp only [A9];rw [LU (fun t ht=>h t (by simpa [Op.operands] using ht))]
 | slice t x lo hi mx=>
   cases mx with
   | some m=>rfl
   | none=>
     simp only [A9];rw [A8 (x:=x) (fun t ht=>h t (by subst ht;simp [Op.operands])),LV (o:=lo) (fun t ht=>h t (by subst ht;simp [Op.operands])),LV (o:=hi) (fun t ht=>h t (by subst ht;simp [Op.operands]))]
 | makeFunc fn first caps=>
   cases fn with
   | func g=>
     simp only [A9,AN8];rw [D7 (f:=f) (f':=f') (fun t ht=>h t (by simp only [Op.operands,Array.toList_append,List.mem_append];exact .inr ht))];split
     . rfl
     . rename_i x hx
       rw [A8 (x:=x) (fun t ht=>h t (by subst ht;simp only [Op.operands,Array.toList_append,List.mem_append,hx];exact .inl (by simp)))]
     . rfl
   | _=>rfl
 | call c=>
   have hc:∀ t,Operand.tmp t∈c.args.toList->f t=f' t:=fun t ht=>h t (by
     simp only [Op.operands,Call.operands];split<;>simp_all)
   have h1:=D7 hc;simp only [A9];split
   . split
     . rename_i x t hx _
       rw [A8 (fun t ht=>hc t (by rw [hx,ht];simp))]
     . rfl
   . rw [h1]
   . rw [h1]
   . split
     . rename_i s x t t' hx _
       rw [A8 (x:=s) (fun t ht=>hc t (by rw [hx,ht];simp)),A8 (x:=x) (fun t ht=>hc t (by rw [hx,ht];simp))]
     . rfl
   . split
     . rename_i x t hx _
       rw [A8 (fun t ht=>hc t (by rw [hx,ht];simp))]
     . rfl
   . split
     . rename_i x t hx _
       rw [A8 (fun t ht=>hc t (by rw [hx,ht];simp))]
     . rfl
   . rfl
 | _=>rfl
theorem D8 {α β:Type} {x y:Option α} {g g':α->Option β} {r:β} (h:∀ a,x=some a->y=some a) (hg:∀ a r,g a=some r->g' a=some r) (he:x.bind g=some r):y.bind g'=some r:=by
 cases hx:x with
 | none=>simp [hx] at he
 | some a=>rw [hx] at he;rw [h a hx];exact hg a r he
theorem SX {H H':Hp} (hh:HLe H H') {t:TypeId} {v:V} {r:V × Eff} (h:EO Γ H t v=some r):EO Γ H' t v=some r:=by
 unfold EO at*;split
 . exact h
 . exact D8 (fun _ h=>h) (fun y r hy=>D8 (hh _) (fun _ _ h=>h) hy) h
 . simp at h
theorem Pt {H H':Hp} (hh:HLe H H') {t:TypeId} {a v:V} {r:V × Eff} (h:ALr Γ H t a v=some r):ALr Γ H' t a v=some r:=by
 unfold ALr at*;split
 . exact D8 (fun _ h=>h) (fun y r hy=>D8 (hh _) (fun _ _ h=>h) hy) h
 . simp at h
theorem Pu {H H':Hp} (hh:HLe H H') {t:TypeId} {x:V} {lo hi:Option V} {r:V × Eff} (h:CA Γ H t x lo hi=some r):CA Γ H' t x lo hi=some r:=by
 unfold CA at*;refine D8 (fun _ h=>h) (fun y r hy=>?_) h
 generalize y.sh=sh at hy ⊢
 cases sh with
 | array m e=>
   refine D8 (fun _ h=>h) (fun ye r hy=>?_) hy;cases x with
   | lp id off=>exact D8 (hh _) (fun _ _ h=>h) hy
   | _=>exact hy
 | _=>exact hy
theorem Nt {H H':Hp} (hh:HLe H H') {sz:Nat} {x:V} {r:Nat × List V} (h:cellsOf H sz x=some r):cellsOf H' sz x=some r:=by
 cases x with
 | ls id off len sz'=>
   unfold cellsOf at*;by_cases he:sz=sz'
   . simp only [if_pos he] at h ⊢
     exact D8 (hh _) (fun _ _ h=>h) h
   . simp [he] at h
 | d x=>cases x with
   | lit v=>cases v<;>exact h
   | _=>exact h
 | _=>exact h
def iK (H:Hp) (b:Nat) (ye:Ty) (s:V) (nx:Nat × List V):Option (V × Eff):=match s with
   | .d (.lit (.slice _ _ _))=>if nx.1*ye.bytes<=Fh/\nx.1<=maxL then some (.ls b 0 nx.1 ye.size, .new b nx.2) else none
   | .ls id 0 len sz=>if sz=ye.size then (H id).bind fun cs=>if len*sz<=cs.length/\(len+nx.1)*ye.bytes<=Fh/\len+nx.1<=maxL then some (.ls b 0 (len+nx.1) sz, .mov id b (cs.take (len*sz)++nx.2)) else none else none
   | _=>none
theorem WU {H H':Hp} (hh:HLe H H') {b:Nat} {ye:Ty} {s:V} {nx:Nat × List V} {r:V × Eff} (h:iK H b ye s nx=some r):iK H' b ye s nx=some r:=by
 cases s with
 | ls id off len sz=>
   cases off with
   | zero=>
     unfold iK at*;simp only at h ⊢;by_cases he:sz=ye.size
     . simp only [if_pos he] at h ⊢
       exact D8 (hh _) (fun _ _ h=>h) h
     . simp [he] at h
   | succ n=>exact h
 | d x=>cases x with
   | lit v=>cases v<;>exact h
   | _=>exact h
 | _=>exact h
theorem WW {H H':Hp} (hh:HLe H H') {b:Nat} {t:TypeId} {s x:V} {r:V × Eff} (h:Lr Γ H b t s x=some r):Lr Γ H' b t s x=some r:=by
 have key:∀ H,Lr Γ H b t s x=(Γ t).bind fun y=>match y.sh with
   | .slice e=>(Γ e).bind fun ye=>if ye.size=0\/Ei s x=true then none else (cellsOf H ye.size x).bind fun nx=>if nx.2.all V.isCell then iK H b ye s nx else none
   | _=>none:=fun H=>rfl
 rw [key] at h ⊢;refine D8 (fun _ h=>h) (fun y r hy=>?_) h
 generalize y.sh=sh at hy ⊢
 cases sh with
 | slice e=>
   refine D8 (fun _ h=>h) (fun ye r hy=>?_) hy;by_cases hc:ye.size=0\/Ei s x=true
   . simp [hc] at hy
   . rw [if_neg hc] at hy ⊢
     refine D8 (fun _ h=>Nt hh h) (fun nx r hy=>?_) hy;by_cases hc2:nx.2.all V.isCell=true
     . simp only [hc2,if_true] at hy ⊢
       exact WU hh hy
     . simp [hc2] at hy
 | _=>exact hy
theorem Pv {H H':Hp} (hh:HLe H H') {t:TypeId} {x:V} {r:V × Eff} (h:d8 Γ H t x=some r):d8 Γ H' t x=some r:=by
 unfold d8 at*;refine D8 (fun _ h=>h) (fun y r hy=>?_) h
 generalize y.sh=sh at hy ⊢
 cases sh with
 | slice e=>
   refine D8 (fun _ h=>h) (fun ye r hy=>?_) hy;split at hy
   . exact hy
   . split at hy
     . rename_i h0;rw [if_pos h0];exact hy
     . rename_i h0
       rw [if_neg h0];split at hy
       . rename_i h1;rw [if_pos h1];exact D8 (hh _) (fun _ _ h=>h) hy
       . cases hy
   . cases hy
 | _=>exact hy
theorem AJJ {eqs:Eqs} {H H':Hp} (hh:HLe H H') {t:TypeId} {m k:V} {p:Nat × List (Value × Bool × List D) × Value × Option Nat × TypeId} (h:AE6 Γ eqs H t m k=some p):AE6 Γ eqs H' t m k=some p:=by
 unfold AE6 at*;refine D8 (fun _ h=>h) (fun y r hy=>?_) h
 generalize y.sh=sh at hy ⊢
 cases sh with
 | map kt et=>exact D8 (fun _ h=>h) (fun yk r hy=>D8 (fun _ h=>h) (fun id r hy=>D8 (hh _) (fun _ _ h=>h) hy) hy) hy
 | _=>exact hy
theorem ANp {H H':Hp} (hh:HLe H H') {b:Nat} {s t:TypeId} {x:V} {r:V × Eff} (h:Lb Γ H b s t x=some r):Lb Γ H' b s t x=some r:=by
 unfold Lb at*;refine D8 (fun _ h=>h) (fun ys r hy=>?_) h;refine D8 (fun _ h=>h) (fun y r hy=>?_) hy
 generalize y.sh=sh at hy ⊢
 cases sh with
 | str=>
   simp only at hy ⊢;unfold ANs at*
   generalize ys.sh=sh' at hy ⊢
   cases sh' with
   | slice e=>
     refine D8 (fun _ h=>h) (fun ye r hy=>?_) hy;split at hy
     . rename_i h8
       rw [if_pos h8];exact D8 (fun _ h=>Nt hh h) (fun _ _ h=>h) hy
     . cases hy
   | _=>exact hy
 | _=>exact hy
theorem EN {H H':Hp} (hh:HLe H H') {b:Nat} {f:Nat->V} {op:Op} {r:V × Eff} (h:A9 Γ eqs H b f op=some r):A9 Γ eqs H' b f op=some r:=by
 cases op with
 | load t a=>exact SX hh h
 | store t a v=>exact Pt hh h
 | convert s t x=>exact ANp hh h
 | slice t x lo hi mx=>
   cases mx with
   | some m=>exact h
   | none=>exact Pu hh h
 | call c=>
   simp only [A9] at h ⊢
   generalize c.callee=cc at h ⊢
   cases cc with
   | builtin bi=>
     cases bi with
     | append=>
       simp only at h ⊢
       generalize c.args.toList=al at h ⊢
       generalize c.argTypes.toList=tl at h ⊢
       match al,tl with
       | [s,x],[t,t']=>
         simp only at h ⊢;by_cases he:t=t'
         . rw [if_pos he] at h ⊢;exact WW hh h
         . rw [if_neg he] at h ⊢;exact h
       | [],_ | [_],_ | _::_::_::_,_=>exact h
       | [_,_],[] | [_,_],[_] | [_,_],_::_::_::_=>exact h
     | clear=>
       simp only at h ⊢
       generalize c.args.toList=al at h ⊢
       generalize c.argTypes.toList=tl at h ⊢
       match al,tl with
       | [x],[t]=>exact Pv hh h
       | [],_ | _::_::_,_=>exact h
       | [_],[] | [_],_::_::_=>exact h
     | _=>exact h
   | _=>exact h
 | makeFunc fn first caps=>cases fn<;>exact h
 | typeAssert x s t ok=>cases ok<;>exact h
 | makeMap t r=>cases r<;>exact h
 | lookup t m k ok=>exact D8 (fun _ h=>AJJ hh h) (fun _ _ h=>h) h
 | mapUpdate t m k x=>exact D8 (fun _ h=>AJJ hh h) (fun _ _ h=>h) h
 | insert t m k x=>exact D8 (fun _ h=>AJJ hh h) (fun _ _ h=>h) h
 | _=>exact h
theorem Df.le {H H':Hp} (hh:HLe H H') {x y:V} (h:Df H x y):Df H' x y:=by
 cases x with
 | ls id off len sz=>
   cases y with
   | d y=>
     cases y with
     | sl sz' es=>obtain ⟨h1,h2,h3,cs,h4,h5⟩:=h;exact ⟨h1,h2,h3,cs,hh _ _ h4,h5⟩
     | _=>exact h
   | _=>exact h
 | lp id off=>
   cases y with
   | d y=>
     cases y with
     | ref ds=>obtain ⟨cs,h4,h5⟩:=h;exact ⟨cs,hh _ _ h4,h5⟩
     | _=>exact h
   | _=>exact h
 | cl f caps=>
   cases y with
   | d y=>cases y<;>exact h
   | _=>exact h
 | d x=>
   cases y with
   | d y=>exact h
   | _=>exact h
 | _=>cases y<;>exact h
theorem Fi.le {H H':Hp} (hh:HLe H H') {x y:V} (h:Fi H x y):Fi H' x y:=by
 unfold Fi at h ⊢;split at h
 . exact h
 . exact ⟨h.1,AJ.mono h.2 fun _ _ _ h=>Df.le hh h⟩
 . exact Df.le hh h
theorem Bor.le {H H':Hp} (hh:HLe H H') {x y:V} (h:Bor H x y):Bor H' x y:=by
 unfold Bor at h ⊢;split at h
 . exact AJ.mono h fun _ _ _ h=>Fi.le hh h
 . exact Fi.le hh h
theorem cQ {H H':Hp} (hh:HLe H H') (Hin:Hp):HLe (EE H Hin) (EE H' Hin):=fun i cs h=>by
 unfold EE at h ⊢;split at h
 . cases h
 . rename_i hn;rw [if_neg hn];exact hh i cs h
theorem IB.le {H H':Hp} (hh:HLe H H') {az args:List V} {Hin:Hp} {ks:List Nat} {res:Res} {H1:Hp} (h:IB H az args Hin ks res H1):IB H' az args Hin ks res H1:=
 ⟨fun i cs hi=>hh i cs (h.1 i cs hi),h.2.1,h.2.2.1,h.2.2.2.imp id fun ⟨h1,h2⟩=>⟨h1.mono fun _ _ _ h=>Bor.le (cQ hh Hin) h,h2⟩⟩
theorem HF.le {H H':Hp} (hh:HLe H H') {g:FuncId} {az args:List V} {Hin:Hp} {ks:List Nat} {res:Res} {H1:Hp} (h:HF P H g az args Hin ks res H1):HF P H' g az args Hin ks res H1:=
 ⟨h.1,h.2.le hh⟩
theorem Eh {all:List Oper} {f f':Nat->V} {g:Option (Nat × Bool)} (h:∀ j w d,g=some (j,w)->(all[j]?).bind (·.dst)=some d->f d=f' d):BA all f g=BA all f' g:=by
 unfold BA;split
 . rfl
 . rename_i j w
   cases hd:(all[j]?).bind (·.dst) with
   | none=>rfl
   | some d=>simp only [Option.bind_some];rw [h j w d rfl hd]
end Go.Psl
namespace Go.Psl
variable {P:Program} {Γ:Tys} {eqs:Eqs} {E:Ent}
abbrev Dl:=Nat->Option (Option (List V))
def ext (H:Hp) (N:Dl):Hp:=fun id=>match N id with | some x=>x | none=>H id
theorem J8 (H:Hp) (b:Nat) (cs:List V):upd H b (some cs)=ext H (upd (fun _=>none) b (some (some cs))):=by
 funext id
 simp only [ext,AY];split<;>rfl
theorem Ts (H:Hp) (i b:Nat) (cs:List V):upd (upd H i none) b (some cs)=ext H (upd (upd (fun _=>none) i (some none)) b (some (some cs))):=by
 funext id
 simp only [ext,AY];split
 . rfl
 . split<;>rfl
def addD (base:Nat) (H1:Hp):Dl:=fun id=>if base<=id then (match H1 (id-base) with | some cs=>some (some (cs.map (BJ (base+·)))) | none=>none) else none
def wp (H:Hp) (base:Nat) (H1:Hp):Hp:=fun id=>if base<=id then (match H1 (id-base) with | some cs=>some (cs.map (BJ (base+·))) | none=>H id) else H id
theorem APX (b:Nat):sg [] b=(b+·):=by funext j;simp [sg]
theorem bq (H:Hp) (b:Nat) (H1:Hp):BI H b noH [] H1=wp H b H1:=by
 funext id
 simp only [BI,wp,List.not_mem_nil,if_false,noH,Option.isSome_none,Bool.false_eq_true,APX]<;>rfl
open Classical in
noncomputable def ADG (b:Nat) (Hin:Hp) (ks:List Nat) (H1:Hp):Dl:=fun id=>
 if id∈ks then (if (H1 id).map (·.map (BJ (sg ks b)))=Hin id then none else some ((H1 id).map (·.map (BJ (sg ks b)))))
 else if (Hin id).isSome then some none
 else if b<=id then (if id-b∈ks then none else match H1 (id-b) with | some cs=>some (some (cs.map (BJ (sg ks b)))) | none=>none)
 else none
def qo (ws:List (Nat × Nat)) (k b:Nat) (Hin:Hp) (ks:List Nat) (H1:Hp):Prop:=
 ∀ id,(id∈ks/\(H1 id).map (·.map (BJ (sg ks b)))≠Hin id)\/(id ∉ ks/\(Hin id).isSome=true)->(k,id)∈ws
theorem MO {H:Hp} {b:Nat} {Hin:Hp} {ks:List Nat} {H1:Hp} (h1:∀ i cs,Hin i=some cs->H i=some cs) (h2:∀ i∈ks,∃ cs,Hin i=some cs/\cs≠[]):BI H b Hin ks H1=ext H (ADG b Hin ks H1):=by
 funext id
 simp only [BI,ext,ADG];by_cases hk:id∈ks
 . simp only [hk,if_true]
   by_cases he:(H1 id).map (·.map (BJ (sg ks b)))=Hin id
   . obtain ⟨cs,hcs,_⟩:=h2 id hk
     rw [if_pos he,he,hcs,h1 id cs hcs]
   . rw [if_neg he]
 . simp only [hk,if_false]
   by_cases hi:(Hin id).isSome=true
   . simp only [hi,if_true]
   . simp only [hi,if_false,Bool.false_eq_true]
     by_cases hb:b<=id
     . simp only [hb,if_true]
       by_cases hk2:id-b∈ks
       . simp only [hk2,if_true]
       . simp only [hk2,if_false]
         cases H1 (id-b)<;>rfl
     . simp only [hb,if_false]
inductive Fd (P:Program) (Γ:Tys) (eqs:Eqs) (ws:List (Nat × Nat)) (k b:Nat) (o:Oper) (f:Nat->V) (Hr H:Hp):V->Hp->Prop
 | plain (v:V) (h:A9 Γ eqs Hr b f o.op=some (v, .none)):Fd P Γ eqs ws k b o f Hr H v H
 | new (v:V) (cs:List V) (h:A9 Γ eqs Hr b f o.op=some (v, .new b cs)):Fd P Γ eqs ws k b o f Hr H v (upd H b (some cs))
 | put (v:V) (id:Nat) (cs:List V) (h:A9 Γ eqs Hr b f o.op=some (v, .put id cs)) (hw:(k,id)∈ws):Fd P Γ eqs ws k b o f Hr H v (upd H id (some cs))
 | mov (v:V) (id:Nat) (cs:List V) (h:A9 Γ eqs Hr b f o.op=some (v, .mov id b cs)) (hw:(k,id)∈ws):Fd P Γ eqs ws k b o f Hr H v (upd (upd H id none) b (some cs))
 | call (c:Call) (fo:Operand) (g:FuncId) (pre caps args:List V) (Hin:Hp) (ks:List Nat) (r:V) (H1:Hp) (ho:o.op= .call c) (hc:c.callee= .value fo) (hg:ALR (evF f fo)=some (g,pre,caps))
     (hcall:HF P Hr g (pre++(BX f c.args.toList++caps)) args Hin ks (.ret r) H1) (hw:qo ws k b Hin ks H1):Fd P Γ eqs ws k b o f Hr H (ren (sg ks b) r) (BI H b Hin ks H1)
def Ht (P:Program) (o:Oper) (f:Nat->V) (Hr:Hp) (D:D):Prop:=
 ∃ c fo g pre caps args Hin ks H1,o.op= .call c/\c.callee= .value fo/\ALR (evF f fo)=some (g,pre,caps)/\HF P Hr g (pre++(BX f c.args.toList++caps)) args Hin ks (.pan (.d D)) H1
structure Nw where
 v:V
 N:Dl
def B6:Dl:=fun _=>none
def WI (P:Program) (Γ:Tys) (eqs:Eqs) (all:List Oper) (ws:List (Nat × Nat)) (k n0 b:Nat) (o:Oper) (f:Nat->V) (Hr:Hp) (x:Nw):Prop:=
 (∀ id,(x.N id).isSome=true->(b<=id/\id<b+1048576)\/(k,id)∈ws)/\
 ∀ f' H',(∀ t∈o.looksAt all.toArray,f' t=f t)->HLe Hr H'->
   (BA all f' o.guard=some true/\C5 P Γ eqs b o ⟨f',H',n0⟩ ⟨Am f' o.dst x.v,ext H' x.N,n0⟩)\/(BA all f' o.guard=some false/\x.v= .tup []/\x.N=B6)
theorem Ev {all:List Oper} {o:Oper} {t:Nat} (h:Operand.tmp t∈o.op.operands.toList):t∈o.looksAt all.toArray:=by
 unfold Oper.looksAt;exact List.mem_append_left _ (List.mem_filterMap.2 ⟨_,h,rfl⟩)
theorem GD {all:List Oper} {o:Oper} {j:Nat} {w:Bool} {d:Nat} (hg:o.guard=some (j,w)) (hd:(all[j]?).bind (·.dst)=some d):d∈o.looksAt all.toArray:=by
 unfold Oper.looksAt;rw [hg];exact List.mem_append_right _ (by simp [hd])
theorem SM {all:List Oper} {ws:List (Nat × Nat)} {k n0 b:Nat} {o:Oper} {f:Nat->V} {Hr H H':Hp} {v:V} (hle:HLe Hr H) (hg:BA all f o.guard=some true) (h:Fd P Γ eqs ws k b o f Hr H v H'):
   ∃ N,H'=ext H N/\WI P Γ eqs all ws k n0 b o f Hr ⟨v,N⟩:=by
 have hgc:∀ f':Nat->V,(∀ t∈o.looksAt all.toArray,f' t=f t)->BA all f' o.guard=some true:=fun f' hf=>by
   rw [<-hg];exact Eh fun j w d h1 h2=>hf d (GD h1 h2)
 cases h with
 | plain v h=>
   refine ⟨B6,rfl,fun id h=>by simp [B6] at h,fun f' H' hf hH=> .inl ⟨hgc f' hf,?_⟩⟩;have:=EN hH h;rw [Dk (fun t ht=>(hf t (Ev ht)).symm)] at this;exact C5.plain (st:=⟨f',H',n0⟩) v .none this
 | new v cs h=>
   refine ⟨upd B6 b (some (some cs)),J8 ..,fun id h=>?_,fun f' H' hf hH=> .inl ⟨hgc f' hf,?_⟩⟩
   . simp only [AY] at h
     split at h
     . exact .inl (by omega)
     . simp [B6] at h
   . have:=EN hH h
     rw [Dk (fun t ht=>(hf t (Ev ht)).symm)] at this;have h2:=C5.plain (P:=P) (o:=o) (st:=⟨f',H',n0⟩) v (.new b cs) this;simp only [Hp.app] at h2
     rwa [J8] at h2
 | put v id cs h hw=>
   refine ⟨upd B6 id (some (some cs)),J8 ..,fun i h=>?_,fun f' H' hf hH=> .inl ⟨hgc f' hf,?_⟩⟩
   . simp only [AY] at h
     split at h
     . rename_i e;rw [e];exact .inr hw
     . simp [B6] at h
   . have:=EN hH h
     rw [Dk (fun t ht=>(hf t (Ev ht)).symm)] at this;have h2:=C5.plain (P:=P) (o:=o) (st:=⟨f',H',n0⟩) v (.put id cs) this;simp only [Hp.app] at h2
     rwa [J8] at h2
 | mov v id cs h hw=>
   refine ⟨upd (upd B6 id (some none)) b (some (some cs)),Ts ..,fun i h=>?_,fun f' H' hf hH=> .inl ⟨hgc f' hf,?_⟩⟩
   . simp only [AY] at h
     split at h
     . exact .inl (by omega)
     . split at h
       . rename_i e;rw [e];exact .inr hw
       . simp [B6] at h
   . have:=EN hH h
     rw [Dk (fun t ht=>(hf t (Ev ht)).symm)] at this;have h2:=C5.plain (P:=P) (o:=o) (st:=⟨f',H',n0⟩) v (.mov id b cs) this;simp only [Hp.app] at h2
     rwa [Ts] at h2
 | call c fo g pre caps args Hin ks r H1 ho hc hgc' hcall hw=>
   refine ⟨ADG b Hin ks H1,MO (fun i cs h=>hle i cs (hcall.2.1 i cs h)) hcall.2.2.2.1,fun id h=>?_,fun f' H' hf hH=> .inl ⟨hgc f' hf,?_⟩⟩
   . change (ADG b Hin ks H1 id).isSome=true at h
     unfold ADG at h;split at h
     . rename_i hk
       split at h
       . simp at h
       . rename_i hne
         exact .inr (hw id (.inl ⟨hk,hne⟩))
     . rename_i hk
       split at h
       . rename_i hi
         exact .inr (hw id (.inr ⟨hk,hi⟩))
       . split at h
         . rename_i hb
           split at h
           . simp at h
           . rename_i hk2
             split at h
             . rename_i cs hcs
               have:=hcall.2.2.1 (id-b) (by show (H1 (id-b)).isSome=true;rw [hcs];rfl) hk2;exact .inl (by omega)
             . simp at h
         . simp at h
   . have hops:∀ t,Operand.tmp t∈c.operands.toList->f' t=f t:=fun t ht=>hf t (Ev (by rw [ho];exact ht))
     have e1:evF f' fo=evF f fo:=A8 fun t ht=>hops t (by subst ht;simp [Call.operands,hc])
     have e2:BX f' c.args.toList=BX f c.args.toList:=D7 fun t ht=>hops t (by simp only [Call.operands,hc];simp_all)
     have h2:=C5.call (P:=P) (Γ:=Γ) (eqs:=eqs) (b:=b) (o:=o) (st:=⟨f',H',n0⟩) c fo g pre caps args Hin ks r H1 ho hc (by rw [e1];exact hgc') (by rw [e2];exact hcall.le hH)
     rwa [MO (fun i cs h=>hH i cs (hcall.2.1 i cs h)) hcall.2.2.2.1] at h2
theorem WJ {all:List Oper} {ws:List (Nat × Nat)} {k n0 b:Nat} {o:Oper} {f:Nat->V} {Hr:Hp} (hg:BA all f o.guard=some false):WI P Γ eqs all ws k n0 b o f Hr ⟨.tup [],B6⟩:=
 ⟨fun id h=>by simp [B6] at h,fun f' H' hf hH=> .inr ⟨by rw [<-hg];exact Eh fun j w d h1 h2=>hf d (GD h1 h2),rfl,rfl⟩⟩
def jQ (P:Program) (all:List Oper) (o:Oper) (f:Nat->V) (Hr:Hp) (D:D):Prop:=
 ∀ (n0 b:Nat) f' H',(∀ t∈o.looksAt all.toArray,f' t=f t)->HLe Hr H'->BA all f' o.guard=some true/\∃ st',st'.nx=n0/\ACW P b o ⟨f',H',n0⟩ (.d D) st'
theorem Pf {all:List Oper} {o:Oper} {f:Nat->V} {Hr:Hp} {D:D} (hg:BA all f o.guard=some true) (h:Ht P o f Hr D):jQ P all o f Hr D:=by
 obtain ⟨c,fo,g,pre,caps,args,Hin,ks,H1,ho,hc,hgc',hcall⟩:=h;intro n0 b f' H' hf hH;have hops:∀ t,Operand.tmp t∈c.operands.toList->f' t=f t:=fun t ht=>hf t (Ev (by rw [ho];exact ht))
 have e1:evF f' fo=evF f fo:=A8 fun t ht=>hops t (by subst ht;simp [Call.operands,hc])
 have e2:BX f' c.args.toList=BX f c.args.toList:=D7 fun t ht=>hops t (by simp only [Call.operands,hc];simp_all)
 refine ⟨by rw [<-hg];exact Eh fun j w d h1 h2=>hf d (GD h1 h2),_,?_,ACW.call (P:=P) (b:=b) (o:=o) (st:=⟨f',H',n0⟩) c fo g pre caps args Hin ks (.d D) H1 ho hc (by rw [e1];exact hgc') (by rw [e2];exact hcall.le hH)⟩;rfl
def br (ws:List (Nat × Nat)) (cl:List Nat) (k id:Nat):Bool:=ws.all fun p=>p.2 != id||p.1 == k||inC cl k p.1||inC cl p.1 k
def Hcl (ws:List (Nat × Nat)) (cl:List Nat) (k n0:Nat) (H:Hp):Hp:=fun id=>if (id<n0\/inC cl k ((id-n0)/1048576)=true)/\br ws cl k id=true then H id else none
theorem mE (ws:List (Nat × Nat)) (cl:List Nat) (k n0:Nat) (H:Hp):HLe (Hcl ws cl k n0 H) H:=fun id cs h=>by
 unfold Hcl at h;split at h
 . exact h
 . cases h
def Pg (ws:List (Nat × Nat)) (cl:List Nat) (n0:Nat):Bool:=ws.all fun p=>
 (ws.all fun q=>!(q.2 == p.2)||!decide (p.1<q.1)||inC cl q.1 p.1)&&(decide (p.2<n0)||(p.2-n0)/1048576 == p.1||inC cl p.1 ((p.2-n0)/1048576))
theorem APY {ws:List (Nat × Nat)} {cl:List Nat} {n0 i j id:Nat} (h:Pg ws cl n0=true) (hi:(i,id)∈ws) (hj:(j,id)∈ws) (hij:i<j):inC cl j i=true:=by
 have h1:=List.all_eq_true.1 h _ hi;simp only [Bool.and_eq_true] at h1;have h2:=List.all_eq_true.1 h1.1 _ hj;simpa [hij] using h2
theorem MP {ws:List (Nat × Nat)} {cl:List Nat} {n0 i id:Nat} (h:Pg ws cl n0=true) (hi:(i,id)∈ws) (hid:¬ id<n0) (hne:(id-n0)/1048576≠i):inC cl i ((id-n0)/1048576)=true:=by
 have h1:=List.all_eq_true.1 h _ hi;simp only [Bool.and_eq_true] at h1;simpa [hid,hne] using h1.2
theorem JQ {cl:List Nat} {j i:Nat} (h:inC cl j i=true):i<j:=by simp [inC] at h;exact h.1
def D4 (P:Program) (Γ:Tys) (eqs:Eqs) (all:List Oper) (ws:List (Nat × Nat)) (cl:List Nat) (n0:Nat) (S:Nat->(Nat->V)->Hp->Prop):Nat->List Oper->(Nat->V)->Hp->((Nat->V)->Hp->Prop)->Prop
 | _,[],f,H,K=>K f H
 | k,o::rest,f,H,K=>S k f H/\Q0 (BA all f o.guard) (∃ v H',Fd P Γ eqs ws k (n0+1048576*k) o f (Hcl ws cl k n0 H) H v H'/\D4 P Γ eqs all ws cl n0 S (k+1) rest (Am f o.dst v) H' K)
     (D4 P Γ eqs all ws cl n0 S (k+1) rest (Am f o.dst (.tup [])) H K)
def MQ (P:Program) (Γ:Tys) (eqs:Eqs) (all:List Oper) (ws:List (Nat × Nat)) (cl:List Nat) (n0 k0:Nat):Nat->List Oper->(Nat->V)->Hp->Prop
 | _,[],_,_=>True
 | k,o::rest,f,H=>(inC cl k k0=true/\MQ P Γ eqs all ws cl n0 k0 (k+1) rest f H)\/(inC cl k k0=false/\Q0 (BA all f o.guard) (∃ v H',Fd P Γ eqs ws k (n0+1048576*k) o f (Hcl ws cl k n0 H) H v H'/\MQ P Γ eqs all ws cl n0 k0 (k+1) rest (Am f o.dst v) H')
     (MQ P Γ eqs all ws cl n0 k0 (k+1) rest (Am f o.dst (.tup [])) H))
def GE (P:Program) (Γ:Tys) (eqs:Eqs) (all:List Oper) (ws:List (Nat × Nat)) (cl:List Nat) (n0:Nat) (Z:V->Prop):Nat->List Oper->(Nat->V)->Hp->((Nat->V)->Hp->Prop)->Prop
 | _,[],f,H,K=>K f H
 | k,o::rest,f,H,K=>Q0 (BA all f o.guard) ((∃ v H',Fd P Γ eqs ws k (n0+1048576*k) o f (Hcl ws cl k n0 H) H v H'/\GE P Γ eqs all ws cl n0 Z (k+1) rest (Am f o.dst v) H' K)\/
       ∃ D,Ht P o f (Hcl ws cl k n0 H) D/\Z (.d D)/\MQ P Γ eqs all ws cl n0 k (k+1) rest f H)
     (GE P Γ eqs all ws cl n0 Z (k+1) rest (Am f o.dst (.tup [])) H K)
def bz (o:Oper):Oper:={o with dst:=none,op:= .assign (.const .nilIface),guard:=none}
def Fe (cl:List Nat) (k0 k:Nat):Bool:=k == k0||inC cl k k0
def Ua (cl:List Nat) (k0:Nat):Nat->List Oper->List Oper
 | _,[]=>[]
 | k,o::r=>(if Fe cl k0 k=true then bz o else o)::Ua cl k0 (k+1) r
theorem MR {cl:List Nat} {k0:Nat}:∀ {l:List Oper} {k:Nat},(Ua cl k0 k l).length=l.length
 | [],_=>rfl
 | _::r,k=>by simp [Ua,MR (l:=r)]
theorem Ge {cl:List Nat} {k0:Nat}:∀ {l:List Oper} {k i:Nat},(Ua cl k0 k l)[i]?= (l[i]?).map fun o=>if Fe cl k0 (k+i)=true then bz o else o
 | [],_,_=>by simp [Ua]
 | o::r,k,0=>by simp [Ua]
 | o::r,k,i+1=>by simp [Ua,Ge (l:=r),show k+1+i=k+(i+1) by omega]
theorem MS {all:List Oper} {ws:List (Nat × Nat)} {cl:List Nat} {n0 k:Nat} {S:Nat->(Nat->V)->Hp->Prop} {o:Oper} {rest:List Oper} {f:Nat->V} {H:Hp} {K:(Nat->V)->Hp->Prop} (hs:S k f H) (h:D4 P Γ eqs all ws cl n0 S (k+1) rest f H K):D4 P Γ eqs all ws cl n0 S k (bz o::rest) f H K:=
 ⟨hs,fun _=>⟨_,_, .plain (.d (.lit .nilIface)) rfl,h⟩,fun h=>by cases h⟩
theorem ALz {all:List Oper} {ws:List (Nat × Nat)} {cl:List Nat} {n0 k0:Nat} {S:Nat->(Nat->V)->Hp->Prop} (hS:∀ k f H,k0<k->S k f H):∀ (rest:List Oper) (k:Nat) (f:Nat->V) (H:Hp),k0<k->MQ P Γ eqs all ws cl n0 k0 k rest f H->D4 P Γ eqs all ws cl n0 S k (Ua cl k0 k rest) f H fun _ _=>True
 | [],_,_,_,_,_=>trivial
 | o::r,k,f,H,hk,h=>by
   simp only [Ua];rcases h with ⟨h1,h2⟩ | ⟨h1,h2⟩
   . rw [if_pos (by simp [Fe,h1])]
     exact MS (hS k f H hk) (ALz hS r (k+1) f H (by omega) h2)
   . rw [if_neg (by simp [Fe,h1];omega)]
     refine ⟨hS k f H hk,?_⟩;unfold Q0 at h2 ⊢;split at h2
     . rename_i b hb
       exact ⟨fun e=>(h2.1 e).imp fun v hv=>hv.imp fun H' hh=>⟨hh.1,ALz hS r (k+1) _ _ (by omega) hh.2⟩,fun e=>ALz hS r (k+1) _ _ (by omega) (h2.2 e)⟩
     . exact h2.elim
theorem Jk {all:List Oper} {ws:List (Nat × Nat)} {cl:List Nat} {n0:Nat} {Z:V->Prop} {K:(Nat->V)->Hp->Prop}:∀ (rest:List Oper) (k:Nat) (f:Nat->V) (H:Hp),GE P Γ eqs all ws cl n0 Z k rest f H K->
   D4 P Γ eqs all ws cl n0 (fun _ _ _=>True) k rest f H K\/∃ k0 o D,k<=k0/\rest[k0-k]?= some o/\Z (.d D)/\D4 P Γ eqs all ws cl n0 (fun i f H=>i=k0->BA all f o.guard=some true/\Ht P o f (Hcl ws cl k0 n0 H) D) k (Ua cl k0 k rest) f H fun _ _=>True
 | [],_,_,_,h=> .inl h
 | o::r,k,f,H,h=>by
   have lift:∀ (f':Nat->V) (H':Hp) (Y:Prop),(∀ S:Nat->(Nat->V)->Hp->Prop,∀ r' K',S k f H->D4 P Γ eqs all ws cl n0 S (k+1) r' f' H' K'->D4 P Γ eqs all ws cl n0 S k (o::r') f H K')->GE P Γ eqs all ws cl n0 Z (k+1) r f' H' K->
       D4 P Γ eqs all ws cl n0 (fun _ _ _=>True) k (o::r) f H K\/∃ k0 o' D,k<=k0/\(o::r)[k0-k]?= some o'/\Z (.d D)/\D4 P Γ eqs all ws cl n0 (fun i f H=>i=k0->BA all f o'.guard=some true/\Ht P o' f (Hcl ws cl k0 n0 H) D) k (Ua cl k0 k (o::r)) f H fun _ _=>True:=fun f' H' _ hl h=>by
     rcases Jk r (k+1) f' H' h with h | ⟨k0,o',D,h1,h2,h3,h4⟩
     . exact .inl (hl _ _ _ trivial h)
     . refine .inr ⟨k0,o',D,by omega,?_,h3,?_⟩
       . rw [show k0-k=(k0-(k+1))+1 by omega,List.getElem?_cons_succ];exact h2
       . simp only [Ua]
         rw [if_neg (by simp [Fe,inC];omega)];exact hl _ _ _ (fun e=>by omega) h4
   simp only [GE,Q0] at h;cases hg:BA all f o.guard with
   | none=>rw [hg] at h;exact h.elim
   | some b=>
     rw [hg] at h;cases b with
     | true=>
       rcases h.1 rfl with ⟨v,H',hs,hr⟩ | ⟨D,hs,hz,hr⟩
       . exact lift _ _ True (fun S r' K' hS hh=>⟨hS,by rw [hg];exact ⟨fun _=>⟨v,H',hs,hh⟩,nofun⟩⟩) hr
       . refine .inr ⟨k,o,D,Nat.le_refl _,by simp,hz,?_⟩
         simp only [Ua];rw [if_pos (by simp [Fe])];exact MS (fun _=>⟨hg,hs⟩) (ALz (fun i f H hi e=>by omega) r (k+1) f H (by omega) hr)
     | false=>exact lift _ _ True (fun S r' K' hS hh=>⟨hS,by rw [hg];exact ⟨nofun,fun _=>hh⟩⟩) (h.2 rfl)
section
variable (dst:Nat->Option Nat) (v:Nat->V) (N:Nat->Dl) (f0:Nat->V) (H0:Hp)
def fS:Nat->(Nat->Bool)->Nat->V
 | 0,_,t=>f0 t
 | k+1,s,t=>if s k=true/\dst k=some t then v k else fS k s t
def HS:Nat->(Nat->Bool)->Hp
 | 0,_=>H0
 | k+1,s=>fun id=>if s k=true/\(N k id).isSome=true then (N k id).join else HS k s id
end
def allT:Nat->Bool:=fun _=>true
section
variable {dst:Nat->Option Nat} {v v':Nat->V} {N N':Nat->Dl} {f0:Nat->V} {H0:Hp} {n0:Nat}
theorem DN {s s':Nat->Bool}:∀ {k:Nat} {t:Nat},(∀ i,i<k->dst i=some t->s i=s' i/\v i=v' i)->fS dst v f0 k s t=fS dst v' f0 k s' t
 | 0,_,_=>rfl
 | k+1,t,h=>by
   simp only [fS];rw [DN (k:=k) fun i hi hd=>h i (by omega) hd];by_cases hd:dst k=some t
   . obtain ⟨h1,h2⟩:=h k (by omega) hd
     simp only [h1,h2]
   . simp [hd]
theorem SN {s:Nat->Bool}:∀ {m k:Nat} {t:Nat},k<=m->(∀ i,k<=i->i<m->dst i=some t->s i=false)->fS dst v f0 m s t=fS dst v f0 k s t
 | 0,k,t,hk,_=>by rw [show k=0 by omega]
 | m+1,k,t,hk,h=>by
   by_cases hkm:k=m+1
   . rw [hkm]
   . simp only [fS]
     rw [if_neg (fun hh=>by have:=h m (by omega) (by omega) hh.2;simp [this] at hh)];exact SN (by omega) fun i h1 h2=>h i h1 (by omega)
theorem wq {s:Nat->Bool} {j:Nat}:∀ {m:Nat},j<m->(∀ i,i<m->i≠j->∀ t,dst i=some t->dst j≠some t)->fS dst v f0 m (upd s j true)=Am (fS dst v f0 m s) (dst j) (v j)
 | 0,h,_=>by omega
 | m+1,hj,hd=>by
   funext t
   by_cases hjm:j=m
   . subst hjm
     have e:fS dst v f0 j (upd s j true) t=fS dst v f0 j s t:=DN fun i hi _=>⟨by rw [AY,if_neg (by omega)],rfl⟩
     simp only [fS,AY,if_true,true_and,e];cases hdj:dst j with
     | none=>simp [Am]
     | some d=>
       simp only [Am,AY];by_cases ht:t=d
       . simp [ht]
       . simp [ht,Ne.symm ht]
   . have ih:=congrFun (wq (s:=s) (j:=j) (m:=m) (by omega) fun i hi=>hd i (by omega)) t
     simp only [fS,ih,AY,if_neg (Ne.symm hjm)];cases hdj:dst j with
     | none=>simp [Am]
     | some d=>
       simp only [Am,AY];by_cases ht:t=d
       . subst ht
         have:dst m≠some t:=fun e=>hd m (by omega) (Ne.symm hjm) t e hdj
         simp [this]
       . simp [ht]
theorem MT {s s':Nat->Bool}:∀ {m:Nat} {id:Nat},(∀ i,i<m->(N i id).isSome=true->s i=s' i)->HS N H0 m s id=HS N H0 m s' id
 | 0,_,_=>rfl
 | m+1,id,h=>by
   have ih:=MT (m:=m) (id:=id) fun i hi=>h i (by omega)
   simp only [HS,ih];by_cases hn:(N m id).isSome=true
   . rw [h m (by omega) hn]
   . simp [hn]
theorem SO {s:Nat->Bool}:∀ {m k:Nat} {id:Nat},k<=m->(∀ i,k<=i->i<m->(N i id).isSome=true->s i=false)->HS N H0 m s id=HS N H0 k s id
 | 0,k,id,hk,_=>by rw [show k=0 by omega]
 | m+1,k,id,hk,h=>by
   by_cases hkm:k=m+1
   . rw [hkm]
   . simp only [HS]
     rw [if_neg (fun hh=>by have:=h m (by omega) (by omega) hh.2;rw [this] at hh;exact absurd hh.1 (by simp))];exact SO (by omega) fun i h1 h2=>h i h1 (by omega)
theorem cB {s:Nat->Bool} {j:Nat}:∀ {m:Nat},j<m->s j=false->(∀ i id,j<i->i<m->(N i id).isSome=true->(N j id).isSome=true->s i=false)->HS N H0 m (upd s j true)=ext (HS N H0 m s) (N j)
 | 0,h,_,_=>by omega
 | m+1,hj,hs,h=>by
   funext id
   by_cases hjm:j=m
   . subst hjm
     have e:HS N H0 j (upd s j true) id=HS N H0 j s id:=MT fun i hi _=>by rw [AY,if_neg (by omega)]
     simp only [HS,AY,if_true,true_and,e,ext,hs,Bool.false_eq_true,false_and,if_false];cases N j id<;>simp
   . have ih:=congrFun (cB (s:=s) (j:=j) (m:=m) (by omega) hs fun i id h1 h2=>h i id h1 (by omega)) id
     simp only [HS,ih,AY,if_neg (Ne.symm hjm),ext];cases hn:N j id with
     | none=>rfl
     | some cs=>
       simp only;by_cases hm:(N m id).isSome=true
       . have:=h m id (by omega) (by omega) hm (by rw [hn];rfl)
         simp [this]
       . simp [hm]
theorem iA {k:Nat}:HS N H0 (k+1) allT=ext (HS N H0 k allT) (N k):=by
 funext id
 simp only [HS,allT,true_and,ext];cases N k id<;>simp
theorem LK {s:Nat->Bool}:∀ {m:Nat},(∀ i,i<m->N i=N' i)->HS N H0 m s=HS N' H0 m s
 | 0,_=>rfl
 | m+1,h=>by
   funext id
   simp only [HS,h m (by omega),LK (m:=m) fun i hi=>h i (by omega)]
theorem LM {all az:List Oper} {ws:List (Nat × Nat)} {cl:List Nat} {S:Nat->(Nat->V)->Hp->Prop} {K:(Nat->V)->Hp->Prop} (hdst:∀ k,dst k=(az[k]?).bind (·.dst)):
   ∀ (rest:List Oper) (k:Nat) (v0:Nat->V) (N0:Nat->Dl),(∀ i,rest[i]?= az[k+i]?)->D4 P Γ eqs all ws cl n0 S k rest (fS dst v0 f0 k allT) (HS N0 H0 k allT) K->
     ∃ v N,(∀ i,i<k->v i=v0 i/\N i=N0 i)/\K (fS dst v f0 (k+rest.length) allT) (HS N H0 (k+rest.length) allT)/\
       ∀ i o,rest[i]?= some o->WI P Γ eqs all ws (k+i) n0 (n0+1048576*(k+i)) o (fS dst v f0 (k+i) allT) (Hcl ws cl (k+i) n0 (HS N H0 (k+i) allT)) ⟨v (k+i),N (k+i)⟩/\S (k+i) (fS dst v f0 (k+i) allT) (HS N H0 (k+i) allT)
 | [],k,v0,N0,_,h=>⟨v0,N0,fun _ _=>⟨rfl,rfl⟩,h,fun i o hi=>by simp at hi⟩
 | o::rest,k,v0,N0,hr,h=>by
   have hok:az[k]?= some o:=by have:=hr 0;simpa using this.symm
   have hdk:dst k=o.dst:=by rw [hdst,hok];rfl
   obtain ⟨x,hx,hnext⟩:∃ x:Nw,WI P Γ eqs all ws k n0 (n0+1048576*k) o (fS dst v0 f0 k allT) (Hcl ws cl k n0 (HS N0 H0 k allT)) x/\
       D4 P Γ eqs all ws cl n0 S (k+1) rest (Am (fS dst v0 f0 k allT) o.dst x.v) (ext (HS N0 H0 k allT) x.N) K:=by
     simp only [D4] at h;replace h:=h.2;cases hg:BA all (fS dst v0 f0 k allT) o.guard with
     | none=>rw [hg] at h;exact h.elim
     | some b=>
       rw [hg] at h;cases b with
       | true=>
         obtain ⟨v,H',hs,hrest⟩:=h.1 rfl;obtain ⟨N,rfl,hsp⟩:=SM (n0:=n0) (mE _ _ _ _ _) hg hs;exact ⟨⟨v,N⟩,hsp,hrest⟩
       | false=>exact ⟨⟨.tup [],B6⟩,WJ hg,h.2 rfl⟩
   have e1:Am (fS dst v0 f0 k allT) o.dst x.v=fS dst (upd v0 k x.v) f0 (k+1) allT:=by
     funext t
     have:fS dst (upd v0 k x.v) f0 k allT t=fS dst v0 f0 k allT t:=DN fun i hi _=>⟨rfl,by rw [AY,if_neg (by omega)]⟩
     simp only [fS,this,hdk,allT,true_and,AY,if_true];cases o.dst with
     | none=>simp [Am]
     | some d=>
       simp only [Am,AY];by_cases ht:t=d
       . simp [ht]
       . simp [ht,Ne.symm ht]
   have e2:ext (HS N0 H0 k allT) x.N=HS (upd N0 k x.N) H0 (k+1) allT:=by
     rw [iA];rw [LK (N:=upd N0 k x.N) (N':=N0) fun i hi=>by rw [AY,if_neg (by omega)]];simp [AY]
   rw [e1,e2] at hnext;obtain ⟨v,N,hag,hK,hsp⟩:=LM hdst rest (k+1) _ _ (fun i=>by have:=hr (i+1);simpa [Nat.add_assoc,Nat.add_comm 1 i] using this) hnext;have hv:v k=x.v/\N k=x.N:=by have:=hag k (by omega);simpa [AY] using this
   have hlow:∀ i,i<k->v i=v0 i/\N i=N0 i:=fun i hi=>by have:=hag i (by omega);simpa [AY,Nat.ne_of_lt hi] using this
   refine ⟨v,N,hlow,by simpa [Nat.add_assoc,Nat.add_comm 1] using hK,fun i o' hi=>?_⟩;cases i with
   | zero=>
     simp only [List.getElem?_cons_zero,Option.some.injEq] at hi;subst hi
     have e3:fS dst v f0 k allT=fS dst v0 f0 k allT:=by
       funext t
       exact DN fun i hi _=>⟨rfl,(hlow i hi).1⟩
     have e4:HS N H0 k allT=HS N0 H0 k allT:=LK fun i hi=>(hlow i hi).2
     simp only [Nat.add_zero];rw [e3,e4,hv.1,hv.2];simp only [D4] at h;exact ⟨hx,h.1⟩
   | succ i=>
     have:=hsp i o' (by simpa using hi)
     rwa [show k+1+i=k+(i+1) by omega] at this
end
structure SP (nt:Nat) (all:List Oper) (cl:List Nat) (m:Nat):Prop where
 dsts:F3 nt all=true
 le:m<=all.length
 acyc:∀ j o,all[j]?= some o->∀ e∈o.after,Region.binds .any e=true->e.on<j
 clo:∀ j o i,all[j]?= some o->inC cl j i=true->∃ e∈o.after,Region.binds .any e=true/\(e.on=i\/inC cl e.on i=true)
 looks:∀ j o,all[j]?= some o->j<m->∀ t∈o.looksAt all.toArray,∀ i,i<m->(all[i]?).bind (·.dst)=some t->inC cl j i=true\/inC cl i j=true
 dist:∀ i j,i<j->j<m->∀ t,(all[i]?).bind (·.dst)=some t->(all[j]?).bind (·.dst)≠some t
 fence:∀ j o i,all[j]?= some o->m<=j->i<j->inC cl j i=true
theorem GF {nt:Nat} {all:List Oper} {cl:List Nat} {m:Nat} (h:M7 nt all cl m=true):SP nt all cl m:=by
 unfold M7 at h;simp only [Bool.and_eq_true,decide_eq_true_eq] at h;obtain ⟨⟨hd,hm⟩,h⟩:=h
 have at':∀ j o,all[j]?= some o->_:=fun j o ho=>by
   have h1:=List.all_eq_true.1 h j (List.mem_range.2 (List.getElem?_eq_some_iff.1 ho).1);rw [ho] at h1;simp only [Bool.and_eq_true] at h1;exact h1
 refine ⟨hd,hm,?_,?_,?_,?_,?_⟩
 . intro j o ho e he hb
   have:=List.all_eq_true.1 (at' j o ho).1.1 e (by simpa using he);simpa [hb] using this
 . intro j o i ho hi
   have hij:i<j:=by simp [inC] at hi;exact hi.1
   have:=List.all_eq_true.1 (at' j o ho).1.2 i (List.mem_range.2 hij);simp only [hi,Bool.not_true,Bool.false_or,List.any_eq_true,Bool.and_eq_true,Bool.or_eq_true,beq_iff_eq] at this;obtain ⟨e,he,h1,h2⟩:=this;exact ⟨e,by simpa using he,h1,h2⟩
 . intro j o ho hj t ht i hi hdi
   have h1:=(at' j o ho).2;rw [if_pos hj,Bool.and_eq_true] at h1;have:=List.all_eq_true.1 (List.all_eq_true.1 h1.1 t ht) i (List.mem_range.2 hi);rw [hdi] at this;simpa using this
 . intro i j hij hj t hdi hdj
   cases ho:all[j]? with
   | none=>rw [ho] at hdj;simp at hdj
   | some o=>
     have h1:=(at' j o ho).2;rw [if_pos hj,Bool.and_eq_true] at h1;have:=List.all_eq_true.1 h1.2 i (List.mem_range.2 hij);rw [ho] at hdj;rw [hdi,show o.dst=some t from hdj] at this;simp at this
 . intro j o i ho hj hi
   have h1:=(at' j o ho).2;rw [if_neg (by omega)] at h1;exact List.all_eq_true.1 h1 i (List.mem_range.2 hi)
def unl:Nat->(Nat->Bool)->Nat
 | 0,_=>0
 | n+1,s=>unl n s+if s n then 0 else 1
theorem Ph {s:Nat->Bool} {j:Nat}:∀ {n:Nat},n<=j->unl n (upd s j true)=unl n s
 | 0,_=>rfl
 | n+1,h=>by
   have e:n≠j:=by omega
   simp only [unl,Ph (s:=s) (j:=j) (n:=n) (by omega),AY,if_neg e]
theorem tL {s:Nat->Bool} {j:Nat} (hs:s j=false):∀ {n:Nat},j<n->unl n (upd s j true)+1=unl n s
 | 0,h=>by omega
 | n+1,h=>by
   simp only [unl];by_cases hj:j=n
   . subst hj
     rw [Ph (Nat.le_refl _)];simp [AY,hs]
   . have:=tL (n:=n) hs (by omega)
     rw [AY,if_neg (Ne.symm hj)];omega
theorem iB {s:Nat->Bool} {j:Nat} (hs:s j=false):∀ {n:Nat},j<n->0<unl n s:=fun h=>by
 have:=tL hs h;omega
structure FM (n:Nat) (s:Nat->Bool) (l:Array Bool):Prop where
 size:l.size=n
 at':∀ i,i<n->l[i]?= some (s i)
theorem FM.set {n:Nat} {s:Nat->Bool} {l:Array Bool} (h:FM n s l) {j:Nat} (hj:j<n):FM n (upd s j true) (l.setIfInBounds j true):=by
 refine ⟨by simp [h.size],fun i hi=>?_⟩;rw [AY];by_cases hij:j=i
 . subst hij;simp [h.size,hj]
 . rw [Array.getElem?_setIfInBounds_ne hij,if_neg (Ne.symm hij)];exact h.at' i hi
theorem FM.ready {all:List Oper} {s:Nat->Bool} {l:Array Bool} (h:FM all.length s l) {j:Nat}:j∈Region.ready .any all.toArray l↔∃ o,all[j]?= some o/\s j=false/\∀ e∈o.after,Region.binds .any e=true->e.on<all.length/\s e.on=true:=by
 rw [mem_ready];constructor
 . rintro ⟨h0,o,ho,he⟩
   have ho:all[j]?= some o:=by simpa using ho
   have hj:=(List.getElem?_eq_some_iff.1 ho).1;refine ⟨o,ho,?_,fun e hm hb=>?_⟩
   . rw [Array.getD_eq_getD_getElem?,h.at' j hj] at h0;exact h0
   . have h1:=he e hm hb
     rw [Array.getD_eq_getD_getElem?] at h1;by_cases hl:e.on<all.length
     . rw [h.at' _ hl] at h1;exact ⟨hl,h1⟩
     . rw [Array.getElem?_eq_none (by rw [h.size];omega)] at h1;simp at h1
 . rintro ⟨o,ho,hs,he⟩
   have hj:=(List.getElem?_eq_some_iff.1 ho).1;refine ⟨by rw [Array.getD_eq_getD_getElem?,h.at' j hj];exact hs,o,by simpa using ho,fun e hm hb=>?_⟩;obtain ⟨h1,h2⟩:=he e hm hb;rw [Array.getD_eq_getD_getElem?,h.at' _ h1];exact h2
variable {G:Gh} {a:Act} {W:World}
theorem J9 (hΓ:GOk P Γ) (hE:EB P eqs) {all:List Oper} {cl:List Nat} {m:Nat} (hd:SP E.nt all cl m) {Q:Exit->Act->World->Prop} {K:St->Prop} {Kx:V->St->Prop} (hK:Sq E Q K Kx):
   ∀ (rest:List Oper) (k:Nat) (st:St) (G:Gh) (a:Act) (W:World) (fuel:Nat) (l:Array Bool),all.drop k=rest->m<=k->k<=all.length->FM all.length (fun i=>decide (i<k)) l->rest.length<=fuel->
     Inv E (· < st.nx+1048576*k) G st a W->KR P Γ eqs all k rest st K Kx->wpAnyIn E.F 0 P .any all.toArray Q fuel l a W
 | [],k,st,G,a,W,fuel,l,hr,hm,hk,hl,hf,hI,h=>by
   have hkn:k=all.length:=by have:=congrArg List.length hr;simp at this;omega
   have hq:Q .normal a W:=by
     exact hK.ok G _ a W (hI.nx _) h
   have hno:∀ j,j ∉ Region.ready .any all.toArray l:=fun j hj=>by
     obtain ⟨o,ho,hs,_⟩:=hl.ready.1 hj;have:=(List.getElem?_eq_some_iff.1 ho).1;simp at hs;omega
   cases fuel with
   | zero=>exact ⟨List.eq_nil_iff_forall_not_mem.2 hno,hq⟩
   | succ n=>
     unfold wpAnyIn;exact And.intro (fun _=>hq) (fun i hi=>absurd hi (hno i))
 | o::rest,k,st,G,a,W,fuel,l,hr,hm,hk,hl,hf,hI,h=>by
   have hok:all[k]?= some o:=by have:=congrArg (·[0]?) hr;simpa using this
   have hkn:=(List.getElem?_eq_some_iff.1 hok).1
   have hrest:all.drop (k+1)=rest:=by
     have:=congrArg List.tail hr
     rwa [List.tail_drop] at this
   have hd1:∀ d,o.dst=some d->d<E.nt:=XJ hd.dsts (List.mem_of_getElem? hok);cases fuel with
   | zero=>simp at hf
   | succ fuel=>
     have hready:k∈Region.ready .any all.toArray l:=hl.ready.2 ⟨o,hok,by simp,fun e he hb=>by have:=hd.acyc k o hok e he hb;exact ⟨by omega,by simpa using this⟩⟩;unfold wpAnyIn;refine And.intro (fun hnil=>absurd hready (by rw [hnil];exact List.not_mem_nil)) (fun j hj=>?_);obtain ⟨o',ho',hs,hed⟩:=hl.ready.1 hj
     have hjk:j=k:=by
       have hge:k<=j:=by simpa using hs
       by_cases hjk:j=k
       . exact hjk
       ·
         exfalso
         have hcl:∀ n j,j<=n->∀ o',all[j]?= some o'->(∀ e∈o'.after,Region.binds .any e=true->e.on<k)->inC cl j k=true->False:=by
           intro n;induction n with
           | zero=>intro j hj o' ho' he hi;simp [inC] at hi;omega
           | succ n ih=>
             intro j hj o' ho' he hi;obtain ⟨e,hem,heb,h1 | h1⟩:=hd.clo j o' k ho' hi
             . have:=he e hem heb;omega
             . have:=he e hem heb
               simp [inC] at h1;omega
         exact hcl j j (Nat.le_refl _) o' ho' (fun e he hb=>by have:=(hed e he hb).2;simpa using this) (hd.fence j o' k ho' (by omega) (by omega))
     subst hjk;rw [hok] at ho';cases ho'
     have hl':FM all.length (fun i=>decide (i<j+1)) (l.setIfInBounds j true):=by
       have:=hl.set hkn;refine ⟨this.size,fun i hi=>?_⟩;rw [this.at' i hi,AY];by_cases hij:i=j
       . simp [hij]
       . rw [if_neg hij]
         simp only [Option.some.injEq,decide_eq_decide];omega
     simp only [KR,Q0] at h;cases hg:BA all st.fr o.guard with
     | none=>simp [hg] at h
     | some b=>
       rw [hg] at h;have hw:=DJ hI hg;unfold wpOpIn;rw [show (all.toArray)[j]?= some o by simpa using hok];simp only;rw [hw];cases b with
       | true=>
         simp only [if_true];rcases h.1 rfl with ⟨st',hs,hrest'⟩ | ⟨v,st',hs,hx⟩
         . refine E4 hΓ hE hI (U':=(· < st.nx+1048576*(j+1))) (fun i hi=>by omega) (fun i hi=>by omega) (fun i hi=>by omega) hd1 hs fun G' a' W' hI'=>?_
           rw [<-hs.nx] at hI';exact J9 hΓ hE hd hK rest (j+1) st' G' a' W' fuel _ hrest (by omega) hkn hl' (by simpa using hf) hI' hrest'
         . refine Fs hI (U':=(· < st.nx+1048576*(j+1))) (fun i hi=>by omega) (fun i hi=>by omega) (fun i hi=>by omega) hd1 hs fun G' W' ch h1 h2 hI'=>?_
           rw [<-hs.nx] at hI' h2;exact hK.pan G' v ⟨st'.fr,st'.H,st'.nx+1048576*(j+1)⟩ a W' ch (hI'.nx _) h1 h2 hx
       | false=>
         simp only [Bool.false_eq_true,if_false];have hI':=(hI.mono (U':=(· < st.nx+1048576*(j+1))) (fun i hi=>by omega)).slot dy (by simp [AV]) o.dst hd1;refine And.intro (fun _ _=>trivial) ?_;exact J9 hΓ hE hd hK rest (j+1) _ G _ W fuel _ hrest (by omega) hkn hl' (by simpa using hf) hI' (h.2 rfl)
def LN (n0:Nat) (s:Nat->Bool) (id:Nat):Prop:=id<n0\/∃ k,s k=true/\n0+1048576*k<=id/\id<n0+1048576*k+1048576
theorem Tt (hΓ:GOk P Γ) (hE:EB P eqs) {all az bs:List Oper} (hall:all=az++bs) {ws:List (Nat × Nat)} {cl:List Nat} (hd:SP E.nt all cl az.length) {Q:Exit->Act->World->Prop} {K:St->Prop} {Kx:V->St->Prop}
   {dst:Nat->Option Nat} (dead:Nat->Bool) (hdst:∀ i o,az[i]?= some o->dst i=if dead i=true then none else o.dst) {v:Nat->V} {N:Nat->Dl} {f0:Nat->V} {H0:Hp} {n0:Nat} (hws:Pg ws cl n0=true) (hK:Sq E Q K Kx)
   (hend:(∀ i,i<az.length->dead i=false)->KR P Γ eqs all az.length bs ⟨fS dst v f0 az.length allT,HS N H0 az.length allT,n0⟩ K Kx)
   (hsN:∀ i id,i<az.length->(N i id).isSome=true->(n0+1048576*i<=id/\id<n0+1048576*i+1048576)\/(i,id)∈ws)
   (hsp:∀ i o,az[i]?= some o->dead i=false->WI P Γ eqs all ws i n0 (n0+1048576*i) o (fS dst v f0 i allT) (Hcl ws cl i n0 (HS N H0 i allT)) ⟨v i,N i⟩)
   (hpan:∀ i o,az[i]?= some o->dead i=true->(∃ j,inC cl i j=true/\dead j=true)\/∃ D,(∀ st,Kx (.d D) st)/\jQ P all o (fS dst v f0 i allT) (Hcl ws cl i n0 (HS N H0 i allT)) D):
   ∀ (fuel:Nat) (l:Array Bool) (s:Nat->Bool) (G:Gh) (a:Act) (W:World),FM all.length s l->(∀ i,s i=true->i<az.length/\dead i=false)->(∀ k,s k=true->∀ i,inC cl k i=true->s i=true)->unl all.length s<=fuel->
     Inv E (LN n0 s) G ⟨fS dst v f0 az.length s,HS N H0 az.length s,n0⟩ a W->wpAnyIn E.F 0 P .any all.toArray Q fuel l a W:=by
 have hget:∀ i,i<az.length->all[i]?= az[i]?:= fun i hi=>by rw [hall,List.getElem?_append_left hi]
 have hdl:∀ i t,i<az.length->dst i=some t->(all[i]?).bind (·.dst)=some t:=fun i t hi ht=>by
   have hoi:az[i]?= some az[i]:=List.getElem?_eq_getElem hi;rw [hdst i _ hoi] at ht;split at ht
   . cases ht
   . rw [hget i hi,hoi];exact ht
 intro fuel;induction fuel with
 | zero=>
   intro l s G a W hl hs hcl hf hI
   have hno:∀ i,i<all.length->s i=true:=fun i hi=>by
     by_cases h:s i=true
     . exact h
     . have:=iB (s:=s) (j:=i) (by simpa using h) hi;omega
   have hA:az.length=all.length:=by
     have h1:=hd.le;by_cases h:az.length<all.length
     . have:=(hs _ (hno _ h)).1;omega
     . omega
   have hse:∀ i,i<az.length->s i=allT i:=fun i hi=>hno i (by omega)
   have e1:fS dst v f0 az.length s=fS dst v f0 az.length allT:=funext fun t=>DN fun i hi _=>⟨hse i hi,rfl⟩
   have e2:HS N H0 az.length s=HS N H0 az.length allT:=funext fun id=>MT fun i hi _=>hse i hi
   rw [e1,e2] at hI;refine J9 hΓ hE hd hK bs az.length _ G a W 0 l (by rw [hall];simp) (Nat.le_refl _) hd.le ?_ (by rw [hall] at hA;simp at hA;simp [hA]) (hI.mono fun i hi=>?_) (hend fun i hi=>(hs i (hno i (by omega))).2)
   . refine ⟨hl.size,fun i hi=>?_⟩
     rw [hl.at' i hi,hno i hi];simp;omega
   . rcases hi with h | ⟨k,hk,h1,h2⟩
     . show i<n0+_;omega
     . have:=(hs k hk).1;show i<n0+_;omega
 | succ fuel ih=>
   intro l s G a W hl hs hcl hf hI;by_cases hfull:∀ i,i<az.length->s i=true
   ·
     have hse:∀ i,i<az.length->s i=allT i:=fun i hi=>hfull i hi
     have e1:fS dst v f0 az.length s=fS dst v f0 az.length allT:=funext fun t=>DN fun i hi _=>⟨hse i hi,rfl⟩
     have e2:HS N H0 az.length s=HS N H0 az.length allT:=funext fun id=>MT fun i hi _=>hse i hi
     rw [e1,e2] at hI
     have hcount:∀ n,az.length<=n->unl n s=n-az.length:=by
       intro n;induction n with
       | zero=>intro _;simp [unl]
       | succ n ihn=>
         intro hn;simp only [unl];by_cases hle:az.length<=n
         . have hsn:s n=false:=by
             cases h:s n with
             | false=>rfl
             | true=>have:=(hs n h).1;omega
           rw [ihn hle,hsn];simp;omega
         . have e:az.length=n+1:=by omega
           have:unl n s=0:=by
             have:∀ j,j<=n->unl j s=0:=by
               intro j;induction j with
               | zero=>intro _;rfl
               | succ j ihj=>intro hj;simp only [unl];rw [ihj (by omega),hfull j (by omega)];rfl
             exact this n (Nat.le_refl _)
           rw [this,hfull n (by omega)];simp;omega
     have hcn:=hcount all.length hd.le;refine J9 hΓ hE hd hK bs az.length _ G a W (fuel+1) l (by rw [hall];simp) (Nat.le_refl _) hd.le ?_ (by rw [hall] at hcn hf;simp at hcn hf;omega) (hI.mono fun i hi=>?_) (hend fun i hi=>(hs i (hfull i hi)).2)
     . refine ⟨hl.size,fun i hi=>?_⟩
       rw [hl.at' i hi];by_cases h:i<az.length
       . rw [hfull i h];simp [h]
       . cases h2:s i with
         | false=>simp [h]
         | true=>exact absurd (hs i h2).1 h
     . rcases hi with h | ⟨k,hk,h1,h2⟩
       . show i<n0+_;omega
       . have:=(hs k hk).1;show i<n0+_;omega
   ·
     have hready:∃ j,j∈Region.ready .any all.toArray l:=by
       have hne:∃ i,i<az.length/\s i=false:=by
         simp only [Classical.not_forall] at hfull;obtain ⟨i,hi,h⟩:=hfull;exact ⟨i,hi,by simpa using h⟩
       obtain ⟨i,hi,hsi⟩:=hne
       have hleast:∀ n i,i<=n->i<az.length->s i=false->∃ j,j<az.length/\s j=false/\∀ k,k<j->s k=true:=by
         intro n;induction n with
         | zero=>intro i h1 h2 h3;exact ⟨i,h2,h3,fun k hk=>by omega⟩
         | succ n ihn=>
           intro i h1 h2 h3;by_cases hh:∀ k,k<i->s k=true
           . exact ⟨i,h2,h3,hh⟩
           . simp only [Classical.not_forall] at hh
             obtain ⟨k,hk,h⟩:=hh;exact ihn k (by omega) (by omega) (by simpa using h)
       obtain ⟨j,hj,hsj,hlow⟩:=hleast i i (Nat.le_refl _) hi hsi;have hjl:j<all.length:=by have:=hd.le;omega
       have ho:all[j]?= some all[j]:=List.getElem?_eq_getElem hjl
       exact ⟨j,hl.ready.2 ⟨_,ho,hsj,fun e he hb=>by
         have h1:=hd.acyc j _ ho e he hb;exact And.intro (by omega) (hlow _ h1)⟩⟩
     unfold wpAnyIn;refine And.intro (fun hnil=>?_) (fun j hj=>?_)
     . obtain ⟨j,hj⟩:=hready;rw [hnil] at hj;cases hj
     obtain ⟨o,ho,hsj,hed⟩:=hl.ready.1 hj;have hjl:=(List.getElem?_eq_some_iff.1 ho).1
     have hcj:∀ i,inC cl j i=true->s i=true:=fun i hi=>by
       obtain ⟨e,he,hb,h | h⟩:=hd.clo j o i ho hi
       . rw [<-h];exact (hed e he hb).2
       . exact hcl _ (hed e he hb).2 i h
     have hjA:j<az.length:=by
       by_cases h:j<az.length
       . exact h
       . exact absurd (fun i hi=>hcj i (hd.fence j o i ho (by omega) (by omega))) hfull
     have hoA:az[j]?= some o:=by rw [<-hget j hjA];exact ho
     have hlook:∀ t∈o.looksAt all.toArray,fS dst v f0 az.length s t=fS dst v f0 j allT t:=fun t ht=>by
       have e1:fS dst v f0 az.length s t=fS dst v f0 az.length (fun i=>decide (i<j)) t:=DN fun i hi hdi=>by
         rcases hd.looks j o ho hjA t ht i hi (hdl i t hi hdi) with hc | hc
         . have h1:i<j:=JQ hc
           exact And.intro (by rw [hcj i hc];simp [h1]) rfl
         . have h1:j<i:=JQ hc
           refine And.intro ?_ rfl;cases hsi:s i with
           | false=>simp;omega
           | true=>have:=hcl i hsi j hc;rw [this] at hsj;cases hsj
       rw [e1,SN (Nat.le_of_lt hjA) fun i h1 _ _=>by simp;omega];exact DN fun i hi _=>And.intro (by simp [hi,allT]) rfl
     have hNi:∀ i id,i<az.length->(N i id).isSome=true->(n0+1048576*i<=id/\id<n0+1048576*i+1048576)\/(i,id)∈ws:=hsN
     have hH:HLe (Hcl ws cl j n0 (HS N H0 j allT)) (HS N H0 az.length s):=fun id cs h=>by
       simp only [Hcl] at h;split at h
       . rename_i hc
         obtain ⟨hc1,hc2⟩:=hc;rw [<-h]
         have e1:HS N H0 az.length s id=HS N H0 az.length (fun i=>decide (i<j)) id:=MT fun i hi hn=>by
           rcases hNi i id hi hn with ⟨h1,h2⟩ | hw
           . have hown:(id-n0)/1048576=i:=by omega
             have hin:inC cl j i=true:=by rw [<-hown];exact hc1.resolve_left (by omega)
             rw [hcj i hin];simp [JQ hin]
           . have h3:=List.all_eq_true.1 hc2 _ hw
             simp only [bne_self_eq_false,Bool.false_or,Bool.or_eq_true,beq_iff_eq] at h3;rcases h3 with (h3 | h3) | h3
             . rw [h3,hsj];simp
             . rw [hcj i h3];simp [JQ h3]
             . have hlt:=JQ h3
               cases hsi:s i with
               | false=>simp;omega
               | true=>have:=hcl i hsi j h3;rw [this] at hsj;cases hsj
         rw [e1,SO (Nat.le_of_lt hjA) fun i h1 _ _=>by simp;omega];exact MT fun i hi _=>by simp [hi,allT]
       . cases h
     have hU:∀ i,LN n0 s i->LN n0 (upd s j true) i:=fun i hi=>by
       rcases hi with h | ⟨k,hk,h1,h2⟩
       . exact .inl h
       . exact .inr ⟨k,by rw [AY];split<;>first | rfl | exact hk,h1,h2⟩
     have hb0:∀ i,i<1048576->¬ LN n0 s (n0+1048576*j+i):=fun i hi hu=>by
       rcases hu with h | ⟨k,hk,h1,h2⟩
       . omega
       . have:k=j:=by omega
         rw [this] at hk;rw [hk] at hsj;cases hsj
     have hb1:∀ i,i<1048576->LN n0 (upd s j true) (n0+1048576*j+i):=fun i hi=> .inr ⟨j,by simp [AY],by omega,by omega⟩
     have hd1:∀ d,o.dst=some d->d<E.nt:=XJ hd.dsts (List.mem_of_getElem? ho);cases hdead:dead j with
     | true=>
       rcases hpan j o hoA hdead with ⟨i,hi,hdi⟩ | ⟨D,hkx,hpn⟩
       . have:=(hs i (hcj i hi)).2
         rw [hdi] at this;cases this
       . obtain ⟨hg,st',hnx,hst⟩:=hpn n0 (n0+1048576*j) _ _ hlook hH
         unfold wpOpIn;rw [show (all.toArray)[j]?= some o by simpa using ho];simp only;rw [DJ hI hg];simp only [if_true];refine Fs hI hb0 hU hb1 hd1 hst fun G' W' ch hx _ hI'=>?_
         refine hK.pan G' (.d D) ⟨st'.fr,st'.H,n0+1048576*az.length⟩ a W' ch ((hI'.nx _).mono fun i hi=>?_) hx trivial (hkx _);rcases hi with h | ⟨k,hk,h1,h2⟩
         . show i<n0+_;omega
         . have:k<az.length:=by
             rw [AY] at hk;split at hk
             . rename_i e;rw [e];exact hjA
             . exact (hs k hk).1
           show i<n0+_;omega
     | false=>
     have hdj:dst j=o.dst:=by rw [hdst j o hoA,hdead];rfl
     obtain ⟨hN,hstep⟩:=hsp j o hoA hdead
     have hs':∀ i,upd s j true i=true->i<az.length/\dead i=false:=fun i hi=>by
       rw [AY] at hi;split at hi
       . rename_i e;rw [e];exact ⟨hjA,hdead⟩
       . exact hs i hi
     have hcl':∀ k,upd s j true k=true->∀ i,inC cl k i=true->upd s j true i=true:=fun k hk i hi=>by
       have h1:s i=true:=by
         rw [AY] at hk;split at hk
         . rename_i e;exact hcj i (e ▸ hi)
         . exact hcl k hk i hi
       rw [AY];split
       . rfl
       . exact h1
     have hun:=tL hsj hjl
     have eF:fS dst v f0 az.length (upd s j true)=Am (fS dst v f0 az.length s) o.dst (v j):=by
       rw [<-hdj];refine wq hjA fun i hi hij t hdi hdjt=>?_
       replace hdi:=hdl i t hi hdi;replace hdjt:=hdl j t hjA hdjt;rcases Nat.lt_or_gt_of_ne hij with h | h
       . exact hd.dist i j h hjA t hdi hdjt
       . exact hd.dist j i h hi t hdjt hdi
     have eH:HS N H0 az.length (upd s j true)=ext (HS N H0 az.length s) (N j):=cB hjA hsj fun i id h1 h2 hn1 hn2=>by
       cases hsi:s i with
       | false=>rfl
       | true=>
         exfalso
         have hij:inC cl i j=true:=by
           rcases hNi i id h2 hn1 with ⟨a1,a2⟩ | w1<;>rcases hNi j id hjA hn2 with ⟨b1,b2⟩ | w2
           . omega
           . have:=JQ (MP hws w2 (by omega) (by omega));omega
           . have h3:=MP hws w1 (by omega) (by omega)
             rwa [show (id-n0)/1048576=j by omega] at h3
           . exact APY hws w2 w1 h1
         have:=hcl i hsi j hij;rw [this] at hsj;cases hsj
     unfold wpOpIn;rw [show (all.toArray)[j]?= some o by simpa using ho];simp only;rcases hstep _ _ hlook hH with ⟨hg,hst⟩ | ⟨hg,hv,hNn⟩
     . rw [DJ hI hg]
       simp only [if_true];refine E4 hΓ hE hI hb0 hU hb1 hd1 hst fun G' a' W' hI'=>?_
       refine ih _ (upd s j true) G' a' W' (hl.set hjl) hs' hcl' (by omega) ?_;rw [eF,eH];exact hI'
     . rw [DJ hI hg]
       simp only [Bool.false_eq_true,if_false];refine And.intro (fun _ _=>trivial) ?_;refine ih _ (upd s j true) G _ W (hl.set hjl) hs' hcl' (by omega) ?_;rw [eF,eH,show v j= .tup [] from hv,show N j=B6 from hNn];exact (hI.mono hU).slot dy (by simp [AV]) o.dst hd1
theorem AW.draw {st:St} (hΓ:GOk P Γ) (hE:EB P eqs) (hm:P.follows .mixedOrders=true) {id:Nat} {az bs:List Oper} {ws:List (Nat × Nat)} {cl:List Nat} {Q:Av->St->Prop} (hd:M7 E.nt (az++bs) cl az.length=true) (hws:Pg ws cl st.nx=true)
   (h:GE P Γ eqs (az++bs) ws cl st.nx (fun v=>∀ st,Q (.pan v) st) 0 az st.fr st.H fun f H=>KR P Γ eqs (az++bs) az.length bs ⟨f,H,st.nx⟩ (Q .normal) (fun v st=>Q (.pan v) st)):AW P E (.region id (az++bs).toArray true) Q st:=by
 intro G a W hI;refine wpIn_region_any hm ?_;have hI:=hI.drew
 have start:∀ (dst:Nat->Option Nat) (v:Nat->V) (N:Nat->Dl),HS N st.H az.length (fun _=>false)=st.H/\fS dst v st.fr az.length (fun _=>false)=st.fr:=fun dst v N=>⟨by
   funext id
   rw [SO (k:=0) (by omega) fun i _ _ _=>rfl];rfl,by
   funext t
   rw [SN (k:=0) (by omega) fun i _ _ _=>rfl];rfl⟩
 have hlist:FM (az++bs).length (fun _=>false) (Array.replicate (az++bs).toArray.size false):=⟨by simp,fun i hi=>by
   simp only [Array.getElem?_replicate,List.size_toArray];rw [if_pos hi]⟩
 have hunl:unl (az++bs).length (fun _=>false)<=(az++bs).toArray.size:=by
   simp only [List.size_toArray]
   have:∀ n,unl n (fun _=>false)<=n:=by
     intro n;induction n with
     | zero=>simp [unl]
     | succ n ih=>simp only [unl];simp;omega
   exact this _
 have hids:∀ {as':List Oper} {dst:Nat->Option Nat} {v:Nat->V} {N:Nat->Dl},as'.length=az.length->(∀ i o,as'[i]?= some o->WI P Γ eqs (az++bs) ws i st.nx (st.nx+1048576*i) o (fS dst v st.fr i allT) (Hcl ws cl i st.nx (HS N st.H i allT)) ⟨v i,N i⟩)->
     ∀ i id,i<az.length->(N i id).isSome=true->(st.nx+1048576*i<=id/\id<st.nx+1048576*i+1048576)\/(i,id)∈ws:=fun {as'} _ _ _ hl h i id hi hn=>
   (h i _ (List.getElem?_eq_getElem (by omega:i<as'.length))).1 id hn
 rcases Jk az 0 st.fr st.H h with h | ⟨k0,o0,D,_,ho0,hz,h⟩
 . obtain ⟨v,N,_,hend,hsp⟩:=LM (dst:=fun k=>(az[k]?).bind (·.dst)) (f0:=st.fr) (H0:=st.H) (fun _=>rfl) az 0 (fun _=> .junk) (fun _=>B6) (fun i=>by simp) h
   simp only [Nat.zero_add] at hend hsp;refine Tt hΓ hE rfl (GF hd) (dst:=fun k=>(az[k]?).bind (·.dst)) (fun _=>false) (fun i o ho=>by simp [ho]) hws KT (fun _=>hend) (hids rfl fun i o ho=>(hsp i o ho).1) (fun i o ho _=>(hsp i o ho).1) (fun i o _ hd=>by cases hd) _ _ (fun _=>false) G a _ hlist (fun i h=>by cases h) (fun k h=>by cases h) hunl ?_;rw [(start (fun _=>none) v N).1,(start _ v N).2];exact hI.mono fun i hi=> .inl hi
 . rw [Nat.sub_zero] at ho0
   have hlen:(Ua cl k0 0 az).length=az.length:=MR;have hk0:k0<az.length:=(List.getElem?_eq_some_iff.1 ho0).1;obtain ⟨v,N,_,_,hsp⟩:=LM (dst:=fun k=>((Ua cl k0 0 az)[k]?).bind (·.dst)) (f0:=st.fr) (H0:=st.H) (fun _=>rfl) (Ua cl k0 0 az) 0 (fun _=> .junk) (fun _=>B6) (fun i=>by simp) h;simp only [Nat.zero_add] at hsp;have hlive:∀ i o,az[i]?= some o->Fe cl k0 i=false->(Ua cl k0 0 az)[i]?= some o:=fun i o ho hd=>by rw [Ge,ho];simp [hd]
   refine Tt hΓ hE rfl (GF hd) (dst:=fun k=>((Ua cl k0 0 az)[k]?).bind (·.dst)) (Fe cl k0) (fun i o ho=>?_) hws KT (fun hno=>?_) (hids hlen fun i o ho=>(hsp i o ho).1) (fun i o ho hd=>(hsp i o (hlive i o ho hd)).1) (fun i o ho hd=>?_) _ _ (fun _=>false) G a _ hlist (fun i h=>by cases h) (fun k h=>by cases h) hunl ?_
   . simp only [Ge,ho,Nat.zero_add,Option.map_some,Option.bind_some]
     split<;>simp [bz]
   . have:=hno k0 hk0
     simp [Fe] at this
   . by_cases e:i=k0
     . subst e
       rw [ho0] at ho;cases ho;have hm0:(Ua cl i 0 az)[i]?= some (bz o0):=by rw [Ge,ho0];simp [Fe]
       obtain ⟨hg,hs⟩:=(hsp i _ hm0).2 rfl;exact .inr ⟨D,hz,Pf hg hs⟩
     . refine .inl ⟨k0,?_,by simp [Fe]⟩
       simpa [Fe,e] using hd
   . rw [(start (fun _=>none) v N).1,(start _ v N).2]
     exact hI.mono fun i hi=> .inl hi
end Go.Psl
namespace Go.Psl
variable {P:Program} {Γ:Tys} {eqs:Eqs} {E:Ent}
def W0 (ρ:Nat->Option Nat) (v:V):V->Prop
 | .junk=>True
 | .d x=>v= .d x
 | .lp i off=>∃ j,ρ i=some j/\v= .lp j off
 | .ls i off len sz=>match ρ i with
   | some j=>v= .ls j off len sz
   | none=>len=0/\v= .d (.lit (.slice none 0 0))
 | .yl i=>∃ j,ρ i=some j/\v= .yl j
 | _=>False
def W1 (ρ:Nat->Option Nat) (v:V):V->Prop
 | .cl f caps=>∃ cs,v= .cl f cs/\AJ (W0 ρ) cs caps
 | v'=>W0 ρ v v'
def W2 (ρ:Nat->Option Nat) (v:V):V->Prop
 | .agg cs'=>∃ cs,v= .agg cs/\AJ (W1 ρ) cs cs'
 | v'=>W1 ρ v v'
def WV (ρ:Nat->Option Nat) (v:V):V->Prop
 | .tup cs'=>∃ cs,v= .tup cs/\AJ (W2 ρ) cs cs'
 | v'=>W2 ρ v v'
def WC (ρ:Nat->Option Nat) (v:V):V->Prop
 | .lr fr nt ps pa pb jmp=>v= .lr fr nt ps pa pb jmp/\∀ t,AV (fun i=>ρ i=some i) AR (fr t)
 | v'=>W1 ρ v v'
def Bt (G:Gh) (ρ:Nat->Option Nat):Gh where
 β i:=match ρ i with | some j=>G.β j | none=>0
 bs i:=match ρ i with | some j=>G.bs j | none=>0
 ph i:=match ρ i with | some j=>G.ph j | none=>true
 lo i:=match ρ i with | some j=>G.lo j | none=>false
 Im:=G.Im
section
variable {G:Gh} {W:World} {ρ:Nat->Option Nat}
theorem W0.rel {v v':V} {x:Value} (h:W0 ρ v v') (hr:R0 G W v x):R0 (Bt G ρ) W v' x:=by
 cases v' with
 | junk=>trivial
 | d y=>have h:v= .d y:=h;subst h;exact hr
 | lp i off=>
   obtain ⟨j,hj,rfl⟩:=h;simp only [R0,Bt,hj];exact hr
 | ls i off len sz=>
   unfold W0 at h;simp only at h;cases hj:ρ i with
   | some j=>
     rw [hj] at h;simp only at h;subst h;simp only [R0,Bt,hj];exact hr
   | none=>
     rw [hj] at h;obtain ⟨rfl,rfl⟩:=h;have hr:RD G.Im W (.lit (.slice none 0 0)) x:=hr;cases hr;simp only [R0,Bt,hj];simp [maxL]
 | yl i=>
   obtain ⟨j,hj,rfl⟩:=h;simp only [R0,Bt,hj];exact hr
 | lr=>exact h.elim
 | cl f c=>exact h.elim
 | agg c=>exact h.elim
 | tup c=>exact h.elim
theorem AYO {S S':V->Value->Prop} {T:V->V->Prop} (h:∀ v v' x,T v v'->S v x->S' v' x):∀ {vs vs':List V} {xs:List Value},AJ T vs vs'->AJ S vs xs->AJ S' vs' xs
 | [],[],_,_,h2=>by cases AJ.nil_iff.1 h2;trivial
 | _::_,_::_,[],_,h2=>h2.elim
 | _::_,_::_,_::_,h1,h2=>⟨h _ _ _ h1.1 h2.1,AYO h h1.2 h2.2⟩
 | [],_::_,_,h1,_=>h1.elim
 | _::_,[],_,h1,_=>h1.elim
theorem W1.rel {v v':V} {x:Value} (h:W1 ρ v v') (hr:R1 G W v x):R1 (Bt G ρ) W v' x:=by
 cases v' with
 | cl f caps=>
   obtain ⟨cs,rfl,hc⟩:=h;obtain ⟨cv,hx,hcv⟩:=hr;exact ⟨cv,hx,AYO (S:=R0 G W) (S':=R0 (Bt G ρ) W) (T:=W0 ρ) (fun _ _ _=>W0.rel) hc hcv⟩
 | junk=>trivial
 | d y=>have h:v= .d y:=h;subst h;exact hr
 | lp i off=>
   have h':=h;obtain ⟨j,hj,rfl⟩:=h';exact W0.rel (W:=W) (v':= .lp i off) h hr
 | ls i off len sz=>
   have h':W0 ρ v (.ls i off len sz):=h
   have hv:R0 G W v x:=by
     unfold W0 at h';simp only at h';split at h'
     . subst h';exact hr
     . rw [h'.2] at hr ⊢;exact hr
   exact W0.rel (W:=W) (v':= .ls i off len sz) h hv
 | yl i=>
   have h':=h;obtain ⟨j,hj,rfl⟩:=h';exact W0.rel (W:=W) (v':= .yl i) h hr
 | lr=>exact h.elim
 | agg c=>exact h.elim
 | tup c=>exact h.elim
theorem W1.notop {v v':V} (h:W1 ρ v v') (hj:v'≠ .junk):(∀ c,v≠ .agg c)/\∀ c,v≠ .tup c:=by
 cases v' with
 | junk=>exact absurd rfl hj
 | cl f c=>obtain ⟨cs,rfl,_⟩:=h;simp
 | d y=>have h:v= .d y:=h;subst h;simp
 | lp i off=>obtain ⟨j,hj,rfl⟩:=h;simp
 | ls i off len sz=>
   have h:W0 ρ v (.ls i off len sz):=h;unfold W0 at h;simp only at h;split at h
   . subst h;simp
   . rw [h.2];simp
 | yl i=>obtain ⟨j,hj,rfl⟩:=h;simp
 | lr=>exact h.elim
 | agg c=>exact h.elim
 | tup c=>exact h.elim
theorem R2.r1 {v:V} {x:Value} (h:∀ c,v≠ .agg c) (hr:R2 G W v x):R1 G W v x:=by
 cases v with
 | agg c=>exact absurd rfl (h c)
 | _=>exact hr
theorem RV.r2 {v:V} {x:Value} (h:∀ c,v≠ .tup c) (hr:RV G W v x):R2 G W v x:=by
 cases v with
 | tup c=>exact absurd rfl (h c)
 | _=>exact hr
theorem W2.rel {v v':V} {x:Value} (h:W2 ρ v v') (hr:R2 G W v x):R2 (Bt G ρ) W v' x:=by
 by_cases hj:v'= .junk
 . subst hj;trivial
 . cases v' with
   | agg c=>
     obtain ⟨cs,rfl,hc⟩:=h;obtain ⟨cv,hx,hcv⟩:=hr;exact ⟨cv,hx,AYO (S:=R1 G W) (S':=R1 (Bt G ρ) W) (T:=W1 ρ) (fun _ _ _=>W1.rel) hc hcv⟩
   | junk=>exact absurd rfl hj
   | tup c=>exact h.elim
   | d y=>exact W1.rel (v':= .d y) h (R2.r1 (W1.notop (ρ:=ρ) (v':= .d y) h hj).1 hr)
   | lp i o=>exact W1.rel (v':= .lp i o) h (R2.r1 (W1.notop (ρ:=ρ) (v':= .lp i o) h hj).1 hr)
   | ls i o l z=>exact W1.rel (v':= .ls i o l z) h (R2.r1 (W1.notop (ρ:=ρ) (v':= .ls i o l z) h hj).1 hr)
   | cl f c=>exact W1.rel (v':= .cl f c) h (R2.r1 (W1.notop (ρ:=ρ) (v':= .cl f c) h hj).1 hr)
   | yl i=>exact W1.rel (v':= .yl i) h (R2.r1 (W1.notop (ρ:=ρ) (v':= .yl i) h hj).1 hr)
   | lr=>exact h.elim
theorem W2.notup {v v':V} (h:W2 ρ v v') (hj:v'≠ .junk):∀ c,v≠ .tup c:=by
 cases v' with
 | agg c=>obtain ⟨cs,rfl,_⟩:=h;simp
 | junk=>exact absurd rfl hj
 | tup c=>exact h.elim
 | d y=>exact (W1.notop (ρ:=ρ) (v':= .d y) h hj).2
 | lp i o=>exact (W1.notop (ρ:=ρ) (v':= .lp i o) h hj).2
 | ls i o l z=>exact (W1.notop (ρ:=ρ) (v':= .ls i o l z) h hj).2
 | cl f c=>exact (W1.notop (ρ:=ρ) (v':= .cl f c) h hj).2
 | yl i=>exact (W1.notop (ρ:=ρ) (v':= .yl i) h hj).2
 | lr=>exact h.elim
theorem WV.rel {v v':V} {x:Value} (h:WV ρ v v') (hr:RV G W v x):RV (Bt G ρ) W v' x:=by
 by_cases hj:v'= .junk
 . subst hj;trivial
 . cases v' with
   | tup c=>
     obtain ⟨cs,rfl,hc⟩:=h;obtain ⟨cv,hx,hcv⟩:=hr;exact ⟨cv,hx,AYO (S:=R2 G W) (S':=R2 (Bt G ρ) W) (T:=W2 ρ) (fun _ _ _=>W2.rel) hc hcv⟩
   | junk=>exact absurd rfl hj
   | agg c=>exact W2.rel (v':= .agg c) h (RV.r2 (W2.notup (ρ:=ρ) (v':= .agg c) h hj) hr)
   | d y=>exact W2.rel (v':= .d y) h (RV.r2 (W2.notup (ρ:=ρ) (v':= .d y) h hj) hr)
   | lp i o=>exact W2.rel (v':= .lp i o) h (RV.r2 (W2.notup (ρ:=ρ) (v':= .lp i o) h hj) hr)
   | ls i o l z=>exact W2.rel (v':= .ls i o l z) h (RV.r2 (W2.notup (ρ:=ρ) (v':= .ls i o l z) h hj) hr)
   | cl f c=>exact W2.rel (v':= .cl f c) h (RV.r2 (W2.notup (ρ:=ρ) (v':= .cl f c) h hj) hr)
   | yl i=>exact W2.rel (v':= .yl i) h (RV.r2 (W2.notup (ρ:=ρ) (v':= .yl i) h hj) hr)
   | lr=>exact h.elim
theorem Wq:De (fun i=>ρ i=some i) AR (fun i=>i) G W (Bt G ρ) W:=
 ⟨fun i hi=>by simp only [Bt,hi,and_self],fun _ _ _ h=>h⟩
end
def Bv (l:List V):Prop:=l.all V.isCell=true\/(∃ fr nt ps pa pb jmp,l=[.lr fr nt ps pa pb jmp])\/∃ es,l=Qo es
def Ej (ρ:Nat->Option Nat) (H:Hp):List (Nat × List V)->Prop
 | []=>True
 | p::r=>(match ρ p.1 with | some j=>(∃ cs,H j=some cs/\AJ (WC ρ) cs p.2)/\Bv p.2 | none=>p.2=[])/\Ej ρ H r
def jf (ρ:Nat->Option Nat) (H h:Hp):Prop:=∀ i cs',h i=some cs'->(∃ j cs,ρ i=some j/\H j=some cs/\AJ (WC ρ) cs cs'/\Bv cs')\/(ρ i=none/\cs'=[])
theorem Ej.at {ρ:Nat->Option Nat} {H:Hp}:∀ {h:List (Nat × List V)},Ej ρ H h->jf ρ H (lk h)
 | [],_,i,cs',h=>by simp [lk] at h
 | p::r,hk,i,cs',h=>by
   simp only [lk] at h;split at h
   . rename_i e
     cases h;subst e;have h1:=hk.1;cases hj:ρ p.1 with
     | none=>rw [hj] at h1;exact .inr ⟨rfl,h1⟩
     | some j=>rw [hj] at h1;obtain ⟨⟨cs,h2,h3⟩,h4⟩:=h1;exact .inl ⟨j,cs,rfl,h2,h3,h4⟩
   . exact hk.2.at i cs' h
def G3 (ρ:Nat->Option Nat):List (Nat × List V)->Prop
 | []=>True
 | p::r=>(∀ q∈r,ρ q.1=none\/ρ q.1≠ρ p.1\/q.1=p.1)/\G3 ρ r
theorem P7 {α:Type}:∀ {l:List (Nat × α)} {i:Nat} {x:α},lk l i=some x->∃ p∈l,p.1=i
 | [],_,_,h=>by simp [lk] at h
 | p::r,i,x,h=>by
   simp only [lk] at h;split at h
   . rename_i e;exact ⟨p,by simp,e.symm⟩
   . obtain ⟨q,hq,e⟩:=P7 h;exact ⟨q,by simp [hq],e⟩
def iZ (ρ:Nat->Option Nat) (h:Hp):Prop:=∀ i i' j,InH h i->InH h i'->ρ i=some j->ρ i'=some j->i=i'
theorem G3.at' {ρ:Nat->Option Nat}:∀ {h:List (Nat × List V)} {i i' j:Nat} {x x':List V},G3 ρ h->lk h i=some x->lk h i'=some x'->ρ i=some j->ρ i'=some j->i=i'
 | [],_,_,_,_,_,_,h,_,_,_=>by simp [lk] at h
 | p::r,i,i',j,x,x',hk,h,h',e,e'=>by
   simp only [lk] at h h';split at h
   . rename_i hi
     subst hi;split at h'
     . rename_i hi';exact hi'.symm
     . obtain ⟨q,hq,hqi⟩:=P7 h'
       subst hqi;rcases hk.1 q hq with h1 | h1 | h1
       . rw [e'] at h1;cases h1
       . exact absurd (e'.trans e.symm) h1
       . exact h1.symm
   . split at h'
     . rename_i hi'
       subst hi';obtain ⟨q,hq,hqi⟩:=P7 h;subst hqi;rcases hk.1 q hq with h1 | h1 | h1
       . rw [e] at h1;cases h1
       . exact absurd (e.trans e'.symm) h1
       . exact h1
     . exact G3.at' hk.2 h h' e e'
theorem G3.at {ρ:Nat->Option Nat} {h:List (Nat × List V)} (hr:G3 ρ h):iZ ρ (lk h):=fun i i' j h1 h2=>by
 obtain ⟨x,hx⟩:=Option.isSome_iff_exists.1 h1;obtain ⟨x',hx'⟩:=Option.isSome_iff_exists.1 h2;exact hr.at' hx hx'
def A7 (n:Nat):List (Nat × List V)->Prop
 | []=>True
 | p::r=>p.1<n/\(∀ c∈p.2,AC (· < n) AR c)/\A7 n r
def H3 (n:Nat) (h:Hp):Prop:=∀ i cs,h i=some cs->i<n/\∀ c∈cs,AC (· < n) AR c
theorem A7.at {n:Nat}:∀ {h:List (Nat × List V)},A7 n h->H3 n (lk h)
 | [],_,i,cs,h=>by simp [lk] at h
 | p::r,hk,i,cs,h=>by
   simp only [lk] at h;split at h
   . rename_i e;cases h;exact ⟨e ▸ hk.1,hk.2.1⟩
   . exact hk.2.2.at i cs h
def AO (l:List (Nat × V)):Nat->V:=fun t=>(lk l t).getD .junk
def CL (ρ:Nat->Option Nat) (f:Nat->V):List (Nat × V)->Prop
 | []=>True
 | p::r=>WV ρ (f p.1) p.2/\CL ρ f r
theorem CL.at {ρ:Nat->Option Nat} {f:Nat->V}:∀ {l:List (Nat × V)},CL ρ f l->∀ t,WV ρ (f t) (AO l t)
 | [],_,t=>trivial
 | p::r,h,t=>by
   have ih:=h.2.at t;simp only [AO,lk] at ih ⊢;split
   . rename_i e;rw [e];exact h.1
   . exact ih
def Bw (n:Nat):List (Nat × V)->Prop
 | []=>True
 | p::r=>AV (· < n) AR p.2/\Bw n r
theorem Bw.at {n:Nat}:∀ {l:List (Nat × V)},Bw n l->∀ t,AV (· < n) AR (AO l t)
 | [],_,t=>trivial
 | p::r,h,t=>by
   have ih:=h.2.at t;simp only [AO,lk] at ih ⊢;split
   . exact h.1
   . exact ih
theorem AOp {G:Gh} {W:World} {ρ:Nat->Option Nat} {H h:Hp} (hh:jf ρ H h) (hp:∀ id cs,H id=some cs->HB G W id cs) {i:Nat} {cs':List V} (hi:h i=some cs'):HB (Bt G ρ) W i cs':=by
 rcases hh i cs' hi with ⟨j,cs,h1,h2,h3,h4⟩ | ⟨h1,h2⟩
 . have hl:=h3.length
   rcases hp j cs h2 with ⟨h5,h6⟩ | ⟨h5,h0,h6,c,T,h7,h8,h9,h10,h11⟩ | ⟨h5,h0,h6,⟨hz,fr,nt,ps,pa,pb,jmp,rec,h7,h8,h9⟩ | ⟨hz,es,ms,ck,h7,h8,h9⟩ | ⟨hz,bx,bp,bv,h7,h8,h9,h10,h11⟩⟩
   . subst h6
     have:cs'=[]:=by cases cs' with | nil=>rfl | cons a l=>exact h3.elim
     exact .inl ⟨by simp only [Bt,h1];exact h5,this⟩
   . have hcell:cs'.all V.isCell=true:=by
       rcases h4 with h4 | ⟨fr,nt,ps,pa,pb,jmp,rfl⟩ | ⟨es,rfl⟩
       . exact h4
       . exfalso
         match cs,h3 with
         | [c0],h3=>
           have:c0= .lr fr nt ps pa pb jmp:=h3.1.1;subst this;simp [V.isCell] at h11
         | [],h3=>exact h3.elim
         | _::_::_,h3=>exact h3.2.elim
       . exfalso
         match cs,h3 with
         | c0::_,h3=>
           have:c0=ACA es:=h3.1.1;subst this;simp [V.isCell,ACA] at h11
         | [],h3=>exact h3.elim
     have h3':AJ (W1 ρ) cs cs':=AJ.of_get hl fun k v v' hv hv'=>by
       obtain ⟨w,hw,hwr⟩:=h3.get hv;rw [hv'] at hw;cases hw;have:=List.all_eq_true.1 hcell v' (List.mem_of_getElem? hv');cases v'<;>first | (simp [V.isCell] at this;done) | exact hwr
     refine .inr (.inl ⟨by simp only [Bt,h1];exact h5,by simp only [Bt,h1];exact h0,by simp only [Bt,h1];exact h6,c,T,by simp only [Bt,h1];exact h7,by simp only [Bt,h1];exact h8,by omega,?_,hcell⟩);rw [<-hl];exact AYO (S:=R1 G W) (S':=R1 (Bt G ρ) W) (T:=W1 ρ) (fun _ _ _=>W1.rel) h3' h10
   . subst h7
     match cs',h3 with
     | [c0],h3=>
       have h31:=h3.1
       have hc0:c0= .lr fr nt ps pa pb jmp/\∀ t,AV (fun i=>ρ i=some i) AR (fr t):=by
         cases c0 with
         | lr fr' nt' ps' pa' pb' jmp'=>
           obtain ⟨e,ha⟩:=h31;cases e;exact ⟨rfl,ha⟩
         | junk=>rcases h4 with h4 | ⟨_,_,_,_,_,_,h4⟩ | ⟨_,h4⟩<;>simp [V.isCell,Qo] at h4
         | agg c=>rcases h4 with h4 | ⟨_,_,_,_,_,_,h4⟩ | ⟨_,h4⟩<;>simp [V.isCell,Qo] at h4
         | tup c=>rcases h4 with h4 | ⟨_,_,_,_,_,_,h4⟩ | ⟨_,h4⟩<;>simp [V.isCell,Qo] at h4
         | d x=>have:V.lr fr nt ps pa pb jmp= .d x:=h31;cases this
         | lp i o=>obtain ⟨_,_,h⟩:=h31;cases h
         | ls i o l z=>
           simp only [WC,W1,W0] at h31;split at h31
           . cases h31
           . cases h31.2
         | cl f c=>obtain ⟨_,h,_⟩:=h31;cases h
         | yl i=>obtain ⟨_,_,h⟩:=h31;cases h
       obtain ⟨rfl,hfr⟩:=hc0;obtain ⟨q1,q2,q3,q4,q5,q6⟩:=h9;refine .inr (.inr ⟨by simp only [Bt,h1];exact h5,by simp only [Bt,h1];exact h0,by simp only [Bt,h1];exact h6, .inl ⟨by simp only [Bt,h1];exact hz,fr,nt,ps,pa,pb,jmp,rec,rfl,by simp only [Bt,h1];exact h8,q1,q2,q3,q4,fun t=>?_,q6⟩⟩);exact Wq.sv (hfr t) (q5 t)
     | [],h3=>exact h3.elim
     | _::_::_,h3=>exact h3.2.elim
   . subst h7
     have e:cs'=Qo es:=by
       match cs',h3 with
       | [c0,c1],h3=>
         obtain ⟨h31,h32,_⟩:=h3
         have e0:c0=ACA es:=by
           cases c0 with
           | lr fr' nt' ps' pa' pb' jmp'=>exact h31.1.symm
           | junk=>rcases h4 with h4 | ⟨_,_,_,_,_,_,h4⟩ | ⟨_,h4⟩<;>simp [V.isCell,Qo,ACA] at h4
           | agg c=>rcases h4 with h4 | ⟨_,_,_,_,_,_,h4⟩ | ⟨_,h4⟩<;>simp [V.isCell,Qo,ACA] at h4
           | tup c=>rcases h4 with h4 | ⟨_,_,_,_,_,_,h4⟩ | ⟨_,h4⟩<;>simp [V.isCell,Qo,ACA] at h4
           | d x=>have:ACA es= .d x:=h31;cases this
           | lp i o=>obtain ⟨_,_,h⟩:=h31;cases h
           | ls i o l z=>
             simp only [WC,W1,W0] at h31;split at h31
             . cases h31
             . cases h31.2
           | cl f c=>obtain ⟨_,h,_⟩:=h31;cases h
           | yl i=>obtain ⟨_,_,h⟩:=h31;cases h
         subst e0;rcases h4 with h4 | ⟨_,_,_,_,_,_,h4⟩ | ⟨es',h4⟩
         . simp [V.isCell,ACA] at h4
         . simp at h4
         . have h5':ACA es=ACA es':=by
             have:=congrArg (fun l=>l[0]?) h4;simpa [Qo] using this
           rw [h4];unfold Qo;rw [h5']
       | [],h3=>exact h3.elim
       | [_],h3=>exact h3.2.elim
       | _::_::_::_,h3=>exact h3.2.2.elim
     subst e;refine .inr (.inr ⟨by simp only [Bt,h1];exact h5,by simp only [Bt,h1];exact h0,by simp only [Bt,h1];exact h6, .inr (.inl ⟨by simp only [Bt,h1];exact hz,es,ms,ck,rfl,by simp only [Bt,h1];exact h8,h9⟩)⟩)
   . subst h7
     match cs',h3 with
     | [c0,c1],h3=>
       obtain ⟨h31,h32,_⟩:=h3
       have hcell:V.isCell c0=true/\V.isCell c1=true:=by
         rcases h4 with h4 | ⟨_,_,_,_,_,_,h4⟩ | ⟨es,h4⟩
         . simpa using h4
         . simp at h4
         . exfalso
           simp only [Qo,List.cons.injEq,and_true] at h4;rw [h4.1] at h31;have:bx=ACA es:=h31.1;subst this;simp [V.isCell,ACA] at h11
       have e1:c1= .d (.lit bp.m):=by
         cases c1 with
         | d x=>have:V.d (.lit bp.m)= .d x:=h32;exact this.symm
         | lr=>simp [V.isCell] at hcell
         | junk=>simp [V.isCell] at hcell
         | agg c=>simp [V.isCell] at hcell
         | tup c=>simp [V.isCell] at hcell
         | lp i o=>obtain ⟨_,_,h⟩:=h32;cases h
         | ls i o l z=>
           simp only [WC,W1,W0] at h32;split at h32
           . cases h32
           . exact absurd (D.lit.inj (V.d.inj h32.2)) h9.m_ne
         | cl f c=>obtain ⟨_,h,_⟩:=h32;cases h
         | yl i=>obtain ⟨_,_,h⟩:=h32;cases h
       have h31':W1 ρ bx c0:=by
         have:=hcell.1;cases c0<;>first | (simp [V.isCell] at this;done) | exact h31
       rw [e1];exact .inr (.inr ⟨by simp only [Bt,h1];exact h5,by simp only [Bt,h1];exact h0,by simp only [Bt,h1];exact h6, .inr (.inr ⟨by simp only [Bt,h1];exact hz,c0,bp,bv,rfl,by simp only [Bt,h1];exact h8,by simp only [Bt,h1];exact h9,W1.rel h31' h10,hcell.1⟩)⟩)
     | [],h3=>exact h3.elim
     | [_],h3=>exact h3.2.elim
     | _::_::_::_,h3=>exact h3.2.2.elim
 . exact .inl ⟨by simp only [Bt,h1],h2⟩
def dK (ρ:Nat->Option Nat) (f g:Nat->V):Prop:=∀ t,WV ρ (f t) (g t)
theorem AI.fn (ρ:Nat->Option Nat) {st:St} (g:Nat->V) (h:Hp) (n:Nat) (hs:dK ρ st.fr g) (hh:jf ρ st.H h) (hi:iZ ρ h) (hsi:∀ t,AV (· < n) AR (g t)) (hhi:H3 n h)
   (hst:∀ i,E.stab i->i<n/\(InH h i->ρ i=some i/\InH st.H i)):AI P E st ⟨g,h,n⟩:=by
 intro G a W hI;refine ⟨Bt G ρ,{fr:=fun t=>(hs t).rel (hI.fr t),wf:=hsi,hp:=fun id cs hid=>AOp hh hI.hp hid,wh:=fun id cs hid=>(hhi id cs hid).2,dom:=fun id hid=>?_,inj:=?_,own:=?_,im:=hI.im,im0:=hI.im0,keep:=hI.keep,stab:=?_,sU:=fun i hs=>(hst i hs).1,nt:=hI.nt,df:=hI.df.imp fun ds h=>⟨h.1,h.2.nodup,h.2.at',h.2.nm⟩,gl:=hI.gl}⟩
 . obtain ⟨cs,hcs⟩:=Option.isSome_iff_exists.1 hid
   exact (hhi id cs hcs).1
 . intro i i' h1 h2 p1 p2 he
   obtain ⟨x,hx⟩:=Option.isSome_iff_exists.1 h1;obtain ⟨x',hx'⟩:=Option.isSome_iff_exists.1 h2;rcases hh i x hx with ⟨j,cs,e1,e2,_⟩ | ⟨e1,_⟩
   . rcases hh i' x' hx' with ⟨j',cs',e1',e2',_⟩ | ⟨e1',_⟩
     . simp only [Bt,e1,e1'] at p1 p2 he
       have:=hI.inj j j' (by rw [e2];rfl) (by rw [e2'];rfl) p1 p2 he;subst this;exact hi i i' j h1 h2 e1 e1'
     . simp [Bt,e1'] at p2
   . simp [Bt,e1] at p1
 . intro i h1 p1
   obtain ⟨x,hx⟩:=Option.isSome_iff_exists.1 h1;rcases hh i x hx with ⟨j,cs,e1,e2,_⟩ | ⟨e1,_⟩
   . simp only [Bt,e1] at p1 ⊢
     exact hI.own j (by rw [e2];rfl) p1
   . simp [Bt,e1] at p1
 . intro i hs h1
   obtain ⟨h2,h3⟩:=(hst i hs).2 h1;simp only [Bt,h2];exact hI.stab i hs h3
theorem AI.of (ρ:Nat->Option Nat) {st:St} (l:List (Nat × V)) (h:List (Nat × List V)) (n:Nat) (hs:CL ρ st.fr l) (hh:Ej ρ st.H h) (hi:G3 ρ h) (hsi:Bw n l) (hhi:A7 n h)
   (hst:∀ i,E.stab i->i<n/\(InH (lk h) i->ρ i=some i/\InH st.H i)):AI P E st ⟨AO l,lk h,n⟩:=
 AI.fn ρ _ _ n hs.at hh.at hi.at hsi.at hhi.at hst
def AGe (Γ:Tys) (H:Hp) (f:Nat->V):List ResultVar->Option (List V)
 | []=>some []
 | .tmp t::r=>(AGe Γ H f r).map (f t::·)
 | .cell a T::r=>(EO Γ H T (f a)).bind fun p=>(AGe Γ H f r).map (p.1::·)
def V.isTup:V->Bool
 | .tup _=>true
 | _=>false
def P8:List V->V
 | [v]=>v
 | vs=> .tup vs
def H4 (tmps:Array Value):ResultVar->Sem Value
 | .tmp t=>pure (tmps.getD t undef)
 | .cell a t=>do loadVar t (<-asAddr (tmps.getD a undef))
theorem KJ (hΓ:GOk P Γ) {U:Nat->Prop} {G:Gh} {st:St} {a:Act} {W:World} (hI:Inv E U G st a W):∀ (rs:List ResultVar) (vs:List V),AGe Γ st.H st.fr rs=some vs->
   ∃ xs,(rs.mapM (H4 a.tmps)).run P W= .ok xs W/\AJ (RV G W) vs xs/\∀ v∈vs,AV U AR v
 | [],vs,h=>by
   simp only [AGe,Option.some.injEq] at h;subst h;exact ⟨[],rfl,trivial,by simp⟩
 | .tmp t::r,vs,h=>by
   simp only [AGe,Option.map_eq_some_iff] at h;obtain ⟨vs',h1,rfl⟩:=h;obtain ⟨xs,h2,h3,h4⟩:=KJ hΓ hI r vs' h1;refine ⟨_::xs,?_,⟨hI.fr t,h3⟩,fun v hv=>?_⟩
   . simp only [List.mapM_cons,Sem.run_bind,H4,Sem.run_pure,Result.andThen_ok,h2]
   . rcases List.mem_cons.1 hv with rfl | hv
     . exact hI.wf t
     . exact h4 v hv
 | .cell b T::r,vs,h=>by
   simp only [AGe] at h;cases hp:EO Γ st.H T (st.fr b) with
   | none=>simp [hp] at h
   | some p=>
     obtain ⟨v,e⟩:=p;simp only [hp,Option.bind_some,Option.map_eq_some_iff] at h;obtain ⟨vs',h1,rfl⟩:=h;obtain ⟨xs,h2,h3,h4⟩:=KJ hΓ hI r vs' h1;obtain ⟨y,cs,hy,rfl,rfl,hc⟩:=Mb hp;obtain ⟨ad,us,hpv,hl,hcell,hr,hok,hcl⟩:=La hI (hI.fr b) hc;obtain ⟨u,hu,huv⟩:=Jn (hΓ T y hy) W ad us hl hcell;refine ⟨u::xs,?_,⟨LY hr huv,h3⟩,fun v hv=>?_⟩
     . simp only [List.mapM_cons,Sem.run_bind,H4,Sem.run_pure,Result.andThen_ok,h2,hpv,hu,asAddr]
     . rcases List.mem_cons.1 hv with rfl | hv
       . exact ADX hok fun _=>hcl
       . exact h4 v hv
theorem N4 (hΓ:GOk P Γ) {U:Nat->Prop} {G:Gh} {st:St} {a:Act} {W:World} (hI:Inv E U G st a W) {fn:Func} {vs:List V} (h:AGe Γ st.H st.fr fn.results.toList=some vs) (ht:vs.all (fun v=>!v.isTup)=true):
   ∃ v,(results fn a.tmps).run P W= .ok v W/\RV G W (P8 vs) v:=by
 obtain ⟨xs,h1,h2,_⟩:=KJ hΓ hI _ vs h
 have hm:(fn.results.mapM (H4 a.tmps)).run P W= .ok xs.toArray W:=by
   rw [Array.mapM_eq_mapM_toList,Sem.run_map,h1];rfl
 have h2':∀ x∈vs,x.isTup=false:=fun x hx=>by simpa using List.all_eq_true.1 ht x hx
 refine ⟨if h:xs.toArray.size=1 then xs.toArray[0] else .tuple xs.toArray,?_,?_⟩
 . change Sem.run P (do let vs <-fn.results.mapM (H4 a.tmps);pure (if h:vs.size=1 then vs[0] else .tuple vs)) W=_
   rw [Sem.run_bind,hm,Result.andThen_ok,Sem.run_pure]
 . match vs,xs,h2 with
   | [v],[x],h2=>exact h2.1
   | [],[],_=>exact ⟨#[],by simp,trivial⟩
   | v::w::r,x::y::s,h2=>
     refine ⟨(x::y::s).toArray,by simp,?_⟩;exact h2.mono fun v hv x hx=>RV.r2 (fun c e=>by have:=h2' v hv;rw [e] at this;cases this) hx
   | [_],_::_::_,h2=>exact h2.2.elim
   | _::_::_,[_],h2=>exact h2.2.elim
def Dn:Nat->List V->Nat->V
 | _,[],_=> .tup []
 | k,a::r,t=>if t=k then a else Dn (k+1) r t
theorem H5:∀ (l:List V) (k t:Nat),Dn k l t=if k<=t then (l[t-k]?).getD (.tup []) else .tup []
 | [],k,t=>by simp [Dn]
 | a::r,k,t=>by
   simp only [Dn,H5 r];by_cases h:t=k
   . subst h;simp
   . rw [if_neg h]
     by_cases hk:k<=t
     . rw [if_pos hk,if_pos (by omega),show t-k=(t-(k+1))+1 by omega,List.getElem?_cons_succ]
     . rw [if_neg hk,if_neg (by omega)]
def DZ (ρ:Nat->Option Nat) (H:Hp) (h:Hp):List Nat->Prop
 | []=>True
 | i::r=>((h i).isSome=true->ρ i=some i/\(H i).isSome=true)/\DZ ρ H h r
theorem DZ.at {ρ:Nat->Option Nat} {H h:Hp}:∀ {ks:List Nat},DZ ρ H h ks->∀ i∈ks,InH h i->ρ i=some i/\InH H i
 | [],_,_,hi,_=>by cases hi
 | k::r,hs,i,hi,hh=>by
   rcases List.mem_cons.1 hi with rfl | hi
   . exact hs.1 hh
   . exact hs.2.at i hi hh
def Dc (Γ:Tys) (fn:Func) (ks:List Nat) (r:V) (H1:List (Nat × List V)) (st:St):Prop:=
 ∃ vs ρ,AGe Γ st.H st.fr fn.results.toList=some vs/\vs.all (fun v=>!v.isTup)=true/\WV ρ (P8 vs) r/\Ej ρ st.H H1/\G3 ρ H1/\DZ ρ st.H (lk H1) ks
abbrev AB (Γ:Tys) (fn:Func) (r:V) (H1:List (Nat × List V)) (st:St):Prop:=Dc Γ fn [] r H1 st
def mW (ks:List Nat) (v r:V) (H1:List (Nat × List V)) (st:St):Prop:=
 ∃ ρ,WV ρ v r/\Ej ρ st.H H1/\G3 ρ H1/\DZ ρ st.H (lk H1) ks
def Mh (Γ:Tys) (fn:Func) (ks:List Nat) (res:Res) (H1:List (Nat × List V)):Av->St->Prop
 | .normal,st | .ret,st=>match res with | .ret r=>Dc Γ fn ks r H1 st | .pan _=>False
 | .pan v,st=>match res with | .pan r=>mW ks v r H1 st | .ret _=>False
 | _,_=>False
abbrev dL (Γ:Tys) (fn:Func) (r:V) (H1:List (Nat × List V)):Av->St->Prop:=Mh Γ fn [] (.ret r) H1
def InB (H1:List (Nat × List V)) (i:Nat):Prop:=(lk H1 i).isSome=true
def LD (r:V) (H1:List (Nat × List V)):Prop:=AV (InB H1) AR r/\∀ p∈H1,∀ c∈p.2,AC (InB H1) AR c
theorem B4 {α:Type}:∀ {l:List (Nat × α)} {i:Nat} {x:α},lk l i=some x->(i,x)∈l
 | [],_,_,h=>by simp [lk] at h
 | p::r,i,x,h=>by
   simp only [lk] at h;split at h
   . rename_i e;cases h;subst e;simp
   . exact List.mem_cons_of_mem _ (B4 h)
theorem Inv.side {U:Nat->Prop} {G:Gh} {st:St} {a a':Act} {W W':World} (hI:Inv E U G st a W) {l:Nat} (hs:∀ k,k≠l->W'.heap[k]?= W.heap[k]?) (hsz:W'.heap.size=W.heap.size) (hos:W'.os=W.os) (hta:W'.tape=W.tape) (hou:W'.output=W.output)
   (hnim:¬ G.Im l) (hno:∀ i,InH st.H i->G.ph i=false->G.β i≠l) (hl:E.W0.heap.size<=l\/E.mu l) (ha:a'.tmps=a.tmps) (hdf:∃ ds,a'.defers=Qr ds++E.dx/\Lc E G W' ds) (hdr:dr W<=dr W':=by first | exact Nat.le_refl _ | exact Nat.le_succ _):Inv E U G st a' W':=by
 have hchg:Chg U G W G W':=⟨fun i _=>⟨rfl,rfl,rfl,rfl⟩,fun k hk=>⟨hk,hs k (fun e=>hnim (e ▸ hk))⟩⟩
 exact {fr:=fun t=>by rw [ha];exact hchg.rv (hI.wf t) (hI.fr t),wf:=hI.wf,hp:=fun id cs h=>hchg.hb (hI.dom id (by rw [h];rfl)) (hI.wh id cs h) (hI.hp id cs h) (fun hp=>hs _ (hno id (by show (st.H id).isSome=true;rw [h];rfl) hp)) (fun h _=>h),wh:=hI.wh,dom:=hI.dom,inj:=hI.inj,own:=hI.own,im:=fun b hb=>⟨by rw [hsz];exact (hI.im b hb).1,(hI.im b hb).2⟩,im0:=hI.im0,keep:=⟨hos.trans hI.keep.os,hta.trans hI.keep.tape,hou.trans hI.keep.output,Nat.le_trans hI.keep.drawn hdr,by rw [hsz];exact hI.keep.size,fun b hb hm=>(hs b (fun e=>hl.elim (fun h=>by omega) (fun h=>hm (e ▸ h)))).trans (hI.keep.block b hb hm)⟩,stab:=hI.stab,sU:=hI.sU,nt:=by rw [ha];exact hI.nt,df:=hdf,gl:=hI.gl.mono hchg.im}
theorem HB.kind {G:Gh} {W:World} {id:Nat} {cs:List V} (h:HB G W id cs) (hp:G.ph id=false) {x:Option (List Deferred)}:W.heap[G.β id]?≠ some (.deferred x):=by
 rcases h with ⟨h,_⟩ | ⟨_,_,_,c,T,⟨fz,h,_⟩,_⟩ | ⟨_,_,_,⟨_,fr,nt,ps,pa,pb,jmp,rec,_,h,_⟩ | ⟨_,es,ms,ck,_,h,_⟩ | ⟨_,bx,bp,bv,_,h,_⟩⟩
 . rw [h] at hp;cases hp
 . rw [h];nofun
 . rw [h];nofun
 . rw [h];nofun
 . rw [h];nofun
theorem Ls:∀ {l l':List Nat},Qr l=Qr l'->l=l'
 | [],[],_=>rfl
 | x::l,y::l',h=>by
   simp only [Qr,List.map_cons,List.cons.injEq,Deferred.mk.injEq,Target.collected.injEq,and_true] at h;rw [h.1,Ls h.2]
 | [],_::_,h=>by cases h
 | _::_,[],h=>by cases h
theorem DI {U:Nat->Prop} {G:Gh} {st:St} {fn:Func} {R:Ending->World->Prop} {u:FrameMode} (hu:u≠ .run) {tmps:Array Value} {W0:World}:
   ∀ (ds:List Nat) (a:Act) (W:World),a.tmps=tmps->a.defers=Qr ds++E.dx->Inv E U G st a W->(∀ b,G.Im b->W.heap[b]?= W0.heap[b]?)->(∀ a' W',a'.tmps=tmps->Inv E U G st a' W'->(∀ b,G.Im b->W'.heap[b]?= W0.heap[b]?)->LeavesInM Fence.wide 0 P fn tmps R E.dx u W')->LeavesInM Fence.wide 0 P fn tmps R (Qr ds++E.dx) u W
 | [],a,W,ht,hd,hI,hW,h=>h a W ht hI hW
 | D::ds,a,W,ht,hd,hI,hW,h=>by
   obtain ⟨ds',hd',hm⟩:=hI.df
   have:ds'=D::ds:=by
     have:=hd'.symm.trans hd;exact Ls (List.append_cancel_right this)
   subst this;obtain ⟨h1,h2,h3⟩:=hm.at' D (by simp);have hlt:=(Array.getElem?_eq_some_iff.1 h1).1;refine ⟨hu, .inl ⟨D,W.putObj D (.deferred none),rfl,run_takeDeferred h1,?_⟩⟩;refine DI hu ds {a with defers:=Qr ds++E.dx} _ ht rfl (hI.side (l:=D) (fun k hk=>World.putObj_heap_other hk) (by simp) rfl rfl rfl h3 (fun i hi hp e=>?_) (.inl h2) rfl ⟨ds,rfl,?_⟩) (fun b hb=>(World.putObj_heap_other (fun e=>h3 (by rw [<-e];exact hb))).trans (hW b hb)) h
   . obtain ⟨cs,hcs⟩:=Option.isSome_iff_exists.1 hi
     exact (hI.hp i cs hcs).kind hp (by rw [e];exact h1)
   . have hn:=List.nodup_cons.1 hm.nodup
     exact ⟨hn.2,fun D' hD'=>⟨(World.putObj_heap_other (fun e=>hn.1 (by rw [<-e];exact hD'))).trans (hm.at' D' (by simp [hD'])).1,(hm.at' D' (by simp [hD'])).2⟩,fun h=>by cases hm.nm h⟩
theorem GK {W0:World} {G:Gh} {Hin:Hp} {ks:List Nat} (hE:E.W0=W0/\E.Im0=G.Im/\(∀ b,E.mu b↔Bm G Hin b)/\∀ i,i∈ks->E.stab i/\E.β0 i=G.β i/\E.bs0 i=G.bs i/\E.lo0 i=G.lo i) {res:Res} {H1:List (Nat × List V)} (hri:LD res.v H1) {U:Nat->Prop} {G':Gh} {st:St} {a:Act} {W:World} (hI:Inv E U G' st a W) {ρ:Nat->Option Nat} {e:Ending} (h4:Ej ρ st.H H1) (h5:G3 ρ H1) (h6:DZ ρ st.H (lk H1) ks) (hr:HV (Bt G' ρ) W res e):
   sG G W0 Hin ks res (lk H1) e W (Bt G' ρ):=by
 obtain ⟨rfl,hIm,hmu,hst⟩:=hE;refine ⟨hI.keep.os,hI.keep.tape,hI.keep.output,hI.keep.drawn,hI.keep.size,fun b hb hl=>hI.keep.block b hb (fun h=>hl ((hmu b).1 h)),fun b hb=>?_,fun b hb=>hI.im0 b (by rw [hIm];exact hb),hr,hri.1,fun i cs hi=>⟨AOp h4.at hI.hp hi,fun hp=>?_,hri.2 _ (B4 hi)⟩,?_,fun i hi hh=>?_⟩
 . obtain ⟨q1,q2 | q2 | q2⟩:=hI.im b hb
   . exact ⟨q1, .inl (by rw [<-hIm];exact q2)⟩
   . exact ⟨q1, .inr (.inl q2)⟩
   . exact ⟨q1, .inr (.inr ((hmu b).1 q2))⟩
 . rcases h4.at i cs hi with ⟨j,cs',q1,q2,_⟩ | ⟨q1,_⟩
   . simp only [Bt,q1] at hp ⊢
     exact (hI.own j (by rw [q2];rfl) hp).imp id (hmu _).1
   . simp [Bt,q1] at hp
 . intro i i' q1 q2 p1 p2 he
   obtain ⟨x,hx⟩:=Option.isSome_iff_exists.1 q1;obtain ⟨x',hx'⟩:=Option.isSome_iff_exists.1 q2;rcases h4.at i x hx with ⟨j,cs,r1,r2,_⟩ | ⟨r1,_⟩
   . rcases h4.at i' x' hx' with ⟨j',cs',r1',r2',_⟩ | ⟨r1',_⟩
     . simp only [Bt,r1,r1'] at p1 p2 he
       have:=hI.inj j j' (by rw [r2];rfl) (by rw [r2'];rfl) p1 p2 he;subst this;exact h5.at i i' j q1 q2 r1 r1'
     . simp [Bt,r1'] at p2
   . simp [Bt,r1] at p1
 . obtain ⟨q1,q2⟩:=h6.at i hi hh
   obtain ⟨hs,e1,e2,e3⟩:=hst i hi;have:=hI.stab i hs q2;simp only [Bt,q1];rw [e1,e2,e3] at this;exact this
theorem H6 (hΓ:GOk P Γ) {U:Nat->Prop} {G':Gh} {st:St} {a:Act} {W:World} {fn:Func} {ks:List Nat} {r:V} {H1:List (Nat × List V)} (hI:Inv E U G' st a W) (h:Dc Γ fn ks r H1 st):∃ ρ v,(results fn a.tmps).run P W= .ok v W/\RV (Bt G' ρ) W r v/\Ej ρ st.H H1/\G3 ρ H1/\DZ ρ st.H (lk H1) ks:=by
 obtain ⟨vs,ρ,h1,h2,h3,h4⟩:=h;obtain ⟨v,hv,hr⟩:=N4 hΓ hI h1 h2;exact ⟨ρ,v,hv,h3.rel hr,h4⟩
theorem Inv.startN {G:Gh} {W:World} {Hin:Hp} {ks:List Nat} {nt N:Nat} {rd:Option Nat} {nm:Bool} (hGW:GW G.Im W) (hpre:ANh G W Hin ks) (hids:H3 N Hin) (hks:∀ i∈ks,i<N) {f:Nat->V} {tmps:Array Value} (hfr:∀ t,RV G W (f t) (tmps.getD t undef)) (hwf:∀ t,AV (· < N) AR (f t)) (hnt:nt<=tmps.size):
   Inv {W0:=W,Im0:=G.Im,mu:=Bm G Hin,β0:=G.β,bs0:=G.bs,lo0:=G.lo,stab:=(·∈ks),nt:=nt,rd:=rd,nm:=nm} (· < N) G ⟨f,Hin,N⟩ {tmps:=tmps,defers:=[]} W:=
 ⟨hfr,hwf,hpre.hb,fun i cs h=>(hids i cs h).2,fun i h=>by obtain ⟨cs,hcs⟩:=Option.isSome_iff_exists.1 h;exact (hids i cs hcs).1,hpre.inj,fun i hi hp=> .inr ⟨i,hi,hp,rfl⟩,fun b hb=>⟨hGW.1 b hb, .inl hb⟩,fun _ h=>h,⟨rfl,rfl,rfl,Nat.le_refl _,Nat.le_refl _,fun _ _ _=>rfl⟩,fun i hi _=>⟨rfl,rfl,(hpre.st i hi).2,rfl⟩,hks,hnt,⟨[],rfl,List.nodup_nil,fun _ h=>(nomatch h),fun _=>rfl⟩,hGW.2⟩
theorem Inv.start {G:Gh} {W:World} {Hin:Hp} {ks:List Nat} {nt N:Nat} {rd:Option Nat} (hGW:GW G.Im W) (hpre:ANh G W Hin ks) (hids:H3 N Hin) (hks:∀ i∈ks,i<N) {f:Nat->V} {tmps:Array Value} (hfr:∀ t,RV G W (f t) (tmps.getD t undef)) (hwf:∀ t,AV (· < N) AR (f t)) (hnt:nt<=tmps.size):
   Inv {W0:=W,Im0:=G.Im,mu:=Bm G Hin,β0:=G.β,bs0:=G.bs,lo0:=G.lo,stab:=(·∈ks),nt:=nt,rd:=rd} (· < N) G ⟨f,Hin,N⟩ {tmps:=tmps,defers:=[]} W:=Inv.startN hGW hpre hids hks hfr hwf hnt
theorem Cm.intro (hΓ:GOk P Γ) {f:FuncId} {fn:Func} {c:Code} {args:List V} {Hin:Hp} {ks:List Nat} {res:Res} {H1:List (Nat × List V)} (N:Nat) (hf:P.funcs[f]?= some fn) (hb:fn.body=some c) (hname:(fn.name == "runtime.NumGoroutine")=false)
   (hn:args.length<=fn.ntmps) (hcl:∀ v∈args,A2 (· < N) AR v) (hids:H3 N Hin) (hks:∀ i∈ks,i<N) (hri:LD res.v H1)
   (h:∀ E:Ent,E.nt=fn.ntmps->(∀ i,E.stab i↔i∈ks)->E.rq->AW P E c (Mh Γ fn ks res H1) ⟨Dn 0 args,Hin,N⟩):Cm P f args Hin ks res (lk H1):=by
 refine ⟨⟨fn,hf,by rw [hb];rfl,hname⟩,fun G W xs hGW hargs hpre=>?_⟩;have hl:args.length=xs.size:=by have:=hargs.length;simpa using this
 have hfr:∀ t,RV G W (Dn 0 args t) ((xs++Array.replicate (fn.ntmps-xs.size) undef).getD t undef):=fun t=>by
   rw [H5,if_pos (Nat.zero_le t),Nat.sub_zero,Array.getD_eq_getD_getElem?];by_cases ht:t<xs.size
   . rw [Array.getElem?_append_left ht,Array.getElem?_eq_getElem ht]
     have h1:args[t]?= some args[t]:=List.getElem?_eq_getElem (by omega);obtain ⟨x,hx,hrx⟩:=hargs.get h1;rw [h1]
     have:x=xs[t]:=by
       rw [Array.getElem?_toList,Array.getElem?_eq_getElem ht] at hx;cases hx;rfl
     subst this;exact hrx.rv
   . rw [List.getElem?_eq_none (by omega),Array.getElem?_append_right (by omega)]
     have:((Array.replicate (fn.ntmps-xs.size) undef)[t-xs.size]?).getD undef=undef:=by
       rw [Array.getElem?_replicate];split<;>rfl
     rw [this];exact dy
 have hwf:∀ t,AV (· < N) AR (Dn 0 args t):=fun t=>by
   rw [H5,if_pos (Nat.zero_le t),Nat.sub_zero];cases h1:args[t]? with
   | none=>intro c hc;cases hc
   | some v=>
     obtain ⟨x,_,hx⟩:=hargs.get h1;exact hx.av (hcl v (List.mem_of_getElem? h1))
 have hI:=Inv.start (nt:=fn.ntmps) (rd:=none) hGW hpre hids hks (tmps:=xs++Array.replicate (fn.ntmps-xs.size) undef) hfr hwf (by simp;omega);rw [<-callsIn_wide (n:=0)];refine callsIn_of_wp_marks hf hb trivial ?_;refine wpIn_mono (h _ rfl (fun _=>Iff.rfl) ⟨rfl,rfl⟩ G _ W hI) fun e a' W' ⟨x,st',G',hI',hx,ho,hq⟩=>?_
 have hE:W=W/\G.Im=G.Im/\(∀ b,Bm G Hin b↔Bm G Hin b)/\∀ i,i∈ks->i∈ks/\G.β i=G.β i/\G.bs i=G.bs i/\G.lo i=G.lo i:=⟨rfl,rfl,fun _=>Iff.rfl,fun _ h=>⟨h,rfl,rfl,rfl⟩⟩
 have fin:Mh Γ fn ks res H1 .ret st'->LeavesInM Fence.wide 0 P fn a'.tmps (fun e W'=>∃ G',sG G W Hin ks res (lk H1) e W' G') a'.defers .returning W':=fun hq=>by
   obtain ⟨ds,hd,_⟩:=hI'.df;rw [hd];refine DI (u:= .returning) nofun ds a' W' rfl hd hI' (W0:=W') (fun _ _=>rfl) fun a2 W2 ht hI2 _=>?_
   cases res with
   | pan r=>exact hq.elim
   | ret r=>
     obtain ⟨ρ,v,hv,hr,h4,h5,h6⟩:=H6 hΓ hI2 hq;rw [ht] at hv;exact ⟨v,hv,_,GK hE hri hI2 h4 h5 h6 (e:= .returned v) hr⟩
 cases e with
 | normal=>cases x<;>first | exact fin hq | exact False.elim hx
 | ret=>cases x<;>first | exact fin hq | exact False.elim hx
 | exit _=>cases x<;>first | exact hq.elim | exact False.elim hx
 | goto _=>cases x<;>first | exact hq.elim | exact False.elim hx
 | panic ch=>
   cases x with
   | pan v=>
     obtain ⟨ds,hd,_⟩:=hI'.df
     show LeavesInM Fence.wide 0 P fn a'.tmps _ a'.defers (.panicking ch) W'
     rw [hd];cases res with
     | ret r=>exact hq.elim
     | pan r=>
       obtain ⟨ρ,h3,h4,h5,h6⟩:=hq;obtain ⟨y,hy,hry⟩:=hx;refine DI (u:= .panicking ch) nofun ds a' W' rfl hd hI' (W0:=W') (fun _ _=>rfl) fun a2 W2 ht hI2 hW2=>?_
       have hchg:Chg (· < st'.nx) G' W' G' W2:=⟨fun _ _=>⟨rfl,rfl,rfl,rfl⟩,fun b hb=>⟨hb,hW2 b hb⟩⟩
       exact ⟨_,GK hE hri hI2 h4 h5 h6 (e:= .panicked ch) ⟨y,hy,h3.rel (hchg.rv ho hry)⟩⟩
   | _=>exact False.elim hx
 | outgrown=>cases x<;>exact False.elim hx
end Go.Psl
