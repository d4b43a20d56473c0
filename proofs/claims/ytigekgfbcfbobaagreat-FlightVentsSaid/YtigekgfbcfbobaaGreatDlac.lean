/- Own lemmas, used by the last text. Conditions: those that each theorem states. -/
import Derived.Orders
import Derived.Test.YtigekgfbcfbobaaGreatDlab
set_option maxRecDepth 200000
set_option maxHeartbeats 8000000
namespace Go.Psl
variable {P:Program} {Γ:Tys} {eqs:Eqs} {E:Ent} {U U':Nat->Prop} {G:Gh} {st:St} {a:Act} {W:World}
theorem Yl (hΓ:GOk P Γ) (hE:EB P eqs) (hI:Inv E U G st a W) {o:Oper} {b:Nat} (hb:¬ U b) (hU:∀ i,U i->U' i) (hb':U' b) {v:V} {e:Eff} (he:A9 Γ eqs st.H b st.fr o.op=some (v,e)):Out P E U' st a W o v e:=by
 unfold A9 at he;split at he
 . rename_i x ho;cases he;exact (N5 hI (.inl ho)).mono hU
 . rename_i x ho;cases he;exact (N5 hI (.inr ho)).mono hU
 . rename_i ho;exact (UF hI ho he).mono hU
 . rename_i ho;exact Vd hΓ hI ho hb hU hb' he
 . rename_i ho;exact fY hI ho hb hU hb' he
 . rename_i ho;exact (Vf hΓ hI ho he).mono hU
 . rename_i ho;exact K3 hΓ hI ho hb hU hb' he
 . rename_i ho;exact iM hΓ hI ho hb hU hb' he
 . rename_i ho;cases he;exact AJ1 hI ho hb hU hb'
 . rename_i ho;exact (AJ2 hΓ hI (.inl ho) he).mono hU
 . rename_i ho;exact (AJ2 hΓ hI (.inr ho) he).mono hU
 . rename_i ho;exact (AK0 hΓ hI ho he).mono hU
 . rename_i ho;exact (AH5 hΓ hI ho he).mono hU
 . rename_i ho;exact (VP hΓ hI ho he).mono hU
 . rename_i ho;exact (Yy hΓ hE hI ho he).mono hU
 . rename_i ho;exact (dN hI ho he).mono hU
 . rename_i ho;exact (Wz hI ho he).mono hU
 . rename_i ho;exact (vm hΓ hI ho he).mono hU
 . rename_i ho;exact (XA hΓ hI ho he).mono hU
 . rename_i ho;exact (UD hΓ hI ho he).mono hU
 . rename_i ho;exact (UG hI ho he).mono hU
 . rename_i ho;exact (UK hΓ hI ho he).mono hU
 . rename_i ho;exact (QF hΓ hI ho he).mono hU
 . rename_i ho;exact (Vg hΓ hI ho he).mono hU
 . rename_i ho;exact (P9 hΓ hI ho he).mono hU
 . rename_i ho;exact (Vh hΓ hI ho he).mono hU
 . rename_i ho
   unfold G8 at he;split at he
   . rename_i hc;cases he;exact (Mi hI ho hc.1 hc.2).mono hU
   . cases he
 . rename_i c ho
   split at he
   . rename_i hc
     split at he
     . rename_i h1 h2;exact (Wu hΓ hI ho hc h1 h2 he).mono hU
     . cases he
   . rename_i hc;exact (Wx hI ho hc he).mono hU
   . rename_i hc;exact (Wy hI ho hc he).mono hU
   . rename_i hc
     split at he
     . rename_i h1 h2
       split at he
       . rename_i ht;subst ht;exact dP hΓ hI ho hc h1 h2 hb hU hb' he
       . exact ci hΓ hI ho hc h1 h2 hb hU hb' he
     . cases he
   . rename_i hc
     split at he
     . rename_i h1 h2;exact (cZ hΓ hI ho hc h1 h2 he).mono hU
     . cases he
   . rename_i hc
     split at he
     . rename_i h1 h2;exact (WL hΓ hI ho hc h1 h2 he).mono hU
     . cases he
   . cases he
 . cases he
theorem Inv.slot (hI:Inv E U G st a W) {v:V} {x:Value} (hv:RV G W v x) (ha:AV U AR v) (dst:Option Nat) (hd:∀ d,dst=some d->d<E.nt):Inv E U G ⟨Am st.fr dst v,st.H,st.nx⟩ (a.put dst x) W:=by
 cases dst with
 | none=>exact {hI with}
 | some d=>
   have hlt:d<a.tmps.size:=Nat.lt_of_lt_of_le (hd d rfl) hI.nt
   have hget:∀ t,(a.put (some d) x).tmps.getD t undef=if t=d then x else a.tmps.getD t undef:=fun t=>by
     simp only [Act.put,Array.getD_eq_getD_getElem?,Array.getElem?_setIfInBounds];by_cases h:d=t
     . subst h;simp [hlt]
     . simp [h,Ne.symm h]
   refine {hI with fr:=fun t=>?_,wf:=fun t=>?_,nt:=by simpa [Act.put] using hI.nt,df:=by simpa [Act.put] using hI.df}
   . rw [hget]
     simp only [Am,AY];split
     . exact hv
     . exact hI.fr t
   . simp only [Am,AY]
     split
     . exact ha
     . exact hI.wf t
theorem Inv.drew (hI:Inv E U G st a W):Inv E U G st a {W with drawn:=W.drawn+1}:=by
 have hchg:Chg U G W G {W with drawn:=W.drawn+1}:=⟨fun i _=>⟨rfl,rfl,rfl,rfl⟩,fun k hk=>⟨hk,rfl⟩⟩
 refine {hI with fr:=fun t=>hchg.rv (hI.wf t) (hI.fr t),hp:=fun id cs h=>hchg.hb (hI.dom id (by rw [h];rfl)) (hI.wh id cs h) (hI.hp id cs h) (fun _=>rfl) (fun h _=>h),im:=fun b hb=>hI.im b hb,keep:=⟨hI.keep.os,hI.keep.tape,hI.keep.output,Nat.le_succ_of_le hI.keep.drawn,hI.keep.size,hI.keep.block⟩,df:=hI.df.imp fun ds h=>⟨h.1,h.2.same (fun _ _ _=>rfl) (fun _ _ _ h=>h)⟩}
def lk {α:Type}:List (Nat × α)->Nat->Option α
 | [],_=>none
 | p::r,i=>if i=p.1 then some p.2 else lk r i
def B9:D->Prop:=fun x=>∃ v,x= .lit v
def InH (H:Hp) (i:Nat):Prop:=(H i).isSome=true
structure Qu (G:Gh) (W:World) (Hin:Hp) (ks:List Nat):Prop where
 hb:∀ i cs,Hin i=some cs->HB G W i cs
 inj:∀ i j,InH Hin i->InH Hin j->G.ph i=false->G.ph j=false->G.β i=G.β j->i=j
 st:∀ i∈ks,InH Hin i/\G.ph i=false
inductive Res where
 | ret (v:V)
 | pan (v:V)
def Res.v:Res->V
 | .ret v=>v
 | .pan v=>v
def HV (G:Gh) (W:World):Res->Ending->Prop
 | .ret r, .returned v=>RV G W r v
 | .pan r, .panicked ch=>∃ x,ch=[{v:=x,recovered:=false}]/\RV G W r x
 | _,_=>False
def Bm (G:Gh) (Hin:Hp) (b:Nat):Prop:=∃ i,InH Hin i/\G.ph i=false/\G.β i=b
structure sG (G:Gh) (W:World) (Hin:Hp) (ks:List Nat) (res:Res) (H1:Hp) (e:Ending) (W':World) (G':Gh):Prop where
 os:W'.os=W.os
 tape:W'.tape=W.tape
 output:W'.output=W.output
 drawn:W.drawn<=W'.drawn
 size:W.heap.size<=W'.heap.size
 block:∀ b,b<W.heap.size->¬ Bm G Hin b->W'.heap[b]?= W.heap[b]?
 im:∀ b,G'.Im b->b<W'.heap.size/\(G.Im b\/W.heap.size<=b\/Bm G Hin b)
 im0:∀ b,G.Im b->G'.Im b
 rv:HV G' W' res e
 wf:AV (InH H1) AR res.v
 hb:∀ i cs,H1 i=some cs->HB G' W' i cs/\(G'.ph i=false->W.heap.size<=G'.β i\/Bm G Hin (G'.β i))/\∀ c∈cs,AC (InH H1) AR c
 inj:∀ i j,InH H1 i->InH H1 j->G'.ph i=false->G'.ph j=false->G'.β i=G'.β j->i=j
 st:∀ i∈ks,InH H1 i->G'.β i=G.β i/\G'.bs i=G.bs i/\G'.ph i=false/\G'.lo i=G.lo i
def fF (P:Program) (f:FuncId):Prop:=∃ fn,P.funcs[f]?= some fn/\fn.body.isSome=true/\(fn.name == "runtime.NumGoroutine")=false
def Cm (P:Program) (f:FuncId) (args:List V) (Hin:Hp) (ks:List Nat) (res:Res) (H1:Hp):Prop:=
 fF P f/\∀ (G:Gh) (W:World) (xs:Array Value),(∀ b,G.Im b->b<W.heap.size)->AJ (R2 G W) args xs.toList->Qu G W Hin ks->
   Calls P f xs W fun e W'=>∃ G',sG G W Hin ks res H1 e W' G'
abbrev Ct (P:Program) (f:FuncId) (args:List V) (r:V) (H1:List (Nat × List V)):Prop:=Cm P f args (fun _=>none) [] (.ret r) (lk H1)
def Df (H:Hp):V->V->Prop
 | .d x, .d y=>x=y\/(x= .lit (.slice none 0 0)/\∃ sz,y= .sl sz [])
 | .ls id off len sz, .d (.sl sz' es)=>sz'=sz/\es.length=len/\(∀ e∈es,e.length=sz)/\∃ cs,H id=some cs/\(cs.drop off).take (len*sz)=es.flatten.map .d
 | .lp id off, .d (.ref ds)=>∃ cs,H id=some cs/\(cs.drop off).take ds.length=ds.map .d
 | .cl f caps, .d (.fn g ds)=>f=g/\caps=ds.map .d
 | .lp id off, .lp id' off'=>id=id'/\off=off'
 | .ls id off len sz, .ls id' off' len' sz'=>id=id'/\off=off'/\len=len'/\sz=sz'
 | .yl id, .yl id'=>id=id'
 | _,_=>False
def Fi (H:Hp):V->V->Prop
 | .cl f caps, .cl g caps'=>f=g/\caps=caps'
 | .cl f caps, .d (.fn g ds)=>f=g/\AJ (Df H) caps (ds.map .d)
 | x,y=>Df H x y
def Bor (H:Hp):V->V->Prop
 | .agg cs, .agg ds=>AJ (Fi H) cs ds
 | x,y=>Fi H x y
def I8 (v:V):Prop:=A2 (fun _=>False) AR v
def BJ (ρ:Nat->Nat):V->V
 | .lr fr nt ps pa pb jmp=> .lr (fun t=>ren ρ (fr t)) nt ps pa pb jmp
 | v=>DS ρ v
def sg (ks:List Nat) (base:Nat) (j:Nat):Nat:=if j∈ks then j else base+j
def BI (H:Hp) (base:Nat) (Hin:Hp) (ks:List Nat) (H1:Hp):Hp:=fun id=>
 if id∈ks then (H1 id).map (·.map (BJ (sg ks base)))
 else if (Hin id).isSome then none
 else if base<=id then (if id-base∈ks then H id else match H1 (id-base) with | some cs=>some (cs.map (BJ (sg ks base))) | none=>H id)
 else H id
theorem Qv {ρ:Nat->Nat} {v:V} (h:V.isCell v=true):V.isCell (DS ρ v)=true:=by
 cases v<;>first | (simp [V.isCell] at h;done) | rfl
theorem L4 {ρ:Nat->Nat} {v:V} (h:V.isCell v=true):BJ ρ v=DS ρ v:=by
 cases v<;>first | (simp [V.isCell] at h;done) | rfl
theorem A0.ren {p:Nat->Prop} {q:D->Prop} {ρ:Nat->Nat} {p':Nat->Prop} (hp:∀ i,p i->p' (ρ i)) {v:V} (h:A0 p q v):A0 p' AR (DR ρ v):=by
 cases v<;>first | exact hp _ h | exact False.elim h | trivial
theorem A1.ren {p:Nat->Prop} {q:D->Prop} {ρ:Nat->Nat} {p':Nat->Prop} (hp:∀ i,p i->p' (ρ i)) {v:V} (h:A1 p q v):A1 p' AR (DS ρ v):=by
 cases v with
 | cl f caps=>intro c hc;simp only [List.mem_map] at hc;obtain ⟨y,hy,rfl⟩:=hc;exact A0.ren hp (h y hy)
 | lp id off=>exact hp _ h
 | ls id off len sz=>exact hp _ h
 | yl id=>exact hp _ h
 | lr=>exact False.elim h
 | _=>trivial
theorem A2.ren {p:Nat->Prop} {q:D->Prop} {ρ:Nat->Nat} {p':Nat->Prop} (hp:∀ i,p i->p' (ρ i)) {v:V} (h:A2 p q v):A2 p' AR (HR ρ v):=by
 cases v with
 | agg cs=>intro c hc;simp only [List.mem_map] at hc;obtain ⟨y,hy,rfl⟩:=hc;exact A1.ren hp (h y hy)
 | cl f caps=>exact A1.ren (v:= .cl f caps) hp h
 | lp id off=>exact hp _ h
 | ls id off len sz=>exact hp _ h
 | yl id=>exact hp _ h
 | lr=>exact False.elim h
 | _=>trivial
theorem AV.ren {p:Nat->Prop} {q:D->Prop} {ρ:Nat->Nat} {p':Nat->Prop} (hp:∀ i,p i->p' (ρ i)) {v:V} (h:AV p q v):AV p' AR (Psl.ren ρ v):=by
 cases v with
 | tup cs=>intro c hc;simp only [List.mem_map] at hc;obtain ⟨y,hy,rfl⟩:=hc;exact A2.ren hp (h y hy)
 | agg cs=>exact A2.ren (v:= .agg cs) hp h
 | cl f caps=>exact A1.ren (v:= .cl f caps) hp h
 | lp id off=>exact hp _ h
 | ls id off len sz=>exact hp _ h
 | yl id=>exact hp _ h
 | lr=>exact False.elim h
 | _=>trivial
theorem AC.ren {p:Nat->Prop} {q:D->Prop} {ρ:Nat->Nat} {p':Nat->Prop} (hp:∀ i,p i->p' (ρ i)) {v:V} (h:AC p q v):AC p' AR (BJ ρ v):=by
 cases v with
 | lr fr nt ps pa pb jmp=>exact fun t=>AV.ren hp (h t)
 | _=>simp only [AC] at h;exact (A1.ren hp h).ac
theorem AKg {ρ:Nat->Nat} {es:List (Value × Bool × List D)}:BJ ρ (ACA es)=ACA es:=by
 show V.lr _ _ _ _ _ _=V.lr _ _ _ _ _ _
 congr 1
 funext t
 exact AKd
theorem De.hb {p:Nat->Prop} {q:D->Prop} {ρ:Nat->Nat} {G':Gh} (h:De p q ρ G W G' W) {i:Nat} {cs:List V} (hi:p i) (ha:∀ c∈cs,AC p q c) (hb:HB G W i cs) (him:G.ph i=false->¬ G'.Im (G.β i)):HB G' W (ρ i) (cs.map (BJ ρ)):=by
 obtain ⟨e1,e2,e3,e4⟩:=h.id i hi;rcases hb with ⟨h1,h2⟩ | ⟨h1,h0,h2,c,T,h3,h4,h5,h6,h7⟩ | ⟨h1,h0,h2,⟨hz,fr,nt,ps,pa,pb,jmp,rec,h3,h4,h5⟩ | ⟨hz,es,ms,ck,h3,h4,h5⟩⟩
 . exact .inl ⟨by rw [e3];exact h1,by rw [h2];rfl⟩
 . have hmap:cs.map (BJ ρ)=cs.map (DS ρ):=List.map_congr_left fun c hc=>L4 (List.all_eq_true.1 h7 c hc)
   rw [hmap];refine .inr (.inl ⟨by rw [e3];exact h1,by rw [e4];exact h0,by rw [e1];exact him h1,c,T,by rw [e1];exact h3,by rw [e2];exact h4,by simpa using h5,?_,?_⟩)
   . rw [List.length_map]
     exact De.all (fun v x=>h.r1) (JT h6 ha) h6
   . rw [List.all_map,List.all_eq_true]
     intro c hc;exact Qv (List.all_eq_true.1 h7 c hc)
 . refine .inr (.inr ⟨by rw [e3];exact h1,by rw [e4];exact h0,by rw [e1];exact him h1, .inl ⟨by rw [e2];exact hz,fun t=>ren ρ (fr t),nt,ps,pa,pb,jmp,rec,by rw [h3];rfl,by rw [e1];exact h4,?_⟩⟩)
   obtain ⟨q1,q2,q3,q4,q5,q6⟩:=h5;have hfr:=ha (.lr fr nt ps pa pb jmp) (by rw [h3];simp);exact ⟨q1,q2,q3,q4,fun t=>h.rv (hfr t) (q5 t),q6⟩
 . refine .inr (.inr ⟨by rw [e3];exact h1,by rw [e4];exact h0,by rw [e1];exact him h1, .inr ⟨by rw [e2];exact hz,es,ms,ck,by rw [h3];exact congrArg (fun x=>[x,V.d (.lit (.bool true))]) AKg,by rw [e1];exact h4,h5.into h ?_⟩⟩)
   exact ha (ACA es) (by rw [h3];simp [Qo])
def HW (ρ:Nat->Nat):Res->Res
 | .ret v=> .ret (ren ρ v)
 | .pan v=> .pan (ren ρ v)
def GS (res:Res) (H1:Hp):Prop:=AV (InH H1) B9 res.v/\∀ i cs,H1 i=some cs->∀ c∈cs,AC (InH H1) B9 c
def Km (G:Gh) (st:St) (Hin:Hp) (b:Nat):Prop:=G.Im b\/∃ i,InH st.H i/\¬ InH Hin i/\G.ph i=false/\G.β i=b
theorem HV.into {p:Nat->Prop} {q:D->Prop} {ρ:Nat->Nat} {G':Gh} (h:De p q ρ G W G' W) {res:Res} {e:Ending} (ha:AV p q res.v) (hr:HV G W res e):HV G' W (HW ρ res) e:=by
 cases res with
 | ret r=>cases e with
   | returned v=>exact h.rv ha hr
   | _=>exact hr.elim
 | pan r=>cases e with
   | panicked ch=>obtain ⟨x,hx,hr⟩:=hr;exact ⟨x,hx,h.rv ha hr⟩
   | _=>exact hr.elim
theorem Inv.call (hI:Inv E U G st a W) {base:Nat} (hb:∀ j,j<1048576->¬ U (base+j)) (hU:∀ i,U i->U' i) (hb':∀ j,j<1048576->U' (base+j)) {Im:Nat->Prop} {W':World} {e:Ending} {G':Gh} {Hin:Hp} {ks:List Nat} {res:Res} {H1:Hp}
   (hin:∀ i cs,Hin i=some cs->st.H i=some cs) (hlt:∀ i,InH H1 i->i ∉ ks->i<1048576) (hks:∀ i∈ks,InH Hin i) (hstk:∀ i∈ks,G.ph i=false)
   (hp:sG {G with Im:=Im} W Hin ks res H1 e W' G')
   (hcase:(∀ b,Im b↔G.Im b)\/((∀ b,Im b↔Km G st Hin b)/\GS res H1)):
   ∃ G'',Inv E U' G'' ⟨st.fr,BI st.H base Hin ks H1,st.nx⟩ a W'/\HV G'' W' (HW (sg ks base) res) e/\AV U' AR (HW (sg ks base) res).v/\Chg U G W G'' W':=by
 have hIn:∀ i,InH Hin i->InH st.H i:=fun i hi=>by
   obtain ⟨cs,hcs⟩:=Option.isSome_iff_exists.1 hi
   show (st.H i).isSome=true
   rw [hin i cs hcs];rfl
 have hlB:∀ b,Bm {G with Im:=Im} Hin b↔Bm G Hin b:=fun b=>Iff.rfl
 have hoth:∀ i,InH st.H i->¬ InH Hin i->G.ph i=false->¬ Bm G Hin (G.β i):=fun i hi hn hph ⟨j,hj,hpj,he⟩=>by
   have:=hI.inj j i (hIn j hj) hi hpj hph he;subst this;exact hn hj
 have hltW:∀ i,InH st.H i->G.ph i=false->G.β i<W.heap.size:=fun i hi hp=>by
   obtain ⟨cs,hcs⟩:=Option.isSome_iff_exists.1 hi;exact (hI.hp i cs hcs).lt hp
 have hnim:∀ i,InH st.H i->G.ph i=false->¬ G.Im (G.β i):=fun i hi hp=>by
   obtain ⟨cs,hcs⟩:=Option.isSome_iff_exists.1 hi;exact (hI.hp i cs hcs).nim hp
 obtain ⟨q,IM,hq,hqr,hqc,hImG,hImN⟩:∃ (q:D->Prop) (IM:Nat->Prop),(∀ x u,q x->RD G'.Im W' x u->RD IM W' x u)/\AV (InH H1) q res.v/\(∀ i cs,H1 i=some cs->∀ c∈cs,AC (InH H1) q c)/\(∀ b,G.Im b->IM b)/\
     (∀ b,IM b->b<W'.heap.size/\(G.Im b\/W.heap.size<=b\/Bm G Hin b)/\∀ i,InH H1 i->G'.ph i=false->G'.β i=b->¬ IM b):=by
   rcases hcase with hc | ⟨hc,h1,h2⟩
   . refine ⟨AR,G'.Im,fun _ _ _ h=>h,hp.wf,fun i cs h=>(hp.hb i cs h).2.2,fun b hb=>hp.im0 b ((hc b).2 hb),fun b hb=>?_⟩
     obtain ⟨h1,h2⟩:=hp.im b hb;refine ⟨h1,h2.imp (fun h=>(hc b).1 h) id,fun i hi hph he=>?_⟩;obtain ⟨cs,hcs⟩:=Option.isSome_iff_exists.1 hi;subst he;exact (hp.hb i cs hcs).1.nim hph
   . refine ⟨B9,G.Im,fun x u hx hr=>?_,h1,h2,fun _ h=>h,fun b hb=>?_⟩
     . obtain ⟨w,rfl⟩:=hx
       cases hr with
       | lit _ hf=>exact .lit _ hf
     . have h3:=(hI.im b hb).1
       refine ⟨Nat.lt_of_lt_of_le h3 hp.size, .inl hb,fun i hi hph he=>?_⟩;obtain ⟨cs,hcs⟩:=Option.isSome_iff_exists.1 hi;rcases (hp.hb i cs hcs).2.1 hph with h | ⟨j,hj,hpj,hbj⟩
       . omega
       . exact absurd hb (by rw [<-he,<-hbj];exact hnim j (hIn j hj) hpj)
 let G'':Gh:={β:=fun i=>if base<=i/\i<base+1048576 then G'.β (i-base) else G.β i,bs:=fun i=>if base<=i/\i<base+1048576 then G'.bs (i-base) else G.bs i,ph:=fun i=>if base<=i/\i<base+1048576 then G'.ph (i-base) else G.ph i,lo:=fun i=>if base<=i/\i<base+1048576 then G'.lo (i-base) else G.lo i,Im:=IM}
 have hold:∀ i,U i->¬ (base<=i/\i<base+1048576):=fun i hi h=>hb (i-base) (by omega) (by rw [show base+(i-base)=i by omega];exact hi)
 have hksU:∀ i∈ks,U i:=fun i hi=>hI.dom i (hIn i (hks i hi))
 have hinto:De (InH H1) q (sg ks base) G' W' G'' W':=⟨fun i hi=>by
   unfold sg;by_cases hk:i∈ks
   . obtain ⟨e1,e2,e3,e4⟩:=hp.st i hk hi
     have hn:=hold i (hksU i hk)
     have hphG:G.ph i=false:=by
       obtain ⟨cs,hcs⟩:=Option.isSome_iff_exists.1 (hIn i (hks i hk));by_cases hh:G.ph i=true
       . exfalso
         have:=hstk i hk;rw [this] at hh;cases hh
       . simpa using hh
     simp only [if_pos hk,G'',if_neg hn];exact ⟨e1.symm,e2.symm,by rw [e3];exact hphG,e4.symm⟩
   . have:=hlt i hi hk
     have h:base<=base+i/\base+i<base+1048576:=by omega
     simp only [if_neg hk,G'',if_pos h,show base+i-base=i by omega,and_self],fun x u hx hr=>hq x u hx hr⟩
 have hchg:Chg U G W G'' W':=⟨fun i hi=>by simp only [G'',if_neg (hold i hi),and_self],fun b hb=>⟨hImG b hb,hp.block b (hI.im b hb).1 (fun ⟨j,hj,hpj,he⟩=>hnim j (hIn j hj) hpj (by rw [he];exact hb))⟩⟩
 have hH:∀ i x,BI st.H base Hin ks H1 i=some x->(∃ j cs,i=sg ks base j/\H1 j=some cs/\x=cs.map (BJ (sg ks base)))\/(st.H i=some x/\¬ InH Hin i/\i ∉ ks):=fun i x h=>by
   unfold BI at h;by_cases hk:i∈ks
   . rw [if_pos hk] at h
     simp only [Option.map_eq_some_iff] at h;obtain ⟨cs,h1,rfl⟩:=h;exact .inl ⟨i,cs,by simp [sg,hk],h1,rfl⟩
   . rw [if_neg hk] at h
     by_cases hh:InH Hin i
     . rw [if_pos (show (Hin i).isSome=true from hh)] at h;cases h
     . rw [if_neg (show ¬ (Hin i).isSome=true from hh)] at h
       split at h
       . rename_i hbi
         split at h
         . exact .inr ⟨h,hh,hk⟩
         . rename_i hkb
           split at h
           . rename_i cs hcs
             cases h;exact .inl ⟨i-base,cs,by simp [sg,hkb];omega,hcs,rfl⟩
           . exact .inr ⟨h,hh,hk⟩
       . exact .inr ⟨h,hh,hk⟩
 have hH':∀ i,InH (BI st.H base Hin ks H1) i->(∃ j,i=sg ks base j/\InH H1 j)\/(InH st.H i/\¬ InH Hin i/\¬ (base<=i/\i<base+1048576)):=fun i h=>by
   obtain ⟨x,hx⟩:=Option.isSome_iff_exists.1 h;rcases hH i x hx with ⟨j,cs,h1,h2,_⟩ | ⟨h1,h2,_⟩
   . exact .inl ⟨j,h1,by show (H1 j).isSome=true;rw [h2];rfl⟩
   . have:InH st.H i:=by show (st.H i).isSome=true;rw [h1];rfl
     exact .inr ⟨this,h2,hold i (hI.dom i this)⟩
 have hnew:=hinto.id
 have hsgU:∀ j,InH H1 j->U' (sg ks base j):=fun j hj=>by
   unfold sg;split
   . rename_i hk;exact hU _ (hksU j hk)
   . rename_i hk;exact hb' j (hlt j hj hk)
 have hsginj:∀ i j,InH H1 i->InH H1 j->sg ks base i=sg ks base j->i=j:=fun i j hi hj he=>by
   unfold sg at he;by_cases hki:i∈ks<;>by_cases hkj:j∈ks
   . simpa [hki,hkj] using he
   . simp only [if_pos hki,if_neg hkj] at he
     exact absurd (hksU i hki) (by rw [he];exact hb j (hlt j hj hkj))
   . simp only [if_pos hkj,if_neg hki] at he
     exact absurd (hksU j hkj) (by rw [<-he];exact hb i (hlt i hi hki))
   . simp only [if_neg hki,if_neg hkj] at he;omega
 refine ⟨G'',?_,hp.rv.into hinto hqr,?_,hchg⟩
 rotate_left
 . cases res with
   | ret r=>exact AV.ren (fun i hi=>hsgU i hi) hqr
   | pan r=>exact AV.ren (fun i hi=>hsgU i hi) hqr
 refine {fr:=fun t=>hchg.rv (hI.wf t) (hI.fr t),wf:=fun t=>AV.mono hU (fun _ h=>h) (hI.wf t),hp:=?_,wh:=?_,dom:=?_,inj:=?_,own:=?_,im:=?_,im0:=fun b hb=>hImG b (hI.im0 b hb),keep:=?_,stab:=?_,sU:=fun i hs=>hU _ (hI.sU i hs),nt:=hI.nt,df:=?_}
 . intro i x h
   rcases hH i x h with ⟨j,cs,rfl,h2,rfl⟩ | ⟨h1,h2,_⟩
   . have hpj:InH H1 j:=by show (H1 j).isSome=true;rw [h2];rfl
     exact hinto.hb hpj (hqc j cs h2) (hp.hb j cs h2).1 (fun hph hIM=>(hImN _ hIM).2.2 j hpj hph rfl hIM)
   . have hi:InH st.H i:=by show (st.H i).isSome=true;rw [h1];rfl
     refine hchg.hb (hI.dom i hi) (hI.wh i x h1) (hI.hp i x h1) (fun hph=>hp.block _ (hltW i hi hph) (hoth i hi h2 hph)) (fun hx hph=>?_);rcases (hImN _ hx).2.1 with h | h | h
     . exact h
     . have:=hltW i hi hph;omega
     . exact absurd h (hoth i hi h2 hph)
 . intro i x h y hy
   rcases hH i x h with ⟨j,cs,rfl,h2,rfl⟩ | ⟨h1,h2,_⟩
   . simp only [List.mem_map] at hy
     obtain ⟨z,hz,rfl⟩:=hy;exact (hqc j cs h2 z hz).ren hsgU
   . exact AC.mono hU (fun _ h=>h) (hI.wh i x h1 y hy)
 . intro i h
   rcases hH' i h with ⟨j,rfl,hj⟩ | ⟨h1,_⟩
   . exact hsgU j hj
   . exact hU _ (hI.dom i h1)
 . intro i j hi hj hpi hpj he
   rcases hH' i hi with ⟨i',rfl,hi'⟩ | ⟨hi1,hi2,hi3⟩<;>rcases hH' j hj with ⟨j',rfl,hj'⟩ | ⟨hj1,hj2,hj3⟩
   . rw [(hnew i' hi').2.2.1] at hpi
     rw [(hnew j' hj').2.2.1] at hpj;rw [(hnew i' hi').1,(hnew j' hj').1] at he;rw [hp.inj i' j' hi' hj' hpi hpj he]
   . rw [(hnew i' hi').2.2.1] at hpi
     rw [(hnew i' hi').1] at he;simp only [G'',if_neg hj3] at he hpj;obtain ⟨cs,hcs⟩:=Option.isSome_iff_exists.1 hi';rcases (hp.hb i' cs hcs).2.1 hpi with h1 | h1
     . have h2:=hltW j hj1 hpj;omega
     . rw [he] at h1;exact absurd h1 (hoth j hj1 hj2 hpj)
   . rw [(hnew j' hj').2.2.1] at hpj
     rw [(hnew j' hj').1] at he;simp only [G'',if_neg hi3] at he hpi;obtain ⟨cs,hcs⟩:=Option.isSome_iff_exists.1 hj';rcases (hp.hb j' cs hcs).2.1 hpj with h1 | h1
     . have h2:=hltW i hi1 hpi;omega
     . rw [<-he] at h1;exact absurd h1 (hoth i hi1 hi2 hpi)
   . simp only [G'',if_neg hi3,if_neg hj3] at he hpi hpj
     exact hI.inj i j hi1 hj1 hpi hpj he
 . intro i hi hph
   rcases hH' i hi with ⟨j,rfl,hj⟩ | ⟨h1,_,h2⟩
   . rw [(hnew j hj).2.2.1] at hph
     rw [(hnew j hj).1];obtain ⟨cs,hcs⟩:=Option.isSome_iff_exists.1 hj;rcases (hp.hb j cs hcs).2.1 hph with h1 | ⟨k,hk,hpk,hbk⟩
     . have:=hI.keep.size
       exact .inl (by omega)
     . rw [<-hbk];exact hI.own k (hIn k hk) hpk
   . simp only [G'',if_neg h2] at hph ⊢
     exact hI.own i h1 hph
 . intro b hb
   obtain ⟨h1,h2,_⟩:=hImN b hb;refine ⟨h1,?_⟩;rcases h2 with h | h | ⟨k,hk,hpk,hbk⟩
   . exact (hI.im b h).2
   . exact .inr (.inl (Nat.le_trans hI.keep.size h))
   . rw [<-hbk];exact .inr (hI.own k (hIn k hk) hpk)
 . refine ⟨hp.os.trans hI.keep.os,hp.tape.trans hI.keep.tape,hp.output.trans hI.keep.output,Nat.le_trans hI.keep.drawn hp.drawn,Nat.le_trans hI.keep.size hp.size,fun b hb hm=>(hp.block b (Nat.lt_of_lt_of_le hb hI.keep.size) fun ⟨k,hk,hpk,hbk⟩=>?_).trans (hI.keep.block b hb hm)⟩
   rcases hI.own k (hIn k hk) hpk with h | h
   . simp only at hbk;omega
   . exact hm (hbk ▸ h)
 . intro i hs hi
   rcases hH' i hi with ⟨j,hij,hj⟩ | ⟨h1,_,h2⟩
   . have hUi:=hI.sU _ hs
     unfold sg at hij;split at hij
     . rename_i hk
       subst hij;simp only [G'',if_neg (hold i hUi)];exact hI.stab i hs (hIn i (hks i hk))
     . rename_i hk
       exact absurd hUi (by rw [hij];exact hb j (hlt j hj hk))
   . simp only [G'',if_neg h2]
     exact hI.stab i hs h1
 . obtain ⟨ds,h1,h2⟩:=hI.df
   refine ⟨ds,h1,h2.same (fun D hD hd=>hp.block D (Array.getElem?_eq_some_iff.1 hd).1 fun ⟨k,hk,hpk,hbk⟩=>?_) (fun D hD hd hx=>?_)⟩
   . simp only at hbk
     obtain ⟨cs,hcs⟩:=Option.isSome_iff_exists.1 (hIn k hk);rcases hI.hp k cs hcs with ⟨h,_⟩ | ⟨_,_,_,c,T,h,_⟩ | ⟨_,_,_,⟨_,fr,nt,ps,pa,pb,jmp,rec,_,h,_⟩ | ⟨_,es,ms,ck,_,h,_⟩⟩
     . simp only at hpk;rw [hpk] at h;cases h
     . rw [hbk,hd] at h;cases h
     . rw [hbk,hd] at h;cases h
     . rw [hbk,hd] at h;cases h
   . rcases (hImN _ hx).2.1 with h | h | ⟨k,hk,hpk,hbk⟩
     . exact h
     . have:=(Array.getElem?_eq_some_iff.1 hd).1;omega
     . obtain ⟨cs,hcs⟩:=Option.isSome_iff_exists.1 (hIn k hk)
       rcases hI.hp k cs hcs with ⟨h,_⟩ | ⟨_,_,_,c,T,h,_⟩ | ⟨_,_,_,⟨_,fr,nt,ps,pa,pb,jmp,rec,_,h,_⟩ | ⟨_,es,ms,ck,_,h,_⟩⟩
       . rw [hpk] at h;cases h
       . rw [hbk,hd] at h;cases h
       . rw [hbk,hd] at h;cases h
       . rw [hbk,hd] at h;cases h
end Go.Psl
namespace Go.Psl
variable {P:Program} {Γ:Tys} {eqs:Eqs} {E:Ent} {U U':Nat->Prop} {G:Gh} {st:St} {a:Act} {W:World}
def Be:V->Option (FuncId × List V)
 | .d (.fn g caps)=>some (g,caps.map .d)
 | .cl g caps=>some (g,caps)
 | _=>none
def noH:Hp:=fun _=>none
def EE (H Hin:Hp):Hp:=fun i=>if (Hin i).isSome then none else H i
def IB (H:Hp) (az args:List V) (Hin:Hp) (ks:List Nat) (res:Res) (H1:Hp):Prop:=
 (∀ i cs,Hin i=some cs->H i=some cs)/\(∀ i,InH H1 i->i ∉ ks->i<1048576)/\(∀ i∈ks,∃ cs,Hin i=some cs/\cs≠[])/\
   (AJ (Bor noH) az args\/(AJ (Bor (EE H Hin)) az args/\GS res H1))
def HF (P:Program) (H:Hp) (g:FuncId) (az args:List V) (Hin:Hp) (ks:List Nat) (res:Res) (H1:Hp):Prop:=
 Cm P g args Hin ks res H1/\IB H az args Hin ks res H1
def Ym (P:Program) (k:Nat) (args:List V) (Hin:Hp) (ks:List Nat) (res:Res) (H1:Hp):Prop:=
 ∀ (G:Gh) (W:World) (xs:Array Value) (rec:Loop),(∀ b,G.Im b->b<W.heap.size)->AJ (R2 G W) args xs.toList->Qu G W Hin ks->W.heap[G.β k]?= some (.loop rec)->xs.size=rec.params.size->
   RoundIn Fence.wide 0 P (G.β k) rec.fn ((rec.params.zip xs).foldl (fun tmps (t,a)=>tmps.setIfInBounds t a) rec.tmps) rec.assign rec.body W fun e W'=>∃ G',sG G W Hin ks res H1 e W' G'
def Mp (P:Program) (H:Hp) (k:Nat) (az args:List V) (Hin:Hp) (ks:List Nat) (res:Res) (H1:Hp):Prop:=
 Ym P k args Hin ks res H1/\(∃ fr nt ps pa pb jmp,Hin k=some [.lr fr nt ps pa pb jmp]/\ps.length=args.length)/\IB H az args Hin ks res H1
theorem QI (hI:Inv E U G st a W) {o:Oper} {c:Call} {fo:Operand} (ho:o.op= .call c) (hc:c.callee= .value fo) {g:FuncId} {caps:List V} (hg:Be (evF st.fr fo)=some (g,caps)) (hf:fF P g):
   ∃ xs:Array Value,(execOp a.eval o).run P W= .ok (.enter g xs) W/\AJ (RV G W) (BX st.fr c.args.toList++caps) xs.toList:=by
 obtain ⟨fn,hfn,hbody,hname⟩:=hf;obtain ⟨hr,_⟩:=Du hI c.args.toList;obtain ⟨hx,_⟩:=hI.op fo
 have key:∃ cv:Array Value,a.eval fo= .func (.func g) #[] cv/\AJ (RV G W) caps cv.toList:=by
   unfold Be at hg;split at hg
   . rename_i g' caps' hv
     cases hg;rw [hv] at hx;have hx':RD G.Im W (.fn g caps') (a.eval fo):=hx
     generalize a.eval fo=u at hx'
     cases hx' with
     | fn _ _ cv hl hrr=>
       refine ⟨cv,rfl,AJ.map_left.2 (AJ.of_get (by simpa using hl.symm) fun i x y hx hy=>?_)⟩;exact hrr i x y hx (by rwa [Array.getElem?_toList] at hy)
   . rename_i g' caps' hv
     cases hg;rw [hv] at hx;obtain ⟨cv,hxa,hcr⟩:=hx;exact ⟨cv,hxa,hcr.mono fun _ _ _ h=>R2.rv (R1.r2 (R0.r1 h))⟩
   . cases hg
 obtain ⟨cv,hfe,hcr⟩:=key;refine ⟨#[]++c.args.map a.eval++cv,?_,?_⟩
 . have h1:fn.name≠ "runtime.NumGoroutine" :=by simpa using hname
   have h2:fn.body.isNone=false:=by cases h:fn.body<;>simp_all
   simp only [execOp,ho,resolve,hc,hfe,Deferred.ofValue,Sem.run_bind,Sem.run_pure,Result.andThen_ok,invoke,callFunc,run_program,hfn];simp [h1,h2]
 . simpa using hr.append hcr
theorem UO (hI:Inv E U G st a W) {o:Oper} {c:Call} {fo:Operand} (ho:o.op= .call c) (hc:c.callee= .value fo) {k:Nat} (hk:evF st.fr fo= .yl k) {fr:Nat->V} {nt:Nat} {ps:List Nat} {pa pb:PC} {jmp:LSt} (hH:st.H k=some [.lr fr nt ps pa pb jmp]) (hl:ps.length=c.args.size):
   ∃ (xs:Array Value) (rec:Loop),W.heap[G.β k]?= some (.loop rec)/\xs.size=rec.params.size/\(execOp a.eval o).run P W= .ok (.round (G.β k) rec.fn ((rec.params.zip xs).foldl (fun tmps (t,a)=>tmps.setIfInBounds t a) rec.tmps) rec.assign rec.body) W/\AJ (RV G W) (BX st.fr c.args.toList) xs.toList:=by
 obtain ⟨hr,_⟩:=Du hI c.args.toList;obtain ⟨hx,_⟩:=hI.op fo;rw [hk] at hx;have hB:=hI.hp k _ hH
 obtain ⟨hbs,rec,hrec,hps⟩:G.bs k=0/\∃ rec,W.heap[G.β k]?= some (.loop rec)/\rec.params.toList=ps:=by
   rcases hB with ⟨_,h⟩ | ⟨_,_,_,c',T,_,_,_,h,h2⟩ | ⟨_,_,_,⟨hz,fr',nt',ps',pa',pb',jmp',rec,h1,h2,h3,_⟩ | ⟨_,es,ms,ck,h1,_⟩⟩
   . cases h
   . simp [V.isCell] at h2
   . cases h1;exact ⟨hz,rec,h2,h3⟩
   . simp [Qo] at h1
 have hfe:a.eval fo= .func (.yield (G.β k)) #[] #[]:=by
   rcases hx with ⟨_,h⟩ | ⟨h,_⟩
   . exact h
   . omega
 have hsz:(c.args.map a.eval).size=rec.params.size:=by rw [Array.size_map,<-hl,<-hps,Array.length_toList]
 refine ⟨c.args.map a.eval,rec,hrec,hsz,?_,by simpa using hr⟩;simp only [execOp,ho,resolve,hc,hfe,Deferred.ofValue,Sem.run_bind,Sem.run_pure,Result.andThen_ok,invoke];rw [show (#[]:Array Value)++c.args.map a.eval=c.args.map a.eval by simp];exact run_yield hrec hsz
theorem OO (hI:Inv E U G st a W) {Hin:Hp} {v c:V} {x:Value} (hb:Df (EE st.H Hin) v c) (hx:RV G W v x):R0 {G with Im:=Km G st Hin} W c x:=by
 have him:∀ b,G.Im b->Km G st Hin b/\W.heap[b]?= W.heap[b]?:= fun b hb=>⟨.inl hb,rfl⟩
 have hless:∀ i cs,EE st.H Hin i=some cs->st.H i=some cs/\¬ InH Hin i:=fun i cs h=>by
   unfold EE at h;split at h
   . cases h
   . rename_i h2;exact ⟨h,h2⟩
 unfold Df at hb;split at hb
 . rename_i y z
   rcases hb with rfl | ⟨rfl,sz,rfl⟩
   . exact RD.mono (x:=y) hx him
   . have:=BO hx
     subst this;exact RD.sl sz [] none 0 (fun _ _=>undef) (by simp) (by simp [maxL]) (by simp) (by simp) (by simp)
 . rename_i id off len sz sz' es
   obtain ⟨rfl,hl,hes,cs,hh0,hcs⟩:=hb;obtain ⟨hh,hnin⟩:=hless _ _ hh0;obtain ⟨hml,⟨hph,h0,rfl⟩ | ⟨hph,o',cap,rfl,hcap,hoff⟩⟩:=hx
   . have:es=[]:=List.eq_nil_of_length_eq_zero (by omega)
     subst this;exact RD.sl sz' [] none 0 (fun _ _=>undef) (by simp) (by simp [maxL]) (by simp) (by simp) (by simp)
   . obtain ⟨_,c,T,hg,hbs,hcl,hcr,_⟩:=(hI.hp id cs hh).read hph
     have hfl:=B3 es hes;have hlen:((cs.drop off).take (len*sz')).length=len*sz':=by rw [hcs,List.length_map,hfl,hl]
     have hfit:off+len*sz'<=cs.length\/len*sz'=0:=by simp at hlen;omega
     subst hl;refine RD.sl sz' es (some ⟨G.β id,o',none⟩) cap (fun i j=>c.toList.getD (off+i*sz'+j) undef) hes hml hcap (fun i e he=>⟨_,rfl, .inr ⟨id,by show (st.H id).isSome=true;rw [hh];rfl,hnin,hph.1,rfl⟩,fun j y hy=>?_⟩) (fun i e he j y hy=>?_)
     all_goals
       have hil:i<es.length:=(List.getElem?_eq_some_iff.1 he).1;have hel:=hes e (List.mem_of_getElem? he);have hjl:j<sz':=by have:=(List.getElem?_eq_some_iff.1 hy).1;omega
       have hij:i*sz'+j<es.length*sz':=by
         have:(i+1)*sz'<=es.length*sz':=Nat.mul_le_mul_right _ hil;rw [Nat.add_mul] at this;omega
       have hfit':off+es.length*sz'<=cs.length:=by omega
       have hcell:cs[off+(i*sz'+j)]?= some (.d y):=by
         have h1:((cs.drop off).take (es.length*sz'))[i*sz'+j]?= some (V.d y):=by
           rw [hcs,List.getElem?_map,CI (by omega) es hes];have e1:(i*sz'+j)/sz'=i:=by rw [Nat.add_comm,Nat.add_mul_div_right _ _ (by omega),Nat.div_eq_of_lt hjl];omega
           have e2:(i*sz'+j)%sz'=j:=by rw [Nat.add_comm,Nat.add_mul_mod_self_right,Nat.mod_eq_of_lt hjl]
           rw [e1,e2,he];simp [hy]
         rw [List.getElem?_take,if_pos hij,List.getElem?_drop] at h1;exact h1
       obtain ⟨u,hu,hru⟩:=hcr.get hcell;rw [List.getElem?_take] at hu;split at hu
       rotate_left
       . cases hu
     . obtain ⟨rfl,_⟩:=hoff (by omega)
       rw [Bc];simp only [World.cell?,hg];rw [Array.getElem?_toList] at hu
       have h2:c.toList.getD (o'+i*sz'+j) undef=u:=by
         rw [List.getD_eq_getElem?_getD,Array.getElem?_toList,show o'+i*sz'+j=o'+(i*sz'+j) by omega,hu];rfl
       rw [h2];simpa using hu
     . have h2:c.toList.getD (off+i*sz'+j) undef=u:=by
         rw [List.getD_eq_getElem?_getD,show off+i*sz'+j=off+(i*sz'+j) by omega,hu];rfl
       show RD _ _ y (c.toList.getD (off+i*sz'+j) undef)
       rw [h2];exact RD.mono (x:=y) hru him
 . rename_i id off ds
   obtain ⟨cs,hh0,hcs⟩:=hb;obtain ⟨hh,hnin⟩:=hless _ _ hh0;obtain ⟨hph,rfl⟩:(G.ph id=false/\G.lo id=false)/\x= .pointer (some ⟨G.β id,off,none⟩):=hx;obtain ⟨_,c,T,hg,hbs,hcl,hcr,_⟩:=(hI.hp id cs hh).read hph
   have get:∀ (j:Nat) y,ds[j]?= some y->∃ u,c.toList[off+j]?= some u/\RD (Km G st Hin) W y u:=fun j y hy=>by
     have hj:=(List.getElem?_eq_some_iff.1 hy).1;have h1:((cs.drop off).take ds.length)[j]?= some (V.d y):=by rw [hcs,List.getElem?_map,hy];rfl
     rw [List.getElem?_take,if_pos hj,List.getElem?_drop] at h1;obtain ⟨u,hu,hru⟩:=hcr.get h1;rw [List.getElem?_take] at hu;split at hu
     . exact ⟨u,hu,RD.mono (x:=y) hru him⟩
     . cases hu
   refine RD.ref ds _ (fun j=>c.toList.getD (off+j) undef) (.inr ⟨id,by show (st.H id).isSome=true;rw [hh];rfl,hnin,hph.1,rfl⟩) (fun j y hy=>?_) (fun j y hy=>?_)
   . obtain ⟨u,hu,_⟩:=get j y hy
     rw [Bc,List.getD_eq_getElem?_getD,hu];simp only [World.cell?,hg];simpa using hu
   . obtain ⟨u,hu,hr⟩:=get j y hy
     rw [List.getD_eq_getElem?_getD,hu];exact hr
 . rename_i f caps g ds
   obtain ⟨rfl,rfl⟩:=hb;obtain ⟨cv,rfl,hcr⟩:=hx;have hl:=hcr.length;refine RD.fn f ds cv (by simpa using hl.symm) fun j y v hy hv=>?_
   have h1:(ds.map V.d)[j]?= some (V.d y):=by rw [List.getElem?_map,hy];rfl
   obtain ⟨u,hu,hru⟩:=hcr.get h1;rw [Array.getElem?_toList,hv] at hu;cases hu;exact RD.mono (x:=y) hru him
 . obtain ⟨rfl,rfl⟩:=hb;exact hx
 . obtain ⟨rfl,rfl,rfl,rfl⟩:=hb;exact hx
 . have hb:_=_:=hb;subst hb;exact hx
 . exact hb.elim
theorem OP (hI:Inv E U G st a W) {Hin:Hp} {v c:V} {x:Value} (hb:Fi (EE st.H Hin) v c) (hx:R1 G W v x):R1 {G with Im:=Km G st Hin} W c x:=by
 have him:∀ b,G.Im b->Km G st Hin b/\W.heap[b]?= W.heap[b]?:= fun b hb=>⟨.inl hb,rfl⟩
 unfold Fi at hb;split at hb
 . rename_i f caps g caps'
   obtain ⟨rfl,rfl⟩:=hb;obtain ⟨cv,hx,hc⟩:=hx;refine ⟨cv,hx,hc.mono fun v _ x h=>?_⟩;cases v with
   | d y=>exact RD.mono (x:=y) h him
   | _=>exact h
 . rename_i f caps g ds
   obtain ⟨rfl,hb⟩:=hb;obtain ⟨cv,rfl,hc⟩:=hx;have hl:=hc.length;have hl2:=hb.length;rw [List.length_map] at hl2;refine RD.fn f ds cv (by simpa using (hl2.symm.trans hl).symm) fun j y v hy hv=>?_
   have h1:(ds.map V.d)[j]?= some (V.d y):=by rw [List.getElem?_map,hy];rfl
   obtain ⟨c,hcj,hbj⟩:=hb.get2 h1;obtain ⟨u,hu,hru⟩:=hc.get hcj;rw [Array.getElem?_toList,hv] at hu;cases hu;exact OO hI hbj (R2.rv (R1.r2 (R0.r1 hru)))
 . exact R0.r1 (OO hI hb (R2.rv (R1.r2 hx)))
theorem dV (hI:Inv E U G st a W) {Hin:Hp} {v c:V} {x:Value} (hb:Bor (EE st.H Hin) v c) (hx:RV G W v x):R2 {G with Im:=Km G st Hin} W c x:=by
 unfold Bor at hb;split at hb
 . rename_i cs ds
   obtain ⟨cv,rfl,hr⟩:=hx;refine ⟨cv,rfl,AJ.of_get (by rw [<-hb.length,hr.length]) fun i y z hy hz=>?_⟩;obtain ⟨w,hw,hbw⟩:=hb.get2 hy;obtain ⟨u,hu,hru⟩:=hr.get hw;rw [hz] at hu;cases hu;exact OP hI hbw hru
 . refine R1.r2 (OP hI hb ?_)
   cases v<;>first | exact hx | (exfalso;revert hb;cases c<;>simp [Fi,Df];done)
theorem Ly {v c:V} {x:Value} (hb:Df noH v c) (hx:RV G W v x):R0 G W c x:=by
 unfold Df at hb;split at hb
 . rename_i y z
   rcases hb with rfl | ⟨rfl,sz,rfl⟩
   . exact hx
   . have:=BO hx
     subst this;exact RD.sl sz [] none 0 (fun _ _=>undef) (by simp) (by simp [maxL]) (by simp) (by simp) (by simp)
 . obtain ⟨_,_,_,cs,h,_⟩:=hb;cases h
 . obtain ⟨cs,h,_⟩:=hb;cases h
 . rename_i f caps g ds
   obtain ⟨rfl,rfl⟩:=hb;obtain ⟨cv,rfl,hcr⟩:=hx;have hl:=hcr.length;refine RD.fn f ds cv (by simpa using hl.symm) fun j y v hy hv=>?_
   have h1:(ds.map V.d)[j]?= some (V.d y):=by rw [List.getElem?_map,hy];rfl
   obtain ⟨u,hu,hru⟩:=hcr.get h1;rw [Array.getElem?_toList,hv] at hu;cases hu;exact hru
 . obtain ⟨rfl,rfl⟩:=hb;exact hx
 . obtain ⟨rfl,rfl,rfl,rfl⟩:=hb;exact hx
 . have hb:_=_:=hb;subst hb;exact hx
 . exact hb.elim
theorem C6 {v c:V} {x:Value} (hb:Fi noH v c) (hx:R1 G W v x):R1 G W c x:=by
 unfold Fi at hb;split at hb
 . obtain ⟨rfl,rfl⟩:=hb;exact hx
 . rename_i f caps g ds
   obtain ⟨rfl,hb⟩:=hb;obtain ⟨cv,rfl,hc⟩:=hx;have hl:=hc.length;have hl2:=hb.length;rw [List.length_map] at hl2;refine RD.fn f ds cv (by simpa using (hl2.symm.trans hl).symm) fun j y v hy hv=>?_
   have h1:(ds.map V.d)[j]?= some (V.d y):=by rw [List.getElem?_map,hy];rfl
   obtain ⟨c,hcj,hbj⟩:=hb.get2 h1;obtain ⟨u,hu,hru⟩:=hc.get hcj;rw [Array.getElem?_toList,hv] at hu;cases hu;exact Ly hbj (R2.rv (R1.r2 (R0.r1 hru)))
 . exact R0.r1 (Ly hb (R2.rv (R1.r2 hx)))
theorem XQ {v c:V} {x:Value} (hb:Bor noH v c) (hx:RV G W v x):R2 G W c x:=by
 unfold Bor at hb;split at hb
 . rename_i cs ds
   obtain ⟨cv,rfl,hr⟩:=hx;refine ⟨cv,rfl,AJ.of_get (by rw [<-hb.length,hr.length]) fun i y z hy hz=>?_⟩;obtain ⟨w,hw,hbw⟩:=hb.get2 hy;obtain ⟨u,hu,hru⟩:=hr.get hw;rw [hz] at hu;cases hu;exact C6 hbw hru
 . refine R1.r2 (C6 hb ?_)
   cases v<;>first | exact hx | (exfalso;revert hb;cases c<;>simp [Fi,Df];done)
theorem GR (hI:Inv E U G st a W) {az args:List V} {xs:Array Value} (hrel:AJ (RV G W) az xs.toList) {Hin:Hp} {ks:List Nat} {res:Res} {H1:Hp} (h:IB st.H az args Hin ks res H1):
   ∃ Im:Nat->Prop,(∀ b,Im b->b<W.heap.size)/\AJ (R2 {G with Im:=Im} W) args xs.toList/\Qu {G with Im:=Im} W Hin ks/\(∀ i∈ks,G.ph i=false)/\((∀ b,Im b↔G.Im b)\/((∀ b,Im b↔Km G st Hin b)/\GS res H1)):=by
 obtain ⟨hin,hlt,hks,hcase⟩:=h
 have comb:∀ (Im:Nat->Prop) (B:V->V->Prop),AJ B az args->(∀ v∈az,∀ c x,B v c->RV G W v x->R2 {G with Im:=Im} W c x)->AJ (R2 {G with Im:=Im} W) args xs.toList:=fun Im B hbor hm=>
   AJ.of_get (by rw [<-hbor.length,hrel.length]) fun i y z hy hz=>by
     obtain ⟨w,hw,hbw⟩:=hbor.get2 hy;obtain ⟨u,hu,hru⟩:=hrel.get hw;rw [hz] at hu;cases hu;exact hm w (List.mem_of_getElem? hw) _ _ hbw hru
 have hIn:∀ i,InH Hin i->InH st.H i:=fun i hi=>by
   obtain ⟨cs,hcs⟩:=Option.isSome_iff_exists.1 hi
   show (st.H i).isSome=true
   rw [hin i cs hcs];rfl
 have hst:∀ i∈ks,InH Hin i/\G.ph i=false:=fun i hi=>by
   obtain ⟨cs,hcs,hne⟩:=hks i hi;refine ⟨by show (Hin i).isSome=true;rw [hcs];rfl,?_⟩;rcases hI.hp i cs (hin i cs hcs) with ⟨_,h⟩ | ⟨h,_⟩ | ⟨h,_⟩
   . exact absurd h hne
   . exact h
   . exact h
 rcases hcase with hb | ⟨hb,hfl⟩
 . exact ⟨G.Im,fun b hb=>(hI.im b hb).1,comb _ _ hb fun v hv c x hb hx=>XQ hb hx,⟨fun i cs h=>hI.hp i cs (hin i cs h),fun i j hi hj=>hI.inj i j (hIn i hi) (hIn j hj),hst⟩,fun i hi=>(hst i hi).2, .inl fun _=>Iff.rfl⟩
 . refine ⟨Km G st Hin,fun b hb=>?_,comb _ _ hb fun v hv c x hb hx=>dV hI hb hx,⟨fun i cs h=>?_,fun i j hi hj=>hI.inj i j (hIn i hi) (hIn j hj),hst⟩,fun i hi=>(hst i hi).2, .inr ⟨fun _=>Iff.rfl,hfl⟩⟩
   . rcases hb with h | ⟨i,hi,_,hph,rfl⟩
     . exact (hI.im b h).1
     . obtain ⟨cs,hcs⟩:=Option.isSome_iff_exists.1 hi
       exact (hI.hp i cs hcs).lt hph
   . have him:∀ b,G.Im b->Km G st Hin b/\W.heap[b]?= W.heap[b]?:= fun b hb=>⟨.inl hb,rfl⟩
     have hchg:Chg U G W {G with Im:=Km G st Hin} W:=⟨fun _ _=>⟨rfl,rfl,rfl,rfl⟩,him⟩
     have hs:=hin i cs h;have hi:InH st.H i:=by show (st.H i).isSome=true;rw [hs];rfl
     refine hchg.hb (hI.dom i hi) (hI.wh i cs hs) (hI.hp i cs hs) (fun _=>rfl) (fun hx hph=>?_);rcases hx with hx | ⟨j,hj,hnj,hpj,he⟩
     . exact hx
     . have:=hI.inj j i hj hi hpj hph he
       subst this;exact absurd (by show (Hin j).isSome=true;rw [h];rfl) hnj
theorem KV {E:Ent} {o:Oper} {c:Call} (ho:o.op= .call c) (ρ:Operand->Value):o.semAt E.F.round ρ=execOp ρ o:=Oper.semAt_eq _ _ _ (by rw [ho];nofun)
theorem ACc (hI:Inv E U G st a W) {o:Oper} {c:Call} {fo:Operand} (ho:o.op= .call c) (hc:c.callee= .value fo) {g:FuncId} {caps args:List V} {Hin:Hp} {ks:List Nat} {res:Res} {H1:Hp} (hg:Be (evF st.fr fo)=some (g,caps))
   (hcall:HF P st.H g (BX st.fr c.args.toList++caps) args Hin ks res H1) {base:Nat} (hb:∀ j,j<1048576->¬ U (base+j)) (hU:∀ i,U i->U' i) (hb':∀ j,j<1048576->U' (base+j)) (hd:∀ d,o.dst=some d->d<E.nt)
   {K:Act->World->Prop} {Q:Exit->Act->World->Prop} (h:∀ r G' a' W',res= .ret r->Inv E U' G' ⟨Am st.fr o.dst (ren (sg ks base) r),BI st.H base Hin ks H1,st.nx⟩ a' W'->K a' W')
   (hx:∀ r G' W' ch,res= .pan r->Jp G' W' (.pan (ren (sg ks base) r)) (.panic ch)->AV U' AR (ren (sg ks base) r)->Inv E U' G' ⟨st.fr,BI st.H base Hin ks H1,st.nx⟩ a W'->Q (.panic ch) a W'):o.wpIn E.F 0 P a W K Q:=by
 obtain ⟨hfn,hcb⟩:=hcall;obtain ⟨xs,hrun,hrel⟩:=QI hI ho hc hg hfn.1;obtain ⟨Im,hIm,hall,hpre,hph,hcs⟩:=GR hI hrel hcb;obtain ⟨hin,hlt,hks,_⟩:=hcb;refine ⟨fun _ _=>trivial,?_⟩;rw [KV ho,hrun];simp only [Oper.uponIn];refine ⟨by simp [Fence.wide],?_⟩
 show CallsIn Fence.wide 0 P g xs W _
 rw [callsIn_wide];refine (hfn.2 {G with Im:=Im} W xs hIm hall hpre).mono fun e W' ⟨G',hpost⟩=>?_
 obtain ⟨G'',hI',hrv,hav,_⟩:=hI.call hb hU hb' hin hlt (fun i hi=>(hpre.st i hi).1) hph hpost hcs;cases res with
 | ret r=>cases e with
   | returned v=>exact h r _ _ _ rfl (hI'.slot hrv hav o.dst hd)
   | _=>exact hrv.elim
 | pan r=>cases e with
   | panicked ch=>exact hx r G'' W' ch rfl hrv hav hI'
   | _=>exact hrv.elim
theorem Jc (hI:Inv E U G st a W) {o:Oper} {c:Call} {fo:Operand} (ho:o.op= .call c) (hc:c.callee= .value fo) {k:Nat} {args:List V} {Hin:Hp} {ks:List Nat} {res:Res} {H1:Hp} (hk:evF st.fr fo= .yl k)
   (hcall:Mp P st.H k (BX st.fr c.args.toList) args Hin ks res H1) {base:Nat} (hb:∀ j,j<1048576->¬ U (base+j)) (hU:∀ i,U i->U' i) (hb':∀ j,j<1048576->U' (base+j)) (hd:∀ d,o.dst=some d->d<E.nt)
   {K:Act->World->Prop} {Q:Exit->Act->World->Prop} (h:∀ r G' a' W',res= .ret r->Inv E U' G' ⟨Am st.fr o.dst (ren (sg ks base) r),BI st.H base Hin ks H1,st.nx⟩ a' W'->K a' W')
   (hx:∀ r G' W' ch,res= .pan r->Jp G' W' (.pan (ren (sg ks base) r)) (.panic ch)->AV U' AR (ren (sg ks base) r)->Inv E U' G' ⟨st.fr,BI st.H base Hin ks H1,st.nx⟩ a W'->Q (.panic ch) a W'):o.wpIn E.F 0 P a W K Q:=by
 obtain ⟨hy,⟨fr,nt,ps,pa,pb,jmp,hHk,hlen⟩,hcb⟩:=hcall
 have hl:ps.length=c.args.size:=by
   have:(BX st.fr c.args.toList).length=args.length:=by
     rcases hcb.2.2.2 with h | ⟨h,_⟩<;>exact h.length
   have h2:(BX st.fr c.args.toList).length=c.args.size:=by
     have:=(Du hI c.args.toList).1.length;simpa using this
   omega
 obtain ⟨xs,rec,hrec,hsz,hrun,hrel⟩:=UO hI ho hc hk (hcb.1 k _ hHk) hl;obtain ⟨Im,hIm,hall,hpre,hph,hcs⟩:=GR hI hrel hcb;obtain ⟨hin,hlt,hks,_⟩:=hcb;refine ⟨fun _ _=>trivial,?_⟩;rw [KV ho,hrun];simp only [Oper.uponIn];refine ⟨by simp [Fence.wide],?_⟩
 show RoundIn Fence.wide 0 P _ _ _ _ _ W _
 refine (hy {G with Im:=Im} W xs rec hIm hall hpre hrec hsz).mono fun e W' ⟨G',hpost⟩=>?_
 obtain ⟨G'',hI',hrv,hav,_⟩:=hI.call hb hU hb' hin hlt (fun i hi=>(hpre.st i hi).1) hph hpost hcs;cases res with
 | ret r=>cases e with
   | returned v=>exact h r _ _ _ rfl (hI'.slot hrv hav o.dst hd)
   | _=>exact hrv.elim
 | pan r=>cases e with
   | panicked ch=>exact hx r G'' W' ch rfl hrv hav hI'
   | _=>exact hrv.elim
end Go.Psl
namespace Go.Psl
variable {P:Program} {Γ:Tys} {eqs:Eqs} {E:Ent} {U U':Nat->Prop} {G:Gh} {st:St} {a:Act} {W:World}
def gV:V->Option (Option Bool)
 | .d (.lit (.bool b))=>some (some b)
 | .tup []=>some none
 | _=>none
def BA (all:List Oper) (f:Nat->V):Option (Nat × Bool)->Option Bool
 | none=>some true
 | some (j,w)=>((all[j]?).bind (·.dst)).bind fun d=>(gV (f d)).map fun y=>y == some w
theorem DJ (hI:Inv E U G st a W) {all:List Oper} {o:Oper} {b:Bool} (h:BA all st.fr o.guard=some b):Region.wanted o (yielded all.toArray a.tmps)=b:=by
 unfold BA at h;unfold Region.wanted;split at h
 . rename_i hg;cases h;simp [hg]
 . rename_i j w hg
   rw [hg];simp only;cases hd:(all[j]?).bind (·.dst) with
   | none=>simp [hd] at h
   | some d=>
     simp only [hd,Option.bind_some] at h;cases hv:gV (st.fr d) with
     | none=>simp [hv] at h
     | some y=>
       simp only [hv,Option.map_some,Option.some.injEq] at h;have hr:=hI.fr d
       have hy:yielded all.toArray a.tmps j=y:=by
         unfold yielded;rw [List.getElem?_toArray,hd];simp only [Option.bind_some];unfold gV at hv;split at hv
         . rename_i c hc
           cases hv;rw [hc] at hr;have:=DH hr;rw [Array.getD_eq_getD_getElem?] at this;cases ht:a.tmps[d]? with
           | none=>rw [ht] at this;simp [undef] at this
           | some u=>rw [ht] at this;simp only [Option.getD_some] at this;subst this;rfl
         . rename_i hc
           cases hv;rw [hc] at hr;obtain ⟨cv,hu,hcv⟩:=hr
           have:cv= #[]:=by
             have:=AJ.nil_iff.1 hcv;exact Array.ext' this
           subst this;rw [Array.getD_eq_getD_getElem?] at hu;cases ht:a.tmps[d]? with
           | none=>rfl
           | some u=>rw [ht] at hu;simp only [Option.getD_some] at hu;subst hu;rfl
         . cases hv
       rw [hy];exact h
inductive C5 (P:Program) (Γ:Tys) (eqs:Eqs) (b:Nat) (o:Oper) (st:St):St->Prop
 | plain (v:V) (e:Eff) (h:A9 Γ eqs st.H b st.fr o.op=some (v,e)):C5 P Γ eqs b o st ⟨Am st.fr o.dst v,st.H.app e,st.nx⟩
 | call (c:Call) (fo:Operand) (g:FuncId) (caps args:List V) (Hin:Hp) (ks:List Nat) (r:V) (H1:Hp) (ho:o.op= .call c) (hc:c.callee= .value fo) (hg:Be (evF st.fr fo)=some (g,caps))
     (hcall:HF P st.H g (BX st.fr c.args.toList++caps) args Hin ks (.ret r) H1):C5 P Γ eqs b o st ⟨Am st.fr o.dst (ren (sg ks b) r),BI st.H b Hin ks H1,st.nx⟩
 | yield (c:Call) (fo:Operand) (k:Nat) (args:List V) (Hin:Hp) (ks:List Nat) (r:V) (H1:Hp) (ho:o.op= .call c) (hc:c.callee= .value fo) (hg:evF st.fr fo= .yl k)
     (hcall:Mp P st.H k (BX st.fr c.args.toList) args Hin ks (.ret r) H1):C5 P Γ eqs b o st ⟨Am st.fr o.dst (ren (sg ks b) r),BI st.H b Hin ks H1,st.nx⟩
inductive ACW (P:Program) (b:Nat) (o:Oper) (st:St):V->St->Prop
 | call (c:Call) (fo:Operand) (g:FuncId) (caps args:List V) (Hin:Hp) (ks:List Nat) (r:V) (H1:Hp) (ho:o.op= .call c) (hc:c.callee= .value fo) (hg:Be (evF st.fr fo)=some (g,caps))
     (hcall:HF P st.H g (BX st.fr c.args.toList++caps) args Hin ks (.pan r) H1):ACW P b o st (ren (sg ks b) r) ⟨st.fr,BI st.H b Hin ks H1,st.nx⟩
 | yield (c:Call) (fo:Operand) (k:Nat) (args:List V) (Hin:Hp) (ks:List Nat) (r:V) (H1:Hp) (ho:o.op= .call c) (hc:c.callee= .value fo) (hg:evF st.fr fo= .yl k)
     (hcall:Mp P st.H k (BX st.fr c.args.toList) args Hin ks (.pan r) H1):ACW P b o st (ren (sg ks b) r) ⟨st.fr,BI st.H b Hin ks H1,st.nx⟩
 | panic (x:Operand) (t:TypeId) (ag:Bool) (cs:List D) (ho:o.op= .panic x) (hv:evF st.fr x= .d (.ifc t ag cs)):ACW P b o st (.d (.ifc t ag cs)) st
theorem Mo {Γ:Tys} {eqs:Eqs} {H:Hp} {b:Nat} {f:Nat->V} {op:Op} {r:V × Eff} (h:A9 Γ eqs H b f op=some r):∀ c,op≠ .defer c:=by
 intro c e;subst e;cases h
theorem E4 (hΓ:GOk P Γ) (hE:EB P eqs) (hI:Inv E U G st a W) {o:Oper} {b:Nat} (hb:∀ j,j<1048576->¬ U (b+j)) (hU:∀ i,U i->U' i) (hb':∀ j,j<1048576->U' (b+j)) (hd:∀ d,o.dst=some d->d<E.nt) {st':St} (hs:C5 P Γ eqs b o st st')
   {K:Act->World->Prop} {Q:Exit->Act->World->Prop} (h:∀ G' a' W',Inv E U' G' st' a' W'->K a' W'):o.wpIn E.F 0 P a W K Q:=by
 cases hs with
 | plain v e he=>
   obtain ⟨n,x,W',G',hrun,hn,hI',hr,ha⟩:=Yl hΓ hE hI (hb 0 (by omega)) hU (hb' 0 (by omega)) he;refine ⟨fun _ _=>trivial,?_⟩;rw [Oper.semAt_eq _ _ _ (Mo he),hrun];have h2:=h _ _ _ (hI'.slot hr ha o.dst hd);rcases hn with rfl | ⟨rfl,rfl⟩
   . exact h2
   . exact h2
 | call c fo g caps args Hin ks r H1 ho hc hg hcall=>exact ACc hI ho hc hg hcall hb hU hb' hd (fun r' G' a' W' he hI'=>by cases he;exact h G' a' W' hI') (fun _ _ _ _ he=>by cases he)
 | yield c fo k args Hin ks r H1 ho hc hg hcall=>exact Jc hI ho hc hg hcall hb hU hb' hd (fun r' G' a' W' he hI'=>by cases he;exact h G' a' W' hI') (fun _ _ _ _ he=>by cases he)
theorem Fs (hI:Inv E U G st a W) {o:Oper} {b:Nat} (hb:∀ j,j<1048576->¬ U (b+j)) (hU:∀ i,U i->U' i) (hb':∀ j,j<1048576->U' (b+j)) (hd:∀ d,o.dst=some d->d<E.nt) {v:V} {st':St} (hs:ACW P b o st v st')
   {K:Act->World->Prop} {Q:Exit->Act->World->Prop} (h:∀ G' W' ch,Jp G' W' (.pan v) (.panic ch)->AV U' AR v->Inv E U' G' st' a W'->Q (.panic ch) a W'):o.wpIn E.F 0 P a W K Q:=by
 cases hs with
 | call c fo g caps args Hin ks r H1 ho hc hg hcall=>exact ACc hI ho hc hg hcall hb hU hb' hd (fun _ _ _ _ he=>by cases he) (fun r' G' W' ch he h1 h2 hI'=>by cases he;exact h G' W' ch h1 h2 hI')
 | yield c fo k args Hin ks r H1 ho hc hg hcall=>exact Jc hI ho hc hg hcall hb hU hb' hd (fun _ _ _ _ he=>by cases he) (fun r' G' W' ch he h1 h2 hI'=>by cases he;exact h G' W' ch h1 h2 hI')
 | panic x t ag cs ho hv=>
   have hx:=(hI.op x).1;rw [hv] at hx;refine ⟨fun _ _=>trivial,?_⟩;rw [Oper.semAt_eq _ _ _ (by rw [ho];nofun)]
   have hrun:(execOp a.eval o).run P W= .halt (.panic (a.eval x)) W:=by
     have hx':RD G.Im W (.ifc t ag cs) (a.eval x):=hx;simp only [execOp,ho]
     generalize a.eval x=u at hx'
     cases hx'<;>rfl
   rw [hrun];simp only [Oper.uponIn];exact h G W _ ⟨_,rfl,hx⟩ trivial (hI.mono hU)
def Sp (P:Program) (Γ:Tys) (eqs:Eqs) (b:Nat) (o:Oper) (st:St) (K:St->Prop) (Kx:V->St->Prop):Prop:=(∃ st',C5 P Γ eqs b o st st'/\K st')\/(∃ v st',ACW P b o st v st'/\Kx v st')
def CW (g:Option Bool) (r s:Prop):Prop:=match g with | some b=>(b=true->r)/\(b=false->s) | none=>False
def KR (P:Program) (Γ:Tys) (eqs:Eqs) (all:List Oper):Nat->List Oper->St->(St->Prop)->(V->St->Prop)->Prop
 | k,[],st,K,_=>K ⟨st.fr,st.H,st.nx+1048576*k⟩
 | k,o::rest,st,K,Kx=>CW (BA all st.fr o.guard) (Sp P Γ eqs (st.nx+1048576*k) o st (fun st'=>KR P Γ eqs all (k+1) rest st' K Kx) (fun v st'=>Kx v ⟨st'.fr,st'.H,st'.nx+1048576*(k+1)⟩)) (KR P Γ eqs all (k+1) rest ⟨Am st.fr o.dst (.tup []),st.H,st.nx⟩ K Kx)
theorem C5.nx {b:Nat} {o:Oper} {st':St} (h:C5 P Γ eqs b o st st'):st'.nx=st.nx:=by cases h<;>rfl
theorem ACW.nx {b:Nat} {o:Oper} {v:V} {st':St} (h:ACW P b o st v st'):st'.nx=st.nx:=by cases h<;>rfl
theorem XJ {nt:Nat} {ops:List Oper} (h:F3 nt ops=true) {o:Oper} (ho:o∈ops) (d:Nat) (hd:o.dst=some d):d<nt:=by
 have:=List.all_eq_true.1 h o ho;rw [hd] at this;simpa using this
theorem Inv.nx (hI:Inv E U G st a W) (n:Nat):Inv E U G ⟨st.fr,st.H,n⟩ a W:=⟨hI.fr,hI.wf,hI.hp,hI.wh,hI.dom,hI.inj,hI.own,hI.im,hI.im0,hI.keep,hI.stab,hI.sU,hI.nt,hI.df⟩
structure Sq (E:Ent) (Q:Exit->Act->World->Prop) (K:St->Prop) (Kx:V->St->Prop):Prop where
 ok:∀ G st' a' W',Inv E (· < st'.nx) G st' a' W'->K st'->Q .normal a' W'
 pan:∀ G v st' a' W' ch,Inv E (· < st'.nx) G st' a' W'->Jp G W' (.pan v) (.panic ch)->AV (· < st'.nx) AR v->Kx v st'->Q (.panic ch) a' W'
theorem HN (hΓ:GOk P Γ) (hE:EB P eqs) {all:List Oper} {Q:Exit->Act->World->Prop} {K:St->Prop} {Kx:V->St->Prop} (hK:Sq E Q K Kx):
   ∀ (rest:List Oper) (k:Nat) (st:St) (G:Gh) (a:Act) (W:World),F3 E.nt rest=true->Inv E (· < st.nx+1048576*k) G st a W->KR P Γ eqs all k rest st K Kx->wpListIn E.F 0 P all.toArray Q rest a W
 | [],k,st,G,a,W,_,hI,h=>hK.ok G _ a W (hI.nx _) h
 | o::rest,k,st,G,a,W,hd,hI,h=>by
   simp only [F3,List.all_cons,Bool.and_eq_true] at hd;have hd1:∀ d,o.dst=some d->d<E.nt:=fun d hh=>by have:=hd.1;rw [hh] at this;simpa using this
   simp only [KR,CW] at h;cases hg:BA all st.fr o.guard with
   | none=>simp [hg] at h
   | some b=>
     rw [hg] at h;have hw:=DJ hI hg;unfold wpListIn;rw [hw];cases b with
     | true=>
       simp only [if_true];rcases h.1 rfl with ⟨st',hs,hrest⟩ | ⟨v,st',hs,hx⟩
       . refine E4 hΓ hE hI (U':=(· < st.nx+1048576*(k+1))) (fun j hj=>by omega) (fun i hi=>by omega) (fun j hj=>by omega) hd1 hs fun G' a' W' hI'=>?_
         rw [<-hs.nx] at hI';exact HN hΓ hE hK rest (k+1) st' G' a' W' hd.2 hI' hrest
       . refine Fs hI (U':=(· < st.nx+1048576*(k+1))) (fun j hj=>by omega) (fun i hi=>by omega) (fun j hj=>by omega) hd1 hs fun G' W' ch h1 h2 hI'=>?_
         rw [<-hs.nx] at hI' h2;exact hK.pan G' v ⟨st'.fr,st'.H,st'.nx+1048576*(k+1)⟩ a W' ch (hI'.nx _) h1 h2 hx
     | false=>
       simp only [Bool.false_eq_true,if_false];have hI':=(hI.mono (U':=(· < st.nx+1048576*(k+1))) (fun i hi=>by omega)).slot EL (by simp [AV]) o.dst hd1;exact ⟨fun _ _=>trivial,HN hΓ hE hK rest (k+1) _ G _ W hd.2 hI' (h.2 rfl)⟩
def AW (P:Program) (E:Ent) (c:Code) (Q:Av->St->Prop) (st:St):Prop:=
 ∀ G a W,Inv E (· < st.nx) G st a W->c.wpIn E.F 0 P (fun e a' W'=>∃ x st' G',Inv E (· < st'.nx) G' st' a' W'/\Jp G' W' x e/\iX (· < st'.nx) x/\Q x st') a W
theorem KT {Q:Av->St->Prop}:Sq E (fun e a' W'=>∃ x st' G',Inv E (· < st'.nx) G' st' a' W'/\Jp G' W' x e/\iX (· < st'.nx) x/\Q x st') (Q .normal) (fun v st=>Q (.pan v) st):=
 ⟨fun G st' _ _ hI hk=>⟨.normal,st',G,hI,trivial,trivial,hk⟩,fun G v st' _ _ _ hI h1 h2 hk=>⟨.pan v,st',G,hI,h1,h2,hk⟩⟩
theorem AW.region (hΓ:GOk P Γ) (hE:EB P eqs) {id:Nat} {ops:List Oper} {Q:Av->St->Prop} (hd:F3 E.nt ops=true) (h:KR P Γ eqs ops 0 ops st (Q .normal) (fun v st=>Q (.pan v) st)):AW P E (.region id ops.toArray false) Q st:=by
 intro G a W hI;refine wpIn_region_lit (HN hΓ hE KT ops 0 st G a W hd ?_ h);simpa using hI
def DP (K:St->Prop) (Q:Av->St->Prop):Av->St->Prop
 | .normal,st=>K st
 | e,st=>Q e st
theorem AW.seq {x y:Code} {Q:Av->St->Prop} (h:AW P E x (DP (AW P E y Q) Q) st):AW P E (.seq x y) Q st:=by
 intro G a W hI;refine wpIn_seq (wpIn_mono (h G a W hI) fun e a' W' ⟨x,st',G',hI',hx,ho,hq⟩=>?_);cases e with
 | normal=>
   cases x with
   | normal=>exact hq G' a' W' hI'
   | _=>exact hx.elim
 | _=>
   cases x<;>first | exact False.elim hx | exact ⟨_,st',G',hI',hx,ho,hq⟩
theorem AW.skip {Q:Av->St->Prop} (h:Q .normal st):AW P E .skip Q st:=fun _ _ _ hI=>wpIn_skip ⟨.normal,st,_,hI,trivial,trivial,h⟩
theorem AW.ret {Q:Av->St->Prop} (h:Q .ret st):AW P E .ret Q st:=fun _ _ _ hI=>wpIn_ret ⟨.ret,st,_,hI,trivial,trivial,h⟩
theorem AW.exit {id:Nat} {Q:Av->St->Prop} (h:Q (.exit id) st):AW P E (.exit id) Q st:=fun _ _ _ hI=>wpIn_exit ⟨.exit id,st,_,hI,rfl,trivial,h⟩
theorem AW.cond {c:Operand} {x y:Code} {Q:Av->St->Prop} {b:Bool} (hc:evF st.fr c= .d (.lit (.bool b))) (ht:b=true->AW P E x Q st) (hf:b=false->AW P E y Q st):AW P E (.cond c x y) Q st:=by
 intro G a W hI;have h:=(hI.op c).1;rw [hc] at h;have h:=DH h;exact wpIn_cond_split h (fun hb=>ht hb G a W hI) (fun hb=>hf hb G a W hI)
theorem AW.condU {c:Operand} {x y:Code} {Q:Av->St->Prop} (hc:evF st.fr c= .d .ub) (ht:AW P E x Q st) (hf:AW P E y Q st):AW P E (.cond c x y) Q st:=by
 intro G a W hI;have h:=(hI.op c).1;rw [hc] at h;have h:RD G.Im W .ub (a.eval c):=h
 generalize hu:a.eval c=u at h
 cases h with
 | ub b=>exact wpIn_cond_split hu (fun _=>ht G a W hI) (fun _=>hf G a W hI)
def Ft (id:Nat) (Q:Av->St->Prop):Av->St->Prop
 | .exit j,st=>if j=id then Q .normal st else Q (.exit j) st
 | e,st=>Q e st
theorem AW.block {id:Nat} {c:Code} {Q:Av->St->Prop} (h:AW P E c (Ft id Q) st):AW P E (.block id c) Q st:=by
 intro G a W hI;refine wpIn_block (wpIn_mono (h G a W hI) fun e a' W' ⟨x,st',G',hI',hx,ho,hq⟩=>?_);cases e with
 | exit j=>
   cases x with
   | exit j'=>
     have hx:j'=j:=hx;subst hx;simp only [Ft] at hq;simp only [Exit.inBlock];split
     . rename_i hj;rw [if_pos hj] at hq;exact ⟨.normal,st',G',hI',trivial,trivial,hq⟩
     . rename_i hj;rw [if_neg hj] at hq;exact ⟨.exit j',st',G',hI',rfl,trivial,hq⟩
   | _=>exact hx.elim
 | _=>
   cases x<;>first | exact False.elim hx | exact ⟨_,st',G',hI',hx,ho,hq⟩
theorem AW.mono {c:Code} {Q Q':Av->St->Prop} (h:AW P E c Q st) (hq:∀ e st,Q e st->Q' e st):AW P E c Q' st:=
 fun G a W hI=>wpIn_mono (h G a W hI) fun _ _ _ ⟨x,st',G',hI',hx,ho,h⟩=>⟨x,st',G',hI',hx,ho,hq _ _ h⟩
def AI (_:Program) (E:Ent) (st st':St):Prop:=∀ G a W,Inv E (· < st.nx) G st a W->∃ G',Inv E (· < st'.nx) G' st' a W
theorem AW.loop {α:Type} {c:Code} {Q:Av->St->Prop} (S:α->St) (inv:α->Prop) (μ:α->Nat) (x0:α) (h0:inv x0) (hw:AI P E st (S x0))
   (round:∀ x,inv x->AW P E c (DP (fun st'=>∃ y,inv y/\μ y<μ x/\AI P E st' (S y)) Q) (S x)):AW P E (.loop c) Q st:=by
 intro G a W hI;obtain ⟨G0,hI0⟩:=hw G a W hI;intro b k cs hro hb hr
 have key:∀ n x,μ x=n->inv x->∀ G a W,Inv E (· < (S x).nx) G (S x) a W->
     ∃ e a' w',(∃ x st' G',Inv E (· < st'.nx) G' st' a' w'/\Jp G' w' x e/\iX (· < st'.nx) x/\Q x st')/\ArrivesIn (Machine.fenced P E.F) P (lone (b.atR a (.code c:: .inLoop c::k)) cs W) b k cs e a' w':=by
   intro n;induction n using Nat.strongRecOn with
   | _ n ih=>
     intro x hx hinv G a W hI;obtain ⟨e,a₁,w₁,⟨x',st',G',hI',hx',ho,hq⟩,harr⟩:=round x hinv G a W hI b (.inLoop c::k) cs hro hb hr;cases e with
     | normal=>
       cases x' with
       | normal=>
         obtain ⟨y,hy,hlt,hwk⟩:=hq;obtain ⟨G2,hI2⟩:=hwk G' a₁ w₁ hI';obtain ⟨e₂,a₂,w₂,hq₂,harr₂⟩:=ih (μ y) (hx ▸ hlt) y rfl hy G2 a₁ w₁ hI2;exact ⟨e₂,a₂,w₂,hq₂, .of_steps (StepsIn.trans harr (.one (fenced_calm hb hr rfl) stepR_inLoop)) harr₂⟩
       | _=>exact hx'.elim
     | exit id=>cases x'<;>first | exact False.elim hx' | exact ⟨_,a₁,w₁,⟨_,st',G',hI',hx',ho,hq⟩, .pass (x:= .inLoop c) rfl (fun _ _=> .inl (by simp)) harr⟩
     | goto l=>cases x'<;>first | exact False.elim hx' | exact ⟨_,a₁,w₁,⟨_,st',G',hI',hx',ho,hq⟩, .pass (x:= .inLoop c) rfl (fun _ _=> .inl (by simp)) harr⟩
     | ret=>cases x'<;>first | exact False.elim hx' | exact ⟨_,a₁,w₁,⟨_,st',G',hI',hx',ho,hq⟩, .pass (x:= .inLoop c) rfl (fun _ _=> .inl (by simp)) harr⟩
     | panic ch=>cases x'<;>first | exact False.elim hx' | exact ⟨_,a₁,w₁,⟨_,st',G',hI',hx',ho,hq⟩, .pass (x:= .inLoop c) rfl (fun _ _=> .inl (by simp)) harr⟩
     | outgrown=>cases x'<;>exact False.elim hx'
 obtain ⟨e,a',w',hq,harr⟩:=key _ x0 rfl h0 G0 a W hI0;exact ⟨e,a',w',hq, .of_steps (.one (fenced_calm hb hr rfl) stepR_loop) harr⟩
end Go.Psl
namespace Go.Psl
variable {P:Program} {Γ:Tys} {eqs:Eqs}
def HLe (H H':Hp):Prop:=∀ id cs,H id=some cs->H' id=some cs
theorem A8 {f f':Nat->V} {x:Operand} (h:∀ t,x= .tmp t->f t=f' t):evF f x=evF f' x:=by
 cases x with
 | tmp t=>exact h t rfl
 | _=>rfl
theorem D7 {f f':Nat->V}:∀ {l:List Operand},(∀ t,Operand.tmp t∈l->f t=f' t)->BX f l=BX f' l
 | [],_=>rfl
 | x::r,h=>by
   simp only [BX];rw [A8 (fun t ht=>h t (by simp [ht])),D7 (fun t ht=>h t (by simp [ht]))]
theorem LU {f f':Nat->V}:∀ {l:List (Nat × Operand)},(∀ t,Operand.tmp t∈l.map (·.2)->f t=f' t)->ED f l=ED f' l
 | [],_=>rfl
 | (i,x)::r,h=>by
   simp only [ED];rw [A8 (fun t ht=>h t (by simp [ht])),LU (fun t ht=>h t (by simp [ht]))]
theorem LV {f f':Nat->V} {o:Option Operand} (h:∀ t,o=some (.tmp t)->f t=f' t):o.map (evF f)=o.map (evF f'):=by
 cases o with
 | none=>rfl
 | some x=>exact congrArg some (A8 fun t ht=>h t (by rw [ht]))
theorem Dk {H:Hp} {b:Nat} {f f':Nat->V} {op:Op} (h:∀ t,Operand.tmp t∈op.operands.toList->f t=f' t):A9 Γ eqs H b f op=A9 Γ eqs H b f' op:=by
 cases op with
 | move x | assign x | box _ x | load _ x | nilCheck x | unOp _ _ x | convert _ _ x | extract x _ | fieldAddr _ x _ | field _ x _ | makeInterface _ x=>
   simp only [A9];rw [A8 (fun t ht=>h t (by subst ht;simp [Op.operands]))]
 | makeMap t r=>cases r<;>rfl
 | lookup _ x y _=>
   simp only [A9];rw [A8 (x:=x) (fun t ht=>h t (by subst ht;simp [Op.operands])),A8 (x:=y) (fun t ht=>h t (by subst ht;simp [Op.operands]))]
 | mapUpdate _ x y z | insert _ x y z=>
   simp only [A9];rw [A8 (x:=x) (fun t ht=>h t (by subst ht;simp [Op.operands])),A8 (x:=y) (fun t ht=>h t (by subst ht;simp [Op.operands])),A8 (x:=z) (fun t ht=>h t (by subst ht;simp [Op.operands]))]
 | typeAssert x s t ok=>
   cases ok with
   | true=>rfl
   | false=>simp only [A9];rw [A8 (fun t ht=>h t (by subst ht;simp [Op.operands]))]
 | pick c x y=>
   simp only [A9];rw [A8 (x:=c) (fun t ht=>h t (by subst ht;simp [Op.operands])),A8 (x:=x) (fun t ht=>h t (by subst ht;simp [Op.operands])),A8 (x:=y) (fun t ht=>h t (by subst ht;simp [Op.operands]))]
 | store _ x y | binOp _ _ x y _ | indexAddr _ x y | index _ x y | makeSlice _ x y=>
   simp only [A9];rw [A8 (x:=x) (fun t ht=>h t (by subst ht;simp [Op.operands])),A8 (x:=y) (fun t ht=>h t (by subst ht;simp [Op.operands]))]
 | build t ps | buildSlice t n ps=>
   simp only [A9];rw [LU (fun t ht=>h t (by simpa [Op.operands] using ht))]
 | slice t x lo hi mx=>
   cases mx with
   | some m=>rfl
   | none=>
     simp only [A9];rw [A8 (x:=x) (fun t ht=>h t (by subst ht;simp [Op.operands])),LV (o:=lo) (fun t ht=>h t (by subst ht;simp [Op.operands])),LV (o:=hi) (fun t ht=>h t (by subst ht;simp [Op.operands]))]
 | makeFunc fn first caps=>
   cases fn with
   | func g=>simp only [A9];rw [D7 (fun t ht=>h t (by simp only [Op.operands,Array.toList_append,List.mem_append];exact .inr ht))]
   | _=>rfl
 | call c=>
   have hc:∀ t,Operand.tmp t∈c.args.toList->f t=f' t:=fun t ht=>h t (by
     simp only [Op.operands,Call.operands];split<;>simp_all)
   have h1:=D7 hc;simp only [A9];split
   . split
     . rename_i x t hx _
       rw [A8 (fun t ht=>hc t (by rw [hx,ht];simp))]
     . rfl
   . rw [h1]
   . rw [h1]
   . split
     . rename_i s x t t' hx _
       rw [A8 (x:=s) (fun t ht=>hc t (by rw [hx,ht];simp)),A8 (x:=x) (fun t ht=>hc t (by rw [hx,ht];simp))]
     . rfl
   . split
     . rename_i x t hx _
       rw [A8 (fun t ht=>hc t (by rw [hx,ht];simp))]
     . rfl
   . split
     . rename_i x t hx _
       rw [A8 (fun t ht=>hc t (by rw [hx,ht];simp))]
     . rfl
   . rfl
 | _=>rfl
theorem D8 {α β:Type} {x y:Option α} {g g':α->Option β} {r:β} (h:∀ a,x=some a->y=some a) (hg:∀ a r,g a=some r->g' a=some r) (he:x.bind g=some r):y.bind g'=some r:=by
 cases hx:x with
 | none=>simp [hx] at he
 | some a=>rw [hx] at he;rw [h a hx];exact hg a r he
theorem SX {H H':Hp} (hh:HLe H H') {t:TypeId} {v:V} {r:V × Eff} (h:EO Γ H t v=some r):EO Γ H' t v=some r:=by
 unfold EO at*;split
 . exact h
 . exact D8 (fun _ h=>h) (fun y r hy=>D8 (hh _) (fun _ _ h=>h) hy) h
 . simp at h
theorem Pt {H H':Hp} (hh:HLe H H') {t:TypeId} {a v:V} {r:V × Eff} (h:FR Γ H t a v=some r):FR Γ H' t a v=some r:=by
 unfold FR at*;split
 . exact D8 (fun _ h=>h) (fun y r hy=>D8 (hh _) (fun _ _ h=>h) hy) h
 . simp at h
theorem Pu {H H':Hp} (hh:HLe H H') {t:TypeId} {x:V} {lo hi:Option V} {r:V × Eff} (h:CA Γ H t x lo hi=some r):CA Γ H' t x lo hi=some r:=by
 unfold CA at*;refine D8 (fun _ h=>h) (fun y r hy=>?_) h
 generalize y.sh=sh at hy ⊢
 cases sh with
 | array m e=>
   refine D8 (fun _ h=>h) (fun ye r hy=>?_) hy;cases x with
   | lp id off=>exact D8 (hh _) (fun _ _ h=>h) hy
   | _=>exact hy
 | _=>exact hy
theorem Nt {H H':Hp} (hh:HLe H H') {sz:Nat} {x:V} {r:Nat × List V} (h:cellsOf H sz x=some r):cellsOf H' sz x=some r:=by
 cases x with
 | ls id off len sz'=>
   unfold cellsOf at*;by_cases he:sz=sz'
   . simp only [if_pos he] at h ⊢
     exact D8 (hh _) (fun _ _ h=>h) h
   . simp [he] at h
 | d x=>cases x with
   | lit v=>cases v<;>exact h
   | _=>exact h
 | _=>exact h
def iK (H:Hp) (b:Nat) (ye:Ty) (s:V) (nx:Nat × List V):Option (V × Eff):=match s with
   | .d (.lit (.slice _ _ _))=>if nx.1*ye.bytes<=Fh/\nx.1<=maxL then some (.ls b 0 nx.1 ye.size, .new b nx.2) else none
   | .ls id 0 len sz=>if sz=ye.size then (H id).bind fun cs=>if len*sz<=cs.length/\(len+nx.1)*ye.bytes<=Fh/\len+nx.1<=maxL then some (.ls b 0 (len+nx.1) sz, .mov id b (cs.take (len*sz)++nx.2)) else none else none
   | _=>none
theorem WU {H H':Hp} (hh:HLe H H') {b:Nat} {ye:Ty} {s:V} {nx:Nat × List V} {r:V × Eff} (h:iK H b ye s nx=some r):iK H' b ye s nx=some r:=by
 cases s with
 | ls id off len sz=>
   cases off with
   | zero=>
     unfold iK at*;simp only at h ⊢;by_cases he:sz=ye.size
     . simp only [if_pos he] at h ⊢
       exact D8 (hh _) (fun _ _ h=>h) h
     . simp [he] at h
   | succ n=>exact h
 | d x=>cases x with
   | lit v=>cases v<;>exact h
   | _=>exact h
 | _=>exact h
theorem WW {H H':Hp} (hh:HLe H H') {b:Nat} {t:TypeId} {s x:V} {r:V × Eff} (h:Lr Γ H b t s x=some r):Lr Γ H' b t s x=some r:=by
 have key:∀ H,Lr Γ H b t s x=(Γ t).bind fun y=>match y.sh with
   | .slice e=>(Γ e).bind fun ye=>if ye.size=0\/Ei s x=true then none else (cellsOf H ye.size x).bind fun nx=>if nx.2.all V.isCell then iK H b ye s nx else none
   | _=>none:=fun H=>rfl
 rw [key] at h ⊢;refine D8 (fun _ h=>h) (fun y r hy=>?_) h
 generalize y.sh=sh at hy ⊢
 cases sh with
 | slice e=>
   refine D8 (fun _ h=>h) (fun ye r hy=>?_) hy;by_cases hc:ye.size=0\/Ei s x=true
   . simp [hc] at hy
   . rw [if_neg hc] at hy ⊢
     refine D8 (fun _ h=>Nt hh h) (fun nx r hy=>?_) hy;by_cases hc2:nx.2.all V.isCell=true
     . simp only [hc2,if_true] at hy ⊢
       exact WU hh hy
     . simp [hc2] at hy
 | _=>exact hy
theorem Pv {H H':Hp} (hh:HLe H H') {t:TypeId} {x:V} {r:V × Eff} (h:ax Γ H t x=some r):ax Γ H' t x=some r:=by
 unfold ax at*;refine D8 (fun _ h=>h) (fun y r hy=>?_) h
 generalize y.sh=sh at hy ⊢
 cases sh with
 | slice e=>
   refine D8 (fun _ h=>h) (fun ye r hy=>?_) hy;split at hy
   . exact hy
   . split at hy
     . rename_i h0;rw [if_pos h0];exact hy
     . rename_i h0
       rw [if_neg h0];split at hy
       . rename_i h1;rw [if_pos h1];exact D8 (hh _) (fun _ _ h=>h) hy
       . cases hy
   . cases hy
 | _=>exact hy
theorem AJJ {H H':Hp} (hh:HLe H H') {t:TypeId} {m k:V} {p:Nat × List (Value × Bool × List D) × Value × Option Nat × TypeId} (h:AE6 Γ H t m k=some p):AE6 Γ H' t m k=some p:=by
 unfold AE6 at*;refine D8 (fun _ h=>h) (fun y r hy=>?_) h
 generalize y.sh=sh at hy ⊢
 cases sh with
 | map kt et=>exact D8 (fun _ h=>h) (fun yk r hy=>D8 (fun _ h=>h) (fun id r hy=>D8 (hh _) (fun _ _ h=>h) hy) hy) hy
 | _=>exact hy
theorem EN {H H':Hp} (hh:HLe H H') {b:Nat} {f:Nat->V} {op:Op} {r:V × Eff} (h:A9 Γ eqs H b f op=some r):A9 Γ eqs H' b f op=some r:=by
 cases op with
 | load t a=>exact SX hh h
 | store t a v=>exact Pt hh h
 | slice t x lo hi mx=>
   cases mx with
   | some m=>exact h
   | none=>exact Pu hh h
 | call c=>
   simp only [A9] at h ⊢
   generalize c.callee=cc at h ⊢
   cases cc with
   | builtin bi=>
     cases bi with
     | append=>
       simp only at h ⊢
       generalize c.args.toList=al at h ⊢
       generalize c.argTypes.toList=tl at h ⊢
       match al,tl with
       | [s,x],[t,t']=>
         simp only at h ⊢;by_cases he:t=t'
         . rw [if_pos he] at h ⊢;exact WW hh h
         . rw [if_neg he] at h ⊢;exact h
       | [],_ | [_],_ | _::_::_::_,_=>exact h
       | [_,_],[] | [_,_],[_] | [_,_],_::_::_::_=>exact h
     | clear=>
       simp only at h ⊢
       generalize c.args.toList=al at h ⊢
       generalize c.argTypes.toList=tl at h ⊢
       match al,tl with
       | [x],[t]=>exact Pv hh h
       | [],_ | _::_::_,_=>exact h
       | [_],[] | [_],_::_::_=>exact h
     | _=>exact h
   | _=>exact h
 | makeFunc fn first caps=>cases fn<;>exact h
 | typeAssert x s t ok=>cases ok<;>exact h
 | makeMap t r=>cases r<;>exact h
 | lookup t m k ok=>exact D8 (fun _ h=>AJJ hh h) (fun _ _ h=>h) h
 | mapUpdate t m k x=>exact D8 (fun _ h=>AJJ hh h) (fun _ _ h=>h) h
 | insert t m k x=>exact D8 (fun _ h=>AJJ hh h) (fun _ _ h=>h) h
 | _=>exact h
theorem Df.le {H H':Hp} (hh:HLe H H') {x y:V} (h:Df H x y):Df H' x y:=by
 cases x with
 | ls id off len sz=>
   cases y with
   | d y=>
     cases y with
     | sl sz' es=>obtain ⟨h1,h2,h3,cs,h4,h5⟩:=h;exact ⟨h1,h2,h3,cs,hh _ _ h4,h5⟩
     | _=>exact h
   | _=>exact h
 | lp id off=>
   cases y with
   | d y=>
     cases y with
     | ref ds=>obtain ⟨cs,h4,h5⟩:=h;exact ⟨cs,hh _ _ h4,h5⟩
     | _=>exact h
   | _=>exact h
 | cl f caps=>
   cases y with
   | d y=>cases y<;>exact h
   | _=>exact h
 | d x=>
   cases y with
   | d y=>exact h
   | _=>exact h
 | _=>cases y<;>exact h
theorem Fi.le {H H':Hp} (hh:HLe H H') {x y:V} (h:Fi H x y):Fi H' x y:=by
 unfold Fi at h ⊢;split at h
 . exact h
 . exact ⟨h.1,AJ.mono h.2 fun _ _ _ h=>Df.le hh h⟩
 . exact Df.le hh h
theorem Bor.le {H H':Hp} (hh:HLe H H') {x y:V} (h:Bor H x y):Bor H' x y:=by
 unfold Bor at h ⊢;split at h
 . exact AJ.mono h fun _ _ _ h=>Fi.le hh h
 . exact Fi.le hh h
theorem cQ {H H':Hp} (hh:HLe H H') (Hin:Hp):HLe (EE H Hin) (EE H' Hin):=fun i cs h=>by
 unfold EE at h ⊢;split at h
 . cases h
 . rename_i hn;rw [if_neg hn];exact hh i cs h
theorem IB.le {H H':Hp} (hh:HLe H H') {az args:List V} {Hin:Hp} {ks:List Nat} {res:Res} {H1:Hp} (h:IB H az args Hin ks res H1):IB H' az args Hin ks res H1:=
 ⟨fun i cs hi=>hh i cs (h.1 i cs hi),h.2.1,h.2.2.1,h.2.2.2.imp id fun ⟨h1,h2⟩=>⟨h1.mono fun _ _ _ h=>Bor.le (cQ hh Hin) h,h2⟩⟩
theorem HF.le {H H':Hp} (hh:HLe H H') {g:FuncId} {az args:List V} {Hin:Hp} {ks:List Nat} {res:Res} {H1:Hp} (h:HF P H g az args Hin ks res H1):HF P H' g az args Hin ks res H1:=
 ⟨h.1,h.2.le hh⟩
theorem Eh {all:List Oper} {f f':Nat->V} {g:Option (Nat × Bool)} (h:∀ j w d,g=some (j,w)->(all[j]?).bind (·.dst)=some d->f d=f' d):BA all f g=BA all f' g:=by
 unfold BA;split
 . rfl
 . rename_i j w
   cases hd:(all[j]?).bind (·.dst) with
   | none=>rfl
   | some d=>simp only [Option.bind_some];rw [h j w d rfl hd]
end Go.Psl
