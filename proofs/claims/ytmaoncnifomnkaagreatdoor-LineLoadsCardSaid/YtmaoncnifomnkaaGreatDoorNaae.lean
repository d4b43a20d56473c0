/- Own lemmas, used by the last text. Conditions: those that each theorem states. -/
import Derived.RangeFuncNested
import Derived.Test.YtmaoncnifomnkaaGreatDoorNaad
set_option maxRecDepth 200000
set_option maxHeartbeats 8000000
namespace Go.Psl
variable {P:Program} {Γ:Tys} {eqs:Eqs} {E:Ent}
def ES (res:Res) (ρ:Nat->Nat) (Hout:Hp) (Kc Kx:V->Hp->Prop):Prop:=match res with
 | .ret r=>Kc (ren ρ r) Hout
 | .pan r=>Kx (ren ρ r) Hout
abbrev CM:=Option (List (Nat × Nat) × Nat)
def CM.ok (m:CM) (b:Nat) (Hin:Hp) (ks:List Nat) (res:Res) (H1:Hp):Prop:=match m with
 | none=>True
 | some (ws,k)=>(∀ r,res= .ret r->qo ws k b Hin ks H1)/\∀ r,res= .pan r->∃ D,r= .d D
theorem CM.ok_no {m:CM} {b:Nat} {r:V} {H1:Hp}:m.ok b noH [] (.ret r) H1:=by
 cases m with
 | none=>trivial
 | some p=>exact ⟨fun _ _ id h=>by rcases h with ⟨h,_⟩ | ⟨_,h⟩<;>simp [noH] at h,nofun⟩
def AU (P:Program) (m:CM) (Hr H:Hp) (b:Nat) (g:FuncId) (az:List V) (Kc Kx:V->Hp->Prop):Prop:=
 ∃ args Hin ks res H1 Hout,HF P Hr g az args Hin ks res H1/\m.ok b Hin ks res H1/\Hout=BI H b Hin ks H1/\ES res (sg ks b) Hout Kc Kx
def Fp (P:Program) (m:CM) (Hr H:Hp) (b k:Nat) (az:List V) (Kc Kx:V->Hp->Prop):Prop:=
 m=none/\∃ args Hin ks res H1 Hout,Mp P Hr k az args Hin ks res H1/\Hout=BI H b Hin ks H1/\ES res (sg ks b) Hout Kc Kx
def AN9 (P:Program) (m:CM) (Hr H:Hp) (b:Nat) (g:FuncId) (bs cs:List Value) (az:List V) (Kc Kx:V->Hp->Prop):Prop:=match cs,bs with
 | [],[.agg vs]=>AU P m Hr H b g (.agg (vs.toList.map cV)::az) Kc Kx
 | _,_=>False
def JW (P:Program) (m:CM) (Hr H:Hp) (b:Nat) (cv:V) (az:List V) (Kc Kx:V->Hp->Prop):Prop:=match cv with
 | .d (.fn g caps)=>AU P m Hr H b g (az++caps.map .d) Kc Kx
 | .cl g caps=>AU P m Hr H b g (az++caps) Kc Kx
 | .yl k=>Fp P m Hr H b k az Kc Kx
 | .d (.lit (.func (.func g) b' c'))=>AN9 P m Hr H b g b'.toList c'.toList az Kc Kx
 | _=>False
def I1 (H:Hp) (base:Nat):List (Nat × List V)->Hp
 | []=>H
 | p::r=>upd (I1 H base r) (base+p.1) (some (p.2.map (BJ (base+·))))
def BW (n:Nat):List (Nat × List V)->Prop
 | []=>True
 | p::r=>p.1<n/\BW n r
theorem Sk (H:Hp) (base:Nat):∀ (H1:List (Nat × List V)),I1 H base H1=wp H base (lk H1)
 | []=>by funext i;simp [I1,wp,lk]
 | p::r=>by
   funext i
   simp only [I1,AY,Sk H base r,wp,lk];by_cases h:i=base+p.1
   . subst h;simp
   . rw [if_neg h]
     by_cases hb:base<=i
     . rw [if_pos hb,if_pos hb,if_neg (show ¬ (i-base=p.1) by omega)]
     . rw [if_neg hb,if_neg hb]
theorem Fq {n:Nat}:∀ {H1:List (Nat × List V)} {i:Nat},BW n H1->InH (lk H1) i->i<n
 | [],i,_,h=>by simp [lk,InH] at h
 | p::r,i,hl,h=>by
   simp only [lk,InH] at h;split at h
   . rename_i e;rw [e];exact hl.1
   . exact Fq hl.2 h
theorem XB (H:Hp):EE H noH=H:=by funext i;simp [EE,noH]
theorem AU.mk0 {m:CM} {Hr H:Hp} {b:Nat} {g:FuncId} {az:List V} {Kc Kx:V->Hp->Prop} (args:List V) (r:V) (H1:List (Nat × List V)) (hf:Ct P g args r H1) (hb:AJ (Bor Hr) az args) (hi:BW 1048576 H1) (hc:AJ (Bor noH) az args\/GS (.ret r) (lk H1)) (hk:Kc (ren (b+·) r) (I1 H b H1)):AU P m Hr H b g az Kc Kx:=by
 refine ⟨args,noH,[], .ret r,lk H1,I1 H b H1,⟨hf,nofun,fun i h _=>Fq hi h,nofun,?_⟩,CM.ok_no,by rw [Sk,bq],by rw [APX];exact hk⟩;rw [XB];exact hc.imp id fun h=>⟨hb,h⟩
def Fr (H:Hp):List (Nat × List V)->Prop
 | []=>True
 | p::r=>H p.1=some p.2/\Fr H r
theorem Fr.at {H:Hp}:∀ {L:List (Nat × List V)},Fr H L->∀ i cs,lk L i=some cs->H i=some cs
 | [],_,i,cs,h=>by simp [lk] at h
 | p::r,hk,i,cs,h=>by
   simp only [lk] at h;split at h
   . rename_i e;cases h;rw [e];exact hk.1
   . exact hk.2.at i cs h
def E0 (H:Hp):List (Nat × List V)->Hp
 | []=>H
 | p::r=>upd (E0 H r) p.1 none
def I2 (H:Hp) (ks:List Nat) (b:Nat):List (Nat × List V)->Hp
 | []=>H
 | p::r=>upd (I2 H ks b r) (sg ks b p.1) (some (p.2.map (BJ (sg ks b))))
theorem H7 (H:Hp):∀ (L:List (Nat × List V)) (i:Nat),E0 H L i=if (lk L i).isSome then none else H i
 | [],i=>rfl
 | p::r,i=>by
   simp only [E0,AY,lk,H7 H r i];by_cases h:i=p.1
   . simp [h]
   . simp [h]
def Jq (b:Nat) (L L1:List (Nat × List V)):List Nat->Prop
 | []=>True
 | i::r=>i<b/\(lk L1 i).isSome=true/\(∃ cs,lk L i=some cs/\cs≠[])/\Jq b L L1 r
theorem Jq.at {b:Nat} {L L1:List (Nat × List V)}:∀ {ks:List Nat},Jq b L L1 ks->∀ i∈ks,i<b/\(lk L1 i).isSome=true/\∃ cs,lk L i=some cs/\cs≠[]
 | [],_,_,h=>by cases h
 | k::r,hk,i,h=>by
   rcases List.mem_cons.1 h with rfl | h
   . exact ⟨hk.1,hk.2.1,hk.2.2.1⟩
   . exact hk.2.2.2.at i h
theorem Sl (H:Hp) (ks:List Nat) (b:Nat) (hks:∀ i∈ks,i<b):∀ (L1:List (Nat × List V)) (i:Nat),I2 H ks b L1 i=if i∈ks then (match lk L1 i with | some cs=>some (cs.map (BJ (sg ks b))) | none=>H i) else if b<=i then (if i-b∈ks then H i else match lk L1 (i-b) with | some cs=>some (cs.map (BJ (sg ks b))) | none=>H i) else H i
 | [],i=>by simp [I2,lk]
 | p::r,i=>by
   simp only [I2,AY,lk,Sl H ks b hks r i];by_cases hk:p.1∈ks
   . have e:sg ks b p.1=p.1:=by simp [sg,hk]
     rw [e];by_cases h:i=p.1
     . subst h;simp [hk]
     . rw [if_neg h]
       by_cases hi:i∈ks
       . simp [hi,h]
       . simp only [if_neg hi]
         by_cases hb:b<=i
         . simp only [if_pos hb]
           by_cases hib:i-b∈ks
           . simp [hib]
           . have:i-b≠p.1:=fun e=>hib (e ▸ hk)
             simp [hib,this]
         . simp [hb]
   . have e:sg ks b p.1=b+p.1:=by simp [sg,hk]
     rw [e];by_cases h:i=b+p.1
     . subst h
       have hn:¬ (b+p.1∈ks):=fun hh=>by have:=hks _ hh;omega
       simp [hn,hk]
     . rw [if_neg h]
       by_cases hi:i∈ks
       . have:i≠p.1:=fun e=>hk (e ▸ hi)
         simp [hi,this]
       . simp only [if_neg hi]
         by_cases hb:b<=i
         . have:i-b≠p.1:=by omega
           simp [hb,this]
         . simp [hb]
theorem E1 (H:Hp) (ks:List Nat) (b:Nat) (L L1:List (Nat × List V)) (h:Jq b L L1 ks) (hL:∀ i,InH (lk L) i->i<b):BI H b (lk L) ks (lk L1)=I2 (E0 H L) ks b L1:=by
 funext i
 rw [Sl _ ks b (fun i hi=>(h.at i hi).1)];simp only [BI,H7];by_cases hi:i∈ks
 . obtain ⟨h1,h2,h3⟩:=h.at i hi
   obtain ⟨cs,hcs⟩:=Option.isSome_iff_exists.1 h2;simp [hi,hcs]
 . simp only [if_neg hi]
   by_cases hl:(lk L i).isSome=true
   . have:=hL i hl
     simp [hl,show ¬ b<=i by omega]
   . simp [hl]
     rfl
theorem AU.mkM0 {H:Hp} {b:Nat} {g:FuncId} {az:List V} {Kc Kx:V->Hp->Prop} (args:List V) (L:List (Nat × List V)) (ks:List Nat) (res:Res) (L1:List (Nat × List V)) (hf:Cm P g args (lk L) ks res (lk L1)) (hin:Fr H L) (hi:BW 1048576 L1) (hks:Jq b L L1 ks) (hL:∀ i,InH (lk L) i->i<b)
   (hb:AJ (Bor noH) az args\/(AJ (Bor (E0 H L)) az args/\GS res (lk L1))) (hk:ES res (sg ks b) (I2 (E0 H L) ks b L1) Kc Kx):AU P none H H b g az Kc Kx:=by
 refine ⟨args,lk L,ks,res,lk L1,_,⟨hf,hin.at,fun i h _=>Fq hi h,fun i h=>(hks.at i h).2.2,hb.imp id fun ⟨h1,h2⟩=>⟨?_,h2⟩⟩,trivial,(E1 H ks b L L1 hks hL).symm,hk⟩;have:EE H (lk L)=E0 H L:=by funext i;rw [H7];rfl
 rw [this];exact h1
def Fa (P:Program) (Γ:Tys) (eqs:Eqs) (m:CM) (b:Nat) (op:Op) (f:Nat->V) (Hr H:Hp) (Kp:V->Eff->Prop) (Kc Kx:V->Hp->Prop):Prop:=
 match A9 Γ eqs Hr b f op with
 | some (v,e)=>Kp v e
 | none=>match op with
   | .call c=>(match c.callee with
     | .value fo=>JW P m Hr H b (evF f fo) (BX f c.args.toList) Kc Kx
     | _=>False)
   | .panic x=>m=none/\(∃ t ag cs,evF f x= .d (.ifc t ag cs))/\Kx (evF f x) H
   | _=>False
theorem QC {b:Nat} {o:Oper} {st:St} {c:Call} {fo:Operand} (ho:o.op= .call c) (hc:c.callee= .value fo) {Kc Kx:V->Hp->Prop} {K:St->Prop} {K':V->St->Prop}
   (h:JW P none st.H st.H b (evF st.fr fo) (BX st.fr c.args.toList) Kc Kx) (hKc:∀ v H,Kc v H->K ⟨Am st.fr o.dst v,H,st.nx⟩) (hKx:∀ v H,Kx v H->K' v ⟨st.fr,H,st.nx⟩):Sp P Γ eqs b o st K K':=by
 have hcall:∀ g pre caps,ALR (evF st.fr fo)=some (g,pre,caps)->AU P none st.H st.H b g (pre++(BX st.fr c.args.toList++caps)) Kc Kx->Sp P Γ eqs b o st K K':=fun g pre caps hg ⟨args,Hin,ks,res,H1,Hout,hcall,_,he,hk⟩=>by
   subst he;cases res with
   | ret r=>exact .inl ⟨_, .call c fo g pre caps args Hin ks r H1 ho hc hg hcall,hKc _ _ hk⟩
   | pan r=>exact .inr ⟨_,_, .call c fo g pre caps args Hin ks r H1 ho hc hg hcall,hKx _ _ hk⟩
 unfold JW at h;split at h
 . rename_i g caps he;exact hcall g [] _ (by rw [he];rfl) h
 . rename_i g caps he;exact hcall g [] _ (by rw [he];rfl) h
 . rename_i k he
   obtain ⟨_,args,Hin,ks,res,H1,Hout,hcall,he',hk⟩:=h;subst he';cases res with
   | ret r=>exact .inl ⟨_, .yield c fo k args Hin ks r H1 ho hc he hcall,hKc _ _ hk⟩
   | pan r=>exact .inr ⟨_,_, .yield c fo k args Hin ks r H1 ho hc he hcall,hKx _ _ hk⟩
 . rename_i g b' c' he
   unfold AN9 at h;split at h
   . rename_i vs hcs hbs
     exact hcall g [.agg (vs.toList.map cV)] [] (by rw [he];simp [ALR,hcs,hbs]) (by simpa using h)
   . exact h.elim
 . exact h.elim
theorem OB {b:Nat} {o:Oper} {st:St} {K:St->Prop} {K':V->St->Prop}
   (h:Fa P Γ eqs none b o.op st.fr st.H st.H (fun v e=>K ⟨Am st.fr o.dst v,st.H.app e,st.nx⟩) (fun v H=>K ⟨Am st.fr o.dst v,H,st.nx⟩) (fun v H=>K' v ⟨st.fr,H,st.nx⟩)):Sp P Γ eqs b o st K K':=by
 unfold Fa at h;split at h
 . rename_i v e he;exact .inl ⟨_, .plain v e he,h⟩
 . split at h
   . rename_i c hop
     split at h
     . rename_i fo hce
       exact QC hop hce h (fun _ _ h=>h) (fun _ _ h=>h)
     . exact h.elim
   . rename_i x hop
     obtain ⟨_,⟨t,ag,cs,hv⟩,hk⟩:=h;rw [hv] at hk;exact .inr ⟨_,_, .panic x t ag cs hop hv,hk⟩
   . exact h.elim
theorem OG {ws:List (Nat × Nat)} {k b:Nat} {o:Oper} {f:Nat->V} {Hr H:Hp} {K:V->Hp->Prop} {Kx:V->Hp->Prop}
   (h:Fa P Γ eqs (some (ws,k)) b o.op f Hr H (fun v e=>match e with | .none=>K v H | .new i cs=>i=b/\K v (upd H b (some cs)) | .put i cs=>(k,i)∈ws/\K v (upd H i (some cs)) | .mov i j cs=>((k,i)∈ws/\j=b)/\K v (upd (upd H i none) b (some cs))) K Kx):(∃ v H',Fd P Γ eqs ws k b o f Hr H v H'/\K v H')\/∃ D H',Ht P o f Hr D/\Kx (.d D) H':=by
 unfold Fa at h;split at h
 . rename_i v e he
   cases e with
   | none=>exact .inl ⟨v,_, .plain v he,h⟩
   | new i cs=>obtain ⟨rfl,h⟩:=h;exact .inl ⟨v,_, .new v cs he,h⟩
   | put i cs=>exact .inl ⟨v,_, .put v i cs he h.1,h.2⟩
   | mov i j cs=>obtain ⟨⟨hw,rfl⟩,h⟩:=h;exact .inl ⟨v,_, .mov v i cs he hw,h⟩
 . split at h
   . rename_i c hop
     split at h
     . rename_i fo hce
       have hcall:∀ g pre caps,ALR (evF f fo)=some (g,pre,caps)->AU P (some (ws,k)) Hr H b g (pre++(BX f c.args.toList++caps)) K Kx->(∃ v H',Fd P Γ eqs ws k b o f Hr H v H'/\K v H')\/∃ D H',Ht P o f Hr D/\Kx (.d D) H':=fun g pre caps hg ⟨args,Hin,ks,res,H1,Hout,hcall,hm,he,hk⟩=>by
         subst he;cases res with
         | ret r=>exact .inl ⟨_,_, .call c fo g pre caps args Hin ks r H1 hop hce hg hcall (hm.1 r rfl),hk⟩
         | pan r=>
           obtain ⟨D,rfl⟩:=hm.2 r rfl;exact .inr ⟨D,_,⟨c,fo,g,pre,caps,args,Hin,ks,H1,hop,hce,hg,hcall⟩,hk⟩
       unfold JW at h;split at h
       . rename_i g caps he;exact hcall g [] _ (by rw [he];rfl) h
       . rename_i g caps he;exact hcall g [] _ (by rw [he];rfl) h
       . exact absurd h.1 (by simp)
       . rename_i g b' c' he
         unfold AN9 at h;split at h
         . rename_i vs hcs hbs
           exact hcall g [.agg (vs.toList.map cV)] [] (by rw [he];simp [ALR,hcs,hbs]) (by simpa using h)
         . exact h.elim
       . exact h.elim
     . exact h.elim
   . exact absurd h.1 (by simp)
   . exact h.elim
def gV2 (f:Nat->V):Option (Option Nat × Bool)->Option Bool
 | none=>some true
 | some (none,_)=>none
 | some (some d,w)=>(gV (f d)).map fun y=>y == some w
theorem Mj {all:List Oper} {f:Nat->V} {g:Option (Nat × Bool)}:gV2 f (kY all g)=BA all f g:=by
 cases g with
 | none=>rfl
 | some p=>
   obtain ⟨j,w⟩:=p;simp only [kY,BA];cases h:(all[j]?).bind (·.dst)<;>rfl
abbrev RK:=(Nat->V)->Hp->Nat->Prop
def PO.run (P:Program) (Γ:Tys) (eqs:Eqs) (o:PO) (b:Nat) (f:Nat->V) (H:Hp) (K:(Nat->V)->Hp->Prop) (Kx:V->(Nat->V)->Hp->Nat->Prop):Prop:=
 match gV2 f o.g with
 | some true=>Fa P Γ eqs none b o.op f H H (fun v e=>K (Am f o.dst v) (H.app e)) (fun v H=>K (Am f o.dst v) H) (fun v H=>Kx v f H (b+1048576))
 | some false=>K (Am f o.dst (.tup [])) H
 | none=>False
def H8 (P:Program) (Γ:Tys) (eqs:Eqs) (Kx:V->RK):Nat->List PO->(Nat->V)->Hp->RK->Prop
 | b,[],f,H,K=>K f H b
 | b,o::r,f,H,K=>o.run P Γ eqs b f H (fun f H=>H8 P Γ eqs Kx (b+1048576) r f H K) Kx
def PO.runD (P:Program) (Γ:Tys) (eqs:Eqs) (ws:List (Nat × Nat)) (k:Nat) (o:PO) (b:Nat) (f:Nat->V) (Hr H:Hp) (Kx:V->Hp->Prop) (K:(Nat->V)->Hp->Prop):Prop:=
 match gV2 f o.g with
 | some true=>Fa P Γ eqs (some (ws,k)) b o.op f Hr H (fun v e=>match e with | .none=>K (Am f o.dst v) H | .new i cs=>i=b/\K (Am f o.dst v) (upd H b (some cs)) | .put i cs=>(k,i)∈ws/\K (Am f o.dst v) (upd H i (some cs)) | .mov i j cs=>((k,i)∈ws/\j=b)/\K (Am f o.dst v) (upd (upd H i none) b (some cs))) (fun v H=>K (Am f o.dst v) H) Kx
 | some false=>K (Am f o.dst (.tup [])) H
 | none=>False
def Rj (P:Program) (Γ:Tys) (eqs:Eqs) (ws:List (Nat × Nat)) (cl:List Nat) (n0 k0:Nat):Nat->Nat->List PO->(Nat->V)->Hp->Prop
 | _,_,[],_,_=>True
 | k,b,o::r,f,H=>(inC cl k k0=true/\Rj P Γ eqs ws cl n0 k0 (k+1) (b+1048576) r f H)\/(inC cl k k0=false/\o.runD P Γ eqs ws k b f (Hcl ws cl k n0 H) H (fun _ _=>False) fun f H=>Rj P Γ eqs ws cl n0 k0 (k+1) (b+1048576) r f H)
def runD (P:Program) (Γ:Tys) (eqs:Eqs) (ws:List (Nat × Nat)) (cl:List Nat) (n0:Nat) (Z:V->Prop):Nat->Nat->List PO->(Nat->V)->Hp->RK->Prop
 | _,b,[],f,H,K=>K f H b
 | k,b,o::r,f,H,K=>o.runD P Γ eqs ws k b f (Hcl ws cl k n0 H) H (fun v _=>Z v/\Rj P Γ eqs ws cl n0 k (k+1) (b+1048576) r f H) fun f H=>runD P Γ eqs ws cl n0 Z (k+1) (b+1048576) r f H K
theorem JX {res:Res} {ρ:Nat->Nat} {Hout:Hp} {Kc Kc' Kx Kx':V->Hp->Prop} (h:ES res ρ Hout Kc Kx) (h1:∀ v H,Kc v H->Kc' v H) (h2:∀ v H,Kx v H->Kx' v H):ES res ρ Hout Kc' Kx':=by
 cases res with
 | ret r=>exact h1 _ _ h
 | pan r=>exact h2 _ _ h
theorem AU.mono {m:CM} {Hr H:Hp} {b:Nat} {g:FuncId} {az:List V} {Kc Kc' Kx Kx':V->Hp->Prop} (h:AU P m Hr H b g az Kc Kx) (h1:∀ v H,Kc v H->Kc' v H) (h2:∀ v H,Kx v H->Kx' v H):AU P m Hr H b g az Kc' Kx':=by
 obtain ⟨args,Hin,ks,res,H1,Hout,q1,q2,q3,q4⟩:=h;exact ⟨args,Hin,ks,res,H1,Hout,q1,q2,q3,JX q4 h1 h2⟩
theorem AOA {m:CM} {Hr H:Hp} {b:Nat} {g:FuncId} {bs cs:List Value} {az:List V} {Kc Kc' Kx Kx':V->Hp->Prop} (h:AN9 P m Hr H b g bs cs az Kc Kx) (h1:∀ v H,Kc v H->Kc' v H) (h2:∀ v H,Kx v H->Kx' v H):AN9 P m Hr H b g bs cs az Kc' Kx':=by
 unfold AN9 at h ⊢;split
 . exact AU.mono h h1 h2
 . split at h
   . rename_i h3
     exact (h3 _ rfl rfl).elim
   . exact h
theorem QD {m:CM} {Hr H:Hp} {b:Nat} {cv:V} {az:List V} {Kc Kc' Kx Kx':V->Hp->Prop} (h:JW P m Hr H b cv az Kc Kx) (h1:∀ v H,Kc v H->Kc' v H) (h2:∀ v H,Kx v H->Kx' v H):JW P m Hr H b cv az Kc' Kx':=by
 unfold JW at h ⊢;split
 . exact AU.mono h h1 h2
 . exact AU.mono h h1 h2
 . obtain ⟨q0,args,Hin,ks,res,H1,Hout,q1,q3,q4⟩:=h
   exact ⟨q0,args,Hin,ks,res,H1,Hout,q1,q3,JX q4 h1 h2⟩
 . exact AOA h h1 h2
 . rename_i q1 q2 q3 q4
   split at h
   . exact (q1 _ _ rfl).elim
   . exact (q2 _ _ rfl).elim
   . exact (q3 _ rfl).elim
   . exact (q4 _ _ _ rfl).elim
   . exact h
theorem E2 {m:CM} {b:Nat} {op:Op} {f:Nat->V} {Hr H:Hp} {Kp Kp':V->Eff->Prop} {Kc Kc' Kx Kx':V->Hp->Prop} (h:Fa P Γ eqs m b op f Hr H Kp Kc Kx) (h0:∀ v e,Kp v e->Kp' v e) (h1:∀ v H,Kc v H->Kc' v H) (h2:∀ v H,Kx v H->Kx' v H):Fa P Γ eqs m b op f Hr H Kp' Kc' Kx':=by
 unfold Fa at h ⊢;split
 . rename_i v e he;rw [he] at h;exact h0 _ _ h
 . rename_i he
   rw [he] at h;simp only at h;cases op with
   | call c=>
     simp only at h ⊢
     generalize c.callee=cc at h ⊢
     cases cc with
     | value fo=>exact QD h h1 h2
     | _=>exact h
   | panic x=>exact ⟨h.1,h.2.1,h2 _ _ h.2.2⟩
   | _=>exact h
theorem Dp {all:List Oper} {K:St->Prop} {K':V->St->Prop}:∀ (ops:List Oper) (k n0:Nat) (f:Nat->V) (H:Hp),H8 P Γ eqs (fun v f H n=>K' v ⟨f,H,n⟩) (n0+1048576*k) (ops.map (IO all)) f H (fun f H n=>K ⟨f,H,n⟩)->KR P Γ eqs all k ops ⟨f,H,n0⟩ K K'
 | [],k,n0,f,H,h=>h
 | o::r,k,n0,f,H,h=>by
   have e:n0+1048576*(k+1)=n0+1048576*k+1048576:=by omega
   simp only [List.map_cons,H8,PO.run,IO] at h;simp only [KR,Q0];split at h
   . rename_i hg
     rw [Mj] at hg;rw [hg];refine ⟨fun _=>OB (E2 h (fun v e' hh=>Dp r (k+1) n0 _ _ (by rw [e];exact hh)) (fun v H' hh=>Dp r (k+1) n0 _ _ (by rw [e];exact hh)) (fun v H' hh=>?_)),nofun⟩
     show K' v ⟨f,H',n0+1048576*(k+1)⟩
     rw [e];exact hh
   . rename_i hg
     rw [Mj] at hg;rw [hg];exact ⟨nofun,fun _=>Dp r (k+1) n0 _ _ (by rw [e];exact h)⟩
   . exact h.elim
theorem Lu {all:List Oper} {ws:List (Nat × Nat)} {k b:Nat} {o:Oper} {f:Nat->V} {Hr H:Hp} {Kx:V->Hp->Prop} {K:(Nat->V)->Hp->Prop} (h:(IO all o).runD P Γ eqs ws k b f Hr H Kx K):
   Q0 (BA all f o.guard) ((∃ v H',Fd P Γ eqs ws k b o f Hr H v H'/\K (Am f o.dst v) H')\/∃ D H',Ht P o f Hr D/\Kx (.d D) H') (K (Am f o.dst (.tup [])) H):=by
 simp only [PO.runD,IO] at h;split at h
 . rename_i hg
   rw [Mj] at hg;simp only [hg,Q0,true_implies,Bool.true_eq_false,false_implies,and_true];refine OG (K:=fun v H=>K (Am f o.dst v) H) (E2 h (fun v e hh=>?_) (fun _ _ h=>h) (fun _ _ h=>h));cases e with
   | none=>exact hh
   | new i cs=>exact hh
   | put i cs=>exact hh
   | mov i j cs=>exact hh
 . rename_i hg
   rw [Mj] at hg;simp only [hg,Q0,true_implies,Bool.false_eq_true,false_implies,true_and];exact h
 . exact h.elim
theorem Q0.imp {g:Option Bool} {r s r' s':Prop} (h:Q0 g r s) (h1:r->r') (h2:s->s'):Q0 g r' s':=by
 unfold Q0 at h ⊢;split at h
 . exact ⟨fun e=>h1 (h.1 e),fun e=>h2 (h.2 e)⟩
 . exact h.elim
theorem DD {all:List Oper} {ws:List (Nat × Nat)} {cl:List Nat} {k0:Nat}:∀ (ops:List Oper) (k n0:Nat) (f:Nat->V) (H:Hp),Rj P Γ eqs ws cl n0 k0 k (n0+1048576*k) (ops.map (IO all)) f H->MQ P Γ eqs all ws cl n0 k0 k ops f H
 | [],_,_,_,_,_=>trivial
 | o::r,k,n0,f,H,h=>by
   have e:n0+1048576*(k+1)=n0+1048576*k+1048576:=by omega
   rcases h with ⟨h1,h2⟩ | ⟨h1,h2⟩
   . exact .inl ⟨h1,DD r (k+1) n0 f H (by rw [e];exact h2)⟩
   . refine .inr ⟨h1,(Lu h2).imp (fun h=>?_) fun h=>DD r (k+1) n0 _ _ (by rw [e];exact h)⟩
     rcases h with ⟨v,H',hs,hk⟩ | ⟨_,_,_,h⟩
     . exact ⟨v,H',hs,DD r (k+1) n0 _ _ (by rw [e];exact hk)⟩
     . exact h.elim
theorem KM {all:List Oper} {ws:List (Nat × Nat)} {cl:List Nat} {Z:V->Prop} {K:(Nat->V)->Hp->Prop}:∀ (ops:List Oper) (k n0:Nat) (f:Nat->V) (H:Hp),runD P Γ eqs ws cl n0 Z k (n0+1048576*k) (ops.map (IO all)) f H (fun f H n=>n=n0+1048576*(k+ops.length)->K f H)->GE P Γ eqs all ws cl n0 Z k ops f H K
 | [],k,n0,f,H,h=>h rfl
 | o::r,k,n0,f,H,h=>by
   have hlen:k+(o::r).length=k+1+r.length:=by simp;omega
   have e:n0+1048576*(k+1)=n0+1048576*k+1048576:=by omega
   have next:∀ f H,runD P Γ eqs ws cl n0 Z (k+1) (n0+1048576*k+1048576) (r.map (IO all)) f H (fun f H n=>n=n0+1048576*(k+(o::r).length)->K f H)->GE P Γ eqs all ws cl n0 Z (k+1) r f H K:=fun f H h=>
     KM r (k+1) n0 f H (by rw [e,<-hlen];exact h)
   refine (Lu h).imp (fun h=>?_) fun h=>next _ _ h
   rcases h with ⟨v,H',hs,hk⟩ | ⟨D,H',hs,hz,hd⟩
   . exact .inl ⟨v,H',hs,next _ _ hk⟩
   . exact .inr ⟨D,hs,hz,DD r (k+1) n0 f H (by rw [e];exact hd)⟩
theorem XC {o:PO} {ws:List (Nat × Nat)} {k b:Nat} {f:Nat->V} {Hr H:Hp} {Kx Kx':V->Hp->Prop} {K K':(Nat->V)->Hp->Prop} (h:o.runD P Γ eqs ws k b f Hr H Kx K) (hx:∀ v H,Kx v H->Kx' v H) (hk:∀ f H,K f H->K' f H):o.runD P Γ eqs ws k b f Hr H Kx' K':=by
 simp only [PO.runD] at h ⊢;split
 . rename_i hg
   rw [hg] at h;refine E2 h (fun v e hh=>?_) (fun v H' hh=>hk _ _ hh) hx;cases e with
   | none=>exact hk _ _ hh
   | new i cs=>exact ⟨hh.1,hk _ _ hh.2⟩
   | put i cs=>exact ⟨hh.1,hk _ _ hh.2⟩
   | mov i j cs=>exact ⟨hh.1,hk _ _ hh.2⟩
 . rename_i hg;rw [hg] at h;exact hk _ _ h
 . rename_i hg;rw [hg] at h;exact h
theorem GN {ws:List (Nat × Nat)} {cl:List Nat} {n0:Nat} {Z Z':V->Prop} (hz:∀ v,Z v->Z' v):∀ {l:List PO} {k b:Nat} {f:Nat->V} {H:Hp} {K K':RK},runD P Γ eqs ws cl n0 Z k b l f H K->(∀ f H n,K f H n->K' f H n)->runD P Γ eqs ws cl n0 Z' k b l f H K'
 | [],_,_,_,_,_,_,h,hk=>hk _ _ _ h
 | _::_,_,_,_,_,_,_,h,hk=>XC h (fun v _ h=>⟨hz v h.1,h.2⟩) fun _ _ h=>GN hz h hk
def KN (v:V) (a b:Prop):Prop:=match v with | .d (.lit (.bool t))=>(t=true->a)/\(t=false->b) | .d .ub=>a/\b | _=>False
def clQ (P:Program) (E:Ent) (Q:Av->St->Prop) (e:Av) (st:St):Prop:=Q e st\/(∃ st1,AI P E st st1/\Q e st1/\∀ v,e≠ .pan v)
def OH (P:Program) (E:Ent) (body:(Av->St->Prop)->St->Prop) (Q:Av->St->Prop) (st:St):Prop:=
 ∃ (α:Type) (S:α->St) (inv:α->Prop) (μ:α->Nat) (x0:α),inv x0/\AI P E st (S x0)/\∀ x,inv x->body (DP (fun st'=>∃ y,inv y/\μ y<μ x/\AI P E st' (S y)) (clQ P E Q)) (S x)
theorem OH.mk {body:(Av->St->Prop)->St->Prop} {Q:Av->St->Prop} {st:St} {α:Type} (S:α->St) (inv:α->Prop) (μ:α->Nat) (x0:α) (h0:inv x0) (hw:AI P E st (S x0))
   (round:∀ x,inv x->body (DP (fun st'=>∃ y,inv y/\μ y<μ x/\AI P E st' (S y)) (clQ P E Q)) (S x)):OH P E body Q st:=⟨α,S,inv,μ,x0,h0,hw,round⟩
def Sm (Q:Av->St->Prop) (st:St):LSt->Prop
 | .ready=>Q .normal st
 | .done .ret=>Q .ret st
 | .done (.exit i)=>Q (.exit i) st
 | _=>False
def Ent.rqN (E:Ent) (H:Hp):Prop:=E.rq\/∃ k0 fr nt ps pa pb j,E.rd=some (E.β0 k0)/\E.stab k0/\H k0=some [.lr fr nt ps pa pb j]
def E3 (P:Program) (E:Ent) (fo:Operand) (ps:List Nat) (pa pb:PC) (Q:Av->St->Prop) (st:St):Prop:=
 (E.rqN st.H/\E.nt≠AL4)/\∃ g caps args Hin ks res H1,P0 (evF st.fr fo)=some (g,caps)/\HF P (upd st.H st.nx (some [.lr st.fr E.nt ps pa pb .ready])) g (.yl st.nx::caps) args Hin ks res H1/\st.nx∈ks/\
   match res with
   | .ret _=>∃ jmp,H1 st.nx=some [.lr st.fr E.nt ps pa pb jmp]/\Sm Q ⟨st.fr,upd (BI (upd st.H st.nx (some [.lr st.fr E.nt ps pa pb .ready])) (st.nx+1048576) Hin ks H1) st.nx none,st.nx+2097152⟩ jmp
   | .pan r=>Q (.pan (ren (sg ks (st.nx+1048576)) r)) ⟨st.fr,upd (BI (upd st.H st.nx (some [.lr st.fr E.nt ps pa pb .ready])) (st.nx+1048576) Hin ks H1) st.nx none,st.nx+2097152⟩
def PW (P:Program) (Γ:Tys) (eqs:Eqs) (E:Ent):PC->(Av->St->Prop)->St->Prop
 | .reg ops,Q,st=>H8 P Γ eqs (fun v f H n=>Q (.pan v) ⟨f,H,n⟩) st.nx ops st.fr st.H fun f H n=>Q .normal ⟨f,H,n⟩
 | .draw cl az bs,Q,st=>runD P Γ eqs [] cl st.nx (fun v=>∀ st,Q (.pan v) st) 0 st.nx az st.fr st.H fun f H n=>H8 P Γ eqs (fun v f H n=>Q (.pan v) ⟨f,H,n⟩) n bs f H fun f H n=>Q .normal ⟨f,H,n⟩
 | .drawW cl az bs,Q,st=>∃ ws,Pg ws cl st.nx=true/\runD P Γ eqs ws cl st.nx (fun v=>∀ st,Q (.pan v) st) 0 st.nx az st.fr st.H fun f H n=>H8 P Γ eqs (fun v f H n=>Q (.pan v) ⟨f,H,n⟩) n bs f H fun f H n=>Q .normal ⟨f,H,n⟩
 | .seq a b,Q,st=>PW P Γ eqs E a (DP (fun st=>PW P Γ eqs E b Q st) Q) st
 | .cond c a b,Q,st=>KN (evF st.fr c) (PW P Γ eqs E a Q st) (PW P Γ eqs E b Q st)
 | .block id a,Q,st=>PW P Γ eqs E a (Ft id Q) st
 | .loop a,Q,st=>OH P E (fun Q st=>PW P Γ eqs E a Q st) Q st
 | .exit id,Q,st=>Q (.exit id) st
 | .ret,Q,st=>Q .ret st
 | .skip,Q,st=>Q .normal st
 | .rangeF f ps a b,Q,st=>E3 P E f ps a b Q st
theorem C4 {Kx Kx':V->RK} (hx:∀ v f H n,Kx v f H n->Kx' v f H n):∀ {l:List PO} {b:Nat} {f:Nat->V} {H:Hp} {K K':RK},H8 P Γ eqs Kx b l f H K->(∀ f H n,K f H n->K' f H n)->H8 P Γ eqs Kx' b l f H K'
 | [],_,_,_,_,_,h,hk=>hk _ _ _ h
 | o::r,_,_,_,_,_,h,hk=>by
   simp only [H8,PO.run] at h ⊢;split
   . rename_i hg
     rw [hg] at h;exact E2 h (fun _ _ h=>C4 hx h hk) (fun _ _ h=>C4 hx h hk) (fun _ _ h=>hx _ _ _ _ h)
   . rename_i hg;rw [hg] at h;exact C4 hx h hk
   . rename_i hg;rw [hg] at h;exact h
theorem GO {K K':St->Prop} {Q Q':Av->St->Prop} (hk:∀ st,K st->K' st) (hq:∀ e st,Q e st->Q' e st) (e:Av) (st:St) (h:DP K Q e st):DP K' Q' e st:=by
 cases e<;>first | exact hk _ h | exact hq _ _ h
theorem UH {id:Nat} {Q Q':Av->St->Prop} (hq:∀ e st,Q e st->Q' e st) (e:Av) (st:St) (h:Ft id Q e st):Ft id Q' e st:=by
 cases e with
 | exit j=>
   simp only [Ft] at h ⊢;split
   . rename_i hj;rw [if_pos hj] at h;exact hq _ _ h
   . rename_i hj;rw [if_neg hj] at h;exact hq _ _ h
 | _=>exact hq _ _ h
theorem XD {Q Q':Av->St->Prop} (hq:∀ e st,Q e st->Q' e st) (e:Av) (st:St) (h:clQ P E Q e st):clQ P E Q' e st:=by
 rcases h with h | ⟨st1,h1,h2,h3⟩
 . exact .inl (hq _ _ h)
 . exact .inr ⟨st1,h1,hq _ _ h2,h3⟩
theorem PW.mono:∀ {p:PC} {Q Q':Av->St->Prop} {st:St},PW P Γ eqs E p Q st->(∀ e st,Q e st->Q' e st)->PW P Γ eqs E p Q' st
 | .reg _,_,_,_,h,hq=>C4 (fun _ _ _ _ h=>hq _ _ h) h fun _ _ _ h=>hq _ _ h
 | .draw _ _ _,_,_,_,h,hq=>GN (fun _ h st=>hq _ _ (h st)) h fun _ _ _ h=>C4 (fun _ _ _ _ h=>hq _ _ h) h fun _ _ _ h=>hq _ _ h
 | .drawW _ _ _,_,_,_,⟨ws,h1,h⟩,hq=>⟨ws,h1,GN (fun _ h st=>hq _ _ (h st)) h fun _ _ _ h=>C4 (fun _ _ _ _ h=>hq _ _ h) h fun _ _ _ h=>hq _ _ h⟩
 | .seq a b,Q,Q',_,h,hq=>PW.mono (p:=a) h fun e st h=>GO (fun _ h=>PW.mono (p:=b) h hq) hq e st h
 | .cond c a b,Q,Q',st,h,hq=>by
   simp only [PW,KN] at h ⊢;split
   . rename_i t ht
     rw [ht] at h;exact ⟨fun e=>PW.mono (p:=a) (h.1 e) hq,fun e=>PW.mono (p:=b) (h.2 e) hq⟩
   . rename_i ht
     rw [ht] at h;exact ⟨PW.mono (p:=a) h.1 hq,PW.mono (p:=b) h.2 hq⟩
   . rename_i hne hnu
     split at h
     . rename_i t ht;exact absurd ht (hne t)
     . rename_i ht;exact absurd ht hnu
     . exact h
 | .block _ a,_,_,_,h,hq=>PW.mono (p:=a) h (UH hq)
 | .loop a,Q,Q',st,⟨α,S,inv,μ,x0,h0,hw,hr⟩,hq=>⟨α,S,inv,μ,x0,h0,hw,fun x hx=>PW.mono (p:=a) (hr x hx) fun e st h=>GO (fun _ h=>h) (XD hq) e st h⟩
 | .exit _,_,_,_,h,hq=>hq _ _ h
 | .ret,_,_,_,h,hq=>hq _ _ h
 | .skip,_,_,_,h,hq=>hq _ _ h
 | .rangeF _ _ _ _,Q,Q',st,⟨h0,g,caps,args,Hin,ks,res,H1,h1,h2,h3,h4⟩,hq=>⟨h0,g,caps,args,Hin,ks,res,H1,h1,h2,h3,by
   cases res with
   | ret r=>
     obtain ⟨jmp,h5,h6⟩:=h4;refine ⟨jmp,h5,?_⟩;cases jmp with
     | ready=>exact hq _ _ h6
     | busy=>exact h6
     | done c=>cases c<;>first | exact hq _ _ h6 | exact h6
     | mapr es=>exact h6
   | pan r=>exact hq _ _ h4⟩
theorem Inv.enter (hnm:E.nm=false) {fn:FuncId} (hpf:E.nt=AL4->fn=AQj) {U':Nat->Prop} {U:Nat->Prop} {G:Gh} {st:St} {a:Act} {W:World} (hI:Inv E U G st a W) {k:Nat} (hk:¬ U k) (hU:∀ i,U i->U' i) (hk':U' k) {ps:Array Tmp} {assign body:Code} {pa pb:PC} (ha:comp E.nt assign=some pa) (hb:comp E.nt body=some pb):
   ∃ G',Inv E U' G' ⟨st.fr,upd st.H k (some [.lr st.fr E.nt ps.toList pa pb .ready]),st.nx⟩ {a with defers:={target:= .collected W.heap.size,args:= #[]}::a.defers} ((W.alloc (.deferred (some []))).alloc (.loop {state:= .ready,pending:=none,fn,tmps:=a.tmps,params:=ps,assign,body,defers:=W.heap.size}))/\G'.β k=W.heap.size+1/\G'.bs k=0:=by
 let rc:Loop:={state:= .ready,pending:=none,fn,tmps:=a.tmps,params:=ps,assign,body,defers:=W.heap.size}
 let G':Gh:={β:=upd G.β k (W.heap.size+1),bs:=upd G.bs k 0,ph:=upd G.ph k false,lo:=upd G.lo k true,Im:=G.Im}
 let W':World:=(W.alloc (.deferred (some []))).alloc (.loop rc)
 have hne:∀ i,U i->i≠k:=fun i hi e=>hk (e ▸ hi)
 have hsz:W'.heap.size=W.heap.size+2:=by
   show ((W.heap.push _).push _).size=_
   simp
 have hold:∀ j,j<W.heap.size->W'.heap[j]?= W.heap[j]?:= fun j hj=>by
   show ((W.heap.push _).push _)[j]?= _
   rw [Array.getElem?_push,if_neg (by simp;omega),Array.getElem?_push,if_neg (by omega)]
 have hD:W'.heap[W.heap.size]?= some (.deferred (some [])):=by
   show ((W.heap.push _).push _)[_]?= _
   rw [Array.getElem?_push,if_neg (by simp)];simp
 have hL:W'.heap[W.heap.size+1]?= some (.loop rc):=by
   show ((W.heap.push _).push _)[_]?= _
   rw [Array.getElem?_push,if_pos (by simp)]
 have hchg:Chg U G W G' W':=⟨fun i hi=>by simp [G',upd,hne i hi],fun j hj=>⟨hj,hold j (hI.im j hj).1⟩⟩
 have hlt:∀ i cs',st.H i=some cs'->G.ph i=false->G.β i<W.heap.size:=fun i cs' hs hp=>(hI.hp i cs' hs).lt hp
 have hsome:∀ i,(upd st.H k (some [.lr st.fr E.nt ps.toList pa pb .ready]) i).isSome=true->i=k\/(i≠k/\(st.H i).isSome=true):=fun i hi=>by
   by_cases e:i=k
   . exact .inl e
   . simp only [AY,if_neg e] at hi;exact .inr ⟨e,hi⟩
 refine ⟨G',?_,by simp [G',upd]⟩;refine {fr:=fun t=>hchg.rv (hI.wf t) (hI.fr t),wf:=fun t=>AV.mono hU (fun _ h=>h) (hI.wf t),hp:=?_,wh:=?_,dom:=?_,inj:=?_,own:=?_,im:=?_,im0:=hI.im0,keep:=?_,stab:=?_,sU:=fun i hs=>hU _ (hI.sU i hs),nt:=hI.nt,df:=?_,gl:=hI.gl.mono hchg.im}
 . intro id cs' h
   simp only [AY] at h;split at h
   . rename_i e;subst e;cases h
     refine .inr (.inr ⟨by simp [G',upd],by simp [G',upd],?_, .inl ⟨by simp [G',upd],st.fr,E.nt,ps.toList,pa,pb, .ready,rc,rfl,by simp only [G',upd,if_true];exact hL,rfl,ha,hb,hI.nt,fun t=>hchg.rv (hI.wf t) (hI.fr t),⟨rfl,rfl⟩,hpf⟩⟩);simp only [G',upd,if_true];intro hx;have:=(hI.im _ hx).1;omega
   . have hu:=hI.dom id (by rw [h];rfl)
     exact hchg.hb hu (hI.wh id cs' h) (hI.hp id cs' h) (fun hp=>hold _ (hlt id cs' h hp)) (fun hx _=>hx)
 . intro id cs' h x hx
   simp only [AY] at h;split at h
   . cases h
     simp only [List.mem_singleton] at hx;subst hx;exact fun t=>AV.mono hU (fun _ h=>h) (hI.wf t)
   . exact AC.mono hU (fun _ h=>h) (hI.wh id cs' h x hx)
 . intro id h
   rcases hsome id h with rfl | ⟨_,h⟩
   . exact hk'
   . exact hU _ (hI.dom id h)
 . intro i j hi hj hpi hpj he
   rcases hsome i hi with ei | ⟨ei,hi'⟩<;>rcases hsome j hj with ej | ⟨ej,hj'⟩
   . rw [ei,ej]
   . simp only [G',upd,if_pos ei,if_neg ej] at he hpj
     obtain ⟨cs',hs⟩:=Option.isSome_iff_exists.1 hj';have:=hlt j cs' hs hpj;omega
   . simp only [G',upd,if_pos ej,if_neg ei] at he hpi
     obtain ⟨cs',hs⟩:=Option.isSome_iff_exists.1 hi';have:=hlt i cs' hs hpi;omega
   . simp only [G',upd,if_neg ei,if_neg ej] at he hpi hpj
     exact hI.inj i j hi' hj' hpi hpj he
 . intro i hi hp
   rcases hsome i hi with rfl | ⟨ei,hi⟩
   . simp only [G',upd,if_true]
     have:=hI.keep.size;exact .inl (by omega)
   . simp only [G',upd,if_neg ei] at hp ⊢
     exact hI.own i hi hp
 . intro j hj
   have:=hI.im j hj;exact ⟨by rw [hsz];omega,this.2⟩
 . exact ⟨hI.keep.os,hI.keep.tape,hI.keep.output,hI.keep.drawn,by rw [hsz];have:=hI.keep.size;omega,fun j hj hm=>(hold j (by have:=hI.keep.size;omega)).trans (hI.keep.block j hj hm)⟩
 . intro i hs hi
   rcases hsome i hi with rfl | ⟨ei,hi⟩
   . exact absurd (hI.sU _ hs) hk
   . simp only [G',upd,if_neg ei]
     exact hI.stab i hs hi
 . obtain ⟨ds,h1,h2⟩:=hI.df
   refine ⟨W.heap.size::ds,by simp only [h1,Qr,List.map_cons,List.cons_append],List.nodup_cons.2 ⟨fun h=>?_,h2.nodup⟩,fun D hDm=>?_,fun h=>by rw [hnm] at h;cases h⟩
   . have:=(Array.getElem?_eq_some_iff.1 (h2.at' _ h).1).1
     omega
   . rcases List.mem_cons.1 hDm with rfl | hDm
     . exact ⟨hD,hI.keep.size,fun hx=>by have:=(hI.im _ hx).1;omega⟩
     . obtain ⟨q1,q2,q3⟩:=h2.at' D hDm
       exact ⟨(hold D (Array.getElem?_eq_some_iff.1 q1).1).trans q1,q2,q3⟩
theorem Inv.enterN (rd:Nat) {fn:FuncId} (hpf:E.nt=AL4->fn=AQj) {U':Nat->Prop} {U:Nat->Prop} {G:Gh} {st:St} {a:Act} {W:World} (hI:Inv E U G st a W) {k:Nat} (hk:¬ U k) (hU:∀ i,U i->U' i) (hk':U' k) {ps:Array Tmp} {assign body:Code} {pa pb:PC} (ha:comp E.nt assign=some pa) (hb:comp E.nt body=some pb):
   ∃ G',Inv E U' G' ⟨st.fr,upd st.H k (some [.lr st.fr E.nt ps.toList pa pb .ready]),st.nx⟩ a (W.alloc (.loop {state:= .ready,pending:=none,fn,tmps:=a.tmps,params:=ps,assign,body,defers:=rd}))/\G'.β k=W.heap.size/\G'.bs k=0:=by
 let rc:Loop:={state:= .ready,pending:=none,fn,tmps:=a.tmps,params:=ps,assign,body,defers:=rd}
 let G':Gh:={β:=upd G.β k W.heap.size,bs:=upd G.bs k 0,ph:=upd G.ph k false,lo:=upd G.lo k true,Im:=G.Im}
 let W':World:=W.alloc (.loop rc)
 have hne:∀ i,U i->i≠k:=fun i hi e=>hk (e ▸ hi)
 have hsz:W'.heap.size=W.heap.size+1:=by
   show (W.heap.push _).size=_
   simp
 have hold:∀ j,j<W.heap.size->W'.heap[j]?= W.heap[j]?:= fun j hj=>by
   show (W.heap.push _)[j]?= _
   rw [Array.getElem?_push,if_neg (by omega)]
 have hL:W'.heap[W.heap.size]?= some (.loop rc):=by
   show (W.heap.push _)[_]?= _
   simp
 have hchg:Chg U G W G' W':=⟨fun i hi=>by simp [G',upd,hne i hi],fun j hj=>⟨hj,hold j (hI.im j hj).1⟩⟩
 have hlt:∀ i cs',st.H i=some cs'->G.ph i=false->G.β i<W.heap.size:=fun i cs' hs hp=>(hI.hp i cs' hs).lt hp
 have hsome:∀ i,(upd st.H k (some [.lr st.fr E.nt ps.toList pa pb .ready]) i).isSome=true->i=k\/(i≠k/\(st.H i).isSome=true):=fun i hi=>by
   by_cases e:i=k
   . exact .inl e
   . simp only [AY,if_neg e] at hi;exact .inr ⟨e,hi⟩
 refine ⟨G',?_,by simp [G',upd]⟩;refine {fr:=fun t=>hchg.rv (hI.wf t) (hI.fr t),wf:=fun t=>AV.mono hU (fun _ h=>h) (hI.wf t),hp:=?_,wh:=?_,dom:=?_,inj:=?_,own:=?_,im:=?_,im0:=hI.im0,keep:=?_,stab:=?_,sU:=fun i hs=>hU _ (hI.sU i hs),nt:=hI.nt,df:=?_,gl:=hI.gl.mono hchg.im}
 . intro id cs' h
   simp only [AY] at h;split at h
   . rename_i e;subst e;cases h
     refine .inr (.inr ⟨by simp [G',upd],by simp [G',upd],?_, .inl ⟨by simp [G',upd],st.fr,E.nt,ps.toList,pa,pb, .ready,rc,rfl,by simp only [G',upd,if_true];exact hL,rfl,ha,hb,hI.nt,fun t=>hchg.rv (hI.wf t) (hI.fr t),⟨rfl,rfl⟩,hpf⟩⟩);simp only [G',upd,if_true];intro hx;have:=(hI.im _ hx).1;omega
   . have hu:=hI.dom id (by rw [h];rfl)
     exact hchg.hb hu (hI.wh id cs' h) (hI.hp id cs' h) (fun hp=>hold _ (hlt id cs' h hp)) (fun hx _=>hx)
 . intro id cs' h x hx
   simp only [AY] at h;split at h
   . cases h
     simp only [List.mem_singleton] at hx;subst hx;exact fun t=>AV.mono hU (fun _ h=>h) (hI.wf t)
   . exact AC.mono hU (fun _ h=>h) (hI.wh id cs' h x hx)
 . intro id h
   rcases hsome id h with rfl | ⟨_,h⟩
   . exact hk'
   . exact hU _ (hI.dom id h)
 . intro i j hi hj hpi hpj he
   rcases hsome i hi with ei | ⟨ei,hi'⟩<;>rcases hsome j hj with ej | ⟨ej,hj'⟩
   . rw [ei,ej]
   . simp only [G',upd,if_pos ei,if_neg ej] at he hpj
     obtain ⟨cs',hs⟩:=Option.isSome_iff_exists.1 hj';have:=hlt j cs' hs hpj;omega
   . simp only [G',upd,if_pos ej,if_neg ei] at he hpi
     obtain ⟨cs',hs⟩:=Option.isSome_iff_exists.1 hi';have:=hlt i cs' hs hpi;omega
   . simp only [G',upd,if_neg ei,if_neg ej] at he hpi hpj
     exact hI.inj i j hi' hj' hpi hpj he
 . intro i hi hp
   rcases hsome i hi with rfl | ⟨ei,hi⟩
   . simp only [G',upd,if_true]
     have:=hI.keep.size;exact .inl (by omega)
   . simp only [G',upd,if_neg ei] at hp ⊢
     exact hI.own i hi hp
 . intro j hj
   have:=hI.im j hj;exact ⟨by rw [hsz];omega,this.2⟩
 . exact ⟨hI.keep.os,hI.keep.tape,hI.keep.output,hI.keep.drawn,by rw [hsz];have:=hI.keep.size;omega,fun j hj hm=>(hold j (by have:=hI.keep.size;omega)).trans (hI.keep.block j hj hm)⟩
 . intro i hs hi
   rcases hsome i hi with rfl | ⟨ei,hi⟩
   . exact absurd (hI.sU _ hs) hk
   . simp only [G',upd,if_neg ei]
     exact hI.stab i hs hi
 . obtain ⟨ds,h1,h2⟩:=hI.df
   exact ⟨ds,h1,h2.same (fun D hD hd=>hold D (Array.getElem?_eq_some_iff.1 hd).1) (fun _ _ _ h=>h)⟩
theorem Inv.leave {U:Nat->Prop} {G:Gh} {st:St} {a:Act} {W:World} (hI:Inv E U G st a W) {k:Nat} {fr:Nat->V} {nt:Nat} {ps:List Nat} {pa pb:PC} {jmp:LSt} (hk:st.H k=some [.lr fr nt ps pa pb jmp]) (hj:jmp≠ .busy):
   ∃ j W',(Instr.endLoop (G.β k)).run P W= .ok j W'/\(match jmp with | .ready=>j=none | .busy=>False | .done c=>j=some c | .mapr _=>False)/\Inv E U G ⟨st.fr,upd st.H k none,st.nx⟩ a W'/\(∀ b,G.Im b->W'.heap[b]?= W.heap[b]?):=by
 obtain ⟨hph,hlo,hnim,rec,hrec,hl⟩:G.ph k=false/\G.lo k=true/\¬ G.Im (G.β k)/\∃ rec,W.heap[G.β k]?= some (.loop rec)/\iY G W fr nt ps pa pb jmp rec:=by
   rcases hI.hp k _ hk with ⟨_,h⟩ | ⟨_,_,_,c,T,_,_,_,h,h2⟩ | ⟨h0,h1,h2,⟨_,fr',nt',ps',pa',pb',jmp',rec,h3,h4,h5⟩ | ⟨_,es,ms,ck,h3,_⟩ | ⟨_,bx,bp,bv,h3,_⟩⟩
   . cases h
   . simp [V.isCell] at h2
   . cases h3;exact ⟨h0,h1,h2,rec,h4,h5⟩
   . simp [Qo] at h3
   . simp at h3
 obtain ⟨_,_,_,_,_,hst,_⟩:=hl;have hlive:(st.H k).isSome=true:=by rw [hk];rfl
 have hnb:rec.state≠ .busy:=by
   cases jmp with
   | ready=>rw [hst.1];nofun
   | busy=>exact absurd rfl hj
   | done c=>rw [hst.1];nofun
   | mapr es=>exact hst.elim
 refine ⟨rec.pending,_,run_endLoop hrec hnb,?_,?_,fun b hb=>World.putObj_heap_other (fun e=>hnim (by rw [<-e];exact hb))⟩
 . cases jmp with
   | ready=>exact hst.2
   | busy=>exact absurd rfl hj
   | done c=>exact hst.2
   | mapr es=>exact hst.elim
 . obtain ⟨ds,h1,h2⟩:=hI.df
   refine (hI.drop k).side (l:=G.β k) (fun j hj=>World.putObj_heap_other hj) (by simp) rfl rfl rfl hnim (fun i hi hp e=>?_) (hI.own k hlive hph) rfl ⟨ds,h1,h2.same (fun D hD hd=>World.putObj_heap_other (fun e=>by rw [e,hrec] at hd;cases hd)) (fun _ _ _ h=>h)⟩
   have hi':i≠k/\(st.H i).isSome=true:=by
     simp only [InH,AY] at hi;split at hi
     . cases hi
     . rename_i hne;exact ⟨hne,hi⟩
   exact hi'.1 (hI.inj i k hi'.2 hlive hp hph e)
theorem AW.rangeN {fo:Operand} {ps:Array Tmp} {assign body:Code} {pa pb:PC} (ha:comp E.nt assign=some pa) (hb:comp E.nt body=some pb) {Q:Av->St->Prop} {st:St} (hnp:E.nt≠AL4) {g:FuncId} {caps args:List V} {Hin:Hp} {ks:List Nat} {res:Res} {H1:Hp}
   (hend:match res with
   | .ret _=>∃ jmp,H1 st.nx=some [.lr st.fr E.nt ps.toList pa pb jmp]/\Sm Q ⟨st.fr,upd (BI (upd st.H st.nx (some [.lr st.fr E.nt ps.toList pa pb .ready])) (st.nx+1048576) Hin ks H1) st.nx none,st.nx+2097152⟩ jmp
   | .pan r=>Q (.pan (ren (sg ks (st.nx+1048576)) r)) ⟨st.fr,upd (BI (upd st.H st.nx (some [.lr st.fr E.nt ps.toList pa pb .ready])) (st.nx+1048576) Hin ks H1) st.nx none,st.nx+2097152⟩)
   (hg:P0 (evF st.fr fo)=some (g,caps)) (hfn:Cm P g args Hin ks res H1) (hcb:IB (upd st.H st.nx (some [.lr st.fr E.nt ps.toList pa pb .ready])) (.yl st.nx::caps) args Hin ks res H1) (hks:st.nx∈ks)
   {k0:Nat} {fr0:Nat->V} {nt0:Nat} {ps0:List Nat} {pa0 pb0:PC} {j0:LSt} (hrd:E.rd=some (E.β0 k0)) (hst0:E.stab k0) (hk0:st.H k0=some [.lr fr0 nt0 ps0 pa0 pb0 j0]):AW P E (.rangeFunc fo ps assign body) Q st:=by
 intro G a W hI;refine wpIn_rangeFunc fun fn _=>?_
 obtain ⟨rec0,hrec0⟩:∃ rec0,W.heap[E.β0 k0]?= some (.loop rec0):=by
   have hβ0:=(hI.stab k0 hst0 (by rw [hk0];rfl)).1;have hph0:=(hI.stab k0 hst0 (by rw [hk0];rfl)).2.2.1;rcases hI.hp k0 _ hk0 with ⟨h,_⟩ | ⟨_,_,_,c,T,_,_,_,h,h2⟩ | ⟨h0,h1,h2,⟨_,fr',nt',ps',pa',pb',jmp',rec,h3,h4,h5⟩ | ⟨_,es,ms,ck,h3,_⟩ | ⟨_,bx,bp,bv,h3,_⟩⟩
   . rw [hph0] at h;cases h
   . simp [V.isCell] at h2
   . exact ⟨rec,by rw [<-hβ0];exact h4⟩
   . simp [Qo] at h3
   . simp at h3
 obtain ⟨G1,hI1,hβ,hbs⟩:=hI.enterN rec0.defers (fun e=>absurd e hnp) (U':=(· < st.nx+1048576)) (k:=st.nx) (ps:=ps) (by omega) (fun i hi=>by omega) (by omega) ha hb
 generalize hW1:(W.alloc (.loop {state:= .ready,pending:=none,fn,tmps:=a.tmps,params:=ps,assign,body,defers:=rec0.defers}))=W1 at hI1
 have key:∃ cv:Array Value,a.eval fo= .func (.func g) #[] cv/\AJ (RV G1 W1) caps cv.toList:=by
   have hx:=(hI1.op fo).1;unfold P0 at hg;split at hg
   . rename_i g' caps' hv
     cases hg;simp only at hx;rw [hv] at hx;have hx':RD G1.Im W1 (.fn g caps') (a.eval fo):=hx
     generalize a.eval fo=u at hx'
     cases hx' with
     | fn _ _ cv hl hrr=>
       refine ⟨cv,rfl,AJ.map_left.2 (AJ.of_get (by simpa using hl.symm) fun i x y hx hy=>?_)⟩;exact hrr i x y hx (by rwa [Array.getElem?_toList] at hy)
   . rename_i g' caps' hv
     cases hg;simp only at hx;rw [hv] at hx;obtain ⟨cv,hxa,hcr⟩:=hx;exact ⟨cv,hxa,hcr.mono fun _ _ _ h=>R2.rv (R1.r2 (R0.r1 h))⟩
   . cases hg
 obtain ⟨cv,hfe,hcr⟩:=key;obtain ⟨f',hfn',hbody,hname⟩:=hfn.1;have h1:f'.name≠ "runtime.NumGoroutine" :=by simpa using hname
 have h2:f'.body.isNone=false:=by cases h:f'.body<;>simp_all
 have hrel:AJ (RV G1 W1) (.yl st.nx::caps) ((#[.func (.yield (W.heap.size)) #[] #[]]++cv:Array Value)).toList:=by
   have:RV G1 W1 (.yl st.nx) (.func (.yield (W.heap.size)) #[] #[]):=by
     exact .inl ⟨hbs,by rw [hβ]⟩
   simpa using (show AJ (RV G1 W1) (.yl st.nx::caps) (Value.func (.yield (W.heap.size)) #[] #[]::cv.toList) from ⟨this,hcr⟩)
 obtain ⟨Im,hIm,hall,hpre,hph,hcs⟩:=GR hI1 hrel hcb;obtain ⟨hin,hlt,hkk,_⟩:=hcb;refine ⟨W.heap.size,[],W1,{target:= .fn (.func g) cv,args:= #[.func (.yield (W.heap.size)) #[] #[]]},W1,g,#[.func (.yield (W.heap.size)) #[] #[]]++cv,W1,?_,?_,fun _ _=>trivial,?_,by simp [Fence.wide],?_⟩
 . show (Instr.enterLoop fn a.tmps ps assign body E.rd).run P W=_
   rw [hrd,<-hW1];exact run_enterLoop_inner hrec0 _ _ _ _ _
 . have e1:(#[]++Array.map a.eval #[Operand.const (Value.func (Fn.yield (W.heap.size)) #[] #[])]:Array Value)= #[.func (.yield (W.heap.size)) #[] #[]]:=by
     simp only [Array.empty_append,List.map_toArray,List.map_cons,List.map_nil];rfl
   simp only [resolve,hfe,Deferred.ofValue,Sem.run_pure,e1]
 . simp only [invoke,callFunc,Sem.run_bind,run_program,Result.andThen_ok,hfn']
   simp [h1,h2]
 . show CallsIn Fence.wide 0 P g _ W1 _
   rw [callsIn_wide];refine (hfn.2 {G1 with Im:=Im} W1 _ hIm hall hpre).mono fun e W' ⟨G',hpost⟩=>?_
   obtain ⟨G2,hI2,hrv,hav,hchg2⟩:=hI1.call (U':=(· < st.nx+2097152)) (base:=st.nx+1048576) (fun j hj=>by omega) (fun i hi=>by omega) (fun j hj=>by omega) hin hlt (fun i hi=>(hpre.st i hi).1) hph hpost hcs
   have hkeep:st.nx∈ks->∀ jmp,H1 st.nx=some [.lr st.fr E.nt ps.toList pa pb jmp]->BI (upd st.H st.nx (some [.lr st.fr E.nt ps.toList pa pb .ready])) (st.nx+1048576) Hin ks H1 st.nx=some [.lr (fun t=>ren (sg ks (st.nx+1048576)) (st.fr t)) E.nt ps.toList pa pb jmp]:=fun hk jmp hj=>by
     simp only [BI,if_pos hk,hj];rfl
   have hβ2:G2.β st.nx=W.heap.size:=(hchg2.ag st.nx (by omega)).1.trans hβ;cases res with
   | ret r=>
     obtain ⟨jmp,hj,hq⟩:=hend;cases e with
     | returned v=>
       have hnb:jmp≠ .busy:=by intro e;subst e;exact hq.elim
       obtain ⟨j,W4,he,hjm,hI4,_⟩:=hI2.leave (P:=P) (hkeep hks jmp hj) hnb;rw [hβ2] at he;refine ⟨j,W4,he,?_⟩;have hI5:=(hI4.nx (st.nx+2097152))
       cases jmp with
       | mapr es=>exact hq.elim
       | ready=>
         cases hjm;exact ⟨.normal,_,G2,hI5,trivial,trivial,hq⟩
       | busy=>exact hq.elim
       | done c=>
         simp only at hjm;subst hjm;cases c<;>first | exact hq.elim | exact wpIn_ret ⟨.ret,_,G2,hI5,trivial,trivial,hq⟩ | exact wpIn_exit ⟨.exit _,_,G2,hI5,rfl,trivial,hq⟩
     | _=>exact hrv.elim
   | pan r=>
     cases e with
     | panicked ch=>exact ⟨.pan (ren (sg ks (st.nx+1048576)) r),⟨st.fr,_,st.nx+2097152⟩,G2,((hI2.drop st.nx).nx (st.nx+2097152)),hrv,hav,hend⟩
     | _=>exact hrv.elim
theorem AW.range {fo:Operand} {ps:Array Tmp} {assign body:Code} {pa pb:PC} (ha:comp E.nt assign=some pa) (hb:comp E.nt body=some pb) {Q:Av->St->Prop} {st:St} (h:E3 P E fo ps.toList pa pb Q st):AW P E (.rangeFunc fo ps assign body) Q st:=by
 obtain ⟨⟨hrq,hnp⟩,g,caps,args,Hin,ks,res,H1,hg,⟨hfn,hcb⟩,hks,hend⟩:=h;rcases hrq with ⟨hrd,hnm⟩ | ⟨k0,fr0,nt0,ps0,pa0,pb0,j0,hrd,hst0,hk0⟩
 rotate_left
 . exact AW.rangeN ha hb hnp hend hg hfn hcb hks hrd hst0 hk0
 intro G a W hI;refine wpIn_rangeFunc fun fn _=>?_
 obtain ⟨G1,hI1,hβ,hbs⟩:=hI.enter hnm (fun e=>absurd e hnp) (U':=(· < st.nx+1048576)) (k:=st.nx) (ps:=ps) (by omega) (fun i hi=>by omega) (by omega) ha hb
 generalize hW1:((W.alloc (.deferred (some []))).alloc (.loop {state:= .ready,pending:=none,fn,tmps:=a.tmps,params:=ps,assign,body,defers:=W.heap.size}))=W1 at hI1
 have key:∃ cv:Array Value,a.eval fo= .func (.func g) #[] cv/\AJ (RV G1 W1) caps cv.toList:=by
   have hx:=(hI1.op fo).1;unfold P0 at hg;have hev:(({a with defers:={target:= .collected W.heap.size,args:= #[]}::a.defers}:Act).eval fo)=a.eval fo:=by cases fo<;>rfl
   rw [hev] at hx;split at hg
   . rename_i g' caps' hv
     cases hg;simp only at hx;rw [hv] at hx;have hx':RD G1.Im W1 (.fn g caps') (a.eval fo):=hx
     generalize a.eval fo=u at hx'
     cases hx' with
     | fn _ _ cv hl hrr=>
       refine ⟨cv,rfl,AJ.map_left.2 (AJ.of_get (by simpa using hl.symm) fun i x y hx hy=>?_)⟩;exact hrr i x y hx (by rwa [Array.getElem?_toList] at hy)
   . rename_i g' caps' hv
     cases hg;simp only at hx;rw [hv] at hx;obtain ⟨cv,hxa,hcr⟩:=hx;exact ⟨cv,hxa,hcr.mono fun _ _ _ h=>R2.rv (R1.r2 (R0.r1 h))⟩
   . cases hg
 obtain ⟨cv,hfe,hcr⟩:=key;obtain ⟨f',hfn',hbody,hname⟩:=hfn.1;have h1:f'.name≠ "runtime.NumGoroutine" :=by simpa using hname
 have h2:f'.body.isNone=false:=by cases h:f'.body<;>simp_all
 have hrel:AJ (RV G1 W1) (.yl st.nx::caps) ((#[.func (.yield (W.heap.size+1)) #[] #[]]++cv:Array Value)).toList:=by
   have:RV G1 W1 (.yl st.nx) (.func (.yield (W.heap.size+1)) #[] #[]):=by
     exact .inl ⟨hbs,by rw [hβ]⟩
   simpa using (show AJ (RV G1 W1) (.yl st.nx::caps) (Value.func (.yield (W.heap.size+1)) #[] #[]::cv.toList) from ⟨this,hcr⟩)
 obtain ⟨Im,hIm,hall,hpre,hph,hcs⟩:=GR hI1 hrel hcb;obtain ⟨hin,hlt,hkk,_⟩:=hcb;refine ⟨W.heap.size+1,[{target:= .collected W.heap.size,args:= #[]}],W1,{target:= .fn (.func g) cv,args:= #[.func (.yield (W.heap.size+1)) #[] #[]]},W1,g,#[.func (.yield (W.heap.size+1)) #[] #[]]++cv,W1,?_,?_,fun _ _=>trivial,?_,by simp [Fence.wide],?_⟩
 . show (Instr.enterLoop fn a.tmps ps assign body E.rd).run P W=_
   rw [hrd,<-hW1];exact run_enterLoop_outer _ _ _ _ _
 . have e1:(#[]++Array.map a.eval #[Operand.const (Value.func (Fn.yield (W.heap.size+1)) #[] #[])]:Array Value)= #[.func (.yield (W.heap.size+1)) #[] #[]]:=by
     simp only [Array.empty_append,List.map_toArray,List.map_cons,List.map_nil];rfl
   simp only [resolve,hfe,Deferred.ofValue,Sem.run_pure,e1]
 . simp only [invoke,callFunc,Sem.run_bind,run_program,Result.andThen_ok,hfn']
   simp [h1,h2]
 . show CallsIn Fence.wide 0 P g _ W1 _
   rw [callsIn_wide];refine (hfn.2 {G1 with Im:=Im} W1 _ hIm hall hpre).mono fun e W' ⟨G',hpost⟩=>?_
   obtain ⟨G2,hI2,hrv,hav,hchg2⟩:=hI1.call (U':=(· < st.nx+2097152)) (base:=st.nx+1048576) (fun j hj=>by omega) (fun i hi=>by omega) (fun j hj=>by omega) hin hlt (fun i hi=>(hpre.st i hi).1) hph hpost hcs
   have hkeep:st.nx∈ks->∀ jmp,H1 st.nx=some [.lr st.fr E.nt ps.toList pa pb jmp]->BI (upd st.H st.nx (some [.lr st.fr E.nt ps.toList pa pb .ready])) (st.nx+1048576) Hin ks H1 st.nx=some [.lr (fun t=>ren (sg ks (st.nx+1048576)) (st.fr t)) E.nt ps.toList pa pb jmp]:=fun hk jmp hj=>by
     simp only [BI,if_pos hk,hj];rfl
   have hβ2:G2.β st.nx=W.heap.size+1:=(hchg2.ag st.nx (by omega)).1.trans hβ;cases res with
   | ret r=>
     obtain ⟨jmp,hj,hq⟩:=hend;cases e with
     | returned v=>
       have hnb:jmp≠ .busy:=by intro e;subst e;exact hq.elim
       obtain ⟨j,W4,he,hjm,hI4,_⟩:=hI2.leave (P:=P) (hkeep hks jmp hj) hnb;rw [hβ2] at he;refine ⟨j,W4,he,?_⟩;have hI5:=(hI4.nx (st.nx+2097152))
       cases jmp with
       | mapr es=>exact hq.elim
       | ready=>
         cases hjm;exact ⟨.normal,_,G2,hI5,trivial,trivial,hq⟩
       | busy=>exact hq.elim
       | done c=>
         simp only at hjm;subst hjm;cases c<;>first | exact hq.elim | exact wpIn_ret ⟨.ret,_,G2,hI5,trivial,trivial,hq⟩ | exact wpIn_exit ⟨.exit _,_,G2,hI5,rfl,trivial,hq⟩
     | _=>exact hrv.elim
   | pan r=>
     cases e with
     | panicked ch=>exact ⟨.pan (ren (sg ks (st.nx+1048576)) r),⟨st.fr,_,st.nx+2097152⟩,G2,((hI2.drop st.nx).nx (st.nx+2097152)),hrv,hav,hend⟩
     | _=>exact hrv.elim
theorem AW.clQ {c:Code} {Q:Av->St->Prop} {st:St} (h:AW P E c (clQ P E Q) st):AW P E c Q st:=fun G a W hI=>wpIn_mono (h G a W hI) fun e a' W' ⟨x,st',G',hI',hx,ho,hq⟩=>by
 rcases hq with hq | ⟨st1,hw,hq,hn⟩
 . exact ⟨x,st',G',hI',hx,ho,hq⟩
 . obtain ⟨G2,hI2⟩:=hw G' a' W' hI'
   have hx2:Jp G2 W' x e:=by
     cases x<;>first | exact absurd rfl (hn _) | (cases e<;>exact hx)
   have ho2:iX (· < st1.nx) x:=by
     cases x<;>first | exact absurd rfl (hn _) | exact trivial
   exact ⟨x,st1,G2,hI2,hx2,ho2,hq⟩
theorem PW.sound (hΓ:GOk P Γ) (hE:EB P eqs) (hm:P.follows .mixedOrders=true):∀ (c:Code) (p:PC),comp E.nt c=some p->∀ (Q:Av->St->Prop) (st:St),PW P Γ eqs E p Q st->AW P E c Q st
 | .skip,p,hc,Q,st,h=>by cases hc;exact AW.skip h
 | .ret,p,hc,Q,st,h=>by cases hc;exact AW.ret h
 | .exit id,p,hc,Q,st,h=>by cases hc;exact AW.exit h
 | .seq a b,p,hc,Q,st,h=>by
   simp only [comp,Option.bind_eq_some_iff,Option.map_eq_some_iff] at hc;obtain ⟨x,hx,y,hy,rfl⟩:=hc;refine AW.seq (AW.mono (PW.sound hΓ hE hm a x hx _ _ h) fun e st hq=>?_);cases e with
   | normal=>exact PW.sound hΓ hE hm b y hy Q st hq
   | _=>exact hq
 | .cond c a b,p,hc,Q,st,h=>by
   simp only [comp,Option.bind_eq_some_iff,Option.map_eq_some_iff] at hc;obtain ⟨x,hx,y,hy,rfl⟩:=hc;simp only [PW,KN] at h;split at h
   . rename_i t ht
     exact AW.cond ht (fun e=>PW.sound hΓ hE hm a x hx Q st (h.1 e)) (fun e=>PW.sound hΓ hE hm b y hy Q st (h.2 e))
   . rename_i ht
     exact AW.condU ht (PW.sound hΓ hE hm a x hx Q st h.1) (PW.sound hΓ hE hm b y hy Q st h.2)
   . exact h.elim
 | .block id a,p,hc,Q,st,h=>by
   simp only [comp,Option.map_eq_some_iff] at hc;obtain ⟨x,hx,rfl⟩:=hc;exact AW.block (PW.sound hΓ hE hm a x hx _ st h)
 | .loop a,p,hc,Q,st,h=>by
   simp only [comp,Option.map_eq_some_iff] at hc;obtain ⟨x,hx,rfl⟩:=hc;obtain ⟨α,S,inv,μ,x0,h0,hw,hr⟩:=h;exact AW.clQ (AW.loop S inv μ x0 h0 hw fun y hy=>PW.sound hΓ hE hm a x hx _ _ (hr y hy))
 | .rangeFunc fo ps a b,p,hc,Q,st,h=>by
   simp only [comp,Option.bind_eq_some_iff,Option.map_eq_some_iff] at hc;obtain ⟨x,hx,y,hy,rfl⟩:=hc;exact AW.range hx hy h
 | .region id ops draw,p,hc,Q,st,h=>by
   cases draw with
   | false=>
     simp only [comp,Bool.false_eq_true,if_false,Option.ite_none_right_eq_some,Option.some.injEq] at hc;obtain ⟨hd,rfl⟩:=hc;have e:ops=ops.toList.toArray:=by simp
     rw [e];refine AW.region hΓ hE hd (Dp ops.toList 0 st.nx st.fr st.H ?_);exact h
   | true=>
     simp only [comp,if_true,Option.ite_none_right_eq_some,Option.some.injEq] at hc;obtain ⟨hd,rfl⟩:=hc
     generalize hm':mOf (Q3 ops.toList) ops.toList.length=m at*
     generalize hcl:Q3 ops.toList=cl at*
     have hle:=(GF hd).le;have e:ops=(ops.toList.take m++ops.toList.drop m).toArray:=by rw [List.take_append_drop]
     have hlen:(ops.toList.take m).length=m:=by rw [List.length_take];omega
     rw [e]
     have main:∃ ws,Pg ws cl st.nx=true/\runD P Γ eqs ws cl st.nx (fun v=>∀ st,Q (.pan v) st) 0 st.nx ((ops.toList.take m).map (IO ops.toList)) st.fr st.H fun f H n=>H8 P Γ eqs (fun v f H n=>Q (.pan v) ⟨f,H,n⟩) n ((ops.toList.drop m).map (IO ops.toList)) f H fun f H n=>Q .normal ⟨f,H,n⟩:=by
       unfold M8 at h;split at h
       . exact h
       . exact ⟨[],rfl,h⟩
     obtain ⟨ws,hws,h⟩:=main;refine AW.draw (ws:=ws) (cl:=cl) hΓ hE hm (by rw [List.take_append_drop,hlen];exact hd) hws ?_;rw [List.take_append_drop];refine KM _ 0 st.nx st.fr st.H (GN (fun _ h=>h) h fun f H n h hn=>?_);subst hn;rw [hlen] at h ⊢;exact Dp _ m st.nx f H (by rwa [Nat.zero_add] at h)
 | .scope _,p,hc,_,_,_=>by cases hc
 | .label _,p,hc,_,_,_=>by cases hc
 | .goto _,p,hc,_,_,_=>by cases hc
 | .refuse _,p,hc,_,_,_=>by cases hc
theorem AI.mk {st:St} (hs:∀ i,¬ E.stab i) (ρ:Nat->Option Nat) (l:List (Nat × V)) (h:List (Nat × List V)) (n:Nat) (h1:CL ρ st.fr l) (h2:Ej ρ st.H h) (h3:G3 ρ h) (h4:Bw n l) (h5:A7 n h):AI P E st ⟨AO l,lk h,n⟩:=
 AI.of ρ l h n h1 h2 h3 h4 h5 fun i hi=>absurd hi (hs i)
def HD (ρ:Nat->Option Nat) (H h:Hp) (n:Nat):List Nat->Prop
 | []=>True
 | i::r=>i<n/\((h i).isSome=true->ρ i=some i/\(H i).isSome=true)/\HD ρ H h n r
theorem HD.at {ρ:Nat->Option Nat} {H h:Hp} {n:Nat}:∀ {ks:List Nat},HD ρ H h n ks->∀ i∈ks,i<n/\(InH h i->ρ i=some i/\InH H i)
 | [],_,_,hi=>by cases hi
 | k::r,hs,i,hi=>by
   rcases List.mem_cons.1 hi with rfl | hi
   . exact ⟨hs.1,hs.2.1⟩
   . exact hs.2.2.at i hi
theorem AI.mkM {st:St} {ks:List Nat} (hs:∀ i,E.stab i↔i∈ks) (ρ:Nat->Option Nat) (l:List (Nat × V)) (h:List (Nat × List V)) (n:Nat) (h1:CL ρ st.fr l) (h2:Ej ρ st.H h) (h3:G3 ρ h) (h4:Bw n l) (h5:A7 n h) (h6:HD ρ st.H (lk h) n ks):AI P E st ⟨AO l,lk h,n⟩:=
 AI.of ρ l h n h1 h2 h3 h4 h5 fun i hi=>h6.at i ((hs i).1 hi)
theorem Cm.of (hΓ:GOk P Γ) (hE:EB P eqs) (hm:P.follows .mixedOrders=true) {f:FuncId} {fn:Func} {c:Code} {p:PC} {args:List V} {Hin:Hp} {ks:List Nat} {res:Res} {H1:List (Nat × List V)} (N:Nat) (hf:P.funcs[f]?= some fn) (hb:fn.body=some c) (hc:comp fn.ntmps c=some p) (hname:(fn.name == "runtime.NumGoroutine")=false)
   (hn:args.length<=fn.ntmps) (hcl:∀ v∈args,A2 (· < N) AR v) (hids:H3 N Hin) (hks:∀ i∈ks,i<N) (hri:LD res.v H1) (h:∀ E:Ent,(∀ i,E.stab i↔i∈ks)->E.rq->PW P Γ eqs E p (Mh Γ fn ks res H1) ⟨Dn 0 args,Hin,N⟩):Cm P f args Hin ks res (lk H1):=
 Cm.intro hΓ N hf hb hname hn hcl hids hks hri fun E hE' hs hrd=>PW.sound hΓ hE hm c p (by rw [hE'];exact hc) _ _ (h E hs hrd)
end Go.Psl
namespace Go.Psl
variable {P:Program} {Γ:Tys} {eqs:Eqs} {E:Ent}
def rG (s:LSt) (rc:Loop):Prop:=match s with | .ready=>rc.state= .ready/\rc.pending=none | .busy=>rc.state= .busy | .done c=>rc.state= .done/\rc.pending=some c | .mapr _=>False
theorem Inv.loopAt {U:Nat->Prop} {G:Gh} {st:St} {a:Act} {W:World} (hI:Inv E U G st a W) {k:Nat} {fr:Nat->V} {nt:Nat} {ps:List Nat} {pa pb:PC} {s:LSt} (hk:st.H k=some [.lr fr nt ps pa pb s]):
   G.ph k=false/\G.lo k=true/\¬ G.Im (G.β k)/\∃ rc,W.heap[G.β k]?= some (.loop rc)/\iY G W fr nt ps pa pb s rc:=by
 rcases hI.hp k _ hk with ⟨_,h⟩ | ⟨_,_,_,c,T,_,_,_,h,h2⟩ | ⟨h0,h1,h2,⟨_,fr',nt',ps',pa',pb',jmp',rec,h3,h4,h5⟩ | ⟨_,es,ms,ck,h3,_⟩ | ⟨_,bx,bp,bv,h3,_⟩⟩
 . cases h
 . simp [V.isCell] at h2
 . cases h3;exact ⟨h0,h1,h2,rec,h4,h5⟩
 . simp [Qo] at h3
 . simp at h3
theorem Inv.loopBs {U:Nat->Prop} {G:Gh} {st:St} {a:Act} {W:World} (hI:Inv E U G st a W) {k:Nat} {fr:Nat->V} {nt:Nat} {ps:List Nat} {pa pb:PC} {s:LSt} (hk:st.H k=some [.lr fr nt ps pa pb s]):G.bs k=0:=by
 rcases hI.hp k _ hk with ⟨_,h⟩ | ⟨_,_,_,c,T,_,_,_,h,h2⟩ | ⟨_,_,_,⟨h,_⟩ | ⟨_,es,ms,ck,h3,_⟩ | ⟨_,bx,bp,bv,h3,_⟩⟩
 . cases h
 . simp [V.isCell] at h2
 . exact h
 . simp [Qo] at h3
 . simp at h3
theorem Inv.setLoop {U:Nat->Prop} {G:Gh} {st:St} {a:Act} {W:World} (hI:Inv E U G st a W) {k:Nat} {fr:Nat->V} {nt:Nat} {ps:List Nat} {pa pb:PC} {s s':LSt} (hk:st.H k=some [.lr fr nt ps pa pb s]) {rc rc':Loop}
   (hrec:W.heap[G.β k]?= some (.loop rc)) (hs:rc'.params=rc.params/\rc'.assign=rc.assign/\rc'.body=rc.body/\rc'.tmps=rc.tmps/\rc'.fn=rc.fn) (hst:rG s' rc'):
   Inv E U G ⟨st.fr,upd st.H k (some [.lr fr nt ps pa pb s']),st.nx⟩ a (W.putObj (G.β k) (.loop rc')):=by
 obtain ⟨hph,hlo,hnim,rc0,hrec0,q1,q2,q3,q4,q5,_,q7⟩:=hI.loopAt hk;rw [hrec] at hrec0;cases hrec0;have hlive:(st.H k).isSome=true:=by rw [hk];rfl
 have hlt:=(Array.getElem?_eq_some_iff.1 hrec).1;have hsame:∀ j,j≠G.β k->(W.putObj (G.β k) (.loop rc')).heap[j]?= W.heap[j]?:= fun j hj=>World.putObj_heap_other hj
 have hchg:Chg U G W G (W.putObj (G.β k) (.loop rc')):=⟨fun i _=>⟨rfl,rfl,rfl,rfl⟩,fun j hj=>⟨hj,hsame j (fun e=>hnim (by rw [<-e];exact hj))⟩⟩
 have hsome:∀ i,(upd st.H k (some [.lr fr nt ps pa pb s']) i).isSome=true->(st.H i).isSome=true:=fun i hi=>by
   by_cases e:i=k
   . subst e;exact hlive
   . simpa only [AY,if_neg e] using hi
 have hw:=hI.wh k _ hk (.lr fr nt ps pa pb s) (by simp);refine {fr:=fun t=>hchg.rv (hI.wf t) (hI.fr t),wf:=hI.wf,hp:=?_,wh:=?_,dom:=fun i hi=>hI.dom i (hsome i hi),inj:=fun i j hi hj=>hI.inj i j (hsome i hi) (hsome j hj),own:=fun i hi=>hI.own i (hsome i hi),im:=fun b hb=>⟨by rw [World.putObj_size];exact (hI.im b hb).1,(hI.im b hb).2⟩,im0:=hI.im0,keep:=?_,stab:=fun i hs hi=>hI.stab i hs (hsome i hi),sU:=hI.sU,nt:=hI.nt,df:=?_,gl:=hI.gl.mono hchg.im}
 . intro id cs' h
   simp only [AY] at h;split at h
   . rename_i e;subst e;cases h
     refine .inr (.inr ⟨hph,hlo,hnim, .inl ⟨hI.loopBs hk,fr,nt,ps,pa,pb,s',rc',rfl,World.putObj_heap_same hlt,by rw [hs.1];exact q1,by rw [hs.2.1];exact q2,by rw [hs.2.2.1];exact q3,by rw [hs.2.2.2.1];exact q4,fun t=>by rw [hs.2.2.2.1];exact hchg.rv (hw t) (q5 t),hst,by rw [hs.2.2.2.2];exact q7⟩⟩)
   . rename_i e
     have hlv:(st.H id).isSome=true:=by rw [h];rfl
     exact hchg.hb (hI.dom id hlv) (hI.wh id cs' h) (hI.hp id cs' h) (fun hp=>hsame _ (fun e'=>e (hI.inj id k hlv hlive hp hph e'))) (fun hx _=>hx)
 . intro id cs' h x hx
   simp only [AY] at h;split at h
   . cases h
     simp only [List.mem_singleton] at hx;subst hx;exact hw
   . exact hI.wh id cs' h x hx
 . refine ⟨hI.keep.os,hI.keep.tape,hI.keep.output,hI.keep.drawn,by rw [World.putObj_size];exact hI.keep.size,fun j hj hm=>(hsame j fun e=>?_).trans (hI.keep.block j hj hm)⟩
   rcases hI.own k hlive hph with h | h
   . omega
   . exact hm (e ▸ h)
 . obtain ⟨ds,h1,h2⟩:=hI.df
   exact ⟨ds,h1,h2.same (fun D hD hd=>hsame D (fun e=>by rw [e,hrec] at hd;cases hd)) (fun _ _ _ h=>h)⟩
def BD (f:Nat->V):List Nat->List V->Nat->V
 | p::ps,v::vs=>BD (upd f p v) ps vs
 | _,_=>f
theorem LX {G:Gh} {W:World}:∀ {ps:List Nat} {vs:List V} {xs:List Value} {f:Nat->V} {tmps:Array Value},AJ (RV G W) vs xs->ps.length=vs.length->(∀ p∈ps,p<tmps.size)->(∀ t,RV G W (f t) (tmps.getD t undef))->
   (∀ t,RV G W (BD f ps vs t) (((ps.zip xs).foldl (fun (tmps:Array Value) (p:Nat × Value)=>tmps.setIfInBounds p.1 p.2) tmps).getD t undef))/\((ps.zip xs).foldl (fun (tmps:Array Value) (p:Nat × Value)=>tmps.setIfInBounds p.1 p.2) tmps).size=tmps.size
 | [],[],[],f,tmps,_,_,_,hf=>⟨hf,rfl⟩
 | p::ps,v::vs,x::xs,f,tmps,hr,hl,hp,hf=>by
   have:=LX (ps:=ps) (vs:=vs) (xs:=xs) (f:=upd f p v) (tmps:=tmps.setIfInBounds p x) hr.2 (by simpa using hl) (fun q hq=>by simp;exact hp q (by simp [hq])) (fun t=>by
     have hpt:=hp p (by simp);rw [Array.getD_eq_getD_getElem?];simp only [AY,Array.getElem?_setIfInBounds];by_cases h:t=p
     . subst h;simp [hpt];exact hr.1
     . rw [if_neg h,if_neg (Ne.symm h),<-Array.getD_eq_getD_getElem?];exact hf t)
   refine ⟨fun t=>this.1 t,?_⟩;rw [List.zip_cons_cons,List.foldl_cons,this.2];simp
 | [],_::_,_,_,_,_,hl,_,_=>by simp at hl
 | _::_,[],_,_,_,_,hl,_,_=>by simp at hl
 | _::_,_::_,[],_,_,hr,_,_,_=>hr.elim
 | [],[],_::_,_,_,hr,_,_,_=>hr.elim
theorem Ma {p:Nat->Prop}:∀ {ps:List Nat} {vs:List V} {f:Nat->V},(∀ v∈vs,AV p AR v)->(∀ t,AV p AR (f t))->∀ t,AV p AR (BD f ps vs t)
 | [],_,_,_,hf,t=>hf t
 | _::_,[],_,_,hf,t=>hf t
 | q::ps,v::vs,f,hv,hf,t=>Ma (ps:=ps) (vs:=vs) (fun w hw=>hv w (by simp [hw])) (fun t=>by
     simp only [AY];split
     . exact hv v (by simp)
     . exact hf t) t
def Hu (k:Nat) (rc:LSt->V) (s:LSt) (ks:List Nat) (H1:List (Nat × List V)) (st:St):Prop:=
 st.H k=some [rc .busy]/\∃ ρ,Ej ρ (upd st.H k (some [rc s])) H1/\G3 ρ H1/\DZ ρ (upd st.H k (some [rc s])) (lk H1) ks
def rndQ (k:Nat) (rc:LSt->V) (s:LSt) (ks:List Nat) (H1:List (Nat × List V)):Av->St->Prop
 | .normal,st=>(match s with | .ready=>True | _=>False)/\Hu k rc s ks H1 st
 | .ret,st=>(match s with | .done .ret=>True | _=>False)/\Hu k rc s ks H1 st
 | .exit i,st=>(match s with | .done (.exit j)=>i=j | _=>False)/\Hu k rc s ks H1 st
 | _,_=>False
def FP:LSt->Bool
 | .ready=>true
 | _=>false
theorem Ym.of (hΓ:GOk P Γ) (hE:EB P eqs) (hm:P.follows .mixedOrders=true) {k:Nat} {fr:Nat->V} {nt:Nat} {ps:List Nat} {pa pb:PC} {args:List V} {Hin:Hp} {ks:List Nat} {s:LSt} {H1:List (Nat × List V)} (N:Nat)
   (hk:Hin k=some [.lr fr nt ps pa pb .ready]) (hkk:k∈ks) (hlen:ps.length=args.length) (hps:∀ p∈ps,p<nt) (hcl:∀ v∈args,A2 (· < N) AR v) (hids:H3 N Hin) (hks:∀ i∈ks,i<N) (hri:∀ p∈H1,∀ c∈p.2,AC (InB H1) AR c)
   (h:∀ E:Ent,E.nt=nt->(∀ i,E.stab i↔i∈ks)->E.rd=some (E.β0 k)->PW P Γ eqs E pa (DP (fun st=>st.H k=some [.lr fr nt ps pa pb .ready]/\PW P Γ eqs E pb (rndQ k (.lr fr nt ps pa pb) s ks H1) ⟨st.fr,upd st.H k (some [.lr fr nt ps pa pb .busy]),st.nx⟩) (fun _ _=>False)) ⟨BD fr ps args,Hin,N⟩):
   Ym P k args Hin ks (.ret (.d (.lit (.bool (FP s))))) (lk H1):=by
 intro G W xs rc hGW hargs hpre hrec hsz
 obtain ⟨q1,q2,q3,q4,q5,q6⟩:iY G W fr nt ps pa pb .ready rc:=by
   rcases hpre.hb k _ hk with ⟨_,h⟩ | ⟨_,_,_,c,T,_,_,_,h,h2⟩ | ⟨h0,h1,h2,⟨_,fr',nt',ps',pa',pb',jmp',rec,h3,h4,h5⟩ | ⟨_,es,ms,ck,h3,_⟩ | ⟨_,bx,bp,bv,h3,_⟩⟩
   . cases h
   . simp [V.isCell] at h2
   . cases h3;rw [hrec] at h4;cases h4;exact h5
   . simp [Qo] at h3
   . simp at h3
 have hargsV:AJ (RV G W) args xs.toList:=hargs.mono fun _ _ _ h=>h.rv
 have hfold:(rc.params.zip xs).foldl (fun tmps (t,a)=>tmps.setIfInBounds t a) rc.tmps=(ps.zip xs.toList).foldl (fun (tmps:Array Value) (p:Nat × Value)=>tmps.setIfInBounds p.1 p.2) rc.tmps:=by
   rw [<-Array.foldl_toList,Array.toList_zip,q1]
 obtain ⟨r1,r2⟩:=LX (ps:=ps) (f:=fr) (tmps:=rc.tmps) hargsV hlen (fun p hp=>Nat.lt_of_lt_of_le (hps p hp) q4) q5
 have hwf:∀ t,AV (· < N) AR (BD fr ps args t):=Ma (fun v hv=>by
   obtain ⟨i,hi⟩:=List.mem_iff_getElem?.1 hv;obtain ⟨x,_,hx⟩:=hargs.get hi;exact hx.av (hcl v hv)) (fun t=>(hids k _ hk).2 (.lr fr nt ps pa pb .ready) (by simp) t)
 rw [hfold];have hI:=Inv.start (nt:=nt) (rd:=some (G.β k)) hGW hpre hids hks (f:=BD fr ps args) (tmps:=(ps.zip xs.toList).foldl (fun (tmps:Array Value) (p:Nat × Value)=>tmps.setIfInBounds p.1 p.2) rc.tmps) r1 hwf (by rw [r2];exact q4);refine roundIn_of_wpIn trivial ?_;have hpw:=h {W0:=W,Im0:=G.Im,mu:=Bm G Hin,β0:=G.β,bs0:=G.bs,lo0:=G.lo,stab:=(·∈ks),nt:=nt,rd:=some (G.β k)} rfl (fun _=>Iff.rfl) rfl;refine wpIn_mono (PW.sound (E:={W0:=W,Im0:=G.Im,mu:=Bm G Hin,β0:=G.β,bs0:=G.bs,lo0:=G.lo,stab:=(·∈ks),nt:=nt,rd:=some (G.β k)}) hΓ hE hm rc.assign pa q2 _ _ hpw G _ W hI) fun e a' W' ⟨x,st',G',hI',hx,ho,hq⟩=>?_
 cases e with
 | normal=>
   cases x with
   | normal=>
     obtain ⟨hk',hb⟩:=hq;obtain ⟨hph,_,_,rc1,hrec1,hl1⟩:=hI'.loopAt hk';have hβ:G'.β k=G.β k:=(hI'.stab k hkk (by rw [hk'];rfl)).1;have hrec1':W'.heap[G.β k]?= some (.loop rc1):=by rw [<-hβ];exact hrec1
     have hI2:=hI'.setLoop hk' (rc':={rc1 with state:= .busy}) (s':= .busy) hrec1 ⟨rfl,rfl,rfl,rfl,rfl⟩ rfl;rw [hβ] at hI2;refine ⟨_,run_beginRound hrec1' hl1.2.2.2.2.2.1.1,?_⟩;refine wpIn_mono (PW.sound (E:={W0:=W,Im0:=G.Im,mu:=Bm G Hin,β0:=G.β,bs0:=G.bs,lo0:=G.lo,stab:=(·∈ks),nt:=nt,rd:=some (G.β k)}) hΓ hE hm rc.body pb q3 _ _ hb G' a' _ hI2) fun e a2 W2 ⟨x,st2,G2,hI3,hx,ho,hq⟩=>?_
     have fin:∀ (j:Option Code),Hu k (.lr fr nt ps pa pb) s ks H1 st2->j.isNone=FP s->(∀ rc2:Loop,rG s {rc2 with state:=if j.isNone then .ready else .done,pending:=j})->
         ∃ v w',(Instr.endRound (G.β k) j).run P W2= .ok v w'/\∃ G',sG G W Hin ks (.ret (.d (.lit (.bool (FP s))))) (lk H1) (.returned v) w' G':=fun j ⟨hk2,ρ,h4,h5,h6⟩ hj hs=>by
       obtain ⟨_,_,_,rc2,hrec2,_⟩:=hI3.loopAt hk2;have hβ2:G2.β k=G.β k:=(hI3.stab k hkk (by rw [hk2];rfl)).1;have hI4:=hI3.setLoop hk2 (rc':={rc2 with state:=if j.isNone then .ready else .done,pending:=j}) (s':=s) hrec2 ⟨rfl,rfl,rfl,rfl,rfl⟩ (hs rc2);rw [hβ2] at hI4 hrec2;have hri':LD (Res.v (.ret (.d (.lit (.bool (FP s)))))) H1:=⟨trivial,hri⟩
       refine ⟨_,_,by rw [run_endRound j hrec2,hj],_,GK (res:= .ret (.d (.lit (.bool (FP s))))) ⟨rfl,rfl,fun _=>Iff.rfl,fun _ h=>⟨h,rfl,rfl,rfl⟩⟩ hri' hI4 h4 h5 h6 (e:= .returned (.bool (FP s))) ?_⟩;exact RD.lit _ rfl
     cases e with
     | normal=>
       cases x with
       | normal=>
         obtain ⟨hs,hr⟩:=hq;cases s with
         | ready=>exact fin none hr rfl (fun _=>⟨rfl,rfl⟩)
         | _=>exact hs.elim
       | _=>exact hx.elim
     | ret=>
       cases x with
       | ret=>
         obtain ⟨hs,hr⟩:=hq;split at hs
         . exact fin (some .ret) hr rfl (fun _=>⟨rfl,rfl⟩)
         . exact hs.elim
       | _=>exact hx.elim
     | exit i=>
       cases x with
       | exit i'=>
         have hx:i'=i:=hx;subst hx;obtain ⟨hs,hr⟩:=hq;split at hs
         . subst hs;exact fin (some (.exit i')) hr rfl (fun _=>⟨rfl,rfl⟩)
         . exact hs.elim
       | _=>exact hx.elim
     | goto l=>cases x<;>first | exact hq.elim | exact False.elim hx
     | panic ch=>cases x<;>first | exact hq.elim | exact False.elim hx
     | outgrown=>cases x<;>exact False.elim hx
   | _=>exact hx.elim
 | _=>cases x<;>first | exact False.elim hx | exact hq.elim
end Go.Psl
namespace Go.Psl
variable {P:Program}
def jk:Value->Value->Bool
 | .bool a, .bool b=>a == b
 | .int k a, .int k' b=>decide (k=k')&&a == b
 | .string a, .string b=>decide (a=b)
 | .nilFunc, .nilFunc=>true
 | .nilIface, .nilIface=>true
 | .pointer none, .pointer none=>true
 | .slice none a b, .slice none a' b'=>a == a'&&b == b'
 | .map none, .map none=>true
 | _,_=>false
theorem AZa {a b:Value} (h:jk a b=true):a=b:=by
 unfold jk at h;split at h<;>first | rfl | (simp_all;done) | cases h
def Ss:List Value->List Value->Bool
 | [],[]=>true
 | a::az,b::bs=>jk a b&&Ss az bs
 | _,_=>false
theorem ON:∀ {az bs:List Value},Ss az bs=true->az=bs
 | [],[],_=>rfl
 | a::az,b::bs,h=>by
   simp only [Ss,Bool.and_eq_true] at h;rw [AZa h.1,ON h.2]
 | [],_::_,h=>by cases h
 | _::_,[],h=>by cases h
def shB (d:TypeDesc) (y:Ty):Bool:=
 match d,y.sh with
 | .int k, .int k'=>decide (k=k')&&!y.agg
 | .bool, .bool=>!y.agg
 | .string, .str=>!y.agg
 | .pointer e, .ptr e'=>e == e'&&!y.agg
 | .slice e, .slice e'=>e == e'&&!y.agg
 | .array n e, .array n' e'=>n == n'&&e == e'&&y.agg
 | .struct fs, .struct gs=>decide (fs.toList.map (fun f=>(f.offset,f.type))=gs)&&y.agg
 | .map k e, .map k' e'=>k == k'&&e == e'&&!y.agg
 | .interface ms, .ifc e=>(e == ms.isEmpty)&&!y.agg
 | .struct _, .other=>y.agg
 | .array _ _, .other=>y.agg
 | .struct _,_=>false
 | .array _ _,_=>false
 | _, .other=>!y.agg
 | _,_=>false
theorem jl {d:TypeDesc} {y:Ty} (h:shB d y=true):Ix d y:=by
 unfold shB at h;unfold Ix;split at h<;>(try simp_all)<;>(split<;>simp_all)
def tyB (P:Program) (t:TypeId) (y:Ty):Bool:=
 (match P.info? t with
  | some i=>i.size == y.size&&i.bytes == y.bytes&&(match i.zero with | some z=>Ss z.cells.toList y.zero&&y.agg == ALH z | none=>false)
  | none=>false)&&
 (match P.underlying t with | some d=>shB d y | none=>false)&&
 y.zero.length == y.size&&y.zero.all CU&&(y.agg||y.size == 1)
theorem jm {t:TypeId} {y:Ty} (h:tyB P t y=true):C1 P t y:=by
 unfold tyB at h;simp only [Bool.and_eq_true,beq_iff_eq] at h;obtain ⟨⟨⟨⟨h1,h2⟩,h3⟩,h4⟩,h5⟩:=h;refine ⟨?_,?_,h3,h4,fun e=>by simpa [e] using h5,fun i z hi hz=>?_⟩
 . split at h1
   . rename_i i hi
     simp only [Bool.and_eq_true,beq_iff_eq] at h1;obtain ⟨⟨e1,e2⟩,e3⟩:=h1;split at e3
     . rename_i z hz
       simp only [Bool.and_eq_true] at e3;exact ⟨i,z,hi,e1,e2,hz,ON e3.1⟩
     . cases e3
   . cases h1
 . split at h2
   . rename_i d hd;exact ⟨d,hd,jl h2⟩
   . cases h2
 . rw [hi] at h1
   simp only [hz,Bool.and_eq_true,beq_iff_eq] at h1;exact h1.2.2
theorem jn {l:List (Nat × Ty)} (h:l.all (fun p=>tyB P p.1 p.2)=true):GOk P (lk l):=fun t y ht=>by
 have:=List.all_eq_true.1 h _ (B4 ht);exact jm this
def eqB (P:Program) (t:TypeId) (ks:List CK):Bool:=
 decide (Bn P 8 t=some ks)&&!P.eqGuardType P.depth t&&(match P.underlying t with | some (.struct _)=>true | _=>false)
theorem dT {l:List (Nat × List CK)} (h:l.all (fun p=>eqB P p.1 p.2)=true):EB P (lk l):=fun t ks ht=>by
 have:=List.all_eq_true.1 h _ (B4 ht);simp only [eqB,Bool.and_eq_true,decide_eq_true_eq,Bool.not_eq_true'] at this;obtain ⟨⟨h1,h2⟩,h3⟩:=this;refine ⟨h1,h2,?_⟩;split at h3
 . rename_i fs hfs;exact ⟨fs,hfs⟩
 . cases h3
theorem Cm.by {Γ:Tys} {eqs:Eqs} (hΓ:GOk P Γ) (hE:EB P eqs) (hm:P.follows .mixedOrders=true) {f:FuncId} {fn:Func} {p:PC} {args:List V} {Hin:Hp} {ks:List Nat} {res:Res} {H1:List (Nat × List V)} (N:Nat) (hf:P.funcs[f]?= some fn) (hc:fn.body.bind (comp fn.ntmps)=some p) (hname:(fn.name == "runtime.NumGoroutine")=false)
   (hn:args.length<=fn.ntmps) (hcl:∀ v∈args,A2 (· < N) AR v) (hids:H3 N Hin) (hks:∀ i∈ks,i<N) (hri:LD res.v H1) (h:∀ E:Ent,(∀ i,E.stab i↔i∈ks)->E.nt=fn.ntmps/\E.rq->PW P Γ eqs E p (Mh Γ fn ks res H1) ⟨Dn 0 args,Hin,N⟩):Cm P f args Hin ks res (lk H1):=by
 cases hb:fn.body with
 | none=>rw [hb] at hc;cases hc
 | some c=>rw [hb] at hc;exact Cm.intro hΓ N hf hb hname hn hcl hids hks hri fun E hE' hs hrd=>PW.sound hΓ hE hm c p (by rw [hE'];exact hc) _ _ (h E hs ⟨hE',hrd⟩)
theorem Ct.byR {Γ:Tys} {eqs:Eqs} (hΓ:GOk P Γ) (hE:EB P eqs) (hm:P.follows .mixedOrders=true) {f:FuncId} {fn:Func} {p:PC} {args:List V} {r:V} {H1:List (Nat × List V)} (hf:P.funcs[f]?= some fn) (hc:fn.body.bind (comp fn.ntmps)=some p) (hname:(fn.name == "runtime.NumGoroutine")=false)
   (hn:args.length<=fn.ntmps) (hcl:∀ v∈args,I8 v) (hri:LD r H1) (h:∀ E:Ent,(∀ i,¬ E.stab i)->E.nt=fn.ntmps/\E.rq->PW P Γ eqs E p (dL Γ fn r H1) ⟨Dn 0 args,fun _=>none,0⟩):Ct P f args r H1:=
 Cm.by hΓ hE hm 0 hf hc hname hn (fun v hv=>A2.mono (fun _ h=>h.elim) (fun _ h=>h) (hcl v hv)) nofun nofun hri fun E hs hn=>h E (fun i hi=>by have:=(hs i).1 hi;cases this) hn
theorem Ct.by {Γ:Tys} {eqs:Eqs} (hΓ:GOk P Γ) (hE:EB P eqs) (hm:P.follows .mixedOrders=true) {f:FuncId} {fn:Func} {p:PC} {args:List V} {r:V} {H1:List (Nat × List V)} (hf:P.funcs[f]?= some fn) (hc:fn.body.bind (comp fn.ntmps)=some p) (hname:(fn.name == "runtime.NumGoroutine")=false)
   (hn:args.length<=fn.ntmps) (hcl:∀ v∈args,I8 v) (hri:LD r H1) (h:∀ E:Ent,(∀ i,¬ E.stab i)->PW P Γ eqs E p (dL Γ fn r H1) ⟨Dn 0 args,fun _=>none,0⟩):Ct P f args r H1:=
 Ct.byR hΓ hE hm hf hc hname hn hcl hri fun E hs _=>h E hs
end Go.Psl
namespace Go.Psl
variable {P:Program} {Γ:Tys} {eqs:Eqs} {E:Ent}
theorem AF {α:Sort _} {a b:α} (h:a=b):a=b:=h
def rr (P:Program) (Γ:Tys) (eqs:Eqs) (Kx:V->RK) (K:RK) (b:Nat) (ops:List PO) (f:Nat->V) (H:Hp):Prop:=H8 P Γ eqs Kx b ops f H K
def rg (P:Program) (Γ:Tys) (eqs:Eqs) (x:Option Bool) (Kx:V->RK) (K:RK) (b:Nat) (o:PO) (r:List PO) (f:Nat->V) (H:Hp):Prop:=match x with
 | some true=>rr P Γ eqs Kx K b (⟨o.dst,o.op,none⟩::r) f H
 | some false=>rr P Γ eqs Kx K (b+1048576) r (Am f o.dst (.tup [])) H
 | none=>False
def goE (dst:Option Nat) (K:(Nat->V)->Hp->Prop) (f:Nat->V) (H:Hp):Option (V × Eff)->Prop
 | some (v,e)=>K (Am f dst v) (H.app e)
 | none=>False
def aK (dst:Option Nat) (K:(Nat->V)->Hp->Prop) (f:Nat->V) (v:V) (H:Hp):Prop:=K (Am f dst v) H
def xK (Kx:V->RK) (n:Nat) (f:Nat->V) (v:V) (H:Hp):Prop:=Kx v f H n
def O9 (P:Program) (m:CM) (cv:V) (az:List V) (dst:Option Nat) (b:Nat) (Kx:V->RK) (K:(Nat->V)->Hp->Prop) (f:Nat->V) (Hr H:Hp):Prop:=JW P m Hr H b cv az (aK dst K f) (xK Kx (b+1048576) f)
def rQ (Q:Av->St->Prop) (f:Nat->V) (H:Hp) (n:Nat):Prop:=Q .normal ⟨f,H,n⟩
def xQ (Q:Av->St->Prop) (v:V) (f:Nat->V) (H:Hp) (n:Nat):Prop:=Q (.pan v) ⟨f,H,n⟩
section
variable {K:RK} {Kx:V->RK} {b:Nat} {r:List PO} {f:Nat->V} {H:Hp} {dst:Option Nat} {Q:Av->St->Prop}
theorem pt {n:Nat}:rQ Q f H n=Q .normal ⟨f,H,n⟩:=AF rfl
theorem jH {v:V} {n:Nat}:xQ Q v f H n=Q (.pan v) ⟨f,H,n⟩:=AF rfl
theorem lF:rr P Γ eqs Kx K b [] f H=K f H b:=AF rfl
theorem Zo {op:Op} {d:Nat} {w:Bool}:rr P Γ eqs Kx K b (⟨dst,op,some (some d,w)⟩::r) f H=rg P Γ eqs ((gV (f d)).map fun y=>y == some w) Kx K b ⟨dst,op,none⟩ r f H:=by
 simp only [rr,rg,H8,PO.run,gV2]
 all_goals
   cases (gV (f d)).map fun y=>y == some w with
   | none=>rfl
   | some x=>cases x<;>rfl
theorem fx {o:PO}:rg P Γ eqs (some true) Kx K b o r f H=rr P Γ eqs Kx K b (⟨o.dst,o.op,none⟩::r) f H:=AF rfl
theorem Zp {o:PO}:rg P Γ eqs (some false) Kx K b o r f H=rr P Γ eqs Kx K (b+1048576) r (Am f o.dst (.tup [])) H:=AF rfl
theorem bu {o:PO} {x:Bool} (h1:x=true->rr P Γ eqs Kx K b (⟨o.dst,o.op,none⟩::r) f H) (h2:x=false->rr P Γ eqs Kx K (b+1048576) r (Am f o.dst (.tup [])) H):rg P Γ eqs (some x) Kx K b o r f H:=by
 cases x
 . exact h2 rfl
 . exact h1 rfl
def PA:Op->Bool
 | .call c=>match c.callee with | .value _=>true | _=>false
 | .panic _=>true
 | _=>false
theorem Br {op:Op} (h:PA op=false):rr P Γ eqs Kx K b (⟨dst,op,none⟩::r) f H=goE dst (rr P Γ eqs Kx K (b+1048576) r) f H (A9 Γ eqs H b f op):=by
 show PO.run P Γ eqs ⟨dst,op,none⟩ b f H (fun f H=>H8 P Γ eqs Kx (b+1048576) r f H K) Kx=_
 simp only [PO.run,gV2,Fa];cases h1:A9 Γ eqs H b f op with
 | none=>
   cases op with
   | call c=>obtain ⟨cc,az,ts⟩:=c;cases cc<;>first | rfl | (cases h;done)
   | panic x=>cases h
   | _=>rfl
 | some p=>obtain ⟨v,e⟩:=p;rfl
theorem fy {x:Operand}:rr P Γ eqs Kx K b (⟨dst, .move x,none⟩::r) f H=rr P Γ eqs Kx K (b+1048576) r (Am f dst (evF f x)) H:=AF rfl
theorem Vn {x:Operand}:rr P Γ eqs Kx K b (⟨dst, .assign x,none⟩::r) f H=rr P Γ eqs Kx K (b+1048576) r (Am f dst (evF f x)) H:=AF rfl
theorem APz {c x y:Operand}:rr P Γ eqs Kx K b (⟨dst, .pick c x y,none⟩::r) f H=goE dst (rr P Γ eqs Kx K (b+1048576) r) f H (Jo (evF f c) (evF f x) (evF f y)):=Br rfl
theorem Zq {t:TypeId}:rr P Γ eqs Kx K b (⟨dst, .alloc t,none⟩::r) f H=goE dst (rr P Γ eqs Kx K (b+1048576) r) f H (Nx Γ b t):=Br rfl
theorem lG {t:TypeId} {x:Operand}:rr P Γ eqs Kx K b (⟨dst, .box t x,none⟩::r) f H=goE dst (rr P Γ eqs Kx K (b+1048576) r) f H (iW b (evF f x)):=Br rfl
theorem Zr {t:TypeId} {ps:List (Nat × Operand)}:rr P Γ eqs Kx K b (⟨dst, .build t ps.toArray,none⟩::r) f H=goE dst (rr P Γ eqs Kx K (b+1048576) r) f H (JU Γ t (ED f ps)):=Br rfl
theorem Lm {t:TypeId} {n:Nat} {ps:List (Nat × Operand)}:rr P Γ eqs Kx K b (⟨dst, .buildSlice t n ps.toArray,none⟩::r) f H=goE dst (rr P Γ eqs Kx K (b+1048576) r) f H (Rz Γ b t n (ED f ps)):=Br rfl
theorem lH {t:TypeId} {x y:Operand}:rr P Γ eqs Kx K b (⟨dst, .makeSlice t x y,none⟩::r) f H=goE dst (rr P Γ eqs Kx K (b+1048576) r) f H (Wi Γ b t (evF f x) (evF f y)):=Br rfl
theorem Zs {t:TypeId} {k k':IntKind} {n m:Int}:Wi Γ b t (.d (.lit (.int k n))) (.d (.lit (.int k' m)))=(Γ t).bind fun y=>match y.sh with
   | .slice e=>(Γ e).bind fun ye=>if 0<ye.size/\0<=n/\n<=m/\m.toNat*ye.bytes<=Fh/\m<=maxL then some (.ls b 0 n.toNat ye.size, .new b (AM n.toNat (ye.zero.map cV))) else none
   | _=>none:=by
 unfold Wi;congr 1
theorem AKG {t:TypeId}:rr P Γ eqs Kx K b (⟨dst, .makeMap t none,none⟩::r) f H=rr P Γ eqs Kx K (b+1048576) r (Am f dst (.yl b)) (upd H b (some (Qo []))):=Br rfl
theorem AJW {t:TypeId} {m k x:Operand}:rr P Γ eqs Kx K b (⟨dst, .mapUpdate t m k x,none⟩::r) f H=goE dst (rr P Γ eqs Kx K (b+1048576) r) f H (AJ3 Γ eqs H t (evF f m) (evF f k) (evF f x)):=Br rfl
theorem AKR {t:TypeId} {m k x:Operand}:rr P Γ eqs Kx K b (⟨dst, .insert t m k x,none⟩::r) f H=goE dst (rr P Γ eqs Kx K (b+1048576) r) f H (AJ3 Γ eqs H t (evF f m) (evF f k) (evF f x)):=Br rfl
theorem AKS {t:TypeId} {m k:Operand} {ok:Bool}:rr P Γ eqs Kx K b (⟨dst, .lookup t m k ok,none⟩::r) f H=goE dst (rr P Γ eqs Kx K (b+1048576) r) f H (AJU Γ eqs H t (evF f m) (evF f k) ok):=Br rfl
theorem AKk {t:TypeId} {id:Nat} {v:Value}:AE6 Γ eqs H t (.yl id) (.d (.lit v))=(Γ t).bind fun y=>match y.sh with
   | .map kt et=>(Γ kt).bind fun yk=>(H id).bind fun cs=>(AFj cs).bind fun es=>if (AKb yk.sh v||AUZ eqs kt v)=true then (AA4 v es 0).map fun r=>(id,es,v,r,et) else none
   | _=>none:=AF rfl
theorem AUT {t:TypeId} {id:Nat} {vs:List V}:AE6 Γ eqs H t (.yl id) (.agg vs)=(Γ t).bind fun y=>match y.sh with
   | .map kt et=>(Γ kt).bind fun yk=>(H id).bind fun cs=>(AFj cs).bind fun es=>((AUD vs).map fun vs=>Value.agg vs.toArray).bind fun v=>if (AKb yk.sh v||AUZ eqs kt v)=true then (AA4 v es 0).map fun r=>(id,es,v,r,et) else none
   | _=>none:=AF rfl
theorem AUv:AUD []=some []:=AF rfl
theorem AUU {v:Value} {r:List V}:AUD (.d (.lit v)::r)=(AUD r).map fun vs=>v::vs:=AF rfl
theorem AUw {t:TypeId} {a:Array Value}:AUZ eqs t (.agg a)=match eqs t with | some ks=>FR ks a.toList | none=>false:=AF rfl
theorem AUH:FR [] []=true:=AF rfl
theorem AT6 {k:CK} {ks:List CK} {v:Value} {vs:List Value}:FR (k::ks) (v::vs)=(ATr k v&&FR ks vs):=AF rfl
theorem AUV {k:IntKind} {n:Int}:ATr .int (.int k n)=true:=AF rfl
theorem AUI {b:Bool}:ATr .bool (.bool b)=true:=AF rfl
theorem AUW {a b:Array Value}:nX (.agg a) (.agg b)=G5 a.toList b.toList:=AF rfl
theorem AUJ:G5 [] []=some true:=AF rfl
theorem AT7 {a b:Value} {az bs:List Value}:G5 (a::az) (b::bs)=(K1 a b).bind fun r=>(G5 az bs).map fun s=>r&&s:=AF rfl
theorem AUK {k k':IntKind} {a b:Int}:K1 (.int k a) (.int k' b)=if k=k' then some (a == b) else none:=AF rfl
theorem AT8 {a b:Bool}:K1 (.bool a) (.bool b)=some (a == b):=AF rfl
theorem AKl {es:List (Value × Bool × List D)}:AFj (Qo es)=some es:=AF rfl
theorem AKm {k k':IntKind} {n:Int}:AKb (.int k) (.int k' n)=true:=AF rfl
theorem AKn {s:ByteArray}:AKb .str (.string s)=true:=AF rfl
theorem AKo {t:TypeId} {m k:V} {ok:Bool}:AJU Γ eqs H t m k ok=(AE6 Γ eqs H t m k).bind fun p=>(Γ p.2.2.2.2).bind fun ye=>match p.2.2.2.1 with
   | some i=>(p.2.1[i]?).bind fun e=>(AKc e).map fun v=>(if ok then .tup [v,cV (.bool true)] else v, .none)
   | none=>some (if ok then .tup [mkV ye.agg (ye.zero.map cV),cV (.bool false)] else mkV ye.agg (ye.zero.map cV), .none):=AF rfl
theorem AK6 {t:TypeId} {m k x:V}:AJ3 Γ eqs H t m k x=(AE6 Γ eqs H t m k).bind fun p=>(AJO x).map fun d=>match p.2.2.2.1 with
   | some i=>(.junk, .put p.1 (Qo (p.2.1.set i (p.2.2.1,d))))
   | none=>(.junk, .put p.1 (Qo (p.2.1++[(p.2.2.1,d)]))):=AF rfl
theorem AK7 {x:D}:AJO (.d x)=some (false,[x]):=AF rfl
theorem AKT {cs:List V}:AJO (.agg cs)=(Ff cs).map fun ds=>(true,ds):=AF rfl
theorem AK8 {k:Value} {ag:Bool} {ds:List D}:AKc (k,ag,ds)=We ds ag:=AF rfl
theorem ACO {t:TypeId} {x:Operand}:rr P Γ eqs Kx K b (⟨dst, .load t x,none⟩::r) f H=goE dst (rr P Γ eqs Kx K (b+1048576) r) f H (EO Γ H t (evF f x)):=Br rfl
theorem Zt {t:TypeId} {x y:Operand}:rr P Γ eqs Kx K b (⟨dst, .store t x y,none⟩::r) f H=goE dst (rr P Γ eqs Kx K (b+1048576) r) f H (ALr Γ H t (evF f x) (evF f y)):=Br rfl
theorem lI {o:BinOp} {t t':TypeId} {x y:Operand}:rr P Γ eqs Kx K b (⟨dst, .binOp o t x y t',none⟩::r) f H=goE dst (rr P Γ eqs Kx K (b+1048576) r) f H (FV Γ eqs o t (evF f x) (evF f y)):=Br rfl
theorem Ab8 {o:UnOp} {t:TypeId} {x:Operand}:rr P Γ eqs Kx K b (⟨dst, .unOp o t x,none⟩::r) f H=goE dst (rr P Γ eqs Kx K (b+1048576) r) f H (unF o (evF f x)):=Br rfl
theorem gB {s t:TypeId} {x:Operand}:rr P Γ eqs Kx K b (⟨dst, .convert s t x,none⟩::r) f H=goE dst (rr P Γ eqs Kx K (b+1048576) r) f H (Lb Γ H b s t (evF f x)):=Br rfl
theorem Zu {t:TypeId} {x:Operand}:rr P Γ eqs Kx K b (⟨dst, .makeInterface t x,none⟩::r) f H=goE dst (rr P Γ eqs Kx K (b+1048576) r) f H (Sf Γ t (evF f x)):=Br rfl
theorem Vo {s t:TypeId} {x:Operand}:rr P Γ eqs Kx K b (⟨dst, .typeAssert x s t false,none⟩::r) f H=goE dst (rr P Γ eqs Kx K (b+1048576) r) f H (Wf Γ t (evF f x)):=Br rfl
theorem PB {x:Operand}:rr P Γ eqs Kx K b (⟨dst, .nilCheck x,none⟩::r) f H=goE dst (rr P Γ eqs Kx K (b+1048576) r) f H (Se (evF f x)):=Br rfl
theorem RG {i:Nat} {x:Operand}:rr P Γ eqs Kx K b (⟨dst, .extract x i,none⟩::r) f H=goE dst (rr P Γ eqs Kx K (b+1048576) r) f H (Mc (evF f x) i):=Br rfl
theorem NQ {t:TypeId} {i:Nat} {x:Operand}:rr P Γ eqs Kx K b (⟨dst, .fieldAddr t x i,none⟩::r) f H=goE dst (rr P Γ eqs Kx K (b+1048576) r) f H (Hv Γ t (evF f x) i):=Br rfl
theorem Zv {t:TypeId} {i:Nat} {x:Operand}:rr P Γ eqs Kx K b (⟨dst, .field t x i,none⟩::r) f H=goE dst (rr P Γ eqs Kx K (b+1048576) r) f H (JV Γ t (evF f x) i):=Br rfl
theorem NR {t:TypeId} {x y:Operand}:rr P Γ eqs Kx K b (⟨dst, .indexAddr t x y,none⟩::r) f H=goE dst (rr P Γ eqs Kx K (b+1048576) r) f H (DC Γ t (evF f x) (evF f y)):=Br rfl
theorem Zw {t:TypeId} {x y:Operand}:rr P Γ eqs Kx K b (⟨dst, .index t x y,none⟩::r) f H=goE dst (rr P Γ eqs Kx K (b+1048576) r) f H (FS Γ t (evF f x) (evF f y)):=Br rfl
theorem Zx {t:TypeId} {x:Operand} {lo hi:Option Operand}:rr P Γ eqs Kx K b (⟨dst, .slice t x lo hi none,none⟩::r) f H=goE dst (rr P Γ eqs Kx K (b+1048576) r) f H (CA Γ H t (evF f x) (lo.map (evF f)) (hi.map (evF f))):=Br rfl
theorem AQp {g:FuncId} {x:Operand}:rr P Γ eqs Kx K b (⟨dst, .makeFunc (.func g) #[x] #[],none⟩::r) f H=goE dst (rr P Γ eqs Kx K (b+1048576) r) f H (APc g (evF f x) 0):=Br rfl
theorem ANi {g:FuncId} {k k' k'':IntKind} {a b c:Int}:APc g (.agg [.d (.lit (.int k a)), .d (.lit (.int k' b)), .d (.lit (.int k'' c))]) 0=some (.d (.lit (.func (.func g) #[.agg #[.int k a, .int k' b, .int k'' c]] #[])), .none):=rfl
theorem PD {g:FuncId} {cs:List Operand}:rr P Γ eqs Kx K b (⟨dst, .makeFunc (.func g) #[] cs.toArray,none⟩::r) f H=goE dst (rr P Γ eqs Kx K (b+1048576) r) f H (G8 g 0 (BX f cs)):=Br rfl
theorem lJ {t:TypeId} {x:Operand}:rr P Γ eqs Kx K b (⟨dst, .call ⟨.builtin .len,#[x],#[t]⟩,none⟩::r) f H=goE dst (rr P Γ eqs Kx K (b+1048576) r) f H (Iy Γ t (evF f x)):=Br rfl
theorem lK {xs:List Operand} {ts:Array TypeId}:rr P Γ eqs Kx K b (⟨dst, .call ⟨.builtin .max,xs.toArray,ts⟩,none⟩::r) f H=goE dst (rr P Γ eqs Kx K (b+1048576) r) f H (AYJ (BX f xs)):=Br rfl
theorem lL {xs:List Operand} {ts:Array TypeId}:rr P Γ eqs Kx K b (⟨dst, .call ⟨.builtin .min,xs.toArray,ts⟩,none⟩::r) f H=goE dst (rr P Γ eqs Kx K (b+1048576) r) f H (AYK (BX f xs)):=Br rfl
theorem Zy {t:TypeId} {x:Operand}:rr P Γ eqs Kx K b (⟨dst, .call ⟨.builtin .clear,#[x],#[t]⟩,none⟩::r) f H=goE dst (rr P Γ eqs Kx K (b+1048576) r) f H (d8 Γ H t (evF f x)):=Br rfl
theorem Vp {t:TypeId} {x y:Operand}:rr P Γ eqs Kx K b (⟨dst, .call ⟨.builtin .append,#[x,y],#[t,t]⟩,none⟩::r) f H=goE dst (rr P Γ eqs Kx K (b+1048576) r) f H (Lr Γ H b t (evF f x) (evF f y)):=by
 rw [Br rfl];simp [A9]
theorem lM {t:TypeId} {x:Operand}:rr P Γ eqs Kx K b (⟨dst, .call ⟨.builtin .cap,#[x],#[t]⟩,none⟩::r) f H=goE dst (rr P Γ eqs Kx K (b+1048576) r) f H (Wg Γ t (evF f x)):=Br rfl
theorem lN {t t':TypeId} {x y:Operand} (h:(t == t')=false):rr P Γ eqs Kx K b (⟨dst, .call ⟨.builtin .append,#[x,y],#[t,t']⟩,none⟩::r) f H=goE dst (rr P Γ eqs Kx K (b+1048576) r) f H (Wh Γ b t t' (evF f x) (evF f y)):=by
 rw [Br rfl];have h2:¬ t=t':=by simpa using h
 simp [A9,h2]
theorem Zz {t:TypeId} {p:Option Addr} {n c:Nat}:Wg Γ t (.d (.lit (.slice p n c)))=(Γ t).bind fun y=>match y.sh with | .slice _=>some (cV (.int .i64 0), .none) | _=>none:=by
 unfold Wg;congr 1;funext y;cases y.sh<;>rfl
theorem Z0 {t t':TypeId} {p:Option Addr} {n c:Nat} {k:IntKind} {m:Int}:Wh Γ b t t' (.d (.lit (.slice p n c))) (.d (.lit (.int k m)))=(Γ t).bind fun y=>match y.sh with
   | .slice e=>(Γ e).bind fun ye=>(Γ t').bind fun y'=>match y'.sh with
     | .int _=>if 0<ye.size/\0<=m/\m.toNat*ye.bytes<=Fh/\m.toNat<=maxL then some (.ls b 0 m.toNat ye.size, .new b (AM m.toNat (ye.zero.map cV))) else none
     | _=>none
   | _=>none:=by
 unfold Wh;congr 1;funext y;cases y.sh with
 | slice e=>
   simp only;congr 1;funext ye;congr 1;funext y';cases y'.sh<;>rfl
 | _=>rfl
theorem gC {fo:Operand} {xs:List Operand} {ts:Array TypeId}:rr P Γ eqs Kx K b (⟨dst, .call ⟨.value fo,xs.toArray,ts⟩,none⟩::r) f H=O9 P none (evF f fo) (BX f xs) dst b Kx (rr P Γ eqs Kx K (b+1048576) r) f H H:=AF rfl
theorem Z1 {Kp:(Nat->V)->Hp->Prop} {v:V}:goE dst Kp f H (some (v, .none))=Kp (Am f dst v) H:=AF rfl
theorem gD {Kp:(Nat->V)->Hp->Prop} {v:V} {i:Nat} {cs:List V}:goE dst Kp f H (some (v, .new i cs))=Kp (Am f dst v) (upd H i (some cs)):=AF rfl
theorem ACS {Kp:(Nat->V)->Hp->Prop} {v:V} {i:Nat} {cs:List V}:goE dst Kp f H (some (v, .put i cs))=Kp (Am f dst v) (upd H i (some cs)):=AF rfl
theorem gF {Kp:(Nat->V)->Hp->Prop} {v:V} {i j:Nat} {cs:List V}:goE dst Kp f H (some (v, .mov i j cs))=Kp (Am f dst v) (upd (upd H i none) j (some cs)):=AF rfl
theorem Z2 {m:CM} {g:FuncId} {caps:List D} {az:List V} {Hr:Hp} {Kp:(Nat->V)->Hp->Prop}:O9 P m (.d (.fn g caps)) az dst b Kx Kp f Hr H=AU P m Hr H b g (az++caps.map .d) (aK dst Kp f) (xK Kx (b+1048576) f):=AF rfl
theorem Z3 {m:CM} {g:FuncId} {caps az:List V} {Hr:Hp} {Kp:(Nat->V)->Hp->Prop}:O9 P m (.cl g caps) az dst b Kx Kp f Hr H=AU P m Hr H b g (az++caps) (aK dst Kp f) (xK Kx (b+1048576) f):=AF rfl
theorem AOe {m:CM} {g:FuncId} {k k' k'':IntKind} {x y z:Int} {az:List V} {Hr:Hp} {Kp:(Nat->V)->Hp->Prop}:O9 P m (.d (.lit (.func (.func g) #[.agg #[.int k x, .int k' y, .int k'' z]] #[]))) az dst b Kx Kp f Hr H=AU P m Hr H b g (.agg [.d (.lit (.int k x)), .d (.lit (.int k' y)), .d (.lit (.int k'' z))]::az) (aK dst Kp f) (xK Kx (b+1048576) f):=AF rfl
theorem Z4 {m:CM} {k:Nat} {az:List V} {Hr:Hp} {Kp:(Nat->V)->Hp->Prop}:O9 P m (.yl k) az dst b Kx Kp f Hr H=Fp P m Hr H b k az (aK dst Kp f) (xK Kx (b+1048576) f):=AF rfl
theorem pv {Kp:(Nat->V)->Hp->Prop} {v:V}:aK dst Kp f v H=Kp (Am f dst v) H:=AF rfl
theorem pw {v:V} {n:Nat}:xK Kx n f v H=Kx v f H n:=AF rfl
theorem RH {t:Nat} {v:V}:Am f (some t) v=upd f t v:=AF rfl
theorem RI {v:V}:Am f none v=f:=AF rfl
def dd (P:Program) (Γ:Tys) (eqs:Eqs) (ws:List (Nat × Nat)) (cl:List Nat) (n0:Nat) (Z:V->Prop) (K:(Nat->V)->Hp->Nat->Prop) (k b:Nat) (ops:List PO) (f:Nat->V) (H:Hp):Prop:=runD P Γ eqs ws cl n0 Z k b ops f H K
def dg (P:Program) (Γ:Tys) (eqs:Eqs) (ws:List (Nat × Nat)) (cl:List Nat) (n0:Nat) (Z:V->Prop) (x:Option Bool) (K:(Nat->V)->Hp->Nat->Prop) (k b:Nat) (o:PO) (r:List PO) (f:Nat->V) (H:Hp):Prop:=match x with
 | some true=>dd P Γ eqs ws cl n0 Z K k b (⟨o.dst,o.op,none⟩::r) f H
 | some false=>dd P Γ eqs ws cl n0 Z K (k+1) (b+1048576) r (Am f o.dst (.tup [])) H
 | none=>False
def goD (ws:List (Nat × Nat)) (k:Nat) (dst:Option Nat) (b:Nat) (K:(Nat->V)->Hp->Prop) (f:Nat->V) (H:Hp):Option (V × Eff)->Prop
 | some (v, .none)=>K (Am f dst v) H
 | some (v, .new i cs)=>i=b/\K (Am f dst v) (upd H b (some cs))
 | some (v, .put i cs)=>(k,i)∈ws/\K (Am f dst v) (upd H i (some cs))
 | some (v, .mov i j cs)=>((k,i)∈ws/\j=b)/\K (Am f dst v) (upd (upd H i none) b (some cs))
 | none=>False
variable {ws:List (Nat × Nat)} {cl:List Nat} {n0 k:Nat} {Z:V->Prop}
theorem lO:dd P Γ eqs ws cl n0 Z K k b [] f H=K f H b:=AF rfl
theorem Z5 {op:Op} {d:Nat} {w:Bool}:dd P Γ eqs ws cl n0 Z K k b (⟨dst,op,some (some d,w)⟩::r) f H=dg P Γ eqs ws cl n0 Z ((gV (f d)).map fun y=>y == some w) K k b ⟨dst,op,none⟩ r f H:=by
 simp only [dd,dg,runD,PO.runD,gV2]
 all_goals
   cases (gV (f d)).map fun y=>y == some w with
   | none=>rfl
   | some x=>cases x<;>rfl
theorem gG {o:PO}:dg P Γ eqs ws cl n0 Z (some true) K k b o r f H=dd P Γ eqs ws cl n0 Z K k b (⟨o.dst,o.op,none⟩::r) f H:=AF rfl
theorem Z6 {o:PO}:dg P Γ eqs ws cl n0 Z (some false) K k b o r f H=dd P Γ eqs ws cl n0 Z K (k+1) (b+1048576) r (Am f o.dst (.tup [])) H:=AF rfl
theorem e9 {o:PO} {x:Bool} (h1:x=true->dd P Γ eqs ws cl n0 Z K k b (⟨o.dst,o.op,none⟩::r) f H) (h2:x=false->dd P Γ eqs ws cl n0 Z K (k+1) (b+1048576) r (Am f o.dst (.tup [])) H):dg P Γ eqs ws cl n0 Z (some x) K k b o r f H:=by
 cases x
 . exact h2 rfl
 . exact h1 rfl
theorem CE {op:Op} (h:PA op=false):dd P Γ eqs ws cl n0 Z K k b (⟨dst,op,none⟩::r) f H=goD ws k dst b (dd P Γ eqs ws cl n0 Z K (k+1) (b+1048576) r) f H (A9 Γ eqs (Hcl ws cl k n0 H) b f op):=by
 show PO.runD P Γ eqs ws k ⟨dst,op,none⟩ b f _ H _ (fun f H=>runD P Γ eqs ws cl n0 Z (k+1) (b+1048576) r f H K)=_
 simp only [PO.runD,gV2,Fa];cases h1:A9 Γ eqs (Hcl ws cl k n0 H) b f op with
 | none=>
   cases op with
   | call c=>obtain ⟨cc,az,ts⟩:=c;cases cc<;>first | rfl | (cases h;done)
   | panic x=>cases h
   | _=>rfl
 | some p=>obtain ⟨v,e⟩:=p;cases e<;>rfl
theorem Z7 {Kp:(Nat->V)->Hp->Prop} {v:V}:goD ws k dst b Kp f H (some (v, .none))=Kp (Am f dst v) H:=AF rfl
theorem gH {Kp:(Nat->V)->Hp->Prop} {v:V} {cs:List V}:goD ws k dst b Kp f H (some (v, .new b cs))=Kp (Am f dst v) (upd H b (some cs)):=by simp [goD]
theorem gI {Kp:(Nat->V)->Hp->Prop} {v:V} {i:Nat} {cs:List V}:goD ws k dst b Kp f H (some (v, .put i cs))=((k,i)∈ws/\Kp (Am f dst v) (upd H i (some cs))):=AF rfl
theorem gJ {Kp:(Nat->V)->Hp->Prop} {v:V} {i:Nat} {cs:List V}:goD ws k dst b Kp f H (some (v, .mov i b cs))=((k,i)∈ws/\Kp (Am f dst v) (upd (upd H i none) b (some cs))):=by simp [goD]
theorem Vq {t:TypeId} {x y:Operand}:dd P Γ eqs ws cl n0 Z K k b (⟨dst, .call ⟨.builtin .append,#[x,y],#[t,t]⟩,none⟩::r) f H=goD ws k dst b (dd P Γ eqs ws cl n0 Z K (k+1) (b+1048576) r) f H (Lr Γ (Hcl ws cl k n0 H) b t (evF f x) (evF f y)):=by
 rw [CE rfl];simp [A9]
theorem Z8 {t:TypeId} {x y:Operand}:dd P Γ eqs ws cl n0 Z K k b (⟨dst, .store t x y,none⟩::r) f H=goD ws k dst b (dd P Γ eqs ws cl n0 Z K (k+1) (b+1048576) r) f H (ALr Γ (Hcl ws cl k n0 H) t (evF f x) (evF f y)):=CE rfl
theorem gK {x:Operand}:dd P Γ eqs ws cl n0 Z K k b (⟨dst, .move x,none⟩::r) f H=dd P Γ eqs ws cl n0 Z K (k+1) (b+1048576) r (Am f dst (evF f x)) H:=AF rfl
theorem Vr {x:Operand}:dd P Γ eqs ws cl n0 Z K k b (⟨dst, .assign x,none⟩::r) f H=dd P Γ eqs ws cl n0 Z K (k+1) (b+1048576) r (Am f dst (evF f x)) H:=AF rfl
theorem gL {c x y:Operand}:dd P Γ eqs ws cl n0 Z K k b (⟨dst, .pick c x y,none⟩::r) f H=goD ws k dst b (dd P Γ eqs ws cl n0 Z K (k+1) (b+1048576) r) f H (Jo (evF f c) (evF f x) (evF f y)):=CE rfl
theorem Z9 {t:TypeId}:dd P Γ eqs ws cl n0 Z K k b (⟨dst, .alloc t,none⟩::r) f H=goD ws k dst b (dd P Γ eqs ws cl n0 Z K (k+1) (b+1048576) r) f H (Nx Γ b t):=CE rfl
theorem lP {t:TypeId} {x:Operand}:dd P Γ eqs ws cl n0 Z K k b (⟨dst, .box t x,none⟩::r) f H=goD ws k dst b (dd P Γ eqs ws cl n0 Z K (k+1) (b+1048576) r) f H (iW b (evF f x)):=CE rfl
theorem aA {t:TypeId} {ps:List (Nat × Operand)}:dd P Γ eqs ws cl n0 Z K k b (⟨dst, .build t ps.toArray,none⟩::r) f H=goD ws k dst b (dd P Γ eqs ws cl n0 Z K (k+1) (b+1048576) r) f H (JU Γ t (ED f ps)):=CE rfl
theorem Ln {t:TypeId} {n:Nat} {ps:List (Nat × Operand)}:dd P Γ eqs ws cl n0 Z K k b (⟨dst, .buildSlice t n ps.toArray,none⟩::r) f H=goD ws k dst b (dd P Γ eqs ws cl n0 Z K (k+1) (b+1048576) r) f H (Rz Γ b t n (ED f ps)):=CE rfl
theorem AJX {t:TypeId} {m x y:Operand}:dd P Γ eqs ws cl n0 Z K k b (⟨dst, .mapUpdate t m x y,none⟩::r) f H=goD ws k dst b (dd P Γ eqs ws cl n0 Z K (k+1) (b+1048576) r) f H (AJ3 Γ eqs (Hcl ws cl k n0 H) t (evF f m) (evF f x) (evF f y)):=CE rfl
theorem AKU {t:TypeId} {m x:Operand} {ok:Bool}:dd P Γ eqs ws cl n0 Z K k b (⟨dst, .lookup t m x ok,none⟩::r) f H=goD ws k dst b (dd P Γ eqs ws cl n0 Z K (k+1) (b+1048576) r) f H (AJU Γ eqs (Hcl ws cl k n0 H) t (evF f m) (evF f x) ok):=CE rfl
theorem gM {t:TypeId} {x:Operand}:dd P Γ eqs ws cl n0 Z K k b (⟨dst, .load t x,none⟩::r) f H=goD ws k dst b (dd P Γ eqs ws cl n0 Z K (k+1) (b+1048576) r) f H (EO Γ (Hcl ws cl k n0 H) t (evF f x)):=CE rfl
theorem lQ {o:BinOp} {t t':TypeId} {x y:Operand}:dd P Γ eqs ws cl n0 Z K k b (⟨dst, .binOp o t x y t',none⟩::r) f H=goD ws k dst b (dd P Γ eqs ws cl n0 Z K (k+1) (b+1048576) r) f H (FV Γ eqs o t (evF f x) (evF f y)):=CE rfl
theorem py {o:UnOp} {t:TypeId} {x:Operand}:dd P Γ eqs ws cl n0 Z K k b (⟨dst, .unOp o t x,none⟩::r) f H=goD ws k dst b (dd P Γ eqs ws cl n0 Z K (k+1) (b+1048576) r) f H (unF o (evF f x)):=CE rfl
theorem gN {s t:TypeId} {x:Operand}:dd P Γ eqs ws cl n0 Z K k b (⟨dst, .convert s t x,none⟩::r) f H=goD ws k dst b (dd P Γ eqs ws cl n0 Z K (k+1) (b+1048576) r) f H (Lb Γ (Hcl ws cl k n0 H) b s t (evF f x)):=CE rfl
theorem aB {t:TypeId} {x:Operand}:dd P Γ eqs ws cl n0 Z K k b (⟨dst, .makeInterface t x,none⟩::r) f H=goD ws k dst b (dd P Γ eqs ws cl n0 Z K (k+1) (b+1048576) r) f H (Sf Γ t (evF f x)):=CE rfl
theorem PE {x:Operand}:dd P Γ eqs ws cl n0 Z K k b (⟨dst, .nilCheck x,none⟩::r) f H=goD ws k dst b (dd P Γ eqs ws cl n0 Z K (k+1) (b+1048576) r) f H (Se (evF f x)):=CE rfl
theorem RJ {i:Nat} {x:Operand}:dd P Γ eqs ws cl n0 Z K k b (⟨dst, .extract x i,none⟩::r) f H=goD ws k dst b (dd P Γ eqs ws cl n0 Z K (k+1) (b+1048576) r) f H (Mc (evF f x) i):=CE rfl
theorem NS {t:TypeId} {i:Nat} {x:Operand}:dd P Γ eqs ws cl n0 Z K k b (⟨dst, .fieldAddr t x i,none⟩::r) f H=goD ws k dst b (dd P Γ eqs ws cl n0 Z K (k+1) (b+1048576) r) f H (Hv Γ t (evF f x) i):=CE rfl
theorem aC {t:TypeId} {i:Nat} {x:Operand}:dd P Γ eqs ws cl n0 Z K k b (⟨dst, .field t x i,none⟩::r) f H=goD ws k dst b (dd P Γ eqs ws cl n0 Z K (k+1) (b+1048576) r) f H (JV Γ t (evF f x) i):=CE rfl
theorem NT {t:TypeId} {x y:Operand}:dd P Γ eqs ws cl n0 Z K k b (⟨dst, .indexAddr t x y,none⟩::r) f H=goD ws k dst b (dd P Γ eqs ws cl n0 Z K (k+1) (b+1048576) r) f H (DC Γ t (evF f x) (evF f y)):=CE rfl
theorem aD {t:TypeId} {x y:Operand}:dd P Γ eqs ws cl n0 Z K k b (⟨dst, .index t x y,none⟩::r) f H=goD ws k dst b (dd P Γ eqs ws cl n0 Z K (k+1) (b+1048576) r) f H (FS Γ t (evF f x) (evF f y)):=CE rfl
theorem aF {t:TypeId} {x:Operand} {lo hi:Option Operand}:dd P Γ eqs ws cl n0 Z K k b (⟨dst, .slice t x lo hi none,none⟩::r) f H=goD ws k dst b (dd P Γ eqs ws cl n0 Z K (k+1) (b+1048576) r) f H (CA Γ (Hcl ws cl k n0 H) t (evF f x) (lo.map (evF f)) (hi.map (evF f))):=CE rfl
theorem PF {g:FuncId} {cs:List Operand}:dd P Γ eqs ws cl n0 Z K k b (⟨dst, .makeFunc (.func g) #[] cs.toArray,none⟩::r) f H=goD ws k dst b (dd P Γ eqs ws cl n0 Z K (k+1) (b+1048576) r) f H (G8 g 0 (BX f cs)):=CE rfl
theorem I6 {t:TypeId} {x:Operand}:dd P Γ eqs ws cl n0 Z K k b (⟨dst, .call ⟨.builtin .len,#[x],#[t]⟩,none⟩::r) f H=goD ws k dst b (dd P Γ eqs ws cl n0 Z K (k+1) (b+1048576) r) f H (Iy Γ t (evF f x)):=CE rfl
theorem lR {xs:List Operand} {ts:Array TypeId}:dd P Γ eqs ws cl n0 Z K k b (⟨dst, .call ⟨.builtin .max,xs.toArray,ts⟩,none⟩::r) f H=goD ws k dst b (dd P Γ eqs ws cl n0 Z K (k+1) (b+1048576) r) f H (AYJ (BX f xs)):=CE rfl
theorem lS {xs:List Operand} {ts:Array TypeId}:dd P Γ eqs ws cl n0 Z K k b (⟨dst, .call ⟨.builtin .min,xs.toArray,ts⟩,none⟩::r) f H=goD ws k dst b (dd P Γ eqs ws cl n0 Z K (k+1) (b+1048576) r) f H (AYK (BX f xs)):=CE rfl
theorem gO {fo:Operand} {xs:List Operand} {ts:Array TypeId}:dd P Γ eqs ws cl n0 Z K k b (⟨dst, .call ⟨.value fo,xs.toArray,ts⟩,none⟩::r) f H=O9 P (some (ws,k)) (evF f fo) (BX f xs) dst b (fun v _ _ _=>Z v/\Rj P Γ eqs ws cl n0 k (k+1) (b+1048576) r f H) (dd P Γ eqs ws cl n0 Z K (k+1) (b+1048576) r) f (Hcl ws cl k n0 H) H:=AF rfl
theorem lT {i:Nat}:Hcl ws cl k n0 H i=if (i<n0\/inC cl k ((i-n0)/1048576)=true)/\br ws cl k i=true then H i else none:=AF rfl
theorem aG {i:Nat}:br [] cl k i=true:=AF rfl
theorem Vs {i j x:Nat} {r:List (Nat × Nat)}:br ((j,x)::r) cl k i=((x != i||j == k||inC cl k j||inC cl j k)&&br r cl k i):=AF rfl
theorem lV {k0:Nat}:Rj P Γ eqs ws cl n0 k0 k b [] f H=True:=AF rfl
theorem gP {k0:Nat} {o:PO} (h:inC cl k k0=true):Rj P Γ eqs ws cl n0 k0 k b (o::r) f H=Rj P Γ eqs ws cl n0 k0 (k+1) (b+1048576) r f H:=by
 simp [Rj,h]
theorem gQ {k0:Nat} {o:PO} (h:inC cl k k0=false):Rj P Γ eqs ws cl n0 k0 k b (o::r) f H=dd P Γ eqs ws cl n0 (fun _=>False) (fun f H b'=>Rj P Γ eqs ws cl n0 k0 (k+1) b' r f H) k b [o] f H:=by
 simp only [Rj,h,dd,runD,false_and];simp
def zQ (Q:Av->St->Prop) (v:V):Prop:=∀ st,Q (.pan v) st
theorem pz {Q:Av->St->Prop} {v:V}:zQ Q v=∀ st,Q (.pan v) st:=AF rfl
def bsK (P:Program) (Γ:Tys) (eqs:Eqs) (bs:List PO) (Q:Av->St->Prop) (f:Nat->V) (H:Hp) (n:Nat):Prop:=rr P Γ eqs (xQ Q) (rQ Q) n bs f H
variable {n:Nat}
theorem lW {bs:List PO}:bsK P Γ eqs bs Q f H n=rr P Γ eqs (xQ Q) (rQ Q) n bs f H:=AF rfl
theorem lX {ops:List PO}:PW P Γ eqs E (.reg ops) Q ⟨f,H,n⟩=rr P Γ eqs (xQ Q) (rQ Q) n ops f H:=AF rfl
theorem gR {cl:List Nat} {az bs:List PO}:PW P Γ eqs E (.draw cl az bs) Q ⟨f,H,n⟩=dd P Γ eqs [] cl n (zQ Q) (bsK P Γ eqs bs Q) 0 n az f H:=AF rfl
theorem AL {cl:List Nat} {az bs:List PO} (ws:List (Nat × Nat)) (hw:Pg ws cl n=true) (h:dd P Γ eqs ws cl n (zQ Q) (bsK P Γ eqs bs Q) 0 n az f H):PW P Γ eqs E (.drawW cl az bs) Q ⟨f,H,n⟩:=⟨ws,hw,h⟩
theorem PG {cl:List Nat} {az bs:List PO} (l:List (Nat × Nat)) (hw:Pg (l.map fun p=>(p.1,n+1048576*p.2)) cl n=true) (h:dd P Γ eqs (l.map fun p=>(p.1,n+1048576*p.2)) cl n (zQ Q) (bsK P Γ eqs bs Q) 0 n az f H):PW P Γ eqs E (.drawW cl az bs) Q ⟨f,H,n⟩:=⟨_,hw,h⟩
theorem lY {a b:PC}:PW P Γ eqs E (.seq a b) Q ⟨f,H,n⟩=PW P Γ eqs E a (DP (PW P Γ eqs E b Q) Q) ⟨f,H,n⟩:=AF rfl
theorem aH {id:Nat} {a:PC}:PW P Γ eqs E (.block id a) Q ⟨f,H,n⟩=PW P Γ eqs E a (Ft id Q) ⟨f,H,n⟩:=AF rfl
theorem gS {id:Nat}:PW P Γ eqs E (.exit id) Q ⟨f,H,n⟩=Q (.exit id) ⟨f,H,n⟩:=AF rfl
theorem lZ:PW P Γ eqs E .ret Q ⟨f,H,n⟩=Q .ret ⟨f,H,n⟩:=AF rfl
theorem gT:PW P Γ eqs E .skip Q ⟨f,H,n⟩=Q .normal ⟨f,H,n⟩:=AF rfl
def cR (P:Program) (Γ:Tys) (eqs:Eqs) (E:Ent) (v:V) (a b:PC) (Q:Av->St->Prop) (f:Nat->V) (H:Hp) (n:Nat):Prop:=KN v (PW P Γ eqs E a Q ⟨f,H,n⟩) (PW P Γ eqs E b Q ⟨f,H,n⟩)
theorem gU {c:Operand} {a b:PC}:PW P Γ eqs E (.cond c a b) Q ⟨f,H,n⟩=cR P Γ eqs E (evF f c) a b Q f H n:=AF rfl
theorem gW {a b:PC}:cR P Γ eqs E (.d (.lit (.bool true))) a b Q f H n=PW P Γ eqs E a Q ⟨f,H,n⟩:=by simp [cR,KN]
theorem qA {a b:PC}:cR P Γ eqs E (.d .ub) a b Q f H n=(PW P Γ eqs E a Q ⟨f,H,n⟩/\PW P Γ eqs E b Q ⟨f,H,n⟩):=by simp [cR,KN]
theorem aI {a b:PC}:cR P Γ eqs E (.d (.lit (.bool false))) a b Q f H n=PW P Γ eqs E b Q ⟨f,H,n⟩:=by simp [cR,KN]
theorem DW {t:Bool} {a b:PC} (h1:t=true->PW P Γ eqs E a Q ⟨f,H,n⟩) (h2:t=false->PW P Γ eqs E b Q ⟨f,H,n⟩):cR P Γ eqs E (.d (.lit (.bool t))) a b Q f H n:=⟨h1,h2⟩
theorem Al {a:PC} {st:St} {α:Type} (S:α->St) (inv:α->Prop) (μ:α->Nat) (x0:α) (h0:inv x0) (hw:AI P E st (S x0))
   (round:∀ x,inv x->PW P Γ eqs E a (DP (fun st'=>∃ y,inv y/\μ y<μ x/\AI P E st' (S y)) Q) (S x)):PW P Γ eqs E (.loop a) Q st:=OH.mk S inv μ x0 h0 hw fun x hx=>PW.mono (round x hx) fun e st h=>GO (fun _ h=>h) (fun _ _ h=> .inl h) e st h
def exC (P:Program) (E:Ent) (Q:Av->St->Prop) (i:Nat) {β:Type} (C:β->St) (Pr:β->Prop) (e:Av) (st:St):Prop:=match e with
 | .exit j=>if j=i then ∃ y,Pr y/\AI P E st (C y) else Q (.exit j) st
 | e=>Q e st
theorem aJ {i j:Nat} {β:Type} {C:β->St} {Pr:β->Prop} {st:St}:exC P E Q i C Pr (.exit j) st=if j=i then ∃ y,Pr y/\AI P E st (C y) else Q (.exit j) st:=AF rfl
theorem gX {i:Nat} {β:Type} {C:β->St} {Pr:β->Prop} {st:St}:exC P E Q i C Pr .ret st=Q .ret st:=AF rfl
theorem gY {i:Nat} {β:Type} {C:β->St} {Pr:β->Prop} {st:St} {v:V}:exC P E Q i C Pr (.pan v) st=Q (.pan v) st:=AF rfl
theorem BL {a:PC} {st:St} {α β:Type} (i:Nat) (C:β->St) (Pr:β->Prop) (S:α->St) (inv:α->Prop) (μ:α->Nat) (x0:α) (h0:inv x0) (hw:AI P E st (S x0))
   (round:∀ x,inv x->PW P Γ eqs E a (DP (fun st'=>∃ y,inv y/\μ y<μ x/\AI P E st' (S y)) (exC P E Q i C Pr)) (S x)) (hC:∀ y,Pr y->Q (.exit i) (C y)):PW P Γ eqs E (.loop a) Q st:=OH.mk S inv μ x0 h0 hw fun x hx=>PW.mono (round x hx) fun e st h=>GO (fun _ h=>h) (fun e st h=>by
     cases e with
     | exit j=>
       simp only [exC] at h;split at h
       . rename_i hj
         obtain ⟨y,h1,h2⟩:=h;exact .inr ⟨C y,h2,by rw [hj];exact hC y h1,nofun⟩
       . exact .inl h
     | _=>exact .inl h) e st h
theorem PH {Kp:St->Prop} {st:St}:DP Kp Q .normal st=Kp st:=AF rfl
theorem aL {Kp:St->Prop} {st:St}:DP Kp Q .ret st=Q .ret st:=AF rfl
theorem Vt {Kp:St->Prop} {st:St} {id:Nat}:DP Kp Q (.exit id) st=Q (.exit id) st:=AF rfl
theorem PI {st:St} {id:Nat}:Ft id Q .normal st=Q .normal st:=AF rfl
theorem aM {st:St} {id:Nat}:Ft id Q .ret st=Q .ret st:=AF rfl
theorem Vu {st:St} {id j:Nat}:Ft id Q (.exit j) st=if j=id then Q .normal st else Q (.exit j) st:=AF rfl
theorem JI {fo:Operand} {ps:List Nat} {a c:PC}:PW P Γ eqs E (.rangeF fo ps a c) Q ⟨f,H,n⟩=E3 P E fo ps a c Q ⟨f,H,n⟩:=AF rfl
theorem aN {Kp:St->Prop} {st:St} {v:V}:DP Kp Q (.pan v) st=Q (.pan v) st:=AF rfl
theorem aO {st:St} {id:Nat} {v:V}:Ft id Q (.pan v) st=Q (.pan v) st:=AF rfl
theorem aP {fn:Func} {ks:List Nat} {r v:V} {H1:List (Nat × List V)} {st:St}:Mh Γ fn ks (.pan r) H1 (.pan v) st=mW ks v r H1 st:=AF rfl
theorem aQ {fn:Func} {ks:List Nat} {v:V} {H1:List (Nat × List V)} {st:St}:Mh Γ fn ks (.ret v) H1 .ret st=Dc Γ fn ks v H1 st:=AF rfl
theorem PJ {fn:Func} {ks:List Nat} {v:V} {H1:List (Nat × List V)} {st:St}:Mh Γ fn ks (.ret v) H1 .normal st=Dc Γ fn ks v H1 st:=AF rfl
end
end Go.Psl
