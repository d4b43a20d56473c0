/- Own lemmas, used by the last text. Conditions: those that each theorem states. -/
import Derived.Lib.ConvBytes
import Derived.Test.YtmaoncnifomnkaaGreatDoorNaab
set_option maxRecDepth 200000
set_option maxHeartbeats 8000000
namespace Go.Psl
variable {P:Program} {Γ:Tys} {eqs:Eqs} {E:Ent} {U U':Nat->Prop} {G:Gh} {st:St} {a:Act} {W:World}
theorem ALA {t k e:TypeId} {y:Ty} (h:C1 P t y) (hs:y.sh= .map k e):P.underlying t=some (.map k e):=by
 obtain ⟨d,hd,hk⟩:=h.und;unfold Ix at hk;rw [hs] at hk;cases d<;>simp_all
def AKX (d:TypeDesc) (key:Value):Prop:=(∃ k k' n,d= .int k/\key= .int k' n)\/(∃ s,d= .string/\key= .string s)\/∃ b,d= .bool/\key= .bool b
theorem AKy {t:TypeId} {y:Ty} (h:C1 P t y) {key:Value} (hk:AKb y.sh key=true):∃ d,P.underlying t=some d/\AKX d key:=by
 obtain ⟨d,hd,hs⟩:=h.und;refine ⟨d,hd,?_⟩;unfold AKb at hk;unfold Ix at hs;split at hk
 . rename_i h1;rw [h1] at hs
   cases d<;>simp at hs
   exact .inl ⟨_,_,_,rfl,rfl⟩
 . rename_i h1;rw [h1] at hs
   cases d<;>simp at hs
   exact .inr (.inl ⟨_,rfl,rfl⟩)
 . rename_i h1;rw [h1] at hs
   cases d<;>simp at hs
   exact .inr (.inr ⟨_,rfl,rfl⟩)
 . cases hk
theorem AJK {t:TypeId} {d:TypeDesc} {key:Value} (hd:P.underlying t=some d) (hk:AKX d key) (b:Bool) (w:World):(Instr.checkKey b 10000 t key).run P w= .ok () w:=by
 generalize hn:(10000:Nat)=n
 obtain ⟨m,rfl⟩:∃ m,n=m+1:=⟨9999,hn.symm⟩
 rcases hk with ⟨k,k',n,rfl,rfl⟩ | ⟨s,rfl,rfl⟩ | ⟨b,rfl,rfl⟩<;>simp [Instr.checkKey,run_underlying hd]
theorem AKI {d:TypeDesc} {key x:Value} (hk:AKX d key) (hx:ALB x=true):Instr.sameNow d key x=nX key x:=by
 rcases hk with ⟨k,k',n,rfl,rfl⟩ | ⟨s,rfl,rfl⟩ | ⟨b,rfl,rfl⟩<;>cases x<;>first | rfl | (simp [ALB] at hx;done)
structure AUA (P:Program) (kt:TypeId) (key:Value):Prop where
 chk:∀ b w,(Instr.checkKey b 10000 kt key).run P w= .ok () w
 bits:Instr.sameBits 10000 key key=true
 c:ALB key=true
 find:∀ {Im:Nat->Prop} {W:World} {es:List (Value × Bool × List D)} {ms:List MapEntry} {r:Option Nat} (w:World),AJS Im W es ms->AA4 key es 0=some r->
   (r=none/\(Instr.findKey kt key ms).run P w= .ok none w)\/∃ j e m,r=some j/\es[j]?= some e/\ms[j]?= some m/\nX key e.1=some true/\m.key=e.1/\AJR Im W e.2.1 e.2.2 m.val/\(Instr.findKey kt key ms).run P w= .ok (some (j,m.val)) w
theorem AIQ {d:TypeDesc} {key:Value} (hk:AKX d key) {Im:Nat->Prop}:∀ {es:List (Value × Bool × List D)} {ms:List MapEntry} {i:Nat} {r:Option Nat},AJS Im W es ms->AA4 key es i=some r->
   (r=none/\Instr.findNow d key ms i=some none)\/∃ j e m,r=some (i+j)/\es[j]?= some e/\ms[j]?= some m/\nX key e.1=some true/\m.key=e.1/\AJR Im W e.2.1 e.2.2 m.val/\Instr.findNow d key ms i=some (some (i+j,m.val))
 | [],[],i,r,_,h=>by simp [AA4] at h;subst h;exact .inl ⟨rfl,rfl⟩
 | [],_::_,_,_,hm,_=>hm.elim
 | _::_,[],_,_,hm,_=>hm.elim
 | e::es,m::ms,i,r,hm,h=>by
   obtain ⟨⟨h1,h2,h3⟩,hr⟩:=hm;have hs:Instr.sameNow d key m.key=nX key e.1:=by rw [h1];exact AKI hk h2
   unfold AA4 at h;unfold Instr.findNow;rw [hs];cases hq:nX key e.1 with
   | none=>rw [hq] at h;cases h
   | some b=>
     rw [hq] at h;cases b with
     | true=>
       simp at h;exact .inr ⟨0,e,m,by simp [h],rfl,rfl,hq,h1,h3,by simp⟩
     | false=>
       simp only at h ⊢;rcases AIQ hk hr h with ⟨a1,a2⟩ | ⟨j,e',m',a1,a2,a3,a4,a5,a6,a7⟩
       . exact .inl ⟨a1,a2⟩
       . exact .inr ⟨j+1,e',m',by rw [a1];congr 1;omega,by simpa using a2,by simpa using a3,a4,a5,a6,by rw [a7];congr 3;omega⟩
theorem ut {t:TypeId} {d:TypeDesc} {key:Value} (hd:P.underlying t=some d) {ms:List MapEntry} {r:Option (Nat × Value)} (h:Instr.findNow d key ms 0=some r) (w:World):(Instr.findKey t key ms).run P w= .ok r w:=by
 simp [Instr.findKey,run_underlying hd,h]
theorem AKY {x y:ByteArray} (h:(x == y)=true):x=y:=by
 cases x;cases y;have:(_ == _)=true:=h;congr;exact eq_of_beq this
theorem AKJ (x:ByteArray):(x == x)=true:=by
 obtain ⟨d⟩:=x;have:(d == d)=true:=beq_self_eq_true d;exact this
theorem AUB {x key:Value} (h:K1 key x=some true):x=key:=by
 cases x<;>cases key<;>simp [K1] at h ⊢
 . exact h.symm
 . exact ⟨h.1.symm,h.2.symm⟩
 . exact (AKY h).symm
theorem AVX:∀ {ks xs:List Value},G5 ks xs=some true->xs=ks
 | [],[],_=>rfl
 | k::ks,x::xs,h=>by
   simp only [G5] at h;cases h1:K1 k x with
   | none=>simp [h1] at h
   | some r=>
     simp only [h1,Option.bind_some] at h;cases h2:G5 ks xs with
     | none=>simp [h2] at h
     | some q=>
       simp only [h2,Option.map_some,Option.some.injEq,Bool.and_eq_true] at h;obtain ⟨rfl,rfl⟩:=h;rw [AUB h1,AVX h2]
 | [],_::_,h=>by simp [G5] at h
 | _::_,[],h=>by simp [G5] at h
theorem AKK {x key:Value} (h:nX key x=some true):x=key:=by
 cases x<;>cases key<;>simp [nX] at h ⊢
 . exact h.symm
 . exact ⟨h.1.symm,h.2.symm⟩
 . exact (AKY h).symm
 . exact Array.ext' (AVX h)
theorem AJP {d:TypeDesc} {key:Value} (hk:AKX d key):Instr.sameBits 10000 key key=true:=by
 rcases hk with ⟨k,k',n,rfl,rfl⟩ | ⟨s,rfl,rfl⟩ | ⟨b,rfl,rfl⟩<;>first | (simp [Instr.sameBits];done) | (unfold Instr.sameBits;exact AKJ _)
theorem AUA.of_lit {kt:TypeId} {d:TypeDesc} {key:Value} (hd:P.underlying kt=some d) (hk:AKX d key):AUA P kt key:=by
 refine ⟨fun b w=>AJK hd hk b w,AJP hk,by rcases hk with ⟨k,k',n,rfl,rfl⟩ | ⟨s,rfl,rfl⟩ | ⟨b,rfl,rfl⟩<;>rfl,fun w hm hf=>?_⟩;rcases AIQ hk hm hf with ⟨h1,h2⟩ | ⟨j,e,m,h1,h2,h3,h4,h5,h6,h7⟩
 . exact .inl ⟨h1,ut hd h2 w⟩
 . rw [Nat.zero_add] at h1 h7
   exact .inr ⟨j,e,m,h1,h2,h3,h4,h5,h6,ut hd h7 w⟩
theorem ATv:∀ {ks:List CK} {vs:List Value},FR ks vs=true->vs.length=ks.length
 | [],[],_=>rfl
 | _::_,_::_,h=>by
   simp only [FR,Bool.and_eq_true] at h;simp [ATv h.2]
 | [],_::_,h=>by simp [FR] at h
 | _::_,[],h=>by simp [FR] at h
theorem u0:∀ {ks:List CK} {az bs:List Value} {r:Bool},FR ks az=true->G5 az bs=some r->Bz ks az bs=some r
 | [],[],[],r,_,h=>h
 | k::ks,a::az,b::bs,r,hk,h=>by
   simp only [FR,Bool.and_eq_true] at hk;simp only [G5] at h;cases h1:K1 a b with
   | none=>simp [h1] at h
   | some r1=>
     simp only [h1,Option.bind_some] at h;cases h2:G5 az bs with
     | none=>simp [h2] at h
     | some r2=>
       simp only [h2,Option.map_some,Option.some.injEq] at h
       have e1:IJ k a b=some r1:=by
         have h0:=hk.1;cases k<;>cases a<;>simp [ATr] at h0<;>cases b<;>simp [K1] at h1<;>simpa [IJ] using h1
       simp only [Bz,e1,u0 hk.2 h2,Option.bind_some,Option.map_some,h]
 | [],[],_::_,_,_,h=>by simp [G5] at h
 | [],_::_,_,_,hk,_=>by simp [FR] at hk
 | _::_,[],_,_,hk,_=>by simp [FR] at hk
 | _::_,_::_,[],_,_,h=>by simp [G5] at h
theorem ATy {k:CK} {v:Value} (h:ATr k v=true) (n:Nat):Instr.sameBits n v v=true:=by
 cases k<;>cases v<;>simp [ATr] at h
 . cases n<;>simp [Instr.sameBits]
 . cases n<;>simp [Instr.sameBits]
 . cases n<;>(unfold Instr.sameBits;exact AKJ _)
theorem Uf (n:Nat):∀ {ks:List CK} {vs:List Value},FR ks vs=true->((vs.zip vs).all fun (x,y)=>Instr.sameBits n x y)=true
 | [],[],_=>rfl
 | k::ks,v::vs,h=>by
   simp only [FR,Bool.and_eq_true] at h;simp only [List.zip_cons_cons,List.all_cons,ATy h.1,Bool.true_and];exact Uf n h.2
 | [],_::_,h=>by simp [FR] at h
 | _::_,[],h=>by simp [FR] at h
theorem K3 (em:Bool) (w:World):∀ (n:Nat) (t:TypeId) (ks:List CK),Bn P n t=some ks->∀ (m:Nat),n<=m->∀ (cu:List Value) (u:Value),M5 P t cu u->cu.length=ks.length->(Instr.checkKey em m t u).run P w= .ok () w
 | 0,_,_,h,_,_,_,_,_,_=>by simp [Bn] at h
 | n+1,t,ks,h,m,hm,cu,u,hu,hl=>by
   obtain ⟨m,rfl⟩:∃ d',m=d'+1:=⟨m-1,by omega⟩
   unfold Bn at h;unfold M5 at hu;cases hd:P.underlying t with
   | none=>simp [hd] at h
   | some ds=>
     rw [hd] at h hu;cases ds<;>simp only [reduceCtorEq] at h
     case bool=>simp [Instr.checkKey,run_underlying hd]
     case int k=>simp [Instr.checkKey,run_underlying hd]
     case string=>simp [Instr.checkKey,run_underlying hd]
     case struct fs=>
       simp only at hu;subst hu;split at h
       . rename_i hst
         simp only [Bool.and_eq_true,Bool.not_eq_true'] at hst;cases hk:Fy (Bn P n) fs.toList with
         | none=>simp [hk] at h
         | some ks'=>
           simp only [hk,Option.bind_some] at h;split at h
           . cases h
             rw [Instr.checkKey];simp only [Sem.run_bind,run_underlying hd,Result.andThen_ok];rw [<-Array.forIn_toList]
             have key:∀ (L:List Field) (off:Nat) (ks:List CK),lay (Bn P n) off L=true->Fy (Bn P n) L=some ks->off+ks.length<=cu.length->(forIn (m:=Sem) L PUnit.unit fun f _=>
                 if f.name≠ "_" then do
                   let x <-part f.type cu.toArray f.offset
                   Instr.checkKey em m f.type x
                   pure (ForInStep.yield PUnit.unit)
                 else pure (ForInStep.yield PUnit.unit)).run P w= .ok PUnit.unit w:=by
               intro L;induction L with
               | nil=>intro off ks _ _ _;simp
               | cons f L ih=>
                 intro off ks hl hk hx;simp only [lay,Bool.and_eq_true,beq_iff_eq,bne_iff_ne,ne_eq] at hl;obtain ⟨⟨h1,h2⟩,h3⟩:=hl;simp only [Fy] at hk;cases hk1:Bn P n f.type with
                 | none=>simp [hk1] at hk
                 | some k1=>
                   simp only [hk1,Option.bind_some] at hk;cases hk2:Fy (Bn P n) L with
                   | none=>simp [hk2] at hk
                   | some k2=>
                     simp only [hk2,Option.map_some] at hk;cases hk;simp only [List.length_append] at hx;obtain ⟨v,hv,hav⟩:=Jf hk1 w cu.toArray f.offset (by simp;omega);have hc:=K3 em w n f.type k1 hk1 m (by omega) _ v hav (by simp;omega);simp only [hk1,Option.map_some,Option.getD_some] at h3;have:=ih (off+k1.length) k2 h3 hk2 (by omega);simp only [List.forIn_cons,Sem.run_bind,h2,ne_eq,not_false_eq_true,if_true,Result.andThen_ok,hv,hc,Sem.run_pure];exact this
             rw [key fs.toList 0 ks hst.2 hk (by omega)];rfl
           . cases h
       . cases h
theorem Ug {kt:TypeId} {key:Value} (heq:∀ (x:Value) (b:Bool) (w:World),nX key x=some b->(Op.equal kt key x).run P w= .ok b w) {Im:Nat->Prop} {W:World} (w:World):∀ {es:List (Value × Bool × List D)} {ms:List MapEntry} {i:Nat} {r:Option Nat},AJS Im W es ms->AA4 key es i=some r->
   (r=none/\(Instr.findAsking kt key ms i).run P w= .ok none w)\/∃ j e m,r=some (i+j)/\es[j]?= some e/\ms[j]?= some m/\nX key e.1=some true/\m.key=e.1/\AJR Im W e.2.1 e.2.2 m.val/\(Instr.findAsking kt key ms i).run P w= .ok (some (i+j,m.val)) w
 | [],[],i,r,_,h=>by simp [AA4] at h;subst h;exact .inl ⟨rfl,by simp [Instr.findAsking]⟩
 | [],_::_,_,_,hm,_=>hm.elim
 | _::_,[],_,_,hm,_=>hm.elim
 | e::es,m::ms,i,r,hm,h=>by
   obtain ⟨⟨h1,h2,h3⟩,hr⟩:=hm;unfold AA4 at h;cases hq:nX key e.1 with
   | none=>rw [hq] at h;cases h
   | some b=>
     rw [hq] at h;have hrun:=heq e.1 b w hq;rw [<-h1] at hrun;cases b with
     | true=>
       simp at h;exact .inr ⟨0,e,m,by simp [h],rfl,rfl,hq,h1,h3,by simp [Instr.findAsking,hrun]⟩
     | false=>
       simp only at h;rcases Ug heq w hr h with ⟨a1,a2⟩ | ⟨j,e',m',a1,a2,a3,a4,a5,a6,a7⟩
       . exact .inl ⟨a1,by simp [Instr.findAsking,hrun,a2]⟩
       . exact .inr ⟨j+1,e',m',by rw [a1];congr 1;omega,by simpa using a2,by simpa using a3,a4,a5,a6,by simp [Instr.findAsking,hrun,a7];omega⟩
theorem AUA.of_struct (hE:EB P eqs) {kt:TypeId} {key:Value} (hk:AUZ eqs kt key=true):AUA P kt key:=by
 unfold AUZ at hk;split at hk
 . rename_i a
   cases hks:eqs kt with
   | none=>rw [hks] at hk;cases hk
   | some ks=>
     rw [hks] at hk;simp only at hk;obtain ⟨h1,_,fs,h3⟩:=hE kt ks hks;have hlen:=ATv hk;have has:∀ x:Array Value,M5 P kt x.toList (.agg x):=fun x=>by unfold M5;rw [h3]
     have heq:∀ (x:Value) (b:Bool) (w:World),nX (.agg a) x=some b->(Op.equal kt (.agg a) x).run P w= .ok b w:=fun x b w h=>by
       cases x<;>simp [nX] at h
       rename_i c;have he:=u0 hk h;unfold Op.equal;exact U5 8 kt ks h1 _ (by decide) a.toList c.toList _ _ w b (has a) (has c) he
     refine ⟨fun em w=>K3 em w 8 kt ks h1 10000 (by decide) a.toList _ (has a) hlen,?_,rfl,fun {Im W es ms r} w hm hf=>?_⟩
     . generalize hn:(10000:Nat)=n
       obtain ⟨m,rfl⟩:∃ m,n=m+1:=⟨9999,hn.symm⟩
       unfold Instr.sameBits;rw [Bool.and_eq_true];exact ⟨by simp,Uf m hk⟩
     . have hq:=Ug heq w hm hf
       have hrun:(Instr.findKey kt (.agg a) ms).run P w=(Instr.findAsking kt (.agg a) ms 0).run P w:=by
         cases ms with
         | nil=>simp [Instr.findKey,run_underlying h3,Instr.findNow,Instr.findAsking]
         | cons m ms=>simp [Instr.findKey,run_underlying h3,Instr.findNow,Instr.sameNow]
       rcases hq with ⟨q1,q2⟩ | ⟨j,e,m,q1,q2,q3,q4,q5,q6,q7⟩
       . exact .inl ⟨q1,by rw [hrun];exact q2⟩
       . rw [Nat.zero_add] at q1 q7
         exact .inr ⟨j,e,m,q1,q2,q3,q4,q5,q6,by rw [hrun];exact q7⟩
 . cases hk
theorem AUC {U:Nat->Prop}:∀ {cs:List V} {vs xs:List Value},AUD cs=some vs->AJ (R1 G W) cs xs->xs=vs
 | [],vs,[],h,_=>by cases h;rfl
 | [],_,_::_,_,hr=>hr.elim
 | c::cs,vs,x::xs,h,hr=>by
   unfold AUD at h;split at h
   . rename_i heq;cases heq
   . rename_i v r heq
     cases heq;obtain ⟨vs',h1,rfl⟩:=Option.map_eq_some_iff.1 h;rw [AUC (U:=U) h1 hr.2,BO (G:=G) (W:=W) hr.1]
   . cases h
 | _::_,_,[],_,hr=>hr.elim
theorem AJT (hΓ:GOk P Γ) (hE:EB P eqs) (hI:Inv E U G st a W) {t:TypeId} {m k:Operand} {id:Nat} {es:List (Value × Bool × List D)} {key:Value} {r:Option Nat} {et:TypeId} (h:AE6 Γ eqs st.H t (evF st.fr m) (evF st.fr k)=some (id,es,key,r,et)):
   ∃ kt ms ck old,P.underlying t=some (.map kt et)/\AUA P kt key/\a.eval m= .map (some (G.β id))/\a.eval k=key/\st.H id=some old/\old=Qo es/\G.ph id=false/\G.lo id=true/\G.bs id=1/\¬ G.Im (G.β id)/\W.heap[G.β id]?= some (.map ms ck)/\AJS G.Im W es ms.toList/\AA4 key es 0=some r:=by
 obtain ⟨hm,_⟩:=hI.op m;obtain ⟨hk,_⟩:=hI.op k;unfold AE6 at h;cases hty:Γ t with
 | none=>simp [hty] at h
 | some y=>
   simp only [hty,Option.bind_some] at h;split at h<;>first | (cases h;done) | skip
   rename_i kt et' hsh;cases hkt:Γ kt with
   | none=>simp [hkt] at h
   | some yk=>
     simp only [hkt,Option.bind_some] at h;cases hid:AK3 (evF st.fr m) with
     | none=>simp [hid] at h
     | some i=>
       simp only [hid,Option.bind_some] at h;cases hH:st.H i with
       | none=>simp [hH] at h
       | some cs=>
         simp only [hH,Option.bind_some] at h;cases hme:AFj cs with
         | none=>simp [hme] at h
         | some es'=>
           simp only [hme,Option.bind_some] at h;cases hlk:ALD (evF st.fr k) with
           | none=>simp [hlk] at h
           | some key'=>
             simp only [hlk,Option.bind_some] at h;split at h
             rotate_left
             . cases h
             rename_i hks;cases hf:AA4 key' es' 0 with
             | none=>simp [hf] at h
             | some r'=>
               simp only [hf,Option.map_some,Option.some.injEq,Prod.mk.injEq] at h;obtain ⟨rfl,rfl,rfl,rfl,rfl⟩:=h
               have hmv:evF st.fr m= .yl i:=by
                 unfold AK3 at hid;split at hid
                 . rename_i e;rw [e];cases hid;rfl
                 . cases hid
               rw [hmv] at hm
               have hke:a.eval k=key':=by
                 unfold ALD at hlk;split at hlk
                 . rename_i e;rw [e] at hk;cases hlk;exact BO hk
                 . rename_i e
                   rw [e] at hk;obtain ⟨vs,h1,rfl⟩:=Option.map_eq_some_iff.1 hlk;obtain ⟨cv,e2,hc⟩:=hk;rw [e2,<-AUC (U:=U) h1 hc]
                 . cases hlk
               have hkd:AUA P kt key':=by
                 rw [Bool.or_eq_true] at hks;rcases hks with hks | hks
                 . obtain ⟨d,hd,hkd⟩:=AKy (hΓ kt yk hkt) hks
                   exact AUA.of_lit hd hkd
                 . exact AUA.of_struct hE hks
               have hB:=hI.hp i cs hH;rcases hB with ⟨h1,h2⟩ | ⟨h1,h0,h2,c,T,h3,h4,h5,h6,h7⟩ | ⟨h1,h0,h2,⟨hz,fr,nt,ps,pa,pb,jmp,rec,h3,h4,h5⟩ | ⟨hz,es2,ms,ck,h3,h4,h5⟩ | ⟨hz,bx,bp,bv,h3,h4,h5,h6,h7⟩⟩
               . subst h2;simp [AFj] at hme
               . unfold AFj at hme
                 split at hme
                 . simp [V.isCell] at h7
                 . cases hme
               . subst h3;simp [AFj] at hme
               . subst h3
                 simp only [Qo,ACA,AFj,Option.some.injEq] at hme;subst hme
                 have hmm:a.eval m= .map (some (G.β i)):=by
                   rcases hm with ⟨h,_⟩ | ⟨_,h⟩ | ⟨h,_⟩ | ⟨h,_⟩
                   . omega
                   . exact h
                   . omega
                   . omega
                 exact ⟨kt,ms,ck,_,ALA (hΓ t y hty) hsh,hkd,hmm,hke,hH,rfl,h1,h0,hz,h2,h4,h5,hf⟩
               . subst h3
                 exfalso;cases bx<;>simp [V.isCell] at h7<;>simp [AFj] at hme
theorem Xy {r:Nat} {ms:Array MapEntry} {ck:Nat} (h:W.heap[r]?= some (.map ms ck)):(getObj r).run P W= .ok (.map ms ck) W:=by simp [getObj,Sem.run,h]
theorem AJQ {r:Nat} {ms:Array MapEntry} {ck:Nat} (o:Obj) (h:W.heap[r]?= some (.map ms ck)):(setObj r o).run P W= .ok () (W.putObj r o):=by simp [setObj,Sem.run,h,World.putObj]
theorem AJ1 (hI:Inv E U G st a W) {o:Oper} {t:TypeId} (ho:o.op= .makeMap t none) {b:Nat} (hb:¬ U b) (hU:∀ i,U i->U' i) (hb':U' b):Out P E U' st a W o (.yl b) (.new b (Qo [])):=by
 let G':Gh:={β:=upd G.β b W.heap.size,bs:=upd G.bs b 1,ph:=upd G.ph b false,lo:=upd G.lo b true,Im:=G.Im}
 let W':World:=W.alloc (.map #[] 0)
 have hne:∀ i,U i->i≠b:=fun i hi e=>hb (e ▸ hi)
 have hnew:W'.heap[W.heap.size]?= some (.map #[] 0):=by
   show (W.heap.push _)[_]?= _
   simp
 have hold:∀ k,k<W.heap.size->W'.heap[k]?= W.heap[k]?:= fun k hk=>by
   show (W.heap.push _)[_]?= _
   rw [Array.getElem?_push,if_neg (by omega)]
 have hsz:W'.heap.size=W.heap.size+1:=by
   show (W.heap.push _).size=_
   simp
 have hchg:Chg U G W G' W':=⟨fun i hi=>by simp [G',upd,hne i hi],fun k hk=>⟨hk,hold k (hI.im k hk).1⟩⟩
 have hlt:∀ i cs',st.H i=some cs'->G.ph i=false->G.β i<W.heap.size:=fun i cs' hs hp=>(hI.hp i cs' hs).lt hp
 have hdf:∃ ds,a.defers=Qr ds++E.dx/\Lc E G' W' ds:=by
   obtain ⟨ds,h1,h2⟩:=hI.df;exact ⟨ds,h1,h2.same (fun D _ hd=>hold D (Array.getElem?_eq_some_iff.1 hd).1) (fun _ _ _ h=>h)⟩
 have hsome:∀ i,(upd st.H b (some (Qo [])) i).isSome=true->i=b\/(i≠b/\(st.H i).isSome=true):=fun i hi=>by
   by_cases e:i=b
   . exact .inl e
   . simp only [AY,if_neg e] at hi;exact .inr ⟨e,hi⟩
 refine ⟨.value (.map (some W.heap.size)),_,W',G',?_, .inl rfl,?_, .inr (.inl ⟨by simp [G',upd],by simp [G',upd]⟩),hb'⟩
 . simp only [execOp,ho,Option.map_none,Sem.run_bind,show (Instr.makeMap t none).run P W= .ok (.map (some W.heap.size)) W' from rfl,Result.andThen_ok]
   rfl
 refine {fr:=fun t=>hchg.rv (hI.wf t) (hI.fr t),wf:=fun t=>AV.mono hU (fun _ h=>h) (hI.wf t),hp:=?_,wh:=?_,dom:=?_,inj:=?_,own:=?_,im:=?_,im0:=hI.im0,keep:=?_,stab:=?_,sU:=fun i hs=>hU _ (hI.sU i hs),nt:=hI.nt,df:=hdf,gl:=hI.gl.mono hchg.im}
 . intro id cs' h
   simp only [Hp.app,AY] at h;split at h
   . rename_i e;subst e;cases h
     refine .inr (.inr ⟨by simp [G',upd],by simp [G',upd],?_, .inr (.inl ⟨by simp [G',upd],[],#[],0,rfl,by simp only [G',upd,if_true];exact hnew,trivial⟩)⟩);simp only [G',upd,if_true];exact fun hx=>absurd (hI.im _ hx).1 (Nat.lt_irrefl _)
   . have hu:=hI.dom id (by rw [h];rfl)
     exact hchg.hb hu (hI.wh id cs' h) (hI.hp id cs' h) (fun hp=>hold _ (hlt id cs' h hp)) (fun hx _=>hx)
 . intro id cs' h x hx
   simp only [Hp.app,AY] at h;split at h
   . cases h
     simp only [Qo,List.mem_cons,List.not_mem_nil,or_false] at hx;rcases hx with rfl | rfl
     . exact fun t=>by unfold mq;simp;trivial
     . trivial
   . exact AC.mono hU (fun _ h=>h) (hI.wh id cs' h x hx)
 . intro id h
   rcases hsome id h with rfl | ⟨_,h⟩
   . exact hb'
   . exact hU _ (hI.dom id h)
 . intro i j hi hj hpi hpj he
   rcases hsome i hi with ei | ⟨ei,hi'⟩<;>rcases hsome j hj with ej | ⟨ej,hj'⟩
   . rw [ei,ej]
   . simp only [G',upd,if_pos ei,if_neg ej] at he hpj
     obtain ⟨cs',hs⟩:=Option.isSome_iff_exists.1 hj';have:=hlt j cs' hs hpj;omega
   . simp only [G',upd,if_pos ej,if_neg ei] at he hpi
     obtain ⟨cs',hs⟩:=Option.isSome_iff_exists.1 hi';have:=hlt i cs' hs hpi;omega
   . simp only [G',upd,if_neg ei,if_neg ej] at he hpi hpj
     exact hI.inj i j hi' hj' hpi hpj he
 . intro i hi hp
   rcases hsome i hi with rfl | ⟨ei,hi⟩
   . simp only [G',upd,if_true]
     exact .inl hI.keep.size
   . simp only [G',upd,if_neg ei] at hp ⊢
     exact hI.own i hi hp
 . intro k hk
   have:=hI.im k hk;exact ⟨by rw [hsz];omega,this.2⟩
 . exact ⟨hI.keep.os,hI.keep.tape,hI.keep.output,hI.keep.drawn,by rw [hsz];have:=hI.keep.size;omega,fun k hk hm=>(hold k (by have:=hI.keep.size;omega)).trans (hI.keep.block k hk hm)⟩
 . intro i hs hi
   rcases hsome i hi with rfl | ⟨ei,hi⟩
   . exact absurd (hI.sU _ hs) hb
   . simp only [G',upd,if_neg ei]
     exact hI.stab i hs hi
theorem ANC (hΓ:GOk P Γ) (hI:Inv E U G st a W) {o:Oper} {y:Ty} (hty:Γ AMD=some y) (hz0:y.zero=[.pointer none, .slice none 0 0]) (ho:o.op= .alloc AMD) {b:Nat} (hb:¬ U b) (hU:∀ i,U i->U' i) (hb':U' b):Out P E U' st a W o (.yl b) (.new b [.d (.lit (.slice none 0 0)), .d (.lit (.int .i64 0))]):=by
 obtain ⟨z,hz,hzc⟩:=(hΓ AMD y hty).zeroValue W;have hzz:z.cells= #[.pointer none, .slice none 0 0]:=by rw [<-Array.toList_inj,hzc,hz0]
 let G':Gh:={β:=upd G.β b W.heap.size,bs:=upd G.bs b 2,ph:=upd G.ph b false,lo:=upd G.lo b true,Im:=G.Im}
 let W':World:=W.alloc (.cells #[.pointer none, .slice none 0 0] AMD)
 have hne:∀ i,U i->i≠b:=fun i hi e=>hb (e ▸ hi)
 have hnew:W'.heap[W.heap.size]?= some (.cells #[.pointer none, .slice none 0 0] AMD (0,0)):=by
   show (W.heap.push _)[_]?= _
   simp
 have hold:∀ k,k<W.heap.size->W'.heap[k]?= W.heap[k]?:= fun k hk=>by
   show (W.heap.push _)[_]?= _
   rw [Array.getElem?_push,if_neg (by omega)]
 have hsz:W'.heap.size=W.heap.size+1:=by
   show (W.heap.push _).size=_
   simp
 have hchg:Chg U G W G' W':=⟨fun i hi=>by simp [G',upd,hne i hi],fun k hk=>⟨hk,hold k (hI.im k hk).1⟩⟩
 have hlt:∀ i cs',st.H i=some cs'->G.ph i=false->G.β i<W.heap.size:=fun i cs' hs hp=>(hI.hp i cs' hs).lt hp
 have hdf:∃ ds,a.defers=Qr ds++E.dx/\Lc E G' W' ds:=by
   obtain ⟨ds,h1,h2⟩:=hI.df;exact ⟨ds,h1,h2.same (fun D _ hd=>hold D (Array.getElem?_eq_some_iff.1 hd).1) (fun _ _ _ h=>h)⟩
 have hsome:∀ i,(upd st.H b (some [.d (.lit (.slice none 0 0)), .d (.lit (.int .i64 0))]) i).isSome=true->i=b\/(i≠b/\(st.H i).isSome=true):=fun i hi=>by
   by_cases e:i=b
   . exact .inl e
   . simp only [AY,if_neg e] at hi;exact .inr ⟨e,hi⟩
 refine ⟨.value (.pointer (some ⟨W.heap.size,0,none⟩)),_,W',G',?_, .inl rfl,?_, .inr (.inr (.inl ⟨by simp [G',upd],by simp [G',upd],by simp [G',upd]⟩)),hb'⟩
 . simp [execOp,ho,Instr.alloc,hz,newVar,newRow,hzz]
   rfl
 refine {fr:=fun t=>hchg.rv (hI.wf t) (hI.fr t),wf:=fun t=>AV.mono hU (fun _ h=>h) (hI.wf t),hp:=?_,wh:=?_,dom:=?_,inj:=?_,own:=?_,im:=?_,im0:=hI.im0,keep:=?_,stab:=?_,sU:=fun i hs=>hU _ (hI.sU i hs),nt:=hI.nt,df:=hdf,gl:=hI.gl.mono hchg.im}
 . intro id cs' h
   simp only [Hp.app,AY] at h;split at h
   . rename_i e;subst e;cases h
     refine .inr (.inr ⟨by simp [G',upd],by simp [G',upd],?_, .inr (.inr ⟨by simp [G',upd], .d (.lit (.slice none 0 0)),⟨.int .i64 0,#[.pointer none, .slice none 0 0],AMD,(0,0)⟩, .slice none 0 0,rfl,by simp only [G',upd,if_true];exact hnew, .inl ⟨by simp [G',upd],rfl,rfl,_,_,_,0,rfl, .inl rfl,rfl,rfl⟩,RD.lit _ rfl,rfl⟩)⟩);simp only [G',upd,if_true];exact fun hx=>absurd (hI.im _ hx).1 (Nat.lt_irrefl _)
   . have hu:=hI.dom id (by rw [h];rfl)
     exact hchg.hb hu (hI.wh id cs' h) (hI.hp id cs' h) (fun hp=>hold _ (hlt id cs' h hp)) (fun hx _=>hx)
 . intro id cs' h x hx
   simp only [Hp.app,AY] at h;split at h
   . cases h
     simp only [List.mem_cons,List.not_mem_nil,or_false] at hx;rcases hx with rfl | rfl<;>trivial
   . exact AC.mono hU (fun _ h=>h) (hI.wh id cs' h x hx)
 . intro id h
   rcases hsome id h with rfl | ⟨_,h⟩
   . exact hb'
   . exact hU _ (hI.dom id h)
 . intro i j hi hj hpi hpj he
   rcases hsome i hi with ei | ⟨ei,hi'⟩<;>rcases hsome j hj with ej | ⟨ej,hj'⟩
   . rw [ei,ej]
   . simp only [G',upd,if_pos ei,if_neg ej] at he hpj
     obtain ⟨cs',hs⟩:=Option.isSome_iff_exists.1 hj';have:=hlt j cs' hs hpj;omega
   . simp only [G',upd,if_pos ej,if_neg ei] at he hpi
     obtain ⟨cs',hs⟩:=Option.isSome_iff_exists.1 hi';have:=hlt i cs' hs hpi;omega
   . simp only [G',upd,if_neg ei,if_neg ej] at he hpi hpj
     exact hI.inj i j hi' hj' hpi hpj he
 . intro i hi hp
   rcases hsome i hi with rfl | ⟨ei,hi⟩
   . simp only [G',upd,if_true]
     exact .inl hI.keep.size
   . simp only [G',upd,if_neg ei] at hp ⊢
     exact hI.own i hi hp
 . intro k hk
   have:=hI.im k hk;exact ⟨by rw [hsz];omega,this.2⟩
 . exact ⟨hI.keep.os,hI.keep.tape,hI.keep.output,hI.keep.drawn,by rw [hsz];have:=hI.keep.size;omega,fun k hk hm=>(hold k (by have:=hI.keep.size;omega)).trans (hI.keep.block k hk hm)⟩
 . intro i hs hi
   rcases hsome i hi with rfl | ⟨ei,hi⟩
   . exact absurd (hI.sU _ hs) hb
   . simp only [G',upd,if_neg ei]
     exact hI.stab i hs hi
theorem ANm (hΓ:GOk P Γ) (hI:Inv E U G st a W) {o:Oper} {t:TypeId} (ho:o.op= .alloc t) {b:Nat} (hb:¬ U b) (hU:∀ i,U i->U' i) (hb':U' b) {v:V} {e:Eff}
   (he:Nx Γ b t=some (v,e)):Out P E U' st a W o v e:=by
 unfold Nx at he;by_cases ht:t=AMD
 . subst ht
   cases hty:Γ AMD with
   | none=>simp [hty] at he
   | some y=>
     simp only [hty,Option.bind_some,beq_self_eq_true,if_true] at he;split at he
     . rename_i hz
       cases he;refine ANC hΓ hI hty ?_ ho hb hU hb';unfold AQ2 at hz;split at hz
       . assumption
       . cases hz
     . cases he
 . have:(t == AMD)=false:=by simpa using ht
   simp only [this,Bool.false_eq_true,if_false] at he;exact AX2 hΓ hI ho hb hU hb' he
theorem AKZ {v:V} {x:Value} (h:RV G W v x) {ag:Bool} {ds:List D} (hd:AJO v=some (ag,ds)):AJR G.Im W ag ds x:=by
 unfold AJO at hd;split at hd
 . cases hd;exact ⟨_,rfl,h⟩
 . rename_i cs
   obtain ⟨ds',h1,h2⟩:=Option.map_eq_some_iff.1 hd;cases h2;obtain ⟨cv,rfl,hc⟩:=h;refine ⟨cv,rfl,?_⟩
   have:∀ {cs:List V} {ds:List D} {vs:List Value},Ff cs=some ds->AJ (R1 G W) cs vs->AJ (RD G.Im W) ds vs:=by
     intro cs;induction cs with
     | nil=>intro ds vs h hr;cases h;cases vs with | nil=>trivial | cons a b=>exact hr.elim
     | cons c cs ih=>
       intro ds vs h hr;cases c<;>simp [Ff] at h
       obtain ⟨ds',e,rfl⟩:=h;cases vs with
       | nil=>exact hr.elim
       | cons v vs=>exact ⟨hr.1,ih e hr.2⟩
   exact this h1 hc
 . cases hd
theorem Inv.putMap (hI:Inv E U G st a W) {b:Nat} {old:List V} (hold:st.H b=some old) (hph:G.ph b=false) (hlo:G.lo b=true) (hbs:G.bs b=1) (hnim:¬ G.Im (G.β b)) {ms ms':Array MapEntry} {ck ck':Nat} (hh:W.heap[G.β b]?= some (.map ms ck)) {es:List (Value × Bool × List D)} (hr:AJS G.Im W es ms'.toList):
   Inv E U G ⟨st.fr,upd st.H b (some (Qo es)),st.nx⟩ a (W.putObj (G.β b) (.map ms' ck'))/\Chg U G W G (W.putObj (G.β b) (.map ms' ck')):=by
 have hlive:(st.H b).isSome=true:=by rw [hold];rfl
 have hlt:=(Array.getElem?_eq_some_iff.1 hh).1;have hsame:∀ j,j≠G.β b->(W.putObj (G.β b) (.map ms' ck')).heap[j]?= W.heap[j]?:= fun j hj=>World.putObj_heap_other hj
 have hchg:Chg U G W G (W.putObj (G.β b) (.map ms' ck')):=⟨fun i _=>⟨rfl,rfl,rfl,rfl⟩,fun j hj=>⟨hj,hsame j (fun e=>hnim (by rw [<-e];exact hj))⟩⟩
 have hsome:∀ i,(upd st.H b (some (Qo es)) i).isSome=true->(st.H i).isSome=true:=fun i hi=>by
   by_cases e:i=b
   . subst e;exact hlive
   . simpa only [AY,if_neg e] using hi
 refine ⟨?_,hchg⟩;refine {fr:=fun t=>hchg.rv (hI.wf t) (hI.fr t),wf:=hI.wf,hp:=?_,wh:=?_,dom:=fun i hi=>hI.dom i (hsome i hi),inj:=fun i j hi hj=>hI.inj i j (hsome i hi) (hsome j hj),own:=fun i hi=>hI.own i (hsome i hi),im:=fun b hb=>⟨by rw [World.putObj_size];exact (hI.im b hb).1,(hI.im b hb).2⟩,im0:=hI.im0,keep:=?_,stab:=fun i hs hi=>hI.stab i hs (hsome i hi),sU:=hI.sU,nt:=hI.nt,df:=?_,gl:=hI.gl.mono hchg.im}
 . intro id cs' h
   simp only [AY] at h;split at h
   . rename_i e;subst e;cases h
     exact .inr (.inr ⟨hph,hlo,hnim, .inr (.inl ⟨hbs,es,ms',ck',rfl,World.putObj_heap_same hlt,hr.mono hchg.im⟩)⟩)
   . rename_i e
     have hlv:(st.H id).isSome=true:=by rw [h];rfl
     exact hchg.hb (hI.dom id hlv) (hI.wh id cs' h) (hI.hp id cs' h) (fun hp=>hsame _ (fun e'=>e (hI.inj id b hlv hlive hp hph e'))) (fun hx _=>hx)
 . intro id cs' h x hx
   simp only [AY] at h;split at h
   . cases h
     simp only [Qo,List.mem_cons,List.not_mem_nil,or_false] at hx;rcases hx with rfl | rfl
     . intro t
       unfold mq;split
       . intro c hc
         obtain ⟨x,_,rfl⟩:=List.mem_map.1 hc;trivial
       . trivial
     . trivial
   . exact hI.wh id cs' h x hx
 . refine ⟨hI.keep.os,hI.keep.tape,hI.keep.output,hI.keep.drawn,by rw [World.putObj_size];exact hI.keep.size,fun j hj hm=>(hsame j fun e=>?_).trans (hI.keep.block j hj hm)⟩
   rcases hI.own b hlive hph with h | h
   . omega
   . exact hm (e ▸ h)
 . obtain ⟨ds,h1,h2⟩:=hI.df
   exact ⟨ds,h1,h2.same (fun D _ hd=>hsame D (fun e=>by rw [e,hh] at hd;cases hd)) (fun _ _ _ h=>h)⟩
theorem AJ2 (hΓ:GOk P Γ) (hE:EB P eqs) (hI:Inv E U G st a W) {o:Oper} {t:TypeId} {m k x:Operand} (ho:o.op= .mapUpdate t m k x\/o.op= .insert t m k x) {v:V} {e:Eff}
   (he:AJ3 Γ eqs st.H t (evF st.fr m) (evF st.fr k) (evF st.fr x)=some (v,e)):Out P E U st a W o v e:=by
 unfold AJ3 at he;cases hp:AE6 Γ eqs st.H t (evF st.fr m) (evF st.fr k) with
 | none=>simp [hp] at he
 | some p=>
   obtain ⟨id,es,key,r,et⟩:=p;simp only [hp,Option.bind_some] at he;cases hdv:AJO (evF st.fr x) with
   | none=>simp [hdv] at he
   | some d=>
     obtain ⟨ag,ds⟩:=d;simp only [hdv,Option.map_some,Option.some.injEq] at he;obtain ⟨kt,ms,ck,old,h1,h3,h4,h5,h6,h7,h8,h9,h10,h11,h12,h13,h14⟩:=AJT hΓ hE hI hp;have hv:=AKZ (hI.op x).1 hdv;have hck:=h3.chk false W;have hkc:=h3.c
     have hexec:∀ W',(Instr.mapUpdate t (a.eval m) (a.eval k) (a.eval x)).run P W= .ok () W'->(execOp a.eval o).run P W= .ok .skip W':=fun W' hz=>by
       rcases ho with ho | ho<;>simp only [execOp,ho,Sem.run_bind,hz,Result.andThen_ok]<;>rfl
     have hset:∀ (ob:Obj),(setObj (G.β id) ob).run P W= .ok () (W.putObj (G.β id) ob):=fun ob=>AJQ ob h12
     rcases h3.find W h13 h14 with ⟨hr,hf⟩ | ⟨j,e0,m0,hr,a2,a3,a4,a5,a6,hf⟩
     . subst hr
       cases he
       obtain ⟨hI',hc⟩:=hI.putMap h6 h8 h9 h10 h11 h12 (ms':=ms.push {key,val:=a.eval x,born:=ck}) (ck':=ck+1) (es:=es++[(key,ag,ds)]) (by
         rw [Array.toList_push];exact h13.append ⟨⟨rfl,hkc,hv⟩,trivial⟩)
       refine ⟨.skip,undef,_,G,hexec _ ?_, .inr ⟨rfl,rfl⟩,hI',trivial,trivial⟩;rw [h4,h5];simp only [Instr.mapUpdate,Sem.run_bind,run_underlying h1,Xy h12,Result.andThen_ok,hck,hf,hset]
     . subst hr
       simp only at he hf;cases he;have hjl:=(List.getElem?_eq_some_iff.1 a3).1
       have hkey:((ms[j]?).map (·.key)).getD key=key:=by
         have:ms[j]?= some m0:=by rw [<-Array.getElem?_toList];exact a3
         rw [this];simp only [Option.map_some,Option.getD_some];rw [a5];exact AKK a4
       obtain ⟨hI',hc⟩:=hI.putMap h6 h8 h9 h10 h11 h12 (ms':=ms.modify j fun q=>{q with key,val:=a.eval x}) (ck':=ck) (es:=es.set j (key,ag,ds)) (by
         rw [Array.toList_modify];refine AJ.of_get ?_ fun i u w hu hw=>?_
         . simp [h13.length]
         . by_cases hij:j=i
           . subst hij
             rw [List.getElem?_set_self (by rw [h13.length];exact hjl)] at hu;cases hu;rw [List.getElem?_modify,a3] at hw;simp at hw;subst hw;exact ⟨rfl,hkc,hv⟩
           . rw [List.getElem?_set_ne hij] at hu
             rw [List.getElem?_modify] at hw;obtain ⟨w2,hw2,hrr⟩:=h13.get hu;rw [hw2] at hw;simp [hij] at hw;subst hw;exact hrr)
       refine ⟨.skip,undef,_,G,hexec _ ?_, .inr ⟨rfl,rfl⟩,hI',trivial,trivial⟩;rw [h4,h5];simp only [Instr.mapUpdate,Sem.run_bind,run_underlying h1,Xy h12,Result.andThen_ok,hck,hf,hkey,Instr.keyThatStays,h3.bits,if_true,Sem.run_pure,hset]
theorem AKa {t:TypeId} {y:Ty} (h:C1 P t y) {z:Value} (hz:(Go.zeroValue t).run P W= .ok z W):R2 G W (mkV y.agg (y.zero.map cV)) z/\A2 U AR (mkV y.agg (y.zero.map cV)):=by
 obtain ⟨i,z',hi,hs,_,hz',hc⟩:=h.info
 have e:z=z':=by
   have:(Go.zeroValue t).run P W= .ok z' W:=by simp [Go.zeroValue,Go.typeInfo,hi,hz']
   rw [this] at hz;cases hz;rfl
 subst e;have ha:=h.za i z hi hz';have hf:=List.all_eq_true.1 h.zf;cases hag:y.agg with
 | true=>
   rw [hag] at ha;cases z<;>first | (cases ha;done) | skip
   rename_i cs;have hc:cs.toList=y.zero:=hc;refine ⟨⟨cs,rfl,?_⟩,?_⟩
   . rw [hc]
     exact AJ.map_left.2 (AJ.of_get rfl fun i a b ha hb=>by
       rw [ha] at hb;cases hb;exact RD.lit _ (hf _ (List.mem_of_getElem? ha)))
   . intro c hcm
     obtain ⟨x,_,rfl⟩:=List.mem_map.1 hcm;trivial
 | false=>
   rw [hag] at ha
   have hz1:y.zero=[z]:=by
     rw [<-hc];cases z<;>first | (cases ha;done) | rfl
   rw [hz1] at hf ⊢;exact ⟨RD.lit _ (hf z (by simp)),trivial⟩
theorem AKz {e:Value × Bool × List D} {x:Value} (h:AJR G.Im W e.2.1 e.2.2 x) {v:V} (hv:AKc e=some v):R2 G W v x/\A2 U AR v:=by
 unfold AKc at hv;unfold AJR at h;cases hag:e.2.1 with
 | true=>
   rw [hag] at h hv;cases hv;obtain ⟨cv,rfl,hc⟩:=h;refine ⟨⟨cv,rfl,AJ.map_left.2 hc⟩,?_⟩;intro c hcm;obtain ⟨x,_,rfl⟩:=List.mem_map.1 hcm;trivial
 | false=>
   rw [hag] at h hv;obtain ⟨c,e1,hr⟩:=h;rw [e1] at hv;cases hv;exact ⟨hr,trivial⟩
theorem AK0 (hΓ:GOk P Γ) (hE:EB P eqs) (hI:Inv E U G st a W) {o:Oper} {t:TypeId} {m k:Operand} {ok:Bool} (ho:o.op= .lookup t m k ok) {v:V} {e:Eff}
   (he:AJU Γ eqs st.H t (evF st.fr m) (evF st.fr k) ok=some (v,e)):Out P E U st a W o v e:=by
 unfold AJU at he;cases hp:AE6 Γ eqs st.H t (evF st.fr m) (evF st.fr k) with
 | none=>simp [hp] at he
 | some p=>
   obtain ⟨id,es,key,r,et⟩:=p;simp only [hp,Option.bind_some] at he;cases hte:Γ et with
   | none=>simp [hte] at he
   | some ye=>
     simp only [hte,Option.bind_some] at he;obtain ⟨kt,ms,ck,old,h1,h3,h4,h5,h6,h7,h8,h9,h10,h11,h12,h13,h14⟩:=AJT hΓ hE hI hp;have hck:=fun b=>h3.chk b W
     have hTe:=hΓ et ye hte;obtain ⟨z,hz,hzc⟩:=hTe.zeroValue W
     have hexec:∀ z,(Instr.lookup t (a.eval m) (a.eval k) ok).run P W= .ok z W->(execOp a.eval o).run P W= .ok (.value z) W:=fun z hz=>by
       simp only [execOp,ho,Sem.run_bind,hz,Result.andThen_ok];rfl
     rcases h3.find W h13 h14 with ⟨hr,hf⟩ | ⟨j,e0,m0,hr,a2,a3,a4,a5,a6,hf⟩
     . subst hr
       cases he;have hzr:R2 G W (mkV ye.agg (ye.zero.map cV)) z/\A2 U AR (mkV ye.agg (ye.zero.map cV)):=AKa hTe hz;refine Out.pure hI (hexec (if ok then .tuple #[z, .bool false] else z) ?_) ?_ ?_
       . rw [h4,h5]
         simp only [Instr.lookup,Sem.run_bind,run_underlying h1,Xy h12,Result.andThen_ok,hck,hf,hz,Sem.run_pure]
       . cases ok
         . exact hzr.1.rv
         . exact ⟨_,rfl,⟨hzr.1,⟨RD.lit _ rfl,trivial⟩⟩⟩
       . cases ok
         . exact hzr.1.av hzr.2
         . intro c hc
           simp only [List.mem_cons,List.not_mem_nil,or_false] at hc;rcases hc with rfl | rfl
           . exact hzr.2
           . trivial
     . subst hr
       simp only [a2,Option.bind_some] at he hf;cases hvm:AKc e0 with
       | none=>simp [hvm] at he
       | some u=>
         simp only [hvm,Option.map_some,Option.some.injEq] at he;cases he;have hu:=AKz (G:=G) (U:=U) a6 hvm;refine Out.pure hI (hexec (if ok then .tuple #[m0.val, .bool true] else m0.val) ?_) ?_ ?_
         . rw [h4,h5]
           simp only [Instr.lookup,Sem.run_bind,run_underlying h1,Xy h12,Result.andThen_ok,hck,hf,Sem.run_pure]
         . cases ok
           . exact hu.1.rv
           . exact ⟨_,rfl,⟨hu.1,⟨RD.lit _ rfl,trivial⟩⟩⟩
         . cases ok
           . exact hu.1.av hu.2
           . intro c hc
             simp only [List.mem_cons,List.not_mem_nil,or_false] at hc;rcases hc with rfl | rfl
             . exact hu.2
             . trivial
theorem ANn {cs:List V} {l:List UInt8} (h:ALm cs=some l):∀ {xs:List Value},AJ (R1 G W) cs xs->xs=(l.map fun b=>(b.toNat:Int)).map (Value.int .u8):=by
 induction cs generalizing l with
 | nil=>
   intro xs hr;cases h;cases xs with
   | nil=>rfl
   | cons x r=>exact hr.elim
 | cons v r ih=>
   intro xs hr;cases xs with
   | nil=>exact hr.elim
   | cons x xr=>
     obtain ⟨h1,h2⟩:=hr;simp only [ALm] at h;cases hb:AN7 v with
     | none=>simp [hb] at h
     | some b=>
       simp only [hb,Option.bind_some] at h;obtain ⟨l',hl',rfl⟩:=Option.map_eq_some_iff.1 h;unfold AN7 at hb;split at hb
       . rename_i n
         split at hb
         . rename_i hn
           cases hb;have hx:x= .int .u8 n:=Rc h1.r2.rv;subst hx;rw [ih hl' h2];simp only [List.map_cons]
           have:((UInt8.ofNat n.toNat).toNat:Int)=n:=by
             rw [UInt8.toNat_ofNat'];omega
           rw [this]
         . cases hb
       . cases hb
theorem ANo (l:List UInt8):∀ s:ByteArray,(l.map fun b=>(b.toNat:Int)).foldl (fun r n=>r.push (UInt8.ofNat n.toNat)) s=⟨(s.data.toList++l).toArray⟩:=by
 induction l with
 | nil=>intro s;simp
 | cons b l ih=>
   intro s;simp only [List.map_cons,List.foldl_cons];rw [ih];congr 1;simp [ByteArray.push]
theorem AMe (hI:Inv E U G st a W) {v:V} {x:Value} (hx:RV G W v x) {n:Nat} {cs:List V} (h:cellsOf st.H 1 v=some (n,cs)):
   ∃ a0 cap xs,x= .slice a0 n cap/\xs.length=n/\((a0=none/\xs=[])\/∃ ad,a0=some ad/\∀ (j:Nat) y,xs[j]?= some y->W.cell? (ad.add j)=some y)/\AJ (R1 G W) cs xs:=by
 unfold cellsOf at h;split at h
 . rename_i p q r
   cases h;have:=BO hx;subst this
   have hf:CU (.slice p q r)=true:=by
     have hx':RD G.Im W (.lit (.slice p q r)) (.slice p q r):=hx;cases hx' with
     | lit _ h=>exact h
   simp [CU] at hf;obtain ⟨⟨rfl,rfl⟩,rfl⟩:=hf;exact ⟨none,0,[],rfl,rfl, .inl ⟨rfl,rfl⟩,trivial⟩
 . rename_i sz' es
   split at h
   . rename_i hsz
     subst hsz;cases h;have hx':RD G.Im W (.sl 1 es) x:=hx;cases hx' with
     | sl _ _ ao cap vs hs hl hcap hm hr=>
       refine ⟨ao,cap,(List.range es.length).map (fun i=>vs i 0),rfl,by simp,?_,?_⟩
       . by_cases he:es.length=0
         . cases ao with
           | none=>exact .inl ⟨rfl,by simp [he]⟩
           | some ad=>exact .inr ⟨ad,rfl,fun j y hy=>by simp [he] at hy⟩
         . have h0:es[0]?= some es[0]:=List.getElem?_eq_getElem (by omega)
           obtain ⟨ad,ha,_⟩:=hm 0 _ h0;refine .inr ⟨ad,ha,fun j y hy=>?_⟩;rw [List.getElem?_map] at hy;by_cases hj:j<es.length
           . rw [List.getElem?_range hj] at hy
             simp only [Option.map_some,Option.some.injEq] at hy;obtain ⟨ad',ha',_,hc⟩:=hm j _ (List.getElem?_eq_getElem hj);rw [ha] at ha';cases ha';have he1:=hs es[j] (List.getElem_mem hj);have hc0:=hc 0 (es[j])[0] (List.getElem?_eq_getElem (by omega));simp only [Nat.mul_one,Nat.add_zero] at hc0;rw [hc0,hy]
           . rw [List.getElem?_eq_none (by simpa using hj)] at hy
             cases hy
       . refine AJ.map_left.2 (AJ.of_get ?_ fun i y z hy hz=>?_)
         . rw [B3 (sz:=1) es hs];simp
         . rw [List.getElem?_map] at hz
           have hfl:=B3 (sz:=1) es hs;have hi:i<es.length:=by have:=(List.getElem?_eq_some_iff.1 hy).1;omega
           rw [List.getElem?_range hi] at hz;simp only [Option.map_some,Option.some.injEq] at hz;have he1:=hs es[i] (List.getElem_mem hi)
           have hyy:(es[i])[0]?= some y:=by
             have:=CI (sz:=1) (by omega) es hs i;rw [this] at hy;simpa [Nat.div_one,Nat.mod_one,List.getElem?_eq_getElem hi] using hy
           rw [<-hz];exact hr i _ (List.getElem?_eq_getElem hi) 0 y hyy
   . cases h
 . rename_i id off len sz'
   split at h
   . rename_i hsz
     subst hsz;cases hh:st.H id with
     | none=>simp [hh] at h
     | some c0=>
       simp only [hh,Option.bind_some] at h;split at h
       . rename_i hn
         cases h;simp only [Nat.mul_one] at hn ⊢;obtain ⟨hml,⟨hph,h0,rfl⟩ | ⟨hph,o',cap,rfl,hcap,hoff⟩⟩:=hx
         . subst h0
           exact ⟨none,0,[],rfl,rfl, .inl ⟨rfl,rfl⟩,by simp [AJ]⟩
         . by_cases hl0:n=0
           . subst hl0
             exact ⟨_,cap,[],rfl,rfl, .inr ⟨_,rfl,fun j y hy=>by simp at hy⟩,by simp [AJ]⟩
           . obtain ⟨rfl,_⟩:=hoff (by omega)
             obtain ⟨xs,h1,h2,h3⟩:=(hI.hp id c0 hh).cells hph o' n hn;exact ⟨_,cap,xs,rfl,h1, .inr ⟨_,rfl,h2⟩,h3⟩
       . cases h
   . cases h
 . cases h
theorem APZ (hΓ:GOk P Γ) (hI:Inv E U G st a W) {o:Oper} {s t el:TypeId} {x:Operand} (ho:o.op= .convert s t x) {ys ty:Ty} (hs:Γ s=some ys) (hty:Γ t=some ty) (hsh:ty.sh= .slice el) {b:Nat} (hb:¬ U b) (hU:∀ i,U i->U' i) (hb':U' b) {v:V} {e:Eff}
   (he:APb Γ b ys.sh el (evF st.fr x)=some (v,e)):Out P E U' st a W o v e:=by
 obtain ⟨hx,_⟩:=hI.op x;unfold APb at he;split at he<;>first | (cases he;done) | skip
 rename_i z hz;split at he<;>first | (cases he;done) | skip
 rename_i hss;cases hel:Γ el with
 | none=>simp [hel] at he
 | some ye=>
   simp only [hel,Option.bind_some] at he;split at he
   rotate_left
   . cases he
   rename_i hc;obtain ⟨hu8,hml⟩:=hc;cases he;rw [hz] at hx;have hxa:=BO hx;have hd0:=Mn (hΓ s ys hs) hss;have hd1:=BH (hΓ t ty hty) hsh
   have hd2:P.underlying el=some (.int .u8):=by
     unfold ANr at hu8;split at hu8
     . rename_i h8;exact So (hΓ el ye hel) h8
     . cases hu8
   have hr:=Lib.run_convert_string_bytes (P:=P) W s t el z hd0 hd1 hd2
   have hcs:(Lib.bytesCells W el z).toList=(z.data.toList.map fun q=>Value.int .u8 q.toNat)++(Array.replicate (grownCap W z.size 0 el-z.size) (Value.int .u8 0)).toList:=by
     simp [Lib.bytesCells]
   have hzl:z.data.toList.length=z.size:=Array.length_toList;have hge:=grownCap_ge W z.size 0 el
   have hsz:(Lib.bytesCells W el z).size=grownCap W z.size 0 el:=by
     rw [<-Array.length_toList,hcs];simp only [List.length_append,List.length_map,hzl,Array.length_toList,Array.size_replicate];omega
   have hll:(z.data.toList.map u8V).length=z.size:=by rw [List.length_map,hzl]
   have htk:(Lib.bytesCells W el z).toList.take (z.data.toList.map u8V).length=z.data.toList.map fun q=>Value.int .u8 q.toNat:=by
     rw [hll,hcs,List.take_left' (by rw [List.length_map,hzl])]
   have hrel:∀ G W',AJ (R1 G W') (z.data.toList.map u8V) ((Lib.bytesCells W el z).toList.take (z.data.toList.map u8V).length):=fun G W'=>by
     rw [htk];refine AJ.map_left.2 (AJ.of_get (by simp) fun i p q hp hq=>?_);rw [List.getElem?_map,hp] at hq;simp only [Option.map_some,Option.some.injEq] at hq;subst hq;exact RD.lit _ rfl
   have hall:(z.data.toList.map u8V).all V.isCell=true:=List.all_eq_true.2 fun y hy=>by
     obtain ⟨q,_,rfl⟩:=List.mem_map.1 hy;rfl
   have hok:∀ U:Nat->Prop,∀ y∈z.data.toList.map u8V,A1 U AR y:=fun U y hy=>by
     obtain ⟨q,_,rfl⟩:=List.mem_map.1 hy;exact trivial
   obtain ⟨G',hI1,e1,e2,e3,_⟩:=hI.alloc (W1:=W.drew) (T:=el) hb hU hb' (cs:=z.data.toList.map u8V) (c:=Lib.bytesCells W el z) rfl rfl rfl rfl (by rw [hll,hsz];exact hge) (hrel G W) hall (hok U)
   have hsz2:(W.drew.alloc (.cells (Lib.bytesCells W el z) el)).heap.size=W.heap.size+1:=by
     show (W.heap.push _).size=_
     simp
   have hnew:AMO (Lib.bytesWorld W el z).heap[G'.β b]? (Lib.bytesCells W el z) el:=by
     rw [e1];exact ⟨_,Lib.bytesWorld_at_new W el z, .inr (Nat.le_refl _)⟩
   obtain ⟨hI2,_⟩:=hI1.put (b:=b) (old:=z.data.toList.map u8V) (cs:=z.data.toList.map u8V) (c:=Lib.bytesCells W el z) (T:=el) (W':=Lib.bytesWorld W el z) (by simp [upd]) e3 hnew
     (fun k hk=>by
       rw [e1] at hk;rcases Nat.lt_trichotomy k W.heap.size with h | h | h
       . rw [Lib.bytesWorld_at_old W el z k h]
         show _=(W.heap.push _)[k]?
         rw [Array.getElem?_push,if_neg (by omega)]
       . exact absurd h hk
       . rw [Array.getElem?_eq_none (by rw [Lib.bytesWorld_size];omega),Array.getElem?_eq_none (by rw [hsz2];omega)])
     (by rw [Lib.bytesWorld_size,hsz2]) (by simp [Lib.bytesWorld,World.freeze]) (by simp [Lib.bytesWorld,World.freeze]) (by simp [Lib.bytesWorld,World.freeze]) (by rw [e2]) (by rw [hll,hsz];exact hge) (hrel _ _) hall (hok U')
   refine ⟨.value (.slice (some ⟨W.heap.size,0,none⟩) z.size (grownCap W z.size 0 el)), .slice (some ⟨W.heap.size,0,none⟩) z.size (grownCap W z.size 0 el),Lib.bytesWorld W el z,G',?_, .inl rfl,?_,⟨hml, .inr ⟨e3,0,grownCap W z.size 0 el,?_,hge,fun _=>⟨rfl,?_⟩⟩⟩,hb'⟩
   . simp only [execOp,ho,hxa,Sem.run_bind,hr,Result.andThen_ok]
     rfl
   . have e:upd (upd st.H b (some (z.data.toList.map u8V))) b (some (z.data.toList.map u8V))=upd st.H b (some (z.data.toList.map u8V)):=by
       funext i
       simp only [upd];split<;>rfl
     rw [e] at hI2;exact hI2
   . rw [e1]
   . rw [e2,hsz];omega
theorem UD (hΓ:GOk P Γ) (hI:Inv E U G st a W) {o:Oper} {s t:TypeId} {x:Operand} (ho:o.op= .convert s t x) {b:Nat} (hb:¬ U b) (hU:∀ i,U i->U' i) (hb':U' b) {v:V} {e:Eff} (he:Lb Γ st.H b s t (evF st.fr x)=some (v,e)):Out P E U' st a W o v e:=by
 obtain ⟨hx,_⟩:=hI.op x;unfold Lb at he;cases hs:Γ s with
 | none=>simp [hs] at he
 | some ys=>
   simp only [hs,Option.bind_some] at he;cases hty:Γ t with
   | none=>simp [hty] at he
   | some ty=>
     simp only [hty,Option.bind_some] at he;split at he
     . rename_i k hsh
       split at he
       . rename_i k' n h1
         cases he;rw [h1] at hx;obtain ⟨d,hd,_⟩:=(hΓ s ys hs).und;have hd2:=So (hΓ t ty hty) hsh;refine (Out.pure hI (x:= .int k (k.wrap n)) ?_ (BK rfl) trivial:Out P E U st a W o _ _).mono hU;simp [execOp,ho,Rc hx,convert,run_underlying hd,run_underlying hd2,Conv.intToInt]
       . cases he
     . rename_i hsh
       unfold ANs at he;split at he
       . rename_i el hss
         cases hel:Γ el with
         | none=>simp [hel] at he
         | some ye=>
           simp only [hel,Option.bind_some] at he;split at he
           . rename_i hu8
             cases hcl:cellsOf st.H 1 (evF st.fr x) with
             | none=>simp [hcl] at he
             | some p=>
               obtain ⟨n,cs⟩:=p;simp only [hcl,Option.bind_some] at he;cases hbv:ALm cs with
               | none=>simp [hbv] at he
               | some l=>
                 simp only [hbv,Option.map_some,Option.some.injEq] at he;cases he;have hd0:=BH (hΓ s ys hs) hss
                 have hd1:P.underlying el=some (.int .u8):=by
                   unfold ANr at hu8;split at hu8
                   . rename_i h8;exact So (hΓ el ye hel) h8
                   . cases hu8
                 have hd2:=Mn (hΓ t ty hty) hsh;obtain ⟨a0,cap,xs,hxe,hxl,hload,hxr⟩:=AMe hI hx hcl;refine (Out.pure hI (x:= .string ⟨l.toArray⟩) ?_ (BK rfl) trivial:Out P E U st a W o _ _).mono hU;have hxs:xs=(l.map fun b=>(b.toNat:Int)).map (Value.int .u8):=ANn hbv hxr;rw [<-hxl] at hxe;simp only [execOp,ho,hxe,Sem.run_bind];rw [run_convert_bytes_string W s t el a0 _ _ hd0 hd1 hd2];cases a0 with
                 | none=>
                   rcases hload with ⟨_,hload⟩ | ⟨ad,ha,_⟩
                   . rw [hload] at hxs
                     have:l=[]:=by
                       have:=congrArg List.length hxs;exact List.eq_nil_of_length_eq_zero (by simpa using this.symm)
                     subst this;simp [Conv.bytesToString];rfl
                   . cases ha
                 | some ad=>
                   have hld:(loadCells ad xs.length).run P W= .ok ((l.map fun b=>(b.toNat:Int)).map (Value.int .u8)).toArray W:=by
                     rcases hload with ⟨ha,_⟩ | ⟨ad',ha,hload⟩
                     . cases ha
                     . cases ha
                       rw [run_loadCells_list (P:=P) W ad xs hload,hxs]
                   rw [run_bytesToString W ad _ _ _ hld,ANo];simp
           . cases he
       . cases he
     . rename_i el hsh
       exact APZ hΓ hI ho hs hty hsh hb hU hb' he
     . cases he
end Go.Psl
namespace Go.Psl
variable {P:Program} {Γ:Tys} {eqs:Eqs} {E:Ent} {U U':Nat->Prop} {G:Gh} {st:St} {a:Act} {W:World}
theorem Yl (hΓ:GOk P Γ) (hE:EB P eqs) (hI:Inv E U G st a W) {o:Oper} {b:Nat} (hb:¬ U b) (hU:∀ i,U i->U' i) (hb':U' b) {v:V} {e:Eff} (he:A9 Γ eqs st.H b st.fr o.op=some (v,e)):Out P E U' st a W o v e:=by
 unfold A9 at he;split at he
 . rename_i x ho;cases he;exact (N5 hI (.inl ho)).mono hU
 . rename_i x ho;cases he;exact (N5 hI (.inr ho)).mono hU
 . rename_i ho;exact (UF hI ho he).mono hU
 . rename_i ho;exact ANm hΓ hI ho hb hU hb' he
 . rename_i ho;exact fY hI ho hb hU hb' he
 . rename_i ho;exact (Vf hΓ hI ho he).mono hU
 . rename_i ho;exact AMW hΓ hI ho hb hU hb' he
 . rename_i ho;exact iM hΓ hI ho hb hU hb' he
 . rename_i ho;cases he;exact AJ1 hI ho hb hU hb'
 . rename_i ho;exact (AJ2 hΓ hE hI (.inl ho) he).mono hU
 . rename_i ho;exact (AJ2 hΓ hE hI (.inr ho) he).mono hU
 . rename_i ho;exact (AK0 hΓ hE hI ho he).mono hU
 . rename_i ho;exact (AH5 hΓ hI ho he).mono hU
 . rename_i ho;exact (VP hΓ hI ho he).mono hU
 . rename_i ho;exact (Yy hΓ hE hI ho he).mono hU
 . rename_i ho;exact (dN hI ho he).mono hU
 . rename_i ho;exact (Wz hI ho he).mono hU
 . rename_i ho;exact (vm hΓ hI ho he).mono hU
 . rename_i ho;exact (XA hΓ hI ho he).mono hU
 . rename_i ho;exact UD hΓ hI ho hb hU hb' he
 . rename_i ho;exact (UG hI ho he).mono hU
 . rename_i ho;exact (UK hΓ hI ho he).mono hU
 . rename_i ho;exact (QF hΓ hI ho he).mono hU
 . rename_i ho;exact (Vg hΓ hI ho he).mono hU
 . rename_i ho;exact (P9 hΓ hI ho he).mono hU
 . rename_i ho;exact (Vh hΓ hI ho he).mono hU
 . rename_i ho
   unfold AN8 at he;split at he
   . rename_i hf
     unfold G8 at he;split at he
     . rename_i hc;cases he;exact (Mi hI ho (by rw [<-Array.length_toList,hf];rfl) hc.2).mono hU
     . cases he
   . rename_i hf
     exact (AOq hI ho hf he).mono hU
   . cases he
 . rename_i c ho
   split at he
   . rename_i hc
     split at he
     . rename_i h1 h2;exact (Wu hΓ hI ho hc h1 h2 he).mono hU
     . cases he
   . rename_i hc;exact (Wx hI ho hc he).mono hU
   . rename_i hc;exact (Wy hI ho hc he).mono hU
   . rename_i hc
     split at he
     . rename_i h1 h2
       split at he
       . rename_i ht;subst ht;exact dP hΓ hI ho hc h1 h2 hb hU hb' he
       . exact ci hΓ hI ho hc h1 h2 hb hU hb' he
     . cases he
   . rename_i hc
     split at he
     . rename_i h1 h2;exact (cZ hΓ hI ho hc h1 h2 he).mono hU
     . cases he
   . rename_i hc
     split at he
     . rename_i h1 h2;exact (WL hΓ hI ho hc h1 h2 he).mono hU
     . cases he
   . cases he
 . cases he
theorem Inv.slot (hI:Inv E U G st a W) {v:V} {x:Value} (hv:RV G W v x) (ha:AV U AR v) (dst:Option Nat) (hd:∀ d,dst=some d->d<E.nt):Inv E U G ⟨Am st.fr dst v,st.H,st.nx⟩ (a.put dst x) W:=by
 cases dst with
 | none=>exact {hI with}
 | some d=>
   have hlt:d<a.tmps.size:=Nat.lt_of_lt_of_le (hd d rfl) hI.nt
   have hget:∀ t,(a.put (some d) x).tmps.getD t undef=if t=d then x else a.tmps.getD t undef:=fun t=>by
     simp only [Act.put,Array.getD_eq_getD_getElem?,Array.getElem?_setIfInBounds];by_cases h:d=t
     . subst h;simp [hlt]
     . simp [h,Ne.symm h]
   refine {hI with fr:=fun t=>?_,wf:=fun t=>?_,nt:=by simpa [Act.put] using hI.nt,df:=by simpa [Act.put] using hI.df}
   . rw [hget]
     simp only [Am,AY];split
     . exact hv
     . exact hI.fr t
   . simp only [Am,AY]
     split
     . exact ha
     . exact hI.wf t
theorem Inv.drew (hI:Inv E U G st a W):Inv E U G st a {W with drawn:=W.drawn+1}:=by
 have hchg:Chg U G W G {W with drawn:=W.drawn+1}:=⟨fun i _=>⟨rfl,rfl,rfl,rfl⟩,fun k hk=>⟨hk,rfl⟩⟩
 refine {hI with fr:=fun t=>hchg.rv (hI.wf t) (hI.fr t),hp:=fun id cs h=>hchg.hb (hI.dom id (by rw [h];rfl)) (hI.wh id cs h) (hI.hp id cs h) (fun _=>rfl) (fun h _=>h),im:=fun b hb=>hI.im b hb,keep:=⟨hI.keep.os,hI.keep.tape,hI.keep.output,(by first | exact Nat.le_refl _ | exact Nat.le_succ_of_le hI.keep.drawn),hI.keep.size,hI.keep.block⟩,df:=hI.df.imp fun ds h=>⟨h.1,h.2.same (fun _ _ _=>rfl) (fun _ _ _ h=>h)⟩}
def lk {α:Type}:List (Nat × α)->Nat->Option α
 | [],_=>none
 | p::r,i=>if i=p.1 then some p.2 else lk r i
def B9:D->Prop:=fun x=>∃ v,x= .lit v
def InH (H:Hp) (i:Nat):Prop:=(H i).isSome=true
structure ANh (G:Gh) (W:World) (Hin:Hp) (ks:List Nat):Prop where
 hb:∀ i cs,Hin i=some cs->HB G W i cs
 inj:∀ i j,InH Hin i->InH Hin j->G.ph i=false->G.ph j=false->G.β i=G.β j->i=j
 st:∀ i∈ks,InH Hin i/\G.ph i=false
inductive Res where
 | ret (v:V)
 | pan (v:V)
def Res.v:Res->V
 | .ret v=>v
 | .pan v=>v
def HV (G:Gh) (W:World):Res->Ending->Prop
 | .ret r, .returned v=>RV G W r v
 | .pan r, .panicked ch=>∃ x,ch=[{v:=x,recovered:=false}]/\RV G W r x
 | _,_=>False
def Bm (G:Gh) (Hin:Hp) (b:Nat):Prop:=∃ i,InH Hin i/\G.ph i=false/\G.β i=b
structure sG (G:Gh) (W:World) (Hin:Hp) (ks:List Nat) (res:Res) (H1:Hp) (e:Ending) (W':World) (G':Gh):Prop where
 os:W'.os=W.os
 tape:W'.tape=W.tape
 output:W'.output=W.output
 drawn:dr W<=dr W'
 size:W.heap.size<=W'.heap.size
 block:∀ b,b<W.heap.size->¬ Bm G Hin b->W'.heap[b]?= W.heap[b]?
 im:∀ b,G'.Im b->b<W'.heap.size/\(G.Im b\/W.heap.size<=b\/Bm G Hin b)
 im0:∀ b,G.Im b->G'.Im b
 rv:HV G' W' res e
 wf:AV (InH H1) AR res.v
 hb:∀ i cs,H1 i=some cs->HB G' W' i cs/\(G'.ph i=false->W.heap.size<=G'.β i\/Bm G Hin (G'.β i))/\∀ c∈cs,AC (InH H1) AR c
 inj:∀ i j,InH H1 i->InH H1 j->G'.ph i=false->G'.ph j=false->G'.β i=G'.β j->i=j
 st:∀ i∈ks,InH H1 i->G'.β i=G.β i/\G'.bs i=G.bs i/\G'.ph i=false/\G'.lo i=G.lo i
def fF (P:Program) (f:FuncId):Prop:=∃ fn,P.funcs[f]?= some fn/\fn.body.isSome=true/\(fn.name == "runtime.NumGoroutine")=false
def Cm (P:Program) (f:FuncId) (args:List V) (Hin:Hp) (ks:List Nat) (res:Res) (H1:Hp):Prop:=
 fF P f/\∀ (G:Gh) (W:World) (xs:Array Value),GW G.Im W->AJ (R2 G W) args xs.toList->ANh G W Hin ks->
   Calls P f xs W fun e W'=>∃ G',sG G W Hin ks res H1 e W' G'
abbrev Ct (P:Program) (f:FuncId) (args:List V) (r:V) (H1:List (Nat × List V)):Prop:=Cm P f args (fun _=>none) [] (.ret r) (lk H1)
def Df (H:Hp):V->V->Prop
 | .d x, .d y=>x=y\/(x= .lit (.slice none 0 0)/\∃ sz,y= .sl sz [])
 | .ls id off len sz, .d (.sl sz' es)=>sz'=sz/\es.length=len/\(∀ e∈es,e.length=sz)/\∃ cs,H id=some cs/\(cs.drop off).take (len*sz)=es.flatten.map .d
 | .lp id off, .d (.ref ds)=>∃ cs,H id=some cs/\(cs.drop off).take ds.length=ds.map .d
 | .cl f caps, .d (.fn g ds)=>f=g/\caps=ds.map .d
 | .lp id off, .lp id' off'=>id=id'/\off=off'
 | .ls id off len sz, .ls id' off' len' sz'=>id=id'/\off=off'/\len=len'/\sz=sz'
 | .yl id, .yl id'=>id=id'
 | _,_=>False
def Fi (H:Hp):V->V->Prop
 | .cl f caps, .cl g caps'=>f=g/\caps=caps'
 | .cl f caps, .d (.fn g ds)=>f=g/\AJ (Df H) caps (ds.map .d)
 | x,y=>Df H x y
def Bor (H:Hp):V->V->Prop
 | .agg cs, .agg ds=>AJ (Fi H) cs ds
 | x,y=>Fi H x y
def I8 (v:V):Prop:=A2 (fun _=>False) AR v
def BJ (ρ:Nat->Nat):V->V
 | .lr fr nt ps pa pb jmp=> .lr (fun t=>ren ρ (fr t)) nt ps pa pb jmp
 | v=>DS ρ v
def sg (ks:List Nat) (base:Nat) (j:Nat):Nat:=if j∈ks then j else base+j
def BI (H:Hp) (base:Nat) (Hin:Hp) (ks:List Nat) (H1:Hp):Hp:=fun id=>
 if id∈ks then (H1 id).map (·.map (BJ (sg ks base)))
 else if (Hin id).isSome then none
 else if base<=id then (if id-base∈ks then H id else match H1 (id-base) with | some cs=>some (cs.map (BJ (sg ks base))) | none=>H id)
 else H id
theorem Um {ρ:Nat->Nat} {v:V} (h:V.isCell v=true):V.isCell (DS ρ v)=true:=by
 cases v<;>first | (simp [V.isCell] at h;done) | rfl
theorem L4 {ρ:Nat->Nat} {v:V} (h:V.isCell v=true):BJ ρ v=DS ρ v:=by
 cases v<;>first | (simp [V.isCell] at h;done) | rfl
theorem A0.ren {p:Nat->Prop} {q:D->Prop} {ρ:Nat->Nat} {p':Nat->Prop} (hp:∀ i,p i->p' (ρ i)) {v:V} (h:A0 p q v):A0 p' AR (DR ρ v):=by
 cases v<;>first | exact hp _ h | exact False.elim h | trivial
theorem A1.ren {p:Nat->Prop} {q:D->Prop} {ρ:Nat->Nat} {p':Nat->Prop} (hp:∀ i,p i->p' (ρ i)) {v:V} (h:A1 p q v):A1 p' AR (DS ρ v):=by
 cases v with
 | cl f caps=>intro c hc;simp only [List.mem_map] at hc;obtain ⟨y,hy,rfl⟩:=hc;exact A0.ren hp (h y hy)
 | lp id off=>exact hp _ h
 | ls id off len sz=>exact hp _ h
 | yl id=>exact hp _ h
 | lr=>exact False.elim h
 | _=>trivial
theorem A2.ren {p:Nat->Prop} {q:D->Prop} {ρ:Nat->Nat} {p':Nat->Prop} (hp:∀ i,p i->p' (ρ i)) {v:V} (h:A2 p q v):A2 p' AR (HR ρ v):=by
 cases v with
 | agg cs=>intro c hc;simp only [List.mem_map] at hc;obtain ⟨y,hy,rfl⟩:=hc;exact A1.ren hp (h y hy)
 | cl f caps=>exact A1.ren (v:= .cl f caps) hp h
 | lp id off=>exact hp _ h
 | ls id off len sz=>exact hp _ h
 | yl id=>exact hp _ h
 | lr=>exact False.elim h
 | _=>trivial
theorem AV.ren {p:Nat->Prop} {q:D->Prop} {ρ:Nat->Nat} {p':Nat->Prop} (hp:∀ i,p i->p' (ρ i)) {v:V} (h:AV p q v):AV p' AR (Psl.ren ρ v):=by
 cases v with
 | tup cs=>intro c hc;simp only [List.mem_map] at hc;obtain ⟨y,hy,rfl⟩:=hc;exact A2.ren hp (h y hy)
 | agg cs=>exact A2.ren (v:= .agg cs) hp h
 | cl f caps=>exact A1.ren (v:= .cl f caps) hp h
 | lp id off=>exact hp _ h
 | ls id off len sz=>exact hp _ h
 | yl id=>exact hp _ h
 | lr=>exact False.elim h
 | _=>trivial
theorem AC.ren {p:Nat->Prop} {q:D->Prop} {ρ:Nat->Nat} {p':Nat->Prop} (hp:∀ i,p i->p' (ρ i)) {v:V} (h:AC p q v):AC p' AR (BJ ρ v):=by
 cases v with
 | lr fr nt ps pa pb jmp=>exact fun t=>AV.ren hp (h t)
 | _=>simp only [AC] at h;exact (A1.ren hp h).ac
theorem AKg {ρ:Nat->Nat} {es:List (Value × Bool × List D)}:BJ ρ (ACA es)=ACA es:=by
 show V.lr _ _ _ _ _ _=V.lr _ _ _ _ _ _
 congr 1
 funext t
 exact AKd
theorem De.hb {p:Nat->Prop} {q:D->Prop} {ρ:Nat->Nat} {G':Gh} (h:De p q ρ G W G' W) {i:Nat} {cs:List V} (hi:p i) (ha:∀ c∈cs,AC p q c) (hb:HB G W i cs) (him:G.ph i=false->¬ G'.Im (G.β i)):HB G' W (ρ i) (cs.map (BJ ρ)):=by
 obtain ⟨e1,e2,e3,e4⟩:=h.id i hi;rcases hb with ⟨h1,h2⟩ | ⟨h1,h0,h2,c,T,h3,h4,h5,h6,h7⟩ | ⟨h1,h0,h2,⟨hz,fr,nt,ps,pa,pb,jmp,rec,h3,h4,h5⟩ | ⟨hz,es,ms,ck,h3,h4,h5⟩ | ⟨hz,bx,bp,bv,h3,h4,h5,h6,h7⟩⟩
 . exact .inl ⟨by rw [e3];exact h1,by rw [h2];rfl⟩
 . have hmap:cs.map (BJ ρ)=cs.map (DS ρ):=List.map_congr_left fun c hc=>L4 (List.all_eq_true.1 h7 c hc)
   rw [hmap];refine .inr (.inl ⟨by rw [e3];exact h1,by rw [e4];exact h0,by rw [e1];exact him h1,c,T,by rw [e1];exact h3,by rw [e2];exact h4,by simpa using h5,?_,?_⟩)
   . rw [List.length_map]
     exact De.all (fun v x=>h.r1) (JT h6 ha) h6
   . rw [List.all_map,List.all_eq_true]
     intro c hc;exact Um (List.all_eq_true.1 h7 c hc)
 . refine .inr (.inr ⟨by rw [e3];exact h1,by rw [e4];exact h0,by rw [e1];exact him h1, .inl ⟨by rw [e2];exact hz,fun t=>ren ρ (fr t),nt,ps,pa,pb,jmp,rec,by rw [h3];rfl,by rw [e1];exact h4,?_⟩⟩)
   obtain ⟨q1,q2,q3,q4,q5,q6⟩:=h5;have hfr:=ha (.lr fr nt ps pa pb jmp) (by rw [h3];simp);exact ⟨q1,q2,q3,q4,fun t=>h.rv (hfr t) (q5 t),q6⟩
 . refine .inr (.inr ⟨by rw [e3];exact h1,by rw [e4];exact h0,by rw [e1];exact him h1, .inr (.inl ⟨by rw [e2];exact hz,es,ms,ck,by rw [h3];exact congrArg (fun x=>[x,V.d (.lit (.bool true))]) AKg,by rw [e1];exact h4,h5.into h ?_⟩)⟩)
   exact ha (ACA es) (by rw [h3];simp [Qo])
 . exact .inr (.inr ⟨by rw [e3];exact h1,by rw [e4];exact h0,by rw [e1];exact him h1, .inr (.inr ⟨by rw [e2];exact hz,DS ρ bx,bp,bv,by rw [h3];show [BJ ρ bx,_]=_;rw [L4 h7];rfl,by rw [e1];exact h4,by rw [e1,e2];exact h5,h.r1 (h6.ac (ha bx (by rw [h3];simp))) h6,Um h7⟩)⟩)
def HW (ρ:Nat->Nat):Res->Res
 | .ret v=> .ret (ren ρ v)
 | .pan v=> .pan (ren ρ v)
def GS (res:Res) (H1:Hp):Prop:=AV (InH H1) B9 res.v/\∀ i cs,H1 i=some cs->∀ c∈cs,AC (InH H1) B9 c
def Km (G:Gh) (st:St) (Hin:Hp) (b:Nat):Prop:=G.Im b\/∃ i,InH st.H i/\¬ InH Hin i/\G.ph i=false/\G.β i=b
theorem HV.into {p:Nat->Prop} {q:D->Prop} {ρ:Nat->Nat} {G':Gh} (h:De p q ρ G W G' W) {res:Res} {e:Ending} (ha:AV p q res.v) (hr:HV G W res e):HV G' W (HW ρ res) e:=by
 cases res with
 | ret r=>cases e with
   | returned v=>exact h.rv ha hr
   | _=>exact hr.elim
 | pan r=>cases e with
   | panicked ch=>obtain ⟨x,hx,hr⟩:=hr;exact ⟨x,hx,h.rv ha hr⟩
   | _=>exact hr.elim
theorem Inv.call (hI:Inv E U G st a W) {base:Nat} (hb:∀ j,j<1048576->¬ U (base+j)) (hU:∀ i,U i->U' i) (hb':∀ j,j<1048576->U' (base+j)) {Im:Nat->Prop} {W':World} {e:Ending} {G':Gh} {Hin:Hp} {ks:List Nat} {res:Res} {H1:Hp}
   (hin:∀ i cs,Hin i=some cs->st.H i=some cs) (hlt:∀ i,InH H1 i->i ∉ ks->i<1048576) (hks:∀ i∈ks,InH Hin i) (hstk:∀ i∈ks,G.ph i=false)
   (hp:sG {G with Im:=Im} W Hin ks res H1 e W' G')
   (hcase:(∀ b,Im b↔G.Im b)\/((∀ b,Im b↔Km G st Hin b)/\GS res H1)):
   ∃ G'',Inv E U' G'' ⟨st.fr,BI st.H base Hin ks H1,st.nx⟩ a W'/\HV G'' W' (HW (sg ks base) res) e/\AV U' AR (HW (sg ks base) res).v/\Chg U G W G'' W':=by
 have hIn:∀ i,InH Hin i->InH st.H i:=fun i hi=>by
   obtain ⟨cs,hcs⟩:=Option.isSome_iff_exists.1 hi
   show (st.H i).isSome=true
   rw [hin i cs hcs];rfl
 have hlB:∀ b,Bm {G with Im:=Im} Hin b↔Bm G Hin b:=fun b=>Iff.rfl
 have hoth:∀ i,InH st.H i->¬ InH Hin i->G.ph i=false->¬ Bm G Hin (G.β i):=fun i hi hn hph ⟨j,hj,hpj,he⟩=>by
   have:=hI.inj j i (hIn j hj) hi hpj hph he;subst this;exact hn hj
 have hltW:∀ i,InH st.H i->G.ph i=false->G.β i<W.heap.size:=fun i hi hp=>by
   obtain ⟨cs,hcs⟩:=Option.isSome_iff_exists.1 hi;exact (hI.hp i cs hcs).lt hp
 have hnim:∀ i,InH st.H i->G.ph i=false->¬ G.Im (G.β i):=fun i hi hp=>by
   obtain ⟨cs,hcs⟩:=Option.isSome_iff_exists.1 hi;exact (hI.hp i cs hcs).nim hp
 obtain ⟨q,IM,hq,hqr,hqc,hImG,hImN⟩:∃ (q:D->Prop) (IM:Nat->Prop),(∀ x u,q x->RD G'.Im W' x u->RD IM W' x u)/\AV (InH H1) q res.v/\(∀ i cs,H1 i=some cs->∀ c∈cs,AC (InH H1) q c)/\(∀ b,G.Im b->IM b)/\
     (∀ b,IM b->b<W'.heap.size/\(G.Im b\/W.heap.size<=b\/Bm G Hin b)/\∀ i,InH H1 i->G'.ph i=false->G'.β i=b->¬ IM b):=by
   rcases hcase with hc | ⟨hc,h1,h2⟩
   . refine ⟨AR,G'.Im,fun _ _ _ h=>h,hp.wf,fun i cs h=>(hp.hb i cs h).2.2,fun b hb=>hp.im0 b ((hc b).2 hb),fun b hb=>?_⟩
     obtain ⟨h1,h2⟩:=hp.im b hb;refine ⟨h1,h2.imp (fun h=>(hc b).1 h) id,fun i hi hph he=>?_⟩;obtain ⟨cs,hcs⟩:=Option.isSome_iff_exists.1 hi;subst he;exact (hp.hb i cs hcs).1.nim hph
   . refine ⟨B9,G.Im,fun x u hx hr=>?_,h1,h2,fun _ h=>h,fun b hb=>?_⟩
     . obtain ⟨w,rfl⟩:=hx
       cases hr with
       | lit _ hf=>exact .lit _ hf
     . have h3:=(hI.im b hb).1
       refine ⟨Nat.lt_of_lt_of_le h3 hp.size, .inl hb,fun i hi hph he=>?_⟩;obtain ⟨cs,hcs⟩:=Option.isSome_iff_exists.1 hi;rcases (hp.hb i cs hcs).2.1 hph with h | ⟨j,hj,hpj,hbj⟩
       . omega
       . exact absurd hb (by rw [<-he,<-hbj];exact hnim j (hIn j hj) hpj)
 let G'':Gh:={β:=fun i=>if base<=i/\i<base+1048576 then G'.β (i-base) else G.β i,bs:=fun i=>if base<=i/\i<base+1048576 then G'.bs (i-base) else G.bs i,ph:=fun i=>if base<=i/\i<base+1048576 then G'.ph (i-base) else G.ph i,lo:=fun i=>if base<=i/\i<base+1048576 then G'.lo (i-base) else G.lo i,Im:=IM}
 have hold:∀ i,U i->¬ (base<=i/\i<base+1048576):=fun i hi h=>hb (i-base) (by omega) (by rw [show base+(i-base)=i by omega];exact hi)
 have hksU:∀ i∈ks,U i:=fun i hi=>hI.dom i (hIn i (hks i hi))
 have hinto:De (InH H1) q (sg ks base) G' W' G'' W':=⟨fun i hi=>by
   unfold sg;by_cases hk:i∈ks
   . obtain ⟨e1,e2,e3,e4⟩:=hp.st i hk hi
     have hn:=hold i (hksU i hk)
     have hphG:G.ph i=false:=by
       obtain ⟨cs,hcs⟩:=Option.isSome_iff_exists.1 (hIn i (hks i hk));by_cases hh:G.ph i=true
       . exfalso
         have:=hstk i hk;rw [this] at hh;cases hh
       . simpa using hh
     simp only [if_pos hk,G'',if_neg hn];exact ⟨e1.symm,e2.symm,by rw [e3];exact hphG,e4.symm⟩
   . have:=hlt i hi hk
     have h:base<=base+i/\base+i<base+1048576:=by omega
     simp only [if_neg hk,G'',if_pos h,show base+i-base=i by omega,and_self],fun x u hx hr=>hq x u hx hr⟩
 have hchg:Chg U G W G'' W':=⟨fun i hi=>by simp only [G'',if_neg (hold i hi),and_self],fun b hb=>⟨hImG b hb,hp.block b (hI.im b hb).1 (fun ⟨j,hj,hpj,he⟩=>hnim j (hIn j hj) hpj (by rw [he];exact hb))⟩⟩
 have hH:∀ i x,BI st.H base Hin ks H1 i=some x->(∃ j cs,i=sg ks base j/\H1 j=some cs/\x=cs.map (BJ (sg ks base)))\/(st.H i=some x/\¬ InH Hin i/\i ∉ ks):=fun i x h=>by
   unfold BI at h;by_cases hk:i∈ks
   . rw [if_pos hk] at h
     simp only [Option.map_eq_some_iff] at h;obtain ⟨cs,h1,rfl⟩:=h;exact .inl ⟨i,cs,by simp [sg,hk],h1,rfl⟩
   . rw [if_neg hk] at h
     by_cases hh:InH Hin i
     . rw [if_pos (show (Hin i).isSome=true from hh)] at h;cases h
     . rw [if_neg (show ¬ (Hin i).isSome=true from hh)] at h
       split at h
       . rename_i hbi
         split at h
         . exact .inr ⟨h,hh,hk⟩
         . rename_i hkb
           split at h
           . rename_i cs hcs
             cases h;exact .inl ⟨i-base,cs,by simp [sg,hkb];omega,hcs,rfl⟩
           . exact .inr ⟨h,hh,hk⟩
       . exact .inr ⟨h,hh,hk⟩
 have hH':∀ i,InH (BI st.H base Hin ks H1) i->(∃ j,i=sg ks base j/\InH H1 j)\/(InH st.H i/\¬ InH Hin i/\¬ (base<=i/\i<base+1048576)):=fun i h=>by
   obtain ⟨x,hx⟩:=Option.isSome_iff_exists.1 h;rcases hH i x hx with ⟨j,cs,h1,h2,_⟩ | ⟨h1,h2,_⟩
   . exact .inl ⟨j,h1,by show (H1 j).isSome=true;rw [h2];rfl⟩
   . have:InH st.H i:=by show (st.H i).isSome=true;rw [h1];rfl
     exact .inr ⟨this,h2,hold i (hI.dom i this)⟩
 have hnew:=hinto.id
 have hsgU:∀ j,InH H1 j->U' (sg ks base j):=fun j hj=>by
   unfold sg;split
   . rename_i hk;exact hU _ (hksU j hk)
   . rename_i hk;exact hb' j (hlt j hj hk)
 have hsginj:∀ i j,InH H1 i->InH H1 j->sg ks base i=sg ks base j->i=j:=fun i j hi hj he=>by
   unfold sg at he;by_cases hki:i∈ks<;>by_cases hkj:j∈ks
   . simpa [hki,hkj] using he
   . simp only [if_pos hki,if_neg hkj] at he
     exact absurd (hksU i hki) (by rw [he];exact hb j (hlt j hj hkj))
   . simp only [if_pos hkj,if_neg hki] at he
     exact absurd (hksU j hkj) (by rw [<-he];exact hb i (hlt i hi hki))
   . simp only [if_neg hki,if_neg hkj] at he;omega
 refine ⟨G'',?_,hp.rv.into hinto hqr,?_,hchg⟩
 rotate_left
 . cases res with
   | ret r=>exact AV.ren (fun i hi=>hsgU i hi) hqr
   | pan r=>exact AV.ren (fun i hi=>hsgU i hi) hqr
 refine {fr:=fun t=>hchg.rv (hI.wf t) (hI.fr t),wf:=fun t=>AV.mono hU (fun _ h=>h) (hI.wf t),hp:=?_,wh:=?_,dom:=?_,inj:=?_,own:=?_,im:=?_,im0:=fun b hb=>hImG b (hI.im0 b hb),keep:=?_,stab:=?_,sU:=fun i hs=>hU _ (hI.sU i hs),nt:=hI.nt,df:=?_,gl:=hI.gl.mono hchg.im}
 . intro i x h
   rcases hH i x h with ⟨j,cs,rfl,h2,rfl⟩ | ⟨h1,h2,_⟩
   . have hpj:InH H1 j:=by show (H1 j).isSome=true;rw [h2];rfl
     exact hinto.hb hpj (hqc j cs h2) (hp.hb j cs h2).1 (fun hph hIM=>(hImN _ hIM).2.2 j hpj hph rfl hIM)
   . have hi:InH st.H i:=by show (st.H i).isSome=true;rw [h1];rfl
     refine hchg.hb (hI.dom i hi) (hI.wh i x h1) (hI.hp i x h1) (fun hph=>hp.block _ (hltW i hi hph) (hoth i hi h2 hph)) (fun hx hph=>?_);rcases (hImN _ hx).2.1 with h | h | h
     . exact h
     . have:=hltW i hi hph;omega
     . exact absurd h (hoth i hi h2 hph)
 . intro i x h y hy
   rcases hH i x h with ⟨j,cs,rfl,h2,rfl⟩ | ⟨h1,h2,_⟩
   . simp only [List.mem_map] at hy
     obtain ⟨z,hz,rfl⟩:=hy;exact (hqc j cs h2 z hz).ren hsgU
   . exact AC.mono hU (fun _ h=>h) (hI.wh i x h1 y hy)
 . intro i h
   rcases hH' i h with ⟨j,rfl,hj⟩ | ⟨h1,_⟩
   . exact hsgU j hj
   . exact hU _ (hI.dom i h1)
 . intro i j hi hj hpi hpj he
   rcases hH' i hi with ⟨i',rfl,hi'⟩ | ⟨hi1,hi2,hi3⟩<;>rcases hH' j hj with ⟨j',rfl,hj'⟩ | ⟨hj1,hj2,hj3⟩
   . rw [(hnew i' hi').2.2.1] at hpi
     rw [(hnew j' hj').2.2.1] at hpj;rw [(hnew i' hi').1,(hnew j' hj').1] at he;rw [hp.inj i' j' hi' hj' hpi hpj he]
   . rw [(hnew i' hi').2.2.1] at hpi
     rw [(hnew i' hi').1] at he;simp only [G'',if_neg hj3] at he hpj;obtain ⟨cs,hcs⟩:=Option.isSome_iff_exists.1 hi';rcases (hp.hb i' cs hcs).2.1 hpi with h1 | h1
     . have h2:=hltW j hj1 hpj;omega
     . rw [he] at h1;exact absurd h1 (hoth j hj1 hj2 hpj)
   . rw [(hnew j' hj').2.2.1] at hpj
     rw [(hnew j' hj').1] at he;simp only [G'',if_neg hi3] at he hpi;obtain ⟨cs,hcs⟩:=Option.isSome_iff_exists.1 hj';rcases (hp.hb j' cs hcs).2.1 hpj with h1 | h1
     . have h2:=hltW i hi1 hpi;omega
     . rw [<-he] at h1;exact absurd h1 (hoth i hi1 hi2 hpi)
   . simp only [G'',if_neg hi3,if_neg hj3] at he hpi hpj
     exact hI.inj i j hi1 hj1 hpi hpj he
 . intro i hi hph
   rcases hH' i hi with ⟨j,rfl,hj⟩ | ⟨h1,_,h2⟩
   . rw [(hnew j hj).2.2.1] at hph
     rw [(hnew j hj).1];obtain ⟨cs,hcs⟩:=Option.isSome_iff_exists.1 hj;rcases (hp.hb j cs hcs).2.1 hph with h1 | ⟨k,hk,hpk,hbk⟩
     . have:=hI.keep.size
       exact .inl (by omega)
     . rw [<-hbk];exact hI.own k (hIn k hk) hpk
   . simp only [G'',if_neg h2] at hph ⊢
     exact hI.own i h1 hph
 . intro b hb
   obtain ⟨h1,h2,_⟩:=hImN b hb;refine ⟨h1,?_⟩;rcases h2 with h | h | ⟨k,hk,hpk,hbk⟩
   . exact (hI.im b h).2
   . exact .inr (.inl (Nat.le_trans hI.keep.size h))
   . rw [<-hbk];exact .inr (hI.own k (hIn k hk) hpk)
 . refine ⟨hp.os.trans hI.keep.os,hp.tape.trans hI.keep.tape,hp.output.trans hI.keep.output,Nat.le_trans hI.keep.drawn hp.drawn,Nat.le_trans hI.keep.size hp.size,fun b hb hm=>(hp.block b (Nat.lt_of_lt_of_le hb hI.keep.size) fun ⟨k,hk,hpk,hbk⟩=>?_).trans (hI.keep.block b hb hm)⟩
   rcases hI.own k (hIn k hk) hpk with h | h
   . simp only at hbk;omega
   . exact hm (hbk ▸ h)
 . intro i hs hi
   rcases hH' i hi with ⟨j,hij,hj⟩ | ⟨h1,_,h2⟩
   . have hUi:=hI.sU _ hs
     unfold sg at hij;split at hij
     . rename_i hk
       subst hij;simp only [G'',if_neg (hold i hUi)];exact hI.stab i hs (hIn i (hks i hk))
     . rename_i hk
       exact absurd hUi (by rw [hij];exact hb j (hlt j hj hk))
   . simp only [G'',if_neg h2]
     exact hI.stab i hs h1
 . obtain ⟨ds,h1,h2⟩:=hI.df
   refine ⟨ds,h1,h2.same (fun D hD hd=>hp.block D (Array.getElem?_eq_some_iff.1 hd).1 fun ⟨k,hk,hpk,hbk⟩=>?_) (fun D hD hd hx=>?_)⟩
   . simp only at hbk
     obtain ⟨cs,hcs⟩:=Option.isSome_iff_exists.1 (hIn k hk);rcases hI.hp k cs hcs with ⟨h,_⟩ | ⟨_,_,_,c,T,⟨fz,h,_⟩,_⟩ | ⟨_,_,_,⟨_,fr,nt,ps,pa,pb,jmp,rec,_,h,_⟩ | ⟨_,es,ms,ck,_,h,_⟩ | ⟨_,bx,bp,bv,_,h,_⟩⟩
     . simp only at hpk;rw [hpk] at h;cases h
     . rw [hbk,hd] at h;cases h
     . rw [hbk,hd] at h;cases h
     . rw [hbk,hd] at h;cases h
     . rw [hbk,hd] at h;cases h
   . rcases (hImN _ hx).2.1 with h | h | ⟨k,hk,hpk,hbk⟩
     . exact h
     . have:=(Array.getElem?_eq_some_iff.1 hd).1;omega
     . obtain ⟨cs,hcs⟩:=Option.isSome_iff_exists.1 (hIn k hk)
       rcases hI.hp k cs hcs with ⟨h,_⟩ | ⟨_,_,_,c,T,⟨fz,h,_⟩,_⟩ | ⟨_,_,_,⟨_,fr,nt,ps,pa,pb,jmp,rec,_,h,_⟩ | ⟨_,es,ms,ck,_,h,_⟩ | ⟨_,bx,bp,bv,_,h,_⟩⟩
       . rw [hpk] at h;cases h
       . rw [hbk,hd] at h;cases h
       . rw [hbk,hd] at h;cases h
       . rw [hbk,hd] at h;cases h
       . rw [hbk,hd] at h;cases h
end Go.Psl
namespace Go.Psl
variable {P:Program} {Γ:Tys} {eqs:Eqs} {E:Ent} {U U':Nat->Prop} {G:Gh} {st:St} {a:Act} {W:World}
def P0:V->Option (FuncId × List V)
 | .d (.fn g caps)=>some (g,caps.map .d)
 | .cl g caps=>some (g,caps)
 | _=>none
def ALR:V->Option (FuncId × List V × List V)
 | .d (.lit (.func (.func g) b c))=>match c.toList,b.toList with
   | [],[.agg vs]=>some (g,[.agg (vs.toList.map cV)],[])
   | _,_=>none
 | v=>(P0 v).map fun p=>(p.1,[],p.2)
def noH:Hp:=fun _=>none
def EE (H Hin:Hp):Hp:=fun i=>if (Hin i).isSome then none else H i
def IB (H:Hp) (az args:List V) (Hin:Hp) (ks:List Nat) (res:Res) (H1:Hp):Prop:=
 (∀ i cs,Hin i=some cs->H i=some cs)/\(∀ i,InH H1 i->i ∉ ks->i<1048576)/\(∀ i∈ks,∃ cs,Hin i=some cs/\cs≠[])/\
   (AJ (Bor noH) az args\/(AJ (Bor (EE H Hin)) az args/\GS res H1))
def HF (P:Program) (H:Hp) (g:FuncId) (az args:List V) (Hin:Hp) (ks:List Nat) (res:Res) (H1:Hp):Prop:=
 Cm P g args Hin ks res H1/\IB H az args Hin ks res H1
def Ym (P:Program) (k:Nat) (args:List V) (Hin:Hp) (ks:List Nat) (res:Res) (H1:Hp):Prop:=
 ∀ (G:Gh) (W:World) (xs:Array Value) (rec:Loop),GW G.Im W->AJ (R2 G W) args xs.toList->ANh G W Hin ks->W.heap[G.β k]?= some (.loop rec)->xs.size=rec.params.size->
   RoundIn Fence.wide 0 P (G.β k) rec.fn ((rec.params.zip xs).foldl (fun tmps (t,a)=>tmps.setIfInBounds t a) rec.tmps) rec.assign rec.body W fun e W'=>∃ G',sG G W Hin ks res H1 e W' G'
def Mp (P:Program) (H:Hp) (k:Nat) (az args:List V) (Hin:Hp) (ks:List Nat) (res:Res) (H1:Hp):Prop:=
 Ym P k args Hin ks res H1/\(∃ fr nt ps pa pb jmp,Hin k=some [.lr fr nt ps pa pb jmp]/\ps.length=args.length)/\IB H az args Hin ks res H1
theorem QI (hI:Inv E U G st a W) {o:Oper} {c:Call} {fo:Operand} (ho:o.op= .call c) (hc:c.callee= .value fo) {g:FuncId} {pre caps:List V} (hg:ALR (evF st.fr fo)=some (g,pre,caps)) (hf:fF P g):
   ∃ xs:Array Value,(execOp a.eval o).run P W= .ok (.enter g xs) W/\AJ (RV G W) (pre++(BX st.fr c.args.toList++caps)) xs.toList:=by
 obtain ⟨fn,hfn,hbody,hname⟩:=hf;obtain ⟨hr,_⟩:=Du hI c.args.toList;obtain ⟨hx,_⟩:=hI.op fo
 have key:∃ bv cv:Array Value,a.eval fo= .func (.func g) bv cv/\AJ (RV G W) pre bv.toList/\AJ (RV G W) caps cv.toList:=by
   unfold ALR at hg;split at hg
   . rename_i g' bb cc hv
     split at hg
     . rename_i vs hcc hbb
       cases hg;rw [hv] at hx;have hfl:=Dv hx;have hxe:=BO hx;refine ⟨bb,cc,hxe,?_,by rw [hcc];trivial⟩;rw [hbb];refine ⟨⟨vs,rfl,O1 ?_⟩,trivial⟩;rw [CU,hcc,hbb] at hfl;refine List.all_eq_true.2 fun v hv=>ANF (List.all_eq_true.1 ?_ v hv)
       simpa using hfl
     . cases hg
   have hg:∃ q,P0 (evF st.fr fo)=some q/\g=q.1/\pre=[]/\caps=q.2:=by
     cases hq:P0 (evF st.fr fo) with
     | none=>rw [hq] at hg;cases hg
     | some q=>rw [hq] at hg;cases hg;exact ⟨q,rfl,rfl,rfl,rfl⟩
   obtain ⟨⟨g',caps'⟩,hg,rfl,rfl,rfl⟩:=hg;unfold P0 at hg;split at hg
   . rename_i g' caps' hv
     cases hg;rw [hv] at hx;have hx':RD G.Im W (.fn g caps') (a.eval fo):=hx
     generalize a.eval fo=u at hx'
     cases hx' with
     | fn _ _ cv hl hrr=>
       refine ⟨#[],cv,rfl,trivial,AJ.map_left.2 (AJ.of_get (by simpa using hl.symm) fun i x y hx hy=>?_)⟩;exact hrr i x y hx (by rwa [Array.getElem?_toList] at hy)
   . rename_i g' caps' hv
     cases hg;rw [hv] at hx;obtain ⟨cv,hxa,hcr⟩:=hx;exact ⟨#[],cv,hxa,trivial,hcr.mono fun _ _ _ h=>R2.rv (R1.r2 (R0.r1 h))⟩
   . cases hg
 obtain ⟨bv,cv,hfe,hpr,hcr⟩:=key;refine ⟨bv++c.args.map a.eval++cv,?_,?_⟩
 . have h1:fn.name≠ "runtime.NumGoroutine" :=by simpa using hname
   have h2:fn.body.isNone=false:=by cases h:fn.body<;>simp_all
   simp only [execOp,ho,resolve,hc,hfe,Deferred.ofValue,Sem.run_bind,Sem.run_pure,Result.andThen_ok,invoke,callFunc,run_program,hfn];simp [h1,h2]
 . have:=hpr.append (hr.append hcr)
   simpa using this
theorem UO (hI:Inv E U G st a W) {o:Oper} {c:Call} {fo:Operand} (ho:o.op= .call c) (hc:c.callee= .value fo) {k:Nat} (hk:evF st.fr fo= .yl k) {fr:Nat->V} {nt:Nat} {ps:List Nat} {pa pb:PC} {jmp:LSt} (hH:st.H k=some [.lr fr nt ps pa pb jmp]) (hl:ps.length=c.args.size):
   ∃ (xs:Array Value) (rec:Loop),W.heap[G.β k]?= some (.loop rec)/\xs.size=rec.params.size/\(execOp a.eval o).run P W= .ok (.round (G.β k) rec.fn ((rec.params.zip xs).foldl (fun tmps (t,a)=>tmps.setIfInBounds t a) rec.tmps) rec.assign rec.body) W/\AJ (RV G W) (BX st.fr c.args.toList) xs.toList:=by
 obtain ⟨hr,_⟩:=Du hI c.args.toList;obtain ⟨hx,_⟩:=hI.op fo;rw [hk] at hx;have hB:=hI.hp k _ hH
 obtain ⟨hbs,rec,hrec,hps⟩:G.bs k=0/\∃ rec,W.heap[G.β k]?= some (.loop rec)/\rec.params.toList=ps:=by
   rcases hB with ⟨_,h⟩ | ⟨_,_,_,c',T,_,_,_,h,h2⟩ | ⟨_,_,_,⟨hz,fr',nt',ps',pa',pb',jmp',rec,h1,h2,h3,_⟩ | ⟨_,es,ms,ck,h1,_⟩ | ⟨_,bx,bp,bv,h1,_⟩⟩
   . cases h
   . simp [V.isCell] at h2
   . cases h1;exact ⟨hz,rec,h2,h3⟩
   . simp [Qo] at h1
   . simp at h1
 have hfe:a.eval fo= .func (.yield (G.β k)) #[] #[]:=by
   rcases hx with ⟨_,h⟩ | ⟨h,_⟩ | ⟨h,_⟩ | ⟨h,_⟩
   . exact h
   . omega
   . omega
   . omega
 have hsz:(c.args.map a.eval).size=rec.params.size:=by rw [Array.size_map,<-hl,<-hps,Array.length_toList]
 refine ⟨c.args.map a.eval,rec,hrec,hsz,?_,by simpa using hr⟩;simp only [execOp,ho,resolve,hc,hfe,Deferred.ofValue,Sem.run_bind,Sem.run_pure,Result.andThen_ok,invoke];rw [show (#[]:Array Value)++c.args.map a.eval=c.args.map a.eval by simp];exact run_yield hrec hsz
theorem OO (hI:Inv E U G st a W) {Hin:Hp} {v c:V} {x:Value} (hb:Df (EE st.H Hin) v c) (hx:RV G W v x):R0 {G with Im:=Km G st Hin} W c x:=by
 have him:∀ b,G.Im b->Km G st Hin b/\W.heap[b]?= W.heap[b]?:= fun b hb=>⟨.inl hb,rfl⟩
 have hless:∀ i cs,EE st.H Hin i=some cs->st.H i=some cs/\¬ InH Hin i:=fun i cs h=>by
   unfold EE at h;split at h
   . cases h
   . rename_i h2;exact ⟨h,h2⟩
 unfold Df at hb;split at hb
 . rename_i y z
   rcases hb with rfl | ⟨rfl,sz,rfl⟩
   . exact RD.mono (x:=y) hx him
   . have:=BO hx
     subst this;exact RD.sl sz [] none 0 (fun _ _=>undef) (by simp) (by simp [maxL]) (by simp) (by simp) (by simp)
 . rename_i id off len sz sz' es
   obtain ⟨rfl,hl,hes,cs,hh0,hcs⟩:=hb;obtain ⟨hh,hnin⟩:=hless _ _ hh0;obtain ⟨hml,⟨hph,h0,rfl⟩ | ⟨hph,o',cap,rfl,hcap,hoff⟩⟩:=hx
   . have:es=[]:=List.eq_nil_of_length_eq_zero (by omega)
     subst this;exact RD.sl sz' [] none 0 (fun _ _=>undef) (by simp) (by simp [maxL]) (by simp) (by simp) (by simp)
   . obtain ⟨_,c,T,⟨fz,hg,_⟩,hbs,hcl,hcr,_⟩:=(hI.hp id cs hh).read hph
     have hfl:=B3 es hes;have hlen:((cs.drop off).take (len*sz')).length=len*sz':=by rw [hcs,List.length_map,hfl,hl]
     have hfit:off+len*sz'<=cs.length\/len*sz'=0:=by simp at hlen;omega
     subst hl;refine RD.sl sz' es (some ⟨G.β id,o',none⟩) cap (fun i j=>c.toList.getD (off+i*sz'+j) undef) hes hml hcap (fun i e he=>⟨_,rfl, .inr ⟨id,by show (st.H id).isSome=true;rw [hh];rfl,hnin,hph.1,rfl⟩,fun j y hy=>?_⟩) (fun i e he j y hy=>?_)
     all_goals
       have hil:i<es.length:=(List.getElem?_eq_some_iff.1 he).1;have hel:=hes e (List.mem_of_getElem? he);have hjl:j<sz':=by have:=(List.getElem?_eq_some_iff.1 hy).1;omega
       have hij:i*sz'+j<es.length*sz':=by
         have:(i+1)*sz'<=es.length*sz':=Nat.mul_le_mul_right _ hil;rw [Nat.add_mul] at this;omega
       have hfit':off+es.length*sz'<=cs.length:=by omega
       have hcell:cs[off+(i*sz'+j)]?= some (.d y):=by
         have h1:((cs.drop off).take (es.length*sz'))[i*sz'+j]?= some (V.d y):=by
           rw [hcs,List.getElem?_map,CI (by omega) es hes];have e1:(i*sz'+j)/sz'=i:=by rw [Nat.add_comm,Nat.add_mul_div_right _ _ (by omega),Nat.div_eq_of_lt hjl];omega
           have e2:(i*sz'+j)%sz'=j:=by rw [Nat.add_comm,Nat.add_mul_mod_self_right,Nat.mod_eq_of_lt hjl]
           rw [e1,e2,he];simp [hy]
         rw [List.getElem?_take,if_pos hij,List.getElem?_drop] at h1;exact h1
       obtain ⟨u,hu,hru⟩:=hcr.get hcell;rw [List.getElem?_take] at hu;split at hu
       rotate_left
       . cases hu
     . obtain ⟨rfl,_⟩:=hoff (by omega)
       rw [Bc];simp only [World.cell?,hg];rw [Array.getElem?_toList] at hu
       have h2:c.toList.getD (o'+i*sz'+j) undef=u:=by
         rw [List.getD_eq_getElem?_getD,Array.getElem?_toList,show o'+i*sz'+j=o'+(i*sz'+j) by omega,hu];rfl
       rw [h2];simpa using hu
     . have h2:c.toList.getD (off+i*sz'+j) undef=u:=by
         rw [List.getD_eq_getElem?_getD,show off+i*sz'+j=off+(i*sz'+j) by omega,hu];rfl
       show RD _ _ y (c.toList.getD (off+i*sz'+j) undef)
       rw [h2];exact RD.mono (x:=y) hru him
 . rename_i id off ds
   obtain ⟨cs,hh0,hcs⟩:=hb;obtain ⟨hh,hnin⟩:=hless _ _ hh0;obtain ⟨hph,rfl⟩:(G.ph id=false/\G.lo id=false)/\x= .pointer (some ⟨G.β id,off,none⟩):=hx;obtain ⟨_,c,T,⟨fz,hg,_⟩,hbs,hcl,hcr,_⟩:=(hI.hp id cs hh).read hph
   have get:∀ (j:Nat) y,ds[j]?= some y->∃ u,c.toList[off+j]?= some u/\RD (Km G st Hin) W y u:=fun j y hy=>by
     have hj:=(List.getElem?_eq_some_iff.1 hy).1;have h1:((cs.drop off).take ds.length)[j]?= some (V.d y):=by rw [hcs,List.getElem?_map,hy];rfl
     rw [List.getElem?_take,if_pos hj,List.getElem?_drop] at h1;obtain ⟨u,hu,hru⟩:=hcr.get h1;rw [List.getElem?_take] at hu;split at hu
     . exact ⟨u,hu,RD.mono (x:=y) hru him⟩
     . cases hu
   refine RD.ref ds _ (fun j=>c.toList.getD (off+j) undef) (.inr ⟨id,by show (st.H id).isSome=true;rw [hh];rfl,hnin,hph.1,rfl⟩) (fun j y hy=>?_) (fun j y hy=>?_)
   . obtain ⟨u,hu,_⟩:=get j y hy
     rw [Bc,List.getD_eq_getElem?_getD,hu];simp only [World.cell?,hg];simpa using hu
   . obtain ⟨u,hu,hr⟩:=get j y hy
     rw [List.getD_eq_getElem?_getD,hu];exact hr
 . rename_i f caps g ds
   obtain ⟨rfl,rfl⟩:=hb;obtain ⟨cv,rfl,hcr⟩:=hx;have hl:=hcr.length;refine RD.fn f ds cv (by simpa using hl.symm) fun j y v hy hv=>?_
   have h1:(ds.map V.d)[j]?= some (V.d y):=by rw [List.getElem?_map,hy];rfl
   obtain ⟨u,hu,hru⟩:=hcr.get h1;rw [Array.getElem?_toList,hv] at hu;cases hu;exact RD.mono (x:=y) hru him
 . obtain ⟨rfl,rfl⟩:=hb;exact hx
 . obtain ⟨rfl,rfl,rfl,rfl⟩:=hb;exact hx
 . have hb:_=_:=hb;subst hb;exact hx
 . exact hb.elim
theorem OP (hI:Inv E U G st a W) {Hin:Hp} {v c:V} {x:Value} (hb:Fi (EE st.H Hin) v c) (hx:R1 G W v x):R1 {G with Im:=Km G st Hin} W c x:=by
 have him:∀ b,G.Im b->Km G st Hin b/\W.heap[b]?= W.heap[b]?:= fun b hb=>⟨.inl hb,rfl⟩
 unfold Fi at hb;split at hb
 . rename_i f caps g caps'
   obtain ⟨rfl,rfl⟩:=hb;obtain ⟨cv,hx,hc⟩:=hx;refine ⟨cv,hx,hc.mono fun v _ x h=>?_⟩;cases v with
   | d y=>exact RD.mono (x:=y) h him
   | _=>exact h
 . rename_i f caps g ds
   obtain ⟨rfl,hb⟩:=hb;obtain ⟨cv,rfl,hc⟩:=hx;have hl:=hc.length;have hl2:=hb.length;rw [List.length_map] at hl2;refine RD.fn f ds cv (by simpa using (hl2.symm.trans hl).symm) fun j y v hy hv=>?_
   have h1:(ds.map V.d)[j]?= some (V.d y):=by rw [List.getElem?_map,hy];rfl
   obtain ⟨c,hcj,hbj⟩:=hb.get2 h1;obtain ⟨u,hu,hru⟩:=hc.get hcj;rw [Array.getElem?_toList,hv] at hu;cases hu;exact OO hI hbj (R2.rv (R1.r2 (R0.r1 hru)))
 . exact R0.r1 (OO hI hb (R2.rv (R1.r2 hx)))
theorem dV (hI:Inv E U G st a W) {Hin:Hp} {v c:V} {x:Value} (hb:Bor (EE st.H Hin) v c) (hx:RV G W v x):R2 {G with Im:=Km G st Hin} W c x:=by
 unfold Bor at hb;split at hb
 . rename_i cs ds
   obtain ⟨cv,rfl,hr⟩:=hx;refine ⟨cv,rfl,AJ.of_get (by rw [<-hb.length,hr.length]) fun i y z hy hz=>?_⟩;obtain ⟨w,hw,hbw⟩:=hb.get2 hy;obtain ⟨u,hu,hru⟩:=hr.get hw;rw [hz] at hu;cases hu;exact OP hI hbw hru
 . refine R1.r2 (OP hI hb ?_)
   cases v<;>first | exact hx | (exfalso;revert hb;cases c<;>simp [Fi,Df];done)
theorem Ly {v c:V} {x:Value} (hb:Df noH v c) (hx:RV G W v x):R0 G W c x:=by
 unfold Df at hb;split at hb
 . rename_i y z
   rcases hb with rfl | ⟨rfl,sz,rfl⟩
   . exact hx
   . have:=BO hx
     subst this;exact RD.sl sz [] none 0 (fun _ _=>undef) (by simp) (by simp [maxL]) (by simp) (by simp) (by simp)
 . obtain ⟨_,_,_,cs,h,_⟩:=hb;cases h
 . obtain ⟨cs,h,_⟩:=hb;cases h
 . rename_i f caps g ds
   obtain ⟨rfl,rfl⟩:=hb;obtain ⟨cv,rfl,hcr⟩:=hx;have hl:=hcr.length;refine RD.fn f ds cv (by simpa using hl.symm) fun j y v hy hv=>?_
   have h1:(ds.map V.d)[j]?= some (V.d y):=by rw [List.getElem?_map,hy];rfl
   obtain ⟨u,hu,hru⟩:=hcr.get h1;rw [Array.getElem?_toList,hv] at hu;cases hu;exact hru
 . obtain ⟨rfl,rfl⟩:=hb;exact hx
 . obtain ⟨rfl,rfl,rfl,rfl⟩:=hb;exact hx
 . have hb:_=_:=hb;subst hb;exact hx
 . exact hb.elim
theorem C6 {v c:V} {x:Value} (hb:Fi noH v c) (hx:R1 G W v x):R1 G W c x:=by
 unfold Fi at hb;split at hb
 . obtain ⟨rfl,rfl⟩:=hb;exact hx
 . rename_i f caps g ds
   obtain ⟨rfl,hb⟩:=hb;obtain ⟨cv,rfl,hc⟩:=hx;have hl:=hc.length;have hl2:=hb.length;rw [List.length_map] at hl2;refine RD.fn f ds cv (by simpa using (hl2.symm.trans hl).symm) fun j y v hy hv=>?_
   have h1:(ds.map V.d)[j]?= some (V.d y):=by rw [List.getElem?_map,hy];rfl
   obtain ⟨c,hcj,hbj⟩:=hb.get2 h1;obtain ⟨u,hu,hru⟩:=hc.get hcj;rw [Array.getElem?_toList,hv] at hu;cases hu;exact Ly hbj (R2.rv (R1.r2 (R0.r1 hru)))
 . exact R0.r1 (Ly hb (R2.rv (R1.r2 hx)))
theorem XQ {v c:V} {x:Value} (hb:Bor noH v c) (hx:RV G W v x):R2 G W c x:=by
 unfold Bor at hb;split at hb
 . rename_i cs ds
   obtain ⟨cv,rfl,hr⟩:=hx;refine ⟨cv,rfl,AJ.of_get (by rw [<-hb.length,hr.length]) fun i y z hy hz=>?_⟩;obtain ⟨w,hw,hbw⟩:=hb.get2 hy;obtain ⟨u,hu,hru⟩:=hr.get hw;rw [hz] at hu;cases hu;exact C6 hbw hru
 . refine R1.r2 (C6 hb ?_)
   cases v<;>first | exact hx | (exfalso;revert hb;cases c<;>simp [Fi,Df];done)
theorem GR (hI:Inv E U G st a W) {az args:List V} {xs:Array Value} (hrel:AJ (RV G W) az xs.toList) {Hin:Hp} {ks:List Nat} {res:Res} {H1:Hp} (h:IB st.H az args Hin ks res H1):
   ∃ Im:Nat->Prop,GW Im W/\AJ (R2 {G with Im:=Im} W) args xs.toList/\ANh {G with Im:=Im} W Hin ks/\(∀ i∈ks,G.ph i=false)/\((∀ b,Im b↔G.Im b)\/((∀ b,Im b↔Km G st Hin b)/\GS res H1)):=by
 obtain ⟨hin,hlt,hks,hcase⟩:=h
 have comb:∀ (Im:Nat->Prop) (B:V->V->Prop),AJ B az args->(∀ v∈az,∀ c x,B v c->RV G W v x->R2 {G with Im:=Im} W c x)->AJ (R2 {G with Im:=Im} W) args xs.toList:=fun Im B hbor hm=>
   AJ.of_get (by rw [<-hbor.length,hrel.length]) fun i y z hy hz=>by
     obtain ⟨w,hw,hbw⟩:=hbor.get2 hy;obtain ⟨u,hu,hru⟩:=hrel.get hw;rw [hz] at hu;cases hu;exact hm w (List.mem_of_getElem? hw) _ _ hbw hru
 have hIn:∀ i,InH Hin i->InH st.H i:=fun i hi=>by
   obtain ⟨cs,hcs⟩:=Option.isSome_iff_exists.1 hi
   show (st.H i).isSome=true
   rw [hin i cs hcs];rfl
 have hst:∀ i∈ks,InH Hin i/\G.ph i=false:=fun i hi=>by
   obtain ⟨cs,hcs,hne⟩:=hks i hi;refine ⟨by show (Hin i).isSome=true;rw [hcs];rfl,?_⟩;rcases hI.hp i cs (hin i cs hcs) with ⟨_,h⟩ | ⟨h,_⟩ | ⟨h,_⟩
   . exact absurd h hne
   . exact h
   . exact h
 rcases hcase with hb | ⟨hb,hfl⟩
 . exact ⟨G.Im,⟨fun b hb=>(hI.im b hb).1,hI.gl⟩,comb _ _ hb fun v hv c x hb hx=>XQ hb hx,⟨fun i cs h=>hI.hp i cs (hin i cs h),fun i j hi hj=>hI.inj i j (hIn i hi) (hIn j hj),hst⟩,fun i hi=>(hst i hi).2, .inl fun _=>Iff.rfl⟩
 . refine ⟨Km G st Hin,⟨fun b hb=>?_,hI.gl.mono fun b hb=>⟨.inl hb,rfl⟩⟩,comb _ _ hb fun v hv c x hb hx=>dV hI hb hx,⟨fun i cs h=>?_,fun i j hi hj=>hI.inj i j (hIn i hi) (hIn j hj),hst⟩,fun i hi=>(hst i hi).2, .inr ⟨fun _=>Iff.rfl,hfl⟩⟩
   . rcases hb with h | ⟨i,hi,_,hph,rfl⟩
     . exact (hI.im b h).1
     . obtain ⟨cs,hcs⟩:=Option.isSome_iff_exists.1 hi
       exact (hI.hp i cs hcs).lt hph
   . have him:∀ b,G.Im b->Km G st Hin b/\W.heap[b]?= W.heap[b]?:= fun b hb=>⟨.inl hb,rfl⟩
     have hchg:Chg U G W {G with Im:=Km G st Hin} W:=⟨fun _ _=>⟨rfl,rfl,rfl,rfl⟩,him⟩
     have hs:=hin i cs h;have hi:InH st.H i:=by show (st.H i).isSome=true;rw [hs];rfl
     refine hchg.hb (hI.dom i hi) (hI.wh i cs hs) (hI.hp i cs hs) (fun _=>rfl) (fun hx hph=>?_);rcases hx with hx | ⟨j,hj,hnj,hpj,he⟩
     . exact hx
     . have:=hI.inj j i hj hi hpj hph he
       subst this;exact absurd (by show (Hin j).isSome=true;rw [h];rfl) hnj
theorem KV {E:Ent} {o:Oper} {c:Call} (ho:o.op= .call c) (ρ:Operand->Value):o.semAt E.F.round ρ=execOp ρ o:=Oper.semAt_eq _ _ _ (by rw [ho];nofun)
theorem ACc (hI:Inv E U G st a W) {o:Oper} {c:Call} {fo:Operand} (ho:o.op= .call c) (hc:c.callee= .value fo) {g:FuncId} {pre caps args:List V} {Hin:Hp} {ks:List Nat} {res:Res} {H1:Hp} (hg:ALR (evF st.fr fo)=some (g,pre,caps))
   (hcall:HF P st.H g (pre++(BX st.fr c.args.toList++caps)) args Hin ks res H1) {base:Nat} (hb:∀ j,j<1048576->¬ U (base+j)) (hU:∀ i,U i->U' i) (hb':∀ j,j<1048576->U' (base+j)) (hd:∀ d,o.dst=some d->d<E.nt)
   {K:Act->World->Prop} {Q:Exit->Act->World->Prop} (h:∀ r G' a' W',res= .ret r->Inv E U' G' ⟨Am st.fr o.dst (ren (sg ks base) r),BI st.H base Hin ks H1,st.nx⟩ a' W'->K a' W')
   (hx:∀ r G' W' ch,res= .pan r->Jp G' W' (.pan (ren (sg ks base) r)) (.panic ch)->AV U' AR (ren (sg ks base) r)->Inv E U' G' ⟨st.fr,BI st.H base Hin ks H1,st.nx⟩ a W'->Q (.panic ch) a W'):o.wpIn E.F 0 P a W K Q:=by
 obtain ⟨hfn,hcb⟩:=hcall;obtain ⟨xs,hrun,hrel⟩:=QI hI ho hc hg hfn.1;obtain ⟨Im,hIm,hall,hpre,hph,hcs⟩:=GR hI hrel hcb;obtain ⟨hin,hlt,hks,_⟩:=hcb;refine ⟨fun _ _=>trivial,?_⟩;rw [KV ho,hrun];simp only [Oper.uponIn];refine ⟨by simp [Fence.wide],?_⟩
 show CallsIn Fence.wide 0 P g xs W _
 rw [callsIn_wide];refine (hfn.2 {G with Im:=Im} W xs hIm hall hpre).mono fun e W' ⟨G',hpost⟩=>?_
 obtain ⟨G'',hI',hrv,hav,_⟩:=hI.call hb hU hb' hin hlt (fun i hi=>(hpre.st i hi).1) hph hpost hcs;cases res with
 | ret r=>cases e with
   | returned v=>exact h r _ _ _ rfl (hI'.slot hrv hav o.dst hd)
   | _=>exact hrv.elim
 | pan r=>cases e with
   | panicked ch=>exact hx r G'' W' ch rfl hrv hav hI'
   | _=>exact hrv.elim
theorem Jc (hI:Inv E U G st a W) {o:Oper} {c:Call} {fo:Operand} (ho:o.op= .call c) (hc:c.callee= .value fo) {k:Nat} {args:List V} {Hin:Hp} {ks:List Nat} {res:Res} {H1:Hp} (hk:evF st.fr fo= .yl k)
   (hcall:Mp P st.H k (BX st.fr c.args.toList) args Hin ks res H1) {base:Nat} (hb:∀ j,j<1048576->¬ U (base+j)) (hU:∀ i,U i->U' i) (hb':∀ j,j<1048576->U' (base+j)) (hd:∀ d,o.dst=some d->d<E.nt)
   {K:Act->World->Prop} {Q:Exit->Act->World->Prop} (h:∀ r G' a' W',res= .ret r->Inv E U' G' ⟨Am st.fr o.dst (ren (sg ks base) r),BI st.H base Hin ks H1,st.nx⟩ a' W'->K a' W')
   (hx:∀ r G' W' ch,res= .pan r->Jp G' W' (.pan (ren (sg ks base) r)) (.panic ch)->AV U' AR (ren (sg ks base) r)->Inv E U' G' ⟨st.fr,BI st.H base Hin ks H1,st.nx⟩ a W'->Q (.panic ch) a W'):o.wpIn E.F 0 P a W K Q:=by
 obtain ⟨hy,⟨fr,nt,ps,pa,pb,jmp,hHk,hlen⟩,hcb⟩:=hcall
 have hl:ps.length=c.args.size:=by
   have:(BX st.fr c.args.toList).length=args.length:=by
     rcases hcb.2.2.2 with h | ⟨h,_⟩<;>exact h.length
   have h2:(BX st.fr c.args.toList).length=c.args.size:=by
     have:=(Du hI c.args.toList).1.length;simpa using this
   omega
 obtain ⟨xs,rec,hrec,hsz,hrun,hrel⟩:=UO hI ho hc hk (hcb.1 k _ hHk) hl;obtain ⟨Im,hIm,hall,hpre,hph,hcs⟩:=GR hI hrel hcb;obtain ⟨hin,hlt,hks,_⟩:=hcb;refine ⟨fun _ _=>trivial,?_⟩;rw [KV ho,hrun];simp only [Oper.uponIn];refine ⟨by simp [Fence.wide],?_⟩
 show RoundIn Fence.wide 0 P _ _ _ _ _ W _
 refine (hy {G with Im:=Im} W xs rec hIm hall hpre hrec hsz).mono fun e W' ⟨G',hpost⟩=>?_
 obtain ⟨G'',hI',hrv,hav,_⟩:=hI.call hb hU hb' hin hlt (fun i hi=>(hpre.st i hi).1) hph hpost hcs;cases res with
 | ret r=>cases e with
   | returned v=>exact h r _ _ _ rfl (hI'.slot hrv hav o.dst hd)
   | _=>exact hrv.elim
 | pan r=>cases e with
   | panicked ch=>exact hx r G'' W' ch rfl hrv hav hI'
   | _=>exact hrv.elim
end Go.Psl
namespace Go.Psl
variable {P:Program} {Γ:Tys} {eqs:Eqs} {E:Ent} {U U':Nat->Prop} {G:Gh} {st:St} {a:Act} {W:World}
def gV:V->Option (Option Bool)
 | .d (.lit (.bool b))=>some (some b)
 | .tup []=>some none
 | _=>none
def BA (all:List Oper) (f:Nat->V):Option (Nat × Bool)->Option Bool
 | none=>some true
 | some (j,w)=>((all[j]?).bind (·.dst)).bind fun d=>(gV (f d)).map fun y=>y == some w
theorem DJ (hI:Inv E U G st a W) {all:List Oper} {o:Oper} {b:Bool} (h:BA all st.fr o.guard=some b):Region.wanted o (yielded all.toArray a.tmps)=b:=by
 unfold BA at h;unfold Region.wanted;split at h
 . rename_i hg;cases h;simp [hg]
 . rename_i j w hg
   rw [hg];simp only;cases hd:(all[j]?).bind (·.dst) with
   | none=>simp [hd] at h
   | some d=>
     simp only [hd,Option.bind_some] at h;cases hv:gV (st.fr d) with
     | none=>simp [hv] at h
     | some y=>
       simp only [hv,Option.map_some,Option.some.injEq] at h;have hr:=hI.fr d
       have hy:yielded all.toArray a.tmps j=y:=by
         unfold yielded;rw [List.getElem?_toArray,hd];simp only [Option.bind_some];unfold gV at hv;split at hv
         . rename_i c hc
           cases hv;rw [hc] at hr;have:=DH hr;rw [Array.getD_eq_getD_getElem?] at this;cases ht:a.tmps[d]? with
           | none=>rw [ht] at this;simp [undef] at this
           | some u=>rw [ht] at this;simp only [Option.getD_some] at this;subst this;rfl
         . rename_i hc
           cases hv;rw [hc] at hr;obtain ⟨cv,hu,hcv⟩:=hr
           have:cv= #[]:=by
             have:=AJ.nil_iff.1 hcv;exact Array.ext' this
           subst this;rw [Array.getD_eq_getD_getElem?] at hu;cases ht:a.tmps[d]? with
           | none=>rfl
           | some u=>rw [ht] at hu;simp only [Option.getD_some] at hu;subst hu;rfl
         . cases hv
       rw [hy];exact h
inductive C5 (P:Program) (Γ:Tys) (eqs:Eqs) (b:Nat) (o:Oper) (st:St):St->Prop
 | plain (v:V) (e:Eff) (h:A9 Γ eqs st.H b st.fr o.op=some (v,e)):C5 P Γ eqs b o st ⟨Am st.fr o.dst v,st.H.app e,st.nx⟩
 | call (c:Call) (fo:Operand) (g:FuncId) (pre caps args:List V) (Hin:Hp) (ks:List Nat) (r:V) (H1:Hp) (ho:o.op= .call c) (hc:c.callee= .value fo) (hg:ALR (evF st.fr fo)=some (g,pre,caps))
     (hcall:HF P st.H g (pre++(BX st.fr c.args.toList++caps)) args Hin ks (.ret r) H1):C5 P Γ eqs b o st ⟨Am st.fr o.dst (ren (sg ks b) r),BI st.H b Hin ks H1,st.nx⟩
 | yield (c:Call) (fo:Operand) (k:Nat) (args:List V) (Hin:Hp) (ks:List Nat) (r:V) (H1:Hp) (ho:o.op= .call c) (hc:c.callee= .value fo) (hg:evF st.fr fo= .yl k)
     (hcall:Mp P st.H k (BX st.fr c.args.toList) args Hin ks (.ret r) H1):C5 P Γ eqs b o st ⟨Am st.fr o.dst (ren (sg ks b) r),BI st.H b Hin ks H1,st.nx⟩
inductive ACW (P:Program) (b:Nat) (o:Oper) (st:St):V->St->Prop
 | call (c:Call) (fo:Operand) (g:FuncId) (pre caps args:List V) (Hin:Hp) (ks:List Nat) (r:V) (H1:Hp) (ho:o.op= .call c) (hc:c.callee= .value fo) (hg:ALR (evF st.fr fo)=some (g,pre,caps))
     (hcall:HF P st.H g (pre++(BX st.fr c.args.toList++caps)) args Hin ks (.pan r) H1):ACW P b o st (ren (sg ks b) r) ⟨st.fr,BI st.H b Hin ks H1,st.nx⟩
 | yield (c:Call) (fo:Operand) (k:Nat) (args:List V) (Hin:Hp) (ks:List Nat) (r:V) (H1:Hp) (ho:o.op= .call c) (hc:c.callee= .value fo) (hg:evF st.fr fo= .yl k)
     (hcall:Mp P st.H k (BX st.fr c.args.toList) args Hin ks (.pan r) H1):ACW P b o st (ren (sg ks b) r) ⟨st.fr,BI st.H b Hin ks H1,st.nx⟩
 | panic (x:Operand) (t:TypeId) (ag:Bool) (cs:List D) (ho:o.op= .panic x) (hv:evF st.fr x= .d (.ifc t ag cs)):ACW P b o st (.d (.ifc t ag cs)) st
theorem Mo {Γ:Tys} {eqs:Eqs} {H:Hp} {b:Nat} {f:Nat->V} {op:Op} {r:V × Eff} (h:A9 Γ eqs H b f op=some r):∀ c,op≠ .defer c:=by
 intro c e;subst e;cases h
theorem E4 (hΓ:GOk P Γ) (hE:EB P eqs) (hI:Inv E U G st a W) {o:Oper} {b:Nat} (hb:∀ j,j<1048576->¬ U (b+j)) (hU:∀ i,U i->U' i) (hb':∀ j,j<1048576->U' (b+j)) (hd:∀ d,o.dst=some d->d<E.nt) {st':St} (hs:C5 P Γ eqs b o st st')
   {K:Act->World->Prop} {Q:Exit->Act->World->Prop} (h:∀ G' a' W',Inv E U' G' st' a' W'->K a' W'):o.wpIn E.F 0 P a W K Q:=by
 cases hs with
 | plain v e he=>
   obtain ⟨n,x,W',G',hrun,hn,hI',hr,ha⟩:=Yl hΓ hE hI (hb 0 (by omega)) hU (hb' 0 (by omega)) he;refine ⟨fun _ _=>trivial,?_⟩;rw [Oper.semAt_eq _ _ _ (Mo he),hrun];have h2:=h _ _ _ (hI'.slot hr ha o.dst hd);rcases hn with rfl | ⟨rfl,rfl⟩
   . exact h2
   . exact h2
 | call c fo g pre caps args Hin ks r H1 ho hc hg hcall=>exact ACc hI ho hc hg hcall hb hU hb' hd (fun r' G' a' W' he hI'=>by cases he;exact h G' a' W' hI') (fun _ _ _ _ he=>by cases he)
 | yield c fo k args Hin ks r H1 ho hc hg hcall=>exact Jc hI ho hc hg hcall hb hU hb' hd (fun r' G' a' W' he hI'=>by cases he;exact h G' a' W' hI') (fun _ _ _ _ he=>by cases he)
theorem Fs (hI:Inv E U G st a W) {o:Oper} {b:Nat} (hb:∀ j,j<1048576->¬ U (b+j)) (hU:∀ i,U i->U' i) (hb':∀ j,j<1048576->U' (b+j)) (hd:∀ d,o.dst=some d->d<E.nt) {v:V} {st':St} (hs:ACW P b o st v st')
   {K:Act->World->Prop} {Q:Exit->Act->World->Prop} (h:∀ G' W' ch,Jp G' W' (.pan v) (.panic ch)->AV U' AR v->Inv E U' G' st' a W'->Q (.panic ch) a W'):o.wpIn E.F 0 P a W K Q:=by
 cases hs with
 | call c fo g pre caps args Hin ks r H1 ho hc hg hcall=>exact ACc hI ho hc hg hcall hb hU hb' hd (fun _ _ _ _ he=>by cases he) (fun r' G' W' ch he h1 h2 hI'=>by cases he;exact h G' W' ch h1 h2 hI')
 | yield c fo k args Hin ks r H1 ho hc hg hcall=>exact Jc hI ho hc hg hcall hb hU hb' hd (fun _ _ _ _ he=>by cases he) (fun r' G' W' ch he h1 h2 hI'=>by cases he;exact h G' W' ch h1 h2 hI')
 | panic x t ag cs ho hv=>
   have hx:=(hI.op x).1;rw [hv] at hx;refine ⟨fun _ _=>trivial,?_⟩;rw [Oper.semAt_eq _ _ _ (by rw [ho];nofun)]
   have hrun:(execOp a.eval o).run P W= .halt (.panic (a.eval x)) W:=by
     have hx':RD G.Im W (.ifc t ag cs) (a.eval x):=hx;simp only [execOp,ho]
     generalize a.eval x=u at hx'
     cases hx'<;>rfl
   rw [hrun];simp only [Oper.uponIn];exact h G W _ ⟨_,rfl,hx⟩ trivial (hI.mono hU)
def Sp (P:Program) (Γ:Tys) (eqs:Eqs) (b:Nat) (o:Oper) (st:St) (K:St->Prop) (Kx:V->St->Prop):Prop:=(∃ st',C5 P Γ eqs b o st st'/\K st')\/(∃ v st',ACW P b o st v st'/\Kx v st')
def Q0 (g:Option Bool) (r s:Prop):Prop:=match g with | some b=>(b=true->r)/\(b=false->s) | none=>False
def KR (P:Program) (Γ:Tys) (eqs:Eqs) (all:List Oper):Nat->List Oper->St->(St->Prop)->(V->St->Prop)->Prop
 | k,[],st,K,_=>K ⟨st.fr,st.H,st.nx+1048576*k⟩
 | k,o::rest,st,K,Kx=>Q0 (BA all st.fr o.guard) (Sp P Γ eqs (st.nx+1048576*k) o st (fun st'=>KR P Γ eqs all (k+1) rest st' K Kx) (fun v st'=>Kx v ⟨st'.fr,st'.H,st'.nx+1048576*(k+1)⟩)) (KR P Γ eqs all (k+1) rest ⟨Am st.fr o.dst (.tup []),st.H,st.nx⟩ K Kx)
theorem C5.nx {b:Nat} {o:Oper} {st':St} (h:C5 P Γ eqs b o st st'):st'.nx=st.nx:=by cases h<;>rfl
theorem ACW.nx {b:Nat} {o:Oper} {v:V} {st':St} (h:ACW P b o st v st'):st'.nx=st.nx:=by cases h<;>rfl
theorem XJ {nt:Nat} {ops:List Oper} (h:F3 nt ops=true) {o:Oper} (ho:o∈ops) (d:Nat) (hd:o.dst=some d):d<nt:=by
 have:=List.all_eq_true.1 h o ho;rw [hd] at this;simpa using this
theorem Inv.nx (hI:Inv E U G st a W) (n:Nat):Inv E U G ⟨st.fr,st.H,n⟩ a W:=⟨hI.fr,hI.wf,hI.hp,hI.wh,hI.dom,hI.inj,hI.own,hI.im,hI.im0,hI.keep,hI.stab,hI.sU,hI.nt,hI.df,hI.gl⟩
structure Sq (E:Ent) (Q:Exit->Act->World->Prop) (K:St->Prop) (Kx:V->St->Prop):Prop where
 ok:∀ G st' a' W',Inv E (· < st'.nx) G st' a' W'->K st'->Q .normal a' W'
 pan:∀ G v st' a' W' ch,Inv E (· < st'.nx) G st' a' W'->Jp G W' (.pan v) (.panic ch)->AV (· < st'.nx) AR v->Kx v st'->Q (.panic ch) a' W'
theorem HN (hΓ:GOk P Γ) (hE:EB P eqs) {all:List Oper} {Q:Exit->Act->World->Prop} {K:St->Prop} {Kx:V->St->Prop} (hK:Sq E Q K Kx):
   ∀ (rest:List Oper) (k:Nat) (st:St) (G:Gh) (a:Act) (W:World),F3 E.nt rest=true->Inv E (· < st.nx+1048576*k) G st a W->KR P Γ eqs all k rest st K Kx->wpListIn E.F 0 P all.toArray Q rest a W
 | [],k,st,G,a,W,_,hI,h=>hK.ok G _ a W (hI.nx _) h
 | o::rest,k,st,G,a,W,hd,hI,h=>by
   simp only [F3,List.all_cons,Bool.and_eq_true] at hd;have hd1:∀ d,o.dst=some d->d<E.nt:=fun d hh=>by have:=hd.1;rw [hh] at this;simpa using this
   simp only [KR,Q0] at h;cases hg:BA all st.fr o.guard with
   | none=>simp [hg] at h
   | some b=>
     rw [hg] at h;have hw:=DJ hI hg;unfold wpListIn;rw [hw];cases b with
     | true=>
       simp only [if_true];rcases h.1 rfl with ⟨st',hs,hrest⟩ | ⟨v,st',hs,hx⟩
       . refine E4 hΓ hE hI (U':=(· < st.nx+1048576*(k+1))) (fun j hj=>by omega) (fun i hi=>by omega) (fun j hj=>by omega) hd1 hs fun G' a' W' hI'=>?_
         rw [<-hs.nx] at hI';exact HN hΓ hE hK rest (k+1) st' G' a' W' hd.2 hI' hrest
       . refine Fs hI (U':=(· < st.nx+1048576*(k+1))) (fun j hj=>by omega) (fun i hi=>by omega) (fun j hj=>by omega) hd1 hs fun G' W' ch h1 h2 hI'=>?_
         rw [<-hs.nx] at hI' h2;exact hK.pan G' v ⟨st'.fr,st'.H,st'.nx+1048576*(k+1)⟩ a W' ch (hI'.nx _) h1 h2 hx
     | false=>
       simp only [Bool.false_eq_true,if_false];have hI':=(hI.mono (U':=(· < st.nx+1048576*(k+1))) (fun i hi=>by omega)).slot dy (by simp [AV]) o.dst hd1;exact ⟨fun _ _=>trivial,HN hΓ hE hK rest (k+1) _ G _ W hd.2 hI' (h.2 rfl)⟩
def AW (P:Program) (E:Ent) (c:Code) (Q:Av->St->Prop) (st:St):Prop:=
 ∀ G a W,Inv E (· < st.nx) G st a W->c.wpIn E.F 0 P (fun e a' W'=>∃ x st' G',Inv E (· < st'.nx) G' st' a' W'/\Jp G' W' x e/\iX (· < st'.nx) x/\Q x st') a W
theorem KT {Q:Av->St->Prop}:Sq E (fun e a' W'=>∃ x st' G',Inv E (· < st'.nx) G' st' a' W'/\Jp G' W' x e/\iX (· < st'.nx) x/\Q x st') (Q .normal) (fun v st=>Q (.pan v) st):=
 ⟨fun G st' _ _ hI hk=>⟨.normal,st',G,hI,trivial,trivial,hk⟩,fun G v st' _ _ _ hI h1 h2 hk=>⟨.pan v,st',G,hI,h1,h2,hk⟩⟩
theorem AW.region (hΓ:GOk P Γ) (hE:EB P eqs) {id:Nat} {ops:List Oper} {Q:Av->St->Prop} (hd:F3 E.nt ops=true) (h:KR P Γ eqs ops 0 ops st (Q .normal) (fun v st=>Q (.pan v) st)):AW P E (.region id ops.toArray false) Q st:=by
 intro G a W hI;refine wpIn_region_lit (HN hΓ hE KT ops 0 st G a W hd ?_ h);simpa using hI
def DP (K:St->Prop) (Q:Av->St->Prop):Av->St->Prop
 | .normal,st=>K st
 | e,st=>Q e st
theorem AW.seq {x y:Code} {Q:Av->St->Prop} (h:AW P E x (DP (AW P E y Q) Q) st):AW P E (.seq x y) Q st:=by
 intro G a W hI;refine wpIn_seq (wpIn_mono (h G a W hI) fun e a' W' ⟨x,st',G',hI',hx,ho,hq⟩=>?_);cases e with
 | normal=>
   cases x with
   | normal=>exact hq G' a' W' hI'
   | _=>exact hx.elim
 | _=>
   cases x<;>first | exact False.elim hx | exact ⟨_,st',G',hI',hx,ho,hq⟩
theorem AW.skip {Q:Av->St->Prop} (h:Q .normal st):AW P E .skip Q st:=fun _ _ _ hI=>wpIn_skip ⟨.normal,st,_,hI,trivial,trivial,h⟩
theorem AW.ret {Q:Av->St->Prop} (h:Q .ret st):AW P E .ret Q st:=fun _ _ _ hI=>wpIn_ret ⟨.ret,st,_,hI,trivial,trivial,h⟩
theorem AW.exit {id:Nat} {Q:Av->St->Prop} (h:Q (.exit id) st):AW P E (.exit id) Q st:=fun _ _ _ hI=>wpIn_exit ⟨.exit id,st,_,hI,rfl,trivial,h⟩
theorem AW.cond {c:Operand} {x y:Code} {Q:Av->St->Prop} {b:Bool} (hc:evF st.fr c= .d (.lit (.bool b))) (ht:b=true->AW P E x Q st) (hf:b=false->AW P E y Q st):AW P E (.cond c x y) Q st:=by
 intro G a W hI;have h:=(hI.op c).1;rw [hc] at h;have h:=DH h;exact wpIn_cond_split h (fun hb=>ht hb G a W hI) (fun hb=>hf hb G a W hI)
theorem AW.condU {c:Operand} {x y:Code} {Q:Av->St->Prop} (hc:evF st.fr c= .d .ub) (ht:AW P E x Q st) (hf:AW P E y Q st):AW P E (.cond c x y) Q st:=by
 intro G a W hI;have h:=(hI.op c).1;rw [hc] at h;have h:RD G.Im W .ub (a.eval c):=h
 generalize hu:a.eval c=u at h
 cases h with
 | ub b=>exact wpIn_cond_split hu (fun _=>ht G a W hI) (fun _=>hf G a W hI)
def Ft (id:Nat) (Q:Av->St->Prop):Av->St->Prop
 | .exit j,st=>if j=id then Q .normal st else Q (.exit j) st
 | e,st=>Q e st
theorem AW.block {id:Nat} {c:Code} {Q:Av->St->Prop} (h:AW P E c (Ft id Q) st):AW P E (.block id c) Q st:=by
 intro G a W hI;refine wpIn_block (wpIn_mono (h G a W hI) fun e a' W' ⟨x,st',G',hI',hx,ho,hq⟩=>?_);cases e with
 | exit j=>
   cases x with
   | exit j'=>
     have hx:j'=j:=hx;subst hx;simp only [Ft] at hq;simp only [Exit.inBlock];split
     . rename_i hj;rw [if_pos hj] at hq;exact ⟨.normal,st',G',hI',trivial,trivial,hq⟩
     . rename_i hj;rw [if_neg hj] at hq;exact ⟨.exit j',st',G',hI',rfl,trivial,hq⟩
   | _=>exact hx.elim
 | _=>
   cases x<;>first | exact False.elim hx | exact ⟨_,st',G',hI',hx,ho,hq⟩
theorem AW.mono {c:Code} {Q Q':Av->St->Prop} (h:AW P E c Q st) (hq:∀ e st,Q e st->Q' e st):AW P E c Q' st:=
 fun G a W hI=>wpIn_mono (h G a W hI) fun _ _ _ ⟨x,st',G',hI',hx,ho,h⟩=>⟨x,st',G',hI',hx,ho,hq _ _ h⟩
def AI (_:Program) (E:Ent) (st st':St):Prop:=∀ G a W,Inv E (· < st.nx) G st a W->∃ G',Inv E (· < st'.nx) G' st' a W
theorem AW.weak {c:Code} {Q:Av->St->Prop} {st':St} (hw:AI P E st st') (h:AW P E c Q st'):AW P E c Q st:=fun G a W hI=>by
 obtain ⟨G',hI'⟩:=hw G a W hI;exact h G' a W hI'
theorem AW.loop {α:Type} {c:Code} {Q:Av->St->Prop} (S:α->St) (inv:α->Prop) (μ:α->Nat) (x0:α) (h0:inv x0) (hw:AI P E st (S x0))
   (round:∀ x,inv x->AW P E c (DP (fun st'=>∃ y,inv y/\μ y<μ x/\AI P E st' (S y)) Q) (S x)):AW P E (.loop c) Q st:=by
 intro G a W hI;obtain ⟨G0,hI0⟩:=hw G a W hI;intro b k cs hro hb hr
 have key:∀ n x,μ x=n->inv x->∀ G a W,Inv E (· < (S x).nx) G (S x) a W->
     ∃ e a' w',(∃ x st' G',Inv E (· < st'.nx) G' st' a' w'/\Jp G' w' x e/\iX (· < st'.nx) x/\Q x st')/\ArrivesIn (Machine.fenced P E.F) P (lone (b.atR a (.code c:: .inLoop c::k)) cs W) b k cs e a' w':=by
   intro n;induction n using Nat.strongRecOn with
   | _ n ih=>
     intro x hx hinv G a W hI;obtain ⟨e,a₁,w₁,⟨x',st',G',hI',hx',ho,hq⟩,harr⟩:=round x hinv G a W hI b (.inLoop c::k) cs hro hb hr;cases e with
     | normal=>
       cases x' with
       | normal=>
         obtain ⟨y,hy,hlt,hwk⟩:=hq;obtain ⟨G2,hI2⟩:=hwk G' a₁ w₁ hI';obtain ⟨e₂,a₂,w₂,hq₂,harr₂⟩:=ih (μ y) (hx ▸ hlt) y rfl hy G2 a₁ w₁ hI2;exact ⟨e₂,a₂,w₂,hq₂, .of_steps (StepsIn.trans harr (.one (fenced_calm hb hr rfl) stepR_inLoop)) harr₂⟩
       | _=>exact hx'.elim
     | exit id=>cases x'<;>first | exact False.elim hx' | exact ⟨_,a₁,w₁,⟨_,st',G',hI',hx',ho,hq⟩, .pass (x:= .inLoop c) rfl (fun _ _=> .inl (by simp)) harr⟩
     | goto l=>cases x'<;>first | exact False.elim hx' | exact ⟨_,a₁,w₁,⟨_,st',G',hI',hx',ho,hq⟩, .pass (x:= .inLoop c) rfl (fun _ _=> .inl (by simp)) harr⟩
     | ret=>cases x'<;>first | exact False.elim hx' | exact ⟨_,a₁,w₁,⟨_,st',G',hI',hx',ho,hq⟩, .pass (x:= .inLoop c) rfl (fun _ _=> .inl (by simp)) harr⟩
     | panic ch=>cases x'<;>first | exact False.elim hx' | exact ⟨_,a₁,w₁,⟨_,st',G',hI',hx',ho,hq⟩, .pass (x:= .inLoop c) rfl (fun _ _=> .inl (by simp)) harr⟩
     | outgrown=>cases x'<;>exact False.elim hx'
 obtain ⟨e,a',w',hq,harr⟩:=key _ x0 rfl h0 G0 a W hI0;exact ⟨e,a',w',hq, .of_steps (.one (fenced_calm hb hr rfl) stepR_loop) harr⟩
end Go.Psl
