/- Own lemmas, used by the last text. Conditions: those that each theorem states. -/
import Derived.Laws.StructEq
import Derived.Test.YtmaoncnifomnkaaGreatDoorNaaa
set_option maxRecDepth 200000
set_option maxHeartbeats 8000000
namespace Go.Psl
variable {P:Program} {Γ:Tys} {eqs:Eqs} {E:Ent} {U U':Nat->Prop} {G:Gh} {st:St} {a:Act} {W:World}
def IJ:CK->Value->Value->Option Bool
 | .int, .int k a, .int k' b=>if k=k' then some (a == b) else none
 | .bool, .bool a, .bool b=>some (a == b)
 | .str, .string a, .string b=>some (a == b)
 | _,_,_=>none
def Bz:List CK->List Value->List Value->Option Bool
 | [],[],[]=>some true
 | k::ks,a::az,b::bs=>(IJ k a b).bind fun r=>(Bz ks az bs).map fun s=>r&&s
 | _,_,_=>none
theorem AUG {k:CK} {x y:V} {u w:Value} {r:Bool} (hx:R1 G W x u) (hy:R1 G W y w) (h:FU k x y=some r):IJ k u w=some r:=by
 unfold FU at h;split at h<;>first | (cases h;done) | skip
 . have h1:=Rc (G:=G) (W:=W) hx;have h2:=Rc (G:=G) (W:=W) hy;subst h1;subst h2;exact h
 . have h1:=DH (G:=G) (W:=W) hx;have h2:=DH (G:=G) (W:=W) hy;subst h1;subst h2;exact h
 . have h1:=BO (G:=G) (W:=W) hx;have h2:=BO (G:=G) (W:=W) hy;subst h1;subst h2;exact h
theorem IK:∀ {ks:List CK} {xs ys:List V} {us ws:List Value} {r:Bool},AJ (R1 G W) xs us->AJ (R1 G W) ys ws->Bi ks xs ys=some r->Bz ks us ws=some r
 | [],[],[],[],[],r,_,_,h=>h
 | k::ks,x::xs,y::ys,u::us,w::ws,r,hx,hy,h=>by
   simp only [Bi] at h;cases h1:FU k x y with
   | none=>simp [h1] at h
   | some r1=>
     simp only [h1,Option.bind_some] at h;cases h2:Bi ks xs ys with
     | none=>simp [h2] at h
     | some r2=>
       simp only [h2,Option.map_some] at h;cases h;simp only [Bz,AUG hx.1 hy.1 h1,IK hx.2 hy.2 h2,Option.bind_some,Option.map_some]
 | [],_::_,_,_,_,_,_,_,h=>by simp [Bi] at h
 | [],[],_::_,_,_,_,_,_,h=>by simp [Bi] at h
 | _::_,[],_,_,_,_,_,_,h=>by simp [Bi] at h
 | _::_,_::_,[],_,_,_,_,_,h=>by simp [Bi] at h
 | [],[],[],_::_,_,_,h,_,_=>h.elim
 | [],[],[],[],_::_,_,_,h,_=>h.elim
 | _::_,_::_,_::_,[],_,_,h,_,_=>h.elim
 | _::_,_::_,_::_,_::_,[],_,_,h,_=>h.elim
def AGJ (P:Program) (t:TypeId):Nat:=((P.info? t).map (·.size)).getD 0
def Fy (f:TypeId->Option (List CK)):List Field->Option (List CK)
 | []=>some []
 | x::fs=>(f x.type).bind fun a=>(Fy f fs).map fun b=>a++b
def lay (f:TypeId->Option (List CK)):Nat->List Field->Bool
 | _,[]=>true
 | o,x::fs=>x.offset == o&&x.name != "_" &&lay f (o+((f x.type).map (·.length)).getD 0) fs
def Bn (P:Program):Nat->TypeId->Option (List CK)
 | 0,_=>none
 | n+1,t=>match P.underlying t with
   | some .bool=>some [.bool]
   | some (.int _)=>some [.int]
   | some .string=>some [.str]
   | some (.struct fs)=>if !P.stoodInHeld t&&lay (Bn P n) 0 fs.toList then (Fy (Bn P n) fs.toList).bind fun ks=>if AGJ P t=ks.length&&(P.info? t).isSome then some ks else none else none
   | _=>none
theorem Qx {k1 k2:List CK} {az bs cs ds:List Value} {r:Bool} (hl:az.length=k1.length) (hl':bs.length=k1.length) (h:Bz (k1++k2) (az++cs) (bs++ds)=some r):∃ r1 r2,Bz k1 az bs=some r1/\Bz k2 cs ds=some r2/\r=(r1&&r2):=by
 induction k1 generalizing az bs r with
 | nil=>
   have e1:az=[]:=List.eq_nil_of_length_eq_zero (by simpa using hl);have e2:bs=[]:=List.eq_nil_of_length_eq_zero (by simpa using hl');subst e1;subst e2;exact ⟨true,r,rfl,h,by simp⟩
 | cons k k1 ih=>
   match az,bs,hl,hl' with
   | a::az,b::bs,hl,hl'=>
     simp only [List.cons_append,Bz] at h ⊢;cases h1:IJ k a b with
     | none=>simp [h1] at h
     | some r1=>
       simp only [h1,Option.bind_some] at h ⊢;cases h2:Bz (k1++k2) (az++cs) (bs++ds) with
       | none=>simp [h2] at h
       | some r2=>
         simp only [h2,Option.map_some] at h;cases h;obtain ⟨r3,r4,e1,e2,e3⟩:=ih (by simpa using hl) (by simpa using hl') h2;exact ⟨r1&&r3,r4,by simp [e1],e2,by rw [e3,Bool.and_assoc]⟩
   | [],_,hl,_=>simp at hl
   | _::_,[],_,hl'=>simp at hl'
theorem Ko:∀ {ks:List CK} {az bs:List Value} {r:Bool},Bz ks az bs=some r->az.length=ks.length/\bs.length=ks.length
 | [],[],[],_,_=>⟨rfl,rfl⟩
 | k::ks,a::az,b::bs,r,h=>by
   simp only [Bz] at h;cases h1:IJ k a b with
   | none=>simp [h1] at h
   | some r1=>
     simp only [h1,Option.bind_some] at h;cases h2:Bz ks az bs with
     | none=>simp [h2] at h
     | some r2=>have:=Ko h2;simp [this.1,this.2]
 | [],_::_,_,_,h=>by simp [Bz] at h
 | [],[],_::_,_,h=>by simp [Bz] at h
 | _::_,[],_,_,h=>by simp [Bz] at h
 | _::_,_::_,[],_,h=>by simp [Bz] at h
def M5 (P:Program) (t:TypeId) (cs:List Value) (v:Value):Prop:=
 match P.underlying t with
 | some (.struct _)=>v= .agg cs.toArray
 | _=>cs=[v]
theorem Jf {n:Nat} {t:TypeId} {ks:List CK} (h:Bn P n t=some ks) (w:World) (cv:Array Value) (off:Nat) (hl:off+ks.length<=cv.size):
   ∃ v,(part t cv off).run P w= .ok v w/\M5 P t ((cv.toList.drop off).take ks.length) v:=by
 cases n with
 | zero=>simp [Bn] at h
 | succ n=>
   unfold Bn at h;unfold M5
   have one:∀ d,P.underlying t=some d->ks.length=1->(match d with | .struct _ | .array _ _=>true | _=>false)=false->∃ v,(part t cv off).run P w= .ok v w/\(cv.toList.drop off).take ks.length=[v]:=fun d hd hk hna=>by
     have hlt:off<cv.size:=by omega
     refine ⟨cv[off],?_,?_⟩
     . unfold part isAgg
       simp only [Sem.run_bind,run_underlying hd,Result.andThen_ok];cases d<;>first | (simp only [Bool.true_eq_false] at hna;done) | (simp [hlt];done)
     . rw [hk,List.drop_eq_getElem_cons (by simpa using hlt)];simp
   cases hd:P.underlying t with
   | none=>simp [hd] at h
   | some d=>
     rw [hd] at h;cases d<;>simp only [reduceCtorEq] at h
     case bool=>cases h;exact one _ hd rfl rfl
     case int=>cases h;exact one _ hd rfl rfl
     case string=>cases h;exact one _ hd rfl rfl
     case struct fs=>
       split at h
       . cases hk:Fy (Bn P n) fs.toList with
         | none=>simp [hk] at h
         | some ks'=>
           simp only [hk,Option.bind_some] at h;split at h
           . rename_i hc
             cases h;simp only [Bool.and_eq_true,decide_eq_true_eq] at hc;obtain ⟨i,hi⟩:=Option.isSome_iff_exists.1 hc.2
             have hsz:(sizeOf t).run P w= .ok ks.length w:=by
               have:=hc.1;simp only [AGJ,hi,Option.map_some,Option.getD_some] at this;simp [sizeOf,typeInfo,hi,this]
             refine ⟨.agg (cv.extract off (off+ks.length)),?_,?_⟩
             . unfold part isAgg
               simp [run_underlying hd,hsz]
             . simp only
               congr 1;apply Array.ext';simp [List.take_drop]
           . cases h
       . cases h
theorem IL {n:Nat} (ih:∀ (t:TypeId) (ks:List CK),Bn P n t=some ks->∀ (d:Nat),n<=d->∀ (cu cv:List Value) (u v:Value) (w:World) (r:Bool),M5 P t cu u->M5 P t cv v->Bz ks cu cv=some r->(Op.equalIn d t u v).run P w= .ok r w) (d:Nat) (hd:n<=d) (xs ys:Array Value):
   ∀ (fs:List Field) (off:Nat) (ks:List CK) (w:World) (r:Bool),lay (Bn P n) off fs=true->Fy (Bn P n) fs=some ks->off+ks.length<=xs.size->off+ks.length<=ys.size->Bz ks ((xs.toList.drop off).take ks.length) ((ys.toList.drop off).take ks.length)=some r->
     (Op.eqFields d xs ys fs).run P w= .ok r w
 | [],off,ks,w,r,_,hk,_,_,he=>by
   simp only [Fy] at hk;cases hk;simp [Bz] at he;simp [Op.eqFields,he]
 | f::fs,off,ks,w,r,hl,hk,hx,hy,he=>by
   simp only [lay,Bool.and_eq_true,beq_iff_eq,bne_iff_ne,ne_eq] at hl;obtain ⟨⟨h1,h2⟩,h3⟩:=hl;simp only [Fy] at hk;cases hk1:Bn P n f.type with
   | none=>simp [hk1] at hk
   | some k1=>
     simp only [hk1,Option.bind_some] at hk;cases hk2:Fy (Bn P n) fs with
     | none=>simp [hk2] at hk
     | some k2=>
       simp only [hk2,Option.map_some] at hk;cases hk;simp only [List.length_append] at hx hy he
       have e:∀ zs:List Value,(zs.drop off).take (k1.length+k2.length)=(zs.drop off).take k1.length++(zs.drop (off+k1.length)).take k2.length:=fun zs=>by
         rw [List.take_add,List.drop_drop]
       rw [e,e] at he;obtain ⟨r1,r2,e1,e2,e3⟩:=Qx (by simp;omega) (by simp;omega) he;obtain ⟨u,hu,hau⟩:=Jf hk1 w xs f.offset (by omega);obtain ⟨v,hv,hav⟩:=Jf hk1 w ys f.offset (by omega);rw [h1] at hau hav;have heq:=ih f.type k1 hk1 d hd _ _ u v w r1 hau hav e1;simp only [hk1,Option.map_some,Option.getD_some] at h3;have hrest:=IL ih d hd xs ys fs (off+k1.length) k2 w r2 h3 hk2 (by omega) (by omega) e2;simp only [Op.eqFields,h2,ne_eq,not_false_eq_true,if_true,Sem.run_bind,hu,hv,heq,Result.andThen_ok,Sem.run_ite];cases r1
       . simp [e3]
       . simp [hrest,e3]
theorem U5:∀ (n:Nat) (t:TypeId) (ks:List CK),Bn P n t=some ks->∀ (d:Nat),n<=d->∀ (cu cv:List Value) (u v:Value) (w:World) (r:Bool),M5 P t cu u->M5 P t cv v->Bz ks cu cv=some r->
   (Op.equalIn d t u v).run P w= .ok r w
 | 0,_,_,h,_,_,_,_,_,_,_,_,_,_,_=>by simp [Bn] at h
 | n+1,t,ks,h,d,hnd,cu,cv,u,v,w,r,hu,hv,he=>by
   obtain ⟨d,rfl⟩:∃ d',d=d'+1:=⟨d-1,by omega⟩
   unfold Bn at h;unfold M5 at hu hv
   have prim:∀ k,ks=[k]->cu=[u]->cv=[v]->IJ k u v=some r:=fun k h1 h2 h3=>by
     subst h1;subst h2;subst h3;simp only [Bz] at he;cases h3:IJ k u v with
     | none=>simp [h3] at he
     | some r1=>simp only [h3,Option.bind_some,Option.map_some,Bool.and_true] at he;exact he
   cases hd:P.underlying t with
   | none=>simp [hd] at h
   | some ds=>
     rw [hd] at h hu hv;cases ds<;>simp only [reduceCtorEq] at h
     case bool=>
       cases h;have:=prim _ rfl hu hv;cases u<;>cases v<;>simp only [IJ,reduceCtorEq] at this
       cases this;exact run_equalIn_bool' w d t _ _ hd
     case int k=>
       cases h;have:=prim _ rfl hu hv;cases u<;>cases v<;>simp only [IJ,reduceCtorEq] at this
       split at this
       . rename_i hk;subst hk;cases this;exact run_equalIn_int w d t _ _ _ _ hd
       . cases this
     case string=>
       cases h;have:=prim _ rfl hu hv;cases u<;>cases v<;>simp only [IJ,reduceCtorEq] at this
       cases this;rw [beq_toListBytes];exact run_equalIn_string w d t _ _ hd
     case struct fs=>
       simp only at hu hv;subst hu;subst hv;split at h
       . rename_i hst
         simp only [Bool.and_eq_true,Bool.not_eq_true'] at hst;cases hk:Fy (Bn P n) fs.toList with
         | none=>simp [hk] at h
         | some ks'=>
           simp only [hk,Option.bind_some] at h;split at h
           . cases h
             have hlen:=Ko he;have hf:P.underlying t=some (.struct (P.fieldsOf t)):=by simp [Program.fieldsOf,hd]
             have hff:P.fieldsOf t=fs:=by simp [Program.fieldsOf,hd]
             rw [run_equalIn_struct w d t _ _ hf hst.1,hff];refine IL (U5 n) d (by omega) _ _ fs.toList 0 ks w r hst.2 hk (by simp;omega) (by simp;omega) ?_;simp only [List.drop_zero];rw [List.take_of_length_le (by omega),List.take_of_length_le (by omega)];exact he
           . cases h
       . cases h
end Go.Psl
namespace Go.Psl
variable {P:Program} {Γ:Tys} {eqs:Eqs} {E:Ent} {U U':Nat->Prop} {G:Gh} {st:St} {a:Act} {W:World}
def EB (P:Program) (eqs:Eqs):Prop:=∀ t ks,eqs t=some ks->Bn P 8 t=some ks/\P.eqGuardType P.depth t=false/\∃ fs,P.underlying t=some (.struct fs)
theorem Ot {t:TypeId} {y:Ty} (h:C1 P t y) (hs:y.sh= .bool):P.underlying t=some .bool:=by
 obtain ⟨d,hd,h⟩:=h.und;simp only [Ix,hs] at h;split at h<;>first | (simp_all;done) | skip
theorem Yw {op:BinOp} {t:TypeId} {k k':IntKind} {x y:Int} {v:Value} (h:CJ op k k' x y=some v) (w:World):(binOp op t (.int k x) (.int k' y)).run P w= .ok v w/\CU v=true:=by
 unfold CJ at h;split at h
 . split at h
   . rename_i hc;cases h
     rw [binOp_shl,shift_shl k k' x y hc.1 hc.2];exact ⟨rfl,rfl⟩
   . cases h
 . split at h
   . rename_i hc;cases h
     rw [binOp_shr,shift_shr k k' x y hc.1 hc.2];exact ⟨rfl,rfl⟩
   . cases h
 . split at h
   . rename_i hk;subst hk
     split at h<;>try (cases h;done)
     . cases h;exact ⟨by simp [binOp,Op.intArith],rfl⟩
     . cases h;exact ⟨by simp [binOp,Op.intArith],rfl⟩
     . cases h;exact ⟨by simp [binOp,Op.intArith],rfl⟩
     . split at h
       . cases h
       . rename_i hz;cases h;exact ⟨by simp [binOp,Op.intDiv,hz],rfl⟩
     . split at h
       . cases h
       . rename_i hz;cases h;exact ⟨by simp [binOp,Op.intDiv,hz],rfl⟩
     . cases h;exact ⟨by rw [binOp_and,intBits_and];rfl,rfl⟩
     . cases h;exact ⟨by rw [binOp_or,intBits_or];rfl,rfl⟩
     . cases h;exact ⟨by rw [binOp_xor,intBits_xor];rfl,rfl⟩
     . cases h;exact ⟨by rw [binOp_andNot,intBits_andNot];rfl,rfl⟩
     . cases h;exact ⟨by rw [binOp_eql];rfl,rfl⟩
     . cases h;exact ⟨by rw [binOp_neq];rfl,rfl⟩
     . cases h;exact ⟨by rw [binOp_lss];rfl,rfl⟩
     . cases h;exact ⟨by rw [binOp_leq];rfl,rfl⟩
     . cases h;exact ⟨by rw [binOp_gtr];rfl,rfl⟩
     . cases h;exact ⟨by rw [binOp_geq];rfl,rfl⟩
   . cases h
theorem EI (op:BinOp) (t:TypeId) (x y:Operand) (u w:Value) (W:World) (hu:u.oneCell'=true) (hn:u≠ .nilIface):(eqGuard op t x y u w).run P W= .ok () W:=by
 unfold eqGuard;cases u<;>first | (simp [Value.oneCell'] at hu;done) | (exact absurd rfl hn) | (cases op<;>cases w<;>rfl)
theorem TH {t:TypeId} {e:Bool} {y:Ty} (h:C1 P t y) (hs:y.sh= .ifc e):∃ ms,P.underlying t=some (.interface ms)/\e=ms.isEmpty:=by
 obtain ⟨d,hd,h⟩:=h.und;simp only [Ix,hs] at h;split at h<;>first | (simp_all;done) | skip
theorem Yx {G:Gh} {W:World} {t:TypeId} {ag:Bool} {cs:List D} {x:Value} (h:RV G W (.d (.ifc t ag cs)) x):∃ v,x= .iface t v/\((ag=true/\∃ cv:Array Value,v= .agg cv/\AJ (RV G W) (cs.map .d) cv.toList)\/(ag=false/\∃ c,cs=[c]/\RV G W (.d c) v)):=by
 have h:RD G.Im W (.ifc t ag cs) x:=h;cases h with
 | ifc _ _ cv hl hr=>
   refine ⟨_,rfl, .inl ⟨rfl,cv,rfl,AJ.of_get (by simpa using hl.symm) fun i y z hy hz=>?_⟩⟩;rw [List.getElem?_map] at hy;cases hc:cs[i]? with
   | none=>rw [hc] at hy;cases hy
   | some c=>
     rw [hc] at hy;cases hy;exact hr i c z hc (by rw [<-Array.getElem?_toList];exact hz)
 | ifc1 _ c v hr=>exact ⟨v,rfl, .inr ⟨rfl,c,rfl,hr⟩⟩
theorem Yy (hΓ:GOk P Γ) (hE:EB P eqs) (hI:Inv E U G st a W) {o:Oper} {op:BinOp} {t t':TypeId} {x y:Operand} (ho:o.op= .binOp op t x y t') {v:V} {e:Eff} (he:FV Γ eqs op t (evF st.fr x) (evF st.fr y)=some (v,e)):
   Out P E U st a W o v e:=by
 obtain ⟨hx,_⟩:=hI.op x;obtain ⟨hy,_⟩:=hI.op y;unfold FV at he;split at he
 . rename_i k i k' j h1 h2
   rw [h1] at hx;rw [h2] at hy;have hx:=Rc hx;have hy:=Rc hy;cases hb:CJ op k k' i j with
   | none=>simp [hb] at he
   | some r=>
     simp only [hb,Option.map_some] at he;cases he;obtain ⟨hr,hf⟩:=Yw (P:=P) (t:=t) hb W;refine Out.pure hI (x:=r) ?_ (BK hf) trivial;have hg:=EI (P:=P) op t x y (.int k i) (.int k' j) W rfl (by simp);simp only [execOp,ho,hx,hy,Sem.run_bind,hg,Result.andThen_ok,hr,Sem.run_pure]
 . rename_i i j h1 h2
   rw [h1] at hx;rw [h2] at hy;have hx:=DH hx;have hy:=DH hy;cases hty:Γ t with
   | none=>simp [hty] at he
   | some ty=>
     simp only [hty,Option.bind_some] at he;have hg:=EI (P:=P) op t x y (.bool i) (.bool j) W rfl (by simp);split at he<;>first | (cases he;done) | skip
     . rename_i hsh
       have hq:=run_equalIn_bool' (P:=P) W 9999 t i j (Ot (hΓ t ty hty) hsh);cases he;refine Out.pure hI (x:= .bool (i == j)) ?_ (BK rfl) trivial;simp only [execOp,ho,hx,hy,Sem.run_bind,hg,Result.andThen_ok,binOp,Op.equal,Op.maxDepth,hq,Sem.run_pure]
     . rename_i hsh
       have hq:=run_equalIn_bool' (P:=P) W 9999 t i j (Ot (hΓ t ty hty) hsh);cases he;refine Out.pure hI (x:= .bool (i != j)) ?_ (BK rfl) trivial;simp only [execOp,ho,hx,hy,Sem.run_bind,hg,Result.andThen_ok,binOp,Op.equal,Op.maxDepth,hq,Sem.run_pure];rfl
 . rename_i i j h1 h2
   rw [h1] at hx;rw [h2] at hy;have hx:=BO hx;have hy:=BO hy;have hg:=EI (P:=P) op t x y (.string i) (.string j) W rfl (by simp);split at he<;>first | (cases he;done) | skip
   . cases he
     refine Out.pure hI (x:= .bool (i == j)) ?_ (BK rfl) trivial;simp [execOp,ho,hx,hy,hg,binOp,Op.stringOp,beq_toListBytes]
   . cases he
     refine Out.pure hI (x:= .bool (i != j)) ?_ (BK rfl) trivial;simp [execOp,ho,hx,hy,hg,binOp,Op.stringOp,beq_toListBytes,bne]
   . split at he
     . rename_i hsz
       cases he;refine Out.pure hI (x:= .string (i++j)) ?_ (BK rfl) trivial
       have hn:¬ ((i.size+j.size:Nat):Int)>IntKind.i64.max:=by
         have:IntKind.i64.max=9223372036854775807:=by decide
         rw [this];unfold maxL at hsz;omega
       simp only [execOp,ho,hx,hy,Sem.run_bind,hg,Result.andThen_ok,binOp,Op.stringOp,if_neg hn,Sem.run_pure]
     . cases he
 . rename_i az bs h1 h2
   rw [h1] at hx;rw [h2] at hy;obtain ⟨cu,hxa,hxr⟩:=hx;obtain ⟨cw,hya,hyr⟩:=hy;cases heq:eqs t with
   | none=>simp [heq] at he
   | some ks=>
     simp only [heq,Option.bind_some] at he;obtain ⟨hk,hgt,fs,hfs⟩:=hE t _ heq;have hg:(eqGuard op t x y (.agg cu) (.agg cw)).run P W= .ok () W:=run_eqGuard_agg W op t x y cu cw hgt
     have run:∀ r,Bi ks az bs=some r->(Op.equalIn 10000 t (.agg cu) (.agg cw)).run P W= .ok r W:=fun r hr=>by
       have hv:=IK hxr hyr hr;refine U5 8 t ks hk 10000 (by omega) cu.toList cw.toList _ _ W r ?_ ?_ hv
       . unfold M5;rw [hfs]
       . unfold M5;rw [hfs]
     split at he
     . cases hr:Bi ks az bs with
       | none=>simp [hr] at he
       | some r=>
         simp only [hr,Option.map_some] at he;cases he;refine Out.pure hI (x:= .bool r) ?_ (BK rfl) trivial;simp only [execOp,ho,hxa,hya,Sem.run_bind,hg,Result.andThen_ok,run_eql_struct,run r hr,Sem.run_pure]
     . cases hr:Bi ks az bs with
       | none=>simp [hr] at he
       | some r=>
         simp only [hr,Option.map_some] at he;cases he;refine Out.pure hI (x:= .bool (!r)) ?_ (BK rfl) trivial;simp only [execOp,ho,hxa,hya,Sem.run_bind,hg,Result.andThen_ok,run_neq_struct,run r hr,Sem.run_pure]
     . cases he
 . rename_i t1 ag cs h1 h2
   rw [h1] at hx;rw [h2] at hy;obtain ⟨v1,hxv,_⟩:=Yx hx;have hyv:a.eval y= .nilIface:=BO hy;cases hty:Γ t with
   | none=>simp [hty] at he
   | some ty=>
     simp only [hty,Option.bind_some] at he;have hg:(eqGuard op t x y (.iface t1 v1) .nilIface).run P W= .ok () W:=by unfold eqGuard;cases op<;>rfl
     have hrun:∀ b,ty.sh= .ifc b->(Op.equalIn 10000 t (.iface t1 v1) .nilIface).run P W= .ok false W:=fun b hs=>by
       obtain ⟨ms,hms,_⟩:=TH (hΓ t ty hty) hs;unfold Op.equalIn;simp only [Sem.run_bind,run_underlying hms,Result.andThen_ok];rfl
     split at he
     . rename_i b hsh
       cases he;refine Out.pure hI (x:= .bool false) ?_ (BK rfl) trivial;simp [execOp,ho,hxv,hyv,hg,binOp,Op.equal,Op.maxDepth,hrun _ hsh]
     . rename_i b hsh
       cases he;refine Out.pure hI (x:= .bool true) ?_ (BK rfl) trivial;simp [execOp,ho,hxv,hyv,hg,binOp,Op.equal,Op.maxDepth,hrun _ hsh]
     . cases he
 . rename_i h1 h2
   rw [h1] at hx;rw [h2] at hy;have hxv:a.eval x= .nilIface:=BO hx;have hyv:a.eval y= .nilIface:=BO hy;cases hty:Γ t with
   | none=>simp [hty] at he
   | some ty=>
     simp only [hty,Option.bind_some] at he
     have key:ty.sh= .ifc true->(∀ op',(eqGuard op' t x y .nilIface .nilIface).run P W= .ok () W)/\(Op.equalIn 10000 t .nilIface .nilIface).run P W= .ok true W:=fun hs=>by
       obtain ⟨ms,hms,hem⟩:=TH (hΓ t ty hty) hs;refine ⟨fun op'=>?_,?_⟩
       . have hq:(Op.eqGuardIn Op.maxDepth t .nilIface .nilIface).run P W= .ok false W:=by
           unfold Op.maxDepth Op.eqGuardIn;simp only [Sem.run_bind,run_underlying hms,Result.andThen_ok,<-hem];rfl
         unfold eqGuard;cases op'<;>first | rfl | (cases x<;>cases y<;>first | rfl | (simp [hq];done))
       . unfold Op.equalIn
         simp only [Sem.run_bind,run_underlying hms,Result.andThen_ok];rfl
     split at he
     . rename_i hsh
       cases he;obtain ⟨hg,hrun⟩:=key hsh;refine Out.pure hI (x:= .bool true) ?_ (BK rfl) trivial;simp [execOp,ho,hxv,hyv,hg,binOp,Op.equal,Op.maxDepth,hrun]
     . rename_i hsh
       cases he;obtain ⟨hg,hrun⟩:=key hsh;refine Out.pure hI (x:= .bool false) ?_ (BK rfl) trivial;simp [execOp,ho,hxv,hyv,hg,binOp,Op.equal,Op.maxDepth,hrun]
     . cases he
 . split at he
   . rename_i hnl
     cases hty:Γ t with
     | none=>simp [hty] at he
     | some ty=>
       simp only [hty,Option.bind_some] at he
       have hyv:a.eval y= .slice none 0 0:=by
         unfold Ex at hnl;split at hnl
         . rename_i h2;rw [h2] at hy;exact BO hy
         . cases hnl
       have hnv:∀ r,Nv (evF st.fr x)=some r->∃ ao n c,a.eval x= .slice ao n c/\ao.isNone=r:=fun r hr=>by
         unfold Nv at hr;split at hr
         . rename_i p n c h2
           rw [h2] at hx;cases hr;have e:=BO hx;have hf:CU (.slice p n c)=true:=Dv hx;simp only [CU,Bool.and_eq_true] at hf;exact ⟨p,n,c,e,hf.1.1⟩
         . rename_i id off len sz h2
           rw [h2] at hx;split at hr
           . cases hr
             rcases hx.2 with ⟨_,h0,_⟩ | ⟨_,o',cap,h,_⟩
             . omega
             . exact ⟨_,_,_,h,rfl⟩
           . cases hr
         . rename_i sz e0 es h2
           rw [h2] at hx;cases hr
           generalize a.eval x=u at hx
           cases hx with
           | sl _ _ ao cap vs _ _ _ hm _=>
             obtain ⟨a0,ha0,_⟩:=hm 0 e0 rfl;exact ⟨ao,_,_,rfl,by rw [ha0];rfl⟩
         . cases hr
       have hnu:∀ (v:V) (e:Eff),(match evF st.fr x with | .d (.sl _ [])=>some (V.d .ub,Eff.none) | _=>none)=some (v,e)->∃ ao n c,a.eval x= .slice ao n c/\v= .d .ub/\e= .none:=fun v e hr=>by
         split at hr
         . rename_i sz h2
           rw [h2] at hx;cases hr
           generalize a.eval x=u at hx
           cases hx with
           | sl _ _ ao cap vs _ _ _ hm _=>exact ⟨ao,_,_,rfl,rfl,rfl⟩
         . cases hr
       have hrun:∀ (el:TypeId) (ao:Option Addr) (n c:Nat),ty.sh= .slice el->(Op.equalIn 10000 t (.slice ao n c) (.slice none 0 0)).run P W= .ok ao.isNone W:=fun el ao n c hs=>by
         unfold Op.equalIn;simp only [Sem.run_bind,run_underlying (BH (hΓ t ty hty) hs),Result.andThen_ok];cases ao<;>rfl
       have hg:∀ (ao:Option Addr) (n c:Nat),(eqGuard op t x y (.slice ao n c) (.slice none 0 0)).run P W= .ok () W:=fun ao n c=>EI op t x y _ _ W rfl (by simp)
       split at he
       . rename_i el hsh
         unfold P3 at he;cases hr:Nv (evF st.fr x) with
         | none=>
           simp only [hr] at he;obtain ⟨ao,n,c,hxv,rfl,rfl⟩:=hnu v e he;refine Out.pure hI (x:= .bool ao.isNone) ?_ (.ub _) trivial;simp [execOp,ho,hxv,hyv,hg,binOp,Op.equal,Op.maxDepth,hrun el ao n c hsh]
         | some r=>
           simp only [hr] at he;cases he;obtain ⟨ao,n,c,hxv,hao⟩:=hnv r hr;refine Out.pure hI (x:= .bool r) ?_ (BK rfl) trivial;simp [execOp,ho,hxv,hyv,hg,binOp,Op.equal,Op.maxDepth,hrun el ao n c hsh,hao]
       . rename_i el hsh
         unfold P3 at he;cases hr:Nv (evF st.fr x) with
         | none=>
           simp only [hr] at he;obtain ⟨ao,n,c,hxv,rfl,rfl⟩:=hnu v e he;refine Out.pure hI (x:= .bool (!ao.isNone)) ?_ (.ub _) trivial;simp [execOp,ho,hxv,hyv,hg,binOp,Op.equal,Op.maxDepth,hrun el ao n c hsh]
         | some r=>
           simp only [hr] at he;cases he;obtain ⟨ao,n,c,hxv,hao⟩:=hnv r hr;refine Out.pure hI (x:= .bool (!r)) ?_ (BK rfl) trivial;simp [execOp,ho,hxv,hyv,hg,binOp,Op.equal,Op.maxDepth,hrun el ao n c hsh,hao]
       . cases he
   . cases he
end Go.Psl
namespace Go.Psl
variable {P:Program} {Γ:Tys} {eqs:Eqs} {E:Ent} {U U':Nat->Prop} {G:Gh} {st:St} {a:Act} {W:World}
theorem N5 (hI:Inv E U G st a W) {o:Oper} {x:Operand} (ho:o.op= .move x\/o.op= .assign x):Out P E U st a W o (evF st.fr x) .none:=by
 obtain ⟨hx,hw⟩:=hI.op x;refine Out.pure hI (x:=a.eval x) ?_ hx hw;rcases ho with ho | ho<;>simp [execOp,ho]
theorem dN (hI:Inv E U G st a W) {o:Oper} {op:UnOp} {t:TypeId} {x:Operand} (ho:o.op= .unOp op t x) {v:V} {e:Eff} (he:unF op (evF st.fr x)=some (v,e)):Out P E U st a W o v e:=by
 obtain ⟨hx,_⟩:=hI.op x;unfold unF at he;split at he
 . rename_i b h1
   cases he;rw [h1] at hx;refine Out.pure hI (x:= .bool (!b)) ?_ (BK rfl) trivial;simp [execOp,ho,DH hx,Op.unary]
 . rename_i k n h1
   cases he;rw [h1] at hx;refine Out.pure hI (x:= .int k (k.wrap (-n))) ?_ (BK rfl) trivial;simp [execOp,ho,Rc hx,Op.unary,Op.intArith]
 . cases he
theorem UE {c:Bool} {x y:V} {u w:Value} (hx:RV G W x u) (hy:RV G W y w):RV G W (GI c x y) (if c then u else w):=by
 unfold GI;split
 . rename_i b1 b2
   have h1:=DH hx;have h2:=DH hy;subst h1;subst h2;cases c<;>exact BK rfl
 . cases c
   . exact hy
   . exact hx
theorem Wt {c:Bool} {x y:V} (hx:AV U AR x) (hy:AV U AR y):AV U AR (GI c x y):=by
 unfold GI;split
 . trivial
 . cases c
   . exact hy
   . exact hx
theorem UF (hI:Inv E U G st a W) {o:Oper} {c x y:Operand} (ho:o.op= .pick c x y) {v:V} {e:Eff} (he:Jo (evF st.fr c) (evF st.fr x) (evF st.fr y)=some (v,e)):Out P E U st a W o v e:=by
 obtain ⟨hc,_⟩:=hI.op c;obtain ⟨hx,hxw⟩:=hI.op x;obtain ⟨hy,hyw⟩:=hI.op y;unfold Jo at he;split at he
 . rename_i b h1
   cases he;rw [h1] at hc;refine Out.pure hI (x:=if b then a.eval x else a.eval y) ?_ (UE hx hy) (Wt hxw hyw);simp [execOp,ho,DH hc,asBool]
 . cases he
theorem UG (hI:Inv E U G st a W) {o:Oper} {x:Operand} {i:Nat} (ho:o.op= .extract x i) {v:V} {e:Eff} (he:Mc (evF st.fr x) i=some (v,e)):Out P E U st a W o v e:=by
 obtain ⟨hx,hxw⟩:=hI.op x;unfold Mc at he;split at he
 . rename_i vs h1
   cases hi:vs[i]? with
   | none=>simp [hi] at he
   | some u=>
     simp only [hi,Option.map_some] at he;cases he;rw [h1] at hx hxw;obtain ⟨cv,hxa,hr⟩:=hx;obtain ⟨w,hw,hrw⟩:=hr.get hi;refine Out.pure hI (x:=w) ?_ (R2.rv hrw) (R2.av hrw (hxw _ (List.mem_of_getElem? hi)));rw [Array.getElem?_toList] at hw;simp [execOp,ho,hxa,Instr.extract,hw]
 . cases he
theorem ib {sz:Nat} {es:List (List D)} {x:Value} (h:RV G W (.d (.sl sz es)) x):∃ ao cap,x= .slice ao es.length cap/\es.length<=cap/\es.length<=maxL/\(∀ e∈es,e.length=sz)/\
   ∃ vs:Nat->Nat->Value,(∀ (i:Nat) e,es[i]?= some e->∃ ad,ao=some ad/\G.Im ad.block/\∀ (j:Nat) y,e[j]?= some y->W.cell? (ad.add (i*sz+j))=some (vs i j))/\
     (∀ (i:Nat) e,es[i]?= some e->∀ (j:Nat) y,e[j]?= some y->RD G.Im W y (vs i j)):=by
 have h':RD G.Im W (.sl sz es) x:=h;cases h' with
 | sl _ _ ao cap vs hsz' hlen hcap hm hr=>exact ⟨ao,cap,rfl,hcap,hlen,hsz',vs,hm,hr⟩
theorem Wu (hΓ:GOk P Γ) (hI:Inv E U G st a W) {o:Oper} {c:Call} {x:Operand} {t:TypeId} (ho:o.op= .call c) (hc:c.callee= .builtin .len) (ha:c.args.toList=[x]) (ht:c.argTypes.toList=[t]) {v:V} {e:Eff}
   (he:Iy Γ t (evF st.fr x)=some (v,e)):Out P E U st a W o v e:=by
 obtain ⟨hx,_⟩:=hI.op x
 have hrun:∀ z,(Builtin.len_ #[t] o.type #[a.eval x]).run P W= .ok z W->(execOp a.eval o).run P W= .ok (.value z) W:=fun z hz=>by
   have h1:c.args= #[x]:=Array.ext' (by simpa using ha);have h2:c.argTypes= #[t]:=Array.ext' (by simpa using ht);simp [execOp,ho,resolve,hc,invoke,builtin,h1,h2,hz]
 unfold Iy at he;cases hty:Γ t with
 | none=>simp [hty] at he
 | some ty=>
   simp only [hty,Option.bind_some] at he;have hT:=hΓ t ty hty;split at he<;>first | (cases he;done) | skip
   . rename_i el sz es hsh h1
     cases he;rw [h1] at hx;obtain ⟨ao,cap,hxa,_⟩:=ib hx;rw [hxa] at hrun;refine Out.pure hI (hrun (.int .i64 es.length) ?_) (BK rfl) trivial;simp [Builtin.len_,run_underlying (BH hT hsh),goInt]
   . rename_i el id off len sz hsh h1
     cases he;rw [h1] at hx;obtain ⟨_,⟨_,h0,hxa⟩ | ⟨_,o',cap,hxa,_⟩⟩:=hx
     . rw [hxa] at hrun
       refine Out.pure hI (hrun (.int .i64 len) ?_) (BK rfl) trivial;simp [Builtin.len_,run_underlying (BH hT hsh),goInt,h0]
     . rw [hxa] at hrun
       refine Out.pure hI (hrun (.int .i64 len) ?_) (BK rfl) trivial;simp [Builtin.len_,run_underlying (BH hT hsh),goInt]
   . rename_i el u n c' hsh h1
     cases he;rw [h1] at hx;have hfl:=Dv hx;have hxa:=BO hx;simp only [CU,Bool.and_eq_true,beq_iff_eq,Option.isNone_iff_eq_none] at hfl;obtain ⟨⟨rfl,rfl⟩,rfl⟩:=hfl;rw [hxa] at hrun;refine Out.pure hI (hrun (.int .i64 0) ?_) (BK rfl) trivial;simp [Builtin.len_,run_underlying (BH hT hsh),goInt]
   . rename_i s hsh h1
     cases he;rw [h1] at hx;rw [BO hx] at hrun;refine Out.pure hI (hrun (.int .i64 s.size) ?_) (BK rfl) trivial;simp [Builtin.len_,run_underlying (Mn hT hsh),goInt]
theorem Wv (k k':IntKind) (x y:Int) (w:World):(Builtin.max2 (.int k x) (.int k' y)).run P w= .ok (.int k (max x y)) w:=by
 simp only [Builtin.max2,Sem.run_pure];congr 2;split<;>omega
theorem Ww (k k':IntKind) (x y:Int) (w:World):(Builtin.min2 (.int k x) (.int k' y)).run P w= .ok (.int k (min x y)) w:=by
 simp only [Builtin.min2,Sem.run_pure];congr 2;split<;>omega
theorem N6 {G:Gh} {W:World} {k:IntKind}:∀ (vs:List V) (xs:List Value) (m out:Int),AJ (RV G W) vs xs->Lq k m vs=some out->(xs.foldlM Builtin.max2 (Value.int k m)).run P W= .ok (.int k out) W
 | [],[],m,out,_,h=>by
   cases h;simp
 | .d (.lit (.int k' x))::vs,y::xs,m,out,⟨h1,h2⟩,h=>by
   simp only [Lq] at h;split at h
   . rename_i hk;subst hk
     have ih:=N6 vs xs (max m x) out h2 h;rw [Rc h1,List.foldlM_cons];simp [Wv,ih]
   . cases h
theorem Wx (hI:Inv E U G st a W) {o:Oper} {c:Call} (ho:o.op= .call c) (hc:c.callee= .builtin .max) {v:V} {e:Eff} (he:AYJ (BX st.fr c.args.toList)=some (v,e)):Out P E U st a W o v e:=by
 obtain ⟨hr,_⟩:=Du hI c.args.toList
 have hrun:∀ z,(Builtin.max_ c.argTypes o.type (c.args.map a.eval)).run P W= .ok z W->(execOp a.eval o).run P W= .ok (.value z) W:=fun z hz=>by
   simp [execOp,ho,resolve,hc,invoke,builtin,hz]
 have hl:(c.args.map a.eval).toList=c.args.toList.map a.eval:=by simp
 generalize BX st.fr c.args.toList=vs at hr he
 unfold Builtin.max_ at hrun;rw [hl] at hrun
 generalize c.args.toList.map a.eval=xs at hr hrun
 unfold AYJ at he;split at he
 . rename_i k x r
   match xs,hr with
   | y::xs,⟨h1,h2⟩=>
     cases hm:Lq k x r with
     | none=>rw [hm] at he;cases he
     | some m=>
       rw [hm] at he;cases he;refine Out.pure hI (hrun (.int k m) ?_) (BK rfl) trivial;rw [Rc h1];exact N6 r xs x m h2 hm
 . cases he
theorem N7 {G:Gh} {W:World} {k:IntKind}:∀ (vs:List V) (xs:List Value) (m out:Int),AJ (RV G W) vs xs->Ku k m vs=some out->(xs.foldlM Builtin.min2 (Value.int k m)).run P W= .ok (.int k out) W
 | [],[],m,out,_,h=>by
   cases h;simp
 | .d (.lit (.int k' x))::vs,y::xs,m,out,⟨h1,h2⟩,h=>by
   simp only [Ku] at h;split at h
   . rename_i hk;subst hk
     have ih:=N7 vs xs (min m x) out h2 h;rw [Rc h1,List.foldlM_cons];simp [Ww,ih]
   . cases h
theorem Wy (hI:Inv E U G st a W) {o:Oper} {c:Call} (ho:o.op= .call c) (hc:c.callee= .builtin .min) {v:V} {e:Eff} (he:AYK (BX st.fr c.args.toList)=some (v,e)):Out P E U st a W o v e:=by
 obtain ⟨hr,_⟩:=Du hI c.args.toList
 have hrun:∀ z,(Builtin.min_ c.argTypes o.type (c.args.map a.eval)).run P W= .ok z W->(execOp a.eval o).run P W= .ok (.value z) W:=fun z hz=>by
   simp [execOp,ho,resolve,hc,invoke,builtin,hz]
 have hl:(c.args.map a.eval).toList=c.args.toList.map a.eval:=by simp
 generalize BX st.fr c.args.toList=vs at hr he
 unfold Builtin.min_ at hrun;rw [hl] at hrun
 generalize c.args.toList.map a.eval=xs at hr hrun
 unfold AYK at he;split at he
 . rename_i k x r
   match xs,hr with
   | y::xs,⟨h1,h2⟩=>
     cases hm:Ku k x r with
     | none=>rw [hm] at he;cases he
     | some m=>
       rw [hm] at he;cases he;refine Out.pure hI (hrun (.int k m) ?_) (BK rfl) trivial;rw [Rc h1];exact N7 r xs x m h2 hm
 . cases he
theorem Wz (hI:Inv E U G st a W) {o:Oper} {x:Operand} (ho:o.op= .nilCheck x) {v:V} {e:Eff} (he:Se (evF st.fr x)=some (v,e)):Out P E U st a W o v e:=by
 obtain ⟨hx,hw⟩:=hI.op x;unfold Se at he;split at he
 . rename_i id off h1
   cases he;rw [h1] at hx hw;refine Out.pure hI (x:=a.eval x) ?_ hx hw
   generalize hz:a.eval x=z at hx
   obtain ⟨q,rfl⟩:∃ q,z= .pointer (some q):=by cases hx<;>exact ⟨_,by assumption⟩
   simp [execOp,ho,hz]
 . rename_i cs h1
   cases he;rw [h1] at hx hw;refine Out.pure hI (x:=a.eval x) ?_ hx hw
   generalize hz:a.eval x=z at hx
   obtain ⟨q,rfl⟩:∃ q,z= .pointer (some q):=by cases hx<;>exact ⟨_,rfl⟩
   simp [execOp,ho,hz]
 . cases he
theorem N8:∀ {cs:List V} {ds:List D},Ff cs=some ds->cs=ds.map .d
 | [],ds,h=>by simp [Ff] at h;subst h;rfl
 | .d x::r,ds,h=>by
   simp only [Ff,Option.map_eq_some_iff] at h;obtain ⟨es,he,rfl⟩:=h;rw [N8 he];rfl
 | .junk::_,_,h | .lp _ _::_,_,h | .ls _ _ _ _::_,_,h | .cl _ _::_,_,h | .yl _::_,_,h | .lr _ _ _ _ _ _::_,_,h | .agg _::_,_,h | .tup _::_,_,h=>by simp [Ff] at h
theorem vl {t:TypeId} {y:Ty} (h:C1 P t y) (h1:∀ e,y.sh≠ .ifc e) (h2:y.sh≠ .other):∃ d,P.underlying t=some d/\∀ ms,d≠ .interface ms:=by
 obtain ⟨d,hd,ho⟩:=h.und;refine ⟨d,hd,fun ms e=>?_⟩;subst e;unfold Ix at ho;split at ho<;>first | (rename_i hh;exact h1 _ hh) | (rename_i hh;exact h2 hh) | (simp_all;done) | exact ho.elim | skip
theorem vm (hΓ:GOk P Γ) (hI:Inv E U G st a W) {o:Oper} {t:TypeId} {x:Operand} (ho:o.op= .makeInterface t x) {v:V} {e:Eff} (he:Sf Γ t (evF st.fr x)=some (v,e)):Out P E U st a W o v e:=by
 obtain ⟨hx,hw⟩:=hI.op x;unfold Sf at he;cases hty:Γ t with
 | none=>simp [hty] at he
 | some ty=>
   simp only [hty,Option.bind_some] at he
   have fin:(∃ d,P.underlying t=some d/\∀ ms,d≠ .interface ms)->(match evF st.fr x with
       | .agg cs=>(Ff cs).map fun ds=>(V.d (.ifc t true ds),Eff.none)
       | .d x=>some (.d (.ifc t false [x]), .none)
       | _=>none)=some (v,e)->Out P E U st a W o v e:=fun ⟨d,hd,hn⟩ he=>by
     have run:(execOp a.eval o).run P W= .ok (.value (.iface t (a.eval x))) W:=by
       have:(Instr.makeInterface t (a.eval x)).run P W= .ok (.iface t (a.eval x)) W:=by
         unfold Instr.makeInterface;simp only [Sem.run_bind,run_underlying hd,Result.andThen_ok];cases d<;>first | rfl | exact absurd rfl (hn _)
       simp [execOp,ho,this]
     split at he
     . rename_i cs h1
       cases hds:Ff cs with
       | none=>simp [hds] at he
       | some ds=>
         simp only [hds,Option.map_some] at he;cases he;rw [h1] at hx;obtain ⟨cv,hcv,hr⟩:=hx;refine Out.pure hI (x:= .iface t (a.eval x)) run ?_ trivial;rw [hcv];rw [N8 hds] at hr;have hr':=AJ.map_left.1 hr;refine RD.ifc t ds cv (by have:=hr'.length;simpa using this.symm) fun j y z hy hz=>?_
         obtain ⟨z',hz',hrz⟩:=hr'.get hy;rw [Array.getElem?_toList,hz] at hz';cases hz';exact hrz
     . rename_i y h1
       cases he;rw [h1] at hx;exact Out.pure hI (x:= .iface t (a.eval x)) run (RD.ifc1 t y _ hx) trivial
     . cases he
   split at he
   . cases he
   . cases he
   . rename_i h1 h2
     exact fin (vl (hΓ t ty hty) (fun e he=>h1 e he) h2) he
theorem XA (hΓ:GOk P Γ) (hI:Inv E U G st a W) {o:Oper} {s t:TypeId} {x:Operand} (ho:o.op= .typeAssert x s t false) {v:V} {e:Eff} (he:Wf Γ t (evF st.fr x)=some (v,e)):Out P E U st a W o v e:=by
 obtain ⟨hx,hw⟩:=hI.op x;unfold Wf at he;cases hty:Γ t with
 | none=>simp [hty] at he
 | some ty=>
   simp only [hty,Option.bind_some] at he;split at he
   . cases he
   . cases he
   . rename_i h1 h2
     obtain ⟨d,hd,hn⟩:=vl (hΓ t ty hty) (fun e he=>h1 e he) h2;split at he
     . rename_i t' ag cs hq
       split at he
       . rename_i htt
         subst htt;rw [hq] at hx;obtain ⟨u,hxv,hu⟩:=Yx hx
         have run:(execOp a.eval o).run P W= .ok (.value u) W:=by
           have:(Instr.typeAssert (a.eval x) s t' false).run P W= .ok u W:=by
             unfold Instr.typeAssert;simp only [Sem.run_bind,run_underlying hd,Result.andThen_ok,hxv];cases d<;>first | (simp;done) | exact absurd rfl (hn _)
           simp [execOp,ho,this]
         rcases hu with ⟨rfl,cv,rfl,hr⟩ | ⟨rfl,c,rfl,hr⟩
         . simp only [We,Option.map_some] at he
           cases he;refine Out.pure hI (x:= .agg cv) run ⟨cv,rfl,hr.mono fun y hy z h=>?_⟩ (fun y hy=>?_)
           . obtain ⟨c,_,rfl⟩:=List.mem_map.1 hy;exact h
           . obtain ⟨c,_,rfl⟩:=List.mem_map.1 hy;trivial
         . simp only [We,Option.map_some] at he
           cases he;exact Out.pure hI (x:=u) run hr trivial
       . cases he
     . cases he
theorem P9 (hΓ:GOk P Γ) (hI:Inv E U G st a W) {o:Oper} {t:TypeId} {x i:Operand} (ho:o.op= .index t x i) {v:V} {e:Eff} (he:FS Γ t (evF st.fr x) (evF st.fr i)=some (v,e)):
   Out P E U st a W o v e:=by
 obtain ⟨hx,hxw⟩:=hI.op x;obtain ⟨hi,_⟩:=hI.op i;unfold FS at he;cases hty:Γ t with
 | none=>simp [hty] at he
 | some ty=>
   simp only [hty,Option.bind_some] at he;have hT:=hΓ t ty hty;split at he
   . rename_i k n hin
     rw [hin] at hi;have hie:=Rc hi;split at he
     . rename_i m el cs hsh h1
       cases hel:Γ el with
       | none=>simp [hel] at he
       | some ye=>
         simp only [hel,Option.bind_some] at he;split at he
         . rename_i hc
           obtain ⟨h0,hm,hl⟩:=hc;cases he;rw [h1] at hx hxw;obtain ⟨cv,hxa,hr⟩:=hx;have hlen:=hr.length;simp only [Array.length_toList] at hlen;obtain ⟨u,hu,huv⟩:=OK (hΓ el ye hel) W cv (n.toNat*ye.size) (by omega);have hmem:∀ c∈(cs.drop (n.toNat*ye.size)).take ye.size,A1 U AR c:=fun c hc=>hxw c (List.mem_of_mem_drop (List.mem_of_mem_take hc))
           have hr2:=(hr.drop (n.toNat*ye.size)).take ye.size;refine Out.pure hI (x:=u) ?_ (LY hr2 huv) ?_
           . simp only [execOp,ho,Instr.index,hie,hxa,asIntOf,Sem.run_bind,Sem.run_pure,Result.andThen_ok,run_underlying (I4 hT hsh),h0,hm,and_self,if_true,(hΓ el ye hel).sizeOf,hu]
           . rcases huv with ⟨h,_⟩ | ⟨hag,h1⟩
             . exact ADX hmem fun h'=>by rw [h] at h';cases h'
             . rw [h1] at hr2
               generalize (cs.drop (n.toNat*ye.size)).take ye.size=l at hr2 hmem
               match l,hr2 with
               | [c],hr2=>
                 simp only [mkV,hag];exact R2.av (R1.r2 hr2.1) (R1.a2 hr2.1 (hmem c (by simp)))
               | [],hr2=>exact hr2.elim
               | _::_::_,hr2=>exact hr2.2.elim
         . cases he
     . rename_i s hsh h1
       split at he
       . rename_i h0
         cases hb:s[n.toNat]? with
         | none=>simp [hb] at he
         | some b=>
           simp only [hb,Option.map_some] at he;cases he;rw [h1] at hx;refine Out.pure hI (x:= .int .u8 b.toNat) ?_ (BK rfl) trivial;simp only [execOp,ho,Instr.index,hie,BO hx,asIntOf,Sem.run_bind,Sem.run_pure,Result.andThen_ok,run_underlying (Mn hT hsh),h0,if_true,hb]
       . cases he
     . cases he
   . cases he
theorem AMf:∀ {cs:List V} {vs:List Value},AMN cs=some vs->cs=vs.map (fun v=> .d (.lit v))/\vs.all AMg=true
 | [],vs,h=>by cases h;exact ⟨rfl,rfl⟩
 | .d (.lit v)::r,vs,h=>by
   simp only [AMN] at h;split at h
   . rename_i hv
     cases hr:AMN r with
     | none=>rw [hr] at h;cases h
     | some ws=>
       rw [hr] at h;cases h;obtain ⟨h1,h2⟩:=AMf hr;exact ⟨by rw [h1];rfl,by simp [hv,h2]⟩
   . cases h
theorem ANF {v:Value} (h:AMg v=true):CU v=true:=by
 cases v<;>first | exact h | (simp [AMg] at h)
theorem AOq (hI:Inv E U G st a W) {o:Oper} {g:FuncId} {first caps:Array Operand} (ho:o.op= .makeFunc (.func g) first caps) {x:Operand} (hf:first.toList=[x]) {v:V} {e:Eff} (he:APc g (evF st.fr x) caps.toList.length=some (v,e)):Out P E U st a W o v e:=by
 unfold APc at he;split at he
 . rename_i h0
   split at he
   . rename_i cs hv
     cases hl:AMN cs with
     | none=>rw [hl] at he;cases he
     | some vs=>
       rw [hl] at he;cases he;obtain ⟨h1,h2⟩:=AMf hl;obtain ⟨hx,_⟩:=hI.op x;rw [hv,h1] at hx;obtain ⟨cv,hxa,hr⟩:=hx
       have hcv:cv.toList=vs:=by
         have h3:AJ (fun (p:Value) (q:Value)=>q=p) vs cv.toList:=(AJ.map_left.1 hr).mono fun p _ q hq=>BO (R2.rv (R1.r2 hq))
         clear hr hxa h1 h2 hl hv
         generalize cv.toList=ws at h3
         induction vs generalizing ws with
         | nil=>cases ws with
           | nil=>rfl
           | cons=>exact h3.elim
         | cons p r ih=>cases ws with
           | nil=>exact h3.elim
           | cons q s=>obtain ⟨rfl,h4⟩:=h3;rw [ih s h4]
       have hca:cv=vs.toArray:=by rw [<-hcv]
       refine Out.pure hI (x:= .func (.func g) #[.agg vs.toArray] #[]) ?_ (BK ?_) trivial
       . have e1:first= #[x]:=by rw [<-Array.toArray_toList (xs:=first),hf]
         have e2:caps= #[]:=by
           have:caps.toList=[]:=List.eq_nil_of_length_eq_zero h0;rw [<-Array.toArray_toList (xs:=caps),this]
         simp [execOp,ho,Instr.makeFunc,e1,e2,hxa,hca]
       . show ((#[]:Array Value).toList.isEmpty&&vs.toArray.toList.all AMg)=true
         simpa using h2
   . cases he
 . cases he
theorem Mi (hI:Inv E U G st a W) {o:Oper} {g:FuncId} {first caps:Array Operand} (ho:o.op= .makeFunc (.func g) first caps) (h0:first.size=0) (hc:(BX st.fr caps.toList).all V.cap=true):Out P E U st a W o (.cl g (BX st.fr caps.toList)) .none:=by
 obtain ⟨hr,hw⟩:=Du hI caps.toList;refine Out.pure hI (x:= .func (.func g) #[] (caps.map a.eval)) ?_ ⟨caps.map a.eval,rfl,?_⟩ ?_
 . have:first= #[]:=Array.eq_empty_of_size_eq_zero h0
   simp [execOp,ho,Instr.makeFunc,this]
 . rw [Array.toList_map]
   refine hr.mono fun v hv x hx=>?_
   have:=List.all_eq_true.1 hc v hv;cases v<;>first | (simp [V.cap] at this;done) | exact hx
 . intro v hv
   have:=List.all_eq_true.1 hc v hv;have h2:=hw v hv;cases v<;>first | (simp [V.cap] at this;done) | exact h2
end Go.Psl
namespace Go.Psl
variable {P:Program} {Γ:Tys} {eqs:Eqs} {E:Ent} {U U':Nat->Prop} {G:Gh} {st:St} {a:Act} {W:World}
theorem CI {α:Type} {sz:Nat} (h0:0<sz):∀ (es:List (List α)),(∀ e∈es,e.length=sz)->∀ i,es.flatten[i]?= (es[i/sz]?).bind fun e=>e[i%sz]?
 | [],_,i=>by simp
 | e::es,h,i=>by
   have he:=h e (by simp);rw [List.flatten_cons];by_cases hi:i<sz
   . rw [List.getElem?_append_left (by omega),Nat.div_eq_of_lt hi,Nat.mod_eq_of_lt hi];rfl
   . rw [List.getElem?_append_right (by omega),he,CI h0 es (fun x hx=>h x (by simp [hx]))]
     have e1:i/sz=(i-sz)/sz+1:=Nat.div_eq_sub_div h0 (by omega);have e2:i%sz=(i-sz)%sz:=by rw [<-Nat.mod_eq_sub_mod (by omega)]
     rw [e1,e2];rfl
theorem B3 {α:Type} {sz:Nat}:∀ (es:List (List α)),(∀ e∈es,e.length=sz)->es.flatten.length=es.length*sz
 | [],_=>by simp
 | e::es,h=>by
   rw [List.flatten_cons,List.length_append,B3 es (fun x hx=>h x (by simp [hx])),h e (by simp),List.length_cons,Nat.add_mul];omega
theorem AMW (hΓ:GOk P Γ) (hI:Inv E U G st a W) {o:Oper} {t:TypeId} {n:Nat} {ps:Array (Nat × Operand)} (ho:o.op= .buildSlice t n ps) {b:Nat} (hb:¬ U b) (hU:∀ i,U i->U' i) (hb':U' b) {v:V} {e:Eff}
   (he:Rz Γ b t n (ED st.fr ps.toList)=some (v,e)):Out P E U' st a W o v e:=by
 obtain ⟨hrel,hok⟩:=K0 hI ps.toList;unfold Rz at he;cases hty:Γ t with
 | none=>simp [hty] at he
 | some ty=>
   simp only [hty,Option.bind_some] at he;split at he
   . rename_i el hsh
     cases hel:Γ el with
     | none=>simp [hel] at he
     | some ye=>
       simp only [hel,Option.bind_some] at he;split at he
       . rename_i hsz
         obtain ⟨h24,hpos⟩:=hsz;cases hf:Ri (fun i=>some (i*ye.size,ye.size)) (AM n (ye.zero.map cV)) (ED st.fr ps.toList) with
         | none=>simp [hf] at he
         | some cs=>
           simp only [hf,Option.map_some] at he;cases he;have hT:=hΓ t ty hty;have hTe:=hΓ el ye hel;obtain ⟨z,hz,hzc⟩:=hTe.zeroValue W;have hzl:z.cells.size=ye.size:=by rw [<-Array.length_toList,hzc,hTe.zl]
           have hd:=BH hT hsh;have hxs:(ps.map fun (i,x)=>(i,a.eval x)).toList=ps.toList.map fun (i,x)=>(i,a.eval x):=by simp
           have hrepl:AJ (R1 G W) (AM n (ye.zero.map cV)) ((Array.range (n*ye.size)).map (z.cells[· % z.cells.size]!)).toList:=by
             refine AJ.of_get ?_ fun i x y hx hy=>?_
             . unfold AM
               rw [B3 (sz:=ye.size) _ (fun e he=>by rw [(List.eq_of_mem_replicate he)];simp [hTe.zl])];simp
             . unfold AM at hx
               rw [CI hpos _ (fun e he=>by rw [(List.eq_of_mem_replicate he)];simp [hTe.zl])] at hx;simp only [Array.toList_map,List.getElem?_map,Array.toList_range] at hy;by_cases hi:i<n*ye.size
               . rw [List.getElem?_range hi] at hy
                 simp only [Option.map_some,Option.some.injEq] at hy;have h1:i/ye.size<n:=by rw [Nat.div_lt_iff_lt_mul hpos];exact hi
                 rw [List.getElem?_replicate,if_pos h1] at hx;simp only [Option.bind_some,List.getElem?_map] at hx;have hm:i%ye.size<ye.size:=Nat.mod_lt _ hpos;obtain ⟨w0,hw0⟩:∃ w0,z.cells[i%ye.size]?= some w0:=⟨z.cells[i%ye.size]'(by rw [hzl];exact hm),Array.getElem?_eq_getElem _⟩
                 have hzi:ye.zero[i%ye.size]?= some w0:=by rw [<-hzc,Array.getElem?_toList];exact hw0
                 rw [hzi] at hx;simp only [Option.map_some,Option.some.injEq] at hx;subst hx;subst hy;have hw1:z.cells[i%z.cells.size]! =w0:=by rw [hzl];simp [getElem!_def,hw0]
                 rw [hw1];exact RD.lit _ (List.all_eq_true.1 hTe.zf _ (List.mem_of_getElem? hzi))
               . rw [List.getElem?_eq_none (by simp;omega)] at hy;cases hy
           obtain ⟨cv',h6,h7⟩:=Ig (place:=fun i=>some (i*ye.size,ye.size)) (fun i p hp=>hp) hrel hrepl hf
           have hall:(AM n (ye.zero.map cV)).all V.isCell=true:=by
             simp only [AM,List.all_eq_true,List.mem_flatten]
             rintro x ⟨l,hl,hx⟩
             rw [List.eq_of_mem_replicate hl] at hx;exact List.all_eq_true.1 (Er ye.zero) x hx
           have hokz:∀ x∈AM n (ye.zero.map cV),A1 U AR x:=by
             simp only [AM,List.mem_flatten]
             rintro x ⟨l,hl,hx⟩
             rw [List.eq_of_mem_replicate hl] at hx;exact Ie _ x hx
           have hl7:=h7.length
           have hlen:cs.length=n*ye.size:=by
             have:∀ {ps:List (Nat × V)} {cells cs:List V},Ri (fun i=>some (i*ye.size,ye.size)) cells ps=some cs->cs.length=cells.length:=by
               intro ps;induction ps with
               | nil=>intro cells cs h;cases h;rfl
               | cons p ps ih=>
                 intro cells cs h;simp only [Ri] at h;split at h
                 . rename_i hc
                   rw [ih h];simp [AA];omega
                 . cases h
             rw [this hf];unfold AM;rw [B3 (sz:=ye.size) _ (fun e he=>by rw [(List.eq_of_mem_replicate he)];simp [hTe.zl])];simp
           obtain ⟨G',hI',h1,h2,h3,_⟩:=hI.alloc (T:=el) hb hU hb' (cs:=cs) (c:=cv') (W1:=W) rfl rfl rfl rfl (by rw [hl7];simp) (by rw [hl7,List.take_of_length_le (by simp)];exact h7)
             (O2 (q:=V.isCell) hall (fun p _ h=>h) hf) (Ih (q:=A1 U AR) hokz (fun p hp=>GG (hok p hp)) hf)
           refine ⟨_, .slice (some ⟨W.heap.size,0,none⟩) n n,_,G',?_, .inl rfl,hI',⟨?_, .inr ⟨h3,0,n,by rw [h1],Nat.le_refl _,fun _=>⟨rfl,?_⟩⟩⟩,hb'⟩
           . rw [<-hxs] at h6
             simp only [execOp,ho,Instr.buildSlice,Sem.run_bind,run_underlying hd,Result.andThen_ok,hTe.sizeOf];rw [if_neg (by omega)];by_cases h0:n*ye.size=0
             . rw [h0] at h6
               have hr0:((Array.range 0).map ((#[]:Array Value)[· % (#[]:Array Value).size]!))=((Array.range 0).map (z.cells[· % z.cells.size]!)):=by simp
               simp only [h0,if_true,Sem.run_bind,Sem.run_pure,Result.andThen_ok];rw [hr0,h6];rfl
             . simp only [h0,if_false,Sem.run_bind,hz,Sem.run_pure,Result.andThen_ok]
               rw [h6];rfl
           . have:n*1<=n*ye.size:=Nat.mul_le_mul_left _ hpos
             unfold maxL;omega
           . rw [h2,<-hlen,<-Array.length_toList,<-hl7];omega
       . cases he
   . cases he
end Go.Psl
namespace Go.Psl
variable {P:Program} {Γ:Tys} {eqs:Eqs} {E:Ent} {U U':Nat->Prop} {G:Gh} {st:St} {a:Act} {W:World}
theorem Inv.drop (hI:Inv E U G st a W) (id:Nat):Inv E U G ⟨st.fr,upd st.H id none,st.nx⟩ a W:=by
 have hs:∀ i cs,upd st.H id none i=some cs->i≠id/\st.H i=some cs:=fun i cs h=>by
   simp only [AY] at h;split at h
   . cases h
   . rename_i e;exact ⟨e,h⟩
 have hs':∀ i,(upd st.H id none i).isSome=true->(st.H i).isSome=true:=fun i h=>by
   obtain ⟨cs,hc⟩:=Option.isSome_iff_exists.1 h;rw [(hs i cs hc).2];rfl
 exact {hI with hp:=fun i cs h=>hI.hp i cs (hs i cs h).2,wh:=fun i cs h=>hI.wh i cs (hs i cs h).2,dom:=fun i h=>hI.dom i (hs' i h),inj:=fun i j hi hj=>hI.inj i j (hs' i hi) (hs' j hj),own:=fun i hi=>hI.own i (hs' i hi),stab:=fun i h hi=>hI.stab i h (hs' i hi)}
theorem Inv.rename (hI:Inv E U G st a W) {id b:Nat} {cs:List V} (hh:st.H id=some cs) (hph:G.ph id=false/\G.lo id=false) (hb:¬ U b) (hU:∀ i,U i->U' i) (hb':U' b):
   ∃ G',Inv E U' G' ⟨st.fr,upd (upd st.H id none) b (some cs),st.nx⟩ a W/\G'.β b=G.β id/\G'.bs b=G.bs id/\(G'.ph b=false/\G'.lo b=false)/\Chg U G W G' W:=by
 let G':Gh:={β:=upd G.β b (G.β id),bs:=upd G.bs b (G.bs id),ph:=upd G.ph b false,lo:=upd G.lo b false,Im:=G.Im}
 have hne:∀ i,U i->i≠b:=fun i hi e=>hb (e ▸ hi)
 have hchg:Chg U G W G' W:=⟨fun i hi=>by simp [G',upd,hne i hi],fun k hk=>⟨hk,rfl⟩⟩
 have hlive:(st.H id).isSome=true:=by rw [hh];rfl
 have hidb:id≠b:=hne id (hI.dom id hlive)
 have hs:∀ i x,upd (upd st.H id none) b (some cs) i=some x->(i=b/\x=cs)\/(i≠b/\i≠id/\st.H i=some x):=fun i x h=>by
   simp only [AY] at h;split at h
   . rename_i e;cases h;exact .inl ⟨e,rfl⟩
   . rename_i e
     split at h
     . cases h
     . rename_i e';exact .inr ⟨e,e',h⟩
 have hs':∀ i,(upd (upd st.H id none) b (some cs) i).isSome=true->i=b\/(i≠b/\i≠id/\(st.H i).isSome=true):=fun i h=>by
   obtain ⟨x,hx⟩:=Option.isSome_iff_exists.1 h;rcases hs i x hx with ⟨h,_⟩ | ⟨h1,h2,h3⟩
   . exact .inl h
   . exact .inr ⟨h1,h2,by rw [h3];rfl⟩
 refine ⟨G',?_,by simp [G',upd],by simp [G',upd],by simp [G',upd],hchg⟩;refine {fr:=fun t=>hchg.rv (hI.wf t) (hI.fr t),wf:=fun t=>AV.mono hU (fun _ h=>h) (hI.wf t),hp:=?_,wh:=?_,dom:=?_,inj:=?_,own:=?_,im:=hI.im,im0:=hI.im0,keep:=hI.keep,stab:=?_,sU:=fun i hs=>hU _ (hI.sU i hs),nt:=hI.nt,df:=hI.df.imp fun ds h=>⟨h.1,h.2.same (fun _ _ _=>rfl) (fun _ _ _ h=>h)⟩,gl:=hI.gl.mono hchg.im}
 . intro i x h
   rcases hs i x h with ⟨rfl,rfl⟩ | ⟨h1,h2,h3⟩
   . obtain ⟨hn,c,T,e1,e2,e3,e4,e5⟩:=(hI.hp id _ hh).read hph
     refine .inr (.inl ⟨by simp [G',upd],by simp [G',upd],by simpa [G',upd] using hn,c,T,by simpa [G',upd] using e1,by simpa [G',upd] using e2,e3,hchg.all1 (JT e4 (hI.wh id _ hh)) e4,e5⟩)
   . exact hchg.hb (hI.dom i (by rw [h3];rfl)) (hI.wh i x h3) (hI.hp i x h3) (fun _=>rfl) (fun h _=>h)
 . intro i x h y hy
   rcases hs i x h with ⟨rfl,rfl⟩ | ⟨h1,h2,h3⟩
   . exact AC.mono hU (fun _ h=>h) (hI.wh id _ hh y hy)
   . exact AC.mono hU (fun _ h=>h) (hI.wh i x h3 y hy)
 . intro i h
   rcases hs' i h with rfl | ⟨_,_,h⟩
   . exact hb'
   . exact hU _ (hI.dom i h)
 . intro i j hi hj hpi hpj he
   rcases hs' i hi with ei | ⟨ei,ei',hi'⟩<;>rcases hs' j hj with ej | ⟨ej,ej',hj'⟩
   . rw [ei,ej]
   . simp only [G',upd,if_pos ei,if_neg ej] at he hpj
     exact absurd (hI.inj id j hlive hj' hph.1 hpj he) (fun h=>ej' h.symm)
   . simp only [G',upd,if_pos ej,if_neg ei] at he hpi
     exact absurd (hI.inj i id hi' hlive hpi hph.1 he) ei'
   . simp only [G',upd,if_neg ei,if_neg ej] at he hpi hpj
     exact hI.inj i j hi' hj' hpi hpj he
 . intro i hi hp
   rcases hs' i hi with ei | ⟨ei,ei',hi'⟩
   . simp only [G',upd,if_pos ei];exact hI.own id hlive hph.1
   . simp only [G',upd,if_neg ei] at hp ⊢;exact hI.own i hi' hp
 . intro i h hi
   rcases hs' i hi with ei | ⟨ei,ei',hi'⟩
   . exact absurd (ei ▸ hI.sU _ h) hb
   . simp only [G',upd,if_neg ei];exact hI.stab i h hi'
theorem Inv.phantom (hI:Inv E U G st a W) {b:Nat} (hb:¬ U b) (hU:∀ i,U i->U' i) (hb':U' b):
   ∃ G',Inv E U' G' ⟨st.fr,upd st.H b (some []),st.nx⟩ a W/\G'.ph b=true/\Chg U G W G' W:=by
 let G':Gh:={β:=G.β,bs:=G.bs,ph:=upd G.ph b true,lo:=upd G.lo b false,Im:=G.Im}
 have hne:∀ i,U i->i≠b:=fun i hi e=>hb (e ▸ hi)
 have hchg:Chg U G W G' W:=⟨fun i hi=>by simp [G',upd,hne i hi],fun k hk=>⟨hk,rfl⟩⟩
 have hs:∀ i x,upd st.H b (some []) i=some x->(i=b/\x=[])\/(i≠b/\st.H i=some x):=fun i x h=>by
   simp only [AY] at h;split at h
   . rename_i e;cases h;exact .inl ⟨e,rfl⟩
   . rename_i e;exact .inr ⟨e,h⟩
 have hs':∀ i,(upd st.H b (some []) i).isSome=true->i=b\/(i≠b/\(st.H i).isSome=true):=fun i h=>by
   obtain ⟨x,hx⟩:=Option.isSome_iff_exists.1 h;rcases hs i x hx with ⟨h,_⟩ | ⟨h1,h3⟩
   . exact .inl h
   . exact .inr ⟨h1,by rw [h3];rfl⟩
 refine ⟨G',?_,by simp [G',upd],hchg⟩;refine {fr:=fun t=>hchg.rv (hI.wf t) (hI.fr t),wf:=fun t=>AV.mono hU (fun _ h=>h) (hI.wf t),hp:=?_,wh:=?_,dom:=?_,inj:=?_,own:=?_,im:=hI.im,im0:=hI.im0,keep:=hI.keep,stab:=?_,sU:=fun i hs=>hU _ (hI.sU i hs),nt:=hI.nt,df:=hI.df.imp fun ds h=>⟨h.1,h.2.same (fun _ _ _=>rfl) (fun _ _ _ h=>h)⟩,gl:=hI.gl.mono hchg.im}
 . intro i x h
   rcases hs i x h with ⟨rfl,rfl⟩ | ⟨h1,h3⟩
   . exact .inl ⟨by simp [G',upd],rfl⟩
   . exact hchg.hb (hI.dom i (by rw [h3];rfl)) (hI.wh i x h3) (hI.hp i x h3) (fun _=>rfl) (fun h _=>h)
 . intro i x h y hy
   rcases hs i x h with ⟨rfl,rfl⟩ | ⟨h1,h3⟩
   . cases hy
   . exact AC.mono hU (fun _ h=>h) (hI.wh i x h3 y hy)
 . intro i h
   rcases hs' i h with rfl | ⟨_,h⟩
   . exact hb'
   . exact hU _ (hI.dom i h)
 . intro i j hi hj hpi hpj he
   rcases hs' i hi with ei | ⟨ei,hi'⟩
   . simp [G',upd,if_pos ei] at hpi
   . rcases hs' j hj with ej | ⟨ej,hj'⟩
     . simp [G',upd,if_pos ej] at hpj
     . simp only [G',upd,if_neg ei,if_neg ej] at he hpi hpj
       exact hI.inj i j hi' hj' hpi hpj he
 . intro i hi hp
   rcases hs' i hi with ei | ⟨ei,hi'⟩
   . simp [G',upd,if_pos ei] at hp
   . simp only [G',upd,if_neg ei] at hp ⊢;exact hI.own i hi' hp
 . intro i h hi
   rcases hs' i hi with ei | ⟨ei,hi'⟩
   . exact absurd (ei ▸ hI.sU _ h) hb
   . simp only [G',upd,if_neg ei];exact hI.stab i h hi'
theorem WT (hI:Inv E U G st a W) {sz:Nat} (hsz:0<sz) {x:V} {u:Value} (hx:RV G W x u) (hxw:AV U AR x) {m:Nat} {cs:List V} (hc:cellsOf st.H sz x=some (m,cs)):
   ∃ ao cap xs,u= .slice ao m cap/\xs.length=m*sz/\AJ (R1 G W) cs xs/\(∀ c∈cs,A1 U AR c)/\(∀ (j:Nat) y,xs[j]?= some y->∃ ad,ao=some ad/\W.cell? (ad.add j)=some y)/\m<=maxL:=by
 unfold cellsOf at hc;split at hc
 . rename_i u' n c
   cases hc;have hfl:=Dv hx;have hxa:=BO hx;simp only [CU,Bool.and_eq_true,beq_iff_eq,Option.isNone_iff_eq_none] at hfl;obtain ⟨⟨rfl,rfl⟩,rfl⟩:=hfl;exact ⟨none,0,[],hxa,by simp,trivial,by simp,by simp,by simp [maxL]⟩
 . rename_i sz' es
   split at hc
   . rename_i he
     subst he;cases hc;obtain ⟨ao,cap,hxa,hcap,hml,hes,vs,hm,hr⟩:=ib hx;have hfl:=B3 es hes;refine ⟨ao,cap,(List.range (es.length*sz)).map fun i=>vs (i/sz) (i%sz),hxa,by simp,?_,?_,?_,hml⟩
     . refine AJ.map_left.2 (AJ.of_get (by simp [hfl]) fun i y z hy hz=>?_)
       rw [CI hsz es hes] at hy;cases he:es[i/sz]? with
       | none=>simp [he] at hy
       | some e=>
         simp only [he,Option.bind_some] at hy
         have hlt:i<es.length*sz:=by
           have:=(List.getElem?_eq_some_iff.1 hz).1;simpa using this
         simp only [List.getElem?_map,List.getElem?_range hlt,Option.map_some,Option.some.injEq] at hz;subst hz;exact hr _ _ he _ _ hy
     . intro c hc;simp only [List.mem_map] at hc;obtain ⟨y,_,rfl⟩:=hc;trivial
     . intro j y hy
       have hlt:j<es.length*sz:=by
         have:=(List.getElem?_eq_some_iff.1 hy).1;simpa using this
       simp only [List.getElem?_map,List.getElem?_range hlt,Option.map_some,Option.some.injEq] at hy;subst hy;have h1:j/sz<es.length:=by rw [Nat.div_lt_iff_lt_mul hsz];exact hlt
       have he:=List.getElem?_eq_getElem h1;have hel:=hes _ (List.getElem_mem h1);have hmod:=Nat.mod_lt j hsz;obtain ⟨ad,hao,_,hcell⟩:=hm _ _ he;refine ⟨ad,hao,?_⟩;have:=hcell (j%sz) _ (List.getElem?_eq_getElem (by omega))
       rwa [Nat.div_add_mod' j sz] at this
   . cases hc
 . rename_i id off len sz'
   split at hc
   . rename_i he
     subst he;cases hh:st.H id with
     | none=>simp [hh] at hc
     | some hs=>
       simp only [hh,Option.bind_some] at hc;split at hc
       . rename_i hl
         cases hc;obtain ⟨hml,⟨hph,h0,hxa⟩ | ⟨hph,o',cap,hxa,hcap,hoff⟩⟩:=hx
         . subst h0
           exact ⟨none,0,[],hxa,by simp,by simp [AJ],by simp,by simp,by simp [maxL]⟩
         . obtain ⟨xs,h1,h2,h3⟩:=(hI.hp id hs hh).cells hph off (m*sz) hl
           refine ⟨some ⟨G.β id,o',none⟩,cap,xs,hxa,h1,h3,JT h3 (fun c hc=>hI.wh id hs hh c (List.mem_of_mem_drop (List.mem_of_mem_take hc))),fun j y hy=>⟨_,rfl,?_⟩,hml⟩;by_cases h0:0<cap
           . obtain ⟨rfl,_⟩:=hoff h0
             exact h2 j y hy
           . have:m=0:=by omega
             subst this;have:=(List.getElem?_eq_some_iff.1 hy).1;simp [h1] at this
       . cases hc
   . cases hc
 . cases hc
end Go.Psl
namespace Go.Psl
variable {P:Program} {Γ:Tys} {eqs:Eqs} {E:Ent} {U U':Nat->Prop} {G:Gh} {st:St} {a:Act} {W:World}
theorem Mk {t ty e:TypeId} {y:Ty} (ht:P.underlying t=some (.slice e)) (hy:C1 P e y) (w:World) (x:Value) (ao:Option Addr) (cap:Nat) (hx:x= .slice ao 0 cap):
   (Builtin.append_ #[t,t] ty #[.slice none 0 0,x]).run P w= .ok (.slice none 0 0) w:=by
 subst hx;cases ao<;>simp [Builtin.append_,run_underlying ht,hy.sizeOf,Builtin.lenOf,Builtin.firstCells,loadCells,loadCellsFrom]
theorem I3 {size m:Nat} {ao:Option Addr} {cap:Nat} {xs:List Value} (w:World) (hl:xs.length=m*size) (hc:∀ (j:Nat) y,xs[j]?= some y->∃ ad,ao=some ad/\w.cell? (ad.add j)=some y):
   (Builtin.firstCells size m (.slice ao m cap)).run P w= .ok xs.toArray w:=by
 cases ao with
 | none=>
   have:xs=[]:=by
     cases xs with
     | nil=>rfl
     | cons x xs=>obtain ⟨_,h,_⟩:=hc 0 x rfl;cases h
   subst this;simp [Builtin.firstCells]
 | some ad=>
   exact run_firstCells_some w size m ad m cap xs hl fun j v hv=>by
     obtain ⟨_,h,h2⟩:=hc j v hv;cases h;exact h2
theorem Ml {t ty e:TypeId} {y:Ty} (ht:P.underlying t=some (.slice e)) (hy:C1 P e y) (w:World) (g o n cap:Nat) (c:Array Value) (T:TypeId) (hg:AMO w.heap[g]? c T)
   (m:Nat) (ao:Option Addr) (cx:Nat) (xs:List Value) (hl:xs.length=m*y.size) (hc:∀ (j:Nat) y,xs[j]?= some y->∃ ad,ao=some ad/\w.cell? (ad.add j)=some y) (h1:∀ v∈xs,v.oneCell'=true)
   (hroom:n+m<=cap) (hfit:o+n*y.size+xs.length<=c.size):
   (Builtin.append_ #[t,t] ty #[.slice (some ⟨g,o,none⟩) n cap, .slice ao m cx]).run P w=
     .ok (.slice (some ⟨g,o,none⟩) (n+m) cap) (w.setRow g (c.toList.take (o+n*y.size)++xs++c.toList.drop (o+n*y.size+xs.length)).toArray):=by
 have hf:=I3 (P:=P) (cap:=cx) w hl hc;have hst:=ALX P g (o+n*y.size) T xs 0 c w hg (by simpa using hfit) h1;simp only [Nat.add_zero] at hst;simp [Builtin.append_,run_underlying ht,hy.sizeOf,Builtin.lenOf,hroom,hf,Bc,hst]
theorem H9 {t ty e:TypeId} {y:Ty} (ht:P.underlying t=some (.slice e)) (hy:C1 P e y) (w:World) (bo:Option Addr) (n cap:Nat) (os:List Value) (hlo:os.length=n*y.size) (hco:∀ (j:Nat) z,os[j]?= some z->∃ ad,bo=some ad/\w.cell? (ad.add j)=some z)
   (m:Nat) (ao:Option Addr) (cx:Nat) (xs:List Value) (hl:xs.length=m*y.size) (hc:∀ (j:Nat) z,xs[j]?= some z->∃ ad,ao=some ad/\w.cell? (ad.add j)=some z)
   (hg:cap<n+m) (h63:n+m<=maxL) (hb:(n+m)*y.bytes<=Fh):
   ∃ (z:List Value) (newCap:Nat),n+m<=newCap/\z.length=(newCap-(n+m))*y.size/\(Builtin.append_ #[t,t] ty #[.slice bo n cap, .slice ao m cx]).run P w= .ok (.slice (some ⟨w.heap.size,0,none⟩) (n+m) newCap) (w.drew.alloc (.cells (os.toArray++xs.toArray++z.toArray) e)):=by
 obtain ⟨i,zv,hi,hs,hby,hz,hzc⟩:=hy.info;have hzs:zv.cells.size=y.size:=by rw [<-Array.length_toList,hzc,hy.zl]
 have hn:¬ (n+m<=cap):=by omega
 have h63':¬ (9223372036854775807<((n:Int)+(m:Int))):=by unfold maxL at h63;omega
 have hfit:=growslice_fits hg hb;have hfit':¬ (281474976710656<Builtin.nextslicecap (n+m) cap*i.bytes):=by rw [hby];omega
 have hf1:=I3 (P:=P) (cap:=cx) w.drew hl (fun j v hv=>by obtain ⟨ad,h1,h2⟩:=hc j v hv;exact ⟨ad,h1,by simpa using h2⟩);have hf2:=I3 (P:=P) (cap:=cap) w.drew hlo (fun j v hv=>by obtain ⟨ad,h1,h2⟩:=hco j v hv;exact ⟨ad,h1,by simpa using h2⟩);refine ⟨(Builtin.zeroCells zv.cells (grownCap w (n+m) cap e-(n+m))).toList,grownCap w (n+m) cap e,grownCap_ge w (n+m) cap e,by simp [size_zeroCells,hzs],?_⟩;have hzr:(zeroValue e).run P w.drew= .ok zv w.drew:=by simp [zeroValue,typeInfo,hi,hz]
 have hsz:(sizeOf e).run P w= .ok i.size w:=by simp [sizeOf,typeInfo,hi]
 rw [<-hs] at hf1 hf2;simp only [Array.toArray_toList];simp [Builtin.append_,run_underlying ht,hsz,typeInfo,hi,Builtin.lenOf,hn,h63',hfit',Question.forced,hf1,hf2,hz,zeroValue,newRow,grownCap];congr 2;apply Array.ext';simp [List.append_assoc]
theorem Inv.trunc (hI:Inv E U G st a W) {id:Nat} {cs:List V} (hh:st.H id=some cs) (hlo:G.lo id=false) (n:Nat):Inv E U G ⟨st.fr,upd st.H id (some (cs.take n)),st.nx⟩ a W:=by
 have hs:∀ i x,upd st.H id (some (cs.take n)) i=some x->(i=id/\x=cs.take n)\/(i≠id/\st.H i=some x):=fun i x h=>by
   simp only [AY] at h;split at h
   . rename_i e;cases h;exact .inl ⟨e,rfl⟩
   . rename_i e;exact .inr ⟨e,h⟩
 have hs':∀ i,(upd st.H id (some (cs.take n)) i).isSome=true->(st.H i).isSome=true:=fun i h=>by
   obtain ⟨x,hx⟩:=Option.isSome_iff_exists.1 h;rcases hs i x hx with ⟨rfl,_⟩ | ⟨_,h3⟩
   . rw [hh];rfl
   . rw [h3];rfl
 refine {hI with hp:=fun i x h=>?_,wh:=fun i x h=>?_,dom:=fun i h=>hI.dom i (hs' i h),inj:=fun i j hi hj=>hI.inj i j (hs' i hi) (hs' j hj),own:=fun i hi=>hI.own i (hs' i hi),stab:=fun i h hi=>hI.stab i h (hs' i hi)}
 . rcases hs i x h with ⟨rfl,rfl⟩ | ⟨_,h3⟩
   . rcases hI.hp i cs hh with ⟨h1,h2⟩ | ⟨h1,h0,h2,c,T,h3,h4,h5,h6,h7⟩ | ⟨_,h0,_⟩
     . exact .inl ⟨h1,by rw [h2];simp⟩
     rotate_left
     . rw [hlo] at h0;cases h0
     . refine .inr (.inl ⟨h1,h0,h2,c,T,h3,h4,by simp;omega,?_,List.all_eq_true.2 fun y hy=>List.all_eq_true.1 h7 y (List.mem_of_mem_take hy)⟩)
       have:=h6.take n;rw [List.take_take] at this;simpa [List.length_take] using this
   . exact hI.hp i x h3
 . rcases hs i x h with ⟨rfl,rfl⟩ | ⟨_,h3⟩
   . exact fun y hy=>hI.wh i cs hh y (List.mem_of_mem_take hy)
   . exact hI.wh i x h3
theorem Mm {t ty e:TypeId} {y:Ty} (ht:P.underlying t=some (.slice e)) (hy:C1 P e y) (w:World) (ad:Addr) (n cap:Nat) (hn:n<=cap) (ao:Option Addr) (cx:Nat):
   (Builtin.append_ #[t,t] ty #[.slice (some ad) n cap, .slice ao 0 cx]).run P w= .ok (.slice (some ad) n cap) w:=by
 cases ao<;>simp [Builtin.append_,run_underlying ht,hy.sizeOf,Builtin.lenOf,hn,Builtin.firstCells,loadCells,loadCellsFrom,storeCells]
theorem dP (hΓ:GOk P Γ) (hI:Inv E U G st a W) {o:Oper} {c:Call} {t:TypeId} {s x:Operand} (ho:o.op= .call c) (hc:c.callee= .builtin .append) (hca:c.args.toList=[s,x]) (hct:c.argTypes.toList=[t,t]) {b:Nat} (hb:¬ U b) (hU:∀ i,U i->U' i) (hb':U' b) {v:V} {e:Eff}
   (he:Lr Γ st.H b t (evF st.fr s) (evF st.fr x)=some (v,e)):Out P E U' st a W o v e:=by
 obtain ⟨hs,hsw⟩:=hI.op s;obtain ⟨hx,hxw⟩:=hI.op x
 have hrun:∀ z W',(Builtin.append_ #[t,t] o.type #[a.eval s,a.eval x]).run P W= .ok z W'->(execOp a.eval o).run P W= .ok (.value z) W':=fun z W' hz=>by
   have h1:c.args= #[s,x]:=Array.ext' (by simpa using hca);have h2:c.argTypes= #[t,t]:=Array.ext' (by simpa using hct);simp [execOp,ho,resolve,hc,invoke,builtin,h1,h2,hz]
 unfold Lr at he;cases hty:Γ t with
 | none=>simp [hty] at he
 | some ty=>
   simp only [hty,Option.bind_some] at he;split at he<;>first | (cases he;done) | skip
   rename_i el hsh;cases hel:Γ el with
   | none=>simp [hel] at he
   | some ye=>
     simp only [hel,Option.bind_some] at he;split at he
     . cases he
     rename_i hcond;have hpos:0<ye.size:=by omega
     have hsame:Ei (evF st.fr s) (evF st.fr x)=false:=by
       cases h:Ei (evF st.fr s) (evF st.fr x)
       . rfl
       . exact absurd (.inr h) hcond
     have ht:=BH (hΓ t ty hty) hsh;have hye:=hΓ el ye hel;cases hcl:cellsOf st.H ye.size (evF st.fr x) with
     | none=>simp [hcl] at he
     | some p=>
       obtain ⟨m,cs⟩:=p;simp only [hcl,Option.bind_some] at he;obtain ⟨ao,capx,xs,hxa,hxl,hxr,hxok,hxc,_⟩:=WT hI hpos hx hxw hcl;split at he
       rotate_left
       . cases he
       rename_i hall;have h1:=GH hxr hall;have hcsl:=hxr.length
       have fromNil:a.eval s= .slice none 0 0->m*ye.bytes<=Fh->m<=maxL->∃ n z W' G',(execOp a.eval o).run P W= .ok n W'/\(n= .value z\/(n= .skip/\z=undef))/\Inv E U' G' ⟨st.fr,upd st.H b (some cs),st.nx⟩ a W'/\RV G' W' (.ls b 0 m ye.size) z:=fun hsa hmb hml=>by
         rw [hsa,hxa] at hrun;by_cases hm:m=0
         . subst hm
           have hcs:cs=[]:=List.eq_nil_of_length_eq_zero (by rw [hcsl,hxl];simp);subst hcs;obtain ⟨G',hI',hph,_⟩:=hI.phantom hb hU hb';exact ⟨_, .slice none 0 0,W,G',hrun _ _ (Mk ht hye W _ ao capx rfl), .inl rfl,hI',by simp [maxL], .inl ⟨hph,rfl,rfl⟩⟩
         . obtain ⟨z,nc,hnc,hzl,hr⟩:=H9 (P:=P) (ty:=o.type) ht hye W none 0 0 [] (by simp) (by simp) m ao capx xs hxl hxc (by omega) (by omega) (by simpa using hmb)
           simp only [Nat.zero_add] at hr hnc hzl;obtain ⟨G',hI',e1,e2,e3,_⟩:=hI.alloc (W1:=W.drew) (T:=el) hb hU hb' (cs:=cs) (c:=(#[]++xs.toArray++z.toArray)) rfl rfl rfl rfl (by simp;omega) (by simpa [hcsl] using hxr) hall hxok;refine ⟨_,_,_,G',hrun _ _ hr, .inl rfl,hI',hml, .inr ⟨e3,0,nc,by rw [e1],hnc,fun _=>⟨rfl,?_⟩⟩⟩;rw [e2];have e4:nc*ye.size=m*ye.size+(nc-m)*ye.size:=by rw [<-Nat.add_mul];congr 1;omega
           simp only [Array.size_append,List.size_toArray,hzl,hxl];simp;omega
       split at he
       . rename_i u n cc hsv
         split at he
         . rename_i hbd
           cases he;have hfl:=Dv (hsv ▸ hs);have hsa:=BO (hsv ▸ hs);simp only [CU,Bool.and_eq_true,beq_iff_eq,Option.isNone_iff_eq_none] at hfl;obtain ⟨⟨rfl,rfl⟩,rfl⟩:=hfl;obtain ⟨n,z,W',G',q1,q2,q3,q4⟩:=fromNil hsa hbd.1 hbd.2;exact ⟨n,z,W',G',q1,q2,q3,q4,hb'⟩
         . cases he
       . rename_i id len sz hsv
         split at he
         rotate_left
         . cases he
         rename_i hsz;subst hsz;cases hh:st.H id with
         | none=>simp [hh] at he
         | some hs0=>
           simp only [hh,Option.bind_some] at he;split at he
           rotate_left
           . cases he
           rename_i hbd;obtain ⟨hfit,hbb,hml⟩:=hbd;cases he;rw [hsv] at hs hsw;have hidb:id≠b:=fun e=>hb (e ▸ hsw)
           obtain ⟨hlm,⟨hph,h0,hsa⟩ | ⟨hph,o',cap,hsa,hcap,hoff⟩⟩:=hs
           . subst h0
             obtain ⟨n,z,W',G',q1,q2,q3,q4⟩:=fromNil hsa (by simpa using hbb) (by simpa using hml);refine ⟨n,z,W',G',q1,q2,?_,by simpa using q4,hb'⟩;have:=q3.drop id
             have e:upd (upd st.H id none) b (some (hs0.take (0*ye.size)++cs))=upd (upd st.H b (some cs)) id none:=by
               funext i
               simp only [upd,Nat.zero_mul,List.take_zero,List.nil_append];by_cases h1:i=b<;>by_cases h2:i=id<;>simp_all
             show Inv E U' G' ⟨st.fr,upd (upd st.H id none) b (some (hs0.take (0*ye.size)++cs)),st.nx⟩ a W'
             rw [e];exact this
           . obtain ⟨hnim,cb,T,hg,hbs,hcl0,hcr,hca0⟩:=(hI.hp id hs0 hh).read hph
             have hold:AJ (R1 G W) (hs0.take (len*ye.size)) (cb.toList.take (len*ye.size)):=by
               have:=hcr.take (len*ye.size)
               rwa [List.take_take,Nat.min_eq_left hfit] at this
             have hallnew:(hs0.take (len*ye.size)++cs).all V.isCell=true:=by
               simp only [List.all_append,Bool.and_eq_true];exact ⟨List.all_eq_true.2 fun y hy=>List.all_eq_true.1 hca0 y (List.mem_of_mem_take hy),hall⟩
             have hoknew:∀ y∈hs0.take (len*ye.size)++cs,A1 U AR y:=fun y hy=>by
               rcases List.mem_append.1 hy with hy | hy
               . exact JT hcr (hI.wh id hs0 hh) y (List.mem_of_mem_take hy)
               . exact hxok y hy
             have hlen:(hs0.take (len*ye.size)++cs).length=(len+m)*ye.size:=by
               simp [Nat.add_mul];omega
             rw [hsa,hxa] at hrun;by_cases hm0:m=0
             . subst hm0
               have hcs:cs=[]:=List.eq_nil_of_length_eq_zero (by rw [hcsl,hxl];simp);subst hcs;have h2:=hI.trunc hh hph.2 (len*ye.size);obtain ⟨G',hI',e1,e2,e3,hchg⟩:=h2.rename (cs:=hs0.take (len*ye.size)) (b:=b) (id:=id) (by simp [upd]) hph hb hU hb';refine ⟨_, .slice (some ⟨G.β id,o',none⟩) len cap,W,G',hrun _ _ (Mm ht hye W _ len cap hcap ao capx), .inl rfl,?_,⟨by simpa using hml, .inr ⟨e3,o',cap,by rw [e1];rfl,by simpa using hcap,fun h0=>?_⟩⟩,hb'⟩
               . have e:upd (upd (upd st.H id (some (hs0.take (len*ye.size)))) id none) b (some (hs0.take (len*ye.size)))=upd (upd st.H id none) b (some (hs0.take (len*ye.size)++[])):=by
                   funext i;simp only [upd,List.append_nil];by_cases h1:i=b<;>by_cases h2:i=id<;>simp_all
                 have:=hI';rw [e] at this;exact this
               . rw [e2];exact hoff h0
             by_cases hroom:len+m<=cap
             . obtain ⟨rfl,hb2⟩:=hoff (by omega)
               have hmul:(len+m)*ye.size<=cap*ye.size:=Nat.mul_le_mul_right _ hroom;have hmul2:(len+m)*ye.size=len*ye.size+m*ye.size:=Nat.add_mul _ _ _;have hr:=Ml (P:=P) (ty:=o.type) ht hye W (G.β id) 0 len cap cb T hg m ao capx xs hxl hxc h1 hroom (by omega)
               obtain ⟨h2,_⟩:=hI.put hh hph (cs:=hs0.take (len*ye.size)++cs) (hg.set (d:=(cb.toList.take (0+len*ye.size)++xs++cb.toList.drop (0+len*ye.size+xs.length)).toArray) (by simp;omega)) (fun k hk=>setRow_other W _ k _ hk) (by simp) rfl rfl rfl
                 (by simp;omega) (by rw [hlen];simp;omega) (by
                   rw [hlen,hmul2,<-hxl]
                   have:(cb.toList.take (0+len*ye.size)++xs++cb.toList.drop (0+len*ye.size+xs.length)).toArray.toList.take (len*ye.size+xs.length)=cb.toList.take (len*ye.size)++xs:=by
                     simp only [Nat.zero_add];rw [List.take_append,List.take_of_length_le (by simp;omega)];simp only [List.length_append,List.length_take,Array.length_toList];rw [show len*ye.size+xs.length-(min (len*ye.size) cb.size+xs.length)=0 by omega];simp
                   rw [this];exact hold.append hxr) hallnew hoknew
               obtain ⟨G',hI',e1,e2,e3,hchg⟩:=h2.rename (cs:=hs0.take (len*ye.size)++cs) (b:=b) (id:=id) (by simp [upd]) hph hb hU hb';refine ⟨_,_,_,G',hrun _ _ hr, .inl rfl,?_,⟨hml, .inr ⟨e3,0,cap,by rw [e1],hroom,fun _=>⟨rfl,by rw [e2];omega⟩⟩⟩,hb'⟩
               have e:upd (upd (upd st.H id (some (hs0.take (len*ye.size)++cs))) id none) b (some (hs0.take (len*ye.size)++cs))=upd (upd st.H id none) b (some (hs0.take (len*ye.size)++cs)):=by
                 funext i;simp only [upd];by_cases h1:i=b<;>by_cases h2:i=id<;>simp_all
               have:=hI';rw [e] at this;exact this
             . have hco:∀ (j:Nat) z,(cb.toList.take (len*ye.size))[j]?= some z->∃ ad,(some ⟨G.β id,o',none⟩:Option Addr)=some ad/\W.cell? (ad.add j)=some z:=fun j z hz=>by
                 refine ⟨_,rfl,?_⟩;rw [List.getElem?_take] at hz;split at hz
                 . rename_i hj
                   have hlp:0<cap:=by
                     rcases Nat.eq_zero_or_pos len with h0 | h0
                     . subst h0;simp at hj
                     . omega
                   obtain ⟨rfl,_⟩:=hoff hlp;rw [Bc];obtain ⟨fz,hg1,_⟩:=hg;simp only [World.cell?,hg1,Nat.zero_add];simpa using hz
                 . cases hz
               obtain ⟨z,nc,hnc,hzl,hr⟩:=H9 (P:=P) (ty:=o.type) ht hye W (some ⟨G.β id,o',none⟩) len cap (cb.toList.take (len*ye.size)) (by simp;omega) hco m ao capx xs hxl hxc (by omega) hml hbb;have hmul2:(len+m)*ye.size=len*ye.size+m*ye.size:=Nat.add_mul _ _ _
               obtain ⟨G',hI',e1,e2,e3,_⟩:=hI.alloc (W1:=W.drew) (T:=el) hb hU hb' (cs:=hs0.take (len*ye.size)++cs) (c:=((cb.toList.take (len*ye.size)).toArray++xs.toArray++z.toArray)) rfl rfl rfl rfl (by rw [hlen];simp;omega) (by
                   rw [hlen,hmul2,<-hxl]
                   have:((cb.toList.take (len*ye.size)).toArray++xs.toArray++z.toArray).toList.take (len*ye.size+xs.length)=cb.toList.take (len*ye.size)++xs:=by
                     simp only [Array.toList_append];rw [List.take_append,List.take_of_length_le (by simp;omega)];simp only [List.length_append,List.length_take,Array.length_toList];rw [show len*ye.size+xs.length-(min (len*ye.size) cb.size+xs.length)=0 by omega];simp
                   rw [this];exact hold.append hxr) hallnew hoknew
               have h3:=hI'.drop id;refine ⟨_,_,_,G',hrun _ _ hr, .inl rfl,?_,⟨hml, .inr ⟨e3,0,nc,by rw [e1],hnc,fun _=>⟨rfl,?_⟩⟩⟩,hb'⟩
               . have e:upd (upd st.H b (some (hs0.take (len*ye.size)++cs))) id none=upd (upd st.H id none) b (some (hs0.take (len*ye.size)++cs)):=by
                   funext i;simp only [upd];by_cases h1:i=b<;>by_cases h2:i=id<;>simp_all
                 have:=h3;simp only at this;rw [e] at this;exact this
               . rw [e2]
                 have e4:nc*ye.size=(len+m)*ye.size+(nc-(len+m))*ye.size:=by rw [<-Nat.add_mul];congr 1;omega
                 simp only [Array.size_append,List.size_toArray,hzl,hxl,List.length_take,Array.length_toList];omega
       . cases he
end Go.Psl
namespace Go.Psl
variable {P:Program} {Γ:Tys} {eqs:Eqs} {E:Ent} {U U':Nat->Prop} {G:Gh} {st:St} {a:Act} {W:World}
theorem dy:RV G W (.tup []) undef:=⟨#[],rfl,trivial⟩
theorem Ip {n:Nat} {zs:List V}:(AM n zs).length=n*zs.length:=by
 unfold AM;rw [B3 (sz:=zs.length) _ (fun e he=>by rw [(List.eq_of_mem_replicate he)])];simp
theorem D5 {n:Nat} {zs:List V} {x:V} (h:x∈AM n zs):x∈zs:=by
 simp only [AM,List.mem_flatten] at h;obtain ⟨l,hl,hx⟩:=h
 rwa [List.eq_of_mem_replicate hl] at hx
theorem sZ {n:Nat} {el:TypeId} {ye:Ty} (hTe:C1 P el ye) (hpos:0<ye.size) {z:Value} (hzc:z.cells.toList=ye.zero):AJ (R1 G W) (AM n (ye.zero.map cV)) (Builtin.zeroCells z.cells n).toList:=by
 have hzl:z.cells.size=ye.size:=by rw [<-Array.length_toList,hzc,hTe.zl]
 have hsz0:(Builtin.zeroCells z.cells n).size=n*ye.size:=by simp [Builtin.zeroCells,hzl]
 refine AJ.of_get ?_ fun i x y hx hy=>?_
 . rw [Ip];simp [hTe.zl,hsz0]
 . have hi:i<n*ye.size:=by
     have:=(List.getElem?_eq_some_iff.1 hy).1;rw [Array.length_toList,hsz0] at this;exact this
   unfold AM at hx;rw [CI hpos _ (fun e he=>by rw [(List.eq_of_mem_replicate he)];simp [hTe.zl])] at hx;have h1:i/ye.size<n:=by rw [Nat.div_lt_iff_lt_mul hpos];exact hi
   rw [List.getElem?_replicate,if_pos h1] at hx;simp only [Option.bind_some,List.getElem?_map] at hx;have hm:i%ye.size<ye.size:=Nat.mod_lt _ hpos;obtain ⟨w0,hw0⟩:∃ w0,z.cells[i%ye.size]?= some w0:=⟨z.cells[i%ye.size]'(by rw [hzl];exact hm),Array.getElem?_eq_getElem _⟩
   have hzi:ye.zero[i%ye.size]?= some w0:=by rw [<-hzc,Array.getElem?_toList];exact hw0
   rw [hzi] at hx;simp only [Option.map_some,Option.some.injEq] at hx;subst hx
   have hy2:y=w0:=by
     have hlt:i<n*z.cells.size:=by rw [hzl];exact hi
     simp [Builtin.zeroCells,getElem!_def,hzl] at hy;obtain ⟨k,hk,hy⟩:=hy;rw [List.getElem?_range (by rw [hzl] at hlt;exact hlt)] at hk;cases hk;rw [hw0] at hy;exact hy.symm
   subst hy2;exact RD.lit _ (List.all_eq_true.1 hTe.zf _ (List.mem_of_getElem? hzi))
theorem WL (hΓ:GOk P Γ) (hI:Inv E U G st a W) {o:Oper} {c:Call} {x:Operand} {t:TypeId} (ho:o.op= .call c) (hc:c.callee= .builtin .clear) (ha:c.args.toList=[x]) (ht:c.argTypes.toList=[t]) {v:V} {e:Eff}
   (he:d8 Γ st.H t (evF st.fr x)=some (v,e)):Out P E U st a W o v e:=by
 obtain ⟨hx,_⟩:=hI.op x
 have hrun:∀ W',(Builtin.clear_ #[t] o.type #[a.eval x]).run P W= .ok undef W'->(execOp a.eval o).run P W= .ok (.value undef) W':=fun W' hz=>by
   have h1:c.args= #[x]:=Array.ext' (by simpa using ha);have h2:c.argTypes= #[t]:=Array.ext' (by simpa using ht);simp [execOp,ho,resolve,hc,invoke,builtin,h1,h2,hz]
 unfold d8 at he;cases hty:Γ t with
 | none=>simp [hty] at he
 | some ty=>
   simp only [hty,Option.bind_some] at he;have hT:=hΓ t ty hty;split at he<;>first | (cases he;done) | skip
   rename_i el hsh;cases hel:Γ el with
   | none=>simp [hel] at he
   | some ye=>
     simp only [hel,Option.bind_some] at he;have hTe:=hΓ el ye hel;split at he
     . rename_i h1
       cases he;rw [h1] at hx;have hxa:=BO hx;rw [hxa] at hrun;refine Out.pure hI (hrun W ?_) dy (fun _ h=>by cases h);simp [Builtin.clear_,run_underlying (BH hT hsh)];rfl
     . rename_i id off len sz h1
       rw [h1] at hx;split at he
       . rename_i h0
         cases he;refine Out.pure hI (hrun W ?_) dy (fun _ h=>by cases h);subst h0;rcases hx.2 with ⟨_,_,hxa⟩ | ⟨_,o',cap,hxa,_⟩<;>rw [hxa]
         . simp [Builtin.clear_,run_underlying (BH hT hsh)];rfl
         . simp [Builtin.clear_,run_underlying (BH hT hsh)];rfl
       . rename_i h0
         split at he
         . rename_i hs
           obtain ⟨hsz,hpos⟩:=hs;cases hh:st.H id with
           | none=>simp [hh] at he
           | some cs=>
             simp only [hh,Option.bind_some] at he;split at he
             . rename_i hle
               cases he;rcases hx.2 with ⟨_,h,_⟩ | ⟨hph,o',cap,hxa,hcap,ho'⟩
               . exact absurd h h0
               obtain ⟨rfl,hbd⟩:=ho' (by omega);obtain ⟨hnim,c,T,hb,hbs,hcl,hcr,hca⟩:=(hI.hp id cs hh).read hph;obtain ⟨z,hz,hzc⟩:=hTe.zeroValue W;have hrel:AJ (R1 G W) (AM len (ye.zero.map cV)) (Builtin.zeroCells z.cells len).toList:=sZ hTe (by omega) hzc;have hlen:=hrel.length;have hlr:(AM len (ye.zero.map cV)).length=len*sz:=by rw [Ip,List.length_map,hTe.zl,hsz]
               have hone:∀ x∈(Builtin.zeroCells z.cells len).toList,x.oneCell'=true:=GH hrel (List.all_eq_true.2 fun x hx=>List.all_eq_true.1 (Er ye.zero) x (D5 hx));have hst:=ALX P (G.β id) o' T (Builtin.zeroCells z.cells len).toList 0 c W hb (by omega) hone
               obtain ⟨hI',hchg⟩:=hI.put hh hph (cs:=AA cs o' (AM len (ye.zero.map cV))) (c:=(c.toList.take o'++(Builtin.zeroCells z.cells len).toList++c.toList.drop (o'+(Builtin.zeroCells z.cells len).toList.length)).toArray) (T:=T)
                 (W':=W.setRow (G.β id) (c.toList.take o'++(Builtin.zeroCells z.cells len).toList++c.toList.drop (o'+(Builtin.zeroCells z.cells len).toList.length)).toArray)
                 (hb.set (by simp at*;omega)) (fun k hk=>setRow_other W _ k _ hk) (by simp) rfl rfl rfl
                 (by simp at*;omega) (by simp [AA] at*;omega)
                 (by simpa using sF hcr (by simpa using hcl) hrel o' (by omega)) (HT o' hca (List.all_eq_true.2 fun x hx=>List.all_eq_true.1 (Er ye.zero) x (D5 hx))) (HU o' (JT hcr (hI.wh id cs hh)) (fun x hx=>Ie _ x (D5 hx)))
               refine ⟨.value undef,undef,_,G,hrun _ ?_, .inl rfl,hI',dy,fun _ h=>by cases h⟩;rw [hxa];simp only [Nat.add_zero] at hst;obtain ⟨len',rfl⟩:∃ l,len=l+1:=⟨len-1,by omega⟩
               generalize (c.toList.take o'++(Builtin.zeroCells z.cells (len'+1)).toList++c.toList.drop (o'+(Builtin.zeroCells z.cells (len'+1)).toList.length)).toArray=cc at hst ⊢
               simp [Builtin.clear_,run_underlying (BH hT hsh),hz];rw [hst];rfl
             . cases he
         . cases he
     . cases he
end Go.Psl
namespace Go.Psl
variable {P:Program} {Γ:Tys} {eqs:Eqs} {E:Ent} {U U':Nat->Prop} {G:Gh} {st:St} {a:Act} {W:World}
theorem cZ (hΓ:GOk P Γ) (hI:Inv E U G st a W) {o:Oper} {c:Call} {x:Operand} {t:TypeId} (ho:o.op= .call c) (hc:c.callee= .builtin .cap) (ha:c.args.toList=[x]) (ht:c.argTypes.toList=[t]) {v:V} {e:Eff}
   (he:Wg Γ t (evF st.fr x)=some (v,e)):Out P E U st a W o v e:=by
 obtain ⟨hx,_⟩:=hI.op x
 have hrun:∀ z,(Builtin.cap_ #[t] o.type #[a.eval x]).run P W= .ok z W->(execOp a.eval o).run P W= .ok (.value z) W:=fun z hz=>by
   have h1:c.args= #[x]:=Array.ext' (by simpa using ha);have h2:c.argTypes= #[t]:=Array.ext' (by simpa using ht);simp [execOp,ho,resolve,hc,invoke,builtin,h1,h2,hz]
 unfold Wg at he;cases hty:Γ t with
 | none=>simp [hty] at he
 | some ty=>
   simp only [hty,Option.bind_some] at he;have hT:=hΓ t ty hty;split at he<;>first | (cases he;done) | skip
   rename_i el u n cc hsh h1;cases he;rw [h1] at hx;have hfl:=Dv hx;have hxa:=BO hx;simp only [CU,Bool.and_eq_true,beq_iff_eq,Option.isNone_iff_eq_none] at hfl;obtain ⟨⟨rfl,rfl⟩,rfl⟩:=hfl;rw [hxa] at hrun;refine Out.pure hI (hrun (.int .i64 0) ?_) (BK rfl) trivial;simp [Builtin.cap_,run_underlying (BH hT hsh),goInt]
theorem iR {t t' ty e:TypeId} {y:Ty} {k k':IntKind} (ht:P.underlying t=some (.slice e)) (ht':P.underlying t'=some (.int k')) (hy:C1 P e y) (w:World) (n:Nat) (hn:0<n) (hpos:0<y.size) (h63:n<=maxL) (hb:n*y.bytes<=Fh):
   ∃ (zv:Value) (newCap:Nat),zv.cells.toList=y.zero/\n<=newCap/\(Builtin.append_ #[t,t'] ty #[.slice none 0 0, .int k n]).run P w= .ok (.slice (some ⟨w.heap.size,0,none⟩) n newCap) (w.drew.alloc (.cells (Builtin.zeroCells zv.cells n++Builtin.zeroCells zv.cells (newCap-n)) e)):=by
 obtain ⟨i,zv,hi,hs,hby,hz,hzc⟩:=hy.info
 have hwr:IntKind.i64.wrap (n:Int)=n:=by
   have:∀ m:Int,m=(n:Int)%18446744073709551616->(if m>=9223372036854775808 then m-18446744073709551616 else m)=(n:Int):=fun m hm=>by unfold maxL at h63;split<;>omega
   simpa [IntKind.wrap,IntKind.bits,IntKind.signed] using this _ rfl
 have h1:¬ ((n:Int)<0):=by omega
 have h2:¬ (281474976710656<(n:Int)*(i.bytes:Int)):=by
   rw [hby];unfold Fh at hb;have:(n:Int)*(y.bytes:Int)=((n*y.bytes:Nat):Int):=by simp
   rw [this];omega
 have h3:¬ (n<=0):=by omega
 have hnle:¬ ((n:Int)<=0):=by omega
 have h63':¬ (9223372036854775807<(n:Int)):=by unfold maxL at h63;omega
 have hfit:=growslice_fits (need:=n) (old:=0) (by omega) hb;have hfit':¬ (281474976710656<Builtin.nextslicecap n 0*i.bytes):=by rw [hby];omega
 refine ⟨zv,grownCap w n 0 e,hzc,grownCap_ge w n 0 e,?_⟩;have hsz:(sizeOf e).run P w= .ok i.size w:=by simp [sizeOf,typeInfo,hi]
 have hsz0:¬ n*i.size=0:=by rw [hs];exact Nat.ne_of_gt (Nat.mul_pos hn hpos)
 have hn0:¬ n=0:=by omega
 have hs0:¬ i.size=0:=by omega
 simp [Builtin.append_,asInt,asIntOf,Builtin.firstCells,hsz0,hn0,run_underlying ht,run_underlying ht',hsz,typeInfo,hi,Builtin.lenOf,hwr,h1,h2,h63',hfit',Question.forced,hz,zeroValue,newRow,grownCap]
theorem cd {t t' ty e:TypeId} {y:Ty} {k k':IntKind} (ht:P.underlying t=some (.slice e)) (ht':P.underlying t'=some (.int k')) (hy:C1 P e y) (w:World):
   (Builtin.append_ #[t,t'] ty #[.slice none 0 0, .int k 0]).run P w= .ok (.slice none 0 0) w:=by
 obtain ⟨i,zv,hi,hs,hby,hz,hzc⟩:=hy.info;have hwr:IntKind.i64.wrap 0=0:=by decide
 have hsz:(sizeOf e).run P w= .ok i.size w:=by simp [sizeOf,typeInfo,hi]
 simp [Builtin.append_,asInt,asIntOf,run_underlying ht,run_underlying ht',hsz,typeInfo,hi,hwr]
theorem ci (hΓ:GOk P Γ) (hI:Inv E U G st a W) {o:Oper} {c:Call} {t t':TypeId} {s x:Operand} (ho:o.op= .call c) (hc:c.callee= .builtin .append) (hca:c.args.toList=[s,x]) (hct:c.argTypes.toList=[t,t']) {b:Nat} (hb:¬ U b) (hU:∀ i,U i->U' i) (hb':U' b) {v:V} {e:Eff}
   (he:Wh Γ b t t' (evF st.fr s) (evF st.fr x)=some (v,e)):Out P E U' st a W o v e:=by
 obtain ⟨hs,hsw⟩:=hI.op s;obtain ⟨hx,hxw⟩:=hI.op x
 have hrun:∀ z W',(Builtin.append_ #[t,t'] o.type #[a.eval s,a.eval x]).run P W= .ok z W'->(execOp a.eval o).run P W= .ok (.value z) W':=fun z W' hz=>by
   have h1:c.args= #[s,x]:=Array.ext' (by simpa using hca);have h2:c.argTypes= #[t,t']:=Array.ext' (by simpa using hct);simp [execOp,ho,resolve,hc,invoke,builtin,h1,h2,hz]
 unfold Wh at he;cases hty:Γ t with
 | none=>simp [hty] at he
 | some ty=>
   simp only [hty,Option.bind_some] at he;split at he<;>first | (cases he;done) | skip
   rename_i el hsh;cases hel:Γ el with
   | none=>simp [hel] at he
   | some ye=>
     simp only [hel,Option.bind_some] at he;cases hti:Γ t' with
     | none=>simp [hti] at he
     | some ti=>
       simp only [hti,Option.bind_some] at he;split at he<;>first | (cases he;done) | skip
       rename_i k' u nn cc kk n hshi h1 h2;split at he
       rotate_left
       . cases he
       rename_i hcond;obtain ⟨hpos,hn0,hmb,hml⟩:=hcond;cases he;rw [h1] at hs;rw [h2] at hx;have hfl:=Dv hs;have hsa:=BO hs;have hxa:=BO hx;simp only [CU,Bool.and_eq_true,beq_iff_eq,Option.isNone_iff_eq_none] at hfl;obtain ⟨⟨rfl,rfl⟩,rfl⟩:=hfl;have ht:=BH (hΓ t ty hty) hsh;have ht':=So (hΓ t' ti hti) hshi;have hye:=hΓ el ye hel;rw [hsa,hxa] at hrun;obtain ⟨m,rfl⟩:∃ m:Nat,n=m:=⟨n.toNat,by omega⟩
       simp only [Int.toNat_natCast] at hmb hml ⊢;by_cases hm:m=0
       . subst hm
         obtain ⟨G',hI',hph,_⟩:=hI.phantom hb hU hb';refine ⟨_, .slice none 0 0,W,G',hrun _ _ (cd ht ht' hye W), .inl rfl,?_,⟨by simp [maxL], .inl ⟨hph,rfl,rfl⟩⟩,hb'⟩;have e0:AM 0 (ye.zero.map cV)=[]:=rfl;rw [e0];exact hI'
       . obtain ⟨zv,nc,hzc,hnc,hr⟩:=iR (k:=kk) (ty:=o.type) ht ht' hye W m (by omega) hpos hml hmb
         have hrel:AJ (R1 G W) (AM m (ye.zero.map cV)) (Builtin.zeroCells zv.cells m).toList:=sZ hye hpos hzc;have hzl:zv.cells.size=ye.size:=by rw [<-Array.length_toList,hzc,hye.zl]
         have hsz0:(Builtin.zeroCells zv.cells m).size=m*ye.size:=by simp [Builtin.zeroCells,hzl]
         have hsz1:(Builtin.zeroCells zv.cells (nc-m)).size=(nc-m)*ye.size:=by simp [Builtin.zeroCells,hzl]
         have hz0:(Builtin.zeroCells zv.cells m).toList.length=m*ye.size:=by rw [Array.length_toList];exact hsz0
         have hrl:(AM m (ye.zero.map cV)).length=m*ye.size:=by rw [Ip];simp [hye.zl]
         have hall:(AM m (ye.zero.map cV)).all V.isCell=true:=List.all_eq_true.2 fun x hx=>List.all_eq_true.1 (Er ye.zero) x (D5 hx)
         have hok:∀ y∈AM m (ye.zero.map cV),A1 U AR y:=fun y hy=>by
           have:=D5 hy;obtain ⟨z,_,rfl⟩:=List.mem_map.1 this;exact trivial
         obtain ⟨G',hI',e1,e2,e3,_⟩:=hI.alloc (W1:=W.drew) (T:=el) hb hU hb' (cs:=AM m (ye.zero.map cV)) (c:=Builtin.zeroCells zv.cells m++Builtin.zeroCells zv.cells (nc-m)) rfl rfl rfl rfl (by rw [hrl,Array.size_append,hsz0];omega) (by
           rw [Array.toList_append,List.take_append,List.take_of_length_le (by rw [hz0,hrl];omega)];rw [show (AM m (ye.zero.map cV)).length-(Builtin.zeroCells zv.cells m).toList.length=0 by rw [hz0,hrl];omega];simpa using hrel) hall hok
         refine ⟨_,_,_,G',hrun _ _ hr, .inl rfl,hI',⟨hml, .inr ⟨e3,0,nc,by rw [e1],hnc,fun _=>⟨rfl,?_⟩⟩⟩,hb'⟩;rw [e2,Array.size_append,hsz0,hsz1];have e4:nc*ye.size=m*ye.size+(nc-m)*ye.size:=by rw [<-Nat.add_mul];congr 1;omega
         omega
end Go.Psl
namespace Go.Psl
variable {P:Program} {Γ:Tys} {eqs:Eqs} {E:Ent} {U U':Nat->Prop} {G:Gh} {st:St} {a:Act} {W:World}
theorem jW {n:Int} (h0:0<=n) (h1:n<=maxL):IntKind.i64.wrap n=n:=by
 have:∀ m:Int,m=n%18446744073709551616->(if m>=9223372036854775808 then m-18446744073709551616 else m)=n:=fun m hm=>by unfold maxL at h1;split<;>omega
 simpa [IntKind.wrap,IntKind.bits,IntKind.signed] using this _ rfl
theorem iL {t e:TypeId} {y:Ty} {k k':IntKind} (ht:P.underlying t=some (.slice e)) (hy:C1 P e y) (w:World) (n m:Nat) (hnm:n<=m) (h63:m<=maxL) (hb:m*y.bytes<=Fh):
   ∃ (zv:Value),zv.cells.toList=y.zero/\(Instr.makeSlice t (.int k n) (.int k' m)).run P w= .ok (.slice (some ⟨w.heap.size,0,none⟩) n m) (w.alloc (.cells ((Array.range (m*y.size)).map (zv.cells[· % zv.cells.size]!)) e)):=by
 obtain ⟨i,zv,hi,hs,hby,hz,hzc⟩:=hy.info;have hwn:=jW (n:=(n:Int)) (by omega) (by omega);have hwm:=jW (n:=(m:Int)) (by omega) (by omega);have hsz:(sizeOf e).run P w= .ok i.size w:=by simp [sizeOf,typeInfo,hi]
 have h2:¬ (281474976710656<(i.bytes:Int)*(m:Int)):=by
   rw [hby];unfold Fh at hb;have:(y.bytes:Int)*(m:Int)=((m*y.bytes:Nat):Int):=by simp [Int.mul_comm]
   rw [this];omega
 have h3:¬ ((m:Int)<0):=by omega
 have h4:¬ ((n:Int)<0):=by omega
 have h5:¬ ((m:Int)<(n:Int)):=by omega
 have hroom:¬ (roomBytes<m*i.bytes):=by
   rw [hby];unfold Fh at hb;unfold roomBytes;omega
 refine ⟨zv,hzc,?_⟩;have hzv:(zeroValue e).run P w= .ok zv w:=by simp [zeroValue,typeInfo,hi,hz]
 by_cases h0:m*i.size=0
 . have h0':m*y.size=0:=by rw [<-hs];exact h0
   simp [Instr.makeSlice,asInt,asIntOf,run_underlying ht,typeInfo,hi,hwn,hwm,h2,h3,h4,h5,hsz,h0,h0',newRow,askRoom];have hr0:∀ g:Nat->Value,(Array.range 0).map g= #[]:=fun g=>Array.ext' (by simp)
   rw [hr0,hr0]
 . simp [Instr.makeSlice,asInt,asIntOf,run_underlying ht,typeInfo,hi,hwn,hwm,h2,h3,h4,h5,hsz,h0,hzv,newRow,askRoom]
   rw [hs]
theorem iM (hΓ:GOk P Γ) (hI:Inv E U G st a W) {o:Oper} {t:TypeId} {l c:Operand} (ho:o.op= .makeSlice t l c) {b:Nat} (hb:¬ U b) (hU:∀ i,U i->U' i) (hb':U' b) {v:V} {e:Eff}
   (he:Wi Γ b t (evF st.fr l) (evF st.fr c)=some (v,e)):Out P E U' st a W o v e:=by
 obtain ⟨hl,_⟩:=hI.op l;obtain ⟨hc,_⟩:=hI.op c;unfold Wi at he;cases hty:Γ t with
 | none=>simp [hty] at he
 | some ty=>
   simp only [hty,Option.bind_some] at he;split at he<;>first | (cases he;done) | skip
   rename_i el hsh;cases hel:Γ el with
   | none=>simp [hel] at he
   | some ye=>
     simp only [hel,Option.bind_some] at he;split at he<;>first | (cases he;done) | skip
     rename_i k n k' m h1 h2;split at he
     rotate_left
     . cases he
     rename_i hcond;obtain ⟨hpos,hn0,hnm,hmb,hml⟩:=hcond;cases he;rw [h1] at hl;rw [h2] at hc;have hla:=BO hl;have hca:=BO hc;have ht:=BH (hΓ t ty hty) hsh;have hye:=hΓ el ye hel;obtain ⟨n,rfl⟩:∃ q:Nat,n=q:=⟨n.toNat,by omega⟩
     obtain ⟨m,rfl⟩:∃ q:Nat,m=q:=⟨m.toNat,by omega⟩
     simp only [Int.toNat_natCast] at hmb ⊢;obtain ⟨zv,hzc,hr⟩:=iL (k:=k) (k':=k') ht hye W n m (by omega) (by omega) hmb;have hzl:zv.cells.size=ye.size:=by rw [<-Array.length_toList,hzc,hye.zl]
     have hrl:(AM n (ye.zero.map cV)).length=n*ye.size:=by rw [Ip];simp [hye.zl]
     have hrel:AJ (R1 G W) (AM n (ye.zero.map cV)) (Builtin.zeroCells zv.cells n).toList:=sZ hye hpos hzc;have hcs:((Array.range (m*ye.size)).map (zv.cells[· % zv.cells.size]!)).size=m*ye.size:=by simp
     have hle:n*ye.size<=m*ye.size:=Nat.mul_le_mul_right _ (by omega)
     have htake:((Array.range (m*ye.size)).map (zv.cells[· % zv.cells.size]!)).toList.take (n*ye.size)=(Builtin.zeroCells zv.cells n).toList:=by
       simp only [Builtin.zeroCells,Array.toList_map,Array.toList_range,hzl,<-List.map_take,List.take_range,Nat.min_eq_left hle]
     have hall:(AM n (ye.zero.map cV)).all V.isCell=true:=List.all_eq_true.2 fun x hx=>List.all_eq_true.1 (Er ye.zero) x (D5 hx)
     have hok:∀ y∈AM n (ye.zero.map cV),A1 U AR y:=fun y hy=>by
       have:=D5 hy;obtain ⟨z,_,rfl⟩:=List.mem_map.1 this;exact trivial
     obtain ⟨G',hI',e1,e2,e3,_⟩:=hI.alloc (W1:=W) (T:=el) hb hU hb' (cs:=AM n (ye.zero.map cV)) (c:=(Array.range (m*ye.size)).map (zv.cells[· % zv.cells.size]!)) rfl rfl rfl rfl (by rw [hrl,hcs];exact hle) (by rw [hrl,htake];exact hrel) hall hok;refine ⟨_,_,_,G',?_, .inl rfl,hI',⟨by omega, .inr ⟨e3,0,m,by rw [e1],by omega,fun _=>⟨rfl,?_⟩⟩⟩,hb'⟩
     . simp only [execOp,ho,hla,hca,hr,Sem.run_bind,Result.andThen_ok]
       rfl
     . rw [e2,hcs];omega
end Go.Psl
