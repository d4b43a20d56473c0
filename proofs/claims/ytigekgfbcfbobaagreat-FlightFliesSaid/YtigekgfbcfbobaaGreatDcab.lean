/- Own lemmas, used by the last text. Conditions: those that each theorem states. -/
import Derived.Test.YtigekgfbcfbobaaGreatDcaa
set_option maxRecDepth 200000
set_option maxHeartbeats 8000000
namespace Go.Psl
variable {P:Program} {Γ:Tys} {eqs:Eqs} {E:Ent} {U U':Nat->Prop} {G:Gh} {st:St} {a:Act} {W:World}
def EB (P:Program) (eqs:Eqs):Prop:=∀ t ks,eqs t=some ks->Bn P 8 t=some ks/\P.eqGuardType P.depth t=false/\∃ fs,P.underlying t=some (.struct fs)
theorem Ot {t:TypeId} {y:Ty} (h:C1 P t y) (hs:y.sh= .bool):P.underlying t=some .bool:=by
 obtain ⟨d,hd,h⟩:=h.und;simp only [Ix,hs] at h;split at h<;>first | (simp_all;done) | skip
theorem Yw {op:BinOp} {t:TypeId} {k k':IntKind} {x y:Int} {v:Value} (h:CJ op k k' x y=some v) (w:World):(binOp op t (.int k x) (.int k' y)).run P w= .ok v w/\CU v=true:=by
 unfold CJ at h;split at h
 . split at h
   . rename_i hc;cases h
     rw [binOp_shl,shift_shl k k' x y hc.1 hc.2];exact ⟨rfl,rfl⟩
   . cases h
 . split at h
   . rename_i hc;cases h
     rw [binOp_shr,shift_shr k k' x y hc.1 hc.2];exact ⟨rfl,rfl⟩
   . cases h
 . split at h
   . rename_i hk;subst hk
     split at h<;>try (cases h;done)
     . cases h;exact ⟨by simp [binOp,Op.intArith],rfl⟩
     . cases h;exact ⟨by simp [binOp,Op.intArith],rfl⟩
     . cases h;exact ⟨by simp [binOp,Op.intArith],rfl⟩
     . split at h
       . cases h
       . rename_i hz;cases h;exact ⟨by simp [binOp,Op.intDiv,hz],rfl⟩
     . split at h
       . cases h
       . rename_i hz;cases h;exact ⟨by simp [binOp,Op.intDiv,hz],rfl⟩
     . cases h;exact ⟨by rw [binOp_and,intBits_and];rfl,rfl⟩
     . cases h;exact ⟨by rw [binOp_or,intBits_or];rfl,rfl⟩
     . cases h;exact ⟨by rw [binOp_xor,intBits_xor];rfl,rfl⟩
     . cases h;exact ⟨by rw [binOp_andNot,intBits_andNot];rfl,rfl⟩
     . cases h;exact ⟨by rw [binOp_eql];rfl,rfl⟩
     . cases h;exact ⟨by rw [binOp_neq];rfl,rfl⟩
     . cases h;exact ⟨by rw [binOp_lss];rfl,rfl⟩
     . cases h;exact ⟨by rw [binOp_leq];rfl,rfl⟩
     . cases h;exact ⟨by rw [binOp_gtr];rfl,rfl⟩
     . cases h;exact ⟨by rw [binOp_geq];rfl,rfl⟩
   . cases h
theorem EI (op:BinOp) (t:TypeId) (x y:Operand) (u w:Value) (W:World) (hu:u.oneCell'=true) (hn:u≠ .nilIface):(eqGuard op t x y u w).run P W= .ok () W:=by
 unfold eqGuard;cases u<;>first | (simp [Value.oneCell'] at hu;done) | (exact absurd rfl hn) | (cases op<;>cases w<;>rfl)
theorem TH {t:TypeId} {e:Bool} {y:Ty} (h:C1 P t y) (hs:y.sh= .ifc e):∃ ms,P.underlying t=some (.interface ms)/\e=ms.isEmpty:=by
 obtain ⟨d,hd,h⟩:=h.und;simp only [Ix,hs] at h;split at h<;>first | (simp_all;done) | skip
theorem Yx {G:Gh} {W:World} {t:TypeId} {ag:Bool} {cs:List D} {x:Value} (h:RV G W (.d (.ifc t ag cs)) x):∃ v,x= .iface t v/\((ag=true/\∃ cv:Array Value,v= .agg cv/\AJ (RV G W) (cs.map .d) cv.toList)\/(ag=false/\∃ c,cs=[c]/\RV G W (.d c) v)):=by
 have h:RD G.Im W (.ifc t ag cs) x:=h;cases h with
 | ifc _ _ cv hl hr=>
   refine ⟨_,rfl, .inl ⟨rfl,cv,rfl,AJ.of_get (by simpa using hl.symm) fun i y z hy hz=>?_⟩⟩;rw [List.getElem?_map] at hy;cases hc:cs[i]? with
   | none=>rw [hc] at hy;cases hy
   | some c=>
     rw [hc] at hy;cases hy;exact hr i c z hc (by rw [<-Array.getElem?_toList];exact hz)
 | ifc1 _ c v hr=>exact ⟨v,rfl, .inr ⟨rfl,c,rfl,hr⟩⟩
theorem Yy (hΓ:GOk P Γ) (hE:EB P eqs) (hI:Inv E U G st a W) {o:Oper} {op:BinOp} {t t':TypeId} {x y:Operand} (ho:o.op= .binOp op t x y t') {v:V} {e:Eff} (he:FV Γ eqs op t (evF st.fr x) (evF st.fr y)=some (v,e)):
   Out P E U st a W o v e:=by
 obtain ⟨hx,_⟩:=hI.op x;obtain ⟨hy,_⟩:=hI.op y;unfold FV at he;split at he
 . rename_i k i k' j h1 h2
   rw [h1] at hx;rw [h2] at hy;have hx:=Cg hx;have hy:=Cg hy;cases hb:CJ op k k' i j with
   | none=>simp [hb] at he
   | some r=>
     simp only [hb,Option.map_some] at he;cases he;obtain ⟨hr,hf⟩:=Yw (P:=P) (t:=t) hb W;refine Out.pure hI (x:=r) ?_ (BK hf) trivial;have hg:=EI (P:=P) op t x y (.int k i) (.int k' j) W rfl (by simp);simp only [execOp,ho,hx,hy,Sem.run_bind,hg,Result.andThen_ok,hr,Sem.run_pure]
 . rename_i i j h1 h2
   rw [h1] at hx;rw [h2] at hy;have hx:=DH hx;have hy:=DH hy;cases hty:Γ t with
   | none=>simp [hty] at he
   | some ty=>
     simp only [hty,Option.bind_some] at he;have hg:=EI (P:=P) op t x y (.bool i) (.bool j) W rfl (by simp);split at he<;>first | (cases he;done) | skip
     . rename_i hsh
       have hq:=run_equalIn_bool' (P:=P) W 9999 t i j (Ot (hΓ t ty hty) hsh);cases he;refine Out.pure hI (x:= .bool (i == j)) ?_ (BK rfl) trivial;simp only [execOp,ho,hx,hy,Sem.run_bind,hg,Result.andThen_ok,binOp,Op.equal,Op.maxDepth,hq,Sem.run_pure]
     . rename_i hsh
       have hq:=run_equalIn_bool' (P:=P) W 9999 t i j (Ot (hΓ t ty hty) hsh);cases he;refine Out.pure hI (x:= .bool (i != j)) ?_ (BK rfl) trivial;simp only [execOp,ho,hx,hy,Sem.run_bind,hg,Result.andThen_ok,binOp,Op.equal,Op.maxDepth,hq,Sem.run_pure];rfl
 . rename_i i j h1 h2
   rw [h1] at hx;rw [h2] at hy;have hx:=BO hx;have hy:=BO hy;have hg:=EI (P:=P) op t x y (.string i) (.string j) W rfl (by simp);split at he<;>cases he
   . refine Out.pure hI (x:= .bool (i == j)) ?_ (BK rfl) trivial
     simp [execOp,ho,hx,hy,hg,binOp,Op.stringOp,beq_toListBytes]
   . refine Out.pure hI (x:= .bool (i != j)) ?_ (BK rfl) trivial
     simp [execOp,ho,hx,hy,hg,binOp,Op.stringOp,beq_toListBytes,bne]
 . rename_i az bs h1 h2
   rw [h1] at hx;rw [h2] at hy;obtain ⟨cu,hxa,hxr⟩:=hx;obtain ⟨cw,hya,hyr⟩:=hy;cases heq:eqs t with
   | none=>simp [heq] at he
   | some ks=>
     simp only [heq,Option.bind_some] at he;obtain ⟨hk,hgt,fs,hfs⟩:=hE t _ heq;have hg:(eqGuard op t x y (.agg cu) (.agg cw)).run P W= .ok () W:=run_eqGuard_agg W op t x y cu cw hgt
     have run:∀ r,Bi ks az bs=some r->(Op.equalIn 10000 t (.agg cu) (.agg cw)).run P W= .ok r W:=fun r hr=>by
       have hv:=IK hxr hyr hr;refine F1 8 t ks hk 10000 (by omega) cu.toList cw.toList _ _ W r ?_ ?_ hv
       . unfold M5;rw [hfs]
       . unfold M5;rw [hfs]
     split at he
     . cases hr:Bi ks az bs with
       | none=>simp [hr] at he
       | some r=>
         simp only [hr,Option.map_some] at he;cases he;refine Out.pure hI (x:= .bool r) ?_ (BK rfl) trivial;simp only [execOp,ho,hxa,hya,Sem.run_bind,hg,Result.andThen_ok,run_eql_struct,run r hr,Sem.run_pure]
     . cases hr:Bi ks az bs with
       | none=>simp [hr] at he
       | some r=>
         simp only [hr,Option.map_some] at he;cases he;refine Out.pure hI (x:= .bool (!r)) ?_ (BK rfl) trivial;simp only [execOp,ho,hxa,hya,Sem.run_bind,hg,Result.andThen_ok,run_neq_struct,run r hr,Sem.run_pure]
     . cases he
 . rename_i t1 ag cs h1 h2
   rw [h1] at hx;rw [h2] at hy;obtain ⟨v1,hxv,_⟩:=Yx hx;have hyv:a.eval y= .nilIface:=BO hy;cases hty:Γ t with
   | none=>simp [hty] at he
   | some ty=>
     simp only [hty,Option.bind_some] at he;have hg:(eqGuard op t x y (.iface t1 v1) .nilIface).run P W= .ok () W:=by unfold eqGuard;cases op<;>rfl
     have hrun:∀ b,ty.sh= .ifc b->(Op.equalIn 10000 t (.iface t1 v1) .nilIface).run P W= .ok false W:=fun b hs=>by
       obtain ⟨ms,hms,_⟩:=TH (hΓ t ty hty) hs;unfold Op.equalIn;simp only [Sem.run_bind,run_underlying hms,Result.andThen_ok];rfl
     split at he
     . rename_i b hsh
       cases he;refine Out.pure hI (x:= .bool false) ?_ (BK rfl) trivial;simp [execOp,ho,hxv,hyv,hg,binOp,Op.equal,Op.maxDepth,hrun _ hsh]
     . rename_i b hsh
       cases he;refine Out.pure hI (x:= .bool true) ?_ (BK rfl) trivial;simp [execOp,ho,hxv,hyv,hg,binOp,Op.equal,Op.maxDepth,hrun _ hsh]
     . cases he
 . rename_i h1 h2
   rw [h1] at hx;rw [h2] at hy;have hxv:a.eval x= .nilIface:=BO hx;have hyv:a.eval y= .nilIface:=BO hy;cases hty:Γ t with
   | none=>simp [hty] at he
   | some ty=>
     simp only [hty,Option.bind_some] at he
     have key:ty.sh= .ifc true->(∀ op',(eqGuard op' t x y .nilIface .nilIface).run P W= .ok () W)/\(Op.equalIn 10000 t .nilIface .nilIface).run P W= .ok true W:=fun hs=>by
       obtain ⟨ms,hms,hem⟩:=TH (hΓ t ty hty) hs;refine ⟨fun op'=>?_,?_⟩
       . have hq:(Op.eqGuardIn Op.maxDepth t .nilIface .nilIface).run P W= .ok false W:=by
           unfold Op.maxDepth Op.eqGuardIn;simp only [Sem.run_bind,run_underlying hms,Result.andThen_ok,<-hem];rfl
         unfold eqGuard;cases op'<;>first | rfl | (cases x<;>cases y<;>first | rfl | (simp [hq];done))
       . unfold Op.equalIn
         simp only [Sem.run_bind,run_underlying hms,Result.andThen_ok];rfl
     split at he
     . rename_i hsh
       cases he;obtain ⟨hg,hrun⟩:=key hsh;refine Out.pure hI (x:= .bool true) ?_ (BK rfl) trivial;simp [execOp,ho,hxv,hyv,hg,binOp,Op.equal,Op.maxDepth,hrun]
     . rename_i hsh
       cases he;obtain ⟨hg,hrun⟩:=key hsh;refine Out.pure hI (x:= .bool false) ?_ (BK rfl) trivial;simp [execOp,ho,hxv,hyv,hg,binOp,Op.equal,Op.maxDepth,hrun]
     . cases he
 . split at he
   . rename_i hnl
     cases hty:Γ t with
     | none=>simp [hty] at he
     | some ty=>
       simp only [hty,Option.bind_some] at he
       have hyv:a.eval y= .slice none 0 0:=by
         unfold Ex at hnl;split at hnl
         . rename_i h2;rw [h2] at hy;exact BO hy
         . cases hnl
       have hnv:∀ r,Nv (evF st.fr x)=some r->∃ ao n c,a.eval x= .slice ao n c/\ao.isNone=r:=fun r hr=>by
         unfold Nv at hr;split at hr
         . rename_i p n c h2
           rw [h2] at hx;cases hr;have e:=BO hx;have hf:CU (.slice p n c)=true:=Dv hx;simp only [CU,Bool.and_eq_true] at hf;exact ⟨p,n,c,e,hf.1.1⟩
         . rename_i id off len sz h2
           rw [h2] at hx;split at hr
           . cases hr
             rcases hx.2 with ⟨_,h0,_⟩ | ⟨_,o',cap,h,_⟩
             . omega
             . exact ⟨_,_,_,h,rfl⟩
           . cases hr
         . rename_i sz e0 es h2
           rw [h2] at hx;cases hr
           generalize a.eval x=u at hx
           cases hx with
           | sl _ _ ao cap vs _ _ _ hm _=>
             obtain ⟨a0,ha0,_⟩:=hm 0 e0 rfl;exact ⟨ao,_,_,rfl,by rw [ha0];rfl⟩
         . cases hr
       have hnu:∀ (v:V) (e:Eff),(match evF st.fr x with | .d (.sl _ [])=>some (V.d .ub,Eff.none) | _=>none)=some (v,e)->∃ ao n c,a.eval x= .slice ao n c/\v= .d .ub/\e= .none:=fun v e hr=>by
         split at hr
         . rename_i sz h2
           rw [h2] at hx;cases hr
           generalize a.eval x=u at hx
           cases hx with
           | sl _ _ ao cap vs _ _ _ hm _=>exact ⟨ao,_,_,rfl,rfl,rfl⟩
         . cases hr
       have hrun:∀ (el:TypeId) (ao:Option Addr) (n c:Nat),ty.sh= .slice el->(Op.equalIn 10000 t (.slice ao n c) (.slice none 0 0)).run P W= .ok ao.isNone W:=fun el ao n c hs=>by
         unfold Op.equalIn;simp only [Sem.run_bind,run_underlying (BH (hΓ t ty hty) hs),Result.andThen_ok];cases ao<;>rfl
       have hg:∀ (ao:Option Addr) (n c:Nat),(eqGuard op t x y (.slice ao n c) (.slice none 0 0)).run P W= .ok () W:=fun ao n c=>EI op t x y _ _ W rfl (by simp)
       split at he
       . rename_i el hsh
         unfold P3 at he;cases hr:Nv (evF st.fr x) with
         | none=>
           simp only [hr] at he;obtain ⟨ao,n,c,hxv,rfl,rfl⟩:=hnu v e he;refine Out.pure hI (x:= .bool ao.isNone) ?_ (.ub _) trivial;simp [execOp,ho,hxv,hyv,hg,binOp,Op.equal,Op.maxDepth,hrun el ao n c hsh]
         | some r=>
           simp only [hr] at he;cases he;obtain ⟨ao,n,c,hxv,hao⟩:=hnv r hr;refine Out.pure hI (x:= .bool r) ?_ (BK rfl) trivial;simp [execOp,ho,hxv,hyv,hg,binOp,Op.equal,Op.maxDepth,hrun el ao n c hsh,hao]
       . rename_i el hsh
         unfold P3 at he;cases hr:Nv (evF st.fr x) with
         | none=>
           simp only [hr] at he;obtain ⟨ao,n,c,hxv,rfl,rfl⟩:=hnu v e he;refine Out.pure hI (x:= .bool (!ao.isNone)) ?_ (.ub _) trivial;simp [execOp,ho,hxv,hyv,hg,binOp,Op.equal,Op.maxDepth,hrun el ao n c hsh]
         | some r=>
           simp only [hr] at he;cases he;obtain ⟨ao,n,c,hxv,hao⟩:=hnv r hr;refine Out.pure hI (x:= .bool (!r)) ?_ (BK rfl) trivial;simp [execOp,ho,hxv,hyv,hg,binOp,Op.equal,Op.maxDepth,hrun el ao n c hsh,hao]
       . cases he
   . cases he
end Go.Psl
namespace Go.Psl
variable {P:Program} {Γ:Tys} {eqs:Eqs} {E:Ent} {U U':Nat->Prop} {G:Gh} {st:St} {a:Act} {W:World}
theorem N5 (hI:Inv E U G st a W) {o:Oper} {x:Operand} (ho:o.op= .move x\/o.op= .assign x):Out P E U st a W o (evF st.fr x) .none:=by
 obtain ⟨hx,hw⟩:=hI.op x;refine Out.pure hI (x:=a.eval x) ?_ hx hw;rcases ho with ho | ho<;>simp [execOp,ho]
theorem dN (hI:Inv E U G st a W) {o:Oper} {op:UnOp} {t:TypeId} {x:Operand} (ho:o.op= .unOp op t x) {v:V} {e:Eff} (he:unF op (evF st.fr x)=some (v,e)):Out P E U st a W o v e:=by
 obtain ⟨hx,_⟩:=hI.op x;unfold unF at he;split at he
 . rename_i b h1
   cases he;rw [h1] at hx;refine Out.pure hI (x:= .bool (!b)) ?_ (BK rfl) trivial;simp [execOp,ho,DH hx,Op.unary]
 . rename_i k n h1
   cases he;rw [h1] at hx;refine Out.pure hI (x:= .int k (k.wrap (-n))) ?_ (BK rfl) trivial;simp [execOp,ho,Cg hx,Op.unary,Op.intArith]
 . cases he
theorem UD (hΓ:GOk P Γ) (hI:Inv E U G st a W) {o:Oper} {s t:TypeId} {x:Operand} (ho:o.op= .convert s t x) {v:V} {e:Eff} (he:Lb Γ s t (evF st.fr x)=some (v,e)):Out P E U st a W o v e:=by
 obtain ⟨hx,_⟩:=hI.op x;unfold Lb at he;cases hs:Γ s with
 | none=>simp [hs] at he
 | some ys=>
   simp only [hs,Option.bind_some] at he;cases hty:Γ t with
   | none=>simp [hty] at he
   | some ty=>
     simp only [hty,Option.bind_some] at he;split at he
     . rename_i k k' n hsh h1
       cases he;rw [h1] at hx;obtain ⟨d,hd,_⟩:=(hΓ s ys hs).und;have hd2:=So (hΓ t ty hty) hsh;refine Out.pure hI (x:= .int k (k.wrap n)) ?_ (BK rfl) trivial;simp [execOp,ho,Cg hx,convert,run_underlying hd,run_underlying hd2,Conv.intToInt]
     . cases he
theorem UE {c:Bool} {x y:V} {u w:Value} (hx:RV G W x u) (hy:RV G W y w):RV G W (GI c x y) (if c then u else w):=by
 unfold GI;split
 . rename_i b1 b2
   have h1:=DH hx;have h2:=DH hy;subst h1;subst h2;cases c<;>exact BK rfl
 . cases c
   . exact hy
   . exact hx
theorem Wt {c:Bool} {x y:V} (hx:AV U AR x) (hy:AV U AR y):AV U AR (GI c x y):=by
 unfold GI;split
 . trivial
 . cases c
   . exact hy
   . exact hx
theorem UF (hI:Inv E U G st a W) {o:Oper} {c x y:Operand} (ho:o.op= .pick c x y) {v:V} {e:Eff} (he:Jo (evF st.fr c) (evF st.fr x) (evF st.fr y)=some (v,e)):Out P E U st a W o v e:=by
 obtain ⟨hc,_⟩:=hI.op c;obtain ⟨hx,hxw⟩:=hI.op x;obtain ⟨hy,hyw⟩:=hI.op y;unfold Jo at he;split at he
 . rename_i b h1
   cases he;rw [h1] at hc;refine Out.pure hI (x:=if b then a.eval x else a.eval y) ?_ (UE hx hy) (Wt hxw hyw);simp [execOp,ho,DH hc,asBool]
 . cases he
theorem UG (hI:Inv E U G st a W) {o:Oper} {x:Operand} {i:Nat} (ho:o.op= .extract x i) {v:V} {e:Eff} (he:Mc (evF st.fr x) i=some (v,e)):Out P E U st a W o v e:=by
 obtain ⟨hx,hxw⟩:=hI.op x;unfold Mc at he;split at he
 . rename_i vs h1
   cases hi:vs[i]? with
   | none=>simp [hi] at he
   | some u=>
     simp only [hi,Option.map_some] at he;cases he;rw [h1] at hx hxw;obtain ⟨cv,hxa,hr⟩:=hx;obtain ⟨w,hw,hrw⟩:=hr.get hi;refine Out.pure hI (x:=w) ?_ (R2.rv hrw) (R2.av hrw (hxw _ (List.mem_of_getElem? hi)));rw [Array.getElem?_toList] at hw;simp [execOp,ho,hxa,Instr.extract,hw]
 . cases he
theorem ib {sz:Nat} {es:List (List D)} {x:Value} (h:RV G W (.d (.sl sz es)) x):∃ ao cap,x= .slice ao es.length cap/\es.length<=cap/\es.length<=maxL/\(∀ e∈es,e.length=sz)/\
   ∃ vs:Nat->Nat->Value,(∀ (i:Nat) e,es[i]?= some e->∃ ad,ao=some ad/\G.Im ad.block/\∀ (j:Nat) y,e[j]?= some y->W.cell? (ad.add (i*sz+j))=some (vs i j))/\
     (∀ (i:Nat) e,es[i]?= some e->∀ (j:Nat) y,e[j]?= some y->RD G.Im W y (vs i j)):=by
 have h':RD G.Im W (.sl sz es) x:=h;cases h' with
 | sl _ _ ao cap vs hsz' hlen hcap hm hr=>exact ⟨ao,cap,rfl,hcap,hlen,hsz',vs,hm,hr⟩
theorem Wu (hΓ:GOk P Γ) (hI:Inv E U G st a W) {o:Oper} {c:Call} {x:Operand} {t:TypeId} (ho:o.op= .call c) (hc:c.callee= .builtin .len) (ha:c.args.toList=[x]) (ht:c.argTypes.toList=[t]) {v:V} {e:Eff}
   (he:Iy Γ t (evF st.fr x)=some (v,e)):Out P E U st a W o v e:=by
 obtain ⟨hx,_⟩:=hI.op x
 have hrun:∀ z,(Builtin.len_ #[t] o.type #[a.eval x]).run P W= .ok z W->(execOp a.eval o).run P W= .ok (.value z) W:=fun z hz=>by
   have h1:c.args= #[x]:=Array.ext' (by simpa using ha);have h2:c.argTypes= #[t]:=Array.ext' (by simpa using ht);simp [execOp,ho,resolve,hc,invoke,builtin,h1,h2,hz]
 unfold Iy at he;cases hty:Γ t with
 | none=>simp [hty] at he
 | some ty=>
   simp only [hty,Option.bind_some] at he;have hT:=hΓ t ty hty;split at he<;>first | (cases he;done) | skip
   . rename_i el sz es hsh h1
     cases he;rw [h1] at hx;obtain ⟨ao,cap,hxa,_⟩:=ib hx;rw [hxa] at hrun;refine Out.pure hI (hrun (.int .i64 es.length) ?_) (BK rfl) trivial;simp [Builtin.len_,run_underlying (BH hT hsh),goInt]
   . rename_i el id off len sz hsh h1
     cases he;rw [h1] at hx;obtain ⟨_,⟨_,h0,hxa⟩ | ⟨_,o',cap,hxa,_⟩⟩:=hx
     . rw [hxa] at hrun
       refine Out.pure hI (hrun (.int .i64 len) ?_) (BK rfl) trivial;simp [Builtin.len_,run_underlying (BH hT hsh),goInt,h0]
     . rw [hxa] at hrun
       refine Out.pure hI (hrun (.int .i64 len) ?_) (BK rfl) trivial;simp [Builtin.len_,run_underlying (BH hT hsh),goInt]
   . rename_i el u n c' hsh h1
     cases he;rw [h1] at hx;have hfl:=Dv hx;have hxa:=BO hx;simp only [CU,Bool.and_eq_true,beq_iff_eq,Option.isNone_iff_eq_none] at hfl;obtain ⟨⟨rfl,rfl⟩,rfl⟩:=hfl;rw [hxa] at hrun;refine Out.pure hI (hrun (.int .i64 0) ?_) (BK rfl) trivial;simp [Builtin.len_,run_underlying (BH hT hsh),goInt]
   . rename_i s hsh h1
     cases he;rw [h1] at hx;rw [BO hx] at hrun;refine Out.pure hI (hrun (.int .i64 s.size) ?_) (BK rfl) trivial;simp [Builtin.len_,run_underlying (Mn hT hsh),goInt]
theorem Wv (k k':IntKind) (x y:Int) (w:World):(Builtin.max2 (.int k x) (.int k' y)).run P w= .ok (.int k (max x y)) w:=by
 simp only [Builtin.max2,Sem.run_pure];congr 2;split<;>omega
theorem Ww (k k':IntKind) (x y:Int) (w:World):(Builtin.min2 (.int k x) (.int k' y)).run P w= .ok (.int k (min x y)) w:=by
 simp only [Builtin.min2,Sem.run_pure];congr 2;split<;>omega
theorem N6 {G:Gh} {W:World} {k:IntKind}:∀ (vs:List V) (xs:List Value) (m out:Int),AJ (RV G W) vs xs->Lq k m vs=some out->(xs.foldlM Builtin.max2 (Value.int k m)).run P W= .ok (.int k out) W
 | [],[],m,out,_,h=>by
   cases h;simp
 | .d (.lit (.int k' x))::vs,y::xs,m,out,⟨h1,h2⟩,h=>by
   simp only [Lq] at h;split at h
   . rename_i hk;subst hk
     have ih:=N6 vs xs (max m x) out h2 h;rw [Cg h1,List.foldlM_cons];simp [Wv,ih]
   . cases h
theorem Wx (hI:Inv E U G st a W) {o:Oper} {c:Call} (ho:o.op= .call c) (hc:c.callee= .builtin .max) {v:V} {e:Eff} (he:Wc (BX st.fr c.args.toList)=some (v,e)):Out P E U st a W o v e:=by
 obtain ⟨hr,_⟩:=Du hI c.args.toList
 have hrun:∀ z,(Builtin.max_ c.argTypes o.type (c.args.map a.eval)).run P W= .ok z W->(execOp a.eval o).run P W= .ok (.value z) W:=fun z hz=>by
   simp [execOp,ho,resolve,hc,invoke,builtin,hz]
 have hl:(c.args.map a.eval).toList=c.args.toList.map a.eval:=by simp
 generalize BX st.fr c.args.toList=vs at hr he
 unfold Builtin.max_ at hrun;rw [hl] at hrun
 generalize c.args.toList.map a.eval=xs at hr hrun
 unfold Wc at he;split at he
 . rename_i k x r
   match xs,hr with
   | y::xs,⟨h1,h2⟩=>
     cases hm:Lq k x r with
     | none=>rw [hm] at he;cases he
     | some m=>
       rw [hm] at he;cases he;refine Out.pure hI (hrun (.int k m) ?_) (BK rfl) trivial;rw [Cg h1];exact N6 r xs x m h2 hm
 . cases he
theorem N7 {G:Gh} {W:World} {k:IntKind}:∀ (vs:List V) (xs:List Value) (m out:Int),AJ (RV G W) vs xs->Ku k m vs=some out->(xs.foldlM Builtin.min2 (Value.int k m)).run P W= .ok (.int k out) W
 | [],[],m,out,_,h=>by
   cases h;simp
 | .d (.lit (.int k' x))::vs,y::xs,m,out,⟨h1,h2⟩,h=>by
   simp only [Ku] at h;split at h
   . rename_i hk;subst hk
     have ih:=N7 vs xs (min m x) out h2 h;rw [Cg h1,List.foldlM_cons];simp [Ww,ih]
   . cases h
theorem Wy (hI:Inv E U G st a W) {o:Oper} {c:Call} (ho:o.op= .call c) (hc:c.callee= .builtin .min) {v:V} {e:Eff} (he:Wd (BX st.fr c.args.toList)=some (v,e)):Out P E U st a W o v e:=by
 obtain ⟨hr,_⟩:=Du hI c.args.toList
 have hrun:∀ z,(Builtin.min_ c.argTypes o.type (c.args.map a.eval)).run P W= .ok z W->(execOp a.eval o).run P W= .ok (.value z) W:=fun z hz=>by
   simp [execOp,ho,resolve,hc,invoke,builtin,hz]
 have hl:(c.args.map a.eval).toList=c.args.toList.map a.eval:=by simp
 generalize BX st.fr c.args.toList=vs at hr he
 unfold Builtin.min_ at hrun;rw [hl] at hrun
 generalize c.args.toList.map a.eval=xs at hr hrun
 unfold Wd at he;split at he
 . rename_i k x r
   match xs,hr with
   | y::xs,⟨h1,h2⟩=>
     cases hm:Ku k x r with
     | none=>rw [hm] at he;cases he
     | some m=>
       rw [hm] at he;cases he;refine Out.pure hI (hrun (.int k m) ?_) (BK rfl) trivial;rw [Cg h1];exact N7 r xs x m h2 hm
 . cases he
theorem Wz (hI:Inv E U G st a W) {o:Oper} {x:Operand} (ho:o.op= .nilCheck x) {v:V} {e:Eff} (he:Se (evF st.fr x)=some (v,e)):Out P E U st a W o v e:=by
 obtain ⟨hx,hw⟩:=hI.op x;unfold Se at he;split at he
 . rename_i id off h1
   cases he;rw [h1] at hx hw;refine Out.pure hI (x:=a.eval x) ?_ hx hw
   generalize hz:a.eval x=z at hx
   obtain ⟨q,rfl⟩:∃ q,z= .pointer (some q):=by cases hx<;>exact ⟨_,by assumption⟩
   simp [execOp,ho,hz]
 . rename_i cs h1
   cases he;rw [h1] at hx hw;refine Out.pure hI (x:=a.eval x) ?_ hx hw
   generalize hz:a.eval x=z at hx
   obtain ⟨q,rfl⟩:∃ q,z= .pointer (some q):=by cases hx<;>exact ⟨_,rfl⟩
   simp [execOp,ho,hz]
 . cases he
theorem N8:∀ {cs:List V} {ds:List D},Ff cs=some ds->cs=ds.map .d
 | [],ds,h=>by simp [Ff] at h;subst h;rfl
 | .d x::r,ds,h=>by
   simp only [Ff,Option.map_eq_some_iff] at h;obtain ⟨es,he,rfl⟩:=h;rw [N8 he];rfl
 | .junk::_,_,h | .lp _ _::_,_,h | .ls _ _ _ _::_,_,h | .cl _ _::_,_,h | .yl _::_,_,h | .lr _ _ _ _ _ _::_,_,h | .agg _::_,_,h | .tup _::_,_,h=>by simp [Ff] at h
theorem vl {t:TypeId} {y:Ty} (h:C1 P t y) (h1:∀ e,y.sh≠ .ifc e) (h2:y.sh≠ .other):∃ d,P.underlying t=some d/\∀ ms,d≠ .interface ms:=by
 obtain ⟨d,hd,ho⟩:=h.und;refine ⟨d,hd,fun ms e=>?_⟩;subst e;unfold Ix at ho;split at ho<;>first | (rename_i hh;exact h1 _ hh) | (rename_i hh;exact h2 hh) | (simp_all;done) | exact ho.elim | skip
theorem vm (hΓ:GOk P Γ) (hI:Inv E U G st a W) {o:Oper} {t:TypeId} {x:Operand} (ho:o.op= .makeInterface t x) {v:V} {e:Eff} (he:Sf Γ t (evF st.fr x)=some (v,e)):Out P E U st a W o v e:=by
 obtain ⟨hx,hw⟩:=hI.op x;unfold Sf at he;cases hty:Γ t with
 | none=>simp [hty] at he
 | some ty=>
   simp only [hty,Option.bind_some] at he
   have fin:(∃ d,P.underlying t=some d/\∀ ms,d≠ .interface ms)->(match evF st.fr x with
       | .agg cs=>(Ff cs).map fun ds=>(V.d (.ifc t true ds),Eff.none)
       | .d x=>some (.d (.ifc t false [x]), .none)
       | _=>none)=some (v,e)->Out P E U st a W o v e:=fun ⟨d,hd,hn⟩ he=>by
     have run:(execOp a.eval o).run P W= .ok (.value (.iface t (a.eval x))) W:=by
       have:(Instr.makeInterface t (a.eval x)).run P W= .ok (.iface t (a.eval x)) W:=by
         unfold Instr.makeInterface;simp only [Sem.run_bind,run_underlying hd,Result.andThen_ok];cases d<;>first | rfl | exact absurd rfl (hn _)
       simp [execOp,ho,this]
     split at he
     . rename_i cs h1
       cases hds:Ff cs with
       | none=>simp [hds] at he
       | some ds=>
         simp only [hds,Option.map_some] at he;cases he;rw [h1] at hx;obtain ⟨cv,hcv,hr⟩:=hx;refine Out.pure hI (x:= .iface t (a.eval x)) run ?_ trivial;rw [hcv];rw [N8 hds] at hr;have hr':=AJ.map_left.1 hr;refine RD.ifc t ds cv (by have:=hr'.length;simpa using this.symm) fun j y z hy hz=>?_
         obtain ⟨z',hz',hrz⟩:=hr'.get hy;rw [Array.getElem?_toList,hz] at hz';cases hz';exact hrz
     . rename_i y h1
       cases he;rw [h1] at hx;exact Out.pure hI (x:= .iface t (a.eval x)) run (RD.ifc1 t y _ hx) trivial
     . cases he
   split at he
   . cases he
   . cases he
   . rename_i h1 h2
     exact fin (vl (hΓ t ty hty) (fun e he=>h1 e he) h2) he
theorem XA (hΓ:GOk P Γ) (hI:Inv E U G st a W) {o:Oper} {s t:TypeId} {x:Operand} (ho:o.op= .typeAssert x s t false) {v:V} {e:Eff} (he:Wf Γ t (evF st.fr x)=some (v,e)):Out P E U st a W o v e:=by
 obtain ⟨hx,hw⟩:=hI.op x;unfold Wf at he;cases hty:Γ t with
 | none=>simp [hty] at he
 | some ty=>
   simp only [hty,Option.bind_some] at he;split at he
   . cases he
   . cases he
   . rename_i h1 h2
     obtain ⟨d,hd,hn⟩:=vl (hΓ t ty hty) (fun e he=>h1 e he) h2;split at he
     . rename_i t' ag cs hq
       split at he
       . rename_i htt
         subst htt;rw [hq] at hx;obtain ⟨u,hxv,hu⟩:=Yx hx
         have run:(execOp a.eval o).run P W= .ok (.value u) W:=by
           have:(Instr.typeAssert (a.eval x) s t' false).run P W= .ok u W:=by
             unfold Instr.typeAssert;simp only [Sem.run_bind,run_underlying hd,Result.andThen_ok,hxv];cases d<;>first | (simp;done) | exact absurd rfl (hn _)
           simp [execOp,ho,this]
         rcases hu with ⟨rfl,cv,rfl,hr⟩ | ⟨rfl,c,rfl,hr⟩
         . simp only [We,Option.map_some] at he
           cases he;refine Out.pure hI (x:= .agg cv) run ⟨cv,rfl,hr.mono fun y hy z h=>?_⟩ (fun y hy=>?_)
           . obtain ⟨c,_,rfl⟩:=List.mem_map.1 hy;exact h
           . obtain ⟨c,_,rfl⟩:=List.mem_map.1 hy;trivial
         . simp only [We,Option.map_some] at he
           cases he;exact Out.pure hI (x:=u) run hr trivial
       . cases he
     . cases he
theorem P9 (hΓ:GOk P Γ) (hI:Inv E U G st a W) {o:Oper} {t:TypeId} {x i:Operand} (ho:o.op= .index t x i) {v:V} {e:Eff} (he:FS Γ t (evF st.fr x) (evF st.fr i)=some (v,e)):
   Out P E U st a W o v e:=by
 obtain ⟨hx,hxw⟩:=hI.op x;obtain ⟨hi,_⟩:=hI.op i;unfold FS at he;cases hty:Γ t with
 | none=>simp [hty] at he
 | some ty=>
   simp only [hty,Option.bind_some] at he;have hT:=hΓ t ty hty;split at he
   . rename_i k n hin
     rw [hin] at hi;have hie:=Cg hi;split at he
     . rename_i m el cs hsh h1
       cases hel:Γ el with
       | none=>simp [hel] at he
       | some ye=>
         simp only [hel,Option.bind_some] at he;split at he
         . rename_i hc
           obtain ⟨h0,hm,hl⟩:=hc;cases he;rw [h1] at hx hxw;obtain ⟨cv,hxa,hr⟩:=hx;have hlen:=hr.length;simp only [Array.length_toList] at hlen;obtain ⟨u,hu,huv⟩:=OK (hΓ el ye hel) W cv (n.toNat*ye.size) (by omega);have hmem:∀ c∈(cs.drop (n.toNat*ye.size)).take ye.size,A1 U AR c:=fun c hc=>hxw c (List.mem_of_mem_drop (List.mem_of_mem_take hc))
           have hr2:=(hr.drop (n.toNat*ye.size)).take ye.size;refine Out.pure hI (x:=u) ?_ (LY hr2 huv) ?_
           . simp only [execOp,ho,Instr.index,hie,hxa,asIntOf,Sem.run_bind,Sem.run_pure,Result.andThen_ok,run_underlying (I4 hT hsh),h0,hm,and_self,if_true,(hΓ el ye hel).sizeOf,hu]
           . rcases huv with ⟨h,_⟩ | ⟨hag,h1⟩
             . exact T9 hmem fun h'=>by rw [h] at h';cases h'
             . rw [h1] at hr2
               generalize (cs.drop (n.toNat*ye.size)).take ye.size=l at hr2 hmem
               match l,hr2 with
               | [c],hr2=>
                 simp only [mkV,hag];exact R2.av (R1.r2 hr2.1) (R1.a2 hr2.1 (hmem c (by simp)))
               | [],hr2=>exact hr2.elim
               | _::_::_,hr2=>exact hr2.2.elim
         . cases he
     . rename_i s hsh h1
       split at he
       . rename_i h0
         cases hb:s[n.toNat]? with
         | none=>simp [hb] at he
         | some b=>
           simp only [hb,Option.map_some] at he;cases he;rw [h1] at hx;refine Out.pure hI (x:= .int .u8 b.toNat) ?_ (BK rfl) trivial;simp only [execOp,ho,Instr.index,hie,BO hx,asIntOf,Sem.run_bind,Sem.run_pure,Result.andThen_ok,run_underlying (Mn hT hsh),h0,if_true,hb]
       . cases he
     . cases he
   . cases he
theorem Mi (hI:Inv E U G st a W) {o:Oper} {g:FuncId} {first caps:Array Operand} (ho:o.op= .makeFunc (.func g) first caps) (h0:first.size=0) (hc:(BX st.fr caps.toList).all V.cap=true):Out P E U st a W o (.cl g (BX st.fr caps.toList)) .none:=by
 obtain ⟨hr,hw⟩:=Du hI caps.toList;refine Out.pure hI (x:= .func (.func g) #[] (caps.map a.eval)) ?_ ⟨caps.map a.eval,rfl,?_⟩ ?_
 . have:first= #[]:=Array.eq_empty_of_size_eq_zero h0
   simp [execOp,ho,Instr.makeFunc,this]
 . rw [Array.toList_map]
   refine hr.mono fun v hv x hx=>?_
   have:=List.all_eq_true.1 hc v hv;cases v<;>first | (simp [V.cap] at this;done) | exact hx
 . intro v hv
   have:=List.all_eq_true.1 hc v hv;have h2:=hw v hv;cases v<;>first | (simp [V.cap] at this;done) | exact h2
end Go.Psl
namespace Go.Psl
variable {P:Program} {Γ:Tys} {eqs:Eqs} {E:Ent} {U U':Nat->Prop} {G:Gh} {st:St} {a:Act} {W:World}
theorem CI {α:Type} {sz:Nat} (h0:0 < sz):∀ (es:List (List α)),(∀ e∈es,e.length=sz)->∀ i,es.flatten[i]?= (es[i / sz]?).bind fun e=>e[i % sz]?
 | [],_,i=>by simp
 | e::es,h,i=>by
   have he:=h e (by simp);rw [List.flatten_cons];by_cases hi:i < sz
   . rw [List.getElem?_append_left (by omega),Nat.div_eq_of_lt hi,Nat.mod_eq_of_lt hi];rfl
   . rw [List.getElem?_append_right (by omega),he,CI h0 es (fun x hx=>h x (by simp [hx]))]
     have e1:i / sz=(i - sz) / sz+1:=Nat.div_eq_sub_div h0 (by omega);have e2:i % sz=(i - sz) % sz:=by rw [<-Nat.mod_eq_sub_mod (by omega)]
     rw [e1,e2];rfl
theorem B3 {α:Type} {sz:Nat}:∀ (es:List (List α)),(∀ e∈es,e.length=sz)->es.flatten.length=es.length*sz
 | [],_=>by simp
 | e::es,h=>by
   rw [List.flatten_cons,List.length_append,B3 es (fun x hx=>h x (by simp [hx])),h e (by simp),List.length_cons,Nat.add_mul];omega
theorem K3 (hΓ:GOk P Γ) (hI:Inv E U G st a W) {o:Oper} {t:TypeId} {n:Nat} {ps:Array (Nat × Operand)} (ho:o.op= .buildSlice t n ps) {b:Nat} (hb:¬ U b) (hU:∀ i,U i->U' i) (hb':U' b) {v:V} {e:Eff}
   (he:Ci Γ b t n (ED st.fr ps.toList)=some (v,e)):Out P E U' st a W o v e:=by
 obtain ⟨hrel,hok⟩:=K0 hI ps.toList;unfold Ci at he;cases hty:Γ t with
 | none=>simp [hty] at he
 | some ty=>
   simp only [hty,Option.bind_some] at he;split at he
   . rename_i el hsh
     cases hel:Γ el with
     | none=>simp [hel] at he
     | some ye=>
       simp only [hel,Option.bind_some] at he;split at he
       . rename_i hsz
         obtain ⟨h24,hpos⟩:=hsz;cases hf:Cc (fun i=>some (i*ye.size,ye.size)) (AM n (ye.zero.map cV)) (ED st.fr ps.toList) with
         | none=>simp [hf] at he
         | some cs=>
           simp only [hf,Option.map_some] at he;cases he;have hT:=hΓ t ty hty;have hTe:=hΓ el ye hel;obtain ⟨z,hz,hzc⟩:=hTe.zeroValue W;have hzl:z.cells.size=ye.size:=by rw [<-Array.length_toList,hzc,hTe.zl]
           have hd:=BH hT hsh;have hxs:(ps.map fun (i,x)=>(i,a.eval x)).toList=ps.toList.map fun (i,x)=>(i,a.eval x):=by simp
           have hrepl:AJ (R1 G W) (AM n (ye.zero.map cV)) ((Array.range (n*ye.size)).map (z.cells[· % z.cells.size]!)).toList:=by
             refine AJ.of_get ?_ fun i x y hx hy=>?_
             . unfold AM
               rw [B3 (sz:=ye.size) _ (fun e he=>by rw [(List.eq_of_mem_replicate he)];simp [hTe.zl])];simp
             . unfold AM at hx
               rw [CI hpos _ (fun e he=>by rw [(List.eq_of_mem_replicate he)];simp [hTe.zl])] at hx;simp only [Array.toList_map,List.getElem?_map,Array.toList_range] at hy;by_cases hi:i < n*ye.size
               . rw [List.getElem?_range hi] at hy
                 simp only [Option.map_some,Option.some.injEq] at hy;have h1:i / ye.size < n:=by rw [Nat.div_lt_iff_lt_mul hpos];exact hi
                 rw [List.getElem?_replicate,if_pos h1] at hx;simp only [Option.bind_some,List.getElem?_map] at hx;have hm:i % ye.size < ye.size:=Nat.mod_lt _ hpos;obtain ⟨w0,hw0⟩:∃ w0,z.cells[i % ye.size]?= some w0:=⟨z.cells[i % ye.size]'(by rw [hzl];exact hm),Array.getElem?_eq_getElem _⟩
                 have hzi:ye.zero[i % ye.size]?= some w0:=by rw [<-hzc,Array.getElem?_toList];exact hw0
                 rw [hzi] at hx;simp only [Option.map_some,Option.some.injEq] at hx;subst hx;subst hy;have hw1:z.cells[i % z.cells.size]! =w0:=by rw [hzl];simp [getElem!_def,hw0]
                 rw [hw1];exact RD.lit _ (List.all_eq_true.1 hTe.zf _ (List.mem_of_getElem? hzi))
               . rw [List.getElem?_eq_none (by simp;omega)] at hy;cases hy
           obtain ⟨cv',h6,h7⟩:=Ig (place:=fun i=>some (i*ye.size,ye.size)) (fun i p hp=>hp) hrel hrepl hf
           have hall:(AM n (ye.zero.map cV)).all V.isCell=true:=by
             simp only [AM,List.all_eq_true,List.mem_flatten]
             rintro x ⟨l,hl,hx⟩
             rw [List.eq_of_mem_replicate hl] at hx;exact List.all_eq_true.1 (Er ye.zero) x hx
           have hokz:∀ x∈AM n (ye.zero.map cV),A1 U AR x:=by
             simp only [AM,List.mem_flatten]
             rintro x ⟨l,hl,hx⟩
             rw [List.eq_of_mem_replicate hl] at hx;exact Ie _ x hx
           have hl7:=h7.length
           have hlen:cs.length=n*ye.size:=by
             have:∀ {ps:List (Nat × V)} {cells cs:List V},Cc (fun i=>some (i*ye.size,ye.size)) cells ps=some cs->cs.length=cells.length:=by
               intro ps;induction ps with
               | nil=>intro cells cs h;cases h;rfl
               | cons p ps ih=>
                 intro cells cs h;simp only [Cc] at h;split at h
                 . rename_i hc
                   rw [ih h];simp [AA];omega
                 . cases h
             rw [this hf];unfold AM;rw [B3 (sz:=ye.size) _ (fun e he=>by rw [(List.eq_of_mem_replicate he)];simp [hTe.zl])];simp
           obtain ⟨G',hI',h1,h2,h3,_⟩:=hI.alloc (T:=el) hb hU hb' (cs:=cs) (c:=cv') (W1:=W) rfl rfl rfl rfl (by rw [hl7];simp) (by rw [hl7,List.take_of_length_le (by simp)];exact h7)
             (O2 (q:=V.isCell) hall (fun p _ h=>h) hf) (Ih (q:=A1 U AR) hokz (fun p hp=>GG (hok p hp)) hf)
           refine ⟨_, .slice (some ⟨W.heap.size,0,none⟩) n n,_,G',?_, .inl rfl,hI',⟨?_, .inr ⟨h3,0,n,by rw [h1],Nat.le_refl _,fun _=>⟨rfl,?_⟩⟩⟩,hb'⟩
           . rw [<-hxs] at h6
             simp only [execOp,ho,Instr.buildSlice,Sem.run_bind,run_underlying hd,Result.andThen_ok,hTe.sizeOf];rw [if_neg (by omega)];by_cases h0:n*ye.size=0
             . rw [h0] at h6
               have hr0:((Array.range 0).map ((#[]:Array Value)[· % (#[]:Array Value).size]!))=((Array.range 0).map (z.cells[· % z.cells.size]!)):=by simp
               simp only [h0,if_true,Sem.run_bind,Sem.run_pure,Result.andThen_ok];rw [hr0,h6];rfl
             . simp only [h0,if_false,Sem.run_bind,hz,Sem.run_pure,Result.andThen_ok]
               rw [h6];rfl
           . have:n*1<=n*ye.size:=Nat.mul_le_mul_left _ hpos
             unfold maxL;omega
           . rw [h2,<-hlen,<-Array.length_toList,<-hl7];omega
       . cases he
   . cases he
end Go.Psl
namespace Go.Psl
variable {P:Program} {Γ:Tys} {eqs:Eqs} {E:Ent} {U U':Nat->Prop} {G:Gh} {st:St} {a:Act} {W:World}
theorem Inv.drop (hI:Inv E U G st a W) (id:Nat):Inv E U G ⟨st.fr,upd st.H id none,st.nx⟩ a W:=by
 have hs:∀ i cs,upd st.H id none i=some cs->i≠id/\st.H i=some cs:=fun i cs h=>by
   simp only [AY] at h;split at h
   . cases h
   . rename_i e;exact ⟨e,h⟩
 have hs':∀ i,(upd st.H id none i).isSome=true->(st.H i).isSome=true:=fun i h=>by
   obtain ⟨cs,hc⟩:=Option.isSome_iff_exists.1 h;rw [(hs i cs hc).2];rfl
 exact {hI with hp:=fun i cs h=>hI.hp i cs (hs i cs h).2,wh:=fun i cs h=>hI.wh i cs (hs i cs h).2,dom:=fun i h=>hI.dom i (hs' i h),inj:=fun i j hi hj=>hI.inj i j (hs' i hi) (hs' j hj),own:=fun i hi=>hI.own i (hs' i hi),stab:=fun i h hi=>hI.stab i h (hs' i hi)}
theorem Inv.rename (hI:Inv E U G st a W) {id b:Nat} {cs:List V} (hh:st.H id=some cs) (hph:G.ph id=false/\G.lo id=false) (hb:¬ U b) (hU:∀ i,U i->U' i) (hb':U' b):
   ∃ G',Inv E U' G' ⟨st.fr,upd (upd st.H id none) b (some cs),st.nx⟩ a W/\G'.β b=G.β id/\G'.bs b=G.bs id/\(G'.ph b=false/\G'.lo b=false)/\Chg U G W G' W:=by
 let G':Gh:={β:=upd G.β b (G.β id),bs:=upd G.bs b (G.bs id),ph:=upd G.ph b false,lo:=upd G.lo b false,Im:=G.Im}
 have hne:∀ i,U i->i≠b:=fun i hi e=>hb (e ▸ hi)
 have hchg:Chg U G W G' W:=⟨fun i hi=>by simp [G',upd,hne i hi],fun k hk=>⟨hk,rfl⟩⟩
 have hlive:(st.H id).isSome=true:=by rw [hh];rfl
 have hidb:id≠b:=hne id (hI.dom id hlive)
 have hs:∀ i x,upd (upd st.H id none) b (some cs) i=some x->(i=b/\x=cs)\/(i≠b/\i≠id/\st.H i=some x):=fun i x h=>by
   simp only [AY] at h;split at h
   . rename_i e;cases h;exact .inl ⟨e,rfl⟩
   . rename_i e
     split at h
     . cases h
     . rename_i e';exact .inr ⟨e,e',h⟩
 have hs':∀ i,(upd (upd st.H id none) b (some cs) i).isSome=true->i=b\/(i≠b/\i≠id/\(st.H i).isSome=true):=fun i h=>by
   obtain ⟨x,hx⟩:=Option.isSome_iff_exists.1 h;rcases hs i x hx with ⟨h,_⟩ | ⟨h1,h2,h3⟩
   . exact .inl h
   . exact .inr ⟨h1,h2,by rw [h3];rfl⟩
 refine ⟨G',?_,by simp [G',upd],by simp [G',upd],by simp [G',upd],hchg⟩;refine {fr:=fun t=>hchg.rv (hI.wf t) (hI.fr t),wf:=fun t=>AV.mono hU (fun _ h=>h) (hI.wf t),hp:=?_,wh:=?_,dom:=?_,inj:=?_,own:=?_,im:=hI.im,im0:=hI.im0,keep:=hI.keep,stab:=?_,sU:=fun i hs=>hU _ (hI.sU i hs),nt:=hI.nt,df:=hI.df.imp fun ds h=>⟨h.1,h.2.same (fun _ _ _=>rfl) (fun _ _ _ h=>h)⟩}
 . intro i x h
   rcases hs i x h with ⟨rfl,rfl⟩ | ⟨h1,h2,h3⟩
   . obtain ⟨hn,c,T,e1,e2,e3,e4,e5⟩:=(hI.hp id _ hh).read hph
     refine .inr (.inl ⟨by simp [G',upd],by simp [G',upd],by simpa [G',upd] using hn,c,T,by simpa [G',upd] using e1,by simpa [G',upd] using e2,e3,hchg.all1 (JT e4 (hI.wh id _ hh)) e4,e5⟩)
   . exact hchg.hb (hI.dom i (by rw [h3];rfl)) (hI.wh i x h3) (hI.hp i x h3) (fun _=>rfl) (fun h _=>h)
 . intro i x h y hy
   rcases hs i x h with ⟨rfl,rfl⟩ | ⟨h1,h2,h3⟩
   . exact AC.mono hU (fun _ h=>h) (hI.wh id _ hh y hy)
   . exact AC.mono hU (fun _ h=>h) (hI.wh i x h3 y hy)
 . intro i h
   rcases hs' i h with rfl | ⟨_,_,h⟩
   . exact hb'
   . exact hU _ (hI.dom i h)
 . intro i j hi hj hpi hpj he
   rcases hs' i hi with ei | ⟨ei,ei',hi'⟩<;>rcases hs' j hj with ej | ⟨ej,ej',hj'⟩
   . rw [ei,ej]
   . simp only [G',upd,if_pos ei,if_neg ej] at he hpj
     exact absurd (hI.inj id j hlive hj' hph.1 hpj he) (fun h=>ej' h.symm)
   . simp only [G',upd,if_pos ej,if_neg ei] at he hpi
     exact absurd (hI.inj i id hi' hlive hpi hph.1 he) ei'
   . simp only [G',upd,if_neg ei,if_neg ej] at he hpi hpj
     exact hI.inj i j hi' hj' hpi hpj he
 . intro i hi hp
   rcases hs' i hi with ei | ⟨ei,ei',hi'⟩
   . simp only [G',upd,if_pos ei];exact hI.own id hlive hph.1
   . simp only [G',upd,if_neg ei] at hp ⊢;exact hI.own i hi' hp
 . intro i h hi
   rcases hs' i hi with ei | ⟨ei,ei',hi'⟩
   . exact absurd (ei ▸ hI.sU _ h) hb
   . simp only [G',upd,if_neg ei];exact hI.stab i h hi'
theorem Inv.phantom (hI:Inv E U G st a W) {b:Nat} (hb:¬ U b) (hU:∀ i,U i->U' i) (hb':U' b):
   ∃ G',Inv E U' G' ⟨st.fr,upd st.H b (some []),st.nx⟩ a W/\G'.ph b=true/\Chg U G W G' W:=by
 let G':Gh:={β:=G.β,bs:=G.bs,ph:=upd G.ph b true,lo:=upd G.lo b false,Im:=G.Im}
 have hne:∀ i,U i->i≠b:=fun i hi e=>hb (e ▸ hi)
 have hchg:Chg U G W G' W:=⟨fun i hi=>by simp [G',upd,hne i hi],fun k hk=>⟨hk,rfl⟩⟩
 have hs:∀ i x,upd st.H b (some []) i=some x->(i=b/\x=[])\/(i≠b/\st.H i=some x):=fun i x h=>by
   simp only [AY] at h;split at h
   . rename_i e;cases h;exact .inl ⟨e,rfl⟩
   . rename_i e;exact .inr ⟨e,h⟩
 have hs':∀ i,(upd st.H b (some []) i).isSome=true->i=b\/(i≠b/\(st.H i).isSome=true):=fun i h=>by
   obtain ⟨x,hx⟩:=Option.isSome_iff_exists.1 h;rcases hs i x hx with ⟨h,_⟩ | ⟨h1,h3⟩
   . exact .inl h
   . exact .inr ⟨h1,by rw [h3];rfl⟩
 refine ⟨G',?_,by simp [G',upd],hchg⟩;refine {fr:=fun t=>hchg.rv (hI.wf t) (hI.fr t),wf:=fun t=>AV.mono hU (fun _ h=>h) (hI.wf t),hp:=?_,wh:=?_,dom:=?_,inj:=?_,own:=?_,im:=hI.im,im0:=hI.im0,keep:=hI.keep,stab:=?_,sU:=fun i hs=>hU _ (hI.sU i hs),nt:=hI.nt,df:=hI.df.imp fun ds h=>⟨h.1,h.2.same (fun _ _ _=>rfl) (fun _ _ _ h=>h)⟩}
 . intro i x h
   rcases hs i x h with ⟨rfl,rfl⟩ | ⟨h1,h3⟩
   . exact .inl ⟨by simp [G',upd],rfl⟩
   . exact hchg.hb (hI.dom i (by rw [h3];rfl)) (hI.wh i x h3) (hI.hp i x h3) (fun _=>rfl) (fun h _=>h)
 . intro i x h y hy
   rcases hs i x h with ⟨rfl,rfl⟩ | ⟨h1,h3⟩
   . cases hy
   . exact AC.mono hU (fun _ h=>h) (hI.wh i x h3 y hy)
 . intro i h
   rcases hs' i h with rfl | ⟨_,h⟩
   . exact hb'
   . exact hU _ (hI.dom i h)
 . intro i j hi hj hpi hpj he
   rcases hs' i hi with ei | ⟨ei,hi'⟩
   . simp [G',upd,if_pos ei] at hpi
   . rcases hs' j hj with ej | ⟨ej,hj'⟩
     . simp [G',upd,if_pos ej] at hpj
     . simp only [G',upd,if_neg ei,if_neg ej] at he hpi hpj
       exact hI.inj i j hi' hj' hpi hpj he
 . intro i hi hp
   rcases hs' i hi with ei | ⟨ei,hi'⟩
   . simp [G',upd,if_pos ei] at hp
   . simp only [G',upd,if_neg ei] at hp ⊢;exact hI.own i hi' hp
 . intro i h hi
   rcases hs' i hi with ei | ⟨ei,hi'⟩
   . exact absurd (ei ▸ hI.sU _ h) hb
   . simp only [G',upd,if_neg ei];exact hI.stab i h hi'
theorem WT (hI:Inv E U G st a W) {sz:Nat} (hsz:0 < sz) {x:V} {u:Value} (hx:RV G W x u) (hxw:AV U AR x) {m:Nat} {cs:List V} (hc:cellsOf st.H sz x=some (m,cs)):
   ∃ ao cap xs,u= .slice ao m cap/\xs.length=m*sz/\AJ (R1 G W) cs xs/\(∀ c∈cs,A1 U AR c)/\(∀ (j:Nat) y,xs[j]?= some y->∃ ad,ao=some ad/\W.cell? (ad.add j)=some y)/\m<=maxL:=by
 unfold cellsOf at hc;split at hc
 . rename_i u' n c
   cases hc;have hfl:=Dv hx;have hxa:=BO hx;simp only [CU,Bool.and_eq_true,beq_iff_eq,Option.isNone_iff_eq_none] at hfl;obtain ⟨⟨rfl,rfl⟩,rfl⟩:=hfl;exact ⟨none,0,[],hxa,by simp,trivial,by simp,by simp,by simp [maxL]⟩
 . rename_i sz' es
   split at hc
   . rename_i he
     subst he;cases hc;obtain ⟨ao,cap,hxa,hcap,hml,hes,vs,hm,hr⟩:=ib hx;have hfl:=B3 es hes;refine ⟨ao,cap,(List.range (es.length*sz)).map fun i=>vs (i / sz) (i % sz),hxa,by simp,?_,?_,?_,hml⟩
     . refine AJ.map_left.2 (AJ.of_get (by simp [hfl]) fun i y z hy hz=>?_)
       rw [CI hsz es hes] at hy;cases he:es[i / sz]? with
       | none=>simp [he] at hy
       | some e=>
         simp only [he,Option.bind_some] at hy
         have hlt:i < es.length*sz:=by
           have:=(List.getElem?_eq_some_iff.1 hz).1;simpa using this
         simp only [List.getElem?_map,List.getElem?_range hlt,Option.map_some,Option.some.injEq] at hz;subst hz;exact hr _ _ he _ _ hy
     . intro c hc;simp only [List.mem_map] at hc;obtain ⟨y,_,rfl⟩:=hc;trivial
     . intro j y hy
       have hlt:j < es.length*sz:=by
         have:=(List.getElem?_eq_some_iff.1 hy).1;simpa using this
       simp only [List.getElem?_map,List.getElem?_range hlt,Option.map_some,Option.some.injEq] at hy;subst hy;have h1:j / sz < es.length:=by rw [Nat.div_lt_iff_lt_mul hsz];exact hlt
       have he:=List.getElem?_eq_getElem h1;have hel:=hes _ (List.getElem_mem h1);have hmod:=Nat.mod_lt j hsz;obtain ⟨ad,hao,_,hcell⟩:=hm _ _ he;refine ⟨ad,hao,?_⟩;have:=hcell (j % sz) _ (List.getElem?_eq_getElem (by omega))
       rwa [Nat.div_add_mod' j sz] at this
   . cases hc
 . rename_i id off len sz'
   split at hc
   . rename_i he
     subst he;cases hh:st.H id with
     | none=>simp [hh] at hc
     | some hs=>
       simp only [hh,Option.bind_some] at hc;split at hc
       . rename_i hl
         cases hc;obtain ⟨hml,⟨hph,h0,hxa⟩ | ⟨hph,o',cap,hxa,hcap,hoff⟩⟩:=hx
         . subst h0
           exact ⟨none,0,[],hxa,by simp,by simp [AJ],by simp,by simp,by simp [maxL]⟩
         . obtain ⟨xs,h1,h2,h3⟩:=(hI.hp id hs hh).cells hph off (m*sz) hl
           refine ⟨some ⟨G.β id,o',none⟩,cap,xs,hxa,h1,h3,JT h3 (fun c hc=>hI.wh id hs hh c (List.mem_of_mem_drop (List.mem_of_mem_take hc))),fun j y hy=>⟨_,rfl,?_⟩,hml⟩;by_cases h0:0 < cap
           . obtain ⟨rfl,_⟩:=hoff h0
             exact h2 j y hy
           . have:m=0:=by omega
             subst this;have:=(List.getElem?_eq_some_iff.1 hy).1;simp [h1] at this
       . cases hc
   . cases hc
 . cases hc
end Go.Psl
namespace Go.Psl
variable {P:Program} {Γ:Tys} {eqs:Eqs} {E:Ent} {U U':Nat->Prop} {G:Gh} {st:St} {a:Act} {W:World}
theorem Mk {t ty e:TypeId} {y:Ty} (ht:P.underlying t=some (.slice e)) (hy:C1 P e y) (w:World) (x:Value) (ao:Option Addr) (cap:Nat) (hx:x= .slice ao 0 cap):
   (Builtin.append_ #[t,t] ty #[.slice none 0 0,x]).run P w= .ok (.slice none 0 0) w:=by
 subst hx;cases ao<;>simp [Builtin.append_,run_underlying ht,hy.sizeOf,Builtin.lenOf,Builtin.firstCells,loadCells,loadCellsFrom]
theorem I3 {size m:Nat} {ao:Option Addr} {cap:Nat} {xs:List Value} (w:World) (hl:xs.length=m*size) (hc:∀ (j:Nat) y,xs[j]?= some y->∃ ad,ao=some ad/\w.cell? (ad.add j)=some y):
   (Builtin.firstCells size m (.slice ao m cap)).run P w= .ok xs.toArray w:=by
 cases ao with
 | none=>
   have:xs=[]:=by
     cases xs with
     | nil=>rfl
     | cons x xs=>obtain ⟨_,h,_⟩:=hc 0 x rfl;cases h
   subst this;simp [Builtin.firstCells]
 | some ad=>
   exact run_firstCells_some w size m ad m cap xs hl fun j v hv=>by
     obtain ⟨_,h,h2⟩:=hc j v hv;cases h;exact h2
theorem Ml {t ty e:TypeId} {y:Ty} (ht:P.underlying t=some (.slice e)) (hy:C1 P e y) (w:World) (g o n cap:Nat) (c:Array Value) (T:TypeId) (hg:w.heap[g]?= some (.cells c T (0,0)))
   (m:Nat) (ao:Option Addr) (cx:Nat) (xs:List Value) (hl:xs.length=m*y.size) (hc:∀ (j:Nat) y,xs[j]?= some y->∃ ad,ao=some ad/\w.cell? (ad.add j)=some y) (h1:∀ v∈xs,v.oneCell'=true)
   (hroom:n+m<=cap) (hfit:o+n*y.size+xs.length<=c.size):
   (Builtin.append_ #[t,t] ty #[.slice (some ⟨g,o,none⟩) n cap, .slice ao m cx]).run P w=
     .ok (.slice (some ⟨g,o,none⟩) (n+m) cap) (w.setRow g (c.toList.take (o+n*y.size)++xs++c.toList.drop (o+n*y.size+xs.length)).toArray):=by
 have hf:=I3 (P:=P) (cap:=cx) w hl hc;have hst:=run_storeCells_at P g (o+n*y.size) T xs 0 c w hg (by simpa using hfit) h1;simp only [Nat.add_zero] at hst;simp [Builtin.append_,run_underlying ht,hy.sizeOf,Builtin.lenOf,hroom,hf,Bc,hst]
theorem H9 {t ty e:TypeId} {y:Ty} (ht:P.underlying t=some (.slice e)) (hy:C1 P e y) (w:World) (bo:Option Addr) (n cap:Nat) (os:List Value) (hlo:os.length=n*y.size) (hco:∀ (j:Nat) z,os[j]?= some z->∃ ad,bo=some ad/\w.cell? (ad.add j)=some z)
   (m:Nat) (ao:Option Addr) (cx:Nat) (xs:List Value) (hl:xs.length=m*y.size) (hc:∀ (j:Nat) z,xs[j]?= some z->∃ ad,ao=some ad/\w.cell? (ad.add j)=some z)
   (hg:cap < n+m) (h63:n+m<=maxL) (hb:(n+m)*y.bytes<=Fh):
   ∃ (z:List Value) (newCap:Nat),n+m<=newCap/\z.length=(newCap - (n+m))*y.size/\(Builtin.append_ #[t,t] ty #[.slice bo n cap, .slice ao m cx]).run P w= .ok (.slice (some ⟨w.heap.size,0,none⟩) (n+m) newCap) (w.drew.alloc (.cells (os.toArray++xs.toArray++z.toArray) e)):=by
 obtain ⟨i,zv,hi,hs,hby,hz,hzc⟩:=hy.info;have hzs:zv.cells.size=y.size:=by rw [<-Array.length_toList,hzc,hy.zl]
 have hn:¬ (n+m<=cap):=by omega
 have h63':¬ (9223372036854775807 < ((n:Int)+(m:Int))):=by unfold maxL at h63;omega
 have hfit:=growslice_fits hg hb;have hfit':¬ (281474976710656 < Builtin.nextslicecap (n+m) cap*i.bytes):=by rw [hby];omega
 have hf1:=I3 (P:=P) (cap:=cx) w.drew hl (fun j v hv=>by obtain ⟨ad,h1,h2⟩:=hc j v hv;exact ⟨ad,h1,by simpa using h2⟩);have hf2:=I3 (P:=P) (cap:=cap) w.drew hlo (fun j v hv=>by obtain ⟨ad,h1,h2⟩:=hco j v hv;exact ⟨ad,h1,by simpa using h2⟩);refine ⟨(Builtin.zeroCells zv.cells (grownCap w (n+m) cap e - (n+m))).toList,grownCap w (n+m) cap e,grownCap_ge w (n+m) cap e,by simp [size_zeroCells,hzs],?_⟩;have hzr:(zeroValue e).run P w.drew= .ok zv w.drew:=by simp [zeroValue,typeInfo,hi,hz]
 have hsz:(sizeOf e).run P w= .ok i.size w:=by simp [sizeOf,typeInfo,hi]
 rw [<-hs] at hf1 hf2;simp only [Array.toArray_toList];simp [Builtin.append_,run_underlying ht,hsz,typeInfo,hi,Builtin.lenOf,hn,h63',hfit',Question.forced,hf1,hf2,hz,zeroValue,newRow,grownCap];congr 2;apply Array.ext';simp [List.append_assoc]
theorem Inv.trunc (hI:Inv E U G st a W) {id:Nat} {cs:List V} (hh:st.H id=some cs) (hlo:G.lo id=false) (n:Nat):Inv E U G ⟨st.fr,upd st.H id (some (cs.take n)),st.nx⟩ a W:=by
 have hs:∀ i x,upd st.H id (some (cs.take n)) i=some x->(i=id/\x=cs.take n)\/(i≠id/\st.H i=some x):=fun i x h=>by
   simp only [AY] at h;split at h
   . rename_i e;cases h;exact .inl ⟨e,rfl⟩
   . rename_i e;exact .inr ⟨e,h⟩
 have hs':∀ i,(upd st.H id (some (cs.take n)) i).isSome=true->(st.H i).isSome=true:=fun i h=>by
   obtain ⟨x,hx⟩:=Option.isSome_iff_exists.1 h;rcases hs i x hx with ⟨rfl,_⟩ | ⟨_,h3⟩
   . rw [hh];rfl
   . rw [h3];rfl
 refine {hI with hp:=fun i x h=>?_,wh:=fun i x h=>?_,dom:=fun i h=>hI.dom i (hs' i h),inj:=fun i j hi hj=>hI.inj i j (hs' i hi) (hs' j hj),own:=fun i hi=>hI.own i (hs' i hi),stab:=fun i h hi=>hI.stab i h (hs' i hi)}
 . rcases hs i x h with ⟨rfl,rfl⟩ | ⟨_,h3⟩
   . rcases hI.hp i cs hh with ⟨h1,h2⟩ | ⟨h1,h0,h2,c,T,h3,h4,h5,h6,h7⟩ | ⟨_,h0,_⟩
     . exact .inl ⟨h1,by rw [h2];simp⟩
     rotate_left
     . rw [hlo] at h0;cases h0
     . refine .inr (.inl ⟨h1,h0,h2,c,T,h3,h4,by simp;omega,?_,List.all_eq_true.2 fun y hy=>List.all_eq_true.1 h7 y (List.mem_of_mem_take hy)⟩)
       have:=h6.take n;rw [List.take_take] at this;simpa [List.length_take] using this
   . exact hI.hp i x h3
 . rcases hs i x h with ⟨rfl,rfl⟩ | ⟨_,h3⟩
   . exact fun y hy=>hI.wh i cs hh y (List.mem_of_mem_take hy)
   . exact hI.wh i x h3
theorem Mm {t ty e:TypeId} {y:Ty} (ht:P.underlying t=some (.slice e)) (hy:C1 P e y) (w:World) (ad:Addr) (n cap:Nat) (hn:n<=cap) (ao:Option Addr) (cx:Nat):
   (Builtin.append_ #[t,t] ty #[.slice (some ad) n cap, .slice ao 0 cx]).run P w= .ok (.slice (some ad) n cap) w:=by
 cases ao<;>simp [Builtin.append_,run_underlying ht,hy.sizeOf,Builtin.lenOf,hn,Builtin.firstCells,loadCells,loadCellsFrom,storeCells]
theorem dP (hΓ:GOk P Γ) (hI:Inv E U G st a W) {o:Oper} {c:Call} {t:TypeId} {s x:Operand} (ho:o.op= .call c) (hc:c.callee= .builtin .append) (hca:c.args.toList=[s,x]) (hct:c.argTypes.toList=[t,t]) {b:Nat} (hb:¬ U b) (hU:∀ i,U i->U' i) (hb':U' b) {v:V} {e:Eff}
   (he:Lr Γ st.H b t (evF st.fr s) (evF st.fr x)=some (v,e)):Out P E U' st a W o v e:=by
 obtain ⟨hs,hsw⟩:=hI.op s;obtain ⟨hx,hxw⟩:=hI.op x
 have hrun:∀ z W',(Builtin.append_ #[t,t] o.type #[a.eval s,a.eval x]).run P W= .ok z W'->(execOp a.eval o).run P W= .ok (.value z) W':=fun z W' hz=>by
   have h1:c.args= #[s,x]:=Array.ext' (by simpa using hca);have h2:c.argTypes= #[t,t]:=Array.ext' (by simpa using hct);simp [execOp,ho,resolve,hc,invoke,builtin,h1,h2,hz]
 unfold Lr at he;cases hty:Γ t with
 | none=>simp [hty] at he
 | some ty=>
   simp only [hty,Option.bind_some] at he;split at he<;>first | (cases he;done) | skip
   rename_i el hsh;cases hel:Γ el with
   | none=>simp [hel] at he
   | some ye=>
     simp only [hel,Option.bind_some] at he;split at he
     . cases he
     rename_i hcond;have hpos:0 < ye.size:=by omega
     have hsame:Ei (evF st.fr s) (evF st.fr x)=false:=by
       cases h:Ei (evF st.fr s) (evF st.fr x)
       . rfl
       . exact absurd (.inr h) hcond
     have ht:=BH (hΓ t ty hty) hsh;have hye:=hΓ el ye hel;cases hcl:cellsOf st.H ye.size (evF st.fr x) with
     | none=>simp [hcl] at he
     | some p=>
       obtain ⟨m,cs⟩:=p;simp only [hcl,Option.bind_some] at he;obtain ⟨ao,capx,xs,hxa,hxl,hxr,hxok,hxc,_⟩:=WT hI hpos hx hxw hcl;split at he
       rotate_left
       . cases he
       rename_i hall;have h1:=GH hxr hall;have hcsl:=hxr.length
       have fromNil:a.eval s= .slice none 0 0->m*ye.bytes<=Fh->m<=maxL->∃ n z W' G',(execOp a.eval o).run P W= .ok n W'/\(n= .value z\/(n= .skip/\z=undef))/\Inv E U' G' ⟨st.fr,upd st.H b (some cs),st.nx⟩ a W'/\RV G' W' (.ls b 0 m ye.size) z:=fun hsa hmb hml=>by
         rw [hsa,hxa] at hrun;by_cases hm:m=0
         . subst hm
           have hcs:cs=[]:=List.eq_nil_of_length_eq_zero (by rw [hcsl,hxl];simp);subst hcs;obtain ⟨G',hI',hph,_⟩:=hI.phantom hb hU hb';exact ⟨_, .slice none 0 0,W,G',hrun _ _ (Mk ht hye W _ ao capx rfl), .inl rfl,hI',by simp [maxL], .inl ⟨hph,rfl,rfl⟩⟩
         . obtain ⟨z,nc,hnc,hzl,hr⟩:=H9 (P:=P) (ty:=o.type) ht hye W none 0 0 [] (by simp) (by simp) m ao capx xs hxl hxc (by omega) (by omega) (by simpa using hmb)
           simp only [Nat.zero_add] at hr hnc hzl;obtain ⟨G',hI',e1,e2,e3,_⟩:=hI.alloc (W1:=W.drew) (T:=el) hb hU hb' (cs:=cs) (c:=(#[]++xs.toArray++z.toArray)) rfl rfl rfl rfl (by simp;omega) (by simpa [hcsl] using hxr) hall hxok;refine ⟨_,_,_,G',hrun _ _ hr, .inl rfl,hI',hml, .inr ⟨e3,0,nc,by rw [e1],hnc,fun _=>⟨rfl,?_⟩⟩⟩;rw [e2];have e4:nc*ye.size=m*ye.size+(nc - m)*ye.size:=by rw [<-Nat.add_mul];congr 1;omega
           simp only [Array.size_append,List.size_toArray,hzl,hxl];simp;omega
       split at he
       . rename_i u n cc hsv
         split at he
         . rename_i hbd
           cases he;have hfl:=Dv (hsv ▸ hs);have hsa:=BO (hsv ▸ hs);simp only [CU,Bool.and_eq_true,beq_iff_eq,Option.isNone_iff_eq_none] at hfl;obtain ⟨⟨rfl,rfl⟩,rfl⟩:=hfl;obtain ⟨n,z,W',G',q1,q2,q3,q4⟩:=fromNil hsa hbd.1 hbd.2;exact ⟨n,z,W',G',q1,q2,q3,q4,hb'⟩
         . cases he
       . rename_i id len sz hsv
         split at he
         rotate_left
         . cases he
         rename_i hsz;subst hsz;cases hh:st.H id with
         | none=>simp [hh] at he
         | some hs0=>
           simp only [hh,Option.bind_some] at he;split at he
           rotate_left
           . cases he
           rename_i hbd;obtain ⟨hfit,hbb,hml⟩:=hbd;cases he;rw [hsv] at hs hsw;have hidb:id≠b:=fun e=>hb (e ▸ hsw)
           obtain ⟨hlm,⟨hph,h0,hsa⟩ | ⟨hph,o',cap,hsa,hcap,hoff⟩⟩:=hs
           . subst h0
             obtain ⟨n,z,W',G',q1,q2,q3,q4⟩:=fromNil hsa (by simpa using hbb) (by simpa using hml);refine ⟨n,z,W',G',q1,q2,?_,by simpa using q4,hb'⟩;have:=q3.drop id
             have e:upd (upd st.H id none) b (some (hs0.take (0*ye.size)++cs))=upd (upd st.H b (some cs)) id none:=by
               funext i
               simp only [upd,Nat.zero_mul,List.take_zero,List.nil_append];by_cases h1:i=b<;>by_cases h2:i=id<;>simp_all
             show Inv E U' G' ⟨st.fr,upd (upd st.H id none) b (some (hs0.take (0*ye.size)++cs)),st.nx⟩ a W'
             rw [e];exact this
           . obtain ⟨hnim,cb,T,hg,hbs,hcl0,hcr,hca0⟩:=(hI.hp id hs0 hh).read hph
             have hold:AJ (R1 G W) (hs0.take (len*ye.size)) (cb.toList.take (len*ye.size)):=by
               have:=hcr.take (len*ye.size)
               rwa [List.take_take,Nat.min_eq_left hfit] at this
             have hallnew:(hs0.take (len*ye.size)++cs).all V.isCell=true:=by
               simp only [List.all_append,Bool.and_eq_true];exact ⟨List.all_eq_true.2 fun y hy=>List.all_eq_true.1 hca0 y (List.mem_of_mem_take hy),hall⟩
             have hoknew:∀ y∈hs0.take (len*ye.size)++cs,A1 U AR y:=fun y hy=>by
               rcases List.mem_append.1 hy with hy | hy
               . exact JT hcr (hI.wh id hs0 hh) y (List.mem_of_mem_take hy)
               . exact hxok y hy
             have hlen:(hs0.take (len*ye.size)++cs).length=(len+m)*ye.size:=by
               simp [Nat.add_mul];omega
             rw [hsa,hxa] at hrun;by_cases hm0:m=0
             . subst hm0
               have hcs:cs=[]:=List.eq_nil_of_length_eq_zero (by rw [hcsl,hxl];simp);subst hcs;have h2:=hI.trunc hh hph.2 (len*ye.size);obtain ⟨G',hI',e1,e2,e3,hchg⟩:=h2.rename (cs:=hs0.take (len*ye.size)) (b:=b) (id:=id) (by simp [upd]) hph hb hU hb';refine ⟨_, .slice (some ⟨G.β id,o',none⟩) len cap,W,G',hrun _ _ (Mm ht hye W _ len cap hcap ao capx), .inl rfl,?_,⟨by simpa using hml, .inr ⟨e3,o',cap,by rw [e1];rfl,by simpa using hcap,fun h0=>?_⟩⟩,hb'⟩
               . have e:upd (upd (upd st.H id (some (hs0.take (len*ye.size)))) id none) b (some (hs0.take (len*ye.size)))=upd (upd st.H id none) b (some (hs0.take (len*ye.size)++[])):=by
                   funext i;simp only [upd,List.append_nil];by_cases h1:i=b<;>by_cases h2:i=id<;>simp_all
                 have:=hI';rw [e] at this;exact this
               . rw [e2];exact hoff h0
             by_cases hroom:len+m<=cap
             . obtain ⟨rfl,hb2⟩:=hoff (by omega)
               have hmul:(len+m)*ye.size<=cap*ye.size:=Nat.mul_le_mul_right _ hroom;have hmul2:(len+m)*ye.size=len*ye.size+m*ye.size:=Nat.add_mul _ _ _;have hr:=Ml (P:=P) (ty:=o.type) ht hye W (G.β id) 0 len cap cb T hg m ao capx xs hxl hxc h1 hroom (by omega)
               obtain ⟨h2,_⟩:=hI.put hh hph (cs:=hs0.take (len*ye.size)++cs) (setRow_heap W _ cb (cb.toList.take (0+len*ye.size)++xs++cb.toList.drop (0+len*ye.size+xs.length)).toArray T (0,0) hg) (fun k hk=>setRow_other W _ k _ hk) (by simp) rfl rfl rfl
                 (by simp;omega) (by rw [hlen];simp;omega) (by
                   rw [hlen,hmul2,<-hxl]
                   have:(cb.toList.take (0+len*ye.size)++xs++cb.toList.drop (0+len*ye.size+xs.length)).toArray.toList.take (len*ye.size+xs.length)=cb.toList.take (len*ye.size)++xs:=by
                     simp only [Nat.zero_add];rw [List.take_append,List.take_of_length_le (by simp;omega)];simp only [List.length_append,List.length_take,Array.length_toList];rw [show len*ye.size+xs.length - (min (len*ye.size) cb.size+xs.length)=0 by omega];simp
                   rw [this];exact hold.append hxr) hallnew hoknew
               obtain ⟨G',hI',e1,e2,e3,hchg⟩:=h2.rename (cs:=hs0.take (len*ye.size)++cs) (b:=b) (id:=id) (by simp [upd]) hph hb hU hb';refine ⟨_,_,_,G',hrun _ _ hr, .inl rfl,?_,⟨hml, .inr ⟨e3,0,cap,by rw [e1],hroom,fun _=>⟨rfl,by rw [e2];omega⟩⟩⟩,hb'⟩
               have e:upd (upd (upd st.H id (some (hs0.take (len*ye.size)++cs))) id none) b (some (hs0.take (len*ye.size)++cs))=upd (upd st.H id none) b (some (hs0.take (len*ye.size)++cs)):=by
                 funext i;simp only [upd];by_cases h1:i=b<;>by_cases h2:i=id<;>simp_all
               have:=hI';rw [e] at this;exact this
             . have hco:∀ (j:Nat) z,(cb.toList.take (len*ye.size))[j]?= some z->∃ ad,(some ⟨G.β id,o',none⟩:Option Addr)=some ad/\W.cell? (ad.add j)=some z:=fun j z hz=>by
                 refine ⟨_,rfl,?_⟩;rw [List.getElem?_take] at hz;split at hz
                 . rename_i hj
                   have hlp:0 < cap:=by
                     rcases Nat.eq_zero_or_pos len with h0 | h0
                     . subst h0;simp at hj
                     . omega
                   obtain ⟨rfl,_⟩:=hoff hlp;rw [Bc];simp only [World.cell?,hg,Nat.zero_add];simpa using hz
                 . cases hz
               obtain ⟨z,nc,hnc,hzl,hr⟩:=H9 (P:=P) (ty:=o.type) ht hye W (some ⟨G.β id,o',none⟩) len cap (cb.toList.take (len*ye.size)) (by simp;omega) hco m ao capx xs hxl hxc (by omega) hml hbb;have hmul2:(len+m)*ye.size=len*ye.size+m*ye.size:=Nat.add_mul _ _ _
               obtain ⟨G',hI',e1,e2,e3,_⟩:=hI.alloc (W1:=W.drew) (T:=el) hb hU hb' (cs:=hs0.take (len*ye.size)++cs) (c:=((cb.toList.take (len*ye.size)).toArray++xs.toArray++z.toArray)) rfl rfl rfl rfl (by rw [hlen];simp;omega) (by
                   rw [hlen,hmul2,<-hxl]
                   have:((cb.toList.take (len*ye.size)).toArray++xs.toArray++z.toArray).toList.take (len*ye.size+xs.length)=cb.toList.take (len*ye.size)++xs:=by
                     simp only [Array.toList_append];rw [List.take_append,List.take_of_length_le (by simp;omega)];simp only [List.length_append,List.length_take,Array.length_toList];rw [show len*ye.size+xs.length - (min (len*ye.size) cb.size+xs.length)=0 by omega];simp
                   rw [this];exact hold.append hxr) hallnew hoknew
               have h3:=hI'.drop id;refine ⟨_,_,_,G',hrun _ _ hr, .inl rfl,?_,⟨hml, .inr ⟨e3,0,nc,by rw [e1],hnc,fun _=>⟨rfl,?_⟩⟩⟩,hb'⟩
               . have e:upd (upd st.H b (some (hs0.take (len*ye.size)++cs))) id none=upd (upd st.H id none) b (some (hs0.take (len*ye.size)++cs)):=by
                   funext i;simp only [upd];by_cases h1:i=b<;>by_cases h2:i=id<;>simp_all
                 have:=h3;simp only at this;rw [e] at this;exact this
               . rw [e2]
                 have e4:nc*ye.size=(len+m)*ye.size+(nc - (len+m))*ye.size:=by rw [<-Nat.add_mul];congr 1;omega
                 simp only [Array.size_append,List.size_toArray,hzl,hxl,List.length_take,Array.length_toList];omega
       . cases he
end Go.Psl
namespace Go.Psl
variable {P:Program} {Γ:Tys} {eqs:Eqs} {E:Ent} {U U':Nat->Prop} {G:Gh} {st:St} {a:Act} {W:World}
theorem EL:RV G W (.tup []) undef:=⟨#[],rfl,trivial⟩
theorem Ip {n:Nat} {zs:List V}:(AM n zs).length=n*zs.length:=by
 unfold AM;rw [B3 (sz:=zs.length) _ (fun e he=>by rw [(List.eq_of_mem_replicate he)])];simp
theorem D5 {n:Nat} {zs:List V} {x:V} (h:x∈AM n zs):x∈zs:=by
 simp only [AM,List.mem_flatten] at h;obtain ⟨l,hl,hx⟩:=h
 rwa [List.eq_of_mem_replicate hl] at hx
theorem sZ {n:Nat} {el:TypeId} {ye:Ty} (hTe:C1 P el ye) (hpos:0 < ye.size) {z:Value} (hzc:z.cells.toList=ye.zero):AJ (R1 G W) (AM n (ye.zero.map cV)) (Builtin.zeroCells z.cells n).toList:=by
 have hzl:z.cells.size=ye.size:=by rw [<-Array.length_toList,hzc,hTe.zl]
 have hsz0:(Builtin.zeroCells z.cells n).size=n*ye.size:=by simp [Builtin.zeroCells,hzl]
 refine AJ.of_get ?_ fun i x y hx hy=>?_
 . rw [Ip];simp [hTe.zl,hsz0]
 . have hi:i < n*ye.size:=by
     have:=(List.getElem?_eq_some_iff.1 hy).1;rw [Array.length_toList,hsz0] at this;exact this
   unfold AM at hx;rw [CI hpos _ (fun e he=>by rw [(List.eq_of_mem_replicate he)];simp [hTe.zl])] at hx;have h1:i / ye.size < n:=by rw [Nat.div_lt_iff_lt_mul hpos];exact hi
   rw [List.getElem?_replicate,if_pos h1] at hx;simp only [Option.bind_some,List.getElem?_map] at hx;have hm:i % ye.size < ye.size:=Nat.mod_lt _ hpos;obtain ⟨w0,hw0⟩:∃ w0,z.cells[i % ye.size]?= some w0:=⟨z.cells[i % ye.size]'(by rw [hzl];exact hm),Array.getElem?_eq_getElem _⟩
   have hzi:ye.zero[i % ye.size]?= some w0:=by rw [<-hzc,Array.getElem?_toList];exact hw0
   rw [hzi] at hx;simp only [Option.map_some,Option.some.injEq] at hx;subst hx
   have hy2:y=w0:=by
     have hlt:i < n*z.cells.size:=by rw [hzl];exact hi
     simp [Builtin.zeroCells,getElem!_def,hzl] at hy;obtain ⟨k,hk,hy⟩:=hy;rw [List.getElem?_range (by rw [hzl] at hlt;exact hlt)] at hk;cases hk;rw [hw0] at hy;exact hy.symm
   subst hy2;exact RD.lit _ (List.all_eq_true.1 hTe.zf _ (List.mem_of_getElem? hzi))
theorem WL (hΓ:GOk P Γ) (hI:Inv E U G st a W) {o:Oper} {c:Call} {x:Operand} {t:TypeId} (ho:o.op= .call c) (hc:c.callee= .builtin .clear) (ha:c.args.toList=[x]) (ht:c.argTypes.toList=[t]) {v:V} {e:Eff}
   (he:Xo Γ st.H t (evF st.fr x)=some (v,e)):Out P E U st a W o v e:=by
 obtain ⟨hx,_⟩:=hI.op x
 have hrun:∀ W',(Builtin.clear_ #[t] o.type #[a.eval x]).run P W= .ok undef W'->(execOp a.eval o).run P W= .ok (.value undef) W':=fun W' hz=>by
   have h1:c.args= #[x]:=Array.ext' (by simpa using ha);have h2:c.argTypes= #[t]:=Array.ext' (by simpa using ht);simp [execOp,ho,resolve,hc,invoke,builtin,h1,h2,hz]
 unfold Xo at he;cases hty:Γ t with
 | none=>simp [hty] at he
 | some ty=>
   simp only [hty,Option.bind_some] at he;have hT:=hΓ t ty hty;split at he<;>first | (cases he;done) | skip
   rename_i el hsh;cases hel:Γ el with
   | none=>simp [hel] at he
   | some ye=>
     simp only [hel,Option.bind_some] at he;have hTe:=hΓ el ye hel;split at he
     . rename_i h1
       cases he;rw [h1] at hx;have hxa:=BO hx;rw [hxa] at hrun;refine Out.pure hI (hrun W ?_) EL (fun _ h=>by cases h);simp [Builtin.clear_,run_underlying (BH hT hsh)];rfl
     . rename_i id off len sz h1
       rw [h1] at hx;split at he
       . rename_i h0
         cases he;refine Out.pure hI (hrun W ?_) EL (fun _ h=>by cases h);subst h0;rcases hx.2 with ⟨_,_,hxa⟩ | ⟨_,o',cap,hxa,_⟩<;>rw [hxa]
         . simp [Builtin.clear_,run_underlying (BH hT hsh)];rfl
         . simp [Builtin.clear_,run_underlying (BH hT hsh)];rfl
       . rename_i h0
         split at he
         . rename_i hs
           obtain ⟨hsz,hpos⟩:=hs;cases hh:st.H id with
           | none=>simp [hh] at he
           | some cs=>
             simp only [hh,Option.bind_some] at he;split at he
             . rename_i hle
               cases he;rcases hx.2 with ⟨_,h,_⟩ | ⟨hph,o',cap,hxa,hcap,ho'⟩
               . exact absurd h h0
               obtain ⟨rfl,hbd⟩:=ho' (by omega);obtain ⟨hnim,c,T,hb,hbs,hcl,hcr,hca⟩:=(hI.hp id cs hh).read hph;obtain ⟨z,hz,hzc⟩:=hTe.zeroValue W;have hrel:AJ (R1 G W) (AM len (ye.zero.map cV)) (Builtin.zeroCells z.cells len).toList:=sZ hTe (by omega) hzc;have hlen:=hrel.length;have hlr:(AM len (ye.zero.map cV)).length=len*sz:=by rw [Ip,List.length_map,hTe.zl,hsz]
               have hone:∀ x∈(Builtin.zeroCells z.cells len).toList,x.oneCell'=true:=GH hrel (List.all_eq_true.2 fun x hx=>List.all_eq_true.1 (Er ye.zero) x (D5 hx));have hst:=run_storeCells_at P (G.β id) o' T (Builtin.zeroCells z.cells len).toList 0 c W hb (by omega) hone
               obtain ⟨hI',hchg⟩:=hI.put hh hph (cs:=AA cs o' (AM len (ye.zero.map cV))) (c:=(c.toList.take o'++(Builtin.zeroCells z.cells len).toList++c.toList.drop (o'+(Builtin.zeroCells z.cells len).toList.length)).toArray) (T:=T)
                 (W':=W.setRow (G.β id) (c.toList.take o'++(Builtin.zeroCells z.cells len).toList++c.toList.drop (o'+(Builtin.zeroCells z.cells len).toList.length)).toArray)
                 (setRow_heap W _ c _ T (0,0) hb) (fun k hk=>setRow_other W _ k _ hk) (by simp) rfl rfl rfl
                 (by simp at*;omega) (by simp [AA] at*;omega)
                 (by simpa using sF hcr (by simpa using hcl) hrel o' (by omega)) (HT o' hca (List.all_eq_true.2 fun x hx=>List.all_eq_true.1 (Er ye.zero) x (D5 hx))) (HU o' (JT hcr (hI.wh id cs hh)) (fun x hx=>Ie _ x (D5 hx)))
               refine ⟨.value undef,undef,_,G,hrun _ ?_, .inl rfl,hI',EL,fun _ h=>by cases h⟩;rw [hxa];simp only [Nat.add_zero] at hst;obtain ⟨len',rfl⟩:∃ l,len=l+1:=⟨len - 1,by omega⟩
               generalize (c.toList.take o'++(Builtin.zeroCells z.cells (len'+1)).toList++c.toList.drop (o'+(Builtin.zeroCells z.cells (len'+1)).toList.length)).toArray=cc at hst ⊢
               simp [Builtin.clear_,run_underlying (BH hT hsh),hz];rw [hst];rfl
             . cases he
         . cases he
     . cases he
end Go.Psl
namespace Go.Psl
variable {P:Program} {Γ:Tys} {eqs:Eqs} {E:Ent} {U U':Nat->Prop} {G:Gh} {st:St} {a:Act} {W:World}
theorem cZ (hΓ:GOk P Γ) (hI:Inv E U G st a W) {o:Oper} {c:Call} {x:Operand} {t:TypeId} (ho:o.op= .call c) (hc:c.callee= .builtin .cap) (ha:c.args.toList=[x]) (ht:c.argTypes.toList=[t]) {v:V} {e:Eff}
   (he:Wg Γ t (evF st.fr x)=some (v,e)):Out P E U st a W o v e:=by
 obtain ⟨hx,_⟩:=hI.op x
 have hrun:∀ z,(Builtin.cap_ #[t] o.type #[a.eval x]).run P W= .ok z W->(execOp a.eval o).run P W= .ok (.value z) W:=fun z hz=>by
   have h1:c.args= #[x]:=Array.ext' (by simpa using ha);have h2:c.argTypes= #[t]:=Array.ext' (by simpa using ht);simp [execOp,ho,resolve,hc,invoke,builtin,h1,h2,hz]
 unfold Wg at he;cases hty:Γ t with
 | none=>simp [hty] at he
 | some ty=>
   simp only [hty,Option.bind_some] at he;have hT:=hΓ t ty hty;split at he<;>first | (cases he;done) | skip
   rename_i el u n cc hsh h1;cases he;rw [h1] at hx;have hfl:=Dv hx;have hxa:=BO hx;simp only [CU,Bool.and_eq_true,beq_iff_eq,Option.isNone_iff_eq_none] at hfl;obtain ⟨⟨rfl,rfl⟩,rfl⟩:=hfl;rw [hxa] at hrun;refine Out.pure hI (hrun (.int .i64 0) ?_) (BK rfl) trivial;simp [Builtin.cap_,run_underlying (BH hT hsh),goInt]
theorem iR {t t' ty e:TypeId} {y:Ty} {k k':IntKind} (ht:P.underlying t=some (.slice e)) (ht':P.underlying t'=some (.int k')) (hy:C1 P e y) (w:World) (n:Nat) (hn:0 < n) (hpos:0 < y.size) (h63:n<=maxL) (hb:n*y.bytes<=Fh):
   ∃ (zv:Value) (newCap:Nat),zv.cells.toList=y.zero/\n<=newCap/\(Builtin.append_ #[t,t'] ty #[.slice none 0 0, .int k n]).run P w= .ok (.slice (some ⟨w.heap.size,0,none⟩) n newCap) (w.drew.alloc (.cells (Builtin.zeroCells zv.cells n++Builtin.zeroCells zv.cells (newCap - n)) e)):=by
 obtain ⟨i,zv,hi,hs,hby,hz,hzc⟩:=hy.info
 have hwr:IntKind.i64.wrap (n:Int)=n:=by
   have:∀ m:Int,m=(n:Int) % 18446744073709551616->(if m>=9223372036854775808 then m - 18446744073709551616 else m)=(n:Int):=fun m hm=>by unfold maxL at h63;split<;>omega
   simpa [IntKind.wrap,IntKind.bits,IntKind.signed] using this _ rfl
 have h1:¬ ((n:Int) < 0):=by omega
 have h2:¬ (281474976710656 < (n:Int)*(i.bytes:Int)):=by
   rw [hby];unfold Fh at hb;have:(n:Int)*(y.bytes:Int)=((n*y.bytes:Nat):Int):=by simp
   rw [this];omega
 have h3:¬ (n<=0):=by omega
 have hnle:¬ ((n:Int)<=0):=by omega
 have h63':¬ (9223372036854775807 < (n:Int)):=by unfold maxL at h63;omega
 have hfit:=growslice_fits (need:=n) (old:=0) (by omega) hb;have hfit':¬ (281474976710656 < Builtin.nextslicecap n 0*i.bytes):=by rw [hby];omega
 refine ⟨zv,grownCap w n 0 e,hzc,grownCap_ge w n 0 e,?_⟩;have hsz:(sizeOf e).run P w= .ok i.size w:=by simp [sizeOf,typeInfo,hi]
 have hsz0:¬ n*i.size=0:=by rw [hs];exact Nat.ne_of_gt (Nat.mul_pos hn hpos)
 have hn0:¬ n=0:=by omega
 have hs0:¬ i.size=0:=by omega
 simp [Builtin.append_,asInt,asIntOf,Builtin.firstCells,hsz0,hn0,run_underlying ht,run_underlying ht',hsz,typeInfo,hi,Builtin.lenOf,hwr,h1,h2,h63',hfit',Question.forced,hz,zeroValue,newRow,grownCap]
theorem cd {t t' ty e:TypeId} {y:Ty} {k k':IntKind} (ht:P.underlying t=some (.slice e)) (ht':P.underlying t'=some (.int k')) (hy:C1 P e y) (w:World):
   (Builtin.append_ #[t,t'] ty #[.slice none 0 0, .int k 0]).run P w= .ok (.slice none 0 0) w:=by
 obtain ⟨i,zv,hi,hs,hby,hz,hzc⟩:=hy.info;have hwr:IntKind.i64.wrap 0=0:=by decide
 have hsz:(sizeOf e).run P w= .ok i.size w:=by simp [sizeOf,typeInfo,hi]
 simp [Builtin.append_,asInt,asIntOf,run_underlying ht,run_underlying ht',hsz,typeInfo,hi,hwr]
theorem ci (hΓ:GOk P Γ) (hI:Inv E U G st a W) {o:Oper} {c:Call} {t t':TypeId} {s x:Operand} (ho:o.op= .call c) (hc:c.callee= .builtin .append) (hca:c.args.toList=[s,x]) (hct:c.argTypes.toList=[t,t']) {b:Nat} (hb:¬ U b) (hU:∀ i,U i->U' i) (hb':U' b) {v:V} {e:Eff}
   (he:Wh Γ b t t' (evF st.fr s) (evF st.fr x)=some (v,e)):Out P E U' st a W o v e:=by
 obtain ⟨hs,hsw⟩:=hI.op s;obtain ⟨hx,hxw⟩:=hI.op x
 have hrun:∀ z W',(Builtin.append_ #[t,t'] o.type #[a.eval s,a.eval x]).run P W= .ok z W'->(execOp a.eval o).run P W= .ok (.value z) W':=fun z W' hz=>by
   have h1:c.args= #[s,x]:=Array.ext' (by simpa using hca);have h2:c.argTypes= #[t,t']:=Array.ext' (by simpa using hct);simp [execOp,ho,resolve,hc,invoke,builtin,h1,h2,hz]
 unfold Wh at he;cases hty:Γ t with
 | none=>simp [hty] at he
 | some ty=>
   simp only [hty,Option.bind_some] at he;split at he<;>first | (cases he;done) | skip
   rename_i el hsh;cases hel:Γ el with
   | none=>simp [hel] at he
   | some ye=>
     simp only [hel,Option.bind_some] at he;cases hti:Γ t' with
     | none=>simp [hti] at he
     | some ti=>
       simp only [hti,Option.bind_some] at he;split at he<;>first | (cases he;done) | skip
       rename_i k' u nn cc kk n hshi h1 h2;split at he
       rotate_left
       . cases he
       rename_i hcond;obtain ⟨hpos,hn0,hmb,hml⟩:=hcond;cases he;rw [h1] at hs;rw [h2] at hx;have hfl:=Dv hs;have hsa:=BO hs;have hxa:=BO hx;simp only [CU,Bool.and_eq_true,beq_iff_eq,Option.isNone_iff_eq_none] at hfl;obtain ⟨⟨rfl,rfl⟩,rfl⟩:=hfl;have ht:=BH (hΓ t ty hty) hsh;have ht':=So (hΓ t' ti hti) hshi;have hye:=hΓ el ye hel;rw [hsa,hxa] at hrun;obtain ⟨m,rfl⟩:∃ m:Nat,n=m:=⟨n.toNat,by omega⟩
       simp only [Int.toNat_natCast] at hmb hml ⊢;by_cases hm:m=0
       . subst hm
         obtain ⟨G',hI',hph,_⟩:=hI.phantom hb hU hb';refine ⟨_, .slice none 0 0,W,G',hrun _ _ (cd ht ht' hye W), .inl rfl,?_,⟨by simp [maxL], .inl ⟨hph,rfl,rfl⟩⟩,hb'⟩;have e0:AM 0 (ye.zero.map cV)=[]:=rfl;rw [e0];exact hI'
       . obtain ⟨zv,nc,hzc,hnc,hr⟩:=iR (k:=kk) (ty:=o.type) ht ht' hye W m (by omega) hpos hml hmb
         have hrel:AJ (R1 G W) (AM m (ye.zero.map cV)) (Builtin.zeroCells zv.cells m).toList:=sZ hye hpos hzc;have hzl:zv.cells.size=ye.size:=by rw [<-Array.length_toList,hzc,hye.zl]
         have hsz0:(Builtin.zeroCells zv.cells m).size=m*ye.size:=by simp [Builtin.zeroCells,hzl]
         have hsz1:(Builtin.zeroCells zv.cells (nc - m)).size=(nc - m)*ye.size:=by simp [Builtin.zeroCells,hzl]
         have hz0:(Builtin.zeroCells zv.cells m).toList.length=m*ye.size:=by rw [Array.length_toList];exact hsz0
         have hrl:(AM m (ye.zero.map cV)).length=m*ye.size:=by rw [Ip];simp [hye.zl]
         have hall:(AM m (ye.zero.map cV)).all V.isCell=true:=List.all_eq_true.2 fun x hx=>List.all_eq_true.1 (Er ye.zero) x (D5 hx)
         have hok:∀ y∈AM m (ye.zero.map cV),A1 U AR y:=fun y hy=>by
           have:=D5 hy;obtain ⟨z,_,rfl⟩:=List.mem_map.1 this;exact trivial
         obtain ⟨G',hI',e1,e2,e3,_⟩:=hI.alloc (W1:=W.drew) (T:=el) hb hU hb' (cs:=AM m (ye.zero.map cV)) (c:=Builtin.zeroCells zv.cells m++Builtin.zeroCells zv.cells (nc - m)) rfl rfl rfl rfl (by rw [hrl,Array.size_append,hsz0];omega) (by
           rw [Array.toList_append,List.take_append,List.take_of_length_le (by rw [hz0,hrl];omega)];rw [show (AM m (ye.zero.map cV)).length - (Builtin.zeroCells zv.cells m).toList.length=0 by rw [hz0,hrl];omega];simpa using hrel) hall hok
         refine ⟨_,_,_,G',hrun _ _ hr, .inl rfl,hI',⟨hml, .inr ⟨e3,0,nc,by rw [e1],hnc,fun _=>⟨rfl,?_⟩⟩⟩,hb'⟩;rw [e2,Array.size_append,hsz0,hsz1];have e4:nc*ye.size=m*ye.size+(nc - m)*ye.size:=by rw [<-Nat.add_mul];congr 1;omega
         omega
end Go.Psl
namespace Go.Psl
variable {P:Program} {Γ:Tys} {eqs:Eqs} {E:Ent} {U U':Nat->Prop} {G:Gh} {st:St} {a:Act} {W:World}
theorem jW {n:Int} (h0:0<=n) (h1:n<=maxL):IntKind.i64.wrap n=n:=by
 have:∀ m:Int,m=n % 18446744073709551616->(if m>=9223372036854775808 then m - 18446744073709551616 else m)=n:=fun m hm=>by unfold maxL at h1;split<;>omega
 simpa [IntKind.wrap,IntKind.bits,IntKind.signed] using this _ rfl
theorem iL {t e:TypeId} {y:Ty} {k k':IntKind} (ht:P.underlying t=some (.slice e)) (hy:C1 P e y) (w:World) (n m:Nat) (hnm:n<=m) (h63:m<=maxL) (hb:m*y.bytes<=Fh):
   ∃ (zv:Value),zv.cells.toList=y.zero/\(Instr.makeSlice t (.int k n) (.int k' m)).run P w= .ok (.slice (some ⟨w.heap.size,0,none⟩) n m) (w.alloc (.cells ((Array.range (m*y.size)).map (zv.cells[· % zv.cells.size]!)) e)):=by
 obtain ⟨i,zv,hi,hs,hby,hz,hzc⟩:=hy.info;have hwn:=jW (n:=(n:Int)) (by omega) (by omega);have hwm:=jW (n:=(m:Int)) (by omega) (by omega);have hsz:(sizeOf e).run P w= .ok i.size w:=by simp [sizeOf,typeInfo,hi]
 have h2:¬ (281474976710656 < (i.bytes:Int)*(m:Int)):=by
   rw [hby];unfold Fh at hb;have:(y.bytes:Int)*(m:Int)=((m*y.bytes:Nat):Int):=by simp [Int.mul_comm]
   rw [this];omega
 have h3:¬ ((m:Int) < 0):=by omega
 have h4:¬ ((n:Int) < 0):=by omega
 have h5:¬ ((m:Int) < (n:Int)):=by omega
 have hroom:¬ (roomBytes < m*i.bytes):=by
   rw [hby];unfold Fh at hb;unfold roomBytes;omega
 refine ⟨zv,hzc,?_⟩;have hzv:(zeroValue e).run P w= .ok zv w:=by simp [zeroValue,typeInfo,hi,hz]
 by_cases h0:m*i.size=0
 . have h0':m*y.size=0:=by rw [<-hs];exact h0
   simp [Instr.makeSlice,asInt,asIntOf,run_underlying ht,typeInfo,hi,hwn,hwm,h2,h3,h4,h5,hsz,h0,h0',newRow,askRoom];have hr0:∀ g:Nat->Value,(Array.range 0).map g= #[]:=fun g=>Array.ext' (by simp)
   rw [hr0,hr0]
 . simp [Instr.makeSlice,asInt,asIntOf,run_underlying ht,typeInfo,hi,hwn,hwm,h2,h3,h4,h5,hsz,h0,hzv,newRow,askRoom]
   rw [hs]
theorem iM (hΓ:GOk P Γ) (hI:Inv E U G st a W) {o:Oper} {t:TypeId} {l c:Operand} (ho:o.op= .makeSlice t l c) {b:Nat} (hb:¬ U b) (hU:∀ i,U i->U' i) (hb':U' b) {v:V} {e:Eff}
   (he:Wi Γ b t (evF st.fr l) (evF st.fr c)=some (v,e)):Out P E U' st a W o v e:=by
 obtain ⟨hl,_⟩:=hI.op l;obtain ⟨hc,_⟩:=hI.op c;unfold Wi at he;cases hty:Γ t with
 | none=>simp [hty] at he
 | some ty=>
   simp only [hty,Option.bind_some] at he;split at he<;>first | (cases he;done) | skip
   rename_i el hsh;cases hel:Γ el with
   | none=>simp [hel] at he
   | some ye=>
     simp only [hel,Option.bind_some] at he;split at he<;>first | (cases he;done) | skip
     rename_i k n k' m h1 h2;split at he
     rotate_left
     . cases he
     rename_i hcond;obtain ⟨hpos,hn0,hnm,hmb,hml⟩:=hcond;cases he;rw [h1] at hl;rw [h2] at hc;have hla:=BO hl;have hca:=BO hc;have ht:=BH (hΓ t ty hty) hsh;have hye:=hΓ el ye hel;obtain ⟨n,rfl⟩:∃ q:Nat,n=q:=⟨n.toNat,by omega⟩
     obtain ⟨m,rfl⟩:∃ q:Nat,m=q:=⟨m.toNat,by omega⟩
     simp only [Int.toNat_natCast] at hmb ⊢;obtain ⟨zv,hzc,hr⟩:=iL (k:=k) (k':=k') ht hye W n m (by omega) (by omega) hmb;have hzl:zv.cells.size=ye.size:=by rw [<-Array.length_toList,hzc,hye.zl]
     have hrl:(AM n (ye.zero.map cV)).length=n*ye.size:=by rw [Ip];simp [hye.zl]
     have hrel:AJ (R1 G W) (AM n (ye.zero.map cV)) (Builtin.zeroCells zv.cells n).toList:=sZ hye hpos hzc;have hcs:((Array.range (m*ye.size)).map (zv.cells[· % zv.cells.size]!)).size=m*ye.size:=by simp
     have hle:n*ye.size<=m*ye.size:=Nat.mul_le_mul_right _ (by omega)
     have htake:((Array.range (m*ye.size)).map (zv.cells[· % zv.cells.size]!)).toList.take (n*ye.size)=(Builtin.zeroCells zv.cells n).toList:=by
       simp only [Builtin.zeroCells,Array.toList_map,Array.toList_range,hzl,<-List.map_take,List.take_range,Nat.min_eq_left hle]
     have hall:(AM n (ye.zero.map cV)).all V.isCell=true:=List.all_eq_true.2 fun x hx=>List.all_eq_true.1 (Er ye.zero) x (D5 hx)
     have hok:∀ y∈AM n (ye.zero.map cV),A1 U AR y:=fun y hy=>by
       have:=D5 hy;obtain ⟨z,_,rfl⟩:=List.mem_map.1 this;exact trivial
     obtain ⟨G',hI',e1,e2,e3,_⟩:=hI.alloc (W1:=W) (T:=el) hb hU hb' (cs:=AM n (ye.zero.map cV)) (c:=(Array.range (m*ye.size)).map (zv.cells[· % zv.cells.size]!)) rfl rfl rfl rfl (by rw [hrl,hcs];exact hle) (by rw [hrl,htake];exact hrel) hall hok;refine ⟨_,_,_,G',?_, .inl rfl,hI',⟨by omega, .inr ⟨e3,0,m,by rw [e1],by omega,fun _=>⟨rfl,?_⟩⟩⟩,hb'⟩
     . simp only [execOp,ho,hla,hca,hr,Sem.run_bind,Result.andThen_ok]
       rfl
     . rw [e2,hcs];omega
end Go.Psl
namespace Go.Psl
variable {P:Program} {Γ:Tys} {eqs:Eqs} {E:Ent} {U U':Nat->Prop} {G:Gh} {st:St} {a:Act} {W:World}
theorem Yl (hΓ:GOk P Γ) (hE:EB P eqs) (hI:Inv E U G st a W) {o:Oper} {b:Nat} (hb:¬ U b) (hU:∀ i,U i->U' i) (hb':U' b) {v:V} {e:Eff} (he:A9 Γ eqs st.H b st.fr o.op=some (v,e)):Out P E U' st a W o v e:=by
 unfold A9 at he;split at he
 . rename_i x ho;cases he;exact (N5 hI (.inl ho)).mono hU
 . rename_i x ho;cases he;exact (N5 hI (.inr ho)).mono hU
 . rename_i ho;exact (UF hI ho he).mono hU
 . rename_i ho;exact Vd hΓ hI ho hb hU hb' he
 . rename_i ho;exact fY hI ho hb hU hb' he
 . rename_i ho;exact (Vf hΓ hI ho he).mono hU
 . rename_i ho;exact K3 hΓ hI ho hb hU hb' he
 . rename_i ho;exact iM hΓ hI ho hb hU hb' he
 . rename_i ho;exact (ww hΓ hI ho he).mono hU
 . rename_i ho;exact (VP hΓ hI ho he).mono hU
 . rename_i ho;exact (Yy hΓ hE hI ho he).mono hU
 . rename_i ho;exact (dN hI ho he).mono hU
 . rename_i ho;exact (Wz hI ho he).mono hU
 . rename_i ho;exact (vm hΓ hI ho he).mono hU
 . rename_i ho;exact (XA hΓ hI ho he).mono hU
 . rename_i ho;exact (UD hΓ hI ho he).mono hU
 . rename_i ho;exact (UG hI ho he).mono hU
 . rename_i ho;exact (UK hΓ hI ho he).mono hU
 . rename_i ho;exact (QF hΓ hI ho he).mono hU
 . rename_i ho;exact (Vg hΓ hI ho he).mono hU
 . rename_i ho;exact (P9 hΓ hI ho he).mono hU
 . rename_i ho;exact (Vh hΓ hI ho he).mono hU
 . rename_i ho
   unfold G8 at he;split at he
   . rename_i hc;cases he;exact (Mi hI ho hc.1 hc.2).mono hU
   . cases he
 . rename_i c ho
   split at he
   . rename_i hc
     split at he
     . rename_i h1 h2;exact (Wu hΓ hI ho hc h1 h2 he).mono hU
     . cases he
   . rename_i hc;exact (Wx hI ho hc he).mono hU
   . rename_i hc;exact (Wy hI ho hc he).mono hU
   . rename_i hc
     split at he
     . rename_i h1 h2
       split at he
       . rename_i ht;subst ht;exact dP hΓ hI ho hc h1 h2 hb hU hb' he
       . exact ci hΓ hI ho hc h1 h2 hb hU hb' he
     . cases he
   . rename_i hc
     split at he
     . rename_i h1 h2;exact (cZ hΓ hI ho hc h1 h2 he).mono hU
     . cases he
   . rename_i hc
     split at he
     . rename_i h1 h2;exact (WL hΓ hI ho hc h1 h2 he).mono hU
     . cases he
   . cases he
 . cases he
theorem Inv.slot (hI:Inv E U G st a W) {v:V} {x:Value} (hv:RV G W v x) (ha:AV U AR v) (dst:Option Nat) (hd:∀ d,dst=some d->d < E.nt):Inv E U G ⟨Am st.fr dst v,st.H,st.nx⟩ (a.put dst x) W:=by
 cases dst with
 | none=>exact {hI with}
 | some d=>
   have hlt:d < a.tmps.size:=Nat.lt_of_lt_of_le (hd d rfl) hI.nt
   have hget:∀ t,(a.put (some d) x).tmps.getD t undef=if t=d then x else a.tmps.getD t undef:=fun t=>by
     simp only [Act.put,Array.getD_eq_getD_getElem?,Array.getElem?_setIfInBounds];by_cases h:d=t
     . subst h;simp [hlt]
     . simp [h,Ne.symm h]
   refine {hI with fr:=fun t=>?_,wf:=fun t=>?_,nt:=by simpa [Act.put] using hI.nt,df:=by simpa [Act.put] using hI.df}
   . rw [hget]
     simp only [Am,AY];split
     . exact hv
     . exact hI.fr t
   . simp only [Am,AY]
     split
     . exact ha
     . exact hI.wf t
theorem Inv.drew (hI:Inv E U G st a W):Inv E U G st a {W with drawn:=W.drawn+1}:=by
 have hchg:Chg U G W G {W with drawn:=W.drawn+1}:=⟨fun i _=>⟨rfl,rfl,rfl,rfl⟩,fun k hk=>⟨hk,rfl⟩⟩
 refine {hI with fr:=fun t=>hchg.rv (hI.wf t) (hI.fr t),hp:=fun id cs h=>hchg.hb (hI.dom id (by rw [h];rfl)) (hI.wh id cs h) (hI.hp id cs h) (fun _=>rfl) (fun h _=>h),im:=fun b hb=>hI.im b hb,keep:=⟨hI.keep.os,hI.keep.tape,hI.keep.output,Nat.le_succ_of_le hI.keep.drawn,hI.keep.size,hI.keep.block⟩,df:=hI.df.imp fun ds h=>⟨h.1,h.2.same (fun _ _ _=>rfl) (fun _ _ _ h=>h)⟩}
def lk {α:Type}:List (Nat × α)->Nat->Option α
 | [],_=>none
 | p::r,i=>if i=p.1 then some p.2 else lk r i
def B9:D->Prop:=fun x=>∃ v,x= .lit v
def InH (H:Hp) (i:Nat):Prop:=(H i).isSome=true
structure Qu (G:Gh) (W:World) (Hin:Hp) (ks:List Nat):Prop where
 hb:∀ i cs,Hin i=some cs->HB G W i cs
 inj:∀ i j,InH Hin i->InH Hin j->G.ph i=false->G.ph j=false->G.β i=G.β j->i=j
 st:∀ i∈ks,InH Hin i/\G.ph i=false
inductive Res where
 | ret (v:V)
 | pan (v:V)
def Res.v:Res->V
 | .ret v=>v
 | .pan v=>v
def HV (G:Gh) (W:World):Res->Ending->Prop
 | .ret r, .returned v=>RV G W r v
 | .pan r, .panicked ch=>∃ x,ch=[{v:=x,recovered:=false}]/\RV G W r x
 | _,_=>False
def Bm (G:Gh) (Hin:Hp) (b:Nat):Prop:=∃ i,InH Hin i/\G.ph i=false/\G.β i=b
structure sG (G:Gh) (W:World) (Hin:Hp) (ks:List Nat) (res:Res) (H1:Hp) (e:Ending) (W':World) (G':Gh):Prop where
 os:W'.os=W.os
 tape:W'.tape=W.tape
 output:W'.output=W.output
 drawn:W.drawn<=W'.drawn
 size:W.heap.size<=W'.heap.size
 block:∀ b,b < W.heap.size->¬ Bm G Hin b->W'.heap[b]?= W.heap[b]?
 im:∀ b,G'.Im b->b < W'.heap.size/\(G.Im b\/W.heap.size<=b\/Bm G Hin b)
 im0:∀ b,G.Im b->G'.Im b
 rv:HV G' W' res e
 wf:AV (InH H1) AR res.v
 hb:∀ i cs,H1 i=some cs->HB G' W' i cs/\(G'.ph i=false->W.heap.size<=G'.β i\/Bm G Hin (G'.β i))/\∀ c∈cs,AC (InH H1) AR c
 inj:∀ i j,InH H1 i->InH H1 j->G'.ph i=false->G'.ph j=false->G'.β i=G'.β j->i=j
 st:∀ i∈ks,InH H1 i->G'.β i=G.β i/\G'.bs i=G.bs i/\G'.ph i=false/\G'.lo i=G.lo i
def fF (P:Program) (f:FuncId):Prop:=∃ fn,P.funcs[f]?= some fn/\fn.body.isSome=true/\(fn.name == "runtime.NumGoroutine")=false
def Cm (P:Program) (f:FuncId) (args:List V) (Hin:Hp) (ks:List Nat) (res:Res) (H1:Hp):Prop:=
 fF P f/\∀ (G:Gh) (W:World) (xs:Array Value),(∀ b,G.Im b->b < W.heap.size)->AJ (R2 G W) args xs.toList->Qu G W Hin ks->
   Calls P f xs W fun e W'=>∃ G',sG G W Hin ks res H1 e W' G'
abbrev Ct (P:Program) (f:FuncId) (args:List V) (r:V) (H1:List (Nat × List V)):Prop:=Cm P f args (fun _=>none) [] (.ret r) (lk H1)
def Df (H:Hp):V->V->Prop
 | .d x, .d y=>x=y\/(x= .lit (.slice none 0 0)/\∃ sz,y= .sl sz [])
 | .ls id off len sz, .d (.sl sz' es)=>sz'=sz/\es.length=len/\(∀ e∈es,e.length=sz)/\∃ cs,H id=some cs/\(cs.drop off).take (len*sz)=es.flatten.map .d
 | .lp id off, .d (.ref ds)=>∃ cs,H id=some cs/\(cs.drop off).take ds.length=ds.map .d
 | .cl f caps, .d (.fn g ds)=>f=g/\caps=ds.map .d
 | .lp id off, .lp id' off'=>id=id'/\off=off'
 | .ls id off len sz, .ls id' off' len' sz'=>id=id'/\off=off'/\len=len'/\sz=sz'
 | .yl id, .yl id'=>id=id'
 | _,_=>False
def Fi (H:Hp):V->V->Prop
 | .cl f caps, .cl g caps'=>f=g/\caps=caps'
 | .cl f caps, .d (.fn g ds)=>f=g/\AJ (Df H) caps (ds.map .d)
 | x,y=>Df H x y
def Bor (H:Hp):V->V->Prop
 | .agg cs, .agg ds=>AJ (Fi H) cs ds
 | x,y=>Fi H x y
def I8 (v:V):Prop:=A2 (fun _=>False) AR v
def BJ (ρ:Nat->Nat):V->V
 | .lr fr nt ps pa pb jmp=> .lr (fun t=>ren ρ (fr t)) nt ps pa pb jmp
 | v=>DS ρ v
def sg (ks:List Nat) (base:Nat) (j:Nat):Nat:=if j∈ks then j else base+j
def BI (H:Hp) (base:Nat) (Hin:Hp) (ks:List Nat) (H1:Hp):Hp:=fun id=>
 if id∈ks then (H1 id).map (·.map (BJ (sg ks base)))
 else if (Hin id).isSome then none
 else if base<=id then (if id - base∈ks then H id else match H1 (id - base) with | some cs=>some (cs.map (BJ (sg ks base))) | none=>H id)
 else H id
theorem Qv {ρ:Nat->Nat} {v:V} (h:V.isCell v=true):V.isCell (DS ρ v)=true:=by
 cases v<;>first | (simp [V.isCell] at h;done) | rfl
theorem L4 {ρ:Nat->Nat} {v:V} (h:V.isCell v=true):BJ ρ v=DS ρ v:=by
 cases v<;>first | (simp [V.isCell] at h;done) | rfl
theorem A0.ren {p:Nat->Prop} {q:D->Prop} {ρ:Nat->Nat} {p':Nat->Prop} (hp:∀ i,p i->p' (ρ i)) {v:V} (h:A0 p q v):A0 p' AR (DR ρ v):=by
 cases v<;>first | exact hp _ h | exact False.elim h | trivial
theorem A1.ren {p:Nat->Prop} {q:D->Prop} {ρ:Nat->Nat} {p':Nat->Prop} (hp:∀ i,p i->p' (ρ i)) {v:V} (h:A1 p q v):A1 p' AR (DS ρ v):=by
 cases v with
 | cl f caps=>intro c hc;simp only [List.mem_map] at hc;obtain ⟨y,hy,rfl⟩:=hc;exact A0.ren hp (h y hy)
 | lp id off=>exact hp _ h
 | ls id off len sz=>exact hp _ h
 | yl id=>exact hp _ h
 | lr=>exact False.elim h
 | _=>trivial
theorem A2.ren {p:Nat->Prop} {q:D->Prop} {ρ:Nat->Nat} {p':Nat->Prop} (hp:∀ i,p i->p' (ρ i)) {v:V} (h:A2 p q v):A2 p' AR (HR ρ v):=by
 cases v with
 | agg cs=>intro c hc;simp only [List.mem_map] at hc;obtain ⟨y,hy,rfl⟩:=hc;exact A1.ren hp (h y hy)
 | cl f caps=>exact A1.ren (v:= .cl f caps) hp h
 | lp id off=>exact hp _ h
 | ls id off len sz=>exact hp _ h
 | yl id=>exact hp _ h
 | lr=>exact False.elim h
 | _=>trivial
theorem AV.ren {p:Nat->Prop} {q:D->Prop} {ρ:Nat->Nat} {p':Nat->Prop} (hp:∀ i,p i->p' (ρ i)) {v:V} (h:AV p q v):AV p' AR (Psl.ren ρ v):=by
 cases v with
 | tup cs=>intro c hc;simp only [List.mem_map] at hc;obtain ⟨y,hy,rfl⟩:=hc;exact A2.ren hp (h y hy)
 | agg cs=>exact A2.ren (v:= .agg cs) hp h
 | cl f caps=>exact A1.ren (v:= .cl f caps) hp h
 | lp id off=>exact hp _ h
 | ls id off len sz=>exact hp _ h
 | yl id=>exact hp _ h
 | lr=>exact False.elim h
 | _=>trivial
theorem AC.ren {p:Nat->Prop} {q:D->Prop} {ρ:Nat->Nat} {p':Nat->Prop} (hp:∀ i,p i->p' (ρ i)) {v:V} (h:AC p q v):AC p' AR (BJ ρ v):=by
 cases v with
 | lr fr nt ps pa pb jmp=>exact fun t=>AV.ren hp (h t)
 | _=>simp only [AC] at h;exact (A1.ren hp h).ac
theorem De.hb {p:Nat->Prop} {q:D->Prop} {ρ:Nat->Nat} {G':Gh} (h:De p q ρ G W G' W) {i:Nat} {cs:List V} (hi:p i) (ha:∀ c∈cs,AC p q c) (hb:HB G W i cs) (him:G.ph i=false->¬ G'.Im (G.β i)):HB G' W (ρ i) (cs.map (BJ ρ)):=by
 obtain ⟨e1,e2,e3,e4⟩:=h.id i hi;rcases hb with ⟨h1,h2⟩ | ⟨h1,h0,h2,c,T,h3,h4,h5,h6,h7⟩ | ⟨h1,h0,h2,fr,nt,ps,pa,pb,jmp,rec,h3,h4,h5⟩
 . exact .inl ⟨by rw [e3];exact h1,by rw [h2];rfl⟩
 . have hmap:cs.map (BJ ρ)=cs.map (DS ρ):=List.map_congr_left fun c hc=>L4 (List.all_eq_true.1 h7 c hc)
   rw [hmap];refine .inr (.inl ⟨by rw [e3];exact h1,by rw [e4];exact h0,by rw [e1];exact him h1,c,T,by rw [e1];exact h3,by rw [e2];exact h4,by simpa using h5,?_,?_⟩)
   . rw [List.length_map]
     exact De.all (fun v x=>h.r1) (JT h6 ha) h6
   . rw [List.all_map,List.all_eq_true]
     intro c hc;exact Qv (List.all_eq_true.1 h7 c hc)
 . refine .inr (.inr ⟨by rw [e3];exact h1,by rw [e4];exact h0,by rw [e1];exact him h1,fun t=>ren ρ (fr t),nt,ps,pa,pb,jmp,rec,by rw [h3];rfl,by rw [e1];exact h4,?_⟩)
   obtain ⟨q1,q2,q3,q4,q5,q6⟩:=h5;have hfr:=ha (.lr fr nt ps pa pb jmp) (by rw [h3];simp);exact ⟨q1,q2,q3,q4,fun t=>h.rv (hfr t) (q5 t),q6⟩
def HW (ρ:Nat->Nat):Res->Res
 | .ret v=> .ret (ren ρ v)
 | .pan v=> .pan (ren ρ v)
def GS (res:Res) (H1:Hp):Prop:=AV (InH H1) B9 res.v/\∀ i cs,H1 i=some cs->∀ c∈cs,AC (InH H1) B9 c
def Km (G:Gh) (st:St) (Hin:Hp) (b:Nat):Prop:=G.Im b\/∃ i,InH st.H i/\¬ InH Hin i/\G.ph i=false/\G.β i=b
theorem HV.into {p:Nat->Prop} {q:D->Prop} {ρ:Nat->Nat} {G':Gh} (h:De p q ρ G W G' W) {res:Res} {e:Ending} (ha:AV p q res.v) (hr:HV G W res e):HV G' W (HW ρ res) e:=by
 cases res with
 | ret r=>cases e with
   | returned v=>exact h.rv ha hr
   | _=>exact hr.elim
 | pan r=>cases e with
   | panicked ch=>obtain ⟨x,hx,hr⟩:=hr;exact ⟨x,hx,h.rv ha hr⟩
   | _=>exact hr.elim
theorem Inv.call (hI:Inv E U G st a W) {base:Nat} (hb:∀ j,j < 1048576->¬ U (base+j)) (hU:∀ i,U i->U' i) (hb':∀ j,j < 1048576->U' (base+j)) {Im:Nat->Prop} {W':World} {e:Ending} {G':Gh} {Hin:Hp} {ks:List Nat} {res:Res} {H1:Hp}
   (hin:∀ i cs,Hin i=some cs->st.H i=some cs) (hlt:∀ i,InH H1 i->i ∉ ks->i < 1048576) (hks:∀ i∈ks,InH Hin i) (hstk:∀ i∈ks,G.ph i=false)
   (hp:sG {G with Im:=Im} W Hin ks res H1 e W' G')
   (hcase:(∀ b,Im b↔G.Im b)\/((∀ b,Im b↔Km G st Hin b)/\GS res H1)):
   ∃ G'',Inv E U' G'' ⟨st.fr,BI st.H base Hin ks H1,st.nx⟩ a W'/\HV G'' W' (HW (sg ks base) res) e/\AV U' AR (HW (sg ks base) res).v/\Chg U G W G'' W':=by
 have hIn:∀ i,InH Hin i->InH st.H i:=fun i hi=>by
   obtain ⟨cs,hcs⟩:=Option.isSome_iff_exists.1 hi
   show (st.H i).isSome=true
   rw [hin i cs hcs];rfl
 have hlB:∀ b,Bm {G with Im:=Im} Hin b↔Bm G Hin b:=fun b=>Iff.rfl
 have hoth:∀ i,InH st.H i->¬ InH Hin i->G.ph i=false->¬ Bm G Hin (G.β i):=fun i hi hn hph ⟨j,hj,hpj,he⟩=>by
   have:=hI.inj j i (hIn j hj) hi hpj hph he;subst this;exact hn hj
 have hltW:∀ i,InH st.H i->G.ph i=false->G.β i < W.heap.size:=fun i hi hp=>by
   obtain ⟨cs,hcs⟩:=Option.isSome_iff_exists.1 hi;exact (hI.hp i cs hcs).lt hp
 have hnim:∀ i,InH st.H i->G.ph i=false->¬ G.Im (G.β i):=fun i hi hp=>by
   obtain ⟨cs,hcs⟩:=Option.isSome_iff_exists.1 hi;exact (hI.hp i cs hcs).nim hp
 obtain ⟨q,IM,hq,hqr,hqc,hImG,hImN⟩:∃ (q:D->Prop) (IM:Nat->Prop),(∀ x u,q x->RD G'.Im W' x u->RD IM W' x u)/\AV (InH H1) q res.v/\(∀ i cs,H1 i=some cs->∀ c∈cs,AC (InH H1) q c)/\(∀ b,G.Im b->IM b)/\
     (∀ b,IM b->b < W'.heap.size/\(G.Im b\/W.heap.size<=b\/Bm G Hin b)/\∀ i,InH H1 i->G'.ph i=false->G'.β i=b->¬ IM b):=by
   rcases hcase with hc | ⟨hc,h1,h2⟩
   . refine ⟨AR,G'.Im,fun _ _ _ h=>h,hp.wf,fun i cs h=>(hp.hb i cs h).2.2,fun b hb=>hp.im0 b ((hc b).2 hb),fun b hb=>?_⟩
     obtain ⟨h1,h2⟩:=hp.im b hb;refine ⟨h1,h2.imp (fun h=>(hc b).1 h) id,fun i hi hph he=>?_⟩;obtain ⟨cs,hcs⟩:=Option.isSome_iff_exists.1 hi;subst he;exact (hp.hb i cs hcs).1.nim hph
   . refine ⟨B9,G.Im,fun x u hx hr=>?_,h1,h2,fun _ h=>h,fun b hb=>?_⟩
     . obtain ⟨w,rfl⟩:=hx
       cases hr with
       | lit _ hf=>exact .lit _ hf
     . have h3:=(hI.im b hb).1
       refine ⟨Nat.lt_of_lt_of_le h3 hp.size, .inl hb,fun i hi hph he=>?_⟩;obtain ⟨cs,hcs⟩:=Option.isSome_iff_exists.1 hi;rcases (hp.hb i cs hcs).2.1 hph with h | ⟨j,hj,hpj,hbj⟩
       . omega
       . exact absurd hb (by rw [<-he,<-hbj];exact hnim j (hIn j hj) hpj)
 let G'':Gh:={β:=fun i=>if base<=i/\i < base+1048576 then G'.β (i - base) else G.β i,bs:=fun i=>if base<=i/\i < base+1048576 then G'.bs (i - base) else G.bs i,ph:=fun i=>if base<=i/\i < base+1048576 then G'.ph (i - base) else G.ph i,lo:=fun i=>if base<=i/\i < base+1048576 then G'.lo (i - base) else G.lo i,Im:=IM}
 have hold:∀ i,U i->¬ (base<=i/\i < base+1048576):=fun i hi h=>hb (i - base) (by omega) (by rw [show base+(i - base)=i by omega];exact hi)
 have hksU:∀ i∈ks,U i:=fun i hi=>hI.dom i (hIn i (hks i hi))
 have hinto:De (InH H1) q (sg ks base) G' W' G'' W':=⟨fun i hi=>by
   unfold sg;by_cases hk:i∈ks
   . obtain ⟨e1,e2,e3,e4⟩:=hp.st i hk hi
     have hn:=hold i (hksU i hk)
     have hphG:G.ph i=false:=by
       obtain ⟨cs,hcs⟩:=Option.isSome_iff_exists.1 (hIn i (hks i hk));by_cases hh:G.ph i=true
       . exfalso
         have:=hstk i hk;rw [this] at hh;cases hh
       . simpa using hh
     simp only [if_pos hk,G'',if_neg hn];exact ⟨e1.symm,e2.symm,by rw [e3];exact hphG,e4.symm⟩
   . have:=hlt i hi hk
     have h:base<=base+i/\base+i < base+1048576:=by omega
     simp only [if_neg hk,G'',if_pos h,show base+i - base=i by omega,and_self],fun x u hx hr=>hq x u hx hr⟩
 have hchg:Chg U G W G'' W':=⟨fun i hi=>by simp only [G'',if_neg (hold i hi),and_self],fun b hb=>⟨hImG b hb,hp.block b (hI.im b hb).1 (fun ⟨j,hj,hpj,he⟩=>hnim j (hIn j hj) hpj (by rw [he];exact hb))⟩⟩
 have hH:∀ i x,BI st.H base Hin ks H1 i=some x->(∃ j cs,i=sg ks base j/\H1 j=some cs/\x=cs.map (BJ (sg ks base)))\/(st.H i=some x/\¬ InH Hin i/\i ∉ ks):=fun i x h=>by
   unfold BI at h;by_cases hk:i∈ks
   . rw [if_pos hk] at h
     simp only [Option.map_eq_some_iff] at h;obtain ⟨cs,h1,rfl⟩:=h;exact .inl ⟨i,cs,by simp [sg,hk],h1,rfl⟩
   . rw [if_neg hk] at h
     by_cases hh:InH Hin i
     . rw [if_pos (show (Hin i).isSome=true from hh)] at h;cases h
     . rw [if_neg (show ¬ (Hin i).isSome=true from hh)] at h
       split at h
       . rename_i hbi
         split at h
         . exact .inr ⟨h,hh,hk⟩
         . rename_i hkb
           split at h
           . rename_i cs hcs
             cases h;exact .inl ⟨i - base,cs,by simp [sg,hkb];omega,hcs,rfl⟩
           . exact .inr ⟨h,hh,hk⟩
       . exact .inr ⟨h,hh,hk⟩
 have hH':∀ i,InH (BI st.H base Hin ks H1) i->(∃ j,i=sg ks base j/\InH H1 j)\/(InH st.H i/\¬ InH Hin i/\¬ (base<=i/\i < base+1048576)):=fun i h=>by
   obtain ⟨x,hx⟩:=Option.isSome_iff_exists.1 h;rcases hH i x hx with ⟨j,cs,h1,h2,_⟩ | ⟨h1,h2,_⟩
   . exact .inl ⟨j,h1,by show (H1 j).isSome=true;rw [h2];rfl⟩
   . have:InH st.H i:=by show (st.H i).isSome=true;rw [h1];rfl
     exact .inr ⟨this,h2,hold i (hI.dom i this)⟩
 have hnew:=hinto.id
 have hsgU:∀ j,InH H1 j->U' (sg ks base j):=fun j hj=>by
   unfold sg;split
   . rename_i hk;exact hU _ (hksU j hk)
   . rename_i hk;exact hb' j (hlt j hj hk)
 have hsginj:∀ i j,InH H1 i->InH H1 j->sg ks base i=sg ks base j->i=j:=fun i j hi hj he=>by
   unfold sg at he;by_cases hki:i∈ks<;>by_cases hkj:j∈ks
   . simpa [hki,hkj] using he
   . simp only [if_pos hki,if_neg hkj] at he
     exact absurd (hksU i hki) (by rw [he];exact hb j (hlt j hj hkj))
   . simp only [if_pos hkj,if_neg hki] at he
     exact absurd (hksU j hkj) (by rw [<-he];exact hb i (hlt i hi hki))
   . simp only [if_neg hki,if_neg hkj] at he;omega
 refine ⟨G'',?_,hp.rv.into hinto hqr,?_,hchg⟩
 rotate_left
 . cases res with
   | ret r=>exact AV.ren (fun i hi=>hsgU i hi) hqr
   | pan r=>exact AV.ren (fun i hi=>hsgU i hi) hqr
 refine {fr:=fun t=>hchg.rv (hI.wf t) (hI.fr t),wf:=fun t=>AV.mono hU (fun _ h=>h) (hI.wf t),hp:=?_,wh:=?_,dom:=?_,inj:=?_,own:=?_,im:=?_,im0:=fun b hb=>hImG b (hI.im0 b hb),keep:=?_,stab:=?_,sU:=fun i hs=>hU _ (hI.sU i hs),nt:=hI.nt,df:=?_}
 . intro i x h
   rcases hH i x h with ⟨j,cs,rfl,h2,rfl⟩ | ⟨h1,h2,_⟩
   . have hpj:InH H1 j:=by show (H1 j).isSome=true;rw [h2];rfl
     exact hinto.hb hpj (hqc j cs h2) (hp.hb j cs h2).1 (fun hph hIM=>(hImN _ hIM).2.2 j hpj hph rfl hIM)
   . have hi:InH st.H i:=by show (st.H i).isSome=true;rw [h1];rfl
     refine hchg.hb (hI.dom i hi) (hI.wh i x h1) (hI.hp i x h1) (fun hph=>hp.block _ (hltW i hi hph) (hoth i hi h2 hph)) (fun hx hph=>?_);rcases (hImN _ hx).2.1 with h | h | h
     . exact h
     . have:=hltW i hi hph;omega
     . exact absurd h (hoth i hi h2 hph)
 . intro i x h y hy
   rcases hH i x h with ⟨j,cs,rfl,h2,rfl⟩ | ⟨h1,h2,_⟩
   . simp only [List.mem_map] at hy
     obtain ⟨z,hz,rfl⟩:=hy;exact (hqc j cs h2 z hz).ren hsgU
   . exact AC.mono hU (fun _ h=>h) (hI.wh i x h1 y hy)
 . intro i h
   rcases hH' i h with ⟨j,rfl,hj⟩ | ⟨h1,_⟩
   . exact hsgU j hj
   . exact hU _ (hI.dom i h1)
 . intro i j hi hj hpi hpj he
   rcases hH' i hi with ⟨i',rfl,hi'⟩ | ⟨hi1,hi2,hi3⟩<;>rcases hH' j hj with ⟨j',rfl,hj'⟩ | ⟨hj1,hj2,hj3⟩
   . rw [(hnew i' hi').2.2.1] at hpi
     rw [(hnew j' hj').2.2.1] at hpj;rw [(hnew i' hi').1,(hnew j' hj').1] at he;rw [hp.inj i' j' hi' hj' hpi hpj he]
   . rw [(hnew i' hi').2.2.1] at hpi
     rw [(hnew i' hi').1] at he;simp only [G'',if_neg hj3] at he hpj;obtain ⟨cs,hcs⟩:=Option.isSome_iff_exists.1 hi';rcases (hp.hb i' cs hcs).2.1 hpi with h1 | h1
     . have h2:=hltW j hj1 hpj;omega
     . rw [he] at h1;exact absurd h1 (hoth j hj1 hj2 hpj)
   . rw [(hnew j' hj').2.2.1] at hpj
     rw [(hnew j' hj').1] at he;simp only [G'',if_neg hi3] at he hpi;obtain ⟨cs,hcs⟩:=Option.isSome_iff_exists.1 hj';rcases (hp.hb j' cs hcs).2.1 hpj with h1 | h1
     . have h2:=hltW i hi1 hpi;omega
     . rw [<-he] at h1;exact absurd h1 (hoth i hi1 hi2 hpi)
   . simp only [G'',if_neg hi3,if_neg hj3] at he hpi hpj
     exact hI.inj i j hi1 hj1 hpi hpj he
 . intro i hi hph
   rcases hH' i hi with ⟨j,rfl,hj⟩ | ⟨h1,_,h2⟩
   . rw [(hnew j hj).2.2.1] at hph
     rw [(hnew j hj).1];obtain ⟨cs,hcs⟩:=Option.isSome_iff_exists.1 hj;rcases (hp.hb j cs hcs).2.1 hph with h1 | ⟨k,hk,hpk,hbk⟩
     . have:=hI.keep.size
       exact .inl (by omega)
     . rw [<-hbk];exact hI.own k (hIn k hk) hpk
   . simp only [G'',if_neg h2] at hph ⊢
     exact hI.own i h1 hph
 . intro b hb
   obtain ⟨h1,h2,_⟩:=hImN b hb;refine ⟨h1,?_⟩;rcases h2 with h | h | ⟨k,hk,hpk,hbk⟩
   . exact (hI.im b h).2
   . exact .inr (.inl (Nat.le_trans hI.keep.size h))
   . rw [<-hbk];exact .inr (hI.own k (hIn k hk) hpk)
 . refine ⟨hp.os.trans hI.keep.os,hp.tape.trans hI.keep.tape,hp.output.trans hI.keep.output,Nat.le_trans hI.keep.drawn hp.drawn,Nat.le_trans hI.keep.size hp.size,fun b hb hm=>(hp.block b (Nat.lt_of_lt_of_le hb hI.keep.size) fun ⟨k,hk,hpk,hbk⟩=>?_).trans (hI.keep.block b hb hm)⟩
   rcases hI.own k (hIn k hk) hpk with h | h
   . simp only at hbk;omega
   . exact hm (hbk ▸ h)
 . intro i hs hi
   rcases hH' i hi with ⟨j,hij,hj⟩ | ⟨h1,_,h2⟩
   . have hUi:=hI.sU _ hs
     unfold sg at hij;split at hij
     . rename_i hk
       subst hij;simp only [G'',if_neg (hold i hUi)];exact hI.stab i hs (hIn i (hks i hk))
     . rename_i hk
       exact absurd hUi (by rw [hij];exact hb j (hlt j hj hk))
   . simp only [G'',if_neg h2]
     exact hI.stab i hs h1
 . obtain ⟨ds,h1,h2⟩:=hI.df
   refine ⟨ds,h1,h2.same (fun D hD hd=>hp.block D (Array.getElem?_eq_some_iff.1 hd).1 fun ⟨k,hk,hpk,hbk⟩=>?_) (fun D hD hd hx=>?_)⟩
   . simp only at hbk
     obtain ⟨cs,hcs⟩:=Option.isSome_iff_exists.1 (hIn k hk);rcases hI.hp k cs hcs with ⟨h,_⟩ | ⟨_,_,_,c,T,h,_⟩ | ⟨_,_,_,fr,nt,ps,pa,pb,jmp,rec,_,h,_⟩
     . simp only at hpk;rw [hpk] at h;cases h
     . rw [hbk,hd] at h;cases h
     . rw [hbk,hd] at h;cases h
   . rcases (hImN _ hx).2.1 with h | h | ⟨k,hk,hpk,hbk⟩
     . exact h
     . have:=(Array.getElem?_eq_some_iff.1 hd).1;omega
     . obtain ⟨cs,hcs⟩:=Option.isSome_iff_exists.1 (hIn k hk)
       rcases hI.hp k cs hcs with ⟨h,_⟩ | ⟨_,_,_,c,T,h,_⟩ | ⟨_,_,_,fr,nt,ps,pa,pb,jmp,rec,_,h,_⟩
       . rw [hpk] at h;cases h
       . rw [hbk,hd] at h;cases h
       . rw [hbk,hd] at h;cases h
end Go.Psl
