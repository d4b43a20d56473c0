/- Own lemmas, used by the last text. Conditions: those that each theorem states. -/
import Derived.Test.YtnjclpglagcagaaGreatEaah
import Derived.Test.YtnjclpglagcagaaGreatEaai
import Derived.Test.YtnjclpglagcagaaGreatEaak
import Derived.Test.YtnjclpglagcagaaGreatEaal
set_option maxRecDepth 200000
set_option maxHeartbeats 8000000
namespace Go.Proofs.Tryz
open Go.Psl
open Go.Air
theorem Ce (l:List Cel) (hl:l.length<=1000000):Ct prog 55 [.d (AX l)] (.ls 0 0 l.length 7) [(0,AH AP l)]:=by
 cases l with
 | nil=>
   refine CB func55 c55 fun E hE=>?_
   simp [p55];refine ⟨?_,?_⟩
   . apply RZ
     simp [results55,AH]
   . simp [AM,Am,Hp.app]
     refine AB.by (lk [(0,5242880)]) ?_;simp [results55,AH]
 | cons a r=>
   refine CB func55 c55 fun E hE=>?_
   have hmx:(r.length+1)*56<=140737488355328/\r.length+1<=9223372036854775807:=by simp at hl;omega
   have e:AX (a::r)= .sl 7 (AP a::r.map AP):=rfl;have ef:(r.map (List.map V.d ∘ AP)).flatten=AH AP r:=by simp [AH,List.map_flatten]
   have hcl:(∀ x∈AH AP r,x.isCell=true)=True:=eq_true BU;simp [p55,e,ef,hcl,AM,hmx];refine AB.by (lk [(0,5242880)]) ?_;simp [results55,CQ,hcl]
end Go.Proofs.Tryz
namespace Go.Psl
noncomputable def Y3:Option Code->Code | some (.seq _ r)=>r | _=> .skip
noncomputable def pE:Option Code->Nat | some (.seq (.region i _ _) _)=>i | _=>0
noncomputable def ij (k:Nat):Option Code->Oper | some (.seq (.region _ o _) _)=>(o[k]?).getD ⟨none, .move (.tmp 0),0, "",#[],none⟩ | _=>⟨none, .move (.tmp 0),0, "",#[],none⟩
theorem VW {P:Program} {Γ:Tys} {eqs:Eqs} {ws:List (Nat × Nat)} {cl:List Nat} {n0 k b:Nat} {Z:V->Prop} {K:(Nat->V)->Hp->Nat->Prop} {r:List PO} {f:Nat->V} {H:Hp} {dst:Option Nat} {s t:TypeId} {x:Operand}:dd P Γ eqs ws cl n0 Z K k b (⟨dst, .typeAssert x s t false,none⟩::r) f H=goD ws k dst b (dd P Γ eqs ws cl n0 Z K (k+1) (b+1048576) r) f H (Wf Γ t (evF f x)):=CE rfl
end Go.Psl
namespace Go.Proofs.Tryz
open Go.Psl
open Go.Air
noncomputable def AQK:Oper:=(⟨_,by conv=>lhs;reduce⟩:Rd (ij 0 f104.body)).1
noncomputable def AQL:Oper:=(⟨_,by conv=>lhs;reduce⟩:Rd (ij 1 f104.body)).1
noncomputable def p104r:PC:=(⟨_,by conv=>lhs;reduce⟩:Rd (match AK f104.ntmps (Y3 f104.body) with | some p=>p | none=> .skip)).1
theorem ASS:f104.body=some (.seq (.region (pE f104.body) #[AQK,AQL] false) (Y3 f104.body)):=by kernel_rfl
theorem AQM:AK f104.ntmps (Y3 f104.body)=some p104r:=by kernel_rfl
theorem AQN:∀ ρ W,(execOp ρ AQK).run prog W= .ok .recover W:=fun _ _=>by kernel_rfl
theorem AQO:∀ ρ W,(execOp ρ AQL).run prog W= .ok (.value (ρ (.tmp 3))) W:=fun _ _=>by kernel_rfl
theorem IT:CmD prog 104 [.lp 2097152 0, .lp 3145728 0] (lk []) [] none (lk []):=by
 refine CmD.by gok eok mixed 4194304 func104 ASS rfl rfl rfl rfl rfl AQN AQO (by simp [ntmps104]) (by simp [ntmps104]) AQM (by simp [ntmps104]) (by simp) (by simp [NV]) (A7.at (by simp)) (by simp) (by simp [LD]) fun E hs=>?_
 simp [p104r,NV];apply RZ;simp [results104]
abbrev plZ:List V:=[.d (.lit (.slice none 0 0)),vi 0,vi 0,vi 0,vi 0,vi 0,vi 0,vi 0,vi 0,vi 0]
theorem Ds (e:Int):CmD prog 104 [.lp 2097152 0, .lp 3145728 0] (lk [(2097152,plZ),(3145728,[vi 0])]) [2097152,3145728] (some (Fm e)) (lk [(2097152,plZ),(3145728,[vi e])]):=by
 refine CmD.by gok eok mixed 4194304 func104 ASS rfl rfl rfl rfl rfl AQN AQO (by simp [ntmps104]) (by simp [ntmps104]) AQM (by simp [ntmps104]) (by simp) (by simp [NV]) (A7.at (by simp)) (by simp) (by simp [LD]) fun E hs=>?_
 simp [p104r,NV];refine AL [(4,2097152)] (by kernel_rfl) ?_;simp [AA,inC,Nat.testBit,VW];refine AB.by (lk [(2097152,2097152),(3145728,3145728)]) ?_;simp [results104]
end Go.Proofs.Tryz
namespace Go.Psl
variable {P:Program} {Γ:Tys} {E:Ent} {fn:Func} {r:V} {H1:List (Nat × List V)} {pb:PC} {st:St}
theorem Ax:dwQ P Γ E fn r H1 pb .normal st=DW P E fn r H1 pb st:=AF rfl
theorem Iv {g:FuncId} {ids:List (Nat × Nat)}:XG P Γ fn r H1 g ids .ret st=Cn P g ids none (Dc Γ fn [] r H1) st:=AF rfl
theorem D9 {g:FuncId} {ids:List (Nat × Nat)} {D:D}:XG P Γ fn r H1 g ids (.pan (.d D)) st=Cn P g ids (some (.d D)) (Dc Γ fn [] r H1) st:=AF (by simp [XG])
theorem DW.defer2 {eqs:Eqs} (hΓ:GOk P Γ) (hE:EB P eqs) (hm:P.follows .mixedOrders=true) {t:Nat} {g:FuncId} {caps:Array Operand} {cl:Call} {f:Nat->V} {H:Hp} {n:Nat} (n':Nat) (ids:List (Nat × Nat)) (vs:List V) (hcal:cl.callee= .value (.tmp t)) (hcl:cl.args= #[]) (hvs:(ids.map fun p=> .lp p.1 p.2)=vs) (hn:n+2097152=n')
   (hcaps:BX f caps.toList=vs) (hst:∀ i,¬ E.stab i)
   (h:∀ E':Ent,PW P Γ eqs E' pb (XG P Γ fn r H1 g ids) ⟨Am f (some t) (.cl g vs),H,n'⟩):
   DW P E fn r H1 (.seq (.reg [⟨some t, .makeFunc (.func g) #[] caps,none⟩,⟨none, .defer cl,none⟩]) pb) ⟨f,H,n⟩:=by
 subst hn hvs;exact DW.defer hΓ hE hm ids hcal hcl hcaps hst fun E' _ _ _=>h E'
theorem Cn.mk {H:Hp} {b:Nat} {f:Nat->V} {g:FuncId} {ids:List (Nat × Nat)} {m:Option V} {K:St->Prop} (L:List (Nat × List V)) (ks:List Nat) (L1:List (Nat × List V)) (hf:CmD P g (ids.map fun p=> .lp p.1 p.2) (lk L) ks m (lk L1)) (hlive:∀ p∈ids,(H p.1).isSome=true) (hin:Fr H L) (hi:∀ p∈L1,p.1∈ks\/p.1<1048576) (hks:Jq b L L1 ks) (hL:∀ p∈L,p.1<b)
   (hk:K ⟨f,I2 (E0 H L) ks b L1,b⟩):Cn P g ids m K ⟨f,H,b⟩:=by
 have hL':∀ i,InH (lk L) i->i<b:=fun i h=>by
   obtain ⟨x,hx⟩:=Option.isSome_iff_exists.1 h;exact hL _ (B4 hx)
 refine ⟨hlive,_,lk L,ks,lk L1,hf,⟨hin.at,fun i h hn=>NB hi h hn,fun i h=>(hks.at i h).2.2, .inl ?_⟩,?_⟩
 . exact AJ.of_get rfl fun i x y hx hy=>by
     rw [hx] at hy;cases hy;rw [List.getElem?_map] at hx;obtain ⟨p,_,rfl⟩:=Option.map_eq_some_iff.1 hx;exact ⟨rfl,rfl⟩
 . show K ⟨f,BI H b (lk L) ks (lk L1),b⟩
   rw [E1 H ks b L L1 hks hL'];exact hk
end Go.Psl
namespace Go.Proofs.Tryz
open Go.Psl
open Go.Air
def sgD (i:Nat):Nat:=if i=0 then 23068672 else 28311552
theorem Nu:∀ i j,i<2->j<2->sgD i=sgD j->i=j:=by
 intro i j hi hj h;unfold sgD at h;split at h<;>split at h<;>first | omega | exact absurd h (by omega)
theorem Px (ρ:Nat->Nat) (l:List Cel):(AH AP l).map (BJ ρ)=AH AP l:=by
 simp [AH,List.map_flatten,Function.comp_def]
theorem rF {f:FuncId} {p:Plt} {a:Act} {cs:List Cel} {e:Int} (h:Cm prog f [.lp 0 0,BZ a] (lk [(0,plB p (.ls 1 0 cs.length 7)),(1,AH AP cs)]) [] (.pan (Fm e)) (lk [])):Cm prog f [.lp 23068672 0,BZ a] (lk [(23068672,plB p (.ls 28311552 0 cs.length 7)),(28311552,AH AP cs)]) [] (.pan (Fm e)) (lk []):=by
 have:=Cm.rename sgD 2 Nu h (by simp [BW]) (by simp [BW]) (by simp);simpa [Ea,HW,sgD,Px] using this
theorem MZ {f:FuncId} {p q:Plt} {a:Act} {cs ds:List Cel} (h:Cm prog f [.lp 0 0,BZ a] (lk [(0,plB p (.ls 1 0 cs.length 7)),(1,AH AP cs)]) [0,1] (.ret (.tup [])) (lk [(0,plB q (.ls 1 0 cs.length 7)),(1,AH AP ds)])):Cm prog f [.lp 23068672 0,BZ a] (lk [(23068672,plB p (.ls 28311552 0 cs.length 7)),(28311552,AH AP cs)]) [23068672,28311552] (.ret (.tup [])) (lk [(23068672,plB q (.ls 28311552 0 cs.length 7)),(28311552,AH AP ds)]):=by
 have:=Cm.rename sgD 2 Nu h (by simp [BW]) (by simp [BW]) (by simp);simpa [Ea,HW,sgD,Px] using this
theorem Py (p:Plt) (a:Act) (e:Int) (hl:p.cs.length<=1000000) (h:Ar p=true) (hk:a.k=3) (hne:p.cs≠[]) (d0:Cm prog 107 [.lp 0 0,BZ a] (lk [(0,plB p (.ls 1 0 p.cs.length 7)),(1,AH AP p.cs)]) [] (.pan (Fm e)) (lk [])):Ct prog 56 [Cy p (.d (AX p.cs)),BZ a] (.tup [.agg plZ,vi e]) []:=by
 have d5:=rF d0;have n2:=trivial;have d1:=ALn p (by omega);have d2:=ALU 1 7 [3] (by simp);have d3:=BP 2;have d4:=Ce p.cs hl;have n1:=BG hne;have w3:IntKind.wrap .i64 3=3:=by decide
 rw [h] at d1;rw [show rgB 1 7 [3]=true from by decide] at d2;refine Ct.byD gok func56 c56 rfl (by simp [ntmps56]) (by simp) (by simp [LD]) fun E hE hN=>?_
 unfold p56;simp only [];refine DW.seq gok eok mixed ?_;simp [Ax];refine DW.seq gok eok mixed ?_;simp;refine CLa d1 ?_;simp [Ax];refine DW.defer2 gok eok mixed 11534336 [(2097152,0),(3145728,0)] [.lp 2097152 0, .lp 3145728 0] rfl rfl rfl (by simp) (by simp) hE fun E'=>?_
 simp [AA,AM,hk,w3];refine CLb (d2) (by simp [AG]) ?_;simp;refine CLa d3 ?_;simp [AA];refine CLa d4 ?_;simp [AA];refine CRs d5 (by simp [hk]) ?_;simp [D9];refine Cn.mk _ _ _ (Ds e) (by simp) (by simp) (by simp) (by simp) (by simp) ?_;simp;apply RZ;simp [results56]
theorem ABg (p q:Plt) (a:Act) (hl:p.cs.length<=1000000) (h:Ar p=true) (hk:a.k=3) (hne:p.cs≠[]) (hq:q.cs.length=p.cs.length) (ho:Ar q=true) (d0:Cm prog 107 [.lp 0 0,BZ a] (lk [(0,plB p (.ls 1 0 p.cs.length 7)),(1,AH AP p.cs)]) [0,1] (.ret (.tup [])) (lk [(0,plB q (.ls 1 0 p.cs.length 7)),(1,AH AP q.cs)])):Ct prog 56 [Cy p (.d (AX p.cs)),BZ a] (.tup [Cy q (.ls 0 0 p.cs.length 7),vi 0]) [(0,AH AP q.cs)]:=by
 have d5:=MZ d0;have n2:AH AP q.cs≠[]:=BG fun e=>by rw [e] at hq;exact hne (List.eq_nil_of_length_eq_zero hq.symm)
 have d6:=ALn q (by omega);have d7:=BP 9
 have d8:List.take (p.cs.length*7) (AH AP q.cs)=(List.map (List.map V.d ∘ AP) q.cs).flatten:=by
   rw [<-hq,List.take_of_length_le (by rw [Aw Nr];omega)];simp [AH,List.map_flatten]
 rw [ho] at d6;have d1:=ALn p (by omega);have d2:=ALU 1 7 [3] (by simp);have d3:=BP 2;have d4:=Ce p.cs hl;have n1:=BG hne;have w3:IntKind.wrap .i64 3=3:=by decide
 rw [h] at d1;rw [show rgB 1 7 [3]=true from by decide] at d2;refine Ct.byD gok func56 c56 rfl (by simp [ntmps56]) (by simp) (by simp [LD]) fun E hE hN=>?_
 unfold p56;simp only [];refine DW.seq gok eok mixed ?_;simp [Ax];refine DW.seq gok eok mixed ?_;simp;refine CLa d1 ?_;simp [Ax];refine DW.defer2 gok eok mixed 11534336 [(2097152,0),(3145728,0)] [.lp 2097152 0, .lp 3145728 0] rfl rfl rfl (by simp) (by simp) hE fun E'=>?_
 simp [AA,AM,hk,w3];refine CLb (d2) (by simp [AG]) ?_;simp;refine CLa d3 ?_;simp [AA];refine CLa d4 ?_;simp [AA];refine CRs d5 (by simp [n1,hk,BB]) ?_;simp;refine CLb (d6) (by first | (simp;done) | simp [CP,d8,hq]) ?_;simp;refine CLa d7 ?_;simp [AA,Iv];refine Cn.mk _ _ _ IT (by simp) (by simp) (by simp) (by simp) (by simp) ?_;simp;refine AB.by (lk [(0,28311552)]) ?_;simp [results56]
theorem WY (p q:Plt) (a:Act) (hl:p.cs.length<=1000000) (h:Ar p=true) (hk:a.k=3) (hne:p.cs≠[]) (hq:q.cs.length=p.cs.length) (ho:Ar q=false) (d0:Cm prog 107 [.lp 0 0,BZ a] (lk [(0,plB p (.ls 1 0 p.cs.length 7)),(1,AH AP p.cs)]) [0,1] (.ret (.tup [])) (lk [(0,plB q (.ls 1 0 p.cs.length 7)),(1,AH AP q.cs)])):Ct prog 56 [Cy p (.d (AX p.cs)),BZ a] (.tup [.agg plZ,vi 9]) []:=by
 have d5:=MZ d0;have n2:AH AP q.cs≠[]:=BG fun e=>by rw [e] at hq;exact hne (List.eq_nil_of_length_eq_zero hq.symm)
 have d6:=ALn q (by omega);have d7:=Xt 9
 have d8:List.take (p.cs.length*7) (AH AP q.cs)=(List.map (List.map V.d ∘ AP) q.cs).flatten:=by
   rw [<-hq,List.take_of_length_le (by rw [Aw Nr];omega)];simp [AH,List.map_flatten]
 rw [ho] at d6;have d1:=ALn p (by omega);have d2:=ALU 1 7 [3] (by simp);have d3:=BP 2;have d4:=Ce p.cs hl;have n1:=BG hne;have w3:IntKind.wrap .i64 3=3:=by decide
 rw [h] at d1;rw [show rgB 1 7 [3]=true from by decide] at d2;refine Ct.byD gok func56 c56 rfl (by simp [ntmps56]) (by simp) (by simp [LD]) fun E hE hN=>?_
 unfold p56;simp only [];refine DW.seq gok eok mixed ?_;simp [Ax];refine DW.seq gok eok mixed ?_;simp;refine CLa d1 ?_;simp [Ax];refine DW.defer2 gok eok mixed 11534336 [(2097152,0),(3145728,0)] [.lp 2097152 0, .lp 3145728 0] rfl rfl rfl (by simp) (by simp) hE fun E'=>?_
 simp [AA,AM,hk,w3];refine CLb (d2) (by simp [AG]) ?_;simp;refine CLa d3 ?_;simp [AA];refine CLa d4 ?_;simp [AA];refine CRs d5 (by simp [n1,hk,BB]) ?_;simp;refine CLb (d6) (by first | (simp;done) | simp [CP,d8,hq]) ?_;simp;refine CRs d7 (by simp) ?_;simp [D9];refine Cn.mk _ _ _ (Ds 9) (by simp) (by simp) (by simp) (by simp) (by simp) ?_;simp;apply RZ;simp [results56]
theorem LW (p:Plt) (a:Act) (e:Int) (hl:p.cs.length<=1000000) (h:Ar p=true) (hk:a.k=4) (hne:p.cs≠[]) (d0:Cm prog 108 [.lp 0 0,BZ a] (lk [(0,plB p (.ls 1 0 p.cs.length 7)),(1,AH AP p.cs)]) [] (.pan (Fm e)) (lk [])):Ct prog 56 [Cy p (.d (AX p.cs)),BZ a] (.tup [.agg plZ,vi e]) []:=by
 have d5:=rF d0;have n2:=trivial;have d1:=ALn p (by omega);have d2:=ALU 1 7 [4] (by simp);have d3:=BP 2;have d4:=Ce p.cs hl;have n1:=BG hne;have w3:IntKind.wrap .i64 4=4:=by decide
 rw [h] at d1;rw [show rgB 1 7 [4]=true from by decide] at d2;refine Ct.byD gok func56 c56 rfl (by simp [ntmps56]) (by simp) (by simp [LD]) fun E hE hN=>?_
 unfold p56;simp only [];refine DW.seq gok eok mixed ?_;simp [Ax];refine DW.seq gok eok mixed ?_;simp;refine CLa d1 ?_;simp [Ax];refine DW.defer2 gok eok mixed 11534336 [(2097152,0),(3145728,0)] [.lp 2097152 0, .lp 3145728 0] rfl rfl rfl (by simp) (by simp) hE fun E'=>?_
 simp [AA,AM,hk,w3];refine CLb (d2) (by simp [AG]) ?_;simp;refine CLa d3 ?_;simp [AA];refine CLa d4 ?_;simp [AA];refine CRs d5 (by simp [hk]) ?_;simp [D9];refine Cn.mk _ _ _ (Ds e) (by simp) (by simp) (by simp) (by simp) (by simp) ?_;simp;apply RZ;simp [results56]
theorem ADp (p q:Plt) (a:Act) (hl:p.cs.length<=1000000) (h:Ar p=true) (hk:a.k=4) (hne:p.cs≠[]) (hq:q.cs.length=p.cs.length) (ho:Ar q=true) (d0:Cm prog 108 [.lp 0 0,BZ a] (lk [(0,plB p (.ls 1 0 p.cs.length 7)),(1,AH AP p.cs)]) [0,1] (.ret (.tup [])) (lk [(0,plB q (.ls 1 0 p.cs.length 7)),(1,AH AP q.cs)])):Ct prog 56 [Cy p (.d (AX p.cs)),BZ a] (.tup [Cy q (.ls 0 0 p.cs.length 7),vi 0]) [(0,AH AP q.cs)]:=by
 have d5:=MZ d0;have n2:AH AP q.cs≠[]:=BG fun e=>by rw [e] at hq;exact hne (List.eq_nil_of_length_eq_zero hq.symm)
 have d6:=ALn q (by omega);have d7:=BP 9
 have d8:List.take (p.cs.length*7) (AH AP q.cs)=(List.map (List.map V.d ∘ AP) q.cs).flatten:=by
   rw [<-hq,List.take_of_length_le (by rw [Aw Nr];omega)];simp [AH,List.map_flatten]
 rw [ho] at d6;have d1:=ALn p (by omega);have d2:=ALU 1 7 [4] (by simp);have d3:=BP 2;have d4:=Ce p.cs hl;have n1:=BG hne;have w3:IntKind.wrap .i64 4=4:=by decide
 rw [h] at d1;rw [show rgB 1 7 [4]=true from by decide] at d2;refine Ct.byD gok func56 c56 rfl (by simp [ntmps56]) (by simp) (by simp [LD]) fun E hE hN=>?_
 unfold p56;simp only [];refine DW.seq gok eok mixed ?_;simp [Ax];refine DW.seq gok eok mixed ?_;simp;refine CLa d1 ?_;simp [Ax];refine DW.defer2 gok eok mixed 11534336 [(2097152,0),(3145728,0)] [.lp 2097152 0, .lp 3145728 0] rfl rfl rfl (by simp) (by simp) hE fun E'=>?_
 simp [AA,AM,hk,w3];refine CLb (d2) (by simp [AG]) ?_;simp;refine CLa d3 ?_;simp [AA];refine CLa d4 ?_;simp [AA];refine CRs d5 (by simp [n1,hk,BB]) ?_;simp;refine CLb (d6) (by first | (simp;done) | simp [CP,d8,hq]) ?_;simp;refine CLa d7 ?_;simp [AA,Iv];refine Cn.mk _ _ _ IT (by simp) (by simp) (by simp) (by simp) (by simp) ?_;simp;refine AB.by (lk [(0,28311552)]) ?_;simp [results56]
theorem WZ (p q:Plt) (a:Act) (hl:p.cs.length<=1000000) (h:Ar p=true) (hk:a.k=4) (hne:p.cs≠[]) (hq:q.cs.length=p.cs.length) (ho:Ar q=false) (d0:Cm prog 108 [.lp 0 0,BZ a] (lk [(0,plB p (.ls 1 0 p.cs.length 7)),(1,AH AP p.cs)]) [0,1] (.ret (.tup [])) (lk [(0,plB q (.ls 1 0 p.cs.length 7)),(1,AH AP q.cs)])):Ct prog 56 [Cy p (.d (AX p.cs)),BZ a] (.tup [.agg plZ,vi 9]) []:=by
 have d5:=MZ d0;have n2:AH AP q.cs≠[]:=BG fun e=>by rw [e] at hq;exact hne (List.eq_nil_of_length_eq_zero hq.symm)
 have d6:=ALn q (by omega);have d7:=Xt 9
 have d8:List.take (p.cs.length*7) (AH AP q.cs)=(List.map (List.map V.d ∘ AP) q.cs).flatten:=by
   rw [<-hq,List.take_of_length_le (by rw [Aw Nr];omega)];simp [AH,List.map_flatten]
 rw [ho] at d6;have d1:=ALn p (by omega);have d2:=ALU 1 7 [4] (by simp);have d3:=BP 2;have d4:=Ce p.cs hl;have n1:=BG hne;have w3:IntKind.wrap .i64 4=4:=by decide
 rw [h] at d1;rw [show rgB 1 7 [4]=true from by decide] at d2;refine Ct.byD gok func56 c56 rfl (by simp [ntmps56]) (by simp) (by simp [LD]) fun E hE hN=>?_
 unfold p56;simp only [];refine DW.seq gok eok mixed ?_;simp [Ax];refine DW.seq gok eok mixed ?_;simp;refine CLa d1 ?_;simp [Ax];refine DW.defer2 gok eok mixed 11534336 [(2097152,0),(3145728,0)] [.lp 2097152 0, .lp 3145728 0] rfl rfl rfl (by simp) (by simp) hE fun E'=>?_
 simp [AA,AM,hk,w3];refine CLb (d2) (by simp [AG]) ?_;simp;refine CLa d3 ?_;simp [AA];refine CLa d4 ?_;simp [AA];refine CRs d5 (by simp [n1,hk,BB]) ?_;simp;refine CLb (d6) (by first | (simp;done) | simp [CP,d8,hq]) ?_;simp;refine CRs d7 (by simp) ?_;simp [D9];refine Cn.mk _ _ _ (Ds 9) (by simp) (by simp) (by simp) (by simp) (by simp) ?_;simp;apply RZ;simp [results56]
theorem cU (p q:Plt) (a:Act) (hl:p.cs.length<=1000000) (h:Ar p=true) (hk:a.k=7) (hne:p.cs≠[]) (hq:q.cs.length=p.cs.length) (ho:Ar q=true) (d0:Cm prog 111 [.lp 0 0,BZ a] (lk [(0,plB p (.ls 1 0 p.cs.length 7)),(1,AH AP p.cs)]) [0,1] (.ret (.tup [])) (lk [(0,plB q (.ls 1 0 p.cs.length 7)),(1,AH AP q.cs)])):Ct prog 56 [Cy p (.d (AX p.cs)),BZ a] (.tup [Cy q (.ls 0 0 p.cs.length 7),vi 0]) [(0,AH AP q.cs)]:=by
 have d5:=MZ d0;have n2:AH AP q.cs≠[]:=BG fun e=>by rw [e] at hq;exact hne (List.eq_nil_of_length_eq_zero hq.symm)
 have d6:=ALn q (by omega);have d7:=BP 9
 have d8:List.take (p.cs.length*7) (AH AP q.cs)=(List.map (List.map V.d ∘ AP) q.cs).flatten:=by
   rw [<-hq,List.take_of_length_le (by rw [Aw Nr];omega)];simp [AH,List.map_flatten]
 rw [ho] at d6;have d1:=ALn p (by omega);have d2:=ALU 1 7 [7] (by simp);have d3:=BP 2;have d4:=Ce p.cs hl;have n1:=BG hne;have w3:IntKind.wrap .i64 7=7:=by decide
 rw [h] at d1;rw [show rgB 1 7 [7]=true from by decide] at d2;refine Ct.byD gok func56 c56 rfl (by simp [ntmps56]) (by simp) (by simp [LD]) fun E hE hN=>?_
 unfold p56;simp only [];refine DW.seq gok eok mixed ?_;simp [Ax];refine DW.seq gok eok mixed ?_;simp;refine CLa d1 ?_;simp [Ax];refine DW.defer2 gok eok mixed 11534336 [(2097152,0),(3145728,0)] [.lp 2097152 0, .lp 3145728 0] rfl rfl rfl (by simp) (by simp) hE fun E'=>?_
 simp [AA,AM,hk,w3];refine CLb (d2) (by simp [AG]) ?_;simp;refine CLa d3 ?_;simp [AA];refine CLa d4 ?_;simp [AA];refine CRs d5 (by simp [n1,hk,BB]) ?_;simp;refine CLb (d6) (by first | (simp;done) | simp [CP,d8,hq]) ?_;simp;refine CLa d7 ?_;simp [AA,Iv];refine Cn.mk _ _ _ IT (by simp) (by simp) (by simp) (by simp) (by simp) ?_;simp;refine AB.by (lk [(0,28311552)]) ?_;simp [results56]
theorem Wa (p q:Plt) (a:Act) (hl:p.cs.length<=1000000) (h:Ar p=true) (hk:a.k=7) (hne:p.cs≠[]) (hq:q.cs.length=p.cs.length) (ho:Ar q=false) (d0:Cm prog 111 [.lp 0 0,BZ a] (lk [(0,plB p (.ls 1 0 p.cs.length 7)),(1,AH AP p.cs)]) [0,1] (.ret (.tup [])) (lk [(0,plB q (.ls 1 0 p.cs.length 7)),(1,AH AP q.cs)])):Ct prog 56 [Cy p (.d (AX p.cs)),BZ a] (.tup [.agg plZ,vi 9]) []:=by
 have d5:=MZ d0;have n2:AH AP q.cs≠[]:=BG fun e=>by rw [e] at hq;exact hne (List.eq_nil_of_length_eq_zero hq.symm)
 have d6:=ALn q (by omega);have d7:=Xt 9
 have d8:List.take (p.cs.length*7) (AH AP q.cs)=(List.map (List.map V.d ∘ AP) q.cs).flatten:=by
   rw [<-hq,List.take_of_length_le (by rw [Aw Nr];omega)];simp [AH,List.map_flatten]
 rw [ho] at d6;have d1:=ALn p (by omega);have d2:=ALU 1 7 [7] (by simp);have d3:=BP 2;have d4:=Ce p.cs hl;have n1:=BG hne;have w3:IntKind.wrap .i64 7=7:=by decide
 rw [h] at d1;rw [show rgB 1 7 [7]=true from by decide] at d2;refine Ct.byD gok func56 c56 rfl (by simp [ntmps56]) (by simp) (by simp [LD]) fun E hE hN=>?_
 unfold p56;simp only [];refine DW.seq gok eok mixed ?_;simp [Ax];refine DW.seq gok eok mixed ?_;simp;refine CLa d1 ?_;simp [Ax];refine DW.defer2 gok eok mixed 11534336 [(2097152,0),(3145728,0)] [.lp 2097152 0, .lp 3145728 0] rfl rfl rfl (by simp) (by simp) hE fun E'=>?_
 simp [AA,AM,hk,w3];refine CLb (d2) (by simp [AG]) ?_;simp;refine CLa d3 ?_;simp [AA];refine CLa d4 ?_;simp [AA];refine CRs d5 (by simp [n1,hk,BB]) ?_;simp;refine CLb (d6) (by first | (simp;done) | simp [CP,d8,hq]) ?_;simp;refine CRs d7 (by simp) ?_;simp [D9];refine Cn.mk _ _ _ (Ds 9) (by simp) (by simp) (by simp) (by simp) (by simp) ?_;simp;apply RZ;simp [results56]
end Go.Proofs.Tryz
namespace Go.Proofs.Tryz
open Go.Psl
open Go.Air
theorem fq (p:Plt) (a:Act) (ha:a.n=1):Cm prog 111 [.lp 23068672 0,BZ a] (lk [(23068672,plB p (.ls 28311552 0 0 7)),(28311552,[])]) [23068672] (.ret (.tup [])) (lk [(23068672,plB p (.ls 1 0 0 7)),(1,[])]):=by
 have d1:=ALU 1 1000 [1] (by simp);have d2:=BP 2;rw [show rgB 1 1000 [1]=true from by decide] at d1;have z1:IntKind.wrap .i64 1=1:=by decide
 refine CM 28311553 func111 ASc fun E hs hE=>?_
 simp [p111,AA,AM,ha]
 repeat ((first | (refine CLt d1 ?_ ?_;focus (simp [AG];done)) | (refine CLt d2 ?_ ?_;focus (simp;done)));simp)
 refine Al (α:=Nat) (fun k=>⟨AO [(0, .lp 23068672 0),(13,vi 1),(14,vi k)],lk [(23068672,plB p (.ls 28311552 0 0 7)),(28311552,[])],28311553⟩) (fun k=>k<=1) (fun k=>1-k) 0 ?_ ?_ ?_
 . omega
 . exact WKM hs (lk [(23068672,23068672),(28311552,28311552)])
 . intro k hk
   match k,hk with
   | 1,_=>
     simp [AMY];refine AB.by (lk [(23068672,23068672),(1,28311552)]) ?_;simp [results111]
   | n+2,h=>omega
   | 0,_=>
     simp [AMY];refine Al (α:=Nat) (fun i=>⟨AO [(0, .lp 23068672 0),(13,vi 1),(14,vi 0),(21,vi 0),(22,vi i)],lk [(23068672,plB p (.ls 28311552 0 0 7)),(28311552,[])],28311553⟩) (fun i=>i=0) (fun i=>0) 0 ?_ ?_ ?_
     . rfl
     . exact WKM hs (lk [(23068672,23068672),(28311552,28311552)])
     . intro i hi
       subst hi;simp [AMw,z1];refine ⟨1,by omega,by omega,?_⟩;exact WKM hs (lk [(23068672,23068672),(28311552,28311552)])
theorem i0 {f:FuncId} {p:Plt} {a:Act} {e:Int} (h:Cm prog f [.lp 0 0,BZ a] (lk [(0,plB p (.ls 1 0 0 7))]) [] (.pan (Fm e)) (lk [])):Cm prog f [.lp 23068672 0,BZ a] (lk [(23068672,plB p (.ls 28311552 0 0 7))]) [] (.pan (Fm e)) (lk []):=by
 have:=Cm.rename sgD 2 Nu h (by simp [BW]) (by simp [BW]) (by simp);simpa [Ea,HW,sgD] using this
theorem kz (p:Plt) (a:Act) (h:Ar p=true) (hk:a.k=3) (he:p.cs=[]):Ct prog 56 [Cy p (.d (AX p.cs)),BZ a] (.tup [.agg plZ,vi 2]) []:=by
 have d5:=i0 (gj p a);have d1:=ALn p (by simp [he]);have d2:=ALU 1 7 [3] (by simp);have d3:=BP 2;have d4:=Ce ([]:List Cel) (by simp);have w3:IntKind.wrap .i64 3=3:=by decide
 rw [h,he] at d1;rw [he];rw [show rgB 1 7 [3]=true from by decide] at d2;refine Ct.byD gok func56 c56 rfl (by simp [ntmps56]) (by simp) (by simp [LD]) fun E hE hN=>?_
 unfold p56;simp only [];refine DW.seq gok eok mixed ?_;simp [Ax];refine DW.seq gok eok mixed ?_;simp;refine CLa d1 ?_;simp [Ax];refine DW.defer2 gok eok mixed 11534336 [(2097152,0),(3145728,0)] [.lp 2097152 0, .lp 3145728 0] rfl rfl rfl (by simp) (by simp) hE fun E'=>?_
 simp [AA,AM,hk,w3];refine CLb (d2) (by simp [AG]) ?_;simp;refine CLa d3 ?_;simp [AA];refine CLa d4 ?_;simp [AA];refine CRs d5 (by simp [AH,hk]) ?_;simp [D9];refine Cn.mk _ _ _ (Ds 2) (by simp) (by simp) (by simp) (by simp) (by simp) ?_;simp;apply RZ;simp [results56]
theorem lA (p:Plt) (a:Act) (h:Ar p=true) (hk:a.k=4) (he:p.cs=[]):Ct prog 56 [Cy p (.d (AX p.cs)),BZ a] (.tup [.agg plZ,vi 2]) []:=by
 have d5:=i0 (ABp p a);have d1:=ALn p (by simp [he]);have d2:=ALU 1 7 [4] (by simp);have d3:=BP 2;have d4:=Ce ([]:List Cel) (by simp);have w3:IntKind.wrap .i64 4=4:=by decide
 rw [h,he] at d1;rw [he];rw [show rgB 1 7 [4]=true from by decide] at d2;refine Ct.byD gok func56 c56 rfl (by simp [ntmps56]) (by simp) (by simp [LD]) fun E hE hN=>?_
 unfold p56;simp only [];refine DW.seq gok eok mixed ?_;simp [Ax];refine DW.seq gok eok mixed ?_;simp;refine CLa d1 ?_;simp [Ax];refine DW.defer2 gok eok mixed 11534336 [(2097152,0),(3145728,0)] [.lp 2097152 0, .lp 3145728 0] rfl rfl rfl (by simp) (by simp) hE fun E'=>?_
 simp [AA,AM,hk,w3];refine CLb (d2) (by simp [AG]) ?_;simp;refine CLa d3 ?_;simp [AA];refine CLa d4 ?_;simp [AA];refine CRs d5 (by simp [AH,hk]) ?_;simp [D9];refine Cn.mk _ _ _ (Ds 2) (by simp) (by simp) (by simp) (by simp) (by simp) ?_;simp;apply RZ;simp [results56]
theorem lC (p:Plt) (a:Act) (h:Ar p=true) (hk:a.k=7) (hn:a.n=1) (he:p.cs=[]):Ct prog 56 [Cy p (.d (AX p.cs)),BZ a] (.tup [Cy p (.ls 0 0 0 7),vi 0]) [(0,[])]:=by
 have d5:=fq p a hn;have d6:=ALn p (by simp [he]);have d7:=BP 9;rw [h,he] at d6;have d1:=ALn p (by simp [he]);have d2:=ALU 1 7 [7] (by simp);have d3:=BP 2;have d4:=Ce ([]:List Cel) (by simp);have w3:IntKind.wrap .i64 7=7:=by decide
 rw [h,he] at d1;rw [he];rw [show rgB 1 7 [7]=true from by decide] at d2;refine Ct.byD gok func56 c56 rfl (by simp [ntmps56]) (by simp) (by simp [LD]) fun E hE hN=>?_
 unfold p56;simp only [];refine DW.seq gok eok mixed ?_;simp [Ax];refine DW.seq gok eok mixed ?_;simp;refine CLa d1 ?_;simp [Ax];refine DW.defer2 gok eok mixed 11534336 [(2097152,0),(3145728,0)] [.lp 2097152 0, .lp 3145728 0] rfl rfl rfl (by simp) (by simp) hE fun E'=>?_
 simp [AA,AM,hk,w3];refine CLb (d2) (by simp [AG]) ?_;simp;refine CLa d3 ?_;simp [AA];refine CLa d4 ?_;simp [AA];refine CRs d5 (by simp [AH,hk]) ?_;simp;refine CLb (d6) (by first | (simp;done) | simp [CP]) ?_;simp;refine CLa d7 ?_;simp [AA,Iv];refine Cn.mk _ _ _ IT (by simp) (by simp) (by simp) (by simp) (by simp) ?_;simp;refine AB.by (lk [(0,39845889)]) ?_;simp [results56]
def g7 (q:Plt):Except Int Plt:=if Ar q then .ok q else .error 9
def vlP (p:Plt) (a:Act) (c:Cel):Plt:={p with vh:=p.vh+BQ c a.n,va:=p.va+(a.n-BQ c a.n),cs:=p.cs.set a.c.toNat (I0 c a.n)}
def mvP (p:Plt) (a:Act) (c e:Cel):Plt:={p with cs:=(p.cs.set a.c.toNat (I0 c a.n)).set a.t.toNat (gg e (BQ c a.n) (a.n-BQ c a.n))}
def vlS (p:Plt) (a:Act):Except Int Plt:=if inA p.cs.length a then match p.cs[a.c.toNat]? with | none=> .error 2 | some c=>if a.n<=c.he+c.ai then g7 (vlP p a c) else .error 6 else .error 2
def mvS (p:Plt) (a:Act):Except Int Plt:=if inA p.cs.length a then (if inT p.cs.length a then match p.cs[a.c.toNat]?,p.cs[a.t.toNat]? with | some c,some e=>if a.n<=c.he+c.ai then g7 (mvP p a c e) else .error 6 | _,_=> .error 2 else .error 2) else .error 2
def tkQ (p:Plt):Plt:={tkP p p.cs p.cs.length with cs:=p.cs.map tkC}
def doS (p:Plt) (a:Act):Except Int Plt:=if Ar p then (if a.k=3 then vlS p a else if a.k=4 then mvS p a else g7 (tkQ p)) else .error 32
def doV:Except Int Plt->V
 | .ok q=> .tup [Cy q (.d (AX q.cs)),vi 0]
 | .error e=> .tup [.agg plZ,vi e]
theorem Ta {q:Plt} {n:Nat} {args:List V} (hn:q.cs.length=n) (h:Ct prog 56 args (.tup [Cy q (.ls 0 0 n 7),vi 0]) [(0,AH AP q.cs)]):Ct prog 56 args (doV (.ok q)) []:=by
 refine Cm.freeze h ?_;subst hn
 have hb:Df (lk [(0,AH AP q.cs)]) (.ls 0 0 q.cs.length 7) (.d (AX q.cs)):=by
   have:=B0 (H:=lk [(0,AH AP q.cs)]) (id:=0) Nr (l:=q.cs) (by simp);exact this
 have z:∀ x:Int,FzC (lk [(0,AH AP q.cs)]) (vi x) (vi x):=fun x=>⟨_,rfl, .inl rfl⟩
 exact ⟨⟨⟨_,rfl,hb⟩,z _,z _,z _,z _,z _,z _,z _,z _,z _,trivial⟩, .inl rfl,trivial⟩
theorem CS {p:Plt} (h:Ar p=true):p.cs.length<=12:=by
 unfold Ar IR at h;simp only [Bool.and_eq_true,decide_eq_true_eq] at h;exact h.1.1.1.1
theorem Dx {p:Plt} (h:Ar p=true):∀ c∈p.cs,B5 c:=fun c hc=>by
 unfold Ar at h;simp only [Bool.and_eq_true] at h;exact Dm.1 (List.all_eq_true.1 h.1.2 c hc)
theorem K7 {p:Plt} (h:Ar p=true):(Li p).all bkB=true:=by
 unfold Ar IR at h;simp only [Bool.and_eq_true] at h;exact h.1.1.2
theorem Zm {cs:List Cel} {a:Act} (h:inA cs.length a=true):∃ c,cs[a.c.toNat]?= some c:=by
 have:=EQ.1 h;exact ⟨_,List.getElem?_eq_getElem (by omega)⟩
theorem lE {cs:List Cel} {a:Act} (h:inT cs.length a=true):∃ c,cs[a.t.toNat]?= some c:=by
 unfold inT rgB at h;simp at h;exact ⟨_,List.getElem?_eq_getElem (by omega)⟩
theorem NP {p q:Plt} {a:Act} (h1:Ar q=true->Ct prog 56 [Cy p (.d (AX p.cs)),BZ a] (doV (.ok q)) []) (h2:Ar q=false->Ct prog 56 [Cy p (.d (AX p.cs)),BZ a] (.tup [.agg plZ,vi 9]) []):Ct prog 56 [Cy p (.d (AX p.cs)),BZ a] (doV (g7 q)) []:=by
 unfold g7;cases h:Ar q
 . simpa [doV] using h2 h
 . simpa using h1 h
theorem do_3 (p:Plt) (a:Act) (h:Ar p=true) (hk:a.k=3):Ct prog 56 [Cy p (.d (AX p.cs)),BZ a] (doV (doS p a)) []:=by
 have hl:=CS h;have hcs:=Dx h;obtain ⟨_,_,v1,v2,_⟩:=K9 (K7 h);have e:doS p a=vlS p a:=by simp [doS,h,hk]
 rw [e];by_cases he:p.cs=[]
 . have:inA p.cs.length a=false:=by
     cases hx:inA p.cs.length a
     . rfl
     . have:=EQ.1 hx;rw [he] at this;simp at this;omega
   have e2:vlS p a= .error 2:=by simp [vlS,this]
   rw [e2];exact kz p a h hk he
 . cases hx:inA p.cs.length a with
   | false=>
     have e2:vlS p a= .error 2:=by simp [vlS,hx]
     rw [e2];exact Py p a 2 (by omega) h hk he (Vw p p.cs a (by omega) he hx)
   | true=>
     obtain ⟨c,hc⟩:=Zm hx;have hb:=hcs c (List.mem_of_getElem? hc);by_cases hn:a.n<=c.he+c.ai
     . have e2:vlS p a=g7 (vlP p a c):=by simp [vlS,hx,hc,hn]
       rw [e2];have d:=aV p p.cs a c (by omega) hx hc hb hn v1 v2;have hq:(vlP p a c).cs.length=p.cs.length:=by simp [vlP]
       exact NP (fun ho=>Ta hq (ABg p (vlP p a c) a (by omega) h hk he hq ho d)) fun ho=>WY p (vlP p a c) a (by omega) h hk he hq ho d
     . have e2:vlS p a= .error 6:=by simp [vlS,hx,hc,hn]
       rw [e2];exact Py p a 6 (by omega) h hk he (Vx p p.cs a c (by omega) hx hc hb (by omega))
theorem do_4 (p:Plt) (a:Act) (h:Ar p=true) (hk:a.k=4):Ct prog 56 [Cy p (.d (AX p.cs)),BZ a] (doV (doS p a)) []:=by
 have hl:=CS h;have hcs:=Dx h;have e:doS p a=mvS p a:=by simp [doS,h,hk]
 rw [e];by_cases he:p.cs=[]
 . have:inA p.cs.length a=false:=by
     cases hx:inA p.cs.length a
     . rfl
     . have:=EQ.1 hx;rw [he] at this;simp at this;omega
   have e2:mvS p a= .error 2:=by simp [mvS,this]
   rw [e2];exact lA p a h hk he
 . cases hx:inA p.cs.length a with
   | false=>
     have e2:mvS p a= .error 2:=by simp [mvS,hx]
     rw [e2];exact LW p a 2 (by omega) h hk he (an p p.cs a (by omega) he hx)
   | true=>
     cases ht:inT p.cs.length a with
     | false=>
       have e2:mvS p a= .error 2:=by simp [mvS,hx,ht]
       rw [e2];exact LW p a 2 (by omega) h hk he (ap p p.cs a (by omega) hx ht)
     | true=>
       obtain ⟨c,hc⟩:=Zm hx;obtain ⟨g,hg⟩:=lE ht;have hb:=hcs c (List.mem_of_getElem? hc);have hbg:=hcs g (List.mem_of_getElem? hg);by_cases hn:a.n<=c.he+c.ai
       . have e2:mvS p a=g7 (mvP p a c g):=by simp [mvS,hx,ht,hc,hg,hn]
         rw [e2];have d:=gi p p.cs a c g (by omega) hx ht hc hg hb hbg hn;have hq:(mvP p a c g).cs.length=p.cs.length:=by simp [mvP]
         exact NP (fun ho=>Ta hq (ADp p (mvP p a c g) a (by omega) h hk he hq ho d)) fun ho=>WZ p (mvP p a c g) a (by omega) h hk he hq ho d
       . have e2:mvS p a= .error 6:=by simp [mvS,hx,ht,hc,hg,hn]
         rw [e2];exact LW p a 6 (by omega) h hk he (aq p p.cs a c (by omega) hx ht hc hb (by omega))
theorem do_7 (p:Plt) (a:Act) (h:Ar p=true) (hk:a.k=7) (h1:a.n=1):Ct prog 56 [Cy p (.d (AX p.cs)),BZ a] (doV (doS p a)) []:=by
 have hl:=CS h;have hcs:=Dx h;obtain ⟨_,_,_,_,v1,v2,_⟩:=K9 (K7 h);have e:doS p a=g7 (tkQ p):=by simp [doS,h,hk]
 rw [e];by_cases he:p.cs=[]
 . have e3:tkQ p=p:=by
     unfold tkQ tkP tkH tkA;cases p;simp at he;simp [he]
   rw [e3];refine NP (fun _=>Ta (by rw [he]) ?_) fun ho=>by rw [h] at ho;cases ho
   have:=lC p a h hk h1 he;rw [show AH AP p.cs=[] by rw [he];rfl];exact this
 . have d:=iQ p p.cs a hl he h1 hcs v1 v2
   have hq:(tkQ p).cs.length=p.cs.length:=by simp [tkQ]
   exact NP (fun ho=>Ta hq (cU p (tkQ p) a (by omega) h hk he hq ho d)) fun ho=>Wa p (tkQ p) a (by omega) h hk he hq ho d
theorem fv (l:List Cel) (hl:l.length<=1000000):Ct prog 55 [.d (AX l)] (.d (AX l)) []:=by
 refine Cm.freeze (Ce l hl) ?_;exact B0 (H:=lk [(0,AH AP l)]) (id:=0) Nr (l:=l) (by simp)
def B7 (p:Plt):List Act->Nat->Plt × Nat × Int
 | [],_=>(p,0,0)
 | a::r,i=>match doS p a with
   | .ok q=>B7 q r (i+1)
   | .error e=>(p,i,e)
theorem fw {p q:Plt} (h:g7 p= .ok q):Ar q=true:=by
 unfold g7 at h;split at h
 . cases h;assumption
 . cases h
theorem Zn {p q:Plt} {a:Act} (h:doS p a= .ok q):Ar q=true:=by
 unfold doS vlS mvS at h
 repeat' split at h
 all_goals first | exact fw h | cases h
theorem K8 {p:Plt} {e:Int} (h:g7 p= .error e):e=9:=by
 unfold g7 at h;split at h
 . cases h
 . cases h;rfl
theorem Tb {p:Plt} {a:Act} {e:Int} (h:doS p a= .error e):¬ e=0:=by
 unfold doS vlS mvS at h
 repeat' split at h
 all_goals first | (have:=K8 h;omega) | (cases h;omega)
theorem pq (p:Plt) (a:Act) (h:Ar p=true) (hk:a.k=3\/a.k=4):Ct prog 56 [Cy p (.d (AX p.cs)),BZ a] (doV (doS p a)) []:=by
 rcases hk with hk | hk
 . exact do_3 p a h hk
 . exact do_4 p a h hk
theorem fn16 (p:Plt) (l:List Act) (h:Ar p=true) (hl:l.length<=200) (hk:∀ a∈l,a.k=3\/a.k=4):Ct prog 16 [Cy p (.d (AX p.cs)), .d (JZ l)] (.tup [Cy (B7 p l 0).1 (.d (AX (B7 p l 0).1.cs)),vi (B7 p l 0).2.1,vi (B7 p l 0).2.2]) []:=by
 have hp:=CS h;have d1:=ALn p (by omega);have d2:=fv p.cs (by omega);have g:¬ (l.length:Int)>200:=by omega
 have g2:¬ (200:Int)<l.length:=by omega
 rw [h] at d1;obtain ⟨R,hR⟩:∃ R,B7 p l 0=R:=⟨_,rfl⟩
 rw [hR];refine CB func16 c16 fun E hE=>?_
 simp [p16];refine CLa d1 ?_;simp [AA,g];refine CLa d2 ?_;simp [AA];refine Al (α:=Nat × Plt) (fun x=>⟨AO [(4, .lp 0 0),(27, .d (JZ l)),(28,vi l.length),(29,vi x.1)],lk [(0,plB x.2 (.d (AX x.2.cs)))],1⟩) (fun x=>x.1<=l.length/\Ar x.2=true/\B7 x.2 (l.drop x.1) x.1=R) (fun x=>l.length-x.1) (0,p) ?_ ?_ ?_
 . exact ⟨by simp,h,by simpa using hR⟩
 . exact WK hE (lk [(0,1048576)])
 . rintro ⟨i,q⟩ ⟨hi,hq,hr⟩
   simp only at hi hq hr;have w:IntKind.wrap .i64 ((i:Int)+1)=((i+1:Nat):Int):=by rw [AD (by omega) (by omega)];rfl
   by_cases hi2:i<l.length
   . obtain ⟨a,ha⟩:=gE hi2
     have d3:=pq q a hq (hk a (List.mem_of_getElem? ha))
     have e1:l.drop i=a::l.drop (i+1):=by
       rw [List.drop_eq_getElem_cons hi2];rw [List.getElem?_eq_getElem hi2] at ha;cases ha;rfl
     have hiI:(i:Int)<l.length:=by omega
     rw [e1,B7] at hr;cases hd:doS q a with
     | ok q2=>
       rw [hd] at d3 hr;simp only [doV] at d3;have hq2:=Zn hd;simp [AES,AA,hiI,ha];refine CLa d3 ?_;simp [AA,w];refine ⟨i+1,q2,⟨by omega,hq2,hr⟩,by omega,?_⟩;exact WK hE (lk [(0,0)])
     | error e=>
       rw [hd] at d3 hr;simp only [doV] at d3;have he:=Tb hd;simp [AES,AA,hiI,ha];refine CLa d3 ?_;simp [AA,he];apply RZ;subst hr;simp [results16]
   . have e1:l.drop i=[]:=List.drop_eq_nil_of_le (by omega)
     rw [e1,B7] at hr;subst hr;have hiI:¬ (i:Int)<l.length:=by omega
     simp [AES,AA,hiI];apply RZ;simp [results16]
theorem ASQ (s:Shp):Cm prog 98 [.lp 0 0] (lk [(0,(Ca s).map .d)]) [0] (.ret (.agg [.lp 0 0, .lp 0 2, .lp 0 4, .lp 0 6, .lp 0 8, .lp 0 10])) (lk [(0,(Ca s).map .d)]):=by
 refine CM 1 func98 c98 fun E hs hE=>?_
 simp [p98,AA];refine AB.by (lk [(0,0)]) ?_;simp [results98]
def spS (s:Shp) (k:Nat):Int × Int:=[(s.xl,s.xh),(s.yl,s.yh),(s.hl,s.hh),(s.fl,s.fh),(s.wl,s.wh),(s.bl,s.bh)].getD k (0,0)
theorem ADB {s:Shp} (h:A6 s=true) (k:Nat):okS (spS s k)=true:=by
 unfold A6 at h;simp only [Bool.and_eq_true,CC] at h;obtain ⟨⟨⟨⟨⟨⟨h1,h2⟩,h3⟩,h4⟩,_⟩,_⟩,_⟩:=h;unfold okS spS
 match k with
 | 0=>simp;omega
 | 1=>simp;omega
 | 2=>simp;omega
 | 3=>simp;omega
 | 4=>simp;omega
 | 5=>simp;omega
 | n+6=>simp
theorem ACZ {a b:Shp} (ha:A6 a=true) (hb:A6 b=true) (k:Nat):ACb (spS a k) (spS b k)=(Xr (spS a k) (spS b k),0):=by
 unfold ACb Xr;rw [ADB ha,ADB hb];simp
theorem ADY {a b:Shp} {P:Prop} (n1:¬ a.dry=b.dry->P) (n2:a.dry=b.dry->¬ a.bal=b.bal->P) (n3:a.dry=b.dry->a.bal=b.bal->¬ a.drp=b.drp->P) (y:a.dry=b.dry->a.bal=b.bal->a.drp=b.drp->P):P:=by
 by_cases h1:a.dry=b.dry
 . by_cases h2:a.bal=b.bal
   . by_cases h3:a.drp=b.drp
     . exact y h1 h2 h3
     . exact n3 h1 h2 h3
   . exact n2 h1 h2
 . exact n1 h1
theorem AEP {a b:Shp} {k:Nat} (hk:k<6) (h:Xr (spS a k) (spS b k)=false):Xo a b=false:=by
 unfold Xo ADx
 match k,hk with
 | 0,_=>rw [show Xr (a.xl,a.xh) (b.xl,b.xh)=false from h];rfl
 | 1,_=>rw [show Xr (a.yl,a.yh) (b.yl,b.yh)=false from h];simp
 | 2,_=>rw [show Xr (a.hl,a.hh) (b.hl,b.hh)=false from h];simp
 | 3,_=>rw [show Xr (a.fl,a.fh) (b.fl,b.fh)=false from h];simp
 | 4,_=>rw [show Xr (a.wl,a.wh) (b.wl,b.wh)=false from h];simp
 | 5,_=>rw [show Xr (a.bl,a.bh) (b.bl,b.bh)=false from h];simp
theorem ADu {a b:Shp} (h:∀ k,k<6->Xr (spS a k) (spS b k)=true):ADx a b=true:=by
 unfold ADx;rw [show Xr (a.xl,a.xh) (b.xl,b.xh)=true from h 0 (by omega),show Xr (a.yl,a.yh) (b.yl,b.yh)=true from h 1 (by omega),show Xr (a.hl,a.hh) (b.hl,b.hh)=true from h 2 (by omega),show Xr (a.fl,a.fh) (b.fl,b.fh)=true from h 3 (by omega),show Xr (a.wl,a.wh) (b.wl,b.wh)=true from h 4 (by omega),show Xr (a.bl,a.bh) (b.bl,b.bh)=true from h 5 (by omega)];rfl
theorem fn51 (a b:Shp) (ha:A6 a=true) (hb:A6 b=true):Ct prog 51 [Cl a (.d (AX a.gas.cs)),Cl b (.d (AX b.gas.cs))] (vb (Xo a b)) []:=by
 have hna:=(GT ha).n;have hnb:=(GT hb).n;have d1:=(ASQ b).rename (fun _=>1048576) 1 (by omega) (by simp) (by simp) (by simp);have d2:=ASQ a;simp [Ea,HW] at d1;have cE:=zN a.gas.cs b.gas.cs (by omega) (by omega);refine CB func51 c51 fun E hE=>?_
 simp [p51];refine CRs d1 (by simp) ?_;simp [AA];refine CRs d2 (by simp) ?_;simp;refine Al (α:=Nat) (fun i=>⟨AO [(2, .lp 0 0),(3, .lp 1 0),(5, .lp 2 0),(13, .agg [.lp 0 0, .lp 0 2, .lp 0 4, .lp 0 6, .lp 0 8, .lp 0 10]),(14,vi i)],lk [(0,(Ca a).map .d),(1,(Ca b).map .d),(2,[.lp 1 0, .lp 1 2, .lp 1 4, .lp 1 6, .lp 1 8, .lp 1 10])],3⟩) (fun i=>i<=6/\∀ j,j<i->Xr (spS a j) (spS b j)=true) (fun i=>6-i) 0 ?_ ?_ ?_
 . exact ⟨by omega,fun j hj=>by omega⟩
 . exact WK hE (lk [(0,0),(1,1048576),(2,4194304)])
 . rintro i ⟨hi,hg⟩
   have wwA:(IntKind.wrap .i64 1=1/\IntKind.wrap .i64 2=2/\IntKind.wrap .i64 3=3)/\IntKind.wrap .i64 4=4/\IntKind.wrap .i64 5=5/\IntKind.wrap .i64 6=6:=by decide
   match i,hi,hg with
   | 0,hi,hg=>
     have c:=ko (spS a 0) (spS b 0);rw [ACZ ha hb] at c;cases hq:Xr (spS a 0) (spS b 0)
     . have e:Xo a b=false:=AEP (k:=0) (by omega) hq
       rw [hq] at c;simp [spS] at c;simp [ALi,inC,Nat.testBit];refine CLa c ?_;simp;apply RZ;simp [results51,e]
     . skip
       rw [hq] at c;simp [spS] at c;simp [ALi,inC,Nat.testBit];refine CLa c ?_;simp;refine ⟨0+1,⟨by omega,fun j hj=>?_⟩,by omega,?_⟩
       . by_cases e:j=0
         . subst e;exact hq
         . exact hg j (by omega)
       . refine AI.mk hE (lk [(0,0),(1,1),(2,2)]) _ _ _ ?_ ?_ ?_ ?_ ?_<;>simp [wwA]
   | 1,hi,hg=>
     have c:=ko (spS a 1) (spS b 1);rw [ACZ ha hb] at c;cases hq:Xr (spS a 1) (spS b 1)
     . have e:Xo a b=false:=AEP (k:=1) (by omega) hq
       rw [hq] at c;simp [spS] at c;simp [ALi,inC,Nat.testBit];refine CLa c ?_;simp;apply RZ;simp [results51,e]
     . skip
       rw [hq] at c;simp [spS] at c;simp [ALi,inC,Nat.testBit];refine CLa c ?_;simp;refine ⟨1+1,⟨by omega,fun j hj=>?_⟩,by omega,?_⟩
       . by_cases e:j=1
         . subst e;exact hq
         . exact hg j (by omega)
       . refine AI.mk hE (lk [(0,0),(1,1),(2,2)]) _ _ _ ?_ ?_ ?_ ?_ ?_<;>simp [wwA]
   | 2,hi,hg=>
     have c:=ko (spS a 2) (spS b 2);rw [ACZ ha hb] at c;cases hq:Xr (spS a 2) (spS b 2)
     . have e:Xo a b=false:=AEP (k:=2) (by omega) hq
       rw [hq] at c;simp [spS] at c;simp [ALi,inC,Nat.testBit];refine CLa c ?_;simp;apply RZ;simp [results51,e]
     . skip
       rw [hq] at c;simp [spS] at c;simp [ALi,inC,Nat.testBit];refine CLa c ?_;simp;refine ⟨2+1,⟨by omega,fun j hj=>?_⟩,by omega,?_⟩
       . by_cases e:j=2
         . subst e;exact hq
         . exact hg j (by omega)
       . refine AI.mk hE (lk [(0,0),(1,1),(2,2)]) _ _ _ ?_ ?_ ?_ ?_ ?_<;>simp [wwA]
   | 3,hi,hg=>
     have c:=ko (spS a 3) (spS b 3);rw [ACZ ha hb] at c;cases hq:Xr (spS a 3) (spS b 3)
     . have e:Xo a b=false:=AEP (k:=3) (by omega) hq
       rw [hq] at c;simp [spS] at c;simp [ALi,inC,Nat.testBit];refine CLa c ?_;simp;apply RZ;simp [results51,e]
     . skip
       rw [hq] at c;simp [spS] at c;simp [ALi,inC,Nat.testBit];refine CLa c ?_;simp;refine ⟨3+1,⟨by omega,fun j hj=>?_⟩,by omega,?_⟩
       . by_cases e:j=3
         . subst e;exact hq
         . exact hg j (by omega)
       . refine AI.mk hE (lk [(0,0),(1,1),(2,2)]) _ _ _ ?_ ?_ ?_ ?_ ?_<;>simp [wwA]
   | 4,hi,hg=>
     have c:=ko (spS a 4) (spS b 4);rw [ACZ ha hb] at c;cases hq:Xr (spS a 4) (spS b 4)
     . have e:Xo a b=false:=AEP (k:=4) (by omega) hq
       rw [hq] at c;simp [spS] at c;simp [ALi,inC,Nat.testBit];refine CLa c ?_;simp;apply RZ;simp [results51,e]
     . skip
       rw [hq] at c;simp [spS] at c;simp [ALi,inC,Nat.testBit];refine CLa c ?_;simp;refine ⟨4+1,⟨by omega,fun j hj=>?_⟩,by omega,?_⟩
       . by_cases e:j=4
         . subst e;exact hq
         . exact hg j (by omega)
       . refine AI.mk hE (lk [(0,0),(1,1),(2,2)]) _ _ _ ?_ ?_ ?_ ?_ ?_<;>simp [wwA]
   | 5,hi,hg=>
     have c:=ko (spS a 5) (spS b 5);rw [ACZ ha hb] at c;cases hq:Xr (spS a 5) (spS b 5)
     . have e:Xo a b=false:=AEP (k:=5) (by omega) hq
       rw [hq] at c;simp [spS] at c;simp [ALi,inC,Nat.testBit];refine CLa c ?_;simp;apply RZ;simp [results51,e]
     . skip
       rw [hq] at c;simp [spS] at c;simp [ALi,inC,Nat.testBit];refine CLa c ?_;simp;refine ⟨5+1,⟨by omega,fun j hj=>?_⟩,by omega,?_⟩
       . by_cases e:j=5
         . subst e;exact hq
         . exact hg j (by omega)
       . refine AI.mk hE (lk [(0,0),(1,1),(2,2)]) _ _ _ ?_ ?_ ?_ ?_ ?_<;>simp [wwA]
   | n+7,hi,_=>omega
   | 6,hi,hg=>
     have hB:=ADu hg;have e0:Xo a b=(decide (a.dry=b.dry)&&decide (a.bal=b.bal)&&decide (a.drp=b.drp)&&decide (a.gas=b.gas)):=by unfold Xo;rw [hB];rfl
     simp [ALi];refine AL [(6,5242883),(7,6291459)] (by kernel_rfl) ?_;simp [AA,inC,Nat.testBit];refine ADY (a:=a) (b:=b) (fun h=>?_) (fun k1 h=>?_) (fun k1 k2 h=>?_) (fun k1 k2 k3=>?_)
     . have e:¬ a.dry=b.dry:=h
       simp [h];apply RZ;simp [results51,e0,e]
     . have e:¬ a.bal=b.bal:=h
       simp [k1,h];apply RZ;simp [results51,e0,e,k1]
     . have e:¬ a.drp=b.drp:=h
       simp [k1,k2,h];apply RZ;simp [results51,e0,e,k1,k2]
     refine ACj (a:=a.gas) (b:=b.gas) (fun h=>?_) (fun h1 h=>?_) (fun h1 h2 h=>?_) (fun h1 h2 h3 h=>?_) (fun h1 h2 h3 h4 h=>?_) (fun h1 h2 h3 h4 h5=>?_)
     . have e:¬ a.gas=b.gas:=fun he=>h (by rw [he])
       simp [k1,k2,k3,h];apply RZ;simp [results51,e0,e,k1,k2,k3]
     . have e:¬ a.gas=b.gas:=fun he=>by rw [he] at h;simp at h
       simp [k1,k2,k3,h1,h];apply RZ;simp [results51,e0,e,k1,k2,k3]
     . have e:¬ a.gas=b.gas:=fun he=>by rw [he] at h;simp at h
       simp [k1,k2,k3,h1,h2,h];apply RZ;simp [results51,e0,e,k1,k2,k3]
     . have e:¬ a.gas=b.gas:=fun he=>by rw [he] at h;simp at h
       simp [k1,k2,k3,h1,h2,h3,h];apply RZ;simp [results51,e0,e,k1,k2,k3]
     . have e:¬ a.gas=b.gas:=fun he=>by rw [he] at h;simp at h
       simp [k1,k2,k3,h1,h2,h3,h4,h];apply RZ;simp [results51,e0,e,k1,k2,k3]
     . have e:(a.gas=b.gas)=(a.gas.cs=b.gas.cs):=by
         rw [eq_iff_iff];exact ⟨fun he=>by rw [he],fun h0=>ADk h0 h1 h2 h3 h4 h5⟩
       simp [k1,k2,k3,h1,h2,h3,h4,h5];refine CLa cE ?_;simp;apply RZ;simp [results51,e0,e,k1,k2,k3]
theorem AFH (x y:Bool):(if (if x then 0 else 52:Int)=0 then (if y then 0 else 52:Int) else (if x then 0 else 52))=if x&&y then 0 else 52:=by cases x<;>cases y<;>rfl
theorem fn13 (a b:Shp) (ha:a.gas.cs.length<=1000000) (hb:b.gas.cs.length<=1000000):Ct prog 13 [Cl a (.d (AX a.gas.cs)),Cl b (.d (AX b.gas.cs))] (.tup [vb (AEs a b).1,vi (AEs a b).2]) []:=by
 have c1:=AEM a (by omega);have c2:=AEM b (by omega);have c3:=fn50 (if A6 a then 0 else 52) (if A6 b then 0 else 52);rw [AFH] at c3;obtain ⟨x,hx⟩:∃ x:Int,(if A6 a then 0 else 52)=x:=⟨_,rfl⟩
 obtain ⟨y,hy⟩:∃ y:Int,(if A6 b then 0 else 52)=y:=⟨_,rfl⟩
 rw [hx] at c1;rw [hy] at c2;rw [hx,hy] at c3;cases hab:A6 a&&A6 b
 . have e:AEs a b=(false,52):=by unfold AEs;rw [hab];rfl
   rw [hab] at c3;rw [e];refine CB func13 c13 fun E hE=>?_
   simp [p13,inC,Nat.testBit];refine CLa c1 ?_;simp [inC,Nat.testBit];refine CLa c2 ?_;simp [AA,AM];refine CLb (c3) (by simp [Ap]) ?_;simp;apply RZ;simp [results13]
 . have e:AEs a b=(Xo a b,0):=by unfold AEs;rw [hab];rfl
   simp only [Bool.and_eq_true] at hab;have c4:=fn51 a b hab.1 hab.2;rw [hab.1,hab.2] at c3;rw [e];refine CB func13 c13 fun E hE=>?_
   simp [p13,inC,Nat.testBit];refine CLa c1 ?_;simp [inC,Nat.testBit];refine CLa c2 ?_;simp [AA,AM];refine CLb (c3) (by simp [Ap]) ?_;simp;refine CLa c4 ?_;simp;apply RZ;simp [results13]
theorem CR {s:Shp} (h:A6 s=true):Ar s.gas=true:=by
 unfold A6 at h;simp only [Bool.and_eq_true] at h;exact h.2
theorem MF {s:Shp} (h:A6 s=true):((0<=s.dry/\s.dry<=1000000000)/\0<=s.bal/\s.bal<=1000000000)/\0<=s.drp/\s.drp<=1000000000000:=by
 unfold A6 at h;simp only [Bool.and_eq_true] at h;have h1:=h.1.1.2;have h2:=h.1.2;simp [rgB] at h1 h2;omega
theorem Kz {l:Leg} (h:BE l=true):l.acts.length<=12/\(∀ a∈l.acts,a.k=3\/a.k=4)/\0<=l.dr/\l.dr<=1000000000:=by
 unfold BE at h;simp only [Bool.and_eq_true,decide_eq_true_eq] at h;have h1:=h.1.1.2;simp [rgB] at h1;refine ⟨h.1.2,fun a ha=>?_,by omega⟩;have:=List.all_eq_true.1 h.2 a ha;simpa [Cb] using this
def Ep (s:Shp) (l:Leg):Except Int Shp:=
 if (B7 s.gas l.acts 0).2.2=0 then
   (if s.bal<l.dr then .error 2 else if 1000000000000<s.drp+l.dr then .error 9
     else .ok {s with gas:=(B7 s.gas l.acts 0).1,bal:=s.bal-l.dr,drp:=s.drp+l.dr})
 else .error (B7 s.gas l.acts 0).2.2
abbrev shZ:List V:=[vi 0,vi 0,vi 0,vi 0,vi 0,vi 0,vi 0,vi 0,vi 0,vi 0,vi 0,vi 0,vi 0,vi 0,vi 0, .d (.lit (.slice none 0 0)),vi 0,vi 0,vi 0,vi 0,vi 0,vi 0,vi 0,vi 0,vi 0]
def Oy:Except Int Shp->V
 | .ok s=> .tup [Cl s (.d (AX s.gas.cs)),vi 0]
 | .error e=> .tup [.agg shZ,vi e]
theorem Pw (s:Shp) (l:Leg) (hs:A6 s=true) (hl:BE l=true):Ct prog 91 [Cl s (.d (AX s.gas.cs)),AKx l] (Oy (Ep s l)) []:=by
 have q1:=Kz hl;have q2:=MF hs;have d1:=fn16 s.gas l.acts (CR hs) (by omega) q1.2.1;have w1:IntKind.wrap .i64 (s.drp+l.dr)=s.drp+l.dr:=AD (by omega) (by omega);have w2:IntKind.wrap .i64 (s.bal-l.dr)=s.bal-l.dr:=AD (by omega) (by omega);unfold Ep
 generalize B7 s.gas l.acts 0=R at*
 obtain ⟨q,i,e⟩:=R;simp only at d1;simp only;by_cases he:e=0
 . rw [if_pos he]
   by_cases h2:s.bal<l.dr
   . rw [if_pos h2]
     simp only [Oy];refine CB func91 c91 fun E hE=>?_
     simp [p91];refine CLa d1 ?_;simp [AA,he,h2];apply RZ;simp [results91]
   . rw [if_neg h2]
     by_cases h3:1000000000000<s.drp+l.dr
     . rw [if_pos h3]
       simp only [Oy];refine CB func91 c91 fun E hE=>?_
       simp [p91];refine CLa d1 ?_;simp [AA,he,h2,w1,h3];apply RZ;simp [results91]
     . rw [if_neg h3]
       simp only [Oy];refine CB func91 c91 fun E hE=>?_
       simp [p91];refine CLa d1 ?_;simp [AA,he,h2,w1,h3];refine AL [(12,0),(14,0)] (by kernel_rfl) ?_;simp [AA,w1,w2,inC,Nat.testBit];apply RZ;simp [results91]
 . rw [if_neg he]
   simp only [Oy];refine CB func91 c91 fun E hE=>?_
   simp [p91];refine CLa d1 ?_;simp [AA,he];apply RZ;simp [results91]
def mhS (s:Shp) (l:Leg):Int × Int:=(min s.hl (s.hl+l.ul),max s.hh (s.hh+l.uh))
def DY (r:Rig) (l:Leg):Int × Int:=(Ja (l.bl,l.bh) (r.gl,r.gh) (100,100)).1
def Cj (k:Sky) (r:Rig) (s:Shp) (l:Leg):Shp:=
 {s with
   xl:=s.xl+6*(l.axl+(Jr k.w (mhS s l)).1),xh:=s.xh+6*(l.axh+(Jr k.w (mhS s l)).2)
   yl:=s.yl+6*(l.ayl+(Js k.w (mhS s l)).1),yh:=s.yh+6*(l.ayh+(Js k.w (mhS s l)).2)
   hl:=s.hl+l.ul,hh:=s.hh+l.uh
   fl:=s.fl-l.bh,fh:=s.fh-l.bl
   wl:=min (s.wl+(DY r l).1) r.tank,wh:=min (s.wh+(DY r l).2) r.tank
   bl:=s.bl+l.bl,bh:=s.bh+l.bh
   gas:=tkQ s.gas}
def KG (s n:Shp):Shp:={n with fh:=s.fh,wl:=min s.wl n.wl,wh:=max s.wh n.wh}
def sqN (a b:Int):Int:=max (max 0 a) (-b)*max (max 0 a) (-b)
def sqF (a b:Int):Int:=max (-a) b*max (-a) b
def Nz (xl xh yl yh:Int):(Int × Int) × Int:=LB (sqN xl xh+sqN yl yh,sqF xl xh+sqF yl yh)
def N1 (l:Leg):Int × Int:=(Nz l.axl l.axh l.ayl l.ayh).1
def UC (n:Shp):Bool:=spB (-10000000) 10000000 n.xl n.xh&&spB (-10000000) 10000000 n.yl n.yh
def ER (k:Sky) (r:Rig) (s:Shp) (l:Leg):Int × Int:=
 if (mhS s l).1<r.lo then (1,0) else if r.hi<(mhS s l).2 then (2,0)
 else if 0<=ixF (EK (atA k.s (mhS s l).1 (mhS s l).2).1) (tkQ s.gas).cs then (3,ixF (EK (atA k.s (mhS s l).1 (mhS s l).2).1) (tkQ s.gas).cs)
 else if s.fl-l.bh<r.rsv then (4,0)
 else if Il r.reg (N1 l) (hvS (KG s (Cj k r s l)) (atA k.s (mhS s l).1 (mhS s l).2).1)=false then (5,0)
 else if UC (Cj k r s l)=false then (6,0) else (0,0)
def HK (k:Sky) (r:Rig) (s:Shp) (l:Leg):Except (Int × Int × Int) Shp:=
 if (ER k r s l).1=0 then (if 1000000000000<s.bh+l.bh then .error (9,0,0) else .ok (Cj k r s l)) else .error (54,ER k r s l)
theorem jY (cs:List Cel):heS (cs.map tkC)+(cs.map fun c=>BQ c (tkN c)).sum=heS cs:=by
 unfold heS;induction cs with
 | nil=>simp
 | cons c r ih=>
   have e:(tkC c).he=c.he-BQ c (tkN c):=rfl;simp only [List.map_cons,List.sum_cons];rw [e];omega
theorem jZ (cs:List Cel):aiS (cs.map tkC)+(cs.map fun c=>tkN c-BQ c (tkN c)).sum=aiS cs:=by
 unfold aiS;induction cs with
 | nil=>simp
 | cons c r ih=>
   have e:(tkC c).ai=c.ai-(tkN c-BQ c (tkN c)):=rfl;simp only [List.map_cons,List.sum_cons];rw [e];omega
theorem ja {c:Cel} (h:B5 c):B5 (tkC c):=by
 have h1:=SY h;have h2:=h.he;have h3:=h.ai;have h4:=cY h;unfold tkC I0;refine ⟨h.rm,by simp only;omega,by simp only;omega,h.w,h.lk,by simp only;omega⟩
theorem jb {l:List Cel} (h:∀ c∈l,B5 c):0<=heS l/\0<=aiS l:=by
 unfold heS aiS;induction l with
 | nil=>simp
 | cons c r ih=>
   have h1:=(h c (by simp)).he;have h2:=(h c (by simp)).ai;have:=ih fun x hx=>h x (by simp [hx])
   simp only [List.map_cons,List.sum_cons];omega
theorem Wl {p:Plt} (h:Ar p=true):p.bt+p.vh+p.lh+p.ph+heS p.cs=p.ih/\p.va+p.la+p.pa+aiS p.cs=p.ia:=by
 unfold Ar at h;simp only [Bool.and_eq_true,decide_eq_true_eq] at h;exact h.2
theorem Wm {p:Plt} (h:Ar p=true):0<=p.bt/\p.bt<=10000000:=by
 unfold Ar IR at h;simp only [Bool.and_eq_true] at h;have:=h.1.1.1.2;simp [rgB] at this;omega
theorem P4 {p:Plt} (h1:p.cs.length<=12) (h2:0<=p.bt/\p.bt<=10000000) (h3:∀ c∈p.cs,B5 c) (h4:p.bt+p.vh+p.lh+p.ph+heS p.cs=p.ih/\p.va+p.la+p.pa+aiS p.cs=p.ia) (hp:(0<=p.vh/\0<=p.va)/\(0<=p.lh/\0<=p.la)/\0<=p.ph/\0<=p.pa) (h5:p.ih<=1000000000000/\p.ia<=1000000000000):Ar p=true:=by
 have h6:=jb h3;unfold Ar IR;simp only [Bool.and_eq_true,decide_eq_true_eq];refine ⟨⟨⟨⟨h1,by simp [rgB];omega⟩,?_⟩,List.all_eq_true.2 fun c hc=>Dm.2 (h3 c hc)⟩,h4⟩;unfold Li bkB rgB;simp;omega
theorem Md {p:Plt} (h:Ar p=true):Ar (tkQ p)=true:=by
 have hl:=CS h;have hc:=Dx h;have he:=Wl h;have hb:=Wm h;obtain ⟨b1,b2,b3,b4,b5,b6,b7,b8⟩:=K9 (K7 h);have k1:=jY p.cs;have k2:=jZ p.cs;have k3:=SZ hc p.cs.length (Nat.le_refl _);have e1:tkH p.cs p.cs.length=(p.cs.map fun c=>BQ c (tkN c)).sum:=by unfold tkH;rw [List.take_length]
 have e2:tkA p.cs p.cs.length=(p.cs.map fun c=>tkN c-BQ c (tkN c)).sum:=by unfold tkA;rw [List.take_length]
 refine P4 (by simpa [tkQ] using hl) hb (fun c hcc=>?_) ?_ ?_ ?_
 . simp only [tkQ,List.mem_map] at hcc
   obtain ⟨x,hx,rfl⟩:=hcc;exact ja (hc x hx)
 . simp only [tkQ,tkP];omega
 . simp only [tkQ,tkP];omega
 . simp only [tkQ,tkP];omega
theorem GJ {x y:Int} (hx:0<=x/\x<=1000000) (hy:0<=y/\y<=120):Eg x y 100=(x*y/100,(x*y+99)/100):=by
 have h1:0<=x*y:=Int.mul_nonneg hx.1 hy.1;have h2:x*y<=1000000*120:=Int.mul_le_mul hx.2 hy.2 hy.1 (by omega);unfold Eg;rw [show max x (-x)=x by omega,show max y (-y)=y by omega,decide_eq_false (by omega:¬ x<0),decide_eq_false (by omega:¬ y<0)];unfold Da upS
 generalize x*y=z at*
 rw [if_pos (show z/100<2199023255552 by omega)];simp only [bne_self_eq_false,Bool.false_eq_true,if_false];refine Prod.ext rfl ?_
 show (if 0<z%100 then z/100+1 else z/100)=(z+99)/100
 split<;>omega
theorem Me {r:Rig} {l:Leg} (hl:0<=l.bl/\l.bl<=l.bh/\l.bh<=1000000) (hr:0<=r.gl/\r.gl<=r.gh/\r.gh<=120):Ja (l.bl,l.bh) (r.gl,r.gh) (100,100)=((l.bl*r.gl/100,(l.bh*r.gh+99)/100),0):=by
 have o1:okS (l.bl,l.bh)=true:=CT.2 (by simp only;omega);have o2:okS (r.gl,r.gh)=true:=CT.2 (by simp only;omega);have o3:okS (100,100)=true:=by decide
 have p0:0<=l.bl*r.gl:=Int.mul_nonneg (by omega) (by omega);have p1:l.bl*r.gl<=l.bh*r.gl:=Int.mul_le_mul_of_nonneg_right (by omega) (by omega);have p2:l.bl*r.gl<=l.bl*r.gh:=Int.mul_le_mul_of_nonneg_left (by omega) (by omega);have p3:l.bh*r.gl<=l.bh*r.gh:=Int.mul_le_mul_of_nonneg_left (by omega) (by omega);have p4:l.bl*r.gh<=l.bh*r.gh:=Int.mul_le_mul_of_nonneg_right (by omega) (by omega);have p5:l.bh*r.gh<=1000000*120:=Int.mul_le_mul (by omega) (by omega) (by omega) (by omega);unfold Ja;rw [o1,o2,o3];simp only [Bool.and_self,if_true,show ¬ (100:Int)<1 by omega,if_false];unfold Lx HO ALK Xa;simp only [List.foldl_cons,List.foldl_nil,show ¬ ((0:Nat)%2=1) by decide,show ((1:Nat)%2=1) by decide,if_true,if_false,ite_self];rw [GJ (by omega) (by omega),GJ (by omega) (by omega),GJ (by omega) (by omega),GJ (by omega) (by omega)];simp only;unfold JH
 generalize l.bl*r.gl=a at*
 generalize l.bh*r.gl=b at*
 generalize l.bl*r.gh=c at*
 generalize l.bh*r.gh=d at*
 rw [if_neg (by simp only;omega)];simp only [Prod.mk.injEq,and_true];omega
structure P5 (r:Rig):Prop where
 g:0<=r.gl/\r.gl<=r.gh/\r.gh<=120
 t:0<=r.tank/\r.tank<=1000000000
 v:0<=r.rsv/\r.rsv<=1000000000
 h: -500<=r.lo/\r.lo<=r.hi/\r.hi<=9000
 r:C7 r.reg=true
theorem Hy {r:Rig} (h:CF r=true):P5 r:=by
 unfold CF at h;simp only [Bool.and_eq_true,CC] at h;obtain ⟨⟨⟨h1,h2⟩,h3⟩,h4⟩:=h;simp [rgB] at h2;exact ⟨h1,by omega,by omega,h3,h4⟩
structure Wn (l:Leg):Prop where
 m:1<=l.m/\l.m<=600
 x: -1000<=l.axl/\l.axl<=l.axh/\l.axh<=1000
 y: -1000<=l.ayl/\l.ayl<=l.ayh/\l.ayh<=1000
 u: -300<=l.ul/\l.ul<=l.uh/\l.uh<=300
 b:0<=l.bl/\l.bl<=l.bh/\l.bh<=1000000
theorem Mf {l:Leg} (h:BE l=true):Wn l:=by
 have hm:=AL0 h;unfold BE at h;simp only [Bool.and_eq_true,CC] at h;exact ⟨hm,h.1.1.1.1.1.2.1,h.1.1.1.1.1.2.2,h.1.1.1.1.2,h.1.1.1.2⟩
structure mU (s:Shp):Prop where
 x: -10000000<=s.xl/\s.xl<=s.xh/\s.xh<=10000000
 y: -10000000<=s.yl/\s.yl<=s.yh/\s.yh<=10000000
 b:0<=s.bl/\s.bl<=s.bh/\s.bh<=1000000000000
 p:0<=s.drp/\s.drp<=1000000000000
theorem AAb {s:Shp} (h:A6 s=true):mU s:=by
 have hn:=MF h;unfold A6 at h;simp only [Bool.and_eq_true,CC] at h;exact ⟨h.1.1.1.1.1.1.1,h.1.1.1.1.1.1.2,h.1.1.1.2,hn.2⟩
theorem KH {s:Shp} (hb:VU s) (hx:mU s) (hg:Ar s.gas=true):A6 s=true:=by
 have h1:=hb.d;have h2:=hb.b;have h3:=hx.p;unfold A6;simp only [Bool.and_eq_true,CC];exact ⟨⟨⟨⟨⟨⟨⟨hx.x,hx.y⟩,hb.h⟩,hb.f,hb.w⟩,hx.b⟩,by simp [rgB];omega⟩,by simp [rgB];omega⟩,hg⟩
structure KI (k:Sky) (r:Rig) (s:Shp) (l:Leg):Prop where
 lo:r.lo<=(mhS s l).1
 hi:(mhS s l).2<=r.hi
 fit:∀ c∈(tkQ s.gas).cs,Lh c (atA k.s (mhS s l).1 (mhS s l).2).1=1
 rsv:r.rsv<=s.fl-l.bh
 trim:Il r.reg (N1 l) (hvS (KG s (Cj k r s l)) (atA k.s (mhS s l).1 (mhS s l).2).1)=true
 far:UC (Cj k r s l)=true
 full:s.bh+l.bh<=1000000000000
theorem Si {a:Atm} {cs:List Cel}:¬ 0<=ixF (EK a) cs↔∀ c∈cs,Lh c a=1:=by
 have h:=IZ (EK a) cs;by_cases h0:0<=ixF (EK a) cs
 . rw [decide_eq_true h0] at h
   obtain ⟨c,hc,hn⟩:=List.any_eq_true.1 h.symm;refine ⟨fun h=>absurd h0 h,fun h2=>?_⟩;have:=h2 c hc;unfold EK at hn;rw [decide_eq_true this] at hn;cases hn
 . rw [decide_eq_false h0] at h
   refine ⟨fun _ c hc=>?_,fun _=>h0⟩;have:=List.any_eq_false.1 h.symm c hc;unfold EK at this;by_cases he:Lh c a=1
   . exact he
   . rw [decide_eq_false he] at this;simp at this
theorem H2 {k:Sky} {r:Rig} {s n:Shp} {l:Leg}:HK k r s l= .ok n↔KI k r s l/\n=Cj k r s l:=by
 constructor
 . intro h
   unfold HK at h;split at h
   . rename_i he
     split at h
     . cases h
     . rename_i hf
       refine ⟨?_,(Except.ok.inj h).symm⟩;unfold ER at he;split at he
       . simp at he
       split at he
       . simp at he
       split at he
       . rename_i h3;simp at he
       split at he
       . simp at he
       split at he
       . simp at he
       split at he
       . simp at he
       rename_i h1 h2 h3 h4 h5 h6;exact ⟨by omega,by omega,Si.1 h3,by omega,by simpa using h5,by simpa using h6,by omega⟩
   . cases h
 . rintro ⟨h,rfl⟩
   have e:ER k r s l=(0,0):=by
     unfold ER;rw [if_neg (by have:=h.lo;omega),if_neg (by have:=h.hi;omega),if_neg (Si.2 h.fit),if_neg (by have:=h.rsv;omega),if_neg (by rw [h.trim];simp),if_neg (by rw [h.far];simp)]
   unfold HK;rw [e,if_pos rfl,if_neg (by have:=h.full;omega)]
def Ey (k:Sky) (r:Rig):Bool:=match k.s[0]? with
 | some x=>decide (x.h<=r.lo)&&decide (r.hi<=aj k.s)
 | none=>false
theorem jc {k:Sky} {r:Rig} (hk:BV k=true) (hr:Ey k r=true) {a b:Int} (h1:r.lo<=a) (h2:a<=b) (h3:b<=r.hi):yg k.s a b:=by
 unfold BV at hk;simp only [Bool.and_eq_true,decide_eq_true_eq] at hk
 have ho:OkS k.s:=by
   refine B8.1 ?_;have:=hk.1;unfold D3 at this;by_cases h:GC k.s=true
   . exact h
   . rw [if_neg h] at this;simp at this
 have hf:=(IQ ho).1 hk.1;have hl:=ho.len;obtain ⟨x,hx⟩:∃ x,k.s[0]?= some x:=⟨_,List.getElem?_eq_getElem (by omega)⟩
 obtain ⟨y,hy⟩:∃ y,k.s[k.s.length-1]?= some y:=⟨_,List.getElem?_eq_getElem (by omega)⟩
 unfold Ey aj at hr;rw [hx,hy] at hr;simp only [Bool.and_eq_true,decide_eq_true_eq] at hr;exact ACP ho hf h2 (NU hx hy (by omega) (by omega)) (NU hx hy (by omega) (by omega))
theorem mV {k:Sky} (hk:BV k=true):OkW k.w:=by
 unfold BV at hk;simp only [Bool.and_eq_true] at hk;exact L0 hk.2
theorem jd {s:Shp} {l:Leg} (hs:VU s) (hl:Wn l):(mhS s l).1<=(mhS s l).2:=by
 have h1:=hs.h;have h2:=hl.u;unfold mhS;simp only;omega
theorem je {k:Sky} {r:Rig} {s:Shp} {l:Leg} (hr:P5 r) (hs:A6 s=true) (hl:Wn l) (h:KI k r s l):A6 (Cj k r s l)=true:=by
 have hb:=GT hs;have hx:=AAb hs;have b1:=hb.h;have b2:=hb.f;have b3:=hb.w;have b4:=hx.b;have g1:=hr.g;have g2:=hr.t;have g3:=hr.v;have g4:=hr.h;have l1:=hl.u;have l2:=hl.b;have m1:=h.lo;have m2:=h.hi;have m3:=h.rsv;have m4:=h.full;have hfar:=h.far;have ge:=Me l2 g1;have p0:0<=l.bl*r.gl:=Int.mul_nonneg (by omega) (by omega);have p1:l.bl*r.gl<=l.bh*r.gh:=Int.mul_le_mul (by omega) (by omega) (by omega) (by omega);unfold mhS at m1 m2;simp only at m1 m2;unfold UC at hfar;simp only [Bool.and_eq_true,CC] at hfar;have htk:=Md (CR hs);refine KH ⟨?_,?_,?_,hb.d,hb.b,CS htk,Dx htk⟩ ⟨hfar.1,hfar.2,?_,hx.p⟩ htk
 . unfold Cj;simp only;omega
 . unfold Cj;simp only;omega
 . unfold Cj DY;rw [ge];simp only;omega
 . unfold Cj;simp only;omega
structure dI (s t:Shp):Prop where
 x:WB (s.xl,s.xh) (t.xl,t.xh)
 y:WB (s.yl,s.yh) (t.yl,t.yh)
 h:WB (s.hl,s.hh) (t.hl,t.hh)
 f:WB (s.fl,s.fh) (t.fl,t.fh)
 w:WB (s.wl,s.wh) (t.wl,t.wh)
 b:WB (s.bl,s.bh) (t.bl,t.bh)
 dry:s.dry=t.dry
 bal:s.bal=t.bal
 drp:s.drp=t.drp
 gas:s.gas=t.gas
structure Wid (a b:Rig):Prop where
 reg:a.reg=b.reg
 gl:a.gl=b.gl
 gh:a.gh=b.gh
 tank:a.tank=b.tank
 rsv:a.rsv<=b.rsv
 lo:a.lo<=b.lo
 hi:b.hi<=a.hi
theorem u6 {c:Cel} {a:Atm} (hc:B5 c) (ha:Fx a):(Bx c a).1<=(Bx c a).2:=by
 have t:=ha.t;have h0:0<=29*am c:=by have:=hc.he;have:=hc.ai;unfold am;omega
 have hm:29*am c*c.wl<=29*am c*c.wh:=Int.mul_le_mul_of_nonneg_left hc.w.2.1 h0;have k1:=S7 (d:=a.tl) (by omega) hm;unfold Bx;simp only
 have k2:fl (29*am c*c.wh) a.tl<=ce (29*am c*c.wh) a.tl:=by
   unfold fl ce
   generalize 29*am c*c.wh=z
   have q1:=Int.ediv_mul_le z (show a.tl≠0 by omega);have q2:=Int.ediv_mul_le (-z) (show a.tl≠0 by omega);have q3:(z/a.tl+ -z/a.tl)*a.tl<=0*a.tl:=by rw [Int.add_mul];omega
   have:=Int.le_of_mul_le_mul_right q3 (by omega);omega
 omega
theorem gc {a:Atm} (ha:Fx a):∀ {l:List Cel},(∀ c∈l,B5 c)->∀ {o:Int × Int},o.1<=o.2->(hvK a l o).1<=(hvK a l o).2
 | [],_,o,ho=>ho
 | c::l,hc,o,ho=>by
   unfold hvK;simp only [List.foldl_cons];have q:=u6 (hc c (by simp)) ha;exact gc ha (l:=l) (fun x hx=>hc x (by simp [hx])) (o:=(o.1-(Bx c a).2,o.2-(Bx c a).1)) (by simp only;omega)
theorem AE7 {s t:Shp} {l:Leg} (h:dI s t):WB (mhS s l) (mhS t l):=by
 have:=h.h.1;have:=h.h.2;simp only at*;unfold mhS WB;simp only;omega
theorem AE3 {k:Sky} {r q:Rig} {s t:Shp} {l:Leg} (hk:BV k=true) (hw:Wid r q) (h:dI s t) (hs:VU s) (hl:Wn l):dI (Cj k r s l) (Cj k q t l):=by
 have hm:=AE7 (l:=l) h;have hwn:=AFG (mV hk) hm (jd hs hl);obtain ⟨⟨wx1,wx2⟩,wy1,wy2⟩:=hwn;have e:DY r l=DY q l:=by unfold DY;rw [hw.gl,hw.gh]
 have e2:=hw.tank;obtain ⟨x1,x2⟩:=h.x;obtain ⟨y1,y2⟩:=h.y;obtain ⟨h1,h2⟩:=h.h;obtain ⟨f1,f2⟩:=h.f;obtain ⟨w1,w2⟩:=h.w;obtain ⟨b1,b2⟩:=h.b;simp only at x1 x2 y1 y2 h1 h2 f1 f2 w1 w2 b1 b2;refine ⟨?_,?_,?_,?_,?_,?_,h.dry,h.bal,h.drp,?_⟩
 . unfold Cj WB;simp only;omega
 . unfold Cj WB;simp only;omega
 . unfold Cj WB;simp only;omega
 . unfold Cj WB;simp only;omega
 . unfold Cj WB;simp only;rw [e,e2];omega
 . unfold Cj WB;simp only;omega
 . unfold Cj;simp only;rw [h.gas]
theorem wd {r:List (Int × Int)} {s h h':Int × Int} (hr:Il r s h=true) (hh:WB h' h) (hh':h'.1<=h'.2):Il r s h'=true:=by
 have q3:=hh.1;have q4:=hh.2
 have key:∀ x y:Int,inV r (x,h.1)=true->inV r (x,h.2)=true->(h.1<=y/\y<=h.2)->inV r (x,y)=true:=fun x y h1 h2 hy=>by
   refine ABk (s:=(x,x)) (h:=h) ?_ ⟨Int.le_refl _,Int.le_refl _⟩ hy;unfold Il;simp only;rw [h1,h2];rfl
 unfold Il at hr ⊢;simp only [Bool.and_eq_true] at hr ⊢;obtain ⟨⟨⟨i1,i2⟩,i3⟩,i4⟩:=hr;exact ⟨⟨⟨key _ _ i1 i2 (by omega),key _ _ i1 i2 (by omega)⟩,key _ _ i3 i4 (by omega)⟩,key _ _ i3 i4 (by omega)⟩
theorem ABn {s t:Shp} {a b:Atm} (ha:Fx a) (hb:Fx b) (hn:Nar a b) (hf:WB (s.fl,s.fh) (t.fl,t.fh)) (hw:WB (s.wl,s.wh) (t.wl,t.wh)) (hd:s.dry=t.dry) (hbl:s.bal=t.bal) (hg:s.gas.cs=t.gas.cs):WB (hvS s a) (hvS t b):=by
 obtain ⟨f1,f2⟩:=hf;obtain ⟨w1,w2⟩:=hw;simp only at f1 f2 w1 w2;unfold hvS;rw [hg];refine mc hb ha hn _ _ _ ?_;unfold hv0 WB;simp only;omega
theorem AFE {k:Sky} {r q:Rig} {s t:Shp} {l:Leg} (hk:BV k=true) (hR:Ey k r=true) (hq:P5 q) (hw:Wid r q) (h:dI s t) (hs:A6 s=true) (ht:A6 t=true) (hl:Wn l) (hm:KI k q t l):KI k r s l:=by
 have sB:=GT hs;have tB:=GT ht;have sX:=AAb hs;have h1:=AE7 (l:=l) h;have o1:=jd sB hl;have o2:=jd tB hl;have n:=AE3 hk hw h sB hl;have w1:=hw.lo;have w2:=hw.hi;have w3:=hw.rsv;have m1:=hm.lo;have m2:=hm.hi;have m3:=hm.rsv;have hat:=jc hk hR (a:=(mhS t l).1) (b:=(mhS t l).2) (by omega) o2 (by omega);obtain ⟨hat2,hn⟩:=ABt h1.1 o1 h1.2 hat;have a1:=aU hat;have a2:=aU hat2;have l1:=hl.u;have l2:=hl.b;have f:=h.f;have wt:=h.w;have bb:=h.b;unfold WB at f wt bb;simp only at f wt bb;have gq:=hq.g;have hlast:=je hq ht hl hm;have nf:=n.f;have nw:=n.w;unfold WB at nf nw;simp only at nf nw;have sb:=sB.f;have sw:=sB.w;have tg:=Md (CR hs);refine ⟨by have:=h1.1;omega,by have:=h1.2;omega,fun c hc=>?_,by omega,?_,?_,by have:=hm.full;omega⟩
 . rw [h.gas] at hc
   have hcb:B5 c:=Dx (Md (CR ht)) c hc;exact ABj hcb hn (hm.fit c hc)
 . rw [hw.reg]
   refine wd hm.trim (ABn a2 a1 hn ?_ ?_ ?_ ?_ ?_) ?_
   . unfold KG WB;simp only;omega
   . unfold KG WB;simp only;omega
   . unfold KG;exact n.dry
   . unfold KG;exact n.bal
   . unfold KG;simp only;rw [n.gas]
   . have c1:(hv0 (KG s (Cj k r s l))).1<=(hv0 (KG s (Cj k r s l))).2:=by
       unfold hv0 KG;simp only;have e1:(Cj k r s l).fl=s.fl-l.bh:=rfl;omega
     exact gc a2 (l:=(tkQ s.gas).cs) (Dx tg) c1
 . have hf:=hm.far
   unfold UC at hf ⊢;simp only [Bool.and_eq_true,CC] at hf ⊢;have nx:=n.x;have ny:=n.y;unfold WB at nx ny;simp only at nx ny;have wb:=kQ (mV hk) o1;have x1:=sX.x;have y1:=sX.y;have lx:=hl.x;have ly:=hl.y;have e1:(Cj k r s l).xl<=(Cj k r s l).xh:=by unfold Cj;simp only;omega
   have e2:(Cj k r s l).yl<=(Cj k r s l).yh:=by unfold Cj;simp only;omega
   omega
def BN:Nat->List Leg->List (Nat × Nat)
 | _,[]=>[]
 | i,x::r=>(List.range x.m.toNat).map (fun m=>(i,m))++BN (i+1) r
abbrev Evt:=Int × Int × Int × Int
def ev0:Evt:=(0,0,0,0)
def FA (k:Sky) (r:Rig) (x:Leg) (m:Nat) (s:Shp):Except (Int × Int × Int) Shp:=
 if m=0 then match Ep s x with
   | .ok t=>HK k r t x
   | .error e=> .error (e,0,0)
 else HK k r s x
def FC (i m:Nat) (e:Int × Int × Int):Int × Evt:=(e.1,if e.1=54 then (e.2.1,i,m,e.2.2) else ev0)
def Dt (k:Sky) (r:Rig) (l:List Leg):List (Nat × Nat)->Shp->Except (Int × Evt) (List Shp)
 | [],_=> .ok []
 | (i,m)::rest,s=>match l[i]? with
   | none=> .error (0,ev0)
   | some x=>match FA k r x m s with
     | .error e=> .error (FC i m e)
     | .ok n=>match Dt k r l rest n with
       | .error e=> .error e
       | .ok ns=> .ok (n::ns)
def accK (k:Sky) (r:Rig) (l:List Leg):List (Nat × Nat)->Shp->List Shp->Int
 | [],_,_=>0
 | (i,m)::rest,s,cs=>match l[i]?,cs with
   | some x,c::cs=>match FA k r x m s with
     | .error e=>e.1
     | .ok n=>if Xo c n then accK k r l rest c cs else 8
   | _,_=>8
def JC (k:Sky) (r:Rig) (s:Shp) (le:Int):Int:=
 if BV k then (if CF r then (if A6 s then (if le=0 then (if Ey k r then 0 else 2) else le) else 52) else 51) else 50
def HA (k:Sky) (r:Rig) (s:Shp) (l:List Leg):Except (Int × Evt) (List Shp):=
 if JC k r s (C0 l)=0 then Dt k r l (BN 0 l) s else .error (JC k r s (C0 l),ev0)
theorem zn:∀ {l:List Leg} {i:Nat} {p:Nat × Nat},p∈BN i l->∃ x,i<=p.1/\l[p.1-i]?= some x/\(p.2:Int)<x.m
 | [],i,p,h=>by simp [BN] at h
 | y::r,i,p,h=>by
   unfold BN at h;rcases List.mem_append.1 h with h | h
   . simp only [List.mem_map,List.mem_range] at h
     obtain ⟨m,hm,rfl⟩:=h;exact ⟨y,Nat.le_refl _,by simp,by simp only;omega⟩
   . obtain ⟨x,h1,h2,h3⟩:=zn h
     refine ⟨x,by omega,?_,h3⟩;rw [show p.1-i=(p.1-(i+1))+1 by omega,List.getElem?_cons_succ];exact h2
theorem Kv:∀ {l:List Leg} {i:Nat},(∀ x∈l,BE x=true)->((BN i l).length:Int)=Cv l
 | [],i,_=>by simp [BN,Cv]
 | y::r,i,h=>by
   have h1:=AL0 (h y (by simp));have h2:=Kv (l:=r) (i:=i+1) fun x hx=>h x (by simp [hx])
   unfold Cv at h2 ⊢;unfold BN;simp only [List.length_append,List.length_map,List.length_range,List.map_cons,List.sum_cons];omega
structure Jt (p q:Plt):Prop where
 bt:q.bt=p.bt
 ih:q.ih=p.ih
 ia:q.ia=p.ia
 ph:q.ph=p.ph
 pa:q.pa=p.pa
 n:q.cs.length=p.cs.length
theorem Jt.refl (p:Plt):Jt p p:=⟨rfl,rfl,rfl,rfl,rfl,rfl⟩
theorem Jt.trans {p q r:Plt} (h:Jt p q) (g:Jt q r):Jt p r:=⟨g.bt.trans h.bt,g.ih.trans h.ih,g.ia.trans h.ia,g.ph.trans h.ph,g.pa.trans h.pa,g.n.trans h.n⟩
theorem ND {p q:Plt} (h:g7 p= .ok q):q=p:=by
 unfold g7 at h;split at h
 . exact (Except.ok.inj h).symm
 . cases h
theorem pL {p q:Plt} {a:Act} (h:doS p a= .ok q):Jt p q:=by
 unfold doS vlS mvS at h
 repeat' split at h
 all_goals first
   | (cases h;done)
   | (have e:=ND h;subst e;exact ⟨rfl,rfl,rfl,rfl,rfl,by simp [vlP]⟩)
   | (have e:=ND h;subst e;exact ⟨rfl,rfl,rfl,rfl,rfl,by simp [mvP]⟩)
   | (have e:=ND h;subst e;exact ⟨rfl,rfl,rfl,rfl,rfl,by simp [tkQ]⟩)
theorem Kw:∀ {acts:List Act} {p:Plt} {i:Nat},Ar p=true->(B7 p acts i).2.2=0->Ar (B7 p acts i).1=true/\Jt p (B7 p acts i).1
 | [],p,i,h,_=>⟨h,Jt.refl p⟩
 | a::r,p,i,h,he=>by
   unfold B7 at he ⊢;cases hd:doS p a with
   | ok q=>
     rw [hd] at he;simp only at he ⊢;have:=Kw (Zn hd) he;exact ⟨this.1,(pL hd).trans this.2⟩
   | error e=>
     rw [hd] at he;exact absurd he (Tb hd)
theorem NE {s t:Shp} {x:Leg}:Ep s x= .ok t↔((B7 s.gas x.acts 0).2.2=0/\x.dr<=s.bal/\s.drp+x.dr<=1000000000000)/\t={s with gas:=(B7 s.gas x.acts 0).1,bal:=s.bal-x.dr,drp:=s.drp+x.dr}:=by
 unfold Ep;constructor
 . intro h
   split at h
   . rename_i h1
     split at h
     . cases h
     split at h
     . cases h
     rename_i h2 h3;exact ⟨⟨h1,by omega,by omega⟩,(Except.ok.inj h).symm⟩
   . cases h
 . rintro ⟨⟨h1,h2,h3⟩,rfl⟩
   rw [if_pos h1,if_neg (by omega),if_neg (by omega)]
theorem ZC {s t:Shp} {x:Leg} (hs:A6 s=true) (hx:BE x=true) (h:Ep s x= .ok t):A6 t=true:=by
 obtain ⟨⟨h1,h2,h3⟩,rfl⟩:=NE.1 h;have hb:=GT hs;have hX:=AAb hs;have q:=Kz hx;have hp:=(Kw (CR hs) h1).1;have b1:=hb.b;have p1:=hX.p;exact KH ⟨hb.h,hb.f,hb.w,hb.d,by simp only;omega,CS hp,Dx hp⟩ ⟨hX.x,hX.y,hX.b,by simp only;omega⟩ hp
theorem AFI {s t t':Shp} {x:Leg} (hn:dI s t) (h:Ep t x= .ok t'):∃ s',Ep s x= .ok s'/\dI s' t':=by
 obtain ⟨⟨h1,h2,h3⟩,rfl⟩:=NE.1 h;have e1:=hn.gas;have e2:=hn.bal;have e3:=hn.drp;refine ⟨_,NE.2 ⟨⟨by rw [e1];exact h1,by omega,by omega⟩,rfl⟩,hn.x,hn.y,hn.h,hn.f,hn.w,hn.b,hn.dry,?_,?_,?_⟩
 . simp only;omega
 . simp only;omega
 . simp only;rw [e1]
structure Va (k:Sky) (r:Rig):Prop where
 sky:BV k=true
 rig:P5 r
 rng:Ey k r=true
theorem Ib {k:Sky} {r:Rig} {x:Leg} {m:Nat} {s n:Shp}:FA k r x m s= .ok n↔∃ t,(if m=0 then Ep s x= .ok t else t=s)/\KI k r t x/\n=Cj k r t x:=by
 unfold FA;by_cases hm:m=0
 . rw [if_pos hm]
   constructor
   . intro h
     cases hb:Ep s x with
     | ok t=>rw [hb] at h;exact ⟨t,by rw [if_pos hm],H2.1 h⟩
     | error e=>rw [hb] at h;cases h
   . rintro ⟨t,h1,h2⟩
     rw [if_pos hm] at h1;rw [h1];exact H2.2 h2
 . rw [if_neg hm]
   constructor
   . intro h
     exact ⟨s,by rw [if_neg hm],H2.1 h⟩
   . rintro ⟨t,h1,h2⟩
     rw [if_neg hm] at h1;subst h1;exact H2.2 h2
theorem Ow {x:Leg} {m:Nat} {s t:Shp} (hs:A6 s=true) (hx:BE x=true) (h:if m=0 then Ep s x= .ok t else t=s):A6 t=true:=by
 by_cases hm:m=0
 . rw [if_pos hm] at h;exact ZC hs hx h
 . rw [if_neg hm] at h;subst h;exact hs
theorem Q7 {k:Sky} {r:Rig} (hT:Va k r) {x:Leg} {m:Nat} {s n:Shp} (hs:A6 s=true) (hx:BE x=true) (h:FA k r x m s= .ok n):A6 n=true:=by
 obtain ⟨t,h1,h2,rfl⟩:=Ib.1 h;exact je hT.rig (Ow hs hx h1) (Mf hx) h2
theorem AFJ {k:Sky} {r q:Rig} (hT:Va k r) (hq:P5 q) (hw:Wid r q) {x:Leg} {m:Nat} {s t t':Shp} (hs:A6 s=true) (ht:A6 t=true) (hx:BE x=true) (hn:dI s t) (h:FA k q x m t= .ok t'):∃ s',FA k r x m s= .ok s'/\dI s' t':=by
 obtain ⟨u,h1,h2,rfl⟩:=Ib.1 h;have hu:=Ow ht hx h1;have hl:=Mf hx
 have:∃ v,(if m=0 then Ep s x= .ok v else v=s)/\dI v u:=by
   by_cases hm:m=0
   . rw [if_pos hm] at h1
     obtain ⟨v,h3,h4⟩:=AFI hn h1;exact ⟨v,by rw [if_pos hm];exact h3,h4⟩
   . rw [if_neg hm] at h1
     subst h1;exact ⟨s,by rw [if_neg hm],hn⟩
 obtain ⟨v,h3,h4⟩:=this;have hv:=Ow hs hx h3;exact ⟨_,Ib.2 ⟨v,h3,AFE hT.sky hT.rng hq hw h4 hv hu hl h2,rfl⟩,AE3 hT.sky hw h4 (GT hv) hl⟩
theorem dI.refl (s:Shp):dI s s:=by
 refine ⟨?_,?_,?_,?_,?_,?_,rfl,rfl,rfl,rfl⟩<;>exact ⟨Int.le_refl _,Int.le_refl _⟩
theorem Wid.refl (r:Rig):Wid r r:=⟨rfl,rfl,rfl,rfl,Int.le_refl _,Int.le_refl _,Int.le_refl _⟩
theorem AEU {a b:Shp}:Xo a b=true↔dI b a:=by
 unfold Xo ADx Xr;simp only [Bool.and_eq_true,decide_eq_true_eq];constructor
 . rintro ⟨⟨⟨⟨h1,h2⟩,h3⟩,h4⟩,h5⟩
   obtain ⟨⟨⟨⟨⟨x,y⟩,h⟩,f⟩,w⟩,b⟩:=h1;refine ⟨?_,?_,?_,?_,?_,?_,h2.symm,h3.symm,h4.symm,h5.symm⟩
   all_goals first | exact x | exact y | exact h | exact f | exact w | exact b
 . rintro ⟨x,y,h,f,w,b,h2,h3,h4,h5⟩
   exact ⟨⟨⟨⟨⟨⟨⟨⟨⟨x,y⟩,h⟩,f⟩,w⟩,b⟩,h2.symm⟩,h3.symm⟩,h4.symm⟩,h5.symm⟩
def fR:List Shp->List Shp->Prop
 | [],[]=>True
 | a::r,b::q=>dI a b/\fR r q
 | _,_=>False
theorem fR.at:∀ {a b:List Shp},fR a b->a.length=b.length/\∀ (i:Nat) (x y:Shp),a[i]?= some x->b[i]?= some y->dI x y
 | [],[],_=>⟨rfl,fun i x y h=>by simp at h⟩
 | a::r,b::q,h=>by
   obtain ⟨h1,h2⟩:=fR.at h.2;refine ⟨by simp [h1],fun i x y hx hy=>?_⟩;cases i with
   | zero=>simp at hx hy;subst hx hy;exact h.1
   | succ i=>exact h2 i x y (by simpa using hx) (by simpa using hy)
 | [],_::_,h=>h.elim
 | _::_,[],h=>h.elim
section
variable {k:Sky} {r:Rig} {l:List Leg}
theorem F5 {i m:Nat} {rest:List (Nat × Nat)} {s:Shp} {ns:List Shp}:Dt k r l ((i,m)::rest) s= .ok ns↔∃ x n q,l[i]?= some x/\FA k r x m s= .ok n/\Dt k r l rest n= .ok q/\ns=n::q:=by
 conv=>lhs;unfold Dt
 constructor
 . intro h
   split at h
   . cases h
   rename_i x hx;split at h
   . cases h
   rename_i n hn;split at h
   . cases h
   rename_i q hq;exact ⟨x,n,q,hx,hn,hq,(Except.ok.inj h).symm⟩
 . rintro ⟨x,n,q,hx,hn,hq,rfl⟩
   rw [hx];simp only;rw [hn];simp only;rw [hq]
theorem TM:∀ {im:List (Nat × Nat)} {s:Shp} {ns:List Shp},Dt k r l im s= .ok ns->ns.length=im.length
 | [],s,ns,h=>by cases h;rfl
 | (i,m)::rest,s,ns,h=>by
   obtain ⟨x,n,q,_,_,hq,rfl⟩:=F5.1 h;have:=TM hq;simp [this]
theorem ZD (hT:Va k r) (hl:∀ x∈l,BE x=true):∀ {im:List (Nat × Nat)} {s:Shp} {ns:List Shp},A6 s=true->Dt k r l im s= .ok ns->∀ n∈ns,A6 n=true
 | [],s,ns,_,h,n,hn=>by cases h;simp at hn
 | (i,m)::rest,s,ns,hs,h,n,hn=>by
   obtain ⟨x,n1,q,hx,h1,hq,rfl⟩:=F5.1 h;have h2:=Q7 hT hs (hl x (List.mem_of_getElem? hx)) h1;rcases List.mem_cons.1 hn with rfl | hn
   . exact h2
   . exact ZD hT hl h2 hq n hn
theorem TN {s:Shp} {x:Leg} {e:Int × Int × Int} (h:HK k r s x= .error e):¬ e.1=0:=by
 unfold HK at h;split at h
 . split at h
   . cases h;decide
   . cases h
 . cases h;simp
theorem TP {s:Shp} {x:Leg} {e:Int} (h:Ep s x= .error e):¬ e=0:=by
 unfold Ep at h;split at h
 . split at h
   . cases h;decide
   split at h
   . cases h;decide
   . cases h
 . rename_i h1;cases h;exact h1
theorem fU {s:Shp} {x:Leg} {m:Nat} {e:Int × Int × Int} (h:FA k r x m s= .error e):¬ e.1=0:=by
 unfold FA at h;split at h
 . split at h
   . exact TN h
   . rename_i e' he;cases h;exact TP he
 . exact TN h
theorem NF:∀ {im:List (Nat × Nat)} {s:Shp} {e:Int × Evt},(∀ p∈im,∃ x,l[p.1]?= some x)->Dt k r l im s= .error e->¬ e.1=0/\((e.1=54/\¬ e.2.1=0/\∃ p∈im,e.2.2.1=p.1/\e.2.2.2.1=p.2)\/(¬ e.1=54/\e.2=ev0))
 | [],s,e,_,h=>by cases h
 | (i,m)::rest,s,e,hm,h=>by
   unfold Dt at h;obtain ⟨x,hx⟩:=hm (i,m) (by simp);rw [hx] at h;simp only at h;split at h
   . rename_i e' he
     cases h;have h1:=fU he;refine ⟨h1,?_⟩;unfold FC;simp only;by_cases h5:e'.1=54
     . refine .inl ⟨h5,?_,(i,m),by simp,?_,?_⟩
       . rw [if_pos h5]
         have key:∀ t:Shp,HK k r t x= .error e'->¬ e'.2.1=0:=fun t ht=>by
           unfold HK at ht;split at ht
           . split at ht
             . cases ht;simp at h5
             . cases ht
           . rename_i hz;cases ht;exact hz
         have hbeg:∀ t:Shp,∀ e:Int,Ep t x= .error e->¬ e=54:=fun t e ht=>by
           have pe:∀ {acts:List Act} {p:Plt} {i:Nat},¬ (B7 p acts i).2.2=54:=by
             intro acts;induction acts with
             | nil=>intro p i;simp [B7]
             | cons a rr ih=>
               intro p i;unfold B7;cases hd:doS p a with
               | ok q=>exact ih
               | error e=>
                 show ¬ e=54
                 unfold doS vlS mvS at hd
                 repeat' split at hd
                 all_goals first | (have:=K8 hd;omega) | (cases hd;omega)
           unfold Ep at ht;split at ht
           . split at ht
             . cases ht;decide
             split at ht
             . cases ht;decide
             . cases ht
           . cases ht;exact pe
         unfold FA at he;split at he
         . split at he
           . exact key _ he
           . rename_i e2 he2;cases he;exact absurd h5 (hbeg _ _ he2)
         . exact key _ he
       . rw [if_pos h5]
       . rw [if_pos h5]
     . exact .inr ⟨h5,by rw [if_neg h5]⟩
   . rename_i n hn
     split at h
     . rename_i e' he
       cases h;obtain ⟨h1,h2⟩:=NF (fun p hp=>hm p (by simp [hp])) he;refine ⟨h1,?_⟩;rcases h2 with ⟨h2,h3,p,hp,h4⟩ | h2
       . exact .inl ⟨h2,h3,p,by simp [hp],h4⟩
       . exact .inr h2
     . cases h
structure JD (r:Rig) (s t:Shp) (n:Nat):Prop where
 drop:t.bal+t.drp=s.bal+s.drp
 lo:t.fl+t.bh=s.fl+s.bh
 hi:t.fh+t.bl=s.fh+s.bl
 dry:t.dry=s.dry
 gas:Jt s.gas t.gas
 burn:s.bh<=t.bh
 water:100*(t.wh-s.wh)<=(t.bh-s.bh)*r.gh+99*n
theorem JD.refl (r:Rig) (s:Shp):JD r s s 0:=⟨rfl,rfl,rfl,rfl,Jt.refl _,Int.le_refl _,by simp⟩
theorem JD.trans {r:Rig} {s t u:Shp} {n m:Nat} (h:JD r s t n) (g:JD r t u m):JD r s u (n+m):=by
 obtain ⟨a1,a2,a3,a4,a5,a6,a7⟩:=h;obtain ⟨b1,b2,b3,b4,b5,b6,b7⟩:=g;refine ⟨by omega,by omega,by omega,by omega,a5.trans b5,by omega,?_⟩;have e:(u.bh-s.bh)*r.gh=(u.bh-t.bh)*r.gh+(t.bh-s.bh)*r.gh:=by rw [<-Int.add_mul];congr 1;omega
 omega
end
end Go.Proofs.Tryz
namespace Go.Air
structure LvN (a b:Lev):Prop where
 h:a.h=b.h
 pl:b.pl<=a.pl
 ph:a.ph<=b.ph
 tl:b.tl<=a.tl
 th:a.th<=b.th
def LsN:List Lev->List Lev->Prop
 | [],[]=>True
 | a::r,b::s=>LvN a b/\LsN r s
 | _,_=>False
def prT:List Lev->List Lev->List Lev
 | a::r,f::s=>⟨a.h,f.pl,f.ph,a.tl,a.th⟩::prT r s
 | _,_=>[]
def PrN:List Lev->List Lev->Prop
 | [],[]=>True
 | a::r,b::s=>(a.h=b.h/\b.pl<=a.pl/\a.ph<=b.ph)/\PrN r s
 | _,_=>False
theorem LsN.prn:∀ {l m:List Lev},LsN l m->PrN l m
 | [],[],_=>trivial
 | _::_,_::_,h=>⟨⟨h.1.h,h.1.pl,h.1.ph⟩,LsN.prn h.2⟩
 | [],_::_,h=>h.elim
 | _::_,[],h=>h.elim
theorem PrN.le:∀ {l m k:List Lev},LeL m l->PrN m k->PrN l k
 | [],[],[],_,_=>trivial
 | _::_,_::_,_::_,h,p=>⟨⟨h.1.s.1.symm.trans p.1.1,Int.le_trans p.1.2.1 h.1.lo,Int.le_trans h.1.hi p.1.2.2⟩,PrN.le h.2 p.2⟩
 | _::_,[],_,h,_=>h.elim
 | [],_::_,_,h,_=>h.elim
 | [],[],_::_,_,p=>p.elim
 | _::_,_::_,[],_,p=>p.elim
theorem AOr:∀ {l F:List Lev},PrN F l->LeL l (prT l F)
 | [],[],_=>trivial
 | _::_,_::_,h=>⟨⟨⟨rfl,rfl,rfl⟩,h.1.2.1,h.1.2.2⟩,AOr h.2⟩
 | [],_::_,h=>h.elim
 | _::_,[],h=>h.elim
theorem ANt:∀ {l F G:List Lev},PrN F l->LeL G (prT l F)->PrN F G
 | [],[],[],_,_=>trivial
 | _::_,_::_,_::_,h,g=>⟨⟨h.1.1.trans g.1.s.1.symm,g.1.lo,g.1.hi⟩,ANt h.2 g.2⟩
 | [],_::_,_,h,_=>h.elim
 | _::_,[],_,h,_=>h.elim
 | [],[],_::_,_,g=>g.elim
 | _::_,_::_,[],_,g=>g.elim
theorem ANu {c c' s x x':Int} (hs:0<=s) (h0:0<c) (hc:c<=c') (hx0:0<=x) (hsc:s<=c) (hx:x<=x'):CY c s x<=CY c' s x':=by
 unfold CY;rw [Int.le_ediv_iff_mul_le (by omega)];have h1:=Int.ediv_mul_le (x*(c-s)) (show c≠0 by omega)
 generalize x*(c-s)/c=q at h1 ⊢
 have h2:q<=x:=by
   refine Int.le_of_mul_le_mul_right (a:=c) ?_ h0;have:x*(c-s)<=x*c:=Int.mul_le_mul_of_nonneg_left (by omega) hx0;omega
 have e1:x*(c' - s)=x*(c-s)+x*(c' - c):=by grind
 have e2:q*c'=q*c+q*(c' - c):=by grind
 have h3:q*(c' - c)<=x*(c' - c):=Int.mul_le_mul_of_nonneg_right h2 (by omega);have h4:x*(c' - s)<=x'*(c' - s):=Int.mul_le_mul_of_nonneg_right hx (by omega);omega
theorem ANv {w w' s x x':Int} (hs:0<=s) (h0:0<w) (hw:w<=w') (hx0:0<=x) (hx:x<=x'):C9 w s x<=C9 w' s x':=by
 unfold C9;rw [K4 (by omega)];have h1:=(K4 (a:=x'*w') (b:=w'+s) (by omega)).1 (Int.le_refl _)
 generalize cdv (x'*w') (w'+s)=q at h1 ⊢
 have h5:x*w'<=x'*w':=Int.mul_le_mul_of_nonneg_right hx (by omega);have hq:x*w'<=q*(w'+s):=by omega
 refine Int.le_of_mul_le_mul_right (a:=w') ?_ (by omega)
 have hq0:0<=q:=by
   have:0<=x*w':=Int.mul_nonneg hx0 (by omega);by_cases h:0<=q
   . exact h
   . have:=Int.mul_neg_of_neg_of_pos (show q<0 by omega) (show 0<w'+s by omega)
     omega
 have e1:x*w*w'=x*w'*w:=by grind
 have h2:x*w'*w<=q*(w'+s)*w:=Int.mul_le_mul_of_nonneg_right hq (by omega);have e3:q*(w'+s)*w=q*(w'*w)+q*(s*w):=by grind
 have e4:q*(w+s)*w'=q*(w'*w)+q*(s*w'):=by grind
 have h5:s*w<=s*w':=Int.mul_le_mul_of_nonneg_left hw hs;have h6:q*(s*w)<=q*(s*w'):=Int.mul_le_mul_of_nonneg_left h5 hq0;omega
theorem APh {w w' s x:Int} (hs:0<=s) (h0:0<w') (hw:w'<=w) (hx0:0<=x):Cz w s x<=Cz w' s x:=by
 unfold Cz;rw [Int.le_ediv_iff_mul_le h0];have h1:=Int.ediv_mul_le (x*(w+s)) (show w≠0 by omega);have hq0:0<=x*(w+s)/w:=Int.ediv_nonneg (Int.mul_nonneg hx0 (by omega)) (by omega)
 generalize x*(w+s)/w=q at h1 hq0 ⊢
 have hqx:x<=q\/q<x:=by omega
 rcases hqx with h2 | h2
 . have e1:x*(w+s)=x*(w'+s)+x*(w-w'):=by grind
   have e2:q*w=q*w'+q*(w-w'):=by grind
   have h3:x*(w-w')<=q*(w-w'):=Int.mul_le_mul_of_nonneg_right h2 (by omega);omega
 . have h3:q*w'<=x*w':=Int.mul_le_mul_of_nonneg_right (by omega) (by omega)
   have h4:x*w'<=x*(w'+s):=Int.mul_le_mul_of_nonneg_left (by omega) hx0;omega
theorem APi {c c' s x:Int} (hs:0<=s) (h0:s<c) (hc:c<=c') (hx0:0<=x):Ec c' s x<=Ec c s x:=by
 unfold Ec;rw [K4 (by omega)];have h1:=(K4 (a:=x*c) (b:=c-s) (by omega)).1 (Int.le_refl _)
 generalize cdv (x*c) (c-s)=q at h1 ⊢
 have h2:x<=q:=by
   refine Int.le_of_mul_le_mul_right (a:=c-s) ?_ (by omega);have:x*(c-s)<=x*c:=Int.mul_le_mul_of_nonneg_left (by omega) hx0;omega
 have e1:x*c'=x*c+x*(c' - c):=by grind
 have e2:q*(c' - s)=q*(c-s)+q*(c' - c):=by grind
 have h3:x*(c' - c)<=q*(c' - c):=Int.mul_le_mul_of_nonneg_right h2 (by omega);omega
def TmN (T' T:Tm) (lo hi:Int):Prop:=∀ a b,lo<=a->a<=b->b<=hi->(T a b).1<=(T' a b).1/\(T' a b).2<=(T a b).2
def HtB (lo hi:Int) (l:List Lev):Prop:=∀ x∈l,lo<=x.h/\x.h<=hi
theorem ANw {T' T:Tm} {lo hi:Int} (hT:TmN T' T lo hi):∀ {l F:List Lev},PrN F l->Lks T l->Lks T' F->(∀ x∈F,Pos x)->HtB lo hi l->Clo T' F->Clo T (prT l F)
 | [],[],_,_,_,_,_,_=>trivial
 | [_],[_],_,_,_,_,_,_=>trivial
 | a::b::r,f::g::s,hp,hk,hk',hP,hb,hc=>by
   obtain ⟨⟨c1,c2⟩,c3⟩:=hc;have k:=hk.1;have k0:=k.s0;have k1:=k.sc;have k2:=k.cw;have e1:=hp.1.1;have e2:=hp.2.1.1;have ba:=hb a (by simp);have bb:=hb b (by simp);have hs:0<b.h-a.h:=by unfold ls at k0;omega
   have t:=hT a.h b.h ba.1 (by omega) bb.2;have pf:=hP f (by simp);have pg:=hP g (by simp);have s1:ls f g=ls a b:=by unfold ls;rw [e1,e2]
   have l1:lc T a b<=lc T' f g:=by unfold lc;rw [e1,e2];omega
   have l2:lw T' f g<=lw T a b:=by unfold lw;rw [e1,e2];omega
   have m0:=hk'.1.s0;have m1:=hk'.1.sc;have m2:=hk'.1.cw;refine ⟨⟨⟨⟨rfl,rfl,rfl⟩,?_,?_⟩,⟨rfl,rfl,rfl⟩,?_,?_⟩,ANw hT hp.2 hk.2 hk'.2 (fun x hx=>hP x (List.mem_cons_of_mem _ hx)) (fun x hx=>hb x (List.mem_cons_of_mem _ hx)) c3⟩
   . have h1:=c1.lo
     unfold mt cyu at h1 ⊢;simp only at h1 ⊢;rw [s1] at h1;have h2:=ANu (c:=lc T a b) (c':=lc T' f g) (s:=ls a b) (x:=f.pl) (x':=f.pl) (by omega) (by omega) l1 pf.1 (by omega) (Int.le_refl _)
     show max g.pl (CY (lc T a b) (ls a b) f.pl)<=g.pl
     omega
   . have h1:=c1.hi
     unfold mt cyu at h1 ⊢;simp only at h1 ⊢;rw [s1] at h1
     show g.ph<=min g.ph (C9 (lw T a b) (ls a b) f.ph)
     have h2:=ANv (w:=lw T' f g) (w':=lw T a b) (s:=ls a b) (x:=f.ph) (x':=f.ph) (by omega) (by omega) l2 pf.2 (Int.le_refl _);omega
   . have h1:=c2.lo
     unfold mt cyd at h1 ⊢;simp only at h1 ⊢;rw [s1] at h1;have h2:=APh (w:=lw T a b) (w':=lw T' f g) (s:=ls a b) (x:=g.pl) (by omega) (by omega) l2 pg.1
     show max f.pl (Cz (lw T a b) (ls a b) g.pl)<=f.pl
     omega
   . have h1:=c2.hi
     unfold mt cyd at h1 ⊢;simp only at h1 ⊢;rw [s1] at h1;have h2:=APi (c:=lc T a b) (c':=lc T' f g) (s:=ls a b) (x:=g.ph) (by omega) k1 l1 pg.2
     show f.ph<=min f.ph (Ec (lc T a b) (ls a b) g.ph)
     omega
 | [],_::_,h,_,_,_,_,_=>h.elim
 | _::_,[],h,_,_,_,_,_=>h.elim
 | [_],_::_::_,h,_,_,_,_,_=>h.2.elim
 | _::_::_,[_],h,_,_,_,_,_=>h.2.elim
theorem AMn {T' T:Tm} {lo hi:Int} (hT:TmN T' T lo hi) (h:Int):∀ {G F:List Lev},PrN F G->Lks T G->Lks T' F->(∀ x∈F,Pos x)->(∀ x∈G,Pos x)->HtB lo hi G->(prs T G h).1<=(prs T' F h).1/\(prs T' F h).2<=(prs T G h).2
 | [],[],_,_,_,_,_,_=>⟨Int.le_refl _,Int.le_refl _⟩
 | [_],[_],hp,_,_,_,_,_=>⟨hp.1.2.1,hp.1.2.2⟩
 | a::b::r,f::g::s,hp,hk,hk',hF,hG,hb=>by
   have k:=hk.1;have k0:=k.s0;have k1:=k.sc;have k2:=k.cw;have m0:=hk'.1.s0;have m1:=hk'.1.sc;have m2:=hk'.1.cw;have e1:=hp.1.1;have e2:=hp.2.1.1;have ba:=hb a (by simp);have bb:=hb b (by simp);have hs:0<b.h-a.h:=by unfold ls at k0;omega
   have t:=hT a.h b.h ba.1 (by omega) bb.2;have pf:=hF f (by simp);have pa:=hG a (by simp);have l1:lc T a b<=lc T' f g:=by unfold lc;rw [e1,e2];omega
   have l2:lw T' f g<=lw T a b:=by unfold lw;rw [e1,e2];omega
   unfold prs;rw [e1,e2];by_cases h1:h<=a.h
   . rw [if_pos h1,if_pos h1]
     exact ⟨hp.1.2.1,hp.1.2.2⟩
   . rw [if_neg h1,if_neg h1]
     by_cases h2:h<b.h
     . rw [if_pos h2,if_pos h2]
       have hl:341632*(h-a.h)<=lc T a b:=by unfold ls at k1;omega
       have q1:=ANu (c:=lc T a b) (c':=lc T' f g) (s:=341632*(h-a.h)) (x:=a.pl) (x':=f.pl) (by omega) (by omega) l1 pa.1 hl hp.1.2.1;have q2:=ANv (w:=lw T' f g) (w':=lw T a b) (s:=341632*(h-a.h)) (x:=f.ph) (x':=a.ph) (by omega) (by omega) l2 pf.2 hp.1.2.2;have q3:=hp.2.1.2.1;simp only;omega
     . rw [if_neg h2,if_neg h2]
       exact AMn hT h hp.2 hk.2 hk'.2 (fun x hx=>hF x (List.mem_cons_of_mem _ hx)) (fun x hx=>hG x (List.mem_cons_of_mem _ hx)) (fun x hx=>hb x (List.mem_cons_of_mem _ hx))
 | [],_::_,h,_,_,_,_,_=>h.elim
 | _::_,[],h,_,_,_,_,_=>h.elim
 | [_],_::_::_,h,_,_,_,_,_=>h.2.elim
 | _::_::_,[_],h,_,_,_,_,_=>h.2.elim
theorem LsN.at:∀ {l m:List Lev},LsN l m->l.length=m.length/\∀ (i:Nat) (a b:Lev),l[i]?= some a->m[i]?= some b->LvN a b
 | [],[],_=>⟨rfl,fun i a b h=>by simp at h⟩
 | x::r,y::s,h=>by
   obtain ⟨h1,h2⟩:=LsN.at h.2;refine ⟨by simp [h1],fun i a b ha hb=>?_⟩;cases i with
   | zero=>simp at ha hb;subst ha hb;exact h.1
   | succ i=>exact h2 i a b (by simpa using ha) (by simpa using hb)
 | [],_::_,h=>h.elim
 | _::_,[],h=>h.elim
end Go.Air
namespace Go.Proofs.Tryz
open Go.Psl
open Go.Air
structure TbN (l' l:List Kn):Prop where
 len:l'.length=l.length
 at':∀ (i:Nat) (a b:Kn),l'[i]?= some a->l[i]?= some b->a.1=b.1/\WB a.2 b.2
theorem AOs {a k a' k':Kn} {x:Int} (ha:a'.1=a.1) (hk:k'.1=k.1) (hlt:a.1<k.1) (h1:a.1<=x) (h2:x<=k.1) (sa:WB a'.2 a.2) (sk:WB k'.2 k.2):WB (Ir a' k' x) (Ir a k x):=by
 obtain ⟨a1,a2⟩:=sa;obtain ⟨s1,s2⟩:=sk;unfold Ir WB;simp only;rw [ha,hk];obtain ⟨n,hn⟩:∃ n,k.1-a.1=n:=⟨_,rfl⟩
 obtain ⟨d,hd⟩:∃ d,x-a.1=d:=⟨_,rfl⟩
 rw [hn,hd];have n0:0<n:=by omega
 have p1:(n-d)*a.2.1<=(n-d)*a'.2.1:=Int.mul_le_mul_of_nonneg_left a1 (by omega);have p2:d*k.2.1<=d*k'.2.1:=Int.mul_le_mul_of_nonneg_left s1 (by omega);have p3:(n-d)*a'.2.2<=(n-d)*a.2.2:=Int.mul_le_mul_of_nonneg_left a2 (by omega);have p4:d*k'.2.2<=d*k.2.2:=Int.mul_le_mul_of_nonneg_left s2 (by omega)
 have up:∀ p q:Int,p+d*(q-p)/n=((n-d)*p+d*q)/n:=fun p q=>by
   rw [show (n-d)*p+d*q=d*(q-p)+p*n by grind,Int.add_mul_ediv_right _ _ (by omega)];omega
 have dn:∀ p q:Int,d*(p-q)/n-p=(-((n-d)*p+d*q))/n:=fun p q=>by
   rw [show -((n-d)*p+d*q)=d*(p-q)+(-p)*n by grind,Int.add_mul_ediv_right _ _ (by omega)];omega
 have q1:((n-d)*a.2.1+d*k.2.1)/n<=((n-d)*a'.2.1+d*k'.2.1)/n:=Int.ediv_le_ediv n0 (by omega);have q2:(-((n-d)*a.2.2+d*k.2.2))/n<=(-((n-d)*a'.2.2+d*k'.2.2))/n:=Int.ediv_le_ediv n0 (by omega);have r1:=up a.2.1 k.2.1;have r2:=up a'.2.1 k'.2.1;have r3:=dn a.2.2 k.2.2;have r4:=dn a'.2.2 k'.2.2;omega
theorem TbN.inR {l' l:List Kn} (h:TbN l' l) {x:Int} (hx:inR l x):inR l' x:=by
 have hl:=h.len;refine ⟨fun k hk=>?_,fun k hk=>?_⟩
 . obtain ⟨c,hc⟩:∃ c,l[0]?= some c:=⟨_,List.getElem?_eq_getElem (by have:=(List.getElem?_eq_some_iff.1 hk).1;omega)⟩
   have:=(h.at' 0 k c hk hc).1;have:=hx.1 c hc;omega
 . rw [hl] at hk
   obtain ⟨c,hc⟩:∃ c,l[l.length-1]?= some c:=⟨_,List.getElem?_eq_getElem (by have:=(List.getElem?_eq_some_iff.1 hk).1;omega)⟩
   have:=(h.at' _ k c hk hc).1;have:=hx.2 c hc;omega
theorem AOt {l' l:List Kn} (h:TbN l' l) (ht:Ck l=true) (ht':Ck l'=true) {x:Int} (hx:inR l x):WB (atS l' x) (atS l x):=by
 have hl:=h.len;obtain ⟨a,k,ha,hk,hlt,e,_,_,hlt2,h1,h2,_⟩:=kS ht hx.1 hx.2;obtain ⟨a',ha'⟩:∃ a',l'[DB l x]?= some a':=⟨_,List.getElem?_eq_getElem (by omega)⟩
 obtain ⟨k',hk'⟩:∃ k',l'[DB l x+1]?= some k':=⟨_,List.getElem?_eq_getElem (by omega)⟩
 obtain ⟨e1,s1⟩:=h.at' _ _ _ ha' ha;obtain ⟨e2,s2⟩:=h.at' _ _ _ hk' hk;rw [e,Kd ht' (h.inR hx) ha' hk' (by omega) (by omega)];exact AOs e1 e2 hlt2 h1 h2 s1 s2
theorem AMo {l' l:List Kn} (h:TbN l' l) (ht:Ck l=true) (ht':Ck l'=true) {x:Int × Int} (h1:inR l x.1) (h2:inR l x.2):∀ i,i<=l.length->WB (Fk l' x i) (Fk l x i)
 | 0,_=>by
   obtain ⟨p1,p2⟩:=AOt h ht ht' h1;obtain ⟨q1,q2⟩:=AOt h ht ht' h2;unfold Fk Xa WB;simp;omega
 | i+1,hi=>by
   have hl:=h.len;obtain ⟨p1,p2⟩:=AMo h ht ht' h1 h2 i (by omega);obtain ⟨a,ha⟩:∃ a,l[i]?= some a:=⟨_,List.getElem?_eq_getElem (by omega)⟩
   obtain ⟨b,hb⟩:∃ b,l'[i]?= some b:=⟨_,List.getElem?_eq_getElem (by omega)⟩
   obtain ⟨e,q1,q2⟩:=h.at' i b a hb ha;rw [ALM ha,ALM hb,e];split
   . unfold Xa WB;simp only;omega
   . exact ⟨p1,p2⟩
theorem APj {l' l:List Lev} (h:LsN l' l):TbN (knT l') (knT l):=by
 obtain ⟨h1,h2⟩:=h.at;refine ⟨by rw [Dg,Dg,h1],fun i a b ha hb=>?_⟩;rw [JA] at ha hb;cases e1:l'[i]? with
 | none=>rw [e1] at ha;cases ha
 | some x=>
   cases e2:l[i]? with
   | none=>rw [e2] at hb;cases hb
   | some y=>
     rw [e1] at ha;rw [e2] at hb;cases ha;cases hb;have:=h2 i x y e1 e2;exact ⟨this.h,this.tl,this.th⟩
theorem AM0 {l' l:List Lev} (h:LsN l' l) {x:Int} (hx:E8 l x):E8 l' x:=by
 obtain ⟨h1,h2⟩:=h.at;refine ⟨fun k hk=>?_,fun k hk=>?_⟩
 . obtain ⟨c,hc⟩:∃ c,l[0]?= some c:=⟨_,List.getElem?_eq_getElem (by have:=(List.getElem?_eq_some_iff.1 hk).1;omega)⟩
   have:=(h2 0 k c hk hc).h;have:=hx.1 c hc;omega
 . rw [h1] at hk
   obtain ⟨c,hc⟩:∃ c,l[l.length-1]?= some c:=⟨_,List.getElem?_eq_getElem (by have:=(List.getElem?_eq_some_iff.1 hk).1;omega)⟩
   have:=(h2 _ k c hk hc).h;have:=hx.2 c hc;omega
theorem AQb {l' l:List Lev} (h':OkS l') (h:OkS l) (hn:LsN l' l) {lo hi:Int} (hlo:E8 l lo) (hhi:E8 l hi):TmN (tmS (knT l')) (tmS (knT l)) lo hi:=fun a b h1 h2 h3=>by
 have ha:=Hz hlo hhi h1 (by omega);have hb:=Hz hlo hhi (by omega:lo<=b) h3;rw [kc h ha hb,kc h' (AM0 hn ha) (AM0 hn hb),show min a b=a by omega,show max a b=b by omega,Dg,Dg,hn.at.1];have:=AMo (APj hn) (NC h) (NC h') (x:=(a,b)) (AMi ha) (AMi hb) l.length (by rw [Dg];omega);exact this
theorem AQc {l' l:List Lev} (hn:LsN l' l) {a b:Int} (h':yg l' a b) (h:yg l a b):Nar (atA l' a b).1 (atA l a b).1:=by
 have hl:=h.ok.len;obtain ⟨x,hx⟩:∃ x,l[0]?= some x:=⟨_,List.getElem?_eq_getElem (by omega)⟩
 obtain ⟨y,hy⟩:∃ y,l[l.length-1]?= some y:=⟨_,List.getElem?_eq_getElem (by omega)⟩
 have q1:=h.ina.1 x hx;have q2:=h.inb.2 y hy;have hxy:x.h<=y.h:=by have:=h.ab;omega
 have hT:=AQb h'.ok h.ok hn (NU hx hy (Int.le_refl _) hxy) (NU hx hy hxy (Int.le_refl _));have hs:=gZ h.ok h.fit;have hs':=gZ h'.ok h'.fit
 have hsb:HtB x.h y.h l:=fun z hz=>by
   obtain ⟨i,hi⟩:=List.getElem?_of_mem hz;have ii:=(List.getElem?_eq_some_iff.1 hi).1
   have mono:∀ (i j:Nat) (u v:Lev),i<=j->l[i]?= some u->l[j]?= some v->u.h<=v.h:=fun i j u v hij hu hv=>by
     by_cases e:i=j
     . subst e;rw [hu] at hv;cases hv;exact Int.le_refl _
     . have k1:(knT l)[i]?= some (knOf u):=by rw [JA,hu];rfl
       have k2:(knT l)[j]?= some (knOf v):=by rw [JA,hv];rfl
       have:=LT (NC h.ok) k1 k2 (by omega);unfold knOf at this;simp only at this;omega
   exact ⟨mono 0 i x z (by omega) hx hi,mono i _ z y (by omega) hi hy⟩
 have pos:∀ {m:List Lev},OkS m->∀ z∈m,Pos z:=fun hm z hz=>by
   have:=(hm.lev z hz).1;exact ⟨by omega,by omega⟩
 have hP2:PrN (swp l') l:=by
   have key:∀ {m F k:List Lev},LeL m F->PrN m k->PrN F k:=fun {m F k} h1 h2=>PrN.le h1 h2
   exact key (Es l') hn.prn
 have hc:=ANw hT hP2 h.ok.lks hs'.lk (pos (Yu h'.ok h'.fit)) hsb (Ns h'.ok);have hG:=tj h.ok.lks (AOr hP2) hc;have hPG:=ANt hP2 hG
 have hsg:HtB x.h y.h (swp l):=fun z hz=>by
   obtain ⟨i,hi⟩:=List.getElem?_of_mem hz;have ii:=(List.getElem?_eq_some_iff.1 hi).1;rw [Dj] at ii;obtain ⟨u,hu⟩:=gE ii;have k1:(knT (swp l))[i]?= some (knOf z):=by rw [JA,hi];rfl
   rw [TF,JA,hu] at k1
   have e:u.h=z.h:=by
     have:=Option.some.inj k1;have:=congrArg Prod.fst this;exact this
   have:=hsb u (List.mem_of_getElem? hu);omega
 rw [h.eq,h'.eq];have p1:=AMn hT b hPG hs.lk hs'.lk (pos (Yu h'.ok h'.fit)) (pos (Yu h.ok h.fit)) hsg;have p2:=AMn hT a hPG hs.lk hs'.lk (pos (Yu h'.ok h'.fit)) (pos (Yu h.ok h.fit)) hsg;have p3:=hT a b (by omega) h.ab (by omega);exact ⟨p1.1,p2.2,p3.1,p3.2⟩
structure GlN (a b:Gal):Prop where
 h:a.h=b.h
 g:a.g=b.g
 x:WB (a.xl,a.xh) (b.xl,b.xh)
 y:WB (a.yl,a.yh) (b.yl,b.yh)
def GsN:List Gal->List Gal->Prop
 | [],[]=>True
 | a::r,b::s=>GlN a b/\GsN r s
 | _,_=>False
theorem GsN.take:∀ {l m:List Gal} (n:Nat),GsN l m->GsN (l.take n) (m.take n)
 | [],[],_,_=>by simp [GsN]
 | _::_,_::_,0,_=>trivial
 | _::_,_::_,n+1,h=>⟨h.1,GsN.take n h.2⟩
 | [],_::_,_,h=>h.elim
 | _::_,[],_,h=>h.elim
theorem GsN.drop:∀ {l m:List Gal} (n:Nat),GsN l m->GsN (l.drop n) (m.drop n)
 | [],[],_,_=>by simp [GsN]
 | _::_,_::_,0,h=>h
 | _::_,_::_,n+1,h=>GsN.drop n h.2
 | [],_::_,_,h=>h.elim
 | _::_,[],_,h=>h.elim
theorem GsN.gust:∀ {l m:List Gal},GsN l m->∀ c,l.foldl (fun m x=>max m x.g) c=m.foldl (fun m x=>max m x.g) c
 | [],[],_,_=>rfl
 | a::_,b::_,h,c=>by
   rw [List.foldl_cons,List.foldl_cons,h.1.g];exact GsN.gust h.2 _
 | [],_::_,h,_=>h.elim
 | _::_,[],h,_=>h.elim
theorem GsN.while {p:Int->Bool}:∀ {l m:List Gal},GsN l m->(l.takeWhile fun x=>p x.h).length=(m.takeWhile fun x=>p x.h).length
 | [],[],_=>rfl
 | a::r,b::s,h=>by
   rw [List.takeWhile_cons,List.takeWhile_cons,h.1.h];split
   . simp [GsN.while h.2]
   . rfl
 | [],_::_,h=>h.elim
 | _::_,[],h=>h.elim
theorem GsN.at:∀ {l m:List Gal},GsN l m->l.length=m.length/\∀ (i:Nat) (a b:Gal),l[i]?= some a->m[i]?= some b->GlN a b
 | [],[],_=>⟨rfl,fun i a b h=>by simp at h⟩
 | x::r,y::s,h=>by
   obtain ⟨h1,h2⟩:=GsN.at h.2;refine ⟨by simp [h1],fun i a b ha hb=>?_⟩;cases i with
   | zero=>simp at ha hb;subst ha hb;exact h.1
   | succ i=>exact h2 i a b (by simpa using ha) (by simpa using hb)
 | [],_::_,h=>h.elim
 | _::_,[],h=>h.elim
theorem APk {w' w:List Gal} (h:GsN w' w) (x:Int × Int):rO w' x=rO w x:=by
 unfold rO Qq upN rS;rw [GsN.while (p:=fun y=>decide (y<x.1)) h,GsN.while (p:=fun y=>decide (y<=x.2)) h];exact ((h.take _).drop _).gust 0
theorem ANx {w' w:List Gal} (h:GsN w' w) (z:Int):EA w' z=EA w z:=by
 obtain ⟨h1,h2⟩:=h.at;unfold EA;rw [h1];by_cases h0:w.length=0
 . have e1:w=[]:=List.length_eq_zero_iff.1 h0
   have e2:w'=[]:=List.length_eq_zero_iff.1 (by omega);rw [e1,e2]
 . obtain ⟨a,ha⟩:∃ a,w[0]?= some a:=⟨_,List.getElem?_eq_getElem (by omega)⟩
   obtain ⟨b,hb⟩:∃ b,w[w.length-1]?= some b:=⟨_,List.getElem?_eq_getElem (by omega)⟩
   obtain ⟨a',ha'⟩:∃ a,w'[0]?= some a:=⟨_,List.getElem?_eq_getElem (by omega)⟩
   obtain ⟨b',hb'⟩:∃ b,w'[w.length-1]?= some b:=⟨_,List.getElem?_eq_getElem (by omega)⟩
   rw [ha,hb,ha',hb']
   show min (max z a'.h) b'.h=min (max z a.h) b.h
   rw [(h2 _ _ _ ha' ha).h,(h2 _ _ _ hb' hb).h]
theorem APl {w' w:List Gal} {pk:Gal->Int × Int} (h:GsN w' w) (hp:∀ a b,GlN a b->WB (pk a) (pk b)):TbN (Dd pk w') (Dd pk w):=by
 obtain ⟨h1,h2⟩:=h.at;refine ⟨by rw [IH,IH,h1],fun i a b ha hb=>?_⟩;rw [EG] at ha hb;cases e1:w'[i]? with
 | none=>rw [e1] at ha;cases ha
 | some x=>
   cases e2:w[i]? with
   | none=>rw [e2] at hb;cases hb
   | some y=>
     rw [e1] at ha;rw [e2] at hb;cases ha;cases hb;have:=h2 i x y e1 e2;exact ⟨this.h,hp _ _ this⟩
theorem ANz {w' w:List Gal} {pk:Gal->Int × Int} (hn:GsN w' w) (hw':OkW w') (hw:OkW w) (hp':PkB w' pk) (hp:PkB w pk) (hs:∀ a b,GlN a b->WB (pk a) (pk b)) {h:Int × Int} (hh:h.1<=h.2):WB (Fg pk w' h) (Fg pk w h):=by
 have hl:=hw.len;have hl2:=hn.at.1;by_cases h2:2<=w.length
 . rw [kP hw hp h2 hh,kP hw' hp' (by omega) hh,ANx hn,ANx hn,IH,IH,hl2]
   exact AMo (APl hn hs) (AG4 hw hp h2) (AG4 hw' hp' (by omega)) (x:=(EA w h.1,EA w h.2)) (My hw _) (My hw _) _ (by rw [IH];omega)
 . obtain ⟨x,rfl⟩:∃ x,w=[x]:=List.length_eq_one_iff.1 (by omega)
   obtain ⟨y,rfl⟩:∃ y,w'=[y]:=List.length_eq_one_iff.1 (by rw [hl2];rfl);exact hs _ _ hn.1
theorem APm {w' w:List Gal} (hn:GsN w' w) (hw':OkW w') (hw:OkW w) {h:Int × Int} (hh:h.1<=h.2):WB (Jr w' h) (Jr w h)/\WB (Js w' h) (Js w h):=by
 have g:=APk hn h;have x:=ANz hn hw' hw (pk:=HG) (fun x hx=>hw'.x x hx) (fun x hx=>hw.x x hx) (fun a b h=>h.x) hh;have y:=ANz hn hw' hw (pk:=EY) (fun x hx=>hw'.y x hx) (fun x hx=>hw.y x hx) (fun a b h=>h.y) hh;unfold WB at*;unfold Jr Js;simp only;omega
structure AOB (k' k:Sky):Prop where
 s:LsN k'.s k.s
 w:GsN k'.w k.w
theorem AMp {k' k:Sky} {r:Rig} (hn:AOB k' k) (h:Ey k r=true):Ey k' r=true:=by
 obtain ⟨h1,h2⟩:=hn.s.at;unfold Ey aj at h ⊢;cases e:k.s[0]? with
 | none=>rw [e] at h;cases h
 | some x=>
   rw [e] at h;have hl:=(List.getElem?_eq_some_iff.1 e).1;obtain ⟨x',ex⟩:∃ a,k'.s[0]?= some a:=⟨_,List.getElem?_eq_getElem (by omega)⟩
   obtain ⟨y,ey⟩:∃ a,k.s[k.s.length-1]?= some a:=⟨_,List.getElem?_eq_getElem (by omega)⟩
   obtain ⟨y',ey'⟩:∃ a,k'.s[k.s.length-1]?= some a:=⟨_,List.getElem?_eq_getElem (by omega)⟩
   rw [ey] at h;rw [ex,h1,ey'];have q1:=(h2 _ _ _ ex e).h;have q2:=(h2 _ _ _ ey' ey).h;simp only [Bool.and_eq_true,decide_eq_true_eq] at h ⊢;omega
theorem AN0 {k' k:Sky} {r:Rig} {s:Shp} {l:Leg} (hn:AOB k' k) (hk':BV k'=true) (hk:BV k=true) (hs:VU s) (hl:Wn l):dI (Cj k' r s l) (Cj k r s l):=by
 obtain ⟨⟨wx1,wx2⟩,wy1,wy2⟩:=APm hn.w (mV hk') (mV hk) (jd hs hl);refine ⟨?_,?_,⟨Int.le_refl _,Int.le_refl _⟩,⟨Int.le_refl _,Int.le_refl _⟩,⟨Int.le_refl _,Int.le_refl _⟩,⟨Int.le_refl _,Int.le_refl _⟩,rfl,rfl,rfl,rfl⟩
 . unfold Cj WB;simp only;omega
 . unfold Cj WB;simp only;omega
theorem APn {k' k:Sky} {r:Rig} {s:Shp} {l:Leg} (hn:AOB k' k) (hk':BV k'=true) (hT:Va k r) (hs:A6 s=true) (hl:Wn l) (hm:KI k r s l):KI k' r s l:=by
 have hk:=hT.sky;have sB:=GT hs;have sX:=AAb hs;have o1:=jd sB hl;have n:=AN0 (r:=r) hn hk' hk sB hl;have m1:=hm.lo;have m2:=hm.hi;have m3:=hm.rsv;have hat:=jc hk hT.rng m1 o1 m2;have hat2:=jc hk' (AMp hn hT.rng) m1 o1 m2;have hna:=AQc hn.s hat2 hat;have a1:=aU hat;have a2:=aU hat2;have l1:=hl.u;have l2:=hl.b;have gq:=hT.rig.g;have hlast:=je hT.rig hs hl hm;have nf:=n.f;have nw:=n.w;unfold WB at nf nw;simp only at nf nw;have sb:=sB.f;have sw:=sB.w;have tg:=Md (CR hs);refine ⟨m1,m2,fun c hc=>ABj (Dx tg c hc) hna (hm.fit c hc),m3,?_,?_,hm.full⟩
 . refine wd hm.trim (ABn a2 a1 hna ?_ ?_ ?_ ?_ ?_) ?_
   . unfold KG WB;simp only;omega
   . unfold KG WB;simp only;omega
   . unfold KG;exact n.dry
   . unfold KG;exact n.bal
   . unfold KG;simp only;rw [n.gas]
   . have c1:(hv0 (KG s (Cj k' r s l))).1<=(hv0 (KG s (Cj k' r s l))).2:=by
       unfold hv0 KG;simp only;have e1:(Cj k' r s l).fl=s.fl-l.bh:=rfl;omega
     exact gc a2 (l:=(tkQ s.gas).cs) (Dx tg) c1
 . have hf:=hm.far
   unfold UC at hf ⊢;simp only [Bool.and_eq_true,CC] at hf ⊢;have nx:=n.x;have ny:=n.y;unfold WB at nx ny;simp only at nx ny;have wb:=kQ (mV hk') o1;have x1:=sX.x;have y1:=sX.y;have lx:=hl.x;have ly:=hl.y;have e1:(Cj k' r s l).xl<=(Cj k' r s l).xh:=by unfold Cj;simp only;omega
   have e2:(Cj k' r s l).yl<=(Cj k' r s l).yh:=by unfold Cj;simp only;omega
   omega
theorem dI.trans {a b c:Shp} (h:dI a b) (g:dI b c):dI a c:=by
 have t:∀ {p q r:Int × Int},WB p q->WB q r->WB p r:=fun h g=>⟨Int.le_trans g.1 h.1,Int.le_trans h.2 g.2⟩
 exact ⟨t h.x g.x,t h.y g.y,t h.h g.h,t h.f g.f,t h.w g.w,t h.b g.b,h.dry.trans g.dry,h.bal.trans g.bal,h.drp.trans g.drp,h.gas.trans g.gas⟩
theorem APo {k' k:Sky} {r:Rig} (hn:AOB k' k) (hk':BV k'=true) (hT:Va k r) {x:Leg} {m:Nat} {s t t':Shp} (hs:A6 s=true) (ht:A6 t=true) (hx:BE x=true) (hN:dI s t) (h:FA k r x m t= .ok t'):∃ s',FA k' r x m s= .ok s'/\dI s' t':=by
 obtain ⟨s1,h1,h2⟩:=AFJ hT hT.rig (Wid.refl r) hs ht hx hN h;obtain ⟨u,g1,g2,rfl⟩:=Ib.1 h1;have hu:=Ow hs hx g1;have hl:=Mf hx;exact ⟨_,Ib.2 ⟨u,g1,APn hn hk' hT hu hl g2,rfl⟩,(AN0 hn hk' hT.sky (GT hu) hl).trans h2⟩
theorem AN1 {k' k:Sky} {r:Rig} {l:List Leg} (hn:AOB k' k) (hk':BV k'=true) (hT:Va k r) (hl:∀ x∈l,BE x=true):∀ {im:List (Nat × Nat)} {s t:Shp} {ts:List Shp},A6 s=true->A6 t=true->dI s t->Dt k r l im t= .ok ts->∃ ss,Dt k' r l im s= .ok ss/\fR ss ts
 | [],s,t,ts,_,_,_,h=>by cases h;exact ⟨[],rfl,trivial⟩
 | (i,m)::rest,s,t,ts,hs,ht,hN,h=>by
   obtain ⟨x,t1,ts1,hx,h1,h2,rfl⟩:=F5.1 h;have hxl:=hl x (List.mem_of_getElem? hx);obtain ⟨s1,h3,h4⟩:=APo hn hk' hT hs ht hxl hN h1;have hT':Va k' r:=⟨hk',hT.rig,AMp hn hT.rng⟩
   obtain ⟨ss,h5,h6⟩:=AN1 hn hk' hT hl (Q7 hT' hs hxl h3) (Q7 hT ht hxl h1) h4 h2;exact ⟨s1::ss,F5.2 ⟨x,s1,ss,hx,h3,h5,rfl⟩,h4,h6⟩
end Go.Proofs.Tryz
namespace Go.Proofs.Tryz
open Go.Psl
open Go.Air
def toP:List Pst:=[⟨0,0⟩,⟨1000,0⟩]
def toV:List (Int × Int):=[(9990,10010),(2790,2810),(-5,5),(0,0),(8800,8900),(2790,2810),(-5,5),(0,0)]
def toK (i:Nat):List Nws:=(⟨0,1,10,10,9995,10005⟩:Nws)::(List.range i).map fun j=>⟨(j/4:Nat),(j%4+1:Nat),0,0,((toV[j]?).getD (0,0)).1,((toV[j]?).getD (0,0)).2⟩
def zeR:Rts:=⟨0,0,0⟩
def adG:List Gal:=[⟨0, -5,5,0,0,0⟩,⟨1000, -5,5,0,0,0⟩]
def adL (a b:Int):List Lev:=[⟨0,a,b,2790,2810⟩,⟨1000,8800,8900,2790,2810⟩]
theorem AQq:ALT toP zeR (toK 8) 10 0=((adL 9990 10010,adG),0):=by decide+kernel
theorem AP2:ALT toP zeR (toK 8) 10 10=((adL 9995 10005,adG),0):=by decide+kernel
def plReg:List (Int × Int):=[(0,0),(1000,0)]
def plR (lo hi:Int):Rig:=⟨plReg,0,0,0,0,lo,hi⟩
theorem AP3:Fb plReg=plReg:=by
 rw [bf (m:=[(0,0),(1000,0)]) (by decide+kernel) (by decide+kernel)];decide+kernel
theorem APB:C7 plReg=true:=by
 unfold C7;rw [AP3];decide+kernel
theorem ASb {lo hi:Int} (h: -500<=lo/\lo<=hi/\hi<=9000):CF (plR lo hi)=true:=by
 unfold CF;rw [show (plR lo hi).reg=plReg from rfl,APB];simp only [Bool.and_eq_true,CC,plR];simp [rgB];omega
def nuP:Plt:=⟨[],0,0,0,0,0,0,0,0,0⟩
def nuS (xl xh h:Int):Shp:=⟨xl,xh,0,0,h,h,0,0,0,0,0,0,0,0,0,nuP⟩
def nuL (m v:Int):Leg:=⟨m,v,v,0,0,0,0,0,0,0,[]⟩
theorem AQr:BV ⟨adL 9990 10010,adG⟩=true:=by decide+kernel
theorem AP4:A6 (nuS 0 0 100)=true:=by decide+kernel
theorem AN4 (s h:Int × Int) (hh:(okC (s.1,h.1)&&Lj plReg (s.1,h.1))&&(okC (s.1,h.2)&&Lj plReg (s.1,h.2))&&(okC (s.2,h.1)&&Lj plReg (s.2,h.1))&&(okC (s.2,h.2)&&Lj plReg (s.2,h.2))=true):Il plReg s h=true:=by
 unfold Il inV;rw [APB];simpa using hh
def adK:Sky:=⟨adL 9990 10010,adG⟩
theorem AQs:Ep (nuS 0 0 100) (nuL 2 100)= .ok (nuS 0 0 100):=NE.2 ⟨by decide+kernel,by kernel_rfl⟩
theorem AP5:KI adK (plR 0 1000) (nuS 0 0 100) (nuL 2 100):=⟨by decide+kernel,by decide+kernel,by decide+kernel,by decide+kernel,AN4 _ _ (by decide+kernel),by decide+kernel,by decide+kernel⟩
theorem AP6:nuS 570 630 100=Cj adK (plR 0 1000) (nuS 0 0 100) (nuL 2 100):=by kernel_rfl
theorem AP7:KI adK (plR 0 1000) (nuS 570 630 100) (nuL 2 100):=⟨by decide+kernel,by decide+kernel,by decide+kernel,by decide+kernel,AN4 _ _ (by decide+kernel),by decide+kernel,by decide+kernel⟩
theorem AP8:nuS 1140 1260 100=Cj adK (plR 0 1000) (nuS 570 630 100) (nuL 2 100):=by kernel_rfl
theorem AQt:HA adK (plR 0 1000) (nuS 0 0 100) [nuL 2 100]= .ok [nuS 570 630 100,nuS 1140 1260 100]:=by
 have h0:JC adK (plR 0 1000) (nuS 0 0 100) (C0 [nuL 2 100])=0:=by
   unfold JC;rw [show BV adK=true from AQr,ASb (by omega),AP4];decide+kernel
 unfold HA;rw [if_pos h0,show BN 0 [nuL 2 100]=[(0,0),(0,1)] from rfl];exact F5.2 ⟨nuL 2 100,nuS 570 630 100,[nuS 1140 1260 100],rfl,Ib.2 ⟨nuS 0 0 100,by rw [if_pos rfl];exact AQs,AP5,AP6⟩,F5.2 ⟨nuL 2 100,nuS 1140 1260 100,[],rfl,Ib.2 ⟨nuS 570 630 100,by rw [if_neg (by decide)],AP7,AP8⟩,rfl,rfl⟩,rfl⟩
theorem Ze {α:Type} {p:α->Bool}:∀ {l:List α} {i:Nat} {x:α},i<(l.takeWhile p).length->l[i]?= some x->p x=true
 | [],i,x,h,_=>by simp at h
 | a::r,i,x,h,hx=>by
   rw [List.takeWhile_cons] at h;by_cases ha:p a=true
   . rw [if_pos ha] at h
     cases i with
     | zero=>simp at hx;subst hx;exact ha
     | succ i=>exact Ze (l:=r) (by simpa using h) (by simpa using hx)
   . rw [if_neg ha] at h;simp at h
theorem Zf {α:Type} {p:α->Bool}:∀ {l:List α} {i:Nat} {x:α},(∀ (j k:Nat) (x y:α),j<=k->l[j]?= some x->l[k]?= some y->p y=true->p x=true)->(l.takeWhile p).length<=i->l[i]?= some x->p x=false
 | [],i,x,_,_,hx=>by simp at hx
 | a::r,i,x,hm,h,hx=>by
   rw [List.takeWhile_cons] at h;by_cases ha:p a=true
   . rw [if_pos ha] at h
     cases i with
     | zero=>simp at h
     | succ i=>exact Zf (l:=r) (fun j k x y hjk h1 h2=>hm (j+1) (k+1) x y (by omega) (by simpa using h1) (by simpa using h2)) (by simpa using h) (by simpa using hx)
   . cases hp:p x with
     | false=>rfl
     | true=>exact absurd (hm 0 i a x (by omega) (by simp) hx hp) ha
theorem RE {w:List Gal} (hw:OkW w) {i j:Nat} {x y:Gal} (h:i<=j) (hx:w[i]?= some x) (hy:w[j]?= some y):x.h<=y.h:=sC hw (j-i) i x y hx (by rw [show i+(j-i)=j by omega];exact hy)
theorem Zg {w:List Gal} {lo:Int} {i:Nat} {x:Gal} (h:i<Qq w lo) (hx:w[i]?= some x):x.h<lo:=by
 have:=Ze h hx;simpa using this
theorem ft {w:List Gal} (hw:OkW w) {lo:Int} {i:Nat} {x:Gal} (h:Qq w lo<=i) (hx:w[i]?= some x):lo<=x.h:=by
 have:=Zf (fun j k x y hjk h1 h2 h3=>by have:=RE hw hjk h1 h2;simp at h3 ⊢;omega) h hx;simp at this;omega
theorem pd {w:List Gal} {hi:Int} {i:Nat} {x:Gal} (h:i<upN w hi) (hx:w[i]?= some x):x.h<=hi:=by
 have:=Ze h hx;simpa using this
theorem Zh {w:List Gal} (hw:OkW w) {hi:Int} {i:Nat} {x:Gal} (h:upN w hi<=i) (hx:w[i]?= some x):hi<x.h:=by
 have:=Zf (fun j k x y hjk h1 h2 h3=>by have:=RE hw hjk h1 h2;simp at h3 ⊢;omega) h hx;simp at this;omega
theorem JG {α:Type} {p:α->Bool} {l:List α}:(l.takeWhile p).length<=l.length:=(List.takeWhile_sublist p).length_le
theorem fn71 (l:List Gal) (lo hi:Int) (i:Nat) (x:Gal) (hx:l[i]?= some x):Ct prog 71 [vi i, .d (.ref [cT l]), .d (.ref [di lo,di hi])] (vb (decide (lo<=x.h))) []:=by
 have hil:i<l.length:=(List.getElem?_eq_some_iff.1 hx).1;refine CB func71 c71 fun E hE=>?_
 simp [p71,hx];apply RZ;simp [results71]
theorem fn72 (l:List Gal) (lo hi:Int) (i:Nat) (x:Gal) (hx:l[i]?= some x):Ct prog 72 [vi i, .d (.ref [cT l]), .d (.ref [di lo,di hi])] (vb (decide (hi<x.h))) []:=by
 have hil:i<l.length:=(List.getElem?_eq_some_iff.1 hx).1;refine CB func72 c72 fun E hE=>?_
 simp [p72,hx];apply RZ;simp [results72]
theorem ASV (a b g:Int) (h: -1000000<=a/\a<=1000000/\ -1000000<=b/\b<=1000000/\0<=g/\g<=1000000):Ct prog 73 [vsp a b, .d (.ref [di g])] (vsp (a-g) (b+g)) []:=by
 have w1:IntKind.wrap .i64 (a-g)=a-g:=AD (by omega) (by omega);have w2:IntKind.wrap .i64 (b+g)=b+g:=AD (by omega) (by omega);refine CB func73 c73 fun E hE=>?_
 simp [p73,w1,w2,AA];apply RZ;simp [results73]
abbrev wdV (x:Gal):V:= .agg [vi x.xl,vi x.xh,vi x.yl,vi x.yh]
theorem fn75 (x:Gal):Ct prog 75 [wdV x] (vsp (HG x).1 (HG x).2) []:=by
 refine CB func75 c75 fun E hE=>?_
 simp [p75,AA];apply RZ;simp [results75,HG]
theorem fn76 (x:Gal):Ct prog 76 [wdV x] (vsp (EY x).1 (EY x).2) []:=by
 refine CB func76 c76 fun E hE=>?_
 simp [p76,AA];apply RZ;simp [results76,EY]
theorem Iu (z:Int) (a b:Kn):Ct prog 120 [vi z, .d (.ref (knL a)), .d (.ref (knL b))] (vi (min (max z a.1) b.1)) []:=by
 refine CB func120 c120 fun E hE=>?_
 simp [p120];apply RZ;simp [results120]
def K6 (pk:Gal->Int × Int) (l:List Gal) (i:Nat):List Kn:=(l.take i).map fun x=>(x.h,pk x)
theorem Vl {pk:Gal->Int × Int} {l:List Gal} {i:Nat} {x:Gal} (h:l[i]?= some x):K6 pk l (i+1)=K6 pk l i++[(x.h,pk x)]:=by
 unfold K6;rw [List.take_add_one,h];simp
end Go.Proofs.Tryz
