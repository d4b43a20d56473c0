/- Own lemmas, used by the last text. Conditions: those that each theorem states. -/
import Derived.Test.YtnjclpglagcagaaGreatEbag
import Derived.Test.YtnjclpglagcagaaGreatEbah
import Derived.Test.YtnjclpglagcagaaGreatEbai
import Derived.Test.YtnjclpglagcagaaGreatEbaj
import Derived.Test.YtnjclpglagcagaaGreatEbal
set_option maxRecDepth 200000
set_option maxHeartbeats 8000000
namespace Go.Proofs.Tryz
open Go.Psl
open Go.Air
def tkS (c:Cel):Int:=c.ow+(c.he+c.ai)*c.lk
def tkN (c:Cel):Int:=tkS c/1000000
def tkC (c:Cel):Cel:={I0 c (tkN c) with ow:=tkS c%1000000}
def tkL (cs:List Cel) (i:Nat):List Cel:=(cs.take i).map tkC++cs.drop i
def tkH (cs:List Cel) (i:Nat):Int:=((cs.take i).map fun c=>BQ c (tkN c)).sum
def tkA (cs:List Cel) (i:Nat):Int:=((cs.take i).map fun c=>tkN c-BQ c (tkN c)).sum
theorem AF9 (cs:List Cel):tkL cs 0=cs:=by simp [tkL]
theorem iO (cs:List Cel):tkL cs cs.length=cs.map tkC:=by simp [tkL]
theorem iP (cs:List Cel) (i:Nat):(tkL cs i).length=cs.length:=by simp [tkL];omega
theorem mQ {cs:List Cel} {i:Nat} {c:Cel} (h:cs[i]?= some c):(tkL cs i)[i]?= some c:=by
 have hi:=(List.getElem?_eq_some_iff.1 h).1;unfold tkL;rw [List.getElem?_append_right (by simp;omega)];simp [Nat.min_eq_left (Nat.le_of_lt hi),h]
theorem cX {cs:List Cel} {i:Nat} {c:Cel} (h:cs[i]?= some c):tkL cs (i+1)=(tkL cs i).set i (tkC c):=by
 have hi:=(List.getElem?_eq_some_iff.1 h).1;have hc:cs[i]=c:=(List.getElem?_eq_some_iff.1 h).2;unfold tkL;rw [List.take_add_one,h,List.set_append_right _ _ (by simp;omega)];simp [Nat.min_eq_left (Nat.le_of_lt hi)];rw [List.drop_eq_getElem_cons hi];rfl
theorem Pz {cs:List Cel} {i:Nat} {c:Cel} (h:cs[i]?= some c):tkH cs (i+1)=tkH cs i+BQ c (tkN c):=by
 unfold tkH;rw [List.take_add_one,h];simp
theorem P2 {cs:List Cel} {i:Nat} {c:Cel} (h:cs[i]?= some c):tkA cs (i+1)=tkA cs i+(tkN c-BQ c (tkN c)):=by
 unfold tkA;rw [List.take_add_one,h];simp
theorem cY {c:Cel} (hb:B5 c):(0<=(c.he+c.ai)*c.lk/\(c.he+c.ai)*c.lk<=2000000000000)/\(0<=tkS c/\tkS c<=2000001000000)/\0<=tkN c/\tkN c<=c.he+c.ai:=by
 have q1:=hb.he;have q2:=hb.ai;have q3:=hb.lk;have q4:=hb.ow;have m1:0<=(c.he+c.ai)*c.lk:=Int.mul_nonneg (by omega) (by omega);have m2:(c.he+c.ai)*c.lk<=(c.he+c.ai)*100000:=Int.mul_le_mul_of_nonneg_left (by omega) (by omega);unfold tkN tkS;omega
theorem SY {c:Cel} (hb:B5 c):(0<=BQ c (tkN c)/\BQ c (tkN c)<=c.he)/\BQ c (tkN c)<=tkN c/\tkN c-BQ c (tkN c)<=c.ai:=by
 have h:=cY hb;have:=KE hb.he.1 hb.ai.1 h.2.2.1 h.2.2.2;omega
theorem SZ:∀ {cs:List Cel},(∀ c∈cs,B5 c)->∀ i:Nat,i<=cs.length->(0<=tkH cs i/\tkH cs i<=i*10000000)/\0<=tkA cs i/\tkA cs i<=i*10000000
 | cs,h,0,_=>by simp [tkH,tkA]
 | cs,h,i+1,hi=>by
   obtain ⟨c,hc⟩:∃ c,cs[i]?= some c:=⟨_,List.getElem?_eq_getElem (by omega)⟩
   have hb:=h c (List.mem_of_getElem? hc);have ih:=SZ h i (by omega);have:=SY hb;have q1:=hb.he;have q2:=hb.ai;rw [Pz hc,P2 hc];omega
def tkP (p:Plt) (cs:List Cel) (i:Nat):Plt:={p with lh:=p.lh+tkH cs i,la:=p.la+tkA cs i}
theorem iQ (p:Plt) (cs:List Cel) (a:Act) (hl:cs.length<=12) (hne:cs≠[]) (ha:a.n=1) (hb:∀ c∈cs,B5 c) (hv:gd p.lh) (hw:gd p.la):
   Cm prog 111 [.lp 0 0,BZ a] (lk [(0,plB p (.ls 1 0 cs.length 7)),(1,AH AP cs)]) [0,1] (.ret (.tup [])) (lk [(0,plB (tkP p cs cs.length) (.ls 1 0 cs.length 7)),(1,AH AP (cs.map tkC))]):=by
 have d1:=ALU 1 1000 [1] (by simp);have d2:=BP 2;rw [show rgB 1 1000 [1]=true from by decide] at d1;have n1:=BG hne;have z1:IntKind.wrap .i64 1=1:=by decide
 refine CM 2 func111 ASc fun E hs hE=>?_
 simp [p111,AA,AM,ha]
 repeat ((first | (refine CLt d1 ?_ ?_;focus (simp [AG];done)) | (refine CLt d2 ?_ ?_;focus (simp;done)));simp)
 refine Al (α:=Nat) (fun k=>⟨AO [(0, .lp 0 0),(13,vi 1),(14,vi k)],lk [(0,plB (tkP p cs (if k=0 then 0 else cs.length)) (.ls 1 0 cs.length 7)),(1,AH AP (tkL cs (if k=0 then 0 else cs.length)))],2⟩) (fun k=>k<=1) (fun k=>1-k) 0 ?_ ?_ ?_
 . omega
 . simp only [if_true,AF9]
   refine AI.mkM hs (lk [(0,0),(1,1)]) _ _ _ ?_ ?_ ?_ ?_ ?_ ?_<;>simp [tkP,tkH,tkA]
 . intro k hk
   match k,hk with
   | 1,_=>
     simp [AMY,iO];refine AB.by (lk [(0,0),(1,1)]) ?_;simp [results111]
   | n+2,h=>omega
   | 0,_=>
     simp [AMY];refine Al (α:=Nat) (fun i=>⟨AO [(0, .lp 0 0),(13,vi 1),(14,vi 0),(21,vi cs.length),(22,vi i)],lk [(0,plB (tkP p cs i) (.ls 1 0 cs.length 7)),(1,AH AP (tkL cs i))],2⟩) (fun i=>i<=cs.length) (fun i=>cs.length-i) 0 ?_ ?_ ?_
     . omega
     . exact WKM hs (lk [(0,0),(1,1)])
     . intro i hi
       by_cases h:i<cs.length
       . obtain ⟨c,hc⟩:=gE h
         have hcb:=hb c (List.mem_of_getElem? hc);have hI:(i:Int)<cs.length:=by omega
         have hz:=@wz i (by omega);have b1:=cY hcb;have b2:=SY hcb;have b3:=SZ hb i hi;have q1:=hcb.he;have q2:=hcb.ai;have q3:=hcb.lk;have q4:=hcb.ow;have hLc:=mQ hc;have hLn:=cX hc;have hLl:=iP cs i;have hHn:=Pz hc;have hAn:=P2 hc
         generalize tkL cs i=L at*
         have w1:IntKind.wrap .i64 (c.he+c.ai)=c.he+c.ai:=AD (by omega) (by omega);have w2:IntKind.wrap .i64 ((c.he+c.ai)*c.lk)=(c.he+c.ai)*c.lk:=AD (by omega) (by omega);have w3:IntKind.wrap .i64 (c.ow+(c.he+c.ai)*c.lk)=tkS c:=AD (by unfold tkS at b1;omega) (by unfold tkS at b1;omega);have hd:(tkS c).tdiv 1000000=tkN c:=Int.tdiv_eq_ediv_of_nonneg (by omega);have w4:IntKind.wrap .i64 (tkN c)=tkN c:=AD (by omega) (by omega)
         let c1:Cel:={c with ow:=tkS c}
         have hc1:(L.set i c1)[i]?= some c1:=by simp [hLl,h]
         have hsl:=Aw Nr L;have hsl1:=Aw Nr (L.set i c1);have s0:(i*7+1+1<=cs.length*7/\i*7+2+1<=cs.length*7)/\i*7+5+1<=cs.length*7/\i*7+6+1<=cs.length*7:=by omega
         have t1:List.take 1 (List.drop (i*7+1) (AH AP L))=[vi c.he]:=Bg Nr (x:=c) (j:=1) (k:=1) hLc (by omega);have t2:List.take 1 (List.drop (i*7+2) (AH AP L))=[vi c.ai]:=Bg Nr (x:=c) (j:=2) (k:=1) hLc (by omega);have t5:List.take 1 (List.drop (i*7+5) (AH AP L))=[vi c.lk]:=Bg Nr (x:=c) (j:=5) (k:=1) hLc (by omega);have t6:List.take 1 (List.drop (i*7+6) (AH AP L))=[vi c.ow]:=Bg Nr (x:=c) (j:=6) (k:=1) hLc (by omega);have x1:AA (AH AP L) (i*7+6) [vi (tkS c)]=AH AP (L.set i c1):=Cq Nr (vs:=[di (tkS c)]) hLc (by simp) rfl;have t7:List.take 1 (List.drop (i*7+6) (AH AP (L.set i c1)))=[vi (tkS c)]:=Bg Nr (x:=c1) (j:=6) (k:=1) hc1 (by omega);simp [AMw,hI,inC,Nat.testBit,hLl,hsl,hsl1,s0,t1,t2,t5,t6,t7,x1,w1,w2,w3,w4,hd];by_cases hp:0<tkN c
         . have d3:=Sg (L.set i c1) i c1 (tkN c) hc1 ⟨hcb.he,hcb.ai⟩ ⟨by omega,b1.2.2.2⟩
           have d4:=AQY (p.lh+tkH cs i) (p.la+tkA cs i) (BQ c (tkN c)) (tkN c-BQ c (tkN c)) ⟨by omega,by omega,by omega,by omega⟩;rw [List.set_set] at d3;obtain ⟨L2,hL2⟩:∃ L2,L.set i (I0 c1 (tkN c))=L2:=⟨_,rfl⟩
           rw [hL2,show BQ c1 (tkN c)=BQ c (tkN c) from rfl] at d3;have hL2l:L2.length=cs.length:=by rw [<-hL2];simp [hLl]
           have hL2c:L2[i]?= some (I0 c1 (tkN c)):=by rw [<-hL2];simp [hLl,h]
           have hsl2:=Aw Nr L2;have t8:List.take 1 (List.drop (i*7+6) (AH AP L2))=[vi (tkS c)]:=Bg Nr (x:=I0 c1 (tkN c)) (j:=6) (k:=1) hL2c (by omega)
           have x2:AA (AH AP L2) (i*7+6) [vi (tkS c%1000000)]=AH AP (L.set i (tkC c)):=by
             have:=Cq Nr (y:=tkC c) (j:=6) (vs:=[di (tkS c%1000000)]) hL2c (by simp) rfl;rw [<-hL2,List.set_set,hL2] at this;exact this
           have hm:(tkS c).tmod 1000000=tkS c%1000000:=Int.tmod_eq_emod_of_nonneg (by omega);have w5:IntKind.wrap .i64 (tkS c%1000000)=tkS c%1000000:=AD (by omega) (by omega);have n2:AH AP (L.set i c1)≠[]:=BG (fun e=>by have:=congrArg List.length e;rw [List.length_set,hLl,List.length_nil] at this;omega);simp [hp];refine AL [(8,1)] (by kernel_rfl) ?_;simp [inC,Nat.testBit,tkP];refine CDs d3 (by simp [wrL,inC,Nat.testBit,n2,BB]) ?_;simp;refine CLa d4 ?_;simp [hL2l,hsl2,s0,t8,x2,hm,hz];refine ⟨i+1,by omega,by omega,?_⟩;rw [hLn,hHn,hAn];refine AI.mkM hs (lk [(0,0),(1,1)]) _ _ _ ?_ ?_ ?_ ?_ ?_ ?_<;>simp [AA,Int.add_assoc]
         . have hN:tkN c=0:=by omega
           have hS:tkS c%1000000=tkS c:=by unfold tkN at hN;omega
           have hO:BQ c 0=0:=by unfold BQ;simp
           have e:tkC c=c1:=by
             unfold tkC I0;rw [hN,hS,hO];simp [c1]
           simp [hp,hz,tkP];refine ⟨i+1,by omega,by omega,?_⟩;rw [hLn,hHn,hAn,e,hN,hO];exact WKM hs (lk [(0,0),(1,1)])
       . have ei:i=cs.length:=by omega
         have hI:¬ (i:Int)<cs.length:=by omega
         subst ei;simp [AMw,z1];refine ⟨1,by omega,by omega,?_⟩;exact WKM hs (lk [(0,0),(1,1)])
theorem Ce (l:List Cel) (hl:l.length<=1000000):Ct prog 55 [.d (AX l)] (.ls 0 0 l.length 7) [(0,AH AP l)]:=by
 cases l with
 | nil=>
   refine CB func55 c55 fun E hE=>?_
   simp [p55];refine ⟨?_,?_⟩
   . apply RZ
     simp [results55,AH]
   . simp [AM,Am,Hp.app]
     refine AB.by (lk [(0,5242880)]) ?_;simp [results55,AH]
 | cons a r=>
   refine CB func55 c55 fun E hE=>?_
   have hmx:(r.length+1)*56<=140737488355328/\r.length+1<=9223372036854775807:=by simp at hl;omega
   have e:AX (a::r)= .sl 7 (AP a::r.map AP):=rfl;have ef:(r.map (List.map V.d ∘ AP)).flatten=AH AP r:=by simp [AH,List.map_flatten]
   have hcl:(∀ x∈AH AP r,x.isCell=true)=True:=eq_true BU;simp [p55,e,ef,hcl,AM,hmx];refine AB.by (lk [(0,5242880)]) ?_;simp [results55,CQ,hcl]
end Go.Proofs.Tryz
namespace Go.Psl
noncomputable def Y3:Option Code->Code | some (.seq _ r)=>r | _=> .skip
noncomputable def pE:Option Code->Nat | some (.seq (.region i _ _) _)=>i | _=>0
noncomputable def ij (k:Nat):Option Code->Oper | some (.seq (.region _ o _) _)=>(o[k]?).getD ⟨none, .move (.tmp 0),0, "",#[],none⟩ | _=>⟨none, .move (.tmp 0),0, "",#[],none⟩
theorem VW {P:Program} {Γ:Tys} {eqs:Eqs} {ws:List (Nat × Nat)} {cl:List Nat} {n0 k b:Nat} {Z:V->Prop} {K:(Nat->V)->Hp->Nat->Prop} {r:List PO} {f:Nat->V} {H:Hp} {dst:Option Nat} {s t:TypeId} {x:Operand}:dd P Γ eqs ws cl n0 Z K k b (⟨dst, .typeAssert x s t false,none⟩::r) f H=goD ws k dst b (dd P Γ eqs ws cl n0 Z K (k+1) (b+1048576) r) f H (Wf Γ t (evF f x)):=CE rfl
end Go.Psl
namespace Go.Proofs.Tryz
open Go.Psl
open Go.Air
noncomputable def AQK:Oper:=(⟨_,by conv=>lhs;reduce⟩:Rd (ij 0 f104.body)).1
noncomputable def AQL:Oper:=(⟨_,by conv=>lhs;reduce⟩:Rd (ij 1 f104.body)).1
noncomputable def p104r:PC:=(⟨_,by conv=>lhs;reduce⟩:Rd (match AK f104.ntmps (Y3 f104.body) with | some p=>p | none=> .skip)).1
theorem ASS:f104.body=some (.seq (.region (pE f104.body) #[AQK,AQL] false) (Y3 f104.body)):=by kernel_rfl
theorem AQM:AK f104.ntmps (Y3 f104.body)=some p104r:=by kernel_rfl
theorem AQN:∀ ρ W,(execOp ρ AQK).run prog W= .ok .recover W:=fun _ _=>by kernel_rfl
theorem AQO:∀ ρ W,(execOp ρ AQL).run prog W= .ok (.value (ρ (.tmp 3))) W:=fun _ _=>by kernel_rfl
theorem IT:CmD prog 104 [.lp 2097152 0, .lp 3145728 0] (lk []) [] none (lk []):=by
 refine CmD.by gok eok mixed 4194304 func104 ASS rfl rfl rfl rfl rfl AQN AQO (by simp [ntmps104]) (by simp [ntmps104]) AQM (by simp [ntmps104]) (by simp) (by simp [NV]) (A7.at (by simp)) (by simp) (by simp [LD]) fun E hs=>?_
 simp [p104r,NV];apply RZ;simp [results104]
abbrev plZ:List V:=[.d (.lit (.slice none 0 0)),vi 0,vi 0,vi 0,vi 0,vi 0,vi 0,vi 0,vi 0,vi 0]
theorem Ds (e:Int):CmD prog 104 [.lp 2097152 0, .lp 3145728 0] (lk [(2097152,plZ),(3145728,[vi 0])]) [2097152,3145728] (some (Fm e)) (lk [(2097152,plZ),(3145728,[vi e])]):=by
 refine CmD.by gok eok mixed 4194304 func104 ASS rfl rfl rfl rfl rfl AQN AQO (by simp [ntmps104]) (by simp [ntmps104]) AQM (by simp [ntmps104]) (by simp) (by simp [NV]) (A7.at (by simp)) (by simp) (by simp [LD]) fun E hs=>?_
 simp [p104r,NV];refine AL [(4,2097152)] (by kernel_rfl) ?_;simp [AA,inC,Nat.testBit,VW];refine AB.by (lk [(2097152,2097152),(3145728,3145728)]) ?_;simp [results104]
end Go.Proofs.Tryz
namespace Go.Psl
variable {P:Program} {Γ:Tys} {E:Ent} {fn:Func} {r:V} {H1:List (Nat × List V)} {pb:PC} {st:St}
theorem Ax:dwQ P Γ E fn r H1 pb .normal st=DW P E fn r H1 pb st:=AF rfl
theorem Iv {g:FuncId} {ids:List (Nat × Nat)}:XG P Γ fn r H1 g ids .ret st=Cn P g ids none (Dc Γ fn [] r H1) st:=AF rfl
theorem D9 {g:FuncId} {ids:List (Nat × Nat)} {D:D}:XG P Γ fn r H1 g ids (.pan (.d D)) st=Cn P g ids (some (.d D)) (Dc Γ fn [] r H1) st:=AF (by simp [XG])
theorem DW.defer2 {eqs:Eqs} (hΓ:GOk P Γ) (hE:EB P eqs) (hm:P.follows .mixedOrders=true) {t:Nat} {g:FuncId} {caps:Array Operand} {cl:Call} {f:Nat->V} {H:Hp} {n:Nat} (n':Nat) (ids:List (Nat × Nat)) (vs:List V) (hcal:cl.callee= .value (.tmp t)) (hcl:cl.args= #[]) (hvs:(ids.map fun p=> .lp p.1 p.2)=vs) (hn:n+2097152=n')
   (hcaps:BX f caps.toList=vs) (hst:∀ i,¬ E.stab i)
   (h:∀ E':Ent,PW P Γ eqs E' pb (XG P Γ fn r H1 g ids) ⟨Am f (some t) (.cl g vs),H,n'⟩):
   DW P E fn r H1 (.seq (.reg [⟨some t, .makeFunc (.func g) #[] caps,none⟩,⟨none, .defer cl,none⟩]) pb) ⟨f,H,n⟩:=by
 subst hn hvs;exact DW.defer hΓ hE hm ids hcal hcl hcaps hst fun E' _ _ _=>h E'
theorem Cn.mk {H:Hp} {b:Nat} {f:Nat->V} {g:FuncId} {ids:List (Nat × Nat)} {m:Option V} {K:St->Prop} (L:List (Nat × List V)) (ks:List Nat) (L1:List (Nat × List V)) (hf:CmD P g (ids.map fun p=> .lp p.1 p.2) (lk L) ks m (lk L1)) (hlive:∀ p∈ids,(H p.1).isSome=true) (hin:Fr H L) (hi:∀ p∈L1,p.1∈ks\/p.1<1048576) (hks:Jq b L L1 ks) (hL:∀ p∈L,p.1<b)
   (hk:K ⟨f,I2 (E0 H L) ks b L1,b⟩):Cn P g ids m K ⟨f,H,b⟩:=by
 have hL':∀ i,InH (lk L) i->i<b:=fun i h=>by
   obtain ⟨x,hx⟩:=Option.isSome_iff_exists.1 h;exact hL _ (B4 hx)
 refine ⟨hlive,_,lk L,ks,lk L1,hf,⟨hin.at,fun i h hn=>NB hi h hn,fun i h=>(hks.at i h).2.2, .inl ?_⟩,?_⟩
 . exact AJ.of_get rfl fun i x y hx hy=>by
     rw [hx] at hy;cases hy;rw [List.getElem?_map] at hx;obtain ⟨p,_,rfl⟩:=Option.map_eq_some_iff.1 hx;exact ⟨rfl,rfl⟩
 . show K ⟨f,BI H b (lk L) ks (lk L1),b⟩
   rw [E1 H ks b L L1 hks hL'];exact hk
end Go.Psl
namespace Go.Proofs.Tryz
open Go.Psl
open Go.Air
def sgD (i:Nat):Nat:=if i=0 then 23068672 else 28311552
theorem Nu:∀ i j,i<2->j<2->sgD i=sgD j->i=j:=by
 intro i j hi hj h;unfold sgD at h;split at h<;>split at h<;>first | omega | exact absurd h (by omega)
theorem Px (ρ:Nat->Nat) (l:List Cel):(AH AP l).map (BJ ρ)=AH AP l:=by
 simp [AH,List.map_flatten,Function.comp_def]
theorem rF {f:FuncId} {p:Plt} {a:Act} {cs:List Cel} {e:Int} (h:Cm prog f [.lp 0 0,BZ a] (lk [(0,plB p (.ls 1 0 cs.length 7)),(1,AH AP cs)]) [] (.pan (Fm e)) (lk [])):Cm prog f [.lp 23068672 0,BZ a] (lk [(23068672,plB p (.ls 28311552 0 cs.length 7)),(28311552,AH AP cs)]) [] (.pan (Fm e)) (lk []):=by
 have:=Cm.rename sgD 2 Nu h (by simp [BW]) (by simp [BW]) (by simp);simpa [Ea,HW,sgD,Px] using this
theorem MZ {f:FuncId} {p q:Plt} {a:Act} {cs ds:List Cel} (h:Cm prog f [.lp 0 0,BZ a] (lk [(0,plB p (.ls 1 0 cs.length 7)),(1,AH AP cs)]) [0,1] (.ret (.tup [])) (lk [(0,plB q (.ls 1 0 cs.length 7)),(1,AH AP ds)])):Cm prog f [.lp 23068672 0,BZ a] (lk [(23068672,plB p (.ls 28311552 0 cs.length 7)),(28311552,AH AP cs)]) [23068672,28311552] (.ret (.tup [])) (lk [(23068672,plB q (.ls 28311552 0 cs.length 7)),(28311552,AH AP ds)]):=by
 have:=Cm.rename sgD 2 Nu h (by simp [BW]) (by simp [BW]) (by simp);simpa [Ea,HW,sgD,Px] using this
theorem Py (p:Plt) (a:Act) (e:Int) (hl:p.cs.length<=1000000) (h:Ar p=true) (hk:a.k=3) (hne:p.cs≠[]) (d0:Cm prog 107 [.lp 0 0,BZ a] (lk [(0,plB p (.ls 1 0 p.cs.length 7)),(1,AH AP p.cs)]) [] (.pan (Fm e)) (lk [])):Ct prog 56 [Cy p (.d (AX p.cs)),BZ a] (.tup [.agg plZ,vi e]) []:=by
 have d5:=rF d0;have n2:=trivial;have d1:=ALn p (by omega);have d2:=ALU 1 7 [3] (by simp);have d3:=BP 2;have d4:=Ce p.cs hl;have n1:=BG hne;have w3:IntKind.wrap .i64 3=3:=by decide
 rw [h] at d1;rw [show rgB 1 7 [3]=true from by decide] at d2;refine Ct.byD gok func56 c56 rfl (by simp [ntmps56]) (by simp) (by simp [LD]) fun E hE hN=>?_
 unfold p56;simp only [];refine DW.seq gok eok mixed ?_;simp [Ax];refine DW.seq gok eok mixed ?_;simp;refine CLa d1 ?_;simp [Ax];refine DW.defer2 gok eok mixed 11534336 [(2097152,0),(3145728,0)] [.lp 2097152 0, .lp 3145728 0] rfl rfl rfl (by simp) (by simp) hE fun E'=>?_
 simp [AA,AM,hk,w3];refine CLb (d2) (by simp [AG]) ?_;simp;refine CLa d3 ?_;simp [AA];refine CLa d4 ?_;simp [AA];refine CRs d5 (by simp [hk]) ?_;simp [D9];refine Cn.mk _ _ _ (Ds e) (by simp) (by simp) (by simp) (by simp) (by simp) ?_;simp;apply RZ;simp [results56]
theorem ABg (p q:Plt) (a:Act) (hl:p.cs.length<=1000000) (h:Ar p=true) (hk:a.k=3) (hne:p.cs≠[]) (hq:q.cs.length=p.cs.length) (ho:Ar q=true) (d0:Cm prog 107 [.lp 0 0,BZ a] (lk [(0,plB p (.ls 1 0 p.cs.length 7)),(1,AH AP p.cs)]) [0,1] (.ret (.tup [])) (lk [(0,plB q (.ls 1 0 p.cs.length 7)),(1,AH AP q.cs)])):Ct prog 56 [Cy p (.d (AX p.cs)),BZ a] (.tup [Cy q (.ls 0 0 p.cs.length 7),vi 0]) [(0,AH AP q.cs)]:=by
 have d5:=MZ d0;have n2:AH AP q.cs≠[]:=BG fun e=>by rw [e] at hq;exact hne (List.eq_nil_of_length_eq_zero hq.symm)
 have d6:=ALn q (by omega);have d7:=BP 9
 have d8:List.take (p.cs.length*7) (AH AP q.cs)=(List.map (List.map V.d ∘ AP) q.cs).flatten:=by
   rw [<-hq,List.take_of_length_le (by rw [Aw Nr];omega)];simp [AH,List.map_flatten]
 rw [ho] at d6;have d1:=ALn p (by omega);have d2:=ALU 1 7 [3] (by simp);have d3:=BP 2;have d4:=Ce p.cs hl;have n1:=BG hne;have w3:IntKind.wrap .i64 3=3:=by decide
 rw [h] at d1;rw [show rgB 1 7 [3]=true from by decide] at d2;refine Ct.byD gok func56 c56 rfl (by simp [ntmps56]) (by simp) (by simp [LD]) fun E hE hN=>?_
 unfold p56;simp only [];refine DW.seq gok eok mixed ?_;simp [Ax];refine DW.seq gok eok mixed ?_;simp;refine CLa d1 ?_;simp [Ax];refine DW.defer2 gok eok mixed 11534336 [(2097152,0),(3145728,0)] [.lp 2097152 0, .lp 3145728 0] rfl rfl rfl (by simp) (by simp) hE fun E'=>?_
 simp [AA,AM,hk,w3];refine CLb (d2) (by simp [AG]) ?_;simp;refine CLa d3 ?_;simp [AA];refine CLa d4 ?_;simp [AA];refine CRs d5 (by simp [n1,hk,BB]) ?_;simp;refine CLb (d6) (by first | (simp;done) | simp [CP,d8,hq]) ?_;simp;refine CLa d7 ?_;simp [AA,Iv];refine Cn.mk _ _ _ IT (by simp) (by simp) (by simp) (by simp) (by simp) ?_;simp;refine AB.by (lk [(0,28311552)]) ?_;simp [results56]
theorem WY (p q:Plt) (a:Act) (hl:p.cs.length<=1000000) (h:Ar p=true) (hk:a.k=3) (hne:p.cs≠[]) (hq:q.cs.length=p.cs.length) (ho:Ar q=false) (d0:Cm prog 107 [.lp 0 0,BZ a] (lk [(0,plB p (.ls 1 0 p.cs.length 7)),(1,AH AP p.cs)]) [0,1] (.ret (.tup [])) (lk [(0,plB q (.ls 1 0 p.cs.length 7)),(1,AH AP q.cs)])):Ct prog 56 [Cy p (.d (AX p.cs)),BZ a] (.tup [.agg plZ,vi 9]) []:=by
 have d5:=MZ d0;have n2:AH AP q.cs≠[]:=BG fun e=>by rw [e] at hq;exact hne (List.eq_nil_of_length_eq_zero hq.symm)
 have d6:=ALn q (by omega);have d7:=Xt 9
 have d8:List.take (p.cs.length*7) (AH AP q.cs)=(List.map (List.map V.d ∘ AP) q.cs).flatten:=by
   rw [<-hq,List.take_of_length_le (by rw [Aw Nr];omega)];simp [AH,List.map_flatten]
 rw [ho] at d6;have d1:=ALn p (by omega);have d2:=ALU 1 7 [3] (by simp);have d3:=BP 2;have d4:=Ce p.cs hl;have n1:=BG hne;have w3:IntKind.wrap .i64 3=3:=by decide
 rw [h] at d1;rw [show rgB 1 7 [3]=true from by decide] at d2;refine Ct.byD gok func56 c56 rfl (by simp [ntmps56]) (by simp) (by simp [LD]) fun E hE hN=>?_
 unfold p56;simp only [];refine DW.seq gok eok mixed ?_;simp [Ax];refine DW.seq gok eok mixed ?_;simp;refine CLa d1 ?_;simp [Ax];refine DW.defer2 gok eok mixed 11534336 [(2097152,0),(3145728,0)] [.lp 2097152 0, .lp 3145728 0] rfl rfl rfl (by simp) (by simp) hE fun E'=>?_
 simp [AA,AM,hk,w3];refine CLb (d2) (by simp [AG]) ?_;simp;refine CLa d3 ?_;simp [AA];refine CLa d4 ?_;simp [AA];refine CRs d5 (by simp [n1,hk,BB]) ?_;simp;refine CLb (d6) (by first | (simp;done) | simp [CP,d8,hq]) ?_;simp;refine CRs d7 (by simp) ?_;simp [D9];refine Cn.mk _ _ _ (Ds 9) (by simp) (by simp) (by simp) (by simp) (by simp) ?_;simp;apply RZ;simp [results56]
theorem LW (p:Plt) (a:Act) (e:Int) (hl:p.cs.length<=1000000) (h:Ar p=true) (hk:a.k=4) (hne:p.cs≠[]) (d0:Cm prog 108 [.lp 0 0,BZ a] (lk [(0,plB p (.ls 1 0 p.cs.length 7)),(1,AH AP p.cs)]) [] (.pan (Fm e)) (lk [])):Ct prog 56 [Cy p (.d (AX p.cs)),BZ a] (.tup [.agg plZ,vi e]) []:=by
 have d5:=rF d0;have n2:=trivial;have d1:=ALn p (by omega);have d2:=ALU 1 7 [4] (by simp);have d3:=BP 2;have d4:=Ce p.cs hl;have n1:=BG hne;have w3:IntKind.wrap .i64 4=4:=by decide
 rw [h] at d1;rw [show rgB 1 7 [4]=true from by decide] at d2;refine Ct.byD gok func56 c56 rfl (by simp [ntmps56]) (by simp) (by simp [LD]) fun E hE hN=>?_
 unfold p56;simp only [];refine DW.seq gok eok mixed ?_;simp [Ax];refine DW.seq gok eok mixed ?_;simp;refine CLa d1 ?_;simp [Ax];refine DW.defer2 gok eok mixed 11534336 [(2097152,0),(3145728,0)] [.lp 2097152 0, .lp 3145728 0] rfl rfl rfl (by simp) (by simp) hE fun E'=>?_
 simp [AA,AM,hk,w3];refine CLb (d2) (by simp [AG]) ?_;simp;refine CLa d3 ?_;simp [AA];refine CLa d4 ?_;simp [AA];refine CRs d5 (by simp [hk]) ?_;simp [D9];refine Cn.mk _ _ _ (Ds e) (by simp) (by simp) (by simp) (by simp) (by simp) ?_;simp;apply RZ;simp [results56]
theorem ADp (p q:Plt) (a:Act) (hl:p.cs.length<=1000000) (h:Ar p=true) (hk:a.k=4) (hne:p.cs≠[]) (hq:q.cs.length=p.cs.length) (ho:Ar q=true) (d0:Cm prog 108 [.lp 0 0,BZ a] (lk [(0,plB p (.ls 1 0 p.cs.length 7)),(1,AH AP p.cs)]) [0,1] (.ret (.tup [])) (lk [(0,plB q (.ls 1 0 p.cs.length 7)),(1,AH AP q.cs)])):Ct prog 56 [Cy p (.d (AX p.cs)),BZ a] (.tup [Cy q (.ls 0 0 p.cs.length 7),vi 0]) [(0,AH AP q.cs)]:=by
 have d5:=MZ d0;have n2:AH AP q.cs≠[]:=BG fun e=>by rw [e] at hq;exact hne (List.eq_nil_of_length_eq_zero hq.symm)
 have d6:=ALn q (by omega);have d7:=BP 9
 have d8:List.take (p.cs.length*7) (AH AP q.cs)=(List.map (List.map V.d ∘ AP) q.cs).flatten:=by
   rw [<-hq,List.take_of_length_le (by rw [Aw Nr];omega)];simp [AH,List.map_flatten]
 rw [ho] at d6;have d1:=ALn p (by omega);have d2:=ALU 1 7 [4] (by simp);have d3:=BP 2;have d4:=Ce p.cs hl;have n1:=BG hne;have w3:IntKind.wrap .i64 4=4:=by decide
 rw [h] at d1;rw [show rgB 1 7 [4]=true from by decide] at d2;refine Ct.byD gok func56 c56 rfl (by simp [ntmps56]) (by simp) (by simp [LD]) fun E hE hN=>?_
 unfold p56;simp only [];refine DW.seq gok eok mixed ?_;simp [Ax];refine DW.seq gok eok mixed ?_;simp;refine CLa d1 ?_;simp [Ax];refine DW.defer2 gok eok mixed 11534336 [(2097152,0),(3145728,0)] [.lp 2097152 0, .lp 3145728 0] rfl rfl rfl (by simp) (by simp) hE fun E'=>?_
 simp [AA,AM,hk,w3];refine CLb (d2) (by simp [AG]) ?_;simp;refine CLa d3 ?_;simp [AA];refine CLa d4 ?_;simp [AA];refine CRs d5 (by simp [n1,hk,BB]) ?_;simp;refine CLb (d6) (by first | (simp;done) | simp [CP,d8,hq]) ?_;simp;refine CLa d7 ?_;simp [AA,Iv];refine Cn.mk _ _ _ IT (by simp) (by simp) (by simp) (by simp) (by simp) ?_;simp;refine AB.by (lk [(0,28311552)]) ?_;simp [results56]
theorem WZ (p q:Plt) (a:Act) (hl:p.cs.length<=1000000) (h:Ar p=true) (hk:a.k=4) (hne:p.cs≠[]) (hq:q.cs.length=p.cs.length) (ho:Ar q=false) (d0:Cm prog 108 [.lp 0 0,BZ a] (lk [(0,plB p (.ls 1 0 p.cs.length 7)),(1,AH AP p.cs)]) [0,1] (.ret (.tup [])) (lk [(0,plB q (.ls 1 0 p.cs.length 7)),(1,AH AP q.cs)])):Ct prog 56 [Cy p (.d (AX p.cs)),BZ a] (.tup [.agg plZ,vi 9]) []:=by
 have d5:=MZ d0;have n2:AH AP q.cs≠[]:=BG fun e=>by rw [e] at hq;exact hne (List.eq_nil_of_length_eq_zero hq.symm)
 have d6:=ALn q (by omega);have d7:=Xt 9
 have d8:List.take (p.cs.length*7) (AH AP q.cs)=(List.map (List.map V.d ∘ AP) q.cs).flatten:=by
   rw [<-hq,List.take_of_length_le (by rw [Aw Nr];omega)];simp [AH,List.map_flatten]
 rw [ho] at d6;have d1:=ALn p (by omega);have d2:=ALU 1 7 [4] (by simp);have d3:=BP 2;have d4:=Ce p.cs hl;have n1:=BG hne;have w3:IntKind.wrap .i64 4=4:=by decide
 rw [h] at d1;rw [show rgB 1 7 [4]=true from by decide] at d2;refine Ct.byD gok func56 c56 rfl (by simp [ntmps56]) (by simp) (by simp [LD]) fun E hE hN=>?_
 unfold p56;simp only [];refine DW.seq gok eok mixed ?_;simp [Ax];refine DW.seq gok eok mixed ?_;simp;refine CLa d1 ?_;simp [Ax];refine DW.defer2 gok eok mixed 11534336 [(2097152,0),(3145728,0)] [.lp 2097152 0, .lp 3145728 0] rfl rfl rfl (by simp) (by simp) hE fun E'=>?_
 simp [AA,AM,hk,w3];refine CLb (d2) (by simp [AG]) ?_;simp;refine CLa d3 ?_;simp [AA];refine CLa d4 ?_;simp [AA];refine CRs d5 (by simp [n1,hk,BB]) ?_;simp;refine CLb (d6) (by first | (simp;done) | simp [CP,d8,hq]) ?_;simp;refine CRs d7 (by simp) ?_;simp [D9];refine Cn.mk _ _ _ (Ds 9) (by simp) (by simp) (by simp) (by simp) (by simp) ?_;simp;apply RZ;simp [results56]
theorem cU (p q:Plt) (a:Act) (hl:p.cs.length<=1000000) (h:Ar p=true) (hk:a.k=7) (hne:p.cs≠[]) (hq:q.cs.length=p.cs.length) (ho:Ar q=true) (d0:Cm prog 111 [.lp 0 0,BZ a] (lk [(0,plB p (.ls 1 0 p.cs.length 7)),(1,AH AP p.cs)]) [0,1] (.ret (.tup [])) (lk [(0,plB q (.ls 1 0 p.cs.length 7)),(1,AH AP q.cs)])):Ct prog 56 [Cy p (.d (AX p.cs)),BZ a] (.tup [Cy q (.ls 0 0 p.cs.length 7),vi 0]) [(0,AH AP q.cs)]:=by
 have d5:=MZ d0;have n2:AH AP q.cs≠[]:=BG fun e=>by rw [e] at hq;exact hne (List.eq_nil_of_length_eq_zero hq.symm)
 have d6:=ALn q (by omega);have d7:=BP 9
 have d8:List.take (p.cs.length*7) (AH AP q.cs)=(List.map (List.map V.d ∘ AP) q.cs).flatten:=by
   rw [<-hq,List.take_of_length_le (by rw [Aw Nr];omega)];simp [AH,List.map_flatten]
 rw [ho] at d6;have d1:=ALn p (by omega);have d2:=ALU 1 7 [7] (by simp);have d3:=BP 2;have d4:=Ce p.cs hl;have n1:=BG hne;have w3:IntKind.wrap .i64 7=7:=by decide
 rw [h] at d1;rw [show rgB 1 7 [7]=true from by decide] at d2;refine Ct.byD gok func56 c56 rfl (by simp [ntmps56]) (by simp) (by simp [LD]) fun E hE hN=>?_
 unfold p56;simp only [];refine DW.seq gok eok mixed ?_;simp [Ax];refine DW.seq gok eok mixed ?_;simp;refine CLa d1 ?_;simp [Ax];refine DW.defer2 gok eok mixed 11534336 [(2097152,0),(3145728,0)] [.lp 2097152 0, .lp 3145728 0] rfl rfl rfl (by simp) (by simp) hE fun E'=>?_
 simp [AA,AM,hk,w3];refine CLb (d2) (by simp [AG]) ?_;simp;refine CLa d3 ?_;simp [AA];refine CLa d4 ?_;simp [AA];refine CRs d5 (by simp [n1,hk,BB]) ?_;simp;refine CLb (d6) (by first | (simp;done) | simp [CP,d8,hq]) ?_;simp;refine CLa d7 ?_;simp [AA,Iv];refine Cn.mk _ _ _ IT (by simp) (by simp) (by simp) (by simp) (by simp) ?_;simp;refine AB.by (lk [(0,28311552)]) ?_;simp [results56]
theorem Wa (p q:Plt) (a:Act) (hl:p.cs.length<=1000000) (h:Ar p=true) (hk:a.k=7) (hne:p.cs≠[]) (hq:q.cs.length=p.cs.length) (ho:Ar q=false) (d0:Cm prog 111 [.lp 0 0,BZ a] (lk [(0,plB p (.ls 1 0 p.cs.length 7)),(1,AH AP p.cs)]) [0,1] (.ret (.tup [])) (lk [(0,plB q (.ls 1 0 p.cs.length 7)),(1,AH AP q.cs)])):Ct prog 56 [Cy p (.d (AX p.cs)),BZ a] (.tup [.agg plZ,vi 9]) []:=by
 have d5:=MZ d0;have n2:AH AP q.cs≠[]:=BG fun e=>by rw [e] at hq;exact hne (List.eq_nil_of_length_eq_zero hq.symm)
 have d6:=ALn q (by omega);have d7:=Xt 9
 have d8:List.take (p.cs.length*7) (AH AP q.cs)=(List.map (List.map V.d ∘ AP) q.cs).flatten:=by
   rw [<-hq,List.take_of_length_le (by rw [Aw Nr];omega)];simp [AH,List.map_flatten]
 rw [ho] at d6;have d1:=ALn p (by omega);have d2:=ALU 1 7 [7] (by simp);have d3:=BP 2;have d4:=Ce p.cs hl;have n1:=BG hne;have w3:IntKind.wrap .i64 7=7:=by decide
 rw [h] at d1;rw [show rgB 1 7 [7]=true from by decide] at d2;refine Ct.byD gok func56 c56 rfl (by simp [ntmps56]) (by simp) (by simp [LD]) fun E hE hN=>?_
 unfold p56;simp only [];refine DW.seq gok eok mixed ?_;simp [Ax];refine DW.seq gok eok mixed ?_;simp;refine CLa d1 ?_;simp [Ax];refine DW.defer2 gok eok mixed 11534336 [(2097152,0),(3145728,0)] [.lp 2097152 0, .lp 3145728 0] rfl rfl rfl (by simp) (by simp) hE fun E'=>?_
 simp [AA,AM,hk,w3];refine CLb (d2) (by simp [AG]) ?_;simp;refine CLa d3 ?_;simp [AA];refine CLa d4 ?_;simp [AA];refine CRs d5 (by simp [n1,hk,BB]) ?_;simp;refine CLb (d6) (by first | (simp;done) | simp [CP,d8,hq]) ?_;simp;refine CRs d7 (by simp) ?_;simp [D9];refine Cn.mk _ _ _ (Ds 9) (by simp) (by simp) (by simp) (by simp) (by simp) ?_;simp;apply RZ;simp [results56]
end Go.Proofs.Tryz
namespace Go.Proofs.Tryz
open Go.Psl
open Go.Air
theorem fq (p:Plt) (a:Act) (ha:a.n=1):Cm prog 111 [.lp 23068672 0,BZ a] (lk [(23068672,plB p (.ls 28311552 0 0 7)),(28311552,[])]) [23068672] (.ret (.tup [])) (lk [(23068672,plB p (.ls 1 0 0 7)),(1,[])]):=by
 have d1:=ALU 1 1000 [1] (by simp);have d2:=BP 2;rw [show rgB 1 1000 [1]=true from by decide] at d1;have z1:IntKind.wrap .i64 1=1:=by decide
 refine CM 28311553 func111 ASc fun E hs hE=>?_
 simp [p111,AA,AM,ha]
 repeat ((first | (refine CLt d1 ?_ ?_;focus (simp [AG];done)) | (refine CLt d2 ?_ ?_;focus (simp;done)));simp)
 refine Al (α:=Nat) (fun k=>⟨AO [(0, .lp 23068672 0),(13,vi 1),(14,vi k)],lk [(23068672,plB p (.ls 28311552 0 0 7)),(28311552,[])],28311553⟩) (fun k=>k<=1) (fun k=>1-k) 0 ?_ ?_ ?_
 . omega
 . exact WKM hs (lk [(23068672,23068672),(28311552,28311552)])
 . intro k hk
   match k,hk with
   | 1,_=>
     simp [AMY];refine AB.by (lk [(23068672,23068672),(1,28311552)]) ?_;simp [results111]
   | n+2,h=>omega
   | 0,_=>
     simp [AMY];refine Al (α:=Nat) (fun i=>⟨AO [(0, .lp 23068672 0),(13,vi 1),(14,vi 0),(21,vi 0),(22,vi i)],lk [(23068672,plB p (.ls 28311552 0 0 7)),(28311552,[])],28311553⟩) (fun i=>i=0) (fun i=>0) 0 ?_ ?_ ?_
     . rfl
     . exact WKM hs (lk [(23068672,23068672),(28311552,28311552)])
     . intro i hi
       subst hi;simp [AMw,z1];refine ⟨1,by omega,by omega,?_⟩;exact WKM hs (lk [(23068672,23068672),(28311552,28311552)])
theorem i0 {f:FuncId} {p:Plt} {a:Act} {e:Int} (h:Cm prog f [.lp 0 0,BZ a] (lk [(0,plB p (.ls 1 0 0 7))]) [] (.pan (Fm e)) (lk [])):Cm prog f [.lp 23068672 0,BZ a] (lk [(23068672,plB p (.ls 28311552 0 0 7))]) [] (.pan (Fm e)) (lk []):=by
 have:=Cm.rename sgD 2 Nu h (by simp [BW]) (by simp [BW]) (by simp);simpa [Ea,HW,sgD] using this
theorem kz (p:Plt) (a:Act) (h:Ar p=true) (hk:a.k=3) (he:p.cs=[]):Ct prog 56 [Cy p (.d (AX p.cs)),BZ a] (.tup [.agg plZ,vi 2]) []:=by
 have d5:=i0 (gj p a);have d1:=ALn p (by simp [he]);have d2:=ALU 1 7 [3] (by simp);have d3:=BP 2;have d4:=Ce ([]:List Cel) (by simp);have w3:IntKind.wrap .i64 3=3:=by decide
 rw [h,he] at d1;rw [he];rw [show rgB 1 7 [3]=true from by decide] at d2;refine Ct.byD gok func56 c56 rfl (by simp [ntmps56]) (by simp) (by simp [LD]) fun E hE hN=>?_
 unfold p56;simp only [];refine DW.seq gok eok mixed ?_;simp [Ax];refine DW.seq gok eok mixed ?_;simp;refine CLa d1 ?_;simp [Ax];refine DW.defer2 gok eok mixed 11534336 [(2097152,0),(3145728,0)] [.lp 2097152 0, .lp 3145728 0] rfl rfl rfl (by simp) (by simp) hE fun E'=>?_
 simp [AA,AM,hk,w3];refine CLb (d2) (by simp [AG]) ?_;simp;refine CLa d3 ?_;simp [AA];refine CLa d4 ?_;simp [AA];refine CRs d5 (by simp [AH,hk]) ?_;simp [D9];refine Cn.mk _ _ _ (Ds 2) (by simp) (by simp) (by simp) (by simp) (by simp) ?_;simp;apply RZ;simp [results56]
theorem lA (p:Plt) (a:Act) (h:Ar p=true) (hk:a.k=4) (he:p.cs=[]):Ct prog 56 [Cy p (.d (AX p.cs)),BZ a] (.tup [.agg plZ,vi 2]) []:=by
 have d5:=i0 (ABp p a);have d1:=ALn p (by simp [he]);have d2:=ALU 1 7 [4] (by simp);have d3:=BP 2;have d4:=Ce ([]:List Cel) (by simp);have w3:IntKind.wrap .i64 4=4:=by decide
 rw [h,he] at d1;rw [he];rw [show rgB 1 7 [4]=true from by decide] at d2;refine Ct.byD gok func56 c56 rfl (by simp [ntmps56]) (by simp) (by simp [LD]) fun E hE hN=>?_
 unfold p56;simp only [];refine DW.seq gok eok mixed ?_;simp [Ax];refine DW.seq gok eok mixed ?_;simp;refine CLa d1 ?_;simp [Ax];refine DW.defer2 gok eok mixed 11534336 [(2097152,0),(3145728,0)] [.lp 2097152 0, .lp 3145728 0] rfl rfl rfl (by simp) (by simp) hE fun E'=>?_
 simp [AA,AM,hk,w3];refine CLb (d2) (by simp [AG]) ?_;simp;refine CLa d3 ?_;simp [AA];refine CLa d4 ?_;simp [AA];refine CRs d5 (by simp [AH,hk]) ?_;simp [D9];refine Cn.mk _ _ _ (Ds 2) (by simp) (by simp) (by simp) (by simp) (by simp) ?_;simp;apply RZ;simp [results56]
theorem lC (p:Plt) (a:Act) (h:Ar p=true) (hk:a.k=7) (hn:a.n=1) (he:p.cs=[]):Ct prog 56 [Cy p (.d (AX p.cs)),BZ a] (.tup [Cy p (.ls 0 0 0 7),vi 0]) [(0,[])]:=by
 have d5:=fq p a hn;have d6:=ALn p (by simp [he]);have d7:=BP 9;rw [h,he] at d6;have d1:=ALn p (by simp [he]);have d2:=ALU 1 7 [7] (by simp);have d3:=BP 2;have d4:=Ce ([]:List Cel) (by simp);have w3:IntKind.wrap .i64 7=7:=by decide
 rw [h,he] at d1;rw [he];rw [show rgB 1 7 [7]=true from by decide] at d2;refine Ct.byD gok func56 c56 rfl (by simp [ntmps56]) (by simp) (by simp [LD]) fun E hE hN=>?_
 unfold p56;simp only [];refine DW.seq gok eok mixed ?_;simp [Ax];refine DW.seq gok eok mixed ?_;simp;refine CLa d1 ?_;simp [Ax];refine DW.defer2 gok eok mixed 11534336 [(2097152,0),(3145728,0)] [.lp 2097152 0, .lp 3145728 0] rfl rfl rfl (by simp) (by simp) hE fun E'=>?_
 simp [AA,AM,hk,w3];refine CLb (d2) (by simp [AG]) ?_;simp;refine CLa d3 ?_;simp [AA];refine CLa d4 ?_;simp [AA];refine CRs d5 (by simp [AH,hk]) ?_;simp;refine CLb (d6) (by first | (simp;done) | simp [CP]) ?_;simp;refine CLa d7 ?_;simp [AA,Iv];refine Cn.mk _ _ _ IT (by simp) (by simp) (by simp) (by simp) (by simp) ?_;simp;refine AB.by (lk [(0,39845889)]) ?_;simp [results56]
def g7 (q:Plt):Except Int Plt:=if Ar q then .ok q else .error 9
def vlP (p:Plt) (a:Act) (c:Cel):Plt:={p with vh:=p.vh+BQ c a.n,va:=p.va+(a.n-BQ c a.n),cs:=p.cs.set a.c.toNat (I0 c a.n)}
def mvP (p:Plt) (a:Act) (c e:Cel):Plt:={p with cs:=(p.cs.set a.c.toNat (I0 c a.n)).set a.t.toNat (gg e (BQ c a.n) (a.n-BQ c a.n))}
def vlS (p:Plt) (a:Act):Except Int Plt:=if inA p.cs.length a then match p.cs[a.c.toNat]? with | none=> .error 2 | some c=>if a.n<=c.he+c.ai then g7 (vlP p a c) else .error 6 else .error 2
def mvS (p:Plt) (a:Act):Except Int Plt:=if inA p.cs.length a then (if inT p.cs.length a then match p.cs[a.c.toNat]?,p.cs[a.t.toNat]? with | some c,some e=>if a.n<=c.he+c.ai then g7 (mvP p a c e) else .error 6 | _,_=> .error 2 else .error 2) else .error 2
def tkQ (p:Plt):Plt:={tkP p p.cs p.cs.length with cs:=p.cs.map tkC}
def doS (p:Plt) (a:Act):Except Int Plt:=if Ar p then (if a.k=3 then vlS p a else if a.k=4 then mvS p a else g7 (tkQ p)) else .error 32
def doV:Except Int Plt->V
 | .ok q=> .tup [Cy q (.d (AX q.cs)),vi 0]
 | .error e=> .tup [.agg plZ,vi e]
theorem Ta {q:Plt} {n:Nat} {args:List V} (hn:q.cs.length=n) (h:Ct prog 56 args (.tup [Cy q (.ls 0 0 n 7),vi 0]) [(0,AH AP q.cs)]):Ct prog 56 args (doV (.ok q)) []:=by
 refine Cm.freeze h ?_;subst hn
 have hb:Df (lk [(0,AH AP q.cs)]) (.ls 0 0 q.cs.length 7) (.d (AX q.cs)):=by
   have:=B0 (H:=lk [(0,AH AP q.cs)]) (id:=0) Nr (l:=q.cs) (by simp);exact this
 have z:∀ x:Int,FzC (lk [(0,AH AP q.cs)]) (vi x) (vi x):=fun x=>⟨_,rfl, .inl rfl⟩
 exact ⟨⟨⟨_,rfl,hb⟩,z _,z _,z _,z _,z _,z _,z _,z _,z _,trivial⟩, .inl rfl,trivial⟩
theorem CS {p:Plt} (h:Ar p=true):p.cs.length<=12:=by
 unfold Ar IR at h;simp only [Bool.and_eq_true,decide_eq_true_eq] at h;exact h.1.1.1.1
theorem Dx {p:Plt} (h:Ar p=true):∀ c∈p.cs,B5 c:=fun c hc=>by
 unfold Ar at h;simp only [Bool.and_eq_true] at h;exact Dm.1 (List.all_eq_true.1 h.1.2 c hc)
theorem K7 {p:Plt} (h:Ar p=true):(Li p).all bkB=true:=by
 unfold Ar IR at h;simp only [Bool.and_eq_true] at h;exact h.1.1.2
theorem Zm {cs:List Cel} {a:Act} (h:inA cs.length a=true):∃ c,cs[a.c.toNat]?= some c:=by
 have:=EQ.1 h;exact ⟨_,List.getElem?_eq_getElem (by omega)⟩
theorem lE {cs:List Cel} {a:Act} (h:inT cs.length a=true):∃ c,cs[a.t.toNat]?= some c:=by
 unfold inT rgB at h;simp at h;exact ⟨_,List.getElem?_eq_getElem (by omega)⟩
theorem NP {p q:Plt} {a:Act} (h1:Ar q=true->Ct prog 56 [Cy p (.d (AX p.cs)),BZ a] (doV (.ok q)) []) (h2:Ar q=false->Ct prog 56 [Cy p (.d (AX p.cs)),BZ a] (.tup [.agg plZ,vi 9]) []):Ct prog 56 [Cy p (.d (AX p.cs)),BZ a] (doV (g7 q)) []:=by
 unfold g7;cases h:Ar q
 . simpa [doV] using h2 h
 . simpa using h1 h
theorem do_3 (p:Plt) (a:Act) (h:Ar p=true) (hk:a.k=3):Ct prog 56 [Cy p (.d (AX p.cs)),BZ a] (doV (doS p a)) []:=by
 have hl:=CS h;have hcs:=Dx h;obtain ⟨_,_,v1,v2,_⟩:=K9 (K7 h);have e:doS p a=vlS p a:=by simp [doS,h,hk]
 rw [e];by_cases he:p.cs=[]
 . have:inA p.cs.length a=false:=by
     cases hx:inA p.cs.length a
     . rfl
     . have:=EQ.1 hx;rw [he] at this;simp at this;omega
   have e2:vlS p a= .error 2:=by simp [vlS,this]
   rw [e2];exact kz p a h hk he
 . cases hx:inA p.cs.length a with
   | false=>
     have e2:vlS p a= .error 2:=by simp [vlS,hx]
     rw [e2];exact Py p a 2 (by omega) h hk he (Vw p p.cs a (by omega) he hx)
   | true=>
     obtain ⟨c,hc⟩:=Zm hx;have hb:=hcs c (List.mem_of_getElem? hc);by_cases hn:a.n<=c.he+c.ai
     . have e2:vlS p a=g7 (vlP p a c):=by simp [vlS,hx,hc,hn]
       rw [e2];have d:=aV p p.cs a c (by omega) hx hc hb hn v1 v2;have hq:(vlP p a c).cs.length=p.cs.length:=by simp [vlP]
       exact NP (fun ho=>Ta hq (ABg p (vlP p a c) a (by omega) h hk he hq ho d)) fun ho=>WY p (vlP p a c) a (by omega) h hk he hq ho d
     . have e2:vlS p a= .error 6:=by simp [vlS,hx,hc,hn]
       rw [e2];exact Py p a 6 (by omega) h hk he (Vx p p.cs a c (by omega) hx hc hb (by omega))
theorem do_4 (p:Plt) (a:Act) (h:Ar p=true) (hk:a.k=4):Ct prog 56 [Cy p (.d (AX p.cs)),BZ a] (doV (doS p a)) []:=by
 have hl:=CS h;have hcs:=Dx h;have e:doS p a=mvS p a:=by simp [doS,h,hk]
 rw [e];by_cases he:p.cs=[]
 . have:inA p.cs.length a=false:=by
     cases hx:inA p.cs.length a
     . rfl
     . have:=EQ.1 hx;rw [he] at this;simp at this;omega
   have e2:mvS p a= .error 2:=by simp [mvS,this]
   rw [e2];exact lA p a h hk he
 . cases hx:inA p.cs.length a with
   | false=>
     have e2:mvS p a= .error 2:=by simp [mvS,hx]
     rw [e2];exact LW p a 2 (by omega) h hk he (an p p.cs a (by omega) he hx)
   | true=>
     cases ht:inT p.cs.length a with
     | false=>
       have e2:mvS p a= .error 2:=by simp [mvS,hx,ht]
       rw [e2];exact LW p a 2 (by omega) h hk he (ap p p.cs a (by omega) hx ht)
     | true=>
       obtain ⟨c,hc⟩:=Zm hx;obtain ⟨g,hg⟩:=lE ht;have hb:=hcs c (List.mem_of_getElem? hc);have hbg:=hcs g (List.mem_of_getElem? hg);by_cases hn:a.n<=c.he+c.ai
       . have e2:mvS p a=g7 (mvP p a c g):=by simp [mvS,hx,ht,hc,hg,hn]
         rw [e2];have d:=gi p p.cs a c g (by omega) hx ht hc hg hb hbg hn;have hq:(mvP p a c g).cs.length=p.cs.length:=by simp [mvP]
         exact NP (fun ho=>Ta hq (ADp p (mvP p a c g) a (by omega) h hk he hq ho d)) fun ho=>WZ p (mvP p a c g) a (by omega) h hk he hq ho d
       . have e2:mvS p a= .error 6:=by simp [mvS,hx,ht,hc,hg,hn]
         rw [e2];exact LW p a 6 (by omega) h hk he (aq p p.cs a c (by omega) hx ht hc hb (by omega))
theorem do_7 (p:Plt) (a:Act) (h:Ar p=true) (hk:a.k=7) (h1:a.n=1):Ct prog 56 [Cy p (.d (AX p.cs)),BZ a] (doV (doS p a)) []:=by
 have hl:=CS h;have hcs:=Dx h;obtain ⟨_,_,_,_,v1,v2,_⟩:=K9 (K7 h);have e:doS p a=g7 (tkQ p):=by simp [doS,h,hk]
 rw [e];by_cases he:p.cs=[]
 . have e3:tkQ p=p:=by
     unfold tkQ tkP tkH tkA;cases p;simp at he;simp [he]
   rw [e3];refine NP (fun _=>Ta (by rw [he]) ?_) fun ho=>by rw [h] at ho;cases ho
   have:=lC p a h hk h1 he;rw [show AH AP p.cs=[] by rw [he];rfl];exact this
 . have d:=iQ p p.cs a hl he h1 hcs v1 v2
   have hq:(tkQ p).cs.length=p.cs.length:=by simp [tkQ]
   exact NP (fun ho=>Ta hq (cU p (tkQ p) a (by omega) h hk he hq ho d)) fun ho=>Wa p (tkQ p) a (by omega) h hk he hq ho d
theorem fv (l:List Cel) (hl:l.length<=1000000):Ct prog 55 [.d (AX l)] (.d (AX l)) []:=by
 refine Cm.freeze (Ce l hl) ?_;exact B0 (H:=lk [(0,AH AP l)]) (id:=0) Nr (l:=l) (by simp)
def B7 (p:Plt):List Act->Nat->Plt × Nat × Int
 | [],_=>(p,0,0)
 | a::r,i=>match doS p a with
   | .ok q=>B7 q r (i+1)
   | .error e=>(p,i,e)
theorem fw {p q:Plt} (h:g7 p= .ok q):Ar q=true:=by
 unfold g7 at h;split at h
 . cases h;assumption
 . cases h
theorem Zn {p q:Plt} {a:Act} (h:doS p a= .ok q):Ar q=true:=by
 unfold doS vlS mvS at h
 repeat' split at h
 all_goals first | exact fw h | cases h
theorem K8 {p:Plt} {e:Int} (h:g7 p= .error e):e=9:=by
 unfold g7 at h;split at h
 . cases h
 . cases h;rfl
theorem Tb {p:Plt} {a:Act} {e:Int} (h:doS p a= .error e):¬ e=0:=by
 unfold doS vlS mvS at h
 repeat' split at h
 all_goals first | (have:=K8 h;omega) | (cases h;omega)
theorem pq (p:Plt) (a:Act) (h:Ar p=true) (hk:a.k=3\/a.k=4):Ct prog 56 [Cy p (.d (AX p.cs)),BZ a] (doV (doS p a)) []:=by
 rcases hk with hk | hk
 . exact do_3 p a h hk
 . exact do_4 p a h hk
theorem ATl (p:Plt) (l:List Act) (h:Ar p=true) (hl:l.length<=200) (hk:∀ a∈l,a.k=3\/a.k=4):Ct prog 16 [Cy p (.d (AX p.cs)), .d (JZ l)] (.tup [Cy (B7 p l 0).1 (.d (AX (B7 p l 0).1.cs)),vi (B7 p l 0).2.1,vi (B7 p l 0).2.2]) []:=by
 have hp:=CS h;have d1:=ALn p (by omega);have d2:=fv p.cs (by omega);have g:¬ (l.length:Int)>200:=by omega
 have g2:¬ (200:Int)<l.length:=by omega
 rw [h] at d1;obtain ⟨R,hR⟩:∃ R,B7 p l 0=R:=⟨_,rfl⟩
 rw [hR];refine CB func16 c16 fun E hE=>?_
 simp [p16];refine CLa d1 ?_;simp [AA,g];refine CLa d2 ?_;simp [AA];refine Al (α:=Nat × Plt) (fun x=>⟨AO [(4, .lp 0 0),(27, .d (JZ l)),(28,vi l.length),(29,vi x.1)],lk [(0,plB x.2 (.d (AX x.2.cs)))],1⟩) (fun x=>x.1<=l.length/\Ar x.2=true/\B7 x.2 (l.drop x.1) x.1=R) (fun x=>l.length-x.1) (0,p) ?_ ?_ ?_
 . exact ⟨by simp,h,by simpa using hR⟩
 . exact WK hE (lk [(0,1048576)])
 . rintro ⟨i,q⟩ ⟨hi,hq,hr⟩
   simp only at hi hq hr;have w:IntKind.wrap .i64 ((i:Int)+1)=((i+1:Nat):Int):=by rw [AD (by omega) (by omega)];rfl
   by_cases hi2:i<l.length
   . obtain ⟨a,ha⟩:=gE hi2
     have d3:=pq q a hq (hk a (List.mem_of_getElem? ha))
     have e1:l.drop i=a::l.drop (i+1):=by
       rw [List.drop_eq_getElem_cons hi2];rw [List.getElem?_eq_getElem hi2] at ha;cases ha;rfl
     have hiI:(i:Int)<l.length:=by omega
     rw [e1,B7] at hr;cases hd:doS q a with
     | ok q2=>
       rw [hd] at d3 hr;simp only [doV] at d3;have hq2:=Zn hd;simp [AES,AA,hiI,ha];refine CLa d3 ?_;simp [AA,w];refine ⟨i+1,q2,⟨by omega,hq2,hr⟩,by omega,?_⟩;exact WK hE (lk [(0,0)])
     | error e=>
       rw [hd] at d3 hr;simp only [doV] at d3;have he:=Tb hd;simp [AES,AA,hiI,ha];refine CLa d3 ?_;simp [AA,he];apply RZ;subst hr;simp [results16]
   . have e1:l.drop i=[]:=List.drop_eq_nil_of_le (by omega)
     rw [e1,B7] at hr;subst hr;have hiI:¬ (i:Int)<l.length:=by omega
     simp [AES,AA,hiI];apply RZ;simp [results16]
theorem CR {s:Shp} (h:A6 s=true):Ar s.gas=true:=by
 unfold A6 at h;simp only [Bool.and_eq_true] at h;exact h.2
theorem MF {s:Shp} (h:A6 s=true):((0<=s.dry/\s.dry<=1000000000)/\0<=s.bal/\s.bal<=1000000000)/\0<=s.drp/\s.drp<=1000000000000:=by
 unfold A6 at h;simp only [Bool.and_eq_true] at h;have h1:=h.1.1.2;have h2:=h.1.2;simp [rgB] at h1 h2;omega
theorem Kz {l:Leg} (h:BE l=true):l.acts.length<=12/\(∀ a∈l.acts,a.k=3\/a.k=4)/\0<=l.dr/\l.dr<=1000000000:=by
 unfold BE at h;simp only [Bool.and_eq_true,decide_eq_true_eq] at h;have h1:=h.1.1.2;simp [rgB] at h1;refine ⟨h.1.2,fun a ha=>?_,by omega⟩;have:=List.all_eq_true.1 h.2 a ha;simpa [Cb] using this
def Ep (s:Shp) (l:Leg):Except Int Shp:=
 if (B7 s.gas l.acts 0).2.2=0 then
   (if s.bal<l.dr then .error 2 else if 1000000000000<s.drp+l.dr then .error 9
     else .ok {s with gas:=(B7 s.gas l.acts 0).1,bal:=s.bal-l.dr,drp:=s.drp+l.dr})
 else .error (B7 s.gas l.acts 0).2.2
abbrev shZ:List V:=[vi 0,vi 0,vi 0,vi 0,vi 0,vi 0,vi 0,vi 0,vi 0,vi 0,vi 0,vi 0,vi 0,vi 0,vi 0, .d (.lit (.slice none 0 0)),vi 0,vi 0,vi 0,vi 0,vi 0,vi 0,vi 0,vi 0,vi 0]
def Oy:Except Int Shp->V
 | .ok s=> .tup [Cl s (.d (AX s.gas.cs)),vi 0]
 | .error e=> .tup [.agg shZ,vi e]
theorem Pw (s:Shp) (l:Leg) (hs:A6 s=true) (hl:BE l=true):Ct prog 91 [Cl s (.d (AX s.gas.cs)),AKx l] (Oy (Ep s l)) []:=by
 have q1:=Kz hl;have q2:=MF hs;have d1:=ATl s.gas l.acts (CR hs) (by omega) q1.2.1;have w1:IntKind.wrap .i64 (s.drp+l.dr)=s.drp+l.dr:=AD (by omega) (by omega);have w2:IntKind.wrap .i64 (s.bal-l.dr)=s.bal-l.dr:=AD (by omega) (by omega);unfold Ep
 generalize B7 s.gas l.acts 0=R at*
 obtain ⟨q,i,e⟩:=R;simp only at d1;simp only;by_cases he:e=0
 . rw [if_pos he]
   by_cases h2:s.bal<l.dr
   . rw [if_pos h2]
     simp only [Oy];refine CB func91 c91 fun E hE=>?_
     simp [p91];refine CLa d1 ?_;simp [AA,he,h2];apply RZ;simp [results91]
   . rw [if_neg h2]
     by_cases h3:1000000000000<s.drp+l.dr
     . rw [if_pos h3]
       simp only [Oy];refine CB func91 c91 fun E hE=>?_
       simp [p91];refine CLa d1 ?_;simp [AA,he,h2,w1,h3];apply RZ;simp [results91]
     . rw [if_neg h3]
       simp only [Oy];refine CB func91 c91 fun E hE=>?_
       simp [p91];refine CLa d1 ?_;simp [AA,he,h2,w1,h3];refine AL [(12,0),(14,0)] (by kernel_rfl) ?_;simp [AA,w1,w2,inC,Nat.testBit];apply RZ;simp [results91]
 . rw [if_neg he]
   simp only [Oy];refine CB func91 c91 fun E hE=>?_
   simp [p91];refine CLa d1 ?_;simp [AA,he];apply RZ;simp [results91]
def mhS (s:Shp) (l:Leg):Int × Int:=(min s.hl (s.hl+l.ul),max s.hh (s.hh+l.uh))
def DY (r:Rig) (l:Leg):Int × Int:=(Ja (l.bl,l.bh) (r.gl,r.gh) (100,100)).1
def Cj (k:Sky) (r:Rig) (s:Shp) (l:Leg):Shp:=
 {s with
   xl:=s.xl+6*(l.axl+(Jr k.w (mhS s l)).1),xh:=s.xh+6*(l.axh+(Jr k.w (mhS s l)).2)
   yl:=s.yl+6*(l.ayl+(Js k.w (mhS s l)).1),yh:=s.yh+6*(l.ayh+(Js k.w (mhS s l)).2)
   hl:=s.hl+l.ul,hh:=s.hh+l.uh
   fl:=s.fl-l.bh,fh:=s.fh-l.bl
   wl:=min (s.wl+(DY r l).1) r.tank,wh:=min (s.wh+(DY r l).2) r.tank
   bl:=s.bl+l.bl,bh:=s.bh+l.bh
   gas:=tkQ s.gas}
def KG (s n:Shp):Shp:={n with fh:=s.fh,wl:=min s.wl n.wl,wh:=max s.wh n.wh}
def sqN (a b:Int):Int:=max (max 0 a) (-b)*max (max 0 a) (-b)
def sqF (a b:Int):Int:=max (-a) b*max (-a) b
def Nz (xl xh yl yh:Int):(Int × Int) × Int:=LB (sqN xl xh+sqN yl yh,sqF xl xh+sqF yl yh)
def N1 (l:Leg):Int × Int:=(Nz l.axl l.axh l.ayl l.ayh).1
def UC (n:Shp):Bool:=spB (-10000000) 10000000 n.xl n.xh&&spB (-10000000) 10000000 n.yl n.yh
def ER (k:Sky) (r:Rig) (s:Shp) (l:Leg):Int × Int:=
 if (mhS s l).1<r.lo then (1,0) else if r.hi<(mhS s l).2 then (2,0)
 else if 0<=ixF (EK (atA k.s (mhS s l).1 (mhS s l).2).1) (tkQ s.gas).cs then (3,ixF (EK (atA k.s (mhS s l).1 (mhS s l).2).1) (tkQ s.gas).cs)
 else if s.fl-l.bh<r.rsv then (4,0)
 else if Il r.reg (N1 l) (hvS (KG s (Cj k r s l)) (atA k.s (mhS s l).1 (mhS s l).2).1)=false then (5,0)
 else if UC (Cj k r s l)=false then (6,0) else (0,0)
def HK (k:Sky) (r:Rig) (s:Shp) (l:Leg):Except (Int × Int × Int) Shp:=
 if (ER k r s l).1=0 then (if 1000000000000<s.bh+l.bh then .error (9,0,0) else .ok (Cj k r s l)) else .error (54,ER k r s l)
theorem jY (cs:List Cel):heS (cs.map tkC)+(cs.map fun c=>BQ c (tkN c)).sum=heS cs:=by
 unfold heS;induction cs with
 | nil=>simp
 | cons c r ih=>
   have e:(tkC c).he=c.he-BQ c (tkN c):=rfl;simp only [List.map_cons,List.sum_cons];rw [e];omega
theorem jZ (cs:List Cel):aiS (cs.map tkC)+(cs.map fun c=>tkN c-BQ c (tkN c)).sum=aiS cs:=by
 unfold aiS;induction cs with
 | nil=>simp
 | cons c r ih=>
   have e:(tkC c).ai=c.ai-(tkN c-BQ c (tkN c)):=rfl;simp only [List.map_cons,List.sum_cons];rw [e];omega
theorem ja {c:Cel} (h:B5 c):B5 (tkC c):=by
 have h1:=SY h;have h2:=h.he;have h3:=h.ai;have h4:=cY h;unfold tkC I0;refine ⟨h.rm,by simp only;omega,by simp only;omega,h.w,h.lk,by simp only;omega⟩
theorem jb {l:List Cel} (h:∀ c∈l,B5 c):0<=heS l/\0<=aiS l:=by
 unfold heS aiS;induction l with
 | nil=>simp
 | cons c r ih=>
   have h1:=(h c (by simp)).he;have h2:=(h c (by simp)).ai;have:=ih fun x hx=>h x (by simp [hx])
   simp only [List.map_cons,List.sum_cons];omega
theorem Wl {p:Plt} (h:Ar p=true):p.bt+p.vh+p.lh+p.ph+heS p.cs=p.ih/\p.va+p.la+p.pa+aiS p.cs=p.ia:=by
 unfold Ar at h;simp only [Bool.and_eq_true,decide_eq_true_eq] at h;exact h.2
theorem Wm {p:Plt} (h:Ar p=true):0<=p.bt/\p.bt<=10000000:=by
 unfold Ar IR at h;simp only [Bool.and_eq_true] at h;have:=h.1.1.1.2;simp [rgB] at this;omega
theorem P4 {p:Plt} (h1:p.cs.length<=12) (h2:0<=p.bt/\p.bt<=10000000) (h3:∀ c∈p.cs,B5 c) (h4:p.bt+p.vh+p.lh+p.ph+heS p.cs=p.ih/\p.va+p.la+p.pa+aiS p.cs=p.ia) (hp:(0<=p.vh/\0<=p.va)/\(0<=p.lh/\0<=p.la)/\0<=p.ph/\0<=p.pa) (h5:p.ih<=1000000000000/\p.ia<=1000000000000):Ar p=true:=by
 have h6:=jb h3;unfold Ar IR;simp only [Bool.and_eq_true,decide_eq_true_eq];refine ⟨⟨⟨⟨h1,by simp [rgB];omega⟩,?_⟩,List.all_eq_true.2 fun c hc=>Dm.2 (h3 c hc)⟩,h4⟩;unfold Li bkB rgB;simp;omega
theorem Md {p:Plt} (h:Ar p=true):Ar (tkQ p)=true:=by
 have hl:=CS h;have hc:=Dx h;have he:=Wl h;have hb:=Wm h;obtain ⟨b1,b2,b3,b4,b5,b6,b7,b8⟩:=K9 (K7 h);have k1:=jY p.cs;have k2:=jZ p.cs;have k3:=SZ hc p.cs.length (Nat.le_refl _);have e1:tkH p.cs p.cs.length=(p.cs.map fun c=>BQ c (tkN c)).sum:=by unfold tkH;rw [List.take_length]
 have e2:tkA p.cs p.cs.length=(p.cs.map fun c=>tkN c-BQ c (tkN c)).sum:=by unfold tkA;rw [List.take_length]
 refine P4 (by simpa [tkQ] using hl) hb (fun c hcc=>?_) ?_ ?_ ?_
 . simp only [tkQ,List.mem_map] at hcc
   obtain ⟨x,hx,rfl⟩:=hcc;exact ja (hc x hx)
 . simp only [tkQ,tkP];omega
 . simp only [tkQ,tkP];omega
 . simp only [tkQ,tkP];omega
theorem GJ {x y:Int} (hx:0<=x/\x<=1000000) (hy:0<=y/\y<=120):Eg x y 100=(x*y/100,(x*y+99)/100):=by
 have h1:0<=x*y:=Int.mul_nonneg hx.1 hy.1;have h2:x*y<=1000000*120:=Int.mul_le_mul hx.2 hy.2 hy.1 (by omega);unfold Eg;rw [show max x (-x)=x by omega,show max y (-y)=y by omega,decide_eq_false (by omega:¬ x<0),decide_eq_false (by omega:¬ y<0)];unfold Da upS
 generalize x*y=z at*
 rw [if_pos (show z/100<2199023255552 by omega)];simp only [bne_self_eq_false,Bool.false_eq_true,if_false];refine Prod.ext rfl ?_
 show (if 0<z%100 then z/100+1 else z/100)=(z+99)/100
 split<;>omega
theorem Me {r:Rig} {l:Leg} (hl:0<=l.bl/\l.bl<=l.bh/\l.bh<=1000000) (hr:0<=r.gl/\r.gl<=r.gh/\r.gh<=120):Ja (l.bl,l.bh) (r.gl,r.gh) (100,100)=((l.bl*r.gl/100,(l.bh*r.gh+99)/100),0):=by
 have o1:okS (l.bl,l.bh)=true:=CT.2 (by simp only;omega);have o2:okS (r.gl,r.gh)=true:=CT.2 (by simp only;omega);have o3:okS (100,100)=true:=by decide
 have p0:0<=l.bl*r.gl:=Int.mul_nonneg (by omega) (by omega);have p1:l.bl*r.gl<=l.bh*r.gl:=Int.mul_le_mul_of_nonneg_right (by omega) (by omega);have p2:l.bl*r.gl<=l.bl*r.gh:=Int.mul_le_mul_of_nonneg_left (by omega) (by omega);have p3:l.bh*r.gl<=l.bh*r.gh:=Int.mul_le_mul_of_nonneg_left (by omega) (by omega);have p4:l.bl*r.gh<=l.bh*r.gh:=Int.mul_le_mul_of_nonneg_right (by omega) (by omega);have p5:l.bh*r.gh<=1000000*120:=Int.mul_le_mul (by omega) (by omega) (by omega) (by omega);unfold Ja;rw [o1,o2,o3];simp only [Bool.and_self,if_true,show ¬ (100:Int)<1 by omega,if_false];unfold Lx HO ALK Xa;simp only [List.foldl_cons,List.foldl_nil,show ¬ ((0:Nat)%2=1) by decide,show ((1:Nat)%2=1) by decide,if_true,if_false,ite_self];rw [GJ (by omega) (by omega),GJ (by omega) (by omega),GJ (by omega) (by omega),GJ (by omega) (by omega)];simp only;unfold JH
 generalize l.bl*r.gl=a at*
 generalize l.bh*r.gl=b at*
 generalize l.bl*r.gh=c at*
 generalize l.bh*r.gh=d at*
 rw [if_neg (by simp only;omega)];simp only [Prod.mk.injEq,and_true];omega
structure P5 (r:Rig):Prop where
 g:0<=r.gl/\r.gl<=r.gh/\r.gh<=120
 t:0<=r.tank/\r.tank<=1000000000
 v:0<=r.rsv/\r.rsv<=1000000000
 h: -500<=r.lo/\r.lo<=r.hi/\r.hi<=9000
 r:C7 r.reg=true
theorem Hy {r:Rig} (h:CF r=true):P5 r:=by
 unfold CF at h;simp only [Bool.and_eq_true,CC] at h;obtain ⟨⟨⟨h1,h2⟩,h3⟩,h4⟩:=h;simp [rgB] at h2;exact ⟨h1,by omega,by omega,h3,h4⟩
structure Wn (l:Leg):Prop where
 m:1<=l.m/\l.m<=600
 x: -1000<=l.axl/\l.axl<=l.axh/\l.axh<=1000
 y: -1000<=l.ayl/\l.ayl<=l.ayh/\l.ayh<=1000
 u: -300<=l.ul/\l.ul<=l.uh/\l.uh<=300
 b:0<=l.bl/\l.bl<=l.bh/\l.bh<=1000000
theorem Mf {l:Leg} (h:BE l=true):Wn l:=by
 have hm:=AL0 h;unfold BE at h;simp only [Bool.and_eq_true,CC] at h;exact ⟨hm,h.1.1.1.1.1.2.1,h.1.1.1.1.1.2.2,h.1.1.1.1.2,h.1.1.1.2⟩
structure mU (s:Shp):Prop where
 x: -10000000<=s.xl/\s.xl<=s.xh/\s.xh<=10000000
 y: -10000000<=s.yl/\s.yl<=s.yh/\s.yh<=10000000
 b:0<=s.bl/\s.bl<=s.bh/\s.bh<=1000000000000
 p:0<=s.drp/\s.drp<=1000000000000
theorem AAb {s:Shp} (h:A6 s=true):mU s:=by
 have hn:=MF h;unfold A6 at h;simp only [Bool.and_eq_true,CC] at h;exact ⟨h.1.1.1.1.1.1.1,h.1.1.1.1.1.1.2,h.1.1.1.2,hn.2⟩
theorem KH {s:Shp} (hb:VU s) (hx:mU s) (hg:Ar s.gas=true):A6 s=true:=by
 have h1:=hb.d;have h2:=hb.b;have h3:=hx.p;unfold A6;simp only [Bool.and_eq_true,CC];exact ⟨⟨⟨⟨⟨⟨⟨hx.x,hx.y⟩,hb.h⟩,hb.f,hb.w⟩,hx.b⟩,by simp [rgB];omega⟩,by simp [rgB];omega⟩,hg⟩
structure KI (k:Sky) (r:Rig) (s:Shp) (l:Leg):Prop where
 lo:r.lo<=(mhS s l).1
 hi:(mhS s l).2<=r.hi
 fit:∀ c∈(tkQ s.gas).cs,Lh c (atA k.s (mhS s l).1 (mhS s l).2).1=1
 rsv:r.rsv<=s.fl-l.bh
 trim:Il r.reg (N1 l) (hvS (KG s (Cj k r s l)) (atA k.s (mhS s l).1 (mhS s l).2).1)=true
 far:UC (Cj k r s l)=true
 full:s.bh+l.bh<=1000000000000
theorem Si {a:Atm} {cs:List Cel}:¬ 0<=ixF (EK a) cs↔∀ c∈cs,Lh c a=1:=by
 have h:=IZ (EK a) cs;by_cases h0:0<=ixF (EK a) cs
 . rw [decide_eq_true h0] at h
   obtain ⟨c,hc,hn⟩:=List.any_eq_true.1 h.symm;refine ⟨fun h=>absurd h0 h,fun h2=>?_⟩;have:=h2 c hc;unfold EK at hn;rw [decide_eq_true this] at hn;cases hn
 . rw [decide_eq_false h0] at h
   refine ⟨fun _ c hc=>?_,fun _=>h0⟩;have:=List.any_eq_false.1 h.symm c hc;unfold EK at this;by_cases he:Lh c a=1
   . exact he
   . rw [decide_eq_false he] at this;simp at this
theorem H2 {k:Sky} {r:Rig} {s n:Shp} {l:Leg}:HK k r s l= .ok n↔KI k r s l/\n=Cj k r s l:=by
 constructor
 . intro h
   unfold HK at h;split at h
   . rename_i he
     split at h
     . cases h
     . rename_i hf
       refine ⟨?_,(Except.ok.inj h).symm⟩;unfold ER at he;split at he
       . simp at he
       split at he
       . simp at he
       split at he
       . rename_i h3;simp at he
       split at he
       . simp at he
       split at he
       . simp at he
       split at he
       . simp at he
       rename_i h1 h2 h3 h4 h5 h6;exact ⟨by omega,by omega,Si.1 h3,by omega,by simpa using h5,by simpa using h6,by omega⟩
   . cases h
 . rintro ⟨h,rfl⟩
   have e:ER k r s l=(0,0):=by
     unfold ER;rw [if_neg (by have:=h.lo;omega),if_neg (by have:=h.hi;omega),if_neg (Si.2 h.fit),if_neg (by have:=h.rsv;omega),if_neg (by rw [h.trim];simp),if_neg (by rw [h.far];simp)]
   unfold HK;rw [e,if_pos rfl,if_neg (by have:=h.full;omega)]
def Ey (k:Sky) (r:Rig):Bool:=match k.s[0]? with
 | some x=>decide (x.h<=r.lo)&&decide (r.hi<=aj k.s)
 | none=>false
theorem jc {k:Sky} {r:Rig} (hk:BV k=true) (hr:Ey k r=true) {a b:Int} (h1:r.lo<=a) (h2:a<=b) (h3:b<=r.hi):yg k.s a b:=by
 unfold BV at hk;simp only [Bool.and_eq_true,decide_eq_true_eq] at hk
 have ho:OkS k.s:=by
   refine B8.1 ?_;have:=hk.1;unfold D3 at this;by_cases h:GC k.s=true
   . exact h
   . rw [if_neg h] at this;simp at this
 have hf:=(IQ ho).1 hk.1;have hl:=ho.len;obtain ⟨x,hx⟩:∃ x,k.s[0]?= some x:=⟨_,List.getElem?_eq_getElem (by omega)⟩
 obtain ⟨y,hy⟩:∃ y,k.s[k.s.length-1]?= some y:=⟨_,List.getElem?_eq_getElem (by omega)⟩
 unfold Ey aj at hr;rw [hx,hy] at hr;simp only [Bool.and_eq_true,decide_eq_true_eq] at hr;exact ACP ho hf h2 (NU hx hy (by omega) (by omega)) (NU hx hy (by omega) (by omega))
theorem mV {k:Sky} (hk:BV k=true):OkW k.w:=by
 unfold BV at hk;simp only [Bool.and_eq_true] at hk;exact L0 hk.2
theorem jd {s:Shp} {l:Leg} (hs:VU s) (hl:Wn l):(mhS s l).1<=(mhS s l).2:=by
 have h1:=hs.h;have h2:=hl.u;unfold mhS;simp only;omega
theorem je {k:Sky} {r:Rig} {s:Shp} {l:Leg} (hr:P5 r) (hs:A6 s=true) (hl:Wn l) (h:KI k r s l):A6 (Cj k r s l)=true:=by
 have hb:=GT hs;have hx:=AAb hs;have b1:=hb.h;have b2:=hb.f;have b3:=hb.w;have b4:=hx.b;have g1:=hr.g;have g2:=hr.t;have g3:=hr.v;have g4:=hr.h;have l1:=hl.u;have l2:=hl.b;have m1:=h.lo;have m2:=h.hi;have m3:=h.rsv;have m4:=h.full;have hfar:=h.far;have ge:=Me l2 g1;have p0:0<=l.bl*r.gl:=Int.mul_nonneg (by omega) (by omega);have p1:l.bl*r.gl<=l.bh*r.gh:=Int.mul_le_mul (by omega) (by omega) (by omega) (by omega);unfold mhS at m1 m2;simp only at m1 m2;unfold UC at hfar;simp only [Bool.and_eq_true,CC] at hfar;have htk:=Md (CR hs);refine KH ⟨?_,?_,?_,hb.d,hb.b,CS htk,Dx htk⟩ ⟨hfar.1,hfar.2,?_,hx.p⟩ htk
 . unfold Cj;simp only;omega
 . unfold Cj;simp only;omega
 . unfold Cj DY;rw [ge];simp only;omega
 . unfold Cj;simp only;omega
structure dI (s t:Shp):Prop where
 x:WB (s.xl,s.xh) (t.xl,t.xh)
 y:WB (s.yl,s.yh) (t.yl,t.yh)
 h:WB (s.hl,s.hh) (t.hl,t.hh)
 f:WB (s.fl,s.fh) (t.fl,t.fh)
 w:WB (s.wl,s.wh) (t.wl,t.wh)
 b:WB (s.bl,s.bh) (t.bl,t.bh)
 dry:s.dry=t.dry
 bal:s.bal=t.bal
 drp:s.drp=t.drp
 gas:s.gas=t.gas
structure Wid (a b:Rig):Prop where
 reg:a.reg=b.reg
 gl:a.gl=b.gl
 gh:a.gh=b.gh
 tank:a.tank=b.tank
 rsv:a.rsv<=b.rsv
 lo:a.lo<=b.lo
 hi:b.hi<=a.hi
def BN:Nat->List Leg->List (Nat × Nat)
 | _,[]=>[]
 | i,x::r=>(List.range x.m.toNat).map (fun m=>(i,m))++BN (i+1) r
abbrev Evt:=Int × Int × Int × Int
def ev0:Evt:=(0,0,0,0)
def FA (k:Sky) (r:Rig) (x:Leg) (m:Nat) (s:Shp):Except (Int × Int × Int) Shp:=
 if m=0 then match Ep s x with
   | .ok t=>HK k r t x
   | .error e=> .error (e,0,0)
 else HK k r s x
def FC (i m:Nat) (e:Int × Int × Int):Int × Evt:=(e.1,if e.1=54 then (e.2.1,i,m,e.2.2) else ev0)
def Dt (k:Sky) (r:Rig) (l:List Leg):List (Nat × Nat)->Shp->Except (Int × Evt) (List Shp)
 | [],_=> .ok []
 | (i,m)::rest,s=>match l[i]? with
   | none=> .error (0,ev0)
   | some x=>match FA k r x m s with
     | .error e=> .error (FC i m e)
     | .ok n=>match Dt k r l rest n with
       | .error e=> .error e
       | .ok ns=> .ok (n::ns)
def JC (k:Sky) (r:Rig) (s:Shp) (le:Int):Int:=
 if BV k then (if CF r then (if A6 s then (if le=0 then (if Ey k r then 0 else 2) else le) else 52) else 51) else 50
def HA (k:Sky) (r:Rig) (s:Shp) (l:List Leg):Except (Int × Evt) (List Shp):=
 if JC k r s (C0 l)=0 then Dt k r l (BN 0 l) s else .error (JC k r s (C0 l),ev0)
def cC (k:Sky) (r:Rig) (s:Shp) (x:Leg):Except (Int × Int × Int) Shp:=
 if JC k r s (if BE x then 0 else 53)=0 then HK k r s x else .error (JC k r s (if BE x then 0 else 53),0,0)
theorem zn:∀ {l:List Leg} {i:Nat} {p:Nat × Nat},p∈BN i l->∃ x,i<=p.1/\l[p.1-i]?= some x/\(p.2:Int)<x.m
 | [],i,p,h=>by simp [BN] at h
 | y::r,i,p,h=>by
   unfold BN at h;rcases List.mem_append.1 h with h | h
   . simp only [List.mem_map,List.mem_range] at h
     obtain ⟨m,hm,rfl⟩:=h;exact ⟨y,Nat.le_refl _,by simp,by simp only;omega⟩
   . obtain ⟨x,h1,h2,h3⟩:=zn h
     refine ⟨x,by omega,?_,h3⟩;rw [show p.1-i=(p.1-(i+1))+1 by omega,List.getElem?_cons_succ];exact h2
theorem Kv:∀ {l:List Leg} {i:Nat},(∀ x∈l,BE x=true)->((BN i l).length:Int)=Cv l
 | [],i,_=>by simp [BN,Cv]
 | y::r,i,h=>by
   have h1:=AL0 (h y (by simp));have h2:=Kv (l:=r) (i:=i+1) fun x hx=>h x (by simp [hx])
   unfold Cv at h2 ⊢;unfold BN;simp only [List.length_append,List.length_map,List.length_range,List.map_cons,List.sum_cons];omega
structure Jt (p q:Plt):Prop where
 bt:q.bt=p.bt
 ih:q.ih=p.ih
 ia:q.ia=p.ia
 ph:q.ph=p.ph
 pa:q.pa=p.pa
 n:q.cs.length=p.cs.length
theorem Jt.refl (p:Plt):Jt p p:=⟨rfl,rfl,rfl,rfl,rfl,rfl⟩
theorem Jt.trans {p q r:Plt} (h:Jt p q) (g:Jt q r):Jt p r:=⟨g.bt.trans h.bt,g.ih.trans h.ih,g.ia.trans h.ia,g.ph.trans h.ph,g.pa.trans h.pa,g.n.trans h.n⟩
theorem ND {p q:Plt} (h:g7 p= .ok q):q=p:=by
 unfold g7 at h;split at h
 . exact (Except.ok.inj h).symm
 . cases h
theorem pL {p q:Plt} {a:Act} (h:doS p a= .ok q):Jt p q:=by
 unfold doS vlS mvS at h
 repeat' split at h
 all_goals first
   | (cases h;done)
   | (have e:=ND h;subst e;exact ⟨rfl,rfl,rfl,rfl,rfl,by simp [vlP]⟩)
   | (have e:=ND h;subst e;exact ⟨rfl,rfl,rfl,rfl,rfl,by simp [mvP]⟩)
   | (have e:=ND h;subst e;exact ⟨rfl,rfl,rfl,rfl,rfl,by simp [tkQ]⟩)
theorem Kw:∀ {acts:List Act} {p:Plt} {i:Nat},Ar p=true->(B7 p acts i).2.2=0->Ar (B7 p acts i).1=true/\Jt p (B7 p acts i).1
 | [],p,i,h,_=>⟨h,Jt.refl p⟩
 | a::r,p,i,h,he=>by
   unfold B7 at he ⊢;cases hd:doS p a with
   | ok q=>
     rw [hd] at he;simp only at he ⊢;have:=Kw (Zn hd) he;exact ⟨this.1,(pL hd).trans this.2⟩
   | error e=>
     rw [hd] at he;exact absurd he (Tb hd)
theorem NE {s t:Shp} {x:Leg}:Ep s x= .ok t↔((B7 s.gas x.acts 0).2.2=0/\x.dr<=s.bal/\s.drp+x.dr<=1000000000000)/\t={s with gas:=(B7 s.gas x.acts 0).1,bal:=s.bal-x.dr,drp:=s.drp+x.dr}:=by
 unfold Ep;constructor
 . intro h
   split at h
   . rename_i h1
     split at h
     . cases h
     split at h
     . cases h
     rename_i h2 h3;exact ⟨⟨h1,by omega,by omega⟩,(Except.ok.inj h).symm⟩
   . cases h
 . rintro ⟨⟨h1,h2,h3⟩,rfl⟩
   rw [if_pos h1,if_neg (by omega),if_neg (by omega)]
theorem ZC {s t:Shp} {x:Leg} (hs:A6 s=true) (hx:BE x=true) (h:Ep s x= .ok t):A6 t=true:=by
 obtain ⟨⟨h1,h2,h3⟩,rfl⟩:=NE.1 h;have hb:=GT hs;have hX:=AAb hs;have q:=Kz hx;have hp:=(Kw (CR hs) h1).1;have b1:=hb.b;have p1:=hX.p;exact KH ⟨hb.h,hb.f,hb.w,hb.d,by simp only;omega,CS hp,Dx hp⟩ ⟨hX.x,hX.y,hX.b,by simp only;omega⟩ hp
structure Va (k:Sky) (r:Rig):Prop where
 sky:BV k=true
 rig:P5 r
 rng:Ey k r=true
theorem Ib {k:Sky} {r:Rig} {x:Leg} {m:Nat} {s n:Shp}:FA k r x m s= .ok n↔∃ t,(if m=0 then Ep s x= .ok t else t=s)/\KI k r t x/\n=Cj k r t x:=by
 unfold FA;by_cases hm:m=0
 . rw [if_pos hm]
   constructor
   . intro h
     cases hb:Ep s x with
     | ok t=>rw [hb] at h;exact ⟨t,by rw [if_pos hm],H2.1 h⟩
     | error e=>rw [hb] at h;cases h
   . rintro ⟨t,h1,h2⟩
     rw [if_pos hm] at h1;rw [h1];exact H2.2 h2
 . rw [if_neg hm]
   constructor
   . intro h
     exact ⟨s,by rw [if_neg hm],H2.1 h⟩
   . rintro ⟨t,h1,h2⟩
     rw [if_neg hm] at h1;subst h1;exact H2.2 h2
theorem Ow {x:Leg} {m:Nat} {s t:Shp} (hs:A6 s=true) (hx:BE x=true) (h:if m=0 then Ep s x= .ok t else t=s):A6 t=true:=by
 by_cases hm:m=0
 . rw [if_pos hm] at h;exact ZC hs hx h
 . rw [if_neg hm] at h;subst h;exact hs
theorem Q7 {k:Sky} {r:Rig} (hT:Va k r) {x:Leg} {m:Nat} {s n:Shp} (hs:A6 s=true) (hx:BE x=true) (h:FA k r x m s= .ok n):A6 n=true:=by
 obtain ⟨t,h1,h2,rfl⟩:=Ib.1 h;exact je hT.rig (Ow hs hx h1) (Mf hx) h2
theorem dI.refl (s:Shp):dI s s:=by
 refine ⟨?_,?_,?_,?_,?_,?_,rfl,rfl,rfl,rfl⟩<;>exact ⟨Int.le_refl _,Int.le_refl _⟩
theorem Wid.refl (r:Rig):Wid r r:=⟨rfl,rfl,rfl,rfl,Int.le_refl _,Int.le_refl _,Int.le_refl _⟩
def fR:List Shp->List Shp->Prop
 | [],[]=>True
 | a::r,b::q=>dI a b/\fR r q
 | _,_=>False
theorem fR.at:∀ {a b:List Shp},fR a b->a.length=b.length/\∀ (i:Nat) (x y:Shp),a[i]?= some x->b[i]?= some y->dI x y
 | [],[],_=>⟨rfl,fun i x y h=>by simp at h⟩
 | a::r,b::q,h=>by
   obtain ⟨h1,h2⟩:=fR.at h.2;refine ⟨by simp [h1],fun i x y hx hy=>?_⟩;cases i with
   | zero=>simp at hx hy;subst hx hy;exact h.1
   | succ i=>exact h2 i x y (by simpa using hx) (by simpa using hy)
 | [],_::_,h=>h.elim
 | _::_,[],h=>h.elim
section
variable {k:Sky} {r:Rig} {l:List Leg}
theorem F5 {i m:Nat} {rest:List (Nat × Nat)} {s:Shp} {ns:List Shp}:Dt k r l ((i,m)::rest) s= .ok ns↔∃ x n q,l[i]?= some x/\FA k r x m s= .ok n/\Dt k r l rest n= .ok q/\ns=n::q:=by
 conv=>lhs;unfold Dt
 constructor
 . intro h
   split at h
   . cases h
   rename_i x hx;split at h
   . cases h
   rename_i n hn;split at h
   . cases h
   rename_i q hq;exact ⟨x,n,q,hx,hn,hq,(Except.ok.inj h).symm⟩
 . rintro ⟨x,n,q,hx,hn,hq,rfl⟩
   rw [hx];simp only;rw [hn];simp only;rw [hq]
theorem TN {s:Shp} {x:Leg} {e:Int × Int × Int} (h:HK k r s x= .error e):¬ e.1=0:=by
 unfold HK at h;split at h
 . split at h
   . cases h;decide
   . cases h
 . cases h;simp
theorem TP {s:Shp} {x:Leg} {e:Int} (h:Ep s x= .error e):¬ e=0:=by
 unfold Ep at h;split at h
 . split at h
   . cases h;decide
   split at h
   . cases h;decide
   . cases h
 . rename_i h1;cases h;exact h1
theorem fU {s:Shp} {x:Leg} {m:Nat} {e:Int × Int × Int} (h:FA k r x m s= .error e):¬ e.1=0:=by
 unfold FA at h;split at h
 . split at h
   . exact TN h
   . rename_i e' he;cases h;exact TP he
 . exact TN h
theorem NF:∀ {im:List (Nat × Nat)} {s:Shp} {e:Int × Evt},(∀ p∈im,∃ x,l[p.1]?= some x)->Dt k r l im s= .error e->¬ e.1=0/\((e.1=54/\¬ e.2.1=0/\∃ p∈im,e.2.2.1=p.1/\e.2.2.2.1=p.2)\/(¬ e.1=54/\e.2=ev0))
 | [],s,e,_,h=>by cases h
 | (i,m)::rest,s,e,hm,h=>by
   unfold Dt at h;obtain ⟨x,hx⟩:=hm (i,m) (by simp);rw [hx] at h;simp only at h;split at h
   . rename_i e' he
     cases h;have h1:=fU he;refine ⟨h1,?_⟩;unfold FC;simp only;by_cases h5:e'.1=54
     . refine .inl ⟨h5,?_,(i,m),by simp,?_,?_⟩
       . rw [if_pos h5]
         have key:∀ t:Shp,HK k r t x= .error e'->¬ e'.2.1=0:=fun t ht=>by
           unfold HK at ht;split at ht
           . split at ht
             . cases ht;simp at h5
             . cases ht
           . rename_i hz;cases ht;exact hz
         have hbeg:∀ t:Shp,∀ e:Int,Ep t x= .error e->¬ e=54:=fun t e ht=>by
           have pe:∀ {acts:List Act} {p:Plt} {i:Nat},¬ (B7 p acts i).2.2=54:=by
             intro acts;induction acts with
             | nil=>intro p i;simp [B7]
             | cons a rr ih=>
               intro p i;unfold B7;cases hd:doS p a with
               | ok q=>exact ih
               | error e=>
                 show ¬ e=54
                 unfold doS vlS mvS at hd
                 repeat' split at hd
                 all_goals first | (have:=K8 hd;omega) | (cases hd;omega)
           unfold Ep at ht;split at ht
           . split at ht
             . cases ht;decide
             split at ht
             . cases ht;decide
             . cases ht
           . cases ht;exact pe
         unfold FA at he;split at he
         . split at he
           . exact key _ he
           . rename_i e2 he2;cases he;exact absurd h5 (hbeg _ _ he2)
         . exact key _ he
       . rw [if_pos h5]
       . rw [if_pos h5]
     . exact .inr ⟨h5,by rw [if_neg h5]⟩
   . rename_i n hn
     split at h
     . rename_i e' he
       cases h;obtain ⟨h1,h2⟩:=NF (fun p hp=>hm p (by simp [hp])) he;refine ⟨h1,?_⟩;rcases h2 with ⟨h2,h3,p,hp,h4⟩ | h2
       . exact .inl ⟨h2,h3,p,by simp [hp],h4⟩
       . exact .inr h2
     . cases h
structure JD (r:Rig) (s t:Shp) (n:Nat):Prop where
 drop:t.bal+t.drp=s.bal+s.drp
 lo:t.fl+t.bh=s.fl+s.bh
 hi:t.fh+t.bl=s.fh+s.bl
 dry:t.dry=s.dry
 gas:Jt s.gas t.gas
 burn:s.bh<=t.bh
 water:100*(t.wh-s.wh)<=(t.bh-s.bh)*r.gh+99*n
theorem JD.refl (r:Rig) (s:Shp):JD r s s 0:=⟨rfl,rfl,rfl,rfl,Jt.refl _,Int.le_refl _,by simp⟩
theorem JD.trans {r:Rig} {s t u:Shp} {n m:Nat} (h:JD r s t n) (g:JD r t u m):JD r s u (n+m):=by
 obtain ⟨a1,a2,a3,a4,a5,a6,a7⟩:=h;obtain ⟨b1,b2,b3,b4,b5,b6,b7⟩:=g;refine ⟨by omega,by omega,by omega,by omega,a5.trans b5,by omega,?_⟩;have e:(u.bh-s.bh)*r.gh=(u.bh-t.bh)*r.gh+(t.bh-s.bh)*r.gh:=by rw [<-Int.add_mul];congr 1;omega
 omega
end
end Go.Proofs.Tryz
namespace Go.Air
structure LvN (a b:Lev):Prop where
 h:a.h=b.h
 pl:b.pl<=a.pl
 ph:a.ph<=b.ph
 tl:b.tl<=a.tl
 th:a.th<=b.th
def LsN:List Lev->List Lev->Prop
 | [],[]=>True
 | a::r,b::s=>LvN a b/\LsN r s
 | _,_=>False
def PrN:List Lev->List Lev->Prop
 | [],[]=>True
 | a::r,b::s=>(a.h=b.h/\b.pl<=a.pl/\a.ph<=b.ph)/\PrN r s
 | _,_=>False
theorem PrN.le:∀ {l m k:List Lev},LeL m l->PrN m k->PrN l k
 | [],[],[],_,_=>trivial
 | _::_,_::_,_::_,h,p=>⟨⟨h.1.s.1.symm.trans p.1.1,Int.le_trans p.1.2.1 h.1.lo,Int.le_trans h.1.hi p.1.2.2⟩,PrN.le h.2 p.2⟩
 | _::_,[],_,h,_=>h.elim
 | [],_::_,_,h,_=>h.elim
 | [],[],_::_,_,p=>p.elim
 | _::_,_::_,[],_,p=>p.elim
theorem LsN.at:∀ {l m:List Lev},LsN l m->l.length=m.length/\∀ (i:Nat) (a b:Lev),l[i]?= some a->m[i]?= some b->LvN a b
 | [],[],_=>⟨rfl,fun i a b h=>by simp at h⟩
 | x::r,y::s,h=>by
   obtain ⟨h1,h2⟩:=LsN.at h.2;refine ⟨by simp [h1],fun i a b ha hb=>?_⟩;cases i with
   | zero=>simp at ha hb;subst ha hb;exact h.1
   | succ i=>exact h2 i a b (by simpa using ha) (by simpa using hb)
 | [],_::_,h=>h.elim
 | _::_,[],h=>h.elim
end Go.Air
namespace Go.Proofs.Tryz
open Go.Psl
open Go.Air
structure GlN (a b:Gal):Prop where
 h:a.h=b.h
 g:a.g=b.g
 x:WB (a.xl,a.xh) (b.xl,b.xh)
 y:WB (a.yl,a.yh) (b.yl,b.yh)
def GsN:List Gal->List Gal->Prop
 | [],[]=>True
 | a::r,b::s=>GlN a b/\GsN r s
 | _,_=>False
theorem GsN.take:∀ {l m:List Gal} (n:Nat),GsN l m->GsN (l.take n) (m.take n)
 | [],[],_,_=>by simp [GsN]
 | _::_,_::_,0,_=>trivial
 | _::_,_::_,n+1,h=>⟨h.1,GsN.take n h.2⟩
 | [],_::_,_,h=>h.elim
 | _::_,[],_,h=>h.elim
theorem GsN.drop:∀ {l m:List Gal} (n:Nat),GsN l m->GsN (l.drop n) (m.drop n)
 | [],[],_,_=>by simp [GsN]
 | _::_,_::_,0,h=>h
 | _::_,_::_,n+1,h=>GsN.drop n h.2
 | [],_::_,_,h=>h.elim
 | _::_,[],_,h=>h.elim
theorem GsN.at:∀ {l m:List Gal},GsN l m->l.length=m.length/\∀ (i:Nat) (a b:Gal),l[i]?= some a->m[i]?= some b->GlN a b
 | [],[],_=>⟨rfl,fun i a b h=>by simp at h⟩
 | x::r,y::s,h=>by
   obtain ⟨h1,h2⟩:=GsN.at h.2;refine ⟨by simp [h1],fun i a b ha hb=>?_⟩;cases i with
   | zero=>simp at ha hb;subst ha hb;exact h.1
   | succ i=>exact h2 i a b (by simpa using ha) (by simpa using hb)
 | [],_::_,h=>h.elim
 | _::_,[],h=>h.elim
theorem dI.trans {a b c:Shp} (h:dI a b) (g:dI b c):dI a c:=by
 have t:∀ {p q r:Int × Int},WB p q->WB q r->WB p r:=fun h g=>⟨Int.le_trans g.1 h.1,Int.le_trans h.2 g.2⟩
 exact ⟨t h.x g.x,t h.y g.y,t h.h g.h,t h.f g.f,t h.w g.w,t h.b g.b,h.dry.trans g.dry,h.bal.trans g.bal,h.drp.trans g.drp,h.gas.trans g.gas⟩
end Go.Proofs.Tryz
namespace Go.Proofs.Tryz
open Go.Psl
open Go.Air
def toP:List Pst:=[⟨0,0⟩,⟨1000,0⟩]
def toV:List (Int × Int):=[(9990,10010),(2790,2810),(-5,5),(0,0),(8800,8900),(2790,2810),(-5,5),(0,0)]
def toK (i:Nat):List Nws:=(⟨0,1,10,10,9995,10005⟩:Nws)::(List.range i).map fun j=>⟨(j/4:Nat),(j%4+1:Nat),0,0,((toV[j]?).getD (0,0)).1,((toV[j]?).getD (0,0)).2⟩
def zeR:Rts:=⟨0,0,0⟩
def adG:List Gal:=[⟨0, -5,5,0,0,0⟩,⟨1000, -5,5,0,0,0⟩]
def adL (a b:Int):List Lev:=[⟨0,a,b,2790,2810⟩,⟨1000,8800,8900,2790,2810⟩]
theorem AQq:ALT toP zeR (toK 8) 10 0=((adL 9990 10010,adG),0):=by decide+kernel
theorem AP2:ALT toP zeR (toK 8) 10 10=((adL 9995 10005,adG),0):=by decide+kernel
def plReg:List (Int × Int):=[(0,0),(1000,0)]
def plR (lo hi:Int):Rig:=⟨plReg,0,0,0,0,lo,hi⟩
theorem AP3:Fb plReg=plReg:=by
 rw [bf (m:=[(0,0),(1000,0)]) (by decide+kernel) (by decide+kernel)];decide+kernel
theorem APB:C7 plReg=true:=by
 unfold C7;rw [AP3];decide+kernel
theorem ASb {lo hi:Int} (h: -500<=lo/\lo<=hi/\hi<=9000):CF (plR lo hi)=true:=by
 unfold CF;rw [show (plR lo hi).reg=plReg from rfl,APB];simp only [Bool.and_eq_true,CC,plR];simp [rgB];omega
def nuP:Plt:=⟨[],0,0,0,0,0,0,0,0,0⟩
def nuS (xl xh h:Int):Shp:=⟨xl,xh,0,0,h,h,0,0,0,0,0,0,0,0,0,nuP⟩
def nuL (m v:Int):Leg:=⟨m,v,v,0,0,0,0,0,0,0,[]⟩
theorem AQr:BV ⟨adL 9990 10010,adG⟩=true:=by decide+kernel
theorem AP4:A6 (nuS 0 0 100)=true:=by decide+kernel
theorem AN4 (s h:Int × Int) (hh:(okC (s.1,h.1)&&Lj plReg (s.1,h.1))&&(okC (s.1,h.2)&&Lj plReg (s.1,h.2))&&(okC (s.2,h.1)&&Lj plReg (s.2,h.1))&&(okC (s.2,h.2)&&Lj plReg (s.2,h.2))=true):Il plReg s h=true:=by
 unfold Il inV;rw [APB];simpa using hh
def adK:Sky:=⟨adL 9990 10010,adG⟩
theorem AQs:Ep (nuS 0 0 100) (nuL 2 100)= .ok (nuS 0 0 100):=NE.2 ⟨by decide+kernel,by kernel_rfl⟩
theorem AP5:KI adK (plR 0 1000) (nuS 0 0 100) (nuL 2 100):=⟨by decide+kernel,by decide+kernel,by decide+kernel,by decide+kernel,AN4 _ _ (by decide+kernel),by decide+kernel,by decide+kernel⟩
theorem AP6:nuS 570 630 100=Cj adK (plR 0 1000) (nuS 0 0 100) (nuL 2 100):=by kernel_rfl
theorem AP7:KI adK (plR 0 1000) (nuS 570 630 100) (nuL 2 100):=⟨by decide+kernel,by decide+kernel,by decide+kernel,by decide+kernel,AN4 _ _ (by decide+kernel),by decide+kernel,by decide+kernel⟩
theorem AP8:nuS 1140 1260 100=Cj adK (plR 0 1000) (nuS 570 630 100) (nuL 2 100):=by kernel_rfl
theorem AQt:HA adK (plR 0 1000) (nuS 0 0 100) [nuL 2 100]= .ok [nuS 570 630 100,nuS 1140 1260 100]:=by
 have h0:JC adK (plR 0 1000) (nuS 0 0 100) (C0 [nuL 2 100])=0:=by
   unfold JC;rw [show BV adK=true from AQr,ASb (by omega),AP4];decide+kernel
 unfold HA;rw [if_pos h0,show BN 0 [nuL 2 100]=[(0,0),(0,1)] from rfl];exact F5.2 ⟨nuL 2 100,nuS 570 630 100,[nuS 1140 1260 100],rfl,Ib.2 ⟨nuS 0 0 100,by rw [if_pos rfl];exact AQs,AP5,AP6⟩,F5.2 ⟨nuL 2 100,nuS 1140 1260 100,[],rfl,Ib.2 ⟨nuS 570 630 100,by rw [if_neg (by decide)],AP7,AP8⟩,rfl,rfl⟩,rfl⟩
theorem tQ:∀ {l:List Int} {i:Nat} {x y:Int},l[i]?= some x->(l.set i y).sum=l.sum-x+y
 | [],i,x,y,h=>by simp at h
 | a::l,0,x,y,h=>by simp at h;subst h;simp;omega
 | a::l,i+1,x,y,h=>by
   have:=tQ (l:=l) (i:=i) (x:=x) (y:=y) (by simpa using h);simp only [List.set_cons_succ,List.sum_cons];omega
theorem xt {cs:List Cel} {i:Nat} {c d:Cel} (h:cs[i]?= some c):heS (cs.set i d)=heS cs-c.he+d.he:=by
 unfold heS;rw [List.map_set];exact tQ (by rw [List.getElem?_map,h];rfl)
theorem xu {cs:List Cel} {i:Nat} {c d:Cel} (h:cs[i]?= some c):aiS (cs.set i d)=aiS cs-c.ai+d.ai:=by
 unfold aiS;rw [List.map_set];exact tQ (by rw [List.getElem?_map,h];rfl)
theorem xv {c:Cel} {n:Int} (h:B5 c) (h0:0<=n) (h1:n<=am c):B5 (I0 c n):=by
 have q1:=h.he;have q2:=h.ai;have:=KE q1.1 q2.1 h0 h1;unfold I0;exact ⟨h.rm,by simp only;omega,by simp only;omega,h.w,h.lk,h.ow⟩
theorem ALE {c:Cel} {n:Int}:am (I0 c n)=am c-n:=by unfold am I0;simp only;omega
theorem ALF {p:Plt} {a:Act} {c:Cel} (h:Ar p=true) (hc:p.cs[a.c.toNat]?= some c) (h0:0<=a.n) (h1:a.n<=am c):Ar (vlP p a c)=true:=by
 have hl:=CS h;have hcs:=Dx h;have he:=Wl h;have hb:=Wm h;have hcb:=hcs c (List.mem_of_getElem? hc);have q1:=hcb.he;have q2:=hcb.ai;have ho:=KE q1.1 q2.1 h0 h1;obtain ⟨b1,b2,b3,b4,b5,b6,b7,b8⟩:=K9 (K7 h);refine P4 (by simpa [vlP] using hl) hb (fun d hd=>?_) ?_ ?_ ?_
 . simp only [vlP] at hd
   rcases List.mem_or_eq_of_mem_set hd with hd | rfl
   . exact hcs d hd
   . exact xv hcb h0 h1
 . simp only [vlP]
   rw [xt hc,xu hc];unfold I0;simp only;omega
 . simp only [vlP];omega
 . simp only [vlP];omega
structure VlA (p:Plt) (l:List Act):Prop where
 one:∀ a∈l,a.k=3/\0<=a.c/\(1<=a.n/\a.n<=10000000)/\∃ c,p.cs[a.c.toNat]?= some c/\a.n<=am c
 inc:l.Pairwise fun a b=>a.c<b.c
theorem AJa:∀ {l:List Act} {p:Plt} {i:Nat},Ar p=true->VlA p l->∃ q,B7 p l i=(q,0,0)/\Ar q=true/\q.cs.length=p.cs.length/\∀ (j:Nat) (c:Cel),p.cs[j]?= some c->q.cs[j]?= some (match l.find? (fun a=>decide (a.c=(j:Int))) with | some a=>I0 c a.n | none=>c)
 | [],p,i,h,_=>⟨p,rfl,h,rfl,fun j c hc=>hc⟩
 | a::l,p,i,h,hv=>by
   obtain ⟨hk,h0,hn,c,hc,hnc⟩:=hv.one a (by simp);have hil:=(List.getElem?_eq_some_iff.1 hc).1;have hin:inA p.cs.length a=true:=EQ.2 ⟨by omega,hn⟩;have hok:=ALF h hc (by omega) hnc
   have e:doS p a= .ok (vlP p a c):=by
     unfold doS;rw [if_pos h,if_pos hk];unfold vlS;rw [hin,if_pos rfl,hc];simp only;rw [if_pos (show a.n<=c.he+c.ai from hnc)];unfold g7;rw [if_pos hok]
   have hp:=List.pairwise_cons.1 hv.inc
   have hv2:VlA (vlP p a c) l:=by
     refine ⟨fun b hb=>?_,hp.2⟩;obtain ⟨g1,g2,g3,d,g4,g5⟩:=hv.one b (by simp [hb]);refine ⟨g1,g2,g3,d,?_,g5⟩;have:=hp.1 b hb;simp only [vlP];rw [List.getElem?_set_ne (by omega)];exact g4
   obtain ⟨q,q1,q2,q3,q4⟩:=AJa (i:=i+1) hok hv2;refine ⟨q,?_,q2,by rw [q3];simp [vlP],fun j d hd=>?_⟩
   . unfold B7;rw [e];exact q1
   . by_cases hj:a.c=j
     . have hj2:a.c.toNat=j:=by omega
       rw [hj2] at hc;rw [hc] at hd;cases hd
       have h2:(vlP p a c).cs[j]?= some (I0 c a.n):=by
         simp only [vlP];rw [hj2,List.getElem?_set_self (by omega)]
       have:=q4 j _ h2;rw [this]
       have hf:l.find? (fun b=>decide (b.c=(j:Int)))=none:=by
         rw [List.find?_eq_none];intro b hb;have:=hp.1 b hb;simp;omega
       rw [hf,List.find?_cons_of_pos (by simpa using hj)]
     . have h2:(vlP p a c).cs[j]?= some d:=by
         simp only [vlP];rw [List.getElem?_set_ne (by omega)];exact hd
       have:=q4 j _ h2;rw [this,List.find?_cons_of_neg (by simpa using hj)]
theorem AKP {c:Cel} {a:Atm} (hc:B5 c) (ha:Fx a):Lh c a=1↔am c<=fl (c.rm*a.pl) (a.th+c.wh):=by
 have t:=ha.t;have w:=hc.w;unfold Lh fl;rw [Int.le_ediv_iff_mul_le (by omega)];constructor
 . intro h
   split at h
   . assumption
   . split at h<;>omega
 . intro h;rw [if_pos h]
theorem AJb {c:Cel} {a:Atm} (hc:B5 c) (ha:Fx a):(0<(Pe c a).2↔¬ Lh c a=1)/\0<=(Pe c a).2/\(Pe c a).2<=am c:=by
 have h:=AKP hc ha;have p:=ha.p;have t:=ha.t;have w:=hc.w;have r:=hc.rm;have h2:0<=fl (c.rm*a.pl) (a.th+c.wh):=Int.ediv_nonneg (Int.mul_nonneg (by omega) (by omega)) (by omega);have h3:=(ig hc).1;rw [h];unfold Pe;simp only;omega
theorem AJ4 {c:Cel} {a:Atm} (hc:B5 c) (ha:Fx a) (hv:0<(Pe c a).2) {n:Int} (h0:0<=n) (h1:n<=am c):Lh (I0 c n) a=1↔(Pe c a).2<=n:=by
 rw [AKP (xv hc h0 h1) ha,ALE];have e:fl ((I0 c n).rm*a.pl) (a.th+(I0 c n).wh)=fl (c.rm*a.pl) (a.th+c.wh):=rfl;rw [e];unfold Pe at hv ⊢;simp only at hv ⊢;omega
theorem ADH {a:Atm} {l:List Cel} {x:Act}:∀ {i:Nat},x∈vnK a l i->∃ j,j<i/\∃ c,l[j]?= some c/\0<(Pe c a).2/\x=⟨3,j,0,(Pe c a).2⟩
 | 0,h=>by simp [vnK] at h
 | i+1,h=>by
   unfold vnK at h;rcases List.mem_append.1 h with h | h
   . obtain ⟨j,h1,h2⟩:=ADH h
     exact ⟨j,by omega,h2⟩
   . split at h
     . next c hc=>
       split at h
       . next hp=>
         simp only [List.mem_singleton] at h;exact ⟨i,by omega,c,hc,hp,h⟩
       . simp at h
     . simp at h
theorem AJM {a:Atm} {l:List Cel}:∀ i,(vnK a l i).Pairwise fun x y=>x.c<y.c
 | 0=>List.Pairwise.nil
 | i+1=>by
   unfold vnK;refine List.pairwise_append.2 ⟨AJM i,?_,?_⟩
   . split
     . split<;>simp
     . simp
   . intro x hx y hy
     obtain ⟨j,h1,_,_,_,rfl⟩:=ADH hx;split at hy
     . split at hy
       . simp only [List.mem_singleton] at hy
         subst hy
         show (j:Int)<i
         omega
       . simp at hy
     . simp at hy
theorem AJY {a:Atm} {l:List Cel} {j:Nat} {c:Cel} (hc:l[j]?= some c) (hp:0<(Pe c a).2):∀ {i:Nat},j<i->(⟨3,j,0,(Pe c a).2⟩:Act)∈vnK a l i
 | 0,h=>by omega
 | i+1,h=>by
   unfold vnK;refine List.mem_append.2 ?_;by_cases e:j=i
   . subst e
     right;rw [hc];simp only;rw [if_pos hp];simp
   . exact .inl (AJY hc hp (by omega))
theorem AKL {l:List Act} {y:Act} (h:l.Pairwise fun x y=>x.c<y.c) (hy:y∈l):l.find? (fun x=>decide (x.c=y.c))=some y:=by
 induction l with
 | nil=>simp at hy
 | cons b l ih=>
   obtain ⟨h1,h2⟩:=List.pairwise_cons.1 h;rcases List.mem_cons.1 hy with rfl | hm
   . rw [List.find?_cons_of_pos (by simp)]
   . rw [List.find?_cons_of_neg (by have:=h1 y hm;simp;omega)]
     exact ih h2 hm
theorem AK9 {l:List Act} {c:Int} (h:∀ x∈l,¬ x.c=c):l.find? (fun x=>decide (x.c=c))=none:=by
 rw [List.find?_eq_none];intro x hx;simpa using h x hx
theorem ALG {k:Sky} {s:Shp} {u v:Int} (h:(vnA k s u v).2=0):M2 k s=0/\(atA k.s u v).2=0/\(vnA k s u v).1=vnK (atA k.s u v).1 s.gas.cs s.gas.cs.length:=by
 unfold vnA at h ⊢;by_cases ha:M2 k s=0
 . rw [if_pos ha] at h ⊢
   by_cases he:(atA k.s u v).2=0
   . rw [if_pos he];exact ⟨ha,he,rfl⟩
   . rw [if_neg he] at h;exact absurd h he
 . rw [if_neg ha] at h;exact absurd h ha
theorem AKs {p:Plt} {a:Atm} (hp:Ar p=true) (ha:Fx a) (hn:∀ x∈vnK a p.cs p.cs.length,x.n<=10000000):VlA p (vnK a p.cs p.cs.length):=by
 refine ⟨fun x hx=>?_,AJM _⟩;have h:=hn x hx;obtain ⟨j,hj,c,hc,hpos,rfl⟩:=ADH hx;have hv:=(AJb (Dx hp c (List.mem_of_getElem? hc)) ha).2.2;refine ⟨rfl,?_,⟨?_,h⟩,c,?_,hv⟩
 . show (0:Int)<=j;omega
 . show 1<=(Pe c a).2;omega
 . show p.cs[(j:Int).toNat]?= some c
   rw [Int.toNat_natCast];exact hc
theorem AKt {p:Plt} {a:Atm} (hp:Ar p=true) (ha:Fx a) (hn:∀ x∈vnK a p.cs p.cs.length,x.n<=10000000):∃ q,B7 p (vnK a p.cs p.cs.length) 0=(q,0,0)/\Ar q=true/\q.cs.length=p.cs.length/\∀ c∈q.cs,Lh c a=1:=by
 obtain ⟨q,h1,h2,h3,h4⟩:=AJa (i:=0) hp (AKs hp ha hn);refine ⟨q,h1,h2,h3,fun d hd=>?_⟩;obtain ⟨j,hj,hd'⟩:=List.getElem_of_mem hd;have hjp:j<p.cs.length:=by omega
 obtain ⟨c,hc⟩:=gE hjp;have hcb:=Dx hp c (List.mem_of_getElem? hc);have h5:=h4 j c hc;rw [List.getElem?_eq_getElem hj,hd',Option.some.injEq] at h5;have hv:=AJb hcb ha;by_cases hpos:0<(Pe c a).2
 . have hm:=AJY (a:=a) hc hpos hjp
   have hf:=AKL (AJM _) hm;simp only at hf;rw [hf] at h5;rw [h5];exact (AJ4 hcb ha hpos hv.2.1 hv.2.2).2 (by omega)
 . rw [AK9 (fun x hx e=>by
     obtain ⟨j',_,c',hc',hpos',rfl⟩:=ADH hx;simp only at e;have:j'=j:=by omega
     subst this;rw [hc] at hc';cases hc';exact hpos hpos')] at h5
   rw [h5];simp only;by_cases hft:Lh c a=1
   . exact hft
   . exact absurd (hv.1.2 hft) hpos
theorem ATV {α:Type} {q:α->Bool}:∀ {l:List α} {m:Nat},m<=l.length->(∀ (i:Nat) (x:α),i<m->l[i]?= some x->q x=true)->m<=(l.takeWhile q).length
 | _,0,_,_=>Nat.zero_le _
 | [],m+1,h,_=>by simp at h
 | a::l,m+1,h,hq=>by
   rw [List.takeWhile_cons,if_pos (hq 0 a (by omega) rfl),List.length_cons];have:=ATV (l:=l) (m:=m) (by simpa using h) fun i x hi hx=>hq (i+1) x (by omega) (by simpa using hx)
   omega
theorem ATW {n m:Nat} {p:Nat->Bool} (h:m<=n) (hp:∀ i,i<m->p i=false):m<=ii n p:=by
 unfold ii;refine ATV (by simpa using h) fun i x hi hx=>?_
 have:x=i:=by
   have h1:=(List.getElem?_eq_some_iff.1 hx).2;simpa using h1.symm
 rw [this,hp i hi];rfl
theorem ATX {c:Cel} {a:Atm} (hc:B5 c) (ha:Fx a) (h:Lh c a=1):Lh (tkC c) a=1:=by
 unfold Lh at h ⊢
 have h1:am c*(a.th+c.wh)<=c.rm*a.pl:=by
   by_cases h1:am c*(a.th+c.wh)<=c.rm*a.pl
   . exact h1
   . rw [if_neg h1] at h;split at h<;>omega
 rw [if_pos];have t:=ha.t;have w:=hc.w;have k0:=hc.lk;have k1:=hc.ow;have q1:=hc.he;have q2:=hc.ai
 have hn:0<=tkN c:=by
   unfold tkN tkS;exact Int.ediv_nonneg (by have:=Int.mul_nonneg (show 0<=c.he+c.ai by omega) k0.1;omega) (by omega)
 have h2:am (tkC c)<=am c:=by
   unfold am tkC I0;simp only;omega
 have h3:am (tkC c)*(a.th+c.wh)<=am c*(a.th+c.wh):=Int.mul_le_mul_of_nonneg_right h2 (by omega)
 show am (tkC c)*(a.th+c.wh)<=c.rm*a.pl
 omega
def ex (up:Int):Leg:=⟨1,0,0,0,0,0,up,0,0,0,[]⟩
structure ATk (k:Sky) (s:Shp) (h:Int) (acts:List Act) (q:Plt):Prop where
 play:B7 s.gas acts 0=(q,0,0)
 ok:Ar q=true
 ih:q.ih=s.gas.ih
 ia:q.ia=s.gas.ia
 n:q.cs.length=s.gas.cs.length
 t0:(ey k {s with gas:=q}).2=0
 t1:h<=(ey k {s with gas:=q}).1
 okS:A6 {s with gas:=q}=true
 up:∀ up:Int,0<=up->up<=255->s.hh+up<=h->∀ lo hi:Int,(∀ x,k.s[0]?= some x->lo=x.h)->(∀ x,k.s[k.s.length-1]?= some x->hi=x.h)->
   (∃ e,cC k (plR lo hi) {s with gas:=q} (ex up)= .error (54,e)/\¬ e.1=1/\¬ e.1=2/\¬ e.1=3)\/(∃ n,cC k (plR lo hi) {s with gas:=q} (ex up)= .ok n/\A6 n=true/\Ar n.gas=true/\n.gas.ih=s.gas.ih/\n.gas.ia=s.gas.ia/\n.hl=s.hl/\n.hh=s.hh+up)
theorem ATJ {k:Sky} {s:Shp} {h:Int} (hh:s.hh<=h) (he:(vnA k s s.hl h).2=0) (hn:∀ x∈(vnA k s s.hl h).1,x.n<=10000000):∃ q,ATk k s h (vnA k s s.hl h).1 q:=by
 obtain ⟨k1,k2,k3⟩:=ALG he;obtain ⟨hk,hs⟩:=Yg k1;have hat:=qD k2;have ha:=aU hat;have hp:=CR hs;have sB:=GT hs;have sX:=AAb hs;rw [k3] at hn ⊢;obtain ⟨q,h1,h2,h3,h4⟩:=AKt hp ha hn;have hR:=Kw (acts:=vnK (atA k.s s.hl h).1 s.gas.cs s.gas.cs.length) (i:=0) hp (by rw [h1]);rw [h1] at hR;have hR:=hR.2;have hS:A6 {s with gas:=q}=true:=KH ⟨sB.h,sB.f,sB.w,sB.d,sB.b,CS h2,Dx h2⟩ ⟨sX.x,sX.y,sX.b,sX.p⟩ h2;have hh0:=sB.h;have hfit:∀ c:Int,s.hl<=c->c<=h->∀ d∈q.cs,Lh d (atA k.s s.hl c).1=1:=fun c c1 c2 d hd=>ATG c1 c2 hat (Dx h2 d hd) (h4 d hd)
 have hsub:∀ c:Int,s.hl<=c->c<=h->yg k.s s.hl c:=fun c c1 c2=>(ABt (Int.le_refl _) c1 c2 hat).1
 have hlen:=hat.ok.len;obtain ⟨x0,hx0⟩:∃ x,k.s[0]?= some x:=⟨_,List.getElem?_eq_getElem (by omega)⟩
 obtain ⟨y0,hy0⟩:∃ x,k.s[k.s.length-1]?= some x:=⟨_,List.getElem?_eq_getElem (by omega)⟩
 have b1:=hat.ina.1 x0 hx0;have b2:=hat.inb.2 y0 hy0;have hx0b:=hat.ok.at' x0 (List.mem_of_getElem? hx0);have hy0b:=hat.ok.at' y0 (List.mem_of_getElem? hy0);have elast:aj k.s=y0.h:=by unfold aj;rw [hy0]
 have hask:M2 k {s with gas:=q}=0:=by unfold M2;rw [hk,hS];rfl
 have hz:=(hsub s.hh hh0.2.1 hh).eq;have hz0:(atA k.s s.hl s.hh).2=0:=by rw [hz]
 have hr:(h-s.hh).toNat+1<=tg k {s with gas:=q} (aj k.s-s.hh+1).toNat:=by
   unfold tg;refine ATW (by rw [elast];omega) fun i hi=>?_
   have hall:S2 {s with gas:=q} (atA k.s s.hl (s.hh+i)).1=true:=by
     unfold S2;rw [List.all_eq_true];intro d hd;exact decide_eq_true (hfit (s.hh+i) (by omega) (by omega) d hd)
   show (!S2 {s with gas:=q} (atA k.s s.hl (s.hh+i)).1)=false
   rw [hall];rfl
 have ht:ey k {s with gas:=q}=(s.hh+tg k {s with gas:=q} (aj k.s-s.hh+1).toNat-1,0):=by
   unfold ey;rw [if_pos hask];simp only;rw [if_pos hz0,if_neg (by omega)]
 refine ⟨q,h1,h2,hR.ih,hR.ia,h3,by rw [ht],by rw [ht];simp only;omega,hS,fun up u0 u1 u2 lo hi hlo hhi=>?_⟩;have hlo:=hlo x0 hx0;have hhi:=hhi y0 hy0;have hrig:CF (plR lo hi)=true:=ASb (by omega)
 have hleg:BE (ex up)=true:=by
   unfold BE;simp only [Bool.and_eq_true,CC,ex];simp [rgB];omega
 have hrng:Ey k (plR lo hi)=true:=by
   unfold Ey;rw [hx0,elast]
   show (decide (x0.h<=lo)&&decide (hi<=y0.h))=true
   rw [decide_eq_true (by omega),decide_eq_true (by omega)];rfl
 have hask2:JC k (plR lo hi) {s with gas:=q} (if BE (ex up) then 0 else 53)=0:=by
   unfold JC;rw [hk,hrig,hS,hleg,hrng];rfl
 have hmh:mhS {s with gas:=q} (ex up)=(s.hl,s.hh+up):=by
   show (min s.hl (s.hl+0),max s.hh (s.hh+up))=_
   simp only [Prod.mk.injEq];omega
 have e3:¬ 0<=ixF (EK (atA k.s s.hl (s.hh+up)).1) (tkQ q).cs:=Si.2 fun c hc=>by
   obtain ⟨d,hd,rfl⟩:=List.mem_map.1 (show c∈q.cs.map tkC from hc);exact ATX (Dx h2 d hd) (aU (hsub _ (by omega) u2)) (hfit _ (by omega) u2 d hd)
 have hev:(ER k (plR lo hi) {s with gas:=q} (ex up)).1=0\/4<=(ER k (plR lo hi) {s with gas:=q} (ex up)).1:=by
   unfold ER;rw [hmh];simp only;rw [if_neg (by show ¬ s.hl<lo;omega),if_neg (by show ¬ hi<s.hh+up;omega),if_neg e3];split
   . right;simp
   split
   . right;simp
   split
   . right;simp
   . left;rfl
 unfold cC;rw [if_pos hask2];have sb:=sX.b;by_cases hz:(ER k (plR lo hi) {s with gas:=q} (ex up)).1=0
 . right
   have hm:HK k (plR lo hi) {s with gas:=q} (ex up)= .ok (Cj k (plR lo hi) {s with gas:=q} (ex up)):=by
     unfold HK;rw [if_pos hz,if_neg (by show ¬ (1000000000000:Int)<s.bh+0;omega)]
   obtain ⟨hmo,_⟩:=H2.1 hm;have hmok:=je (Hy hrig) hS (Mf hleg) hmo;have htk:=Md h2;refine ⟨_,hm,hmok,htk,?_,?_,?_,rfl⟩
   . show (tkQ q).ih=_;exact hR.ih
   . show (tkQ q).ia=_;exact hR.ia
   . show s.hl+0=s.hl;omega
 . left
   refine ⟨_,by unfold HK;rw [if_neg hz],?_,?_,?_⟩<;>omega
theorem Ze {α:Type} {p:α->Bool}:∀ {l:List α} {i:Nat} {x:α},i<(l.takeWhile p).length->l[i]?= some x->p x=true
 | [],i,x,h,_=>by simp at h
 | a::r,i,x,h,hx=>by
   rw [List.takeWhile_cons] at h;by_cases ha:p a=true
   . rw [if_pos ha] at h
     cases i with
     | zero=>simp at hx;subst hx;exact ha
     | succ i=>exact Ze (l:=r) (by simpa using h) (by simpa using hx)
   . rw [if_neg ha] at h;simp at h
theorem Zf {α:Type} {p:α->Bool}:∀ {l:List α} {i:Nat} {x:α},(∀ (j k:Nat) (x y:α),j<=k->l[j]?= some x->l[k]?= some y->p y=true->p x=true)->(l.takeWhile p).length<=i->l[i]?= some x->p x=false
 | [],i,x,_,_,hx=>by simp at hx
 | a::r,i,x,hm,h,hx=>by
   rw [List.takeWhile_cons] at h;by_cases ha:p a=true
   . rw [if_pos ha] at h
     cases i with
     | zero=>simp at h
     | succ i=>exact Zf (l:=r) (fun j k x y hjk h1 h2=>hm (j+1) (k+1) x y (by omega) (by simpa using h1) (by simpa using h2)) (by simpa using h) (by simpa using hx)
   . cases hp:p x with
     | false=>rfl
     | true=>exact absurd (hm 0 i a x (by omega) (by simp) hx hp) ha
theorem RE {w:List Gal} (hw:OkW w) {i j:Nat} {x y:Gal} (h:i<=j) (hx:w[i]?= some x) (hy:w[j]?= some y):x.h<=y.h:=sC hw (j-i) i x y hx (by rw [show i+(j-i)=j by omega];exact hy)
theorem Zg {w:List Gal} {lo:Int} {i:Nat} {x:Gal} (h:i<Qq w lo) (hx:w[i]?= some x):x.h<lo:=by
 have:=Ze h hx;simpa using this
theorem ft {w:List Gal} (hw:OkW w) {lo:Int} {i:Nat} {x:Gal} (h:Qq w lo<=i) (hx:w[i]?= some x):lo<=x.h:=by
 have:=Zf (fun j k x y hjk h1 h2 h3=>by have:=RE hw hjk h1 h2;simp at h3 ⊢;omega) h hx;simp at this;omega
theorem pd {w:List Gal} {hi:Int} {i:Nat} {x:Gal} (h:i<upN w hi) (hx:w[i]?= some x):x.h<=hi:=by
 have:=Ze h hx;simpa using this
theorem Zh {w:List Gal} (hw:OkW w) {hi:Int} {i:Nat} {x:Gal} (h:upN w hi<=i) (hx:w[i]?= some x):hi<x.h:=by
 have:=Zf (fun j k x y hjk h1 h2 h3=>by have:=RE hw hjk h1 h2;simp at h3 ⊢;omega) h hx;simp at this;omega
theorem JG {α:Type} {p:α->Bool} {l:List α}:(l.takeWhile p).length<=l.length:=(List.takeWhile_sublist p).length_le
theorem fn71 (l:List Gal) (lo hi:Int) (i:Nat) (x:Gal) (hx:l[i]?= some x):Ct prog 71 [vi i, .d (.ref [cT l]), .d (.ref [di lo,di hi])] (vb (decide (lo<=x.h))) []:=by
 have hil:i<l.length:=(List.getElem?_eq_some_iff.1 hx).1;refine CB func71 c71 fun E hE=>?_
 simp [p71,hx];apply RZ;simp [results71]
theorem fn72 (l:List Gal) (lo hi:Int) (i:Nat) (x:Gal) (hx:l[i]?= some x):Ct prog 72 [vi i, .d (.ref [cT l]), .d (.ref [di lo,di hi])] (vb (decide (hi<x.h))) []:=by
 have hil:i<l.length:=(List.getElem?_eq_some_iff.1 hx).1;refine CB func72 c72 fun E hE=>?_
 simp [p72,hx];apply RZ;simp [results72]
theorem ASV (a b g:Int) (h: -1000000<=a/\a<=1000000/\ -1000000<=b/\b<=1000000/\0<=g/\g<=1000000):Ct prog 73 [vsp a b, .d (.ref [di g])] (vsp (a-g) (b+g)) []:=by
 have w1:IntKind.wrap .i64 (a-g)=a-g:=AD (by omega) (by omega);have w2:IntKind.wrap .i64 (b+g)=b+g:=AD (by omega) (by omega);refine CB func73 c73 fun E hE=>?_
 simp [p73,w1,w2,AA];apply RZ;simp [results73]
abbrev wdV (x:Gal):V:= .agg [vi x.xl,vi x.xh,vi x.yl,vi x.yh]
theorem fn75 (x:Gal):Ct prog 75 [wdV x] (vsp (HG x).1 (HG x).2) []:=by
 refine CB func75 c75 fun E hE=>?_
 simp [p75,AA];apply RZ;simp [results75,HG]
theorem fn76 (x:Gal):Ct prog 76 [wdV x] (vsp (EY x).1 (EY x).2) []:=by
 refine CB func76 c76 fun E hE=>?_
 simp [p76,AA];apply RZ;simp [results76,EY]
theorem Iu (z:Int) (a b:Kn):Ct prog 120 [vi z, .d (.ref (knL a)), .d (.ref (knL b))] (vi (min (max z a.1) b.1)) []:=by
 refine CB func120 c120 fun E hE=>?_
 simp [p120];apply RZ;simp [results120]
def K6 (pk:Gal->Int × Int) (l:List Gal) (i:Nat):List Kn:=(l.take i).map fun x=>(x.h,pk x)
theorem Vl {pk:Gal->Int × Int} {l:List Gal} {i:Nat} {x:Gal} (h:l[i]?= some x):K6 pk l (i+1)=K6 pk l i++[(x.h,pk x)]:=by
 unfold K6;rw [List.take_add_one,h];simp
abbrev wd4 (a b c d:Int):V:= .agg [vi a,vi b,vi c,vi d]
structure WdB (xl xh yl yh:Int):Prop where
 x: -1000<=xl/\xl<=xh/\xh<=1000
 y: -1000<=yl/\yl<=yh/\yh<=1000
theorem tM {H:Hp} {id:Nat} {a b c d:Int} (h:H id=some [vi a,vi b,vi c,vi d]):Bor H (.ls id 0 4 1) (.d (Ch [a,b,c,d])):=by
 rw [Bk];exact ⟨rfl,rfl,by simp,_,h,rfl⟩
theorem pZ (xl xh yl yh:Int) (h:WdB xl xh yl yh):Ct prog 173 [wd4 xl xh yl yh] (vi 0) []:=by
 have h1:=h.x;have h2:=h.y;have c1:=pA (xl,xh);have c2:=pA (yl,yh);have c3:=mH (-2000) 2000 [xl,xh,yl,yh] (by simp);rw [CT.2 (by simp only;omega)] at c1 c2;rw [show rgB (-2000) 2000 [xl,xh,yl,yh]=true by simp [rgB];omega] at c3;have z1:IntKind.wrap .i64 1=1:=by decide
 have z2:IntKind.wrap .i64 2=2:=by decide
 refine CB func173 c173 fun E hE=>?_
 simp [p173,AA];refine Al (α:=Nat) (fun k=>⟨AO [(1, .lp 0 0),(2,vi 0),(10,wd4 xl xh yl yh),(11,vi k)],lk [(0,[vi xl,vi xh,vi yl,vi yh])],1⟩) (fun k=>k<=2) (fun k=>2-k) 0 ?_ ?_ ?_
 . omega
 . exact WK hE (lk [(0,0)])
 . intro k hk
   match k,hk with
   | 2,_=>
     simp [Cs,AA,AM];refine CLb (c3) (by simp [tM]) ?_;simp;apply RZ;simp [results173]
   | n+3,h=>omega
   | 0,_=>
     simp [Cs,AA];refine CLa c1 ?_;simp [z1];refine ⟨1,by omega,by omega,?_⟩;exact WK hE (lk [(0,0)])
   | 1,_=>
     simp [Cs,AA];refine CLa c2 ?_;simp [z2];refine ⟨2,by omega,by omega,?_⟩;exact WK hE (lk [(0,0)])
theorem Tu {a b:Int} (h: -1000<=a/\a<=b/\b<=1000):(0<=sqN a b/\sqN a b<=1000000)/\(0<=sqF a b/\sqF a b<=1000000)/\sqN a b<=sqF a b:=by
 unfold sqN sqF;have m1:0<=max (max 0 a) (-b):=by omega
 have m2:max (max 0 a) (-b)<=max (-a) b:=by omega
 have m3:max (-a) b<=1000:=by omega
 generalize max (max 0 a) (-b)=x at*
 generalize max (-a) b=y at*
 have e1:0<=x*x:=Int.mul_nonneg m1 m1;have e2:x*x<=y*y:=Int.mul_le_mul m2 m2 m1 (by omega);have e3:y*y<=1000*1000:=Int.mul_le_mul m3 m3 (by omega) (by omega);omega
theorem mJ {xl xh yl yh:Int} (h:WdB xl xh yl yh):(Nz xl xh yl yh).2=0:=by
 have q1:=Tu h.x;have q2:=Tu h.y;unfold Nz LB;rw [if_pos (CT.2 (by simp only;omega)),if_neg (by simp only;omega)]
def WN (xl xh yl yh:Int) (k:Nat):Int × Int:=if k=0 then (0,0) else if k=1 then (sqN xl xh,sqF xl xh) else (sqN xl xh+sqN yl yh,sqF xl xh+sqF yl yh)
theorem UA (xl xh yl yh:Int) (h:WdB xl xh yl yh):Ct prog 155 [wd4 xl xh yl yh] (.tup [vsp (Nz xl xh yl yh).1.1 (Nz xl xh yl yh).1.2,vi 0]) []:=by
 have h1:=h.x;have h2:=h.y;have c1:=pZ xl xh yl yh h;have c2:=qn (sqN xl xh+sqN yl yh,sqF xl xh+sqF yl yh)
 have c2':Ct prog 164 [vsp (sqN xl xh+sqN yl yh) (sqF xl xh+sqF yl yh)] (.tup [vsp (Nz xl xh yl yh).1.1 (Nz xl xh yl yh).1.2,vi 0]) []:=by
   have e:=mJ h;unfold vse at c2;unfold Nz at e ⊢;rw [e] at c2;exact c2
 have q1:=Tu h1;have q2:=Tu h2;have z1:IntKind.wrap .i64 1=1:=by decide
 have z2:IntKind.wrap .i64 2=2:=by decide
 have w1:IntKind.wrap .i64 (-xl)= -xl:=AD (by omega) (by omega);have w2:IntKind.wrap .i64 (-xh)= -xh:=AD (by omega) (by omega);have w3:IntKind.wrap .i64 (-yl)= -yl:=AD (by omega) (by omega);have w4:IntKind.wrap .i64 (-yh)= -yh:=AD (by omega) (by omega);have w5:IntKind.wrap .i64 (max 0 (max xl (-xh))*max 0 (max xl (-xh)))=sqN xl xh:=by rw [show max 0 (max xl (-xh))=max (max 0 xl) (-xh) by omega];exact AD (by unfold sqN at q1;omega) (by unfold sqN at q1;omega)
 have w6:IntKind.wrap .i64 (max (-xl) xh*max (-xl) xh)=sqF xl xh:=AD (by unfold sqF at q1;omega) (by unfold sqF at q1;omega);have w7:IntKind.wrap .i64 (max 0 (max yl (-yh))*max 0 (max yl (-yh)))=sqN yl yh:=by rw [show max 0 (max yl (-yh))=max (max 0 yl) (-yh) by omega];exact AD (by unfold sqN at q2;omega) (by unfold sqN at q2;omega)
 have w8:IntKind.wrap .i64 (max (-yl) yh*max (-yl) yh)=sqF yl yh:=AD (by unfold sqF at q2;omega) (by unfold sqF at q2;omega);have w9:IntKind.wrap .i64 (sqN xl xh)=sqN xl xh:=AD (by omega) (by omega);have w10:IntKind.wrap .i64 (sqF xl xh)=sqF xl xh:=AD (by omega) (by omega);have w11:IntKind.wrap .i64 (sqN xl xh+sqN yl yh)=sqN xl xh+sqN yl yh:=AD (by omega) (by omega);have w12:IntKind.wrap .i64 (sqF xl xh+sqF yl yh)=sqF xl xh+sqF yl yh:=AD (by omega) (by omega);refine CB func155 c155 fun E hE=>?_
 simp [p155];refine CLa c1 ?_;simp [AA];refine Al (α:=Nat) (fun k=>⟨AO [(1, .lp 0 0),(2, .lp 1 0),(5, .lp 2 0),(20,wd4 xl xh yl yh),(21,vi k)],lk [(0,[vi xl,vi xh,vi yl,vi yh]),(1,[vi 0,vi 0]),(2,[vi (WN xl xh yl yh k).1,vi (WN xl xh yl yh k).2])],3⟩) (fun k=>k<=2) (fun k=>2-k) 0 ?_ ?_ ?_
 . omega
 . refine AI.mk hE (lk [(0,0),(1,1048576),(2,8388608)]) _ _ _ ?_ ?_ ?_ ?_ ?_<;>simp [WN]
 . intro k hk
   match k,hk with
   | 2,_=>
     simp [AMx,WN];refine CLa c2' ?_;simp [AA];apply RZ;simp [results155]
   | n+3,h=>omega
   | 0,_=>
     simp [AMx,AA,WN,w1,w2,w5,w6,w9,w10,z1];refine ⟨1,by omega,by omega,?_⟩;exact WK hE (lk [(0,0),(1,1),(2,2)])
   | 1,_=>
     simp [AMx,AA,WN,w3,w4,w7,w8,w11,w12,z2];refine ⟨2,by omega,by omega,?_⟩;exact WK hE (lk [(0,0),(1,1),(2,2)])
theorem ASm (l:List Gal) (h:Int × Int) (g:FuncId) (pk:Gal->Int × Int) (hg:∀ x∈l,Ct prog g [wdV x] (vsp (pk x).1 (pk x).2) []) (hw:OkW l) (hp:PkB l pk):Ct prog 74 [.d (cT l),vsp h.1 h.2, .d (.fn g [])] (vsp (Fg pk l h).1 (Fg pk l h).2) []:=by
 have hl:=hw.len;obtain ⟨fa,hfa⟩:∃ x,l[0]?= some x:=⟨_,List.getElem?_eq_getElem (by omega)⟩
 obtain ⟨la,hla⟩:∃ x,l[l.length-1]?= some x:=⟨_,List.getElem?_eq_getElem (by omega)⟩
 have kfa:(Dd pk l)[0]?= some (fa.h,pk fa):=by rw [EG,hfa];rfl
 have kla:(Dd pk l)[l.length-1]?= some (la.h,pk la):=by rw [EG,hla];rfl
 have kln:=IH (pk:=pk) (w:=l);refine CB func74 c74 fun E hE=>?_
 simp [p74];refine Al (α:=Nat) (fun i=>⟨AO [(0, .d (cT l)),(2, .d (.fn g [])),(4, .lp 0 0),(6, .lp 1 0),(7,hdF 3 (K6 pk l i) 2),(15, .d (cT l)),(16,vi l.length),(17,vi i)],lk ([(0,[vi h.1,vi h.2]),(1,[vi 0,vi 0])]++ouF knL (K6 pk l i) 2),3⟩) (fun i=>i<=l.length) (fun i=>l.length-i) 0 ?_ ?_ ?_
 . omega
 . rw [show K6 pk l 0=[] from rfl,Aq,Au]
   exact WK hE (lk [(0,0),(1,1048576)])
 . intro i hi
   by_cases hil:i<l.length
   . obtain ⟨x,hx⟩:=gE hil
     have hz:=@wz i (by omega);have hI:(i:Int)<l.length:=by omega
     have hnx:=Vl (pk:=pk) hx;have hO:(K6 pk l i).length<=1000000:=by unfold K6;simp;omega
     have cg:=hg x (List.mem_of_getElem? hx);obtain ⟨O,hOe⟩:∃ O,K6 pk l i=O:=⟨_,rfl⟩
     rw [hOe] at hnx hO ⊢;by_cases hne:O=[]
     . subst hne
       rw [Aq,Au];simp [wU,hI,hx,AA,inC,Nat.testBit];refine CLa cg ?_;simp [AA,AM,hz];refine ⟨i+1,by omega,by omega,?_⟩;rw [hnx,Ak (by simp),AZ (by simp)];refine AI.mk hE (lk [(0,0),(1,1),(2,14680067)]) _ _ _ ?_ ?_ ?_ ?_ ?_<;>simp [AH]
     . have hsl:=Aw hfk O
       have hwh:=E9 hfk O;have n1:(O.length+1)*24<=140737488355328:=by omega
       have n2:O.length+1<=9223372036854775807:=by omega
       rw [Ak hne,AZ hne];simp [wU,hI,hx,AA,inC,Nat.testBit];refine CLa cg ?_;simp [AA,AM,hz,hsl,hwh,n1,n2];refine ⟨i+1,by omega,by omega,?_⟩;rw [hnx,Ak (by simp),AZ (by simp),IV];exact WK hE (lk [(0,0),(1,1),(2,14680067)])
   . have e:i=l.length:=by omega
     have hn:¬ (i:Int)<l.length:=by omega
     have ek:K6 pk l i=Dd pk l:=by unfold K6 Dd;rw [e,List.take_length]
     have ene:Dd pk l≠[]:=by intro h0;rw [h0] at kln;simp at kln;omega
     obtain ⟨K,hK⟩:∃ K,Dd pk l=K:=⟨_,rfl⟩
     rw [hK] at kfa kla kln ek ene;have hsl:=Aw hfk K;have w1:IntKind.wrap .i64 ((l.length:Int)-1)=((l.length-1:Nat):Int):=by rw [AD (by omega) (by omega)];omega
     have hI0:0<l.length:=by omega
     have hI2:l.length-1<l.length:=by omega
     have hI1:((l.length-1:Nat):Int)<l.length:=by omega
     have s0:(l.length-1)*3+3<=l.length*3:=by omega
     have s1:3<=l.length*3:=by omega
     have t0:List.take 3 (AH knL K)=(knL (fa.h,pk fa)).map .d:=by
       have:=Bg hfk (j:=0) (k:=3) kfa (by omega);simpa using this
     have t1:List.take 3 (List.drop ((l.length-1)*3) (AH knL K))=(knL (la.h,pk la)).map .d:=by
       have:=Bg hfk (j:=0) (k:=3) kla (by omega);simpa using this
     rw [ek,Ak ene,AZ ene,kln];simp [wU,hn];refine AL [(11,10485763),(12,11534339)] (by kernel_rfl) ?_;simp [AA,inC,Nat.testBit,kln,hsl,w1,hI0,hI1,s0,s1,t0,t1];by_cases h2:2<=l.length
     . have hlt:¬ fa.h=la.h:=by
         obtain ⟨y,hy⟩:∃ y,l[1]?= some y:=⟨_,List.getElem?_eq_getElem (by omega)⟩
         have:=hw.step 0 fa y hfa hy;have:=RE hw (by omega:1<=l.length-1) hy hla;omega
       have c1:=Iu h.1 (fa.h,pk fa) (la.h,pk la);have c2:=Iu h.2 (fa.h,pk fa) (la.h,pk la);have e1:∀ z,min (max z fa.h) la.h=EA l z:=fun z=>by unfold EA;rw [hfa,hla]
       simp only [e1] at c1 c2;have c3:=ABQ K (EA l h.1,EA l h.2) (by omega)
       have e3:(Jy K (EA l h.1,EA l h.2)).1=Fg pk l h:=by
         rw [<-hK]
         match l,h2 with
         | a::b::r,_=>rfl
       unfold vse at c3;rw [e3] at c3
       have hb:∀ H:Hp,H 2=some (AH knL K)->Bor H (.ls 2 0 l.length 3) (.d (DA K)):=fun H hH=>by
         have:=B0 (H:=H) (id:=2) hfk (l:=K) hH;rw [kln] at this;exact this
       simp [hlt];refine AL [(15,34603011)] (by kernel_rfl) ?_;simp [inC,Nat.testBit];refine CLa c1 ?_;simp [inC,Nat.testBit];refine CLa c2 ?_;simp [AA,inC,Nat.testBit];refine CLb (c3) (by simp [hb,Hcl,inC,Nat.testBit]) ?_;simp [AA,inC,Nat.testBit];apply RZ;simp [results74]
     . have e1:l.length-1=0:=by omega
       rw [e1,hfa] at hla;cases hla
       have e2:Fg pk l h=pk fa:=by
         obtain ⟨x,rfl⟩:∃ x,l=[x]:=List.length_eq_one_iff.1 (by omega);cases hfa;rfl
       simp [AA];apply RZ;simp [results74,e2]
def Nn (w:List Gal) (h:Int × Int):(Int × Int) × Int × Int:=if Lg w h=0 then (Jr w h,Js w h) else ((0,0),0,0)
abbrev wndV (r:(Int × Int) × Int × Int):V:= .agg [vi r.1.1,vi r.1.2,vi r.2.1,vi r.2.2]
theorem WS {l:List Gal} {i:Nat} {x:Gal} (h:l[i]?= some x):rS (l.take (i+1))=max (rS (l.take i)) x.g:=by
 unfold rS;rw [List.take_add_one,h];simp
theorem fn23 (l:List Gal) (h:Int × Int) (hl:l.length<=1000000):Ct prog 23 [.d (cT l),vsp h.1 h.2] (.tup [wndV (Nn l h),vi (Lg l h)]) []:=by
 have c1:=ASI l hl;have c2:=pA h;cases hw:Dr l
 . rw [hw] at c1
   have e1:Lg l h=22:=by unfold Lg;rw [hw];rfl
   have e2:Nn l h=((0,0),0,0):=by unfold Nn;rw [e1];rfl
   rw [e1,e2];refine CB func23 c23 fun E hE=>?_
   simp [p23];refine CLa c1 ?_;simp [AA];apply RZ;simp [results23]
 rw [hw] at c1;cases hs:okS h
 . rw [hs] at c2
   have e1:Lg l h=10:=by unfold Lg;rw [hw,hs];rfl
   have e2:Nn l h=((0,0),0,0):=by unfold Nn;rw [e1];rfl
   rw [e1,e2];refine CB func23 c23 fun E hE=>?_
   simp [p23];refine CLa c1 ?_;simp;refine CLa c2 ?_;simp [AA];apply RZ;simp [results23]
 rw [hs] at c2;have hW:=L0 hw;have hlen:=hW.len;have hh:=(CT.1 hs).1;have e1:Lg l h=0:=by unfold Lg;rw [hw,hs];rfl
 have e2:Nn l h=(Jr l h,Js l h):=by unfold Nn;rw [e1];rfl
 rw [e1,e2];have g1:=Yb hW h;have sx:=Mz hW (pk:=HG) (fun x hx=>hW.x x hx) hh;have sy:=Mz hW (pk:=EY) (fun x hx=>hW.y x hx) hh
 have c3:Ct prog 62 [vi l.length, .d (.fn 71 [.ref [cT l], .ref [di h.1,di h.2]])] (vi (Qq l h.1)) []:=by
   refine AFO l.length (Qq l h.1) _ _ (fun i=>(l[i]?.map fun k=>decide (h.1<=k.h)).getD false) (by omega) (fun i hi=>?_) JG (fun i hi=>?_) (fun i hi hi2=>?_)
   . obtain ⟨k,hk⟩:∃ k,l[i]?= some k:=⟨l[i],by simp [hi]⟩
     rw [hk];exact fn71 l h.1 h.2 i k hk
   . have hil:i<l.length:=Nat.lt_of_lt_of_le hi JG
     obtain ⟨k,hk⟩:∃ k,l[i]?= some k:=⟨l[i],by simp [hil]⟩
     have:=Zg hi hk;simp [hk];omega
   . obtain ⟨k,hk⟩:∃ k,l[i]?= some k:=⟨l[i],by simp [hi2]⟩
     have:=ft hW hi hk;simp [hk];omega
 have c4:Ct prog 62 [vi l.length, .d (.fn 72 [.ref [cT l], .ref [di h.1,di h.2]])] (vi (upN l h.2)) []:=by
   refine AFO l.length (upN l h.2) _ _ (fun i=>(l[i]?.map fun k=>decide (h.2<k.h)).getD false) (by omega) (fun i hi=>?_) JG (fun i hi=>?_) (fun i hi hi2=>?_)
   . obtain ⟨k,hk⟩:∃ k,l[i]?= some k:=⟨l[i],by simp [hi]⟩
     rw [hk];exact fn72 l h.1 h.2 i k hk
   . have hil:i<l.length:=Nat.lt_of_lt_of_le hi JG
     obtain ⟨k,hk⟩:∃ k,l[i]?= some k:=⟨l[i],by simp [hil]⟩
     have:=pd hi hk;simp [hk];omega
   . obtain ⟨k,hk⟩:∃ k,l[i]?= some k:=⟨l[i],by simp [hi2]⟩
     have:=Zh hW hi hk;simp [hk];omega
 have b1:Qq l h.1<=l.length:=JG;have b2:upN l h.2<=l.length:=JG;obtain ⟨F,hF⟩:∃ F,Qq l h.1=F:=⟨_,rfl⟩
 obtain ⟨U,hU⟩:∃ U,upN l h.2=U:=⟨_,rfl⟩
 have hFU:F-1<=min (U+1) l.length:=by
   by_cases hc:F-1<=U+1
   . omega
   . exfalso
     obtain ⟨k,hk⟩:∃ k,l[U]?= some k:=⟨l[U],by simp [show U<l.length by omega]⟩
     have q1:=Zg (w:=l) (lo:=h.1) (i:=U) (by omega) hk;have q2:=Zh hW (hi:=h.2) (i:=U) (by omega) hk;omega
 have hG:rO l h=rS ((l.take (min (U+1) l.length)).drop (F-1)):=by
   unfold rO;rw [hF,hU];congr 2;by_cases hc:U+1<=l.length
   . rw [Nat.min_eq_left hc]
   . rw [Nat.min_eq_right (by omega),List.take_of_length_le (by omega),List.take_length]
 rw [hF] at c3;rw [hU] at c4;have w1:IntKind.wrap .i64 ((F:Int)-1)=(F:Int)-1:=AD (by omega) (by omega);have w2:IntKind.wrap .i64 ((U:Int)+1)=(U:Int)+1:=AD (by omega) (by omega);have m1:max ((F:Int)-1) 0=((F-1:Nat):Int):=by omega
 have m2:min ((U:Int)+1) (l.length:Int)=((min (U+1) l.length:Nat):Int):=by omega
 obtain ⟨B,hB⟩:∃ B,min (U+1) l.length=B:=⟨_,rfl⟩
 obtain ⟨A,hA⟩:∃ A,F-1=A:=⟨_,rfl⟩
 rw [hB] at m2 hFU hG;rw [hA] at m1 hFU hG;have hBl:B<=l.length:=by omega
 obtain ⟨W,hWd⟩:∃ W,(l.take B).drop A=W:=⟨_,rfl⟩
 have hWl:B-A=W.length:=by rw [<-hWd];simp;omega
 have hWm:List.drop A (List.take B (List.map galL l))=W.map galL:=by rw [<-hWd];simp [List.map_drop,List.map_take]
 have hWle:W.length<=16:=by omega
 have hWg:∀ x∈W,0<=x.g/\x.g<=500:=fun x hx=>hW.g x (by rw [<-hWd] at hx;exact List.mem_of_mem_take (List.mem_of_mem_drop hx))
 rw [hWd] at hG;have d1:=ASm l h 75 HG (fun x _=>fn75 x) hW (fun x hx=>hW.x x hx);have d2:=ASm l h 76 EY (fun x _=>fn76 x) hW (fun x hx=>hW.y x hx);have d3:=ASV (Fg HG l h).1 (Fg HG l h).2 (rO l h) (by omega);have d4:=ASV (Fg EY l h).1 (Fg EY l h).2 (rO l h) (by omega);refine CB func23 c23 fun E hE=>?_
 simp [p23];refine CLa c1 ?_;simp;refine CLa c2 ?_;simp;refine CLa c3 ?_;simp;refine CLa c4 ?_;simp [AA,w1,w2,m1,m2,hFU,hBl,hWm];refine Al (α:=Nat) (fun i=>⟨AO [(2, .lp 0 0),(3, .lp 1 0),(4, .lp 2 0),(10, .lp 3 0),(43, .d (cT W)),(44,vi W.length),(45,vi i)],lk [(0,[.d (cT l)]),(1,[vi h.1,vi h.2]),(2,[vi 0,vi 0,vi 0,vi 0]),(3,[vi (rS (W.take i))])],4⟩) (fun i=>i<=W.length) (fun i=>W.length-i) 0 ?_ ?_ ?_
 . omega
 . refine AI.mk hE (lk [(0,0),(1,1048576),(2,2097152),(3,25165824)]) _ _ _ ?_ ?_ ?_ ?_ ?_<;>simp [rS]
 . intro i hi
   by_cases hil:i<W.length
   . obtain ⟨x,hx⟩:=gE hil
     have hz:=@wz i (by omega);have hI:(i:Int)<W.length:=by omega
     have hnx:=WS hx;simp [APE,hI,hx,AA,hz];refine ⟨i+1,by omega,by omega,?_⟩;rw [hnx];exact WK hE (lk [(0,0),(1,1),(2,2),(3,3)])
   . have e:i=W.length:=by omega
     have hn:¬ (i:Int)<W.length:=by omega
     have eT:rS (W.take i)=rO l h:=by rw [hG,e,List.take_length]
     rw [eT];simp [APE,hn,inC,Nat.testBit];refine CLa d1 ?_;simp [inC,Nat.testBit];refine CLa d3 ?_;simp [inC,Nat.testBit];refine CLa d2 ?_;simp;refine CLa d4 ?_;simp [AA];apply RZ;simp [results23,Jr,Js]
end Go.Proofs.Tryz
