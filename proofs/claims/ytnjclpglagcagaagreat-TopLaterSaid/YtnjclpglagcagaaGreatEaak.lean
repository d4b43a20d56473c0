/- Own lemmas, used by the last text. Conditions: those that each theorem states. -/
import Derived.Test.YtnjclpglagcagaaGreatEaaf
import Derived.Test.YtnjclpglagcagaaGreatEaag
import Derived.Test.YtnjclpglagcagaaGreatEaai
import Derived.Test.YtnjclpglagcagaaGreatEaaj
set_option maxRecDepth 200000
set_option maxHeartbeats 8000000
namespace Go.Proofs.Tryz
open Go.Psl
open Go.Air
theorem APa {p:Nat->Prop} {q:D->Prop} {f:Nat->V} {k:Nat} {v:V} (hv:AV p q v) (hf:∀ t,AV p q (f t)):∀ t,AV p q (upd f k v t):=fun t=>by
 rw [AY];split
 . exact hv
 . exact hf t
theorem AQX (d:CnD) (f:Nat->V) (z:LSt) (o:Option (Nat × Nat)):cL d f z o=(12582912,[.lr f 51 [21,22] Xv ALg z])::((11534336,[.d (cF d.ns d.r)])::(11534337,[vi d.po])::(11534338,[vi d.ki])::(11534339,[vi d.nw])::(0,[.d (cF d.ns d.r)])::(1048576,[vi d.po])::(2097152,[vi d.ki])::(3145728,[vi d.nw])::ALP o):=rfl
theorem AQ0 (d:CnD) (hd:CnO d) (f:Nat->V) (hF:CnF f):Cm prog 128 [.yl 12582912, .lp 11534336 0, .lp 11534337 0, .lp 11534338 0, .lp 11534339 0] (lk (cL d f .ready none)) cKS (.ret (.tup [])) (lk (cL d f (zOf (ALs d.r (C2 d.po d.ki d.nw 0 d.ns))) (ALs d.r (C2 d.po d.ki d.nw 0 d.ns)))):=by
 have hmem:∀ (j k:Nat) (y:Nws),(C2 d.po d.ki d.nw 0 d.ns)[j]?= some (k,y)->OkN y:=fun j k y h=>by
   obtain ⟨_,h2,_⟩:=ALp (List.mem_of_getElem? h);exact hd.n y (List.mem_of_getElem? h2)
 have hR:=fun (j k:Nat) (y:Nws) (h:(C2 d.po d.ki d.nw 0 d.ns)[j]?= some (k,y))=>APD d hd f hF k y (hmem j k y h)
 have hK:=fun z o=>ACf d f z o hF.av
 have hl:=hd.l;have hcn:ALs d.r (C2 d.po d.ki d.nw 0 d.ns)=(C2 d.po d.ki d.nw 0 d.ns).findSome? fun x=>ALo d x.1 x.2:=rfl
 rw [hcn];cases hfd:(C2 d.po d.ki d.nw 0 d.ns).findSome? fun x=>ALo d x.1 x.2 with
 | none=>
   have hno:=List.findSome?_eq_none_iff.1 hfd
   exact ALv d.ns d.r (by omega) d.po d.ki d.nw cKS (fun _=>[]) 12582912 11534336 11534337 11534338 11534339 (C2 d.po d.ki d.nw 0 d.ns).length (fun _=>true) (fun _=>cL d f .ready none) (by simp [cKS]) (by simp [cKS]) (by simp [cKS]) (by simp [cKS]) (by simp [cKS]) (by simp [cKS]) (fun _ _ h=>by cases h) (fun _ _=>hK .ready none)
     (fun _ _=>⟨f,51,[21,22],Xv,ALg, .ready,by simp [cL],rfl⟩) (fun _ _=>by simp [cL]) (fun _ _=>by simp [cL]) (fun _ _=>by simp [cL]) (fun _ _=>by simp [cL]) (Nat.le_refl _) (fun _ _=>rfl) (.inl ⟨rfl,fun _=>rfl⟩)
     (fun j k y _ h=>by
       have h1:=hR j k y h;have h2:ALo d k y=none:=hno _ (List.mem_of_getElem? h);rw [h2] at h1;exact h1)
 | some p=>
   obtain ⟨A,q,B,hAB,hq,hA⟩:=List.findSome?_eq_some_iff.1 hfd;have hlt:∀ j:Nat,(C2 d.po d.ki d.nw 0 d.ns)[j]?= (A++q::B)[j]?:= fun j=>by rw [hAB]
   have hSl:(C2 d.po d.ki d.nw 0 d.ns).length=A.length+1+B.length:=by rw [hAB];simp;omega
   have hrun:=ALv d.ns d.r (by omega) d.po d.ki d.nw cKS (fun _=>[]) 12582912 11534336 11534337 11534338 11534339 (A.length+1) (fun j=>decide (j≠A.length)) (fun j=>if j<=A.length then cL d f .ready none else cL d f (.done .ret) (some p)) (by simp [cKS]) (by simp [cKS]) (by simp [cKS]) (by simp [cKS]) (by simp [cKS]) (by simp [cKS]) (fun _ _ h=>by cases h) (fun j _=>by split;exact hK .ready none;exact hK _ _)
     (fun j _=>by split;exact ⟨f,51,[21,22],Xv,ALg, .ready,by simp [cL],rfl⟩;exact ⟨f,51,[21,22],Xv,ALg, .done .ret,by simp [cL],rfl⟩) (fun j _=>by split<;>simp [cL]) (fun j _=>by split<;>simp [cL]) (fun j _=>by split<;>simp [cL]) (fun j _=>by split<;>simp [cL]) (by omega) (fun j hj=>by simp;omega) (.inr ⟨by omega,by simp⟩)
     (fun j k y hj h=>by
       have h1:=hR j k y h;rw [hlt] at h;by_cases hjA:j=A.length
       . rw [hjA,List.getElem?_append_right (Nat.le_refl _),Nat.sub_self] at h
         simp at h;subst h;rw [hq] at h1;rw [if_pos (by omega),if_neg (by omega)];simp only [hjA,ne_eq,not_true_eq_false,decide_false];exact h1
       . rw [List.getElem?_append_left (by omega)] at h
         have h2:ALo d k y=none:=hA _ (List.mem_of_getElem? h);rw [h2] at h1;rw [if_pos (by omega),if_pos (by omega),decide_eq_true hjA];exact h1)
   rw [if_pos (Nat.zero_le _),if_neg (by omega)] at hrun;exact hrun
theorem fn86 (d:CnD) (hd:CnO d):Ct prog 86 [.d (cF d.ns d.r),vi d.po,vi d.ki,vi d.nw] (AL8 (ALs d.r (C2 d.po d.ki d.nw 0 d.ns))) []:=by
 have c1:=AQg (cF d.ns d.r) d.po d.ki d.nw;refine Ct.byR gok eok mixed func86 c86 rfl (by simp [ntmps86]) (by simp) (by cases ALs d.r (C2 d.po d.ki d.nw 0 d.ns)<;>simp [LD,AL8]) fun E hE hnt'=>?_
 simp [p86];refine CLa c1 ?_;simp;have hnt:E.nt=51:=by rw [hnt'.1];exact ntmps86
 rw [<-JI (Γ:=tys) (eqs:=eqs)];obtain ⟨f,hf⟩:∃ f,f=upd (upd (upd (upd (upd (upd (upd (upd (upd (upd (upd (upd (Dn 0 [V.d (cF d.ns d.r),vi d.po,vi d.ki,vi d.nw]) 4 (V.lp 0 0)) 5 (V.lp 1048576 0)) 6 (V.lp 2097152 0)) 7 (V.lp 3145728 0)) 8 (V.lp 4194304 0)) 9 (V.lp 5242880 0)) 10 (V.lp 6291456 0)) 16 (V.d (cF d.ns d.r))) 17 (V.d (D.lit (Value.int IntKind.i64 d.po)))) 18 (V.d (D.lit (Value.int IntKind.i64 d.ki)))) 19 (V.d (D.lit (Value.int IntKind.i64 d.nw)))) 20 (V.cl 128 [V.lp 11534336 0,V.lp 11534337 0,V.lp 11534338 0,V.lp 11534339 0]):=⟨_,rfl⟩
 have hfA:∀ t,AV (·∈AL5) AR (f t):=by
   rw [hf];refine APa (fun c hc=>?_) ?_
   . simp only [List.mem_cons,List.not_mem_nil,or_false] at hc
     rcases hc with rfl | rfl | rfl | rfl
     . exact (by simp [AL5]:(11534336:Nat)∈AL5)
     . exact (by simp [AL5]:(11534337:Nat)∈AL5)
     . exact (by simp [AL5]:(11534338:Nat)∈AL5)
     . exact (by simp [AL5]:(11534339:Nat)∈AL5)
   repeat (refine APa (by first | exact trivial | (show (_:Nat)∈AL5;simp [AL5])) ?_)
   intro t;simp only [Dn]
   repeat (split;· exact trivial)
   exact fun c hc=>by simp at hc
 have hFF:CnF f:=⟨hfA,by rw [hf];simp,by rw [hf];simp,by rw [hf];simp,by rw [hf];simp,by rw [hf];simp,by rw [hf];simp,by rw [hf];simp⟩
 have f20:f 20= .cl 128 [.lp 11534336 0, .lp 11534337 0, .lp 11534338 0, .lp 11534339 0]:=by rw [hf];simp
 obtain ⟨_,_,_,_,_,f8,f9,f10⟩:=id hFF;rw [<-hf];have hrun:=AQ0 d hd f hFF;have hK0:=ACf d f .ready none hfA;have hKn:=ACf d f (zOf (ALs d.r (C2 d.po d.ki d.nw 0 d.ns))) (ALs d.r (C2 d.po d.ki d.nw 0 d.ns)) hfA;rw [AQX] at hK0 hKn;simp only [AQX] at hrun
 generalize ALs d.r (C2 d.po d.ki d.nw 0 d.ns)=o at hrun hKn ⊢
 refine E3.keepX ((11534336,[.d (cF d.ns d.r)])::(11534337,[vi d.po])::(11534338,[vi d.ki])::(11534339,[vi d.nw])::(0,[.d (cF d.ns d.r)])::(1048576,[vi d.po])::(2097152,[vi d.ki])::(3145728,[vi d.nw])::ALP none) ((11534336,[.d (cF d.ns d.r)])::(11534337,[vi d.po])::(11534338,[vi d.ki])::(11534339,[vi d.nw])::(0,[.d (cF d.ns d.r)])::(1048576,[vi d.po])::(2097152,[vi d.ki])::(3145728,[vi d.nw])::ALP o) [11534336,11534337,11534338,11534339,0,1048576,2097152,3145728,4194304,5242880,6291456] [] [] (.tup []) (zOf o) ⟨hnt'.2,by rw [hnt];simp [AL4]⟩ (g:=128) (caps:=[.lp 11534336 0, .lp 11534337 0, .lp 11534338 0, .lp 11534339 0]) (by simp [f20]) (by rw [hnt];exact hrun) (by rw [hnt];exact hK0) (by rw [hnt];exact hKn) (fun x hx=>by cases hx) (by simp) (by simp [ALP]) (by simp) fun F g1 g2=>?_
 cases o with
 | none=>
   have K1:=g1 (4194304,[vi 0]) (by simp [ALP]);have K2:=g1 (5242880,[vi 0]) (by simp [ALP]);have K3:=g1 (6291456,[vb false]) (by simp [ALP]);simp [BJ,DS,DR,sg] at K1 K2 K3
   show Ft 0 _ .normal _
   simp [f8,f9,f10,K1,K2,K3,AA];apply RZ;simp [results86,f8,f9,f10,AL8]
 | some p=>
   have K1:=g1 (4194304,[vi p.1]) (by simp [ALP]);have K2:=g1 (5242880,[vi p.2]) (by simp [ALP]);have K3:=g1 (6291456,[vb true]) (by simp [ALP]);simp [BJ,DS,DR,sg] at K1 K2 K3
   show Ft 0 _ .ret _
   simp;apply RZ;simp [results86,f8,f9,f10,K1,K2,K3,AL8]
theorem fn35 (d:KnD) (hd:KnO d):Ct prog 35 [.d (cF d.ns d.r),vi d.po,vi d.ki,vi d.t,vi d.nw] (.tup [vsp (ALd d.r (C2 d.po d.ki d.nw 0 d.ns) d.t).1.1 (ALd d.r (C2 d.po d.ki d.nw 0 d.ns) d.t).1.2,vi (ALd d.r (C2 d.po d.ki d.nw 0 d.ns) d.t).2]) []:=
 APu d hd (fn86 ⟨d.ns,d.r,d.po,d.ki,d.nw⟩ ⟨hd.r,hd.n,hd.l⟩)
end Go.Proofs.Tryz
namespace Go.Air
structure Pst where
 h:Int
 g:Int
deriving DecidableEq,Inhabited
end Go.Air
namespace Go.Proofs.Tryz
open Go.Psl
open Go.Air
abbrev AO9 (x:Pst):List D:=[di x.h,di x.g]
abbrev AP1 (x:Pst):V:= .agg [vi x.h,vi x.g]
abbrev ALO (l:List Pst):D:= .sl 2 (l.map AO9)
def ALh (l:List Pst) (i:Nat):Bool:=match l[i]? with
 | some x=>rgB (-500) 9000 [x.h]&&(if i=0 then true else match l[i-1]? with | some y=>rgB 1 2000 [x.h-y.h] | none=>true)
 | none=>true
def AMR (l:List Pst):Bool:=(List.range l.length).all (ALh l)&&rgB 2 16 [(l.length:Int)]
theorem AN3 {l:List Pst} {i:Nat} (hi:i<l.length) (h:ALh l i=false):AMR l=false:=by
 unfold AMR
 have:(List.range l.length).all (ALh l)=false:=by
   rw [List.all_eq_false];exact ⟨i,by simp [hi],by simp [h]⟩
 simp [this]
theorem APA {l:List Pst} (h:∀ j,j<l.length->ALh l j=true):AMR l=rgB 2 16 [(l.length:Int)]:=by
 unfold AMR
 have:(List.range l.length).all (ALh l)=true:=by
   rw [List.all_eq_true];intro j hj;exact h j (by simpa using hj)
 simp [this]
theorem ASY (x:Pst):Ct prog 31 [AP1 x] (vi x.h) []:=by
 refine CB func31 c31 fun E hE=>?_
 simp [p31];apply RZ;simp [results31]
theorem ASZ (x:Pst):Ct prog 33 [AP1 x] (vb (!rgB 0 500 [x.g])) []:=by
 have c:=mH 0 500 [x.g] (by simp);refine CB func33 c33 fun E hE=>?_
 simp [p33,AA,AM];refine CLb (c) (by simp [AG]) ?_;simp;apply RZ;simp [results33]
theorem fn81 (l:List Pst) (g:FuncId) (ds:List D) (q:Pst->Bool) (hl:l.length<=1000000000) (hg:∀ p∈l,Ct prog g (AP1 p::ds.map .d) (vb (q p)) []):Ct prog 81 [.d (ALO l), .d (.fn g ds)] (vi (ixF q l)) []:=by
 refine CB func81 c81 fun E hE=>?_
 simp [p81];refine Al (α:=Nat) (fun i=>⟨AO [(0, .d (ALO l)),(1, .d (.fn g ds)),(7,vi l.length),(8,vi i)],lk [],0⟩) (fun i=>i<=l.length/\∀ j,j<i->(l[j]?).all (fun p=>!q p)=true) (fun i=>l.length-i) 0 ?_ ?_ ?_
 . exact ⟨by omega,fun j hj=>by omega⟩
 . exact WK hE (lk [])
 . rintro i ⟨hi,hg3⟩
   have hg2:∀ (j:Nat) (p:Pst),j<i->l[j]?= some p->q p=false:=fun j p hj hp=>by
     have:=hg3 j hj;rw [hp] at this;simpa using this
   have hz:=@wz i (by omega);simp [AQV];refine Bh (fun h=>?_) (fun h=>?_)
   . simp at h
     obtain ⟨p,hp⟩:=gE h;simp [hp];refine CLa (hg p (List.mem_of_getElem? hp)) ?_;cases hq:q p
     . simp [hz]
       refine ⟨i+1,⟨by omega,fun j hj=>?_⟩,by omega,?_⟩
       . by_cases e:j=i
         . subst e;rw [hp];simp [hq]
         . exact hg3 j (by omega)
       . exact WK hE (lk [])
     . have e:ixF q l=i:=IY hp hq fun j y hj hy=>hg2 j y hj hy
       simp;apply RZ;simp [results81,e]
   . simp at h
     have e:ixF q l= -1:=IX fun j x hx=>hg2 j x (by have:=(List.getElem?_eq_some_iff.1 hx).1;omega) hx
     simp;apply RZ;simp [results81,e]
theorem yy (l:List Pst) (g:FuncId) (ds:List D) (q:Pst->Bool) (hl:l.length<=1000000000) (hg:∀ p∈l,Ct prog g (AP1 p::ds.map .d) (vb (q p)) []):Ct prog 32 [.d (ALO l), .d (.fn g ds)] (vb (l.any q)) []:=by
 refine CB func32 c32 fun E hE=>?_
 simp [p32];refine CLa (fn81 l g ds q hl hg) ?_;simp;apply RZ;simp [results32,<-IZ]
theorem ASa (l:List Pst) (hl:l.length<=1000000):Ct prog 30 [.d (ALO l), .d (.fn 31 [])] (vb (AMR l)) []:=by
 refine CB func30 c30 fun E hE=>?_
 simp [p30];refine Al (α:=Nat) (fun i=>⟨AO [(0, .d (ALO l)),(1, .d (.fn 31 [])),(8, .d (ALO l)),(9,vi l.length),(10,vi i)],lk [],0⟩) (fun i=>i<=l.length/\∀ j,j<i->ALh l j=true) (fun i=>l.length-i) 0 ?_ ?_ ?_
 . exact ⟨by omega,fun j hj=>by omega⟩
 . exact WK hE (lk [])
 . rintro i ⟨hi,hg⟩
   by_cases h:i<l.length
   . obtain ⟨x,hx⟩:=gE h
     have hz:=@wz i (by omega);have hI:(i:Int)<l.length:=by omega
     have c1:=ASY x;have c2:=mH (-500) 9000 [x.h] (by simp);cases h1:rgB (-500) 9000 [x.h]
     . have hbad:=AN3 h (by unfold ALh;rw [hx];simp [h1])
       rw [h1] at c2;simp [AMj,hI,hx,AA];refine CLa c1 ?_;simp [AA,AM];refine CLb (c2) (by simp [AG]) ?_;simp;apply RZ;simp [results30,hbad]
     . rw [h1] at c2
       by_cases h0:i=0
       . subst h0
         have hx0:l[0]?= some x:=hx;rw [List.getElem?_eq_getElem h] at hx;have hx':=Option.some.inj hx;simp [AMj,h,hx',AA];refine CLa c1 ?_;simp [AA,AM];refine CLb (c2) (by simp [AG]) ?_;simp [show IntKind.wrap .i64 1=1 by decide];refine ⟨1,⟨by omega,fun j hj=>?_⟩,by omega,?_⟩
         . have:j=0:=by omega
           subst this;unfold ALh;rw [hx0];simp [h1]
         . exact WK hE (lk [])
       . obtain ⟨y,hy⟩:∃ y,l[i-1]?= some y:=⟨_,List.getElem?_eq_getElem (by omega)⟩
         have hw:IntKind.wrap .i64 ((i:Int)-1)=((i-1:Nat):Int):=by rw [AD (by omega) (by omega)];omega
         have hI0:0<i:=by omega
         have hxb: -500<=x.h/\x.h<=9000:=by simp [rgB] at h1;omega
         have hyb: -500<=y.h/\y.h<=9000:=by
           have:=hg (i-1) (by omega);unfold ALh at this;rw [hy] at this;simp [rgB] at this;omega
         have hwd:IntKind.wrap .i64 (x.h-y.h)=x.h-y.h:=AD (by omega) (by omega);have c3:=ASY y;have c4:=mH 1 2000 [x.h-y.h] (by simp);have e:ALh l i=rgB 1 2000 [x.h-y.h]:=by unfold ALh;rw [hx];simp [h1,h0,hy]
         cases h2:rgB 1 2000 [x.h-y.h]
         . rw [h2] at c4
           have hbad:=AN3 h (by rw [e,h2]);simp [AMj,hI,hx,AA];refine CLa c1 ?_;simp [AA,AM];refine CLb (c2) (by simp [AG]) ?_;simp [hI0,hw,hy];refine CLa c3 ?_;simp [AA,AM,hwd];refine CLb (c4) (by simp [AG]) ?_;simp;apply RZ;simp [results30,hbad]
         . rw [h2] at c4
           simp [AMj,hI,hx,AA];refine CLa c1 ?_;simp [AA,AM];refine CLb (c2) (by simp [AG]) ?_;simp [hI0,hw,hy];refine CLa c3 ?_;simp [AA,AM,hwd];refine CLb (c4) (by simp [AG]) ?_;simp [hz];refine ⟨i+1,⟨by omega,fun j hj=>?_⟩,by omega,?_⟩
           . by_cases hj2:j=i
             . subst hj2;rw [e,h2]
             . exact hg j (by omega)
           . exact WK hE (lk [])
   . have e:i=l.length:=by omega
     have hn:¬ (i:Int)<l.length:=by omega
     have c:=mH 2 16 [(l.length:Int)] (by simp);have hall:=APA (l:=l) (by rw [<-e];exact hg);simp [AMj,hn,AA,AM];refine CLb (c) (by simp [AG]) ?_;simp;apply RZ;simp [results30,hall]
end Go.Proofs.Tryz
namespace Go.Proofs.Tryz
open Go.Psl
open Go.Air
def AMS (x:Nws):Bool:=rgB 0 15 [x.po]&&rgB 1 4 [x.ki]&&rgB 0 1000000 [x.se,x.ca]&&decide (x.se<=x.ca)&&spB (-12000) 12000 x.lo x.hi
def AL3 (l:List Nws):Int:=if 100<l.length then 4 else if l.all AMS then 0 else 23
theorem AQd {x:Nws} (h:AMS x=true):OkN x:=by
 simp only [AMS,Bool.and_eq_true,decide_eq_true_eq,CC] at h;obtain ⟨⟨⟨⟨h1,h2⟩,h3⟩,h4⟩,h5⟩:=h;simp [rgB] at h1 h2 h3;exact ⟨by omega,by omega,by omega,by omega⟩
theorem ASF (l:List Nws) (hl:l.length<=1000000):Ct prog 80 [.d (ALV l)] (vi (AL3 l)) []:=by
 by_cases h100:100<l.length
 . have h':(100:Int)<l.length:=by omega
   refine CB func80 c80 fun E hE=>?_
   simp [p80,h'];apply RZ;simp [results80,AL3,h100]
 have h':¬ (100:Int)<l.length:=by omega
 refine CB func80 c80 fun E hE=>?_
 simp [p80,h'];refine Al (α:=Nat) (fun i=>⟨AO [(8, .d (ALV l)),(9,vi l.length),(10,vi i)],lk [],0⟩) (fun i=>i<=l.length/\∀ j,j<i->(l[j]?).all AMS=true) (fun i=>l.length-i) 0 ?_ ?_ ?_
 . exact ⟨by omega,fun j hj=>by omega⟩
 . exact WK hE (lk [])
 . rintro i ⟨hi,hg⟩
   have hz:=@wz i (by omega);by_cases h:i<l.length
   . obtain ⟨x,hx⟩:=gE h
     have hI:(i:Int)<l.length:=by omega
     have c1:=mH 0 15 [x.po] (by simp);have c2:=mH 1 4 [x.ki] (by simp);have c3:=mH 0 1000000 [x.se,x.ca] (by simp);have c4:=xe x.lo x.hi (-12000) 12000
     have hb:AMS x=false->AL3 l=23:=fun h=>by
       unfold AL3;rw [if_neg h100,if_neg];simp only [Bool.not_eq_true];exact List.all_eq_false.2 ⟨x,List.mem_of_getElem? hx,by simp [h]⟩
     cases h1:rgB 0 15 [x.po] with
     | false=>
       have hbad:=hb (by simp [AMS,h1]);rw [h1] at c1;simp [AMP,hI,hx,AA,AM];refine CLb (c1) (by simp [AG]) ?_;simp;apply RZ;simp [results80,hbad]
     | true=>
       rw [h1] at c1;cases h2:rgB 1 4 [x.ki] with
       | false=>
         have hbad:=hb (by simp [AMS,h2]);rw [h2] at c2;simp [AMP,hI,hx,AA,AM];refine CLb (c1) (by simp [AG]) ?_;simp [AA,AM];refine CLb (c2) (by simp [AG]) ?_;simp;apply RZ;simp [results80,hbad]
       | true=>
         rw [h2] at c2;cases h3:rgB 0 1000000 [x.se,x.ca] with
         | false=>
           have hbad:=hb (by simp [AMS,h3]);rw [h3] at c3;simp [AMP,hI,hx,AA,AM];refine CLb (c1) (by simp [AG]) ?_;simp [AA,AM];refine CLb (c2) (by simp [AG]) ?_;simp [AA,AM];refine CLb (c3) (by simp [Ap]) ?_;simp;apply RZ;simp [results80,hbad]
         | true=>
           rw [h3] at c3;by_cases h4:x.se<=x.ca
           . have h4':¬ x.ca<x.se:=by omega
             cases h5:spB (-12000) 12000 x.lo x.hi with
             | false=>
               have hbad:=hb (by simp [AMS,h5]);rw [h5] at c4;simp [AMP,hI,hx,AA,AM];refine CLb (c1) (by simp [AG]) ?_;simp [AA,AM];refine CLb (c2) (by simp [AG]) ?_;simp [AA,AM];refine CLb (c3) (by simp [Ap]) ?_;simp [h4'];refine CLa c4 ?_;simp;apply RZ;simp [results80,hbad]
             | true=>
               rw [h5] at c4;simp [AMP,hI,hx,AA,AM];refine CLb (c1) (by simp [AG]) ?_;simp [AA,AM];refine CLb (c2) (by simp [AG]) ?_;simp [AA,AM];refine CLb (c3) (by simp [Ap]) ?_;simp [h4'];refine CLa c4 ?_;simp [hz];refine ⟨i+1,⟨by omega,fun j hj=>?_⟩,by omega,?_⟩
               . by_cases e:j=i
                 . subst e;rw [hx];simp [AMS,h1,h2,h3,h4,h5]
                 . exact hg j (by omega)
               . exact WK hE (lk [])
           . have h4':x.ca<x.se:=by omega
             have hbad:=hb (by simp [AMS,h4]);simp [AMP,hI,hx,AA,AM];refine CLb (c1) (by simp [AG]) ?_;simp [AA,AM];refine CLb (c2) (by simp [AG]) ?_;simp [AA,AM];refine CLb (c3) (by simp [Ap]) ?_;simp [h4'];apply RZ;simp [results80,hbad]
   . have hI:¬ (i:Int)<l.length:=by omega
     have hok:AL3 l=0:=by
       unfold AL3;rw [if_neg h100,if_pos];refine List.all_eq_true.2 fun x hx=>?_
       obtain ⟨j,hj⟩:=List.getElem?_of_mem hx;have:=hg j (by have:=(List.getElem?_eq_some_iff.1 hj).1;omega);rw [hj] at this;exact this
     simp [AMP,hI];apply RZ;simp [results80,hok]
def ALW (r:Rts) (l:List Nws) (t nw:Int):Int:=if AL3 l≠0 then AL3 l else if rgB 0 100 [r.p,r.t,r.w]&&rgB 0 1000000 [t,nw] then 0 else 2
theorem ANG {H:Hp} {id:Nat} {a b c:Int} (h:H id=some [vi a,vi b,vi c]):Bor H (.ls id 0 3 1) (.d (Ch [a,b,c])):=by
 simp [Bk,h]
abbrev AMT (r:Rts):V:= .agg [vi r.p,vi r.t,vi r.w]
theorem AN2 (r:Rts) (l:List Nws) (t nw:Int) (hl:l.length<=1000000) (h:ALW r l t nw=0):Ct prog 29 [AMT r, .d (ALV l),vi 0,vi 1, .d (Ch [t,nw])] (.tup [.d (cF l r),vi 0]) []:=by
 have c0:=ASF l hl
 have hc:AL3 l=0:=by
   unfold ALW at h;by_cases e:AL3 l=0
   . exact e
   . rw [if_pos e] at h;exact absurd h e
 have h2:(rgB 0 100 [r.p,r.t,r.w]&&rgB 0 1000000 [t,nw])=true:=by
   unfold ALW at h;rw [if_neg (by simp [hc])] at h;cases e:(rgB 0 100 [r.p,r.t,r.w]&&rgB 0 1000000 [t,nw]) with
   | true=>rfl
   | false=>rw [e] at h;simp at h
 rw [Bool.and_eq_true] at h2;rw [hc] at c0;have c1:=mH 0 100 [r.p,r.t,r.w] (by simp);have c2:=mH 0 15 [0] (by simp);have c3:=mH 1 4 [1] (by simp);have c4:=mH 0 1000000 [t,nw] (by simp);rw [h2.1] at c1;rw [h2.2] at c4;rw [show rgB 0 15 [0]=true by decide] at c2;rw [show rgB 1 4 [1]=true by decide] at c3;refine Cm.freeze (?_:Ct prog 29 [AMT r, .d (ALV l),vi 0,vi 1, .d (Ch [t,nw])] (.tup [.lp 0 0,vi 0]) [(0,[.d (ALV l),vi 0,vi r.p,vi r.t,vi r.w,vi r.w])]) ?_
 . refine CB func29 c29 fun E hE=>?_
   simp [p29];refine CLa c0 ?_;simp [AA,AM];refine CLb (c1) (by simp [ANG]) ?_;simp [AA,AM];refine CLb (c2) (by simp [AG]) ?_;simp [AA,AM];refine CLb (c3) (by simp [AG]) ?_;simp;refine CLa c4 ?_;simp [AA];refine AB.by (lk [(0,47185920)]) ?_;simp [results29]
 . exact ⟨⟨[.d (ALV l),vi 0,vi r.p,vi r.t,vi r.w,vi r.w],rfl,rfl⟩, .inl rfl,trivial⟩
theorem APp (r:Rts) (l:List Nws) (t nw:Int) (hl:l.length<=1000000) (h:ALW r l t nw≠0):Ct prog 29 [AMT r, .d (ALV l),vi 0,vi 1, .d (Ch [t,nw])] (.tup [.d (.lit (.pointer none)),vi (ALW r l t nw)]) []:=by
 have c0:=ASF l hl;have c1:=mH 0 100 [r.p,r.t,r.w] (by simp);have c2:=mH 0 15 [0] (by simp);have c3:=mH 1 4 [1] (by simp);have c4:=mH 0 1000000 [t,nw] (by simp);rw [show rgB 0 15 [0]=true by decide] at c2;rw [show rgB 1 4 [1]=true by decide] at c3;by_cases hc:AL3 l=0
 case neg=>
   have e:ALW r l t nw=AL3 l:=by unfold ALW;rw [if_pos hc]
   rw [e];refine CB func29 c29 fun E hE=>?_
   simp [p29];refine CLa c0 ?_;simp [hc];apply RZ;simp [results29]
 cases h1:rgB 0 100 [r.p,r.t,r.w] with
 | false=>
   have e:ALW r l t nw=2:=by unfold ALW;rw [if_neg (by simp [hc]),h1];rfl
   rw [hc] at c0;rw [h1] at c1;rw [e];refine CB func29 c29 fun E hE=>?_
   simp [p29];refine CLa c0 ?_;simp [AA,AM];refine CLb (c1) (by simp [ANG]) ?_;simp;apply RZ;simp [results29]
 | true=>
   cases h2:rgB 0 1000000 [t,nw] with
   | true=>exact absurd (by unfold ALW;rw [if_neg (by simp [hc]),h1,h2];rfl) h
   | false=>
     have e:ALW r l t nw=2:=by unfold ALW;rw [if_neg (by simp [hc]),h1,h2];rfl
     rw [hc] at c0;rw [h1] at c1;rw [h2] at c4;rw [e];refine CB func29 c29 fun E hE=>?_
     simp [p29];refine CLa c0 ?_;simp [AA,AM];refine CLb (c1) (by simp [ANG]) ?_;simp [AA,AM];refine CLb (c2) (by simp [AG]) ?_;simp [AA,AM];refine CLb (c3) (by simp [AG]) ?_;simp;refine CLa c4 ?_;simp;apply RZ;simp [results29]
end Go.Proofs.Tryz
namespace Go.Proofs.YtnjclpglagcagaaGreat
open Go.Joins Go.ChangeShapes Go.WideShapes Go.ChangeAt Go.RowKit Go.Psl
section
variable {H:Type} {enc:TypeId × Value->H} {P:Program} {w:World} {base:Nat} {spare:Nat->Bool} {held:Bool}
theorem AMr {t0 t1 t2 t3 t4 t5 t6 t7 t8:TypeId} {args:Array Value} {ds:List (DataW H)} {ps:List MemPlace} (h:DataW.TrodAll enc P w base spare held [t0,t1,t2,t3,t4,t5,t6,t7,t8] args.toList ds ps):
   ∃ v0 v1 v2 v3 v4 v5 v6 v7 v8 d0 d1 d2 d3 d4 d5 d6 d7 d8 p0 p1 p2 p3 p4 p5 p6 p7 p8,args= #[v0,v1,v2,v3,v4,v5,v6,v7,v8]/\ds=[d0,d1,d2,d3,d4,d5,d6,d7,d8]/\ps=p0++p1++p2++p3++p4++p5++p6++p7++p8/\DataW.Trod enc P w base spare held t0 v0 d0 p0/\DataW.Trod enc P w base spare held t1 v1 d1 p1/\DataW.Trod enc P w base spare held t2 v2 d2 p2/\DataW.Trod enc P w base spare held t3 v3 d3 p3/\DataW.Trod enc P w base spare held t4 v4 d4 p4/\DataW.Trod enc P w base spare held t5 v5 d5 p5/\DataW.Trod enc P w base spare held t6 v6 d6 p6/\DataW.Trod enc P w base spare held t7 v7 d7 p7/\DataW.Trod enc P w base spare held t8 v8 d8 p8:=by
 obtain ⟨v0,vs0,d0,ds0,p0,q0,hargs,rfl,rfl,hd0,hr0⟩:=trodAll_cons h;obtain ⟨v1,vs1,d1,ds1,p1,q1,rfl,rfl,rfl,hd1,hr1⟩:=trodAll_cons hr0;obtain ⟨v2,vs2,d2,ds2,p2,q2,rfl,rfl,rfl,hd2,hr2⟩:=trodAll_cons hr1;obtain ⟨v3,vs3,d3,ds3,p3,q3,rfl,rfl,rfl,hd3,hr3⟩:=trodAll_cons hr2;obtain ⟨v4,vs4,d4,ds4,p4,q4,rfl,rfl,rfl,hd4,hr4⟩:=trodAll_cons hr3;obtain ⟨v5,vs5,d5,ds5,p5,q5,rfl,rfl,rfl,hd5,hr5⟩:=trodAll_cons hr4;obtain ⟨v6,vs6,d6,ds6,p6,q6,rfl,rfl,rfl,hd6,hr6⟩:=trodAll_cons hr5;obtain ⟨v7,vs7,d7,ds7,p7,q7,rfl,rfl,rfl,hd7,hr7⟩:=trodAll_cons hr6;obtain ⟨v8,vs8,d8,ds8,p8,q8,rfl,rfl,rfl,hd8,hr8⟩:=trodAll_cons hr7;obtain ⟨rfl,rfl,rfl⟩:=trodAll_nil hr8;exact ⟨v0,v1,v2,v3,v4,v5,v6,v7,v8,d0,d1,d2,d3,d4,d5,d6,d7,d8,p0,p1,p2,p3,p4,p5,p6,p7,p8,by cases args;simp_all,rfl,by simp,hd0,hd1,hd2,hd3,hd4,hd5,hd6,hd7,hd8⟩
end
theorem APs {n:Nat} {ds:List D} (h:Sh' Tryz.prog (n+2) 100 ds):∃ k:Go.Air.Pst,ds=Tryz.AO9 k:=by
 rw [Sh',Tryz.underlying100] at h;obtain ⟨a,r,rfl,h1,b,r2,rfl,h2,rfl⟩:=h;obtain ⟨i,rfl⟩:=BM h1;obtain ⟨j,rfl⟩:=BM h2;exact ⟨⟨i,j⟩,rfl⟩
theorem AOz {n:Nat} {ds:List D} (h:Sh' Tryz.prog (n+2) 24 ds):∃ k:Go.Air.Rts,ds=[Tryz.di k.p,Tryz.di k.t,Tryz.di k.w]:=by
 rw [Sh',Tryz.underlying24] at h;obtain ⟨a,r,rfl,h1,b,r2,rfl,h2,c,r3,rfl,h3,rfl⟩:=h;obtain ⟨i1,rfl⟩:=BM h1;obtain ⟨i2,rfl⟩:=BM h2;obtain ⟨i3,rfl⟩:=BM h3;exact ⟨⟨i1,i2,i3⟩,rfl⟩
theorem APt {n:Nat} {ds:List D} (h:Sh' Tryz.prog (n+3) 170 ds):∃ k:Go.Air.Nws,ds=Tryz.nwL k:=by
 rw [Sh',Tryz.underlying170] at h;obtain ⟨a,r,rfl,h1,b,r2,rfl,h2,c,r3,rfl,h3,d,r4,rfl,h4,e,r5,rfl,h5,rfl⟩:=h;obtain ⟨i1,rfl⟩:=BM h1;obtain ⟨i2,rfl⟩:=BM h2;obtain ⟨i3,rfl⟩:=BM h3;obtain ⟨i4,rfl⟩:=BM h4;obtain ⟨i5,rfl⟩:=CD h5;exact ⟨⟨i1,i2,i3,i4,i5.1,i5.2⟩,rfl⟩
theorem AO0:Tryz.prog.cellsOf 100=2:=by kernel_rfl
theorem AO1 {n:Nat} {ds:List D} (h:Sh' Tryz.prog (n+3) 22 ds):∃ t:List (Go.Air.Pst),ds=[.sl 2 (t.map Tryz.AO9)]:=by
 rw [Sh',Tryz.underlying22] at h;obtain ⟨es,rfl,_,h⟩:=h;obtain ⟨t,rfl⟩:=all_map (f:=Tryz.AO9) fun x hx=>APs (h x hx)
 exact ⟨t,by rw [AO0]⟩
theorem AO2:Tryz.prog.cellsOf 170=6:=by kernel_rfl
theorem AO3 {n:Nat} {ds:List D} (h:Sh' Tryz.prog (n+4) 25 ds):∃ t:List (Go.Air.Nws),ds=[.sl 6 (t.map Tryz.nwL)]:=by
 rw [Sh',Tryz.underlying25] at h;obtain ⟨es,rfl,_,h⟩:=h;obtain ⟨t,rfl⟩:=all_map (f:=Tryz.nwL) fun x hx=>APt (h x hx)
 exact ⟨t,by rw [AO2]⟩
theorem AOR {H:Type} {enc:TypeId × Value->H} {W:World} {base:Nat} {v:Value} {d:DataW H} {p:List MemPlace} (hval:Value.okWide Tryz.prog W .any base 24 v) (h:DataW.Trod enc Tryz.prog W 0 (fun _=>true) true 24 v d p):
   ∃ k:Go.Air.Rts,R2 (GW W) W (Tryz.AMT k) v:=by
 obtain ⟨ds,h1,h2⟩:=HX (n:=2) Tryz.underlying24 (by kernel_rfl) hval h;obtain ⟨k,hk⟩:=AOz h1;cases hk;exact ⟨k,h2⟩
theorem AOS {H:Type} {enc:TypeId × Value->H} {W:World} {base:Nat} {v:Value} {d:DataW H} {p:List MemPlace} (hval:Value.okWide Tryz.prog W .any base 22 v) (h:DataW.Trod enc Tryz.prog W 0 (fun _=>true) true 22 v d p):
   ∃ k:List Go.Air.Pst,R2 (GW W) W (.d (Tryz.ALO k)) v:=by
 obtain ⟨ds,h1,h2⟩:=VX (n:=3) Tryz.underlying22 (by kernel_rfl) hval h;obtain ⟨k,hk⟩:=AO1 h1;cases hk;exact ⟨k,h2⟩
theorem AOT {H:Type} {enc:TypeId × Value->H} {W:World} {base:Nat} {v:Value} {d:DataW H} {p:List MemPlace} (hval:Value.okWide Tryz.prog W .any base 25 v) (h:DataW.Trod enc Tryz.prog W 0 (fun _=>true) true 25 v d p):
   ∃ k:List Go.Air.Nws,R2 (GW W) W (.d (Tryz.ALV k)) v:=by
 obtain ⟨ds,h1,h2⟩:=VX (n:=4) Tryz.underlying25 (by kernel_rfl) hval h;obtain ⟨k,hk⟩:=AO3 h1;cases hk;exact ⟨k,h2⟩
end Go.Proofs.YtnjclpglagcagaaGreat
namespace Go.Proofs.Tryz
open Go.Psl
open Go.Air
structure SnD where
 ns:List Nws
 r:Rts
 t:Int
 nw:Int
def y3 (k:Nat):Int × Int:=if k=1 then (1000,12000) else if k=2 then (1500,3500) else (-1000,1000)
def knP (d:SnD) (i k:Nat):(Int × Int) × Int:=ALd d.r (C2 i k d.nw 0 d.ns) d.t
def knE (d:SnD) (i k:Nat):Int:=(knP d i k).2
def knV (d:SnD) (i k:Nat):Int × Int:=(max (knP d i k).1.1 (y3 k).1,min (knP d i k).1.2 (y3 k).2)
def ALQ (d:SnD) (i:Nat):Int:=if knE d i 1≠0 then knE d i 1 else if knE d i 2≠0 then knE d i 2 else if knE d i 3≠0 then knE d i 3 else knE d i 4
def ufK (d:SnD) (i:Nat):Nat->Bool->Bool
 | 0,u=>u
 | k+1,u=>ufK d i k u||decide ((knV d i (k+1)).2<(knV d i (k+1)).1)
def ufA (d:SnD):Nat->Bool
 | 0=>false
 | i+1=>ufK d i 4 (ufA d i)
def lvK (d:SnD) (p:List Pst):Nat->List Lev
 | 0=>[]
 | i+1=>lvK d p i++match p[i]? with
   | some x=>[⟨x.h,(knV d i 1).1,(knV d i 1).2,(knV d i 2).1,(knV d i 2).2⟩]
   | none=>[]
def glK (d:SnD) (p:List Pst):Nat->List Gal
 | 0=>[]
 | i+1=>glK d p i++match p[i]? with
   | some x=>[⟨x.h,(knV d i 3).1,(knV d i 3).2,(knV d i 4).1,(knV d i 4).2,x.g⟩]
   | none=>[]
theorem ALw {d:SnD} {p:List Pst} {i:Nat} {x:Pst} (h:p[i]?= some x):lvK d p (i+1)=lvK d p i++[⟨x.h,(knV d i 1).1,(knV d i 1).2,(knV d i 2).1,(knV d i 2).2⟩]:=by
 show lvK d p i++_=_
 rw [h]
theorem ALx {d:SnD} {p:List Pst} {i:Nat} {x:Pst} (h:p[i]?= some x):glK d p (i+1)=glK d p i++[⟨x.h,(knV d i 3).1,(knV d i 3).2,(knV d i 4).1,(knV d i 4).2,x.g⟩]:=by
 show glK d p i++_=_
 rw [h]
theorem ALY {d:SnD} {p:List Pst}:∀ {i:Nat},i<=p.length->(lvK d p i).length=i
 | 0,_=>rfl
 | i+1,h=>by
   obtain ⟨x,hx⟩:∃ x,p[i]?= some x:=⟨_,List.getElem?_eq_getElem (by omega)⟩
   rw [ALw hx,List.length_append,ALY (by omega)];rfl
theorem ALZ {d:SnD} {p:List Pst}:∀ {i:Nat},i<=p.length->(glK d p i).length=i
 | 0,_=>rfl
 | i+1,h=>by
   obtain ⟨x,hx⟩:∃ x,p[i]?= some x:=⟨_,List.getElem?_eq_getElem (by omega)⟩
   rw [ALx hx,List.length_append,ALZ (by omega)];rfl
structure SnO (d:SnD):Prop where
 r:OkR d.r
 n:∀ x∈d.ns,OkN x
 l:d.ns.length<=1000
 t:0<=d.t/\d.t<=1000000
def vA (d:SnD) (i k j:Nat):Int × Int:=if j<=k then knV d i j else (0,0)
abbrev vB (d:SnD) (i k:Nat):List V:=[vi 0,vi 0,vi (vA d i k 1).1,vi (vA d i k 1).2,vi (vA d i k 2).1,vi (vA d i k 2).2,vi (vA d i k 3).1,vi (vA d i k 3).2,vi (vA d i k 4).1,vi (vA d i k 4).2]
abbrev AMa:List V:=[vi 0,vi 0,vi 1000,vi 12000,vi 1500,vi 3500,vi (-1000),vi 1000,vi (-1000),vi 1000]
theorem ALa (d:SnD) (hd:SnO d) (i k:Nat):Ct prog 35 [.d (cF d.ns d.r),vi i,vi k,vi d.t,vi d.nw] (.tup [vsp (knP d i k).1.1 (knP d i k).1.2,vi (knE d i k)]) []:=
 fn35 ⟨d.ns,d.r,i,k,d.t,d.nw⟩ ⟨hd.r,hd.n,hd.l,hd.t⟩
theorem ALj {d:SnD} {i k:Nat} (hk:k<=3) (hz:∀ j,1<=j->j<=k->knE d i j=0) (h:knE d i (k+1)≠0):ALQ d i=knE d i (k+1):=by
 unfold ALQ;have hk4:k=0\/k=1\/k=2\/k=3:=by omega
 rcases hk4 with rfl | rfl | rfl | rfl
 . rw [if_pos h]
 . rw [if_neg (by simp [hz 1]),if_pos h]
 . rw [if_neg (by simp [hz 1]),if_neg (by simp [hz 2]),if_pos h]
 . rw [if_neg (by simp [hz 1]),if_neg (by simp [hz 2]),if_neg (by simp [hz 3])]
theorem AMm {d:SnD} {i:Nat} (hz:∀ j,1<=j->j<=4->knE d i j=0):ALQ d i=0:=by
 unfold ALQ;rw [if_neg (by simp [hz 1]),if_neg (by simp [hz 2]),if_neg (by simp [hz 3]),hz 4 (by omega) (by omega)]
structure NoV (e:Int) (st:St):Prop where
 a:st.fr 10= .d (.lit (.slice none 0 0))
 b:st.fr 11= .d (.lit (.slice none 0 0))
 c:st.fr 12=vi e
theorem AQB (d:SnD) (hd:SnO d) (p:List Pst) (i:Nat) (x:Pst) (u:Bool) {E:Ent} (hE:∀ i,¬ E.stab i) {Q:Av->St->Prop} (hQ:∀ e st,e=ALQ d i->e≠0->NoV e st->Q .ret st) (k:Nat) (hk:k<=4) (hz:∀ j,1<=j->j<=k->knE d i j=0):PW prog tys eqs E qI
   (DP (fun st'=>∃ y,(y<=4/\∀ j,1<=j->j<=y->knE d i j=0)/\4-y<4-k/\AI prog E st' ⟨AO [(3,vi d.t),(4,vi d.nw),(13, .d (cF d.ns d.r)),(15, .lp 1 0),(16, .d (.lit (.slice none 0 0))),(17, .d (.lit (.slice none 0 0))),(18,vb (ufK d i y u)),(19,vi i),(20, .lp 4 0),(21, .lp 5 0),(22,vi (y+1:Nat)),(54, .d (ALO p)),(55,vi p.length),(56,vi i)],lk [(1,AMa),(4,[vi x.h,vi x.g]),(5,vB d i y)],6⟩)
     (exC prog E Q 2 (fun _:Unit=>⟨AO [(3,vi d.t),(4,vi d.nw),(13, .d (cF d.ns d.r)),(15, .lp 1 0),(16, .d (.lit (.slice none 0 0))),(17, .d (.lit (.slice none 0 0))),(18,vb (ufK d i 4 u)),(20, .lp 4 0),(21, .lp 5 0),(54, .d (ALO p)),(55,vi p.length),(56,vi i)],lk [(1,AMa),(4,[vi x.h,vi x.g]),(5,vB d i 4)],6⟩) (fun _=>∀ j,1<=j->j<=4->knE d i j=0)))
   ⟨AO [(3,vi d.t),(4,vi d.nw),(13, .d (cF d.ns d.r)),(15, .lp 1 0),(16, .d (.lit (.slice none 0 0))),(17, .d (.lit (.slice none 0 0))),(18,vb (ufK d i k u)),(19,vi i),(20, .lp 4 0),(21, .lp 5 0),(22,vi (k+1:Nat)),(54, .d (ALO p)),(55,vi p.length),(56,vi i)],lk [(1,AMa),(4,[vi x.h,vi x.g]),(5,vB d i k)],6⟩:=by
 have hk5:k=0\/k=1\/k=2\/k=3\/k=4:=by omega
 rcases hk5 with rfl | rfl | rfl | rfl | rfl
 . have ck:=ALa d hd i 1
   have ct:=qF (knP d i 1).1.1 (knP d i 1).1.2 (y3 1).1 (y3 1).2;have e1:max (knP d i 1).1.1 (y3 1).1=(knV d i 1).1:=rfl;have e2:min (knP d i 1).1.2 (y3 1).2=(knV d i 1).2:=rfl;rw [e1,e2] at ct;have hlim:y3 1=(1000,12000):=rfl;rw [hlim] at ct;have hw:IntKind.wrap .i64 2=2:=AD (by omega) (by omega);by_cases he:knE d i 1=0
   . rw [he] at ck
     have hu:ufK d i 1 u=(ufK d i 0 u||decide ((knV d i 1).2<(knV d i 1).1)):=rfl
     have hz1:∀ j,1<=j->j<=1->knE d i j=0:=fun j h1 h2=>by
       by_cases e:j=1
       . rw [e];exact he
       . exact hz j h1 (by omega)
     simp [qI];refine CLa ck ?_;simp [AA,AM,inC,Nat.testBit];refine CLb (ct) (by first | (simp;done) | simp [Bk,inC,Nat.testBit]) ?_;cases huK:ufK d i 0 u with
     | true=>
       rw [huK] at hu;simp [AA,vA,hw];refine ⟨1,⟨by omega,hz1⟩,by omega,?_⟩;rw [hu];refine AI.mk hE (lk [(1,1),(4,4),(5,5)]) _ _ _ ?_ ?_ ?_ ?_ ?_<;>simp [vA]
     | false=>
       rw [huK] at hu;simp [AA,inC,Nat.testBit,vA,hw];refine ⟨1,⟨by omega,hz1⟩,by omega,?_⟩;rw [hu];refine AI.mk hE (lk [(1,1),(4,4),(5,5)]) _ _ _ ?_ ?_ ?_ ?_ ?_<;>simp [vA]
   . simp [qI]
     refine CLa ck ?_;simp [AA,he];exact hQ _ _ (ALj (k:=0) (by omega) hz he).symm he ⟨by simp,by simp,by simp⟩
 . have ck:=ALa d hd i 2
   have ct:=qF (knP d i 2).1.1 (knP d i 2).1.2 (y3 2).1 (y3 2).2;have e1:max (knP d i 2).1.1 (y3 2).1=(knV d i 2).1:=rfl;have e2:min (knP d i 2).1.2 (y3 2).2=(knV d i 2).2:=rfl;rw [e1,e2] at ct;have hlim:y3 2=(1500,3500):=rfl;rw [hlim] at ct;have hw:IntKind.wrap .i64 3=3:=AD (by omega) (by omega);by_cases he:knE d i 2=0
   . rw [he] at ck
     have hu:ufK d i 2 u=(ufK d i 1 u||decide ((knV d i 2).2<(knV d i 2).1)):=rfl
     have hz1:∀ j,1<=j->j<=2->knE d i j=0:=fun j h1 h2=>by
       by_cases e:j=2
       . rw [e];exact he
       . exact hz j h1 (by omega)
     simp [qI];refine CLa ck ?_;simp [AA,AM,inC,Nat.testBit];refine CLb (ct) (by first | (simp;done) | simp [Bk,inC,Nat.testBit]) ?_;cases huK:ufK d i 1 u with
     | true=>
       rw [huK] at hu;simp [AA,vA,hw];refine ⟨2,⟨by omega,hz1⟩,by omega,?_⟩;rw [hu];refine AI.mk hE (lk [(1,1),(4,4),(5,5)]) _ _ _ ?_ ?_ ?_ ?_ ?_<;>simp [vA]
     | false=>
       rw [huK] at hu;simp [AA,inC,Nat.testBit,vA,hw];refine ⟨2,⟨by omega,hz1⟩,by omega,?_⟩;rw [hu];refine AI.mk hE (lk [(1,1),(4,4),(5,5)]) _ _ _ ?_ ?_ ?_ ?_ ?_<;>simp [vA]
   . simp [qI]
     refine CLa ck ?_;simp [AA,he];exact hQ _ _ (ALj (k:=1) (by omega) hz he).symm he ⟨by simp,by simp,by simp⟩
 . have ck:=ALa d hd i 3
   have ct:=qF (knP d i 3).1.1 (knP d i 3).1.2 (y3 3).1 (y3 3).2;have e1:max (knP d i 3).1.1 (y3 3).1=(knV d i 3).1:=rfl;have e2:min (knP d i 3).1.2 (y3 3).2=(knV d i 3).2:=rfl;rw [e1,e2] at ct;have hlim:y3 3=(-1000,1000):=rfl;rw [hlim] at ct;have hw:IntKind.wrap .i64 4=4:=AD (by omega) (by omega);by_cases he:knE d i 3=0
   . rw [he] at ck
     have hu:ufK d i 3 u=(ufK d i 2 u||decide ((knV d i 3).2<(knV d i 3).1)):=rfl
     have hz1:∀ j,1<=j->j<=3->knE d i j=0:=fun j h1 h2=>by
       by_cases e:j=3
       . rw [e];exact he
       . exact hz j h1 (by omega)
     simp [qI];refine CLa ck ?_;simp [AA,AM,inC,Nat.testBit];refine CLb (ct) (by first | (simp;done) | simp [Bk,inC,Nat.testBit]) ?_;cases huK:ufK d i 2 u with
     | true=>
       rw [huK] at hu;simp [AA,vA,hw];refine ⟨3,⟨by omega,hz1⟩,by omega,?_⟩;rw [hu];refine AI.mk hE (lk [(1,1),(4,4),(5,5)]) _ _ _ ?_ ?_ ?_ ?_ ?_<;>simp [vA]
     | false=>
       rw [huK] at hu;simp [AA,inC,Nat.testBit,vA,hw];refine ⟨3,⟨by omega,hz1⟩,by omega,?_⟩;rw [hu];refine AI.mk hE (lk [(1,1),(4,4),(5,5)]) _ _ _ ?_ ?_ ?_ ?_ ?_<;>simp [vA]
   . simp [qI]
     refine CLa ck ?_;simp [AA,he];exact hQ _ _ (ALj (k:=2) (by omega) hz he).symm he ⟨by simp,by simp,by simp⟩
 . have ck:=ALa d hd i 4
   have ct:=qF (knP d i 4).1.1 (knP d i 4).1.2 (y3 4).1 (y3 4).2;have e1:max (knP d i 4).1.1 (y3 4).1=(knV d i 4).1:=rfl;have e2:min (knP d i 4).1.2 (y3 4).2=(knV d i 4).2:=rfl;rw [e1,e2] at ct;have hlim:y3 4=(-1000,1000):=rfl;rw [hlim] at ct;have hw:IntKind.wrap .i64 5=5:=AD (by omega) (by omega);by_cases he:knE d i 4=0
   . rw [he] at ck
     have hu:ufK d i 4 u=(ufK d i 3 u||decide ((knV d i 4).2<(knV d i 4).1)):=rfl
     have hz1:∀ j,1<=j->j<=4->knE d i j=0:=fun j h1 h2=>by
       by_cases e:j=4
       . rw [e];exact he
       . exact hz j h1 (by omega)
     simp [qI];refine CLa ck ?_;simp [AA,AM,inC,Nat.testBit];refine CLb (ct) (by first | (simp;done) | simp [Bk,inC,Nat.testBit]) ?_;cases huK:ufK d i 3 u with
     | true=>
       rw [huK] at hu;simp [AA,vA,hw];refine ⟨4,⟨by omega,hz1⟩,by omega,?_⟩;rw [hu];refine AI.mk hE (lk [(1,1),(4,4),(5,5)]) _ _ _ ?_ ?_ ?_ ?_ ?_<;>simp [vA]
     | false=>
       rw [huK] at hu;simp [AA,inC,Nat.testBit,vA,hw];refine ⟨4,⟨by omega,hz1⟩,by omega,?_⟩;rw [hu];refine AI.mk hE (lk [(1,1),(4,4),(5,5)]) _ _ _ ?_ ?_ ?_ ?_ ?_<;>simp [vA]
   . simp [qI]
     refine CLa ck ?_;simp [AA,he];exact hQ _ _ (ALj (k:=3) (by omega) hz he).symm he ⟨by simp,by simp,by simp⟩
 . simp [qI]
   refine ⟨hz,?_⟩;exact WK hE (lk [(1,1),(4,4),(5,5)])
theorem AQC (d:SnD) (hd:SnO d) (p:List Pst) (i:Nat) (x:Pst) (u:Bool) (L:List Lev) (G:List Gal) {E:Ent} (hE:∀ i,¬ E.stab i) {Q:Av->St->Prop} (hQ:∀ e st,e=ALQ d i->e≠0->NoV e st->Q .ret st) (k:Nat) (hk:k<=4) (hz:∀ j,1<=j->j<=k->knE d i j=0):PW prog tys eqs E qI
   (DP (fun st'=>∃ y,(y<=4/\∀ j,1<=j->j<=y->knE d i j=0)/\4-y<4-k/\AI prog E st' ⟨AO [(3,vi d.t),(4,vi d.nw),(13, .d (cF d.ns d.r)),(15, .lp 1 0),(16, .ls 2 0 L.length 5),(17, .ls 3 0 G.length 6),(18,vb (ufK d i y u)),(19,vi i),(20, .lp 4 0),(21, .lp 5 0),(22,vi (y+1:Nat)),(54, .d (ALO p)),(55,vi p.length),(56,vi i)],lk [(1,AMa),(4,[vi x.h,vi x.g]),(5,vB d i y),(2,AH A5 L),(3,AH galL G)],6⟩)
     (exC prog E Q 2 (fun _:Unit=>⟨AO [(3,vi d.t),(4,vi d.nw),(13, .d (cF d.ns d.r)),(15, .lp 1 0),(16, .ls 2 0 L.length 5),(17, .ls 3 0 G.length 6),(18,vb (ufK d i 4 u)),(20, .lp 4 0),(21, .lp 5 0),(54, .d (ALO p)),(55,vi p.length),(56,vi i)],lk [(1,AMa),(4,[vi x.h,vi x.g]),(5,vB d i 4),(2,AH A5 L),(3,AH galL G)],6⟩) (fun _=>∀ j,1<=j->j<=4->knE d i j=0)))
   ⟨AO [(3,vi d.t),(4,vi d.nw),(13, .d (cF d.ns d.r)),(15, .lp 1 0),(16, .ls 2 0 L.length 5),(17, .ls 3 0 G.length 6),(18,vb (ufK d i k u)),(19,vi i),(20, .lp 4 0),(21, .lp 5 0),(22,vi (k+1:Nat)),(54, .d (ALO p)),(55,vi p.length),(56,vi i)],lk [(1,AMa),(4,[vi x.h,vi x.g]),(5,vB d i k),(2,AH A5 L),(3,AH galL G)],6⟩:=by
 have hk5:k=0\/k=1\/k=2\/k=3\/k=4:=by omega
 rcases hk5 with rfl | rfl | rfl | rfl | rfl
 . have ck:=ALa d hd i 1
   have ct:=qF (knP d i 1).1.1 (knP d i 1).1.2 (y3 1).1 (y3 1).2;have e1:max (knP d i 1).1.1 (y3 1).1=(knV d i 1).1:=rfl;have e2:min (knP d i 1).1.2 (y3 1).2=(knV d i 1).2:=rfl;rw [e1,e2] at ct;have hlim:y3 1=(1000,12000):=rfl;rw [hlim] at ct;have hw:IntKind.wrap .i64 2=2:=AD (by omega) (by omega);by_cases he:knE d i 1=0
   . rw [he] at ck
     have hu:ufK d i 1 u=(ufK d i 0 u||decide ((knV d i 1).2<(knV d i 1).1)):=rfl
     have hz1:∀ j,1<=j->j<=1->knE d i j=0:=fun j h1 h2=>by
       by_cases e:j=1
       . rw [e];exact he
       . exact hz j h1 (by omega)
     simp [qI];refine CLa ck ?_;simp [AA,AM,inC,Nat.testBit];refine CLb (ct) (by first | (simp;done) | simp [Bk,inC,Nat.testBit]) ?_;cases huK:ufK d i 0 u with
     | true=>
       rw [huK] at hu;simp [AA,vA,hw];refine ⟨1,⟨by omega,hz1⟩,by omega,?_⟩;rw [hu];refine AI.mk hE (lk [(1,1),(4,4),(5,5),(2,2),(3,3)]) _ _ _ ?_ ?_ ?_ ?_ ?_<;>simp [vA]
     | false=>
       rw [huK] at hu;simp [AA,inC,Nat.testBit,vA,hw];refine ⟨1,⟨by omega,hz1⟩,by omega,?_⟩;rw [hu];refine AI.mk hE (lk [(1,1),(4,4),(5,5),(2,2),(3,3)]) _ _ _ ?_ ?_ ?_ ?_ ?_<;>simp [vA]
   . simp [qI]
     refine CLa ck ?_;simp [AA,he];exact hQ _ _ (ALj (k:=0) (by omega) hz he).symm he ⟨by simp,by simp,by simp⟩
 . have ck:=ALa d hd i 2
   have ct:=qF (knP d i 2).1.1 (knP d i 2).1.2 (y3 2).1 (y3 2).2;have e1:max (knP d i 2).1.1 (y3 2).1=(knV d i 2).1:=rfl;have e2:min (knP d i 2).1.2 (y3 2).2=(knV d i 2).2:=rfl;rw [e1,e2] at ct;have hlim:y3 2=(1500,3500):=rfl;rw [hlim] at ct;have hw:IntKind.wrap .i64 3=3:=AD (by omega) (by omega);by_cases he:knE d i 2=0
   . rw [he] at ck
     have hu:ufK d i 2 u=(ufK d i 1 u||decide ((knV d i 2).2<(knV d i 2).1)):=rfl
     have hz1:∀ j,1<=j->j<=2->knE d i j=0:=fun j h1 h2=>by
       by_cases e:j=2
       . rw [e];exact he
       . exact hz j h1 (by omega)
     simp [qI];refine CLa ck ?_;simp [AA,AM,inC,Nat.testBit];refine CLb (ct) (by first | (simp;done) | simp [Bk,inC,Nat.testBit]) ?_;cases huK:ufK d i 1 u with
     | true=>
       rw [huK] at hu;simp [AA,vA,hw];refine ⟨2,⟨by omega,hz1⟩,by omega,?_⟩;rw [hu];refine AI.mk hE (lk [(1,1),(4,4),(5,5),(2,2),(3,3)]) _ _ _ ?_ ?_ ?_ ?_ ?_<;>simp [vA]
     | false=>
       rw [huK] at hu;simp [AA,inC,Nat.testBit,vA,hw];refine ⟨2,⟨by omega,hz1⟩,by omega,?_⟩;rw [hu];refine AI.mk hE (lk [(1,1),(4,4),(5,5),(2,2),(3,3)]) _ _ _ ?_ ?_ ?_ ?_ ?_<;>simp [vA]
   . simp [qI]
     refine CLa ck ?_;simp [AA,he];exact hQ _ _ (ALj (k:=1) (by omega) hz he).symm he ⟨by simp,by simp,by simp⟩
 . have ck:=ALa d hd i 3
   have ct:=qF (knP d i 3).1.1 (knP d i 3).1.2 (y3 3).1 (y3 3).2;have e1:max (knP d i 3).1.1 (y3 3).1=(knV d i 3).1:=rfl;have e2:min (knP d i 3).1.2 (y3 3).2=(knV d i 3).2:=rfl;rw [e1,e2] at ct;have hlim:y3 3=(-1000,1000):=rfl;rw [hlim] at ct;have hw:IntKind.wrap .i64 4=4:=AD (by omega) (by omega);by_cases he:knE d i 3=0
   . rw [he] at ck
     have hu:ufK d i 3 u=(ufK d i 2 u||decide ((knV d i 3).2<(knV d i 3).1)):=rfl
     have hz1:∀ j,1<=j->j<=3->knE d i j=0:=fun j h1 h2=>by
       by_cases e:j=3
       . rw [e];exact he
       . exact hz j h1 (by omega)
     simp [qI];refine CLa ck ?_;simp [AA,AM,inC,Nat.testBit];refine CLb (ct) (by first | (simp;done) | simp [Bk,inC,Nat.testBit]) ?_;cases huK:ufK d i 2 u with
     | true=>
       rw [huK] at hu;simp [AA,vA,hw];refine ⟨3,⟨by omega,hz1⟩,by omega,?_⟩;rw [hu];refine AI.mk hE (lk [(1,1),(4,4),(5,5),(2,2),(3,3)]) _ _ _ ?_ ?_ ?_ ?_ ?_<;>simp [vA]
     | false=>
       rw [huK] at hu;simp [AA,inC,Nat.testBit,vA,hw];refine ⟨3,⟨by omega,hz1⟩,by omega,?_⟩;rw [hu];refine AI.mk hE (lk [(1,1),(4,4),(5,5),(2,2),(3,3)]) _ _ _ ?_ ?_ ?_ ?_ ?_<;>simp [vA]
   . simp [qI]
     refine CLa ck ?_;simp [AA,he];exact hQ _ _ (ALj (k:=2) (by omega) hz he).symm he ⟨by simp,by simp,by simp⟩
 . have ck:=ALa d hd i 4
   have ct:=qF (knP d i 4).1.1 (knP d i 4).1.2 (y3 4).1 (y3 4).2;have e1:max (knP d i 4).1.1 (y3 4).1=(knV d i 4).1:=rfl;have e2:min (knP d i 4).1.2 (y3 4).2=(knV d i 4).2:=rfl;rw [e1,e2] at ct;have hlim:y3 4=(-1000,1000):=rfl;rw [hlim] at ct;have hw:IntKind.wrap .i64 5=5:=AD (by omega) (by omega);by_cases he:knE d i 4=0
   . rw [he] at ck
     have hu:ufK d i 4 u=(ufK d i 3 u||decide ((knV d i 4).2<(knV d i 4).1)):=rfl
     have hz1:∀ j,1<=j->j<=4->knE d i j=0:=fun j h1 h2=>by
       by_cases e:j=4
       . rw [e];exact he
       . exact hz j h1 (by omega)
     simp [qI];refine CLa ck ?_;simp [AA,AM,inC,Nat.testBit];refine CLb (ct) (by first | (simp;done) | simp [Bk,inC,Nat.testBit]) ?_;cases huK:ufK d i 3 u with
     | true=>
       rw [huK] at hu;simp [AA,vA,hw];refine ⟨4,⟨by omega,hz1⟩,by omega,?_⟩;rw [hu];refine AI.mk hE (lk [(1,1),(4,4),(5,5),(2,2),(3,3)]) _ _ _ ?_ ?_ ?_ ?_ ?_<;>simp [vA]
     | false=>
       rw [huK] at hu;simp [AA,inC,Nat.testBit,vA,hw];refine ⟨4,⟨by omega,hz1⟩,by omega,?_⟩;rw [hu];refine AI.mk hE (lk [(1,1),(4,4),(5,5),(2,2),(3,3)]) _ _ _ ?_ ?_ ?_ ?_ ?_<;>simp [vA]
   . simp [qI]
     refine CLa ck ?_;simp [AA,he];exact hQ _ _ (ALj (k:=3) (by omega) hz he).symm he ⟨by simp,by simp,by simp⟩
 . simp [qI]
   refine ⟨hz,?_⟩;exact WK hE (lk [(1,1),(4,4),(5,5),(2,2),(3,3)])
abbrev Nv:V:= .d (.lit (.slice none 0 0))
theorem AQ4:∀ x:Lev,(A5 x).length=5:=fun _=>rfl
theorem AQ5:∀ x:Gal,(galL x).length=6:=fun _=>rfl
@[simp] theorem ASr {α:Type} {f:α->List D} {l:List α} {a b c d e g:D}:Bv (AH f l++[V.d a,V.d b,V.d c,V.d d,V.d e,V.d g])=True:=eq_true (FO rfl)
theorem APd (ns:List Nws) (r:Rts) (t nw:Int) (d:SnD) (hdd:d=⟨ns,r,t,nw⟩) (hd:SnO d) (p:List Pst) (hp:p.length<=1000) (ho:ALW r ns t nw=0) (hc:AMR p=true) (hg:p.any (fun x=>!rgB 0 500 [x.g])=false) (R:V) (L1:List (Nat × List V)) (hRI:LD R L1)
   (hErr:∀ i,i<p.length->(∀ j,j<i->ALQ d j=0)->ALQ d i≠0->R= .tup [Nv,Nv,vi (ALQ d i)]/\L1=[])
   (h21:(∀ j,j<p.length->ALQ d j=0)->ufA d p.length=true->R= .tup [Nv,Nv,vi 21]/\L1=[])
   (hOk:(∀ j,j<p.length->ALQ d j=0)->ufA d p.length=false->R= .tup [.ls 0 0 p.length 5, .ls 1 0 p.length 6,vi 0]/\L1=[(0,AH A5 (lvK d p p.length)),(1,AH galL (glK d p p.length))]):
   Ct prog 10 [.d (ALO p),AMT r, .d (ALV ns),vi t,vi nw] R L1:=by
 have hdt:d.t=t:=by rw [hdd]
 have hdn:d.nw=nw:=by rw [hdd]
 have hdr:cF d.ns d.r=cF ns r:=by rw [hdd]
 have hl2:ns.length<=1000:=by have:=hd.l;rw [hdd] at this;exact this
 have c0:=AN2 r ns t nw (by omega) ho;have c1:=ASa p (by omega);rw [hc] at c1;have c2:=yy p 33 [] (fun x=>!rgB 0 500 [x.g]) (by omega) fun x _=>ASZ x
 rw [hg] at c2;have z:∀ (H:Hp) (x:Int),FzC H (vi x) (vi x):=fun H x=>⟨_,rfl, .inl rfl⟩
 have c0:Cm prog 29 [AMT r, .d (ALV ns),vi 0,vi 1, .ls 8388608 0 2 1] (lk [(8388608,[vi t,vi nw])]) [] _ _:=Cm.give c0 ⟨⟨z _ _,z _ _,z _ _,trivial⟩, .inl rfl, .inl rfl, .inl rfl,Ap (by simp [lk]),trivial⟩
 have hp2:2<=p.length:=by
   unfold AMR at hc;rw [Bool.and_eq_true] at hc;have:=hc.2;simp [rgB] at this;omega
 refine Ct.by gok eok mixed func10 c10 rfl (by simp [ntmps10]) (by simp) hRI fun E hE=>?_
 simp [p10,AA,AM];refine CRs c0 (by simp) ?_;simp;refine CLa c1 ?_;simp;refine CLa c2 ?_;simp [AA];refine Al (α:=Nat) (fun i=>⟨AO [(3,vi d.t),(4,vi d.nw),(13, .d (cF d.ns d.r)),(15, .lp 1 0),(16,hdF 5 (lvK d p i) 2),(17,hdF 6 (glK d p i) 3),(18,vb (ufA d i)),(54, .d (ALO p)),(55,vi p.length),(56,vi i)],lk ([(1,AMa)]++(ouF A5 (lvK d p i) 2++ouF galL (glK d p i) 3)),4⟩) (fun i=>i<=p.length/\∀ j,j<i->ALQ d j=0) (fun i=>p.length-i) 0 ?_ ?_ ?_
 . exact ⟨by omega,fun j hj=>by omega⟩
 . rw [show lvK d p 0=[] from rfl,show glK d p 0=[] from rfl,Aq,Au,Aq,Au,show ufA d 0=false from rfl,hdt,hdn,hdr]
   exact WK hE (lk [(1,35651584)])
 . rintro i ⟨hi,hz⟩
   by_cases h:i<p.length
   . obtain ⟨x,hx⟩:=gE h
     have hI:(i:Int)<p.length:=by omega
     have hw:=@wz i (by omega);have hlx:=ALw (d:=d) hx;have hgx:=ALx (d:=d) hx;by_cases h0:i=0
     . have g1:lvK d p i=[]:=by rw [h0];rfl
       have g2:glK d p i=[]:=by rw [h0];rfl
       rw [g1,g2,Aq,Au,Aq,Au];rw [g1] at hlx;rw [g2] at hgx;simp [qJ,hI,hx,AA];refine BL (α:=Nat) 2 (fun _:Unit=>⟨AO [(3,vi d.t),(4,vi d.nw),(13, .d (cF d.ns d.r)),(15, .lp 1 0),(16,Nv),(17,Nv),(18,vb (ufK d i 4 (ufA d i))),(20, .lp 4 0),(21, .lp 5 0),(54, .d (ALO p)),(55,vi p.length),(56,vi i)],lk [(1,AMa),(4,[vi x.h,vi x.g]),(5,vB d i 4)],6⟩) (fun _=>∀ j,1<=j->j<=4->knE d i j=0) (fun y=>⟨AO [(3,vi d.t),(4,vi d.nw),(13, .d (cF d.ns d.r)),(15, .lp 1 0),(16,Nv),(17,Nv),(18,vb (ufK d i y (ufA d i))),(19,vi i),(20, .lp 4 0),(21, .lp 5 0),(22,vi (y+1:Nat)),(54, .d (ALO p)),(55,vi p.length),(56,vi i)],lk [(1,AMa),(4,[vi x.h,vi x.g]),(5,vB d i y)],6⟩) (fun y=>y<=4/\∀ j,1<=j->j<=y->knE d i j=0) (fun y=>4-y) 0 ?_ ?_ (fun y hy=>AQB d hd p i x (ufA d i) hE ?_ y hy.1 hy.2) fun _ hz4=>?_
       . exact ⟨by omega,fun j h1 h2=>by omega⟩
       . refine AI.mk hE (lk [(1,1),(4,4194308),(5,7340036)]) _ _ _ ?_ ?_ ?_ ?_ ?_<;>simp [ufK,vA]
       . intro e st he hne hn
         subst he;obtain ⟨rfl,rfl⟩:=hErr i h hz hne;simp;apply RZ;simp [results10,hn.a,hn.b,hn.c]
       have hps:=AMm hz4;simp [AA,AM,hw,vA];refine ⟨i+1,⟨by omega,fun j hj=>by rw [show j=i by omega];exact hps⟩,by omega,?_⟩;rw [hlx,hgx,List.nil_append,List.nil_append,Ak (by simp),Ak (by simp),AZ (by simp),AZ (by simp),show ufA d (i+1)=ufK d i 4 (ufA d i) from rfl];refine AI.mk hE (lk [(1,1),(2,9437190),(3,24117254)]) _ _ _ ?_ ?_ ?_ ?_ ?_<;>simp [AH]
     . have n1:lvK d p i≠[]:=fun e=>by have:=ALY (d:=d) hi;rw [e] at this;simp at this;omega
       have n2:glK d p i≠[]:=fun e=>by have:=ALZ (d:=d) hi;rw [e] at this;simp at this;omega
       have l1:=ALY (d:=d) hi;have l2:=ALZ (d:=d) hi;rw [Ak n1,Ak n2,AZ n1,AZ n2]
       generalize lvK d p i=L at*
       generalize glK d p i=G at*
       simp [qJ,hI,hx,AA];refine BL (α:=Nat) 2 (fun _:Unit=>⟨AO [(3,vi d.t),(4,vi d.nw),(13, .d (cF d.ns d.r)),(15, .lp 1 0),(16, .ls 2 0 L.length 5),(17, .ls 3 0 G.length 6),(18,vb (ufK d i 4 (ufA d i))),(20, .lp 4 0),(21, .lp 5 0),(54, .d (ALO p)),(55,vi p.length),(56,vi i)],lk [(1,AMa),(4,[vi x.h,vi x.g]),(5,vB d i 4),(2,AH A5 L),(3,AH galL G)],6⟩) (fun _=>∀ j,1<=j->j<=4->knE d i j=0) (fun y=>⟨AO [(3,vi d.t),(4,vi d.nw),(13, .d (cF d.ns d.r)),(15, .lp 1 0),(16, .ls 2 0 L.length 5),(17, .ls 3 0 G.length 6),(18,vb (ufK d i y (ufA d i))),(19,vi i),(20, .lp 4 0),(21, .lp 5 0),(22,vi (y+1:Nat)),(54, .d (ALO p)),(55,vi p.length),(56,vi i)],lk [(1,AMa),(4,[vi x.h,vi x.g]),(5,vB d i y),(2,AH A5 L),(3,AH galL G)],6⟩) (fun y=>y<=4/\∀ j,1<=j->j<=y->knE d i j=0) (fun y=>4-y) 0 ?_ ?_ (fun y hy=>AQC d hd p i x (ufA d i) L G hE ?_ y hy.1 hy.2) fun _ hz4=>?_
       . exact ⟨by omega,fun j h1 h2=>by omega⟩
       . refine AI.mk hE (lk [(1,1),(4,4194308),(5,7340036),(2,2),(3,3)]) _ _ _ ?_ ?_ ?_ ?_ ?_<;>simp [ufK,vA]
       . intro e st he hne hn
         subst he;obtain ⟨rfl,rfl⟩:=hErr i h hz hne;simp;apply RZ;simp [results10,hn.a,hn.b,hn.c]
       have hps:=AMm hz4;have s1:=Aw AQ4 L;have s2:=E9 AQ4 L;have s3:=Aw AQ5 G;have s4:=E9 AQ5 G;have m1:(L.length+1)*40<=140737488355328:=by omega
       have m2:L.length+1<=9223372036854775807:=by omega
       have m3:(G.length+1)*48<=140737488355328:=by omega
       have m4:G.length+1<=9223372036854775807:=by omega
       simp [AA,AM,hw,vA,s1,s2,s3,s4,m1,m2,m3,m4]
       refine ⟨i+1,⟨by omega,fun j hj=>by
         by_cases e:j=i
         . rw [e];exact hps
         . exact hz j (by omega)⟩,by omega,?_⟩
       rw [hlx,hgx,Ak (by simp),Ak (by simp),AZ (by simp),AZ (by simp),IV,IV,show ufA d (i+1)=ufK d i 4 (ufA d i) from rfl];exact WK hE (lk [(1,1),(2,9437190),(3,24117254)])
   . have hI:¬ (i:Int)<p.length:=by omega
     have e:i=p.length:=by omega
     subst e;have n1:lvK d p p.length≠[]:=fun e=>by have:=ALY (d:=d) hi;rw [e] at this;simp at this;omega
     have n2:glK d p p.length≠[]:=fun e=>by have:=ALZ (d:=d) hi;rw [e] at this;simp at this;omega
     have l1:=ALY (d:=d) hi;have l2:=ALZ (d:=d) hi;rw [Ak n1,Ak n2,AZ n1,AZ n2];cases hu:ufA d p.length with
     | true=>
       obtain ⟨rfl,rfl⟩:=h21 hz hu;simp [qJ,hI];apply RZ;simp [results10]
     | false=>
       obtain ⟨rfl,rfl⟩:=hOk hz hu;simp [qJ,hI,l1,l2];refine AB.by (lk [(0,2),(1,3)]) ?_;simp [results10]
def ALT (p:List Pst) (r:Rts) (ns:List Nws) (t nw:Int):(List Lev × List Gal) × Int:=
 if ALW r ns t nw≠0 then (([],[]),ALW r ns t nw)
 else if !AMR p||p.any (fun x=>!rgB 0 500 [x.g]) then (([],[]),2)
 else match (List.range p.length).find? fun i=>decide (ALQ ⟨ns,r,t,nw⟩ i≠0) with
   | some i=>(([],[]),ALQ ⟨ns,r,t,nw⟩ i)
   | none=>if ufA ⟨ns,r,t,nw⟩ p.length then (([],[]),21) else ((lvK ⟨ns,r,t,nw⟩ p p.length,glK ⟨ns,r,t,nw⟩ p p.length),0)
theorem AQ6 {r:Rts} {ns:List Nws} {t nw:Int} (h:ALW r ns t nw=0):SnO ⟨ns,r,t,nw⟩/\(0<=nw/\nw<=1000000)/\ns.length<=100:=by
 unfold ALW at h;by_cases hc:AL3 ns=0
 . rw [if_neg (by simp [hc])] at h
   have h2:(rgB 0 100 [r.p,r.t,r.w]&&rgB 0 1000000 [t,nw])=true:=by
     cases e:(rgB 0 100 [r.p,r.t,r.w]&&rgB 0 1000000 [t,nw]) with
     | true=>rfl
     | false=>rw [e] at h;simp at h
   rw [Bool.and_eq_true] at h2;simp [rgB] at h2;unfold AL3 at hc;split at hc
   . cases hc
   . rename_i hl
     split at hc
     . rename_i ha
       have hr:OkR r:=⟨by omega,by omega,by omega⟩
       exact ⟨⟨hr,fun x hx=>AQd (List.all_eq_true.1 ha x hx),by show ns.length<=1000;omega,by show 0<=t/\t<=1000000;omega⟩,by omega,by omega⟩
     . cases hc
 . rw [if_pos hc] at h
   exact absurd h hc
theorem ANE {α:Type} {f:α->List D} {sz b:Nat} (hf:∀ x,(f x).length=sz) {H:Hp} {l:List α} (h:H b=some (AH f l)):Fz1 H (.ls b 0 l.length sz) (.d (slD f sz l)):=B0 hf h
theorem APe {H:Hp} {sz:Nat}:Fz1 H Nv (.d (.sl sz [])):=Or.inr ⟨rfl,sz,rfl⟩
theorem AMF {p:List Pst} {r:Rts} {ns:List Nws} {t nw e:Int} (h:Ct prog 10 [.d (ALO p),AMT r, .d (ALV ns),vi t,vi nw] (.tup [Nv,Nv,vi e]) []):Ct prog 10 [.d (ALO p),AMT r, .d (ALV ns),vi t,vi nw] (.tup [.d (BF []), .d (cT []),vi e]) []:=
 Cm.freeze h ⟨APe,APe,Or.inl rfl,trivial⟩
theorem AQH (p:List Pst) (r:Rts) (ns:List Nws) (t nw:Int) (hp:p.length<=1000) (hn:ns.length<=1000000):Ct prog 10 [.d (ALO p),AMT r, .d (ALV ns),vi t,vi nw] (.tup [.d (BF (ALT p r ns t nw).1.1), .d (cT (ALT p r ns t nw).1.2),vi (ALT p r ns t nw).2]) []:=by
 by_cases ho:ALW r ns t nw=0
 case neg=>
   have e:ALT p r ns t nw=(([],[]),ALW r ns t nw):=by unfold ALT;rw [if_pos ho]
   have c0:=APp r ns t nw hn ho;rw [e];refine AMF ?_;refine CB func10 c10 fun E hE=>?_
   simp [p10,AA,AM];refine CLb (c0) (by simp [Ap]) ?_;simp [ho];apply RZ;simp [results10]
 have c0:=AN2 r ns t nw hn ho;have z:∀ (H:Hp) (x:Int),FzC H (vi x) (vi x):=fun H x=>⟨_,rfl, .inl rfl⟩
 have c0:Cm prog 29 [AMT r, .d (ALV ns),vi 0,vi 1, .ls 8388608 0 2 1] (lk [(8388608,[vi t,vi nw])]) [] _ _:=Cm.give c0 ⟨⟨z _ _,z _ _,z _ _,trivial⟩, .inl rfl, .inl rfl, .inl rfl,Ap (by simp [lk]),trivial⟩;have c1:=ASa p (by omega);have c2:=yy p 33 [] (fun x=>!rgB 0 500 [x.g]) (by omega) fun x _=>ASZ x
 cases hc:AMR p with
 | false=>
   have e:ALT p r ns t nw=(([],[]),2):=by unfold ALT;rw [if_neg (by simp [ho]),hc];rfl
   rw [hc] at c1;rw [e];refine AMF ?_;refine CB func10 c10 fun E hE=>?_
   simp [p10,AA,AM];refine CRs c0 (by simp) ?_;simp;refine CLa c1 ?_;simp;apply RZ;simp [results10]
 | true=>
   rw [hc] at c1;cases hg:p.any (fun x=>!rgB 0 500 [x.g]) with
   | true=>
     have e:ALT p r ns t nw=(([],[]),2):=by unfold ALT;rw [if_neg (by simp [ho]),hc,hg];rfl
     rw [hg] at c2;rw [e];refine AMF ?_;refine CB func10 c10 fun E hE=>?_
     simp [p10,AA,AM];refine CRs c0 (by simp) ?_;simp;refine CLa c1 ?_;simp;refine CLa c2 ?_;simp;apply RZ;simp [results10]
   | false=>
     obtain ⟨hd,_,hl⟩:=AQ6 ho
     have e:ALT p r ns t nw=match (List.range p.length).find? fun i=>decide (ALQ ⟨ns,r,t,nw⟩ i≠0) with
       | some i=>(([],[]),ALQ ⟨ns,r,t,nw⟩ i)
       | none=>if ufA ⟨ns,r,t,nw⟩ p.length then (([],[]),21) else ((lvK ⟨ns,r,t,nw⟩ p p.length,glK ⟨ns,r,t,nw⟩ p p.length),0):=by
       unfold ALT;rw [if_neg (by simp [ho]),hc,hg];rfl
     rw [e];have hlp:=fun R L1=>APd ns r t nw ⟨ns,r,t,nw⟩ rfl hd p hp ho hc hg R L1
     generalize (⟨ns,r,t,nw⟩:SnD)=d at*
     cases hf:(List.range p.length).find? fun i=>decide (ALQ d i≠0) with
     | some i=>
       obtain ⟨h1,A,B,hAB,h2⟩:=List.find?_eq_some_iff_append.1 hf
       have hi:i<p.length:=by
         have:=List.mem_of_find?_eq_some hf;simpa using this
       have h3:∀ j,j<i->ALQ d j=0:=fun j hj=>by
         have hA:A.length=i:=by
           have h5:(List.range p.length)[A.length]?= some i:=by rw [hAB];simp
           have h6:=(List.getElem?_eq_some_iff.1 h5).2;simpa using h6
         have h7:j∈A:=by
           have h8:(List.range p.length)[j]?= some j:=List.getElem?_range (by omega);rw [hAB,List.getElem?_append_left (by omega)] at h8;exact List.mem_of_getElem? h8
         simpa using h2 j h7
       have h1':ALQ d i≠0:=by simpa using h1
       refine AMF (hlp _ _ (by simp [LD]) (fun k hk hz hne=>?_) (fun hz=>?_) (fun hz=>?_))
       . rcases Nat.lt_trichotomy k i with h | h | h
         . exact absurd (h3 k h) hne
         . subst h;exact ⟨rfl,rfl⟩
         . exact absurd (hz i h) h1'
       . exact absurd (hz i hi) h1'
       . exact absurd (hz i hi) h1'
     | none=>
       have h1:∀ j,j<p.length->ALQ d j=0:=fun j hj=>by
         have:=List.find?_eq_none.1 hf j (by simpa using hj);simpa using this
       simp only;cases hu:ufA d p.length with
       | true=>
         simp only [if_true];exact AMF (hlp _ _ (by simp [LD]) (fun k hk hz hne=>absurd (h1 k hk) hne) (fun _ _=>⟨rfl,rfl⟩) (fun _ h=>by rw [hu] at h;cases h))
       | false=>
         simp only [Bool.false_eq_true,if_false];refine Cm.freeze (hlp (.tup [.ls 0 0 p.length 5, .ls 1 0 p.length 6,vi 0]) [(0,AH A5 (lvK d p p.length)),(1,AH galL (glK d p p.length))] (by simp [LD]) (fun k hk hz hne=>absurd (h1 k hk) hne) (fun _ h=>by rw [hu] at h;cases h) (fun _ _=>⟨rfl,rfl⟩)) ?_;have l1:=ALY (d:=d) (p:=p) (Nat.le_refl _);have l2:=ALZ (d:=d) (p:=p) (Nat.le_refl _);have k1:=ANE (H:=lk [(0,AH A5 (lvK d p p.length)),(1,AH galL (glK d p p.length))]) (b:=0) AQ4 (l:=lvK d p p.length) (by simp);have k2:=ANE (H:=lk [(0,AH A5 (lvK d p p.length)),(1,AH galL (glK d p p.length))]) (b:=1) AQ5 (l:=glK d p p.length) (by simp);rw [l1] at k1;rw [l2] at k2;exact ⟨k1,k2,Or.inl rfl,trivial⟩
theorem dM {r:List (Int × Int)} (h:C7 r=true):∀ q∈r,bd 268435456 q:=Yf (by unfold C7 at h;simp only [Bool.and_eq_true] at h;exact h.1.2)
theorem Ws {r:List (Int × Int)} (h:C7 r=true):1<=r.length/\r.length<=64:=by
 unfold C7 at h;simp only [Bool.and_eq_true,decide_eq_true_eq] at h;exact h.1.1
theorem GM {M N:Int} {p:Int × Int} (h:bd M p) (hm:M<=N):bd N p:=by unfold bd at*;omega
abbrev vu (n:Int):V:= .d (.lit (.int .u64 n))
theorem UL (x1 x0 y1 y0:Int):(x1*4294967296+x0)*(y1*4294967296+y0)=x1*y1*18446744073709551616+(x1*y0+x0*y1)*4294967296+x0*y0:=by
 have e1:(x1*4294967296)*(y1*4294967296)=x1*y1*18446744073709551616:=by
   rw [show x1*4294967296*(y1*4294967296)=x1*y1*(4294967296*4294967296) by rw [Int.mul_assoc,Int.mul_left_comm 4294967296,<-Int.mul_assoc]];rfl
 rw [Int.mul_add,Int.add_mul,Int.add_mul,e1,Int.add_mul];have e2:x0*(y1*4294967296)=x0*y1*4294967296:=by rw [Int.mul_assoc]
 have e3:x1*4294967296*y0=x1*y0*4294967296:=by rw [Int.mul_assoc,Int.mul_comm 4294967296,<-Int.mul_assoc]
 rw [e2,e3];omega
theorem DE {a b c d:Int} (h1:a<=c) (h2:b<=d) (h0:0<=b) (h3:0<=c):a*b<=c*d:=Int.le_trans (Int.mul_le_mul_of_nonneg_right h1 h0) (Int.mul_le_mul_of_nonneg_left h2 h3)
theorem jD (x y:Int) (hx:0<=x/\x<=1099511627776) (hy:0<=y/\y<=1099511627776):Ct prog 186 [vu x,vu y] (.tup [vu (x*y/18446744073709551616),vu (x*y%18446744073709551616)]) []:=by
 refine CB func186 c186 fun E hE=>?_
 obtain ⟨x1,x0,rfl,hx1,hx1',hx0,hx0'⟩:∃ x1 x0:Int,x=x1*4294967296+x0/\0<=x1/\x1<=256/\0<=x0/\x0<4294967296:=⟨x/4294967296,x%4294967296,by omega,by omega,by omega,by omega,by omega⟩
 obtain ⟨y1,y0,rfl,hy1,hy1',hy0,hy0'⟩:∃ y1 y0:Int,y=y1*4294967296+y0/\0<=y1/\y1<=256/\0<=y0/\y0<4294967296:=⟨y/4294967296,y%4294967296,by omega,by omega,by omega,by omega,by omega⟩
 have a1:bits .and .u64 (x1*4294967296+x0) 4294967295=x0:=by rw [GA (by omega) (by omega)];omega
 have a2:bits .and .u64 (y1*4294967296+y0) 4294967295=y0:=by rw [GA (by omega) (by omega)];omega
 have a3:(x1*4294967296+x0)/4294967296=x1:=by omega
 have a4:(y1*4294967296+y0)/4294967296=y1:=by omega
 have m:=UL x1 x0 y1 y0;have b11:x1*y1<=256*256:=DE hx1' hy1' hy1 (by omega);have b10:x1*y0<=256*4294967295:=DE hx1' (by omega) hy0 (by omega);have b01:x0*y1<=4294967295*256:=DE (by omega) hy1' hy1 (by omega);have b00:x0*y0<=4294967295*4294967295:=DE (by omega) (by omega) hy0 (by omega);have c11:=Int.mul_nonneg hx1 hy1;have c10:=Int.mul_nonneg hx1 hy0;have c01:=Int.mul_nonneg hx0 hy1;have c00:=Int.mul_nonneg hx0 hy0
 generalize hp11:x1*y1=p11 at*
 generalize hp10:x1*y0=p10 at*
 generalize hp01:x0*y1=p01 at*
 generalize hp00:x0*y0=p00 at*
 have e1:IntKind.wrap .u64 p00=p00:=Ay (by omega) (by omega);have e2:IntKind.wrap .u64 p10=p10:=Ay (by omega) (by omega);have e3:IntKind.wrap .u64 p01=p01:=Ay (by omega) (by omega);have e4:IntKind.wrap .u64 p11=p11:=Ay (by omega) (by omega);have e5:IntKind.wrap .u64 (p10+p00/4294967296)=p10+p00/4294967296:=Ay (by omega) (by omega);have e6:bits .and .u64 (p10+p00/4294967296) 4294967295=(p10+p00/4294967296)%4294967296:=GA (by omega) (by omega);have e7:IntKind.wrap .u64 ((p10+p00/4294967296)%4294967296+p01)=(p10+p00/4294967296)%4294967296+p01:=Ay (by omega) (by omega);have e8:IntKind.wrap .u64 (p11+(p10+p00/4294967296)/4294967296)=p11+(p10+p00/4294967296)/4294967296:=Ay (by omega) (by omega);have e9:IntKind.wrap .u64 (p11+(p10+p00/4294967296)/4294967296+((p10+p00/4294967296)%4294967296+p01)/4294967296)=p11+(p10+p00/4294967296)/4294967296+((p10+p00/4294967296)%4294967296+p01)/4294967296:=Ay (by omega) (by omega);simp [p186,a1,a2,a3,a4,hp11,hp10,hp01,hp00,e1,e2,e3,e4,e5,e6,e7,e8,e9];apply RZ;simp [results186];rw [m];refine ⟨by omega,?_⟩;rw [Bl]
def Bp (x:Int):Int:=if x=0 then 0 else (Nat.log2 x.toNat:Int)+1
theorem ANI (n k:Nat) (h:2^k<=n):Nat.log2 n=Nat.log2 (n/2^k)+k:=by
 induction k generalizing n with
 | zero=>simp
 | succ k ih=>
   have h2:2<=n:=by
     have:2^1<=2^(k+1):=Nat.pow_le_pow_right (by omega) (by omega);omega
   have h1:Nat.log2 n=Nat.log2 (n/2)+1:=by rw [Nat.log2_def];simp [h2]
   rw [h1,ih (n/2) (by rw [Nat.pow_succ] at h;omega),Nat.div_div_eq_div_mul,Nat.pow_succ,Nat.mul_comm 2];omega
theorem Fv (x:Int) (k:Nat) (h:2^k<=x):Bp (x/2^k)+k=Bp x:=by
 obtain ⟨n,rfl⟩:=Int.eq_ofNat_of_zero_le (show 0<=x from Int.le_trans (Int.pow_nonneg (by decide)) h);have h':2^k<=n:=by exact_mod_cast h
 have hp:0<2^k:=Nat.pow_pos (by omega);have e:((n:Int)/2^k)=((n/2^k:Nat):Int):=by push_cast;rfl
 have h1:1<=n/2^k:=by rw [Nat.le_div_iff_mul_le hp];omega
 rw [e];unfold Bp;rw [if_neg (by omega),if_neg (by omega)];simp only [Int.toNat_natCast];rw [ANI n k h'];omega
theorem II (x:Int) (h:1<=x):2^(Bp x-1).toNat<=x/\x<2^(Bp x).toNat/\1<=Bp x:=by
 obtain ⟨n,rfl⟩:=Int.eq_ofNat_of_zero_le (show 0<=x by omega);unfold Bp;rw [if_neg (by omega)];have e1:(((Nat.log2 (n:Int).toNat:Nat):Int)+1-1).toNat=Nat.log2 n:=by simp
 have e2:(((Nat.log2 (n:Int).toNat:Nat):Int)+1).toNat=Nat.log2 n+1:=by simp
 rw [e1,e2];have h1:=Nat.log2_self_le (n:=n) (by omega);have h2:=Nat.lt_log2_self (n:=n);refine ⟨by exact_mod_cast h1,by exact_mod_cast h2,by omega⟩
theorem Ye:∀ m:Fin 256,(⟨#[0,1,2,2,3,3,3,3,4,4,4,4,4,4,4,4,5,5,5,5,5,5,5,5,5,5,5,5,5,5,5,5,6,6,6,6,6,6,6,6,6,6,6,6,6,6,6,6,6,6,6,6,6,6,6,6,6,6,6,6,6,6,6,6,7,7,7,7,7,7,7,7,7,7,7,7,7,7,7,7,7,7,7,7,7,7,7,7,7,7,7,7,7,7,7,7,7,7,7,7,7,7,7,7,7,7,7,7,7,7,7,7,7,7,7,7,7,7,7,7,7,7,7,7,7,7,7,7,8,8,8,8,8,8,8,8,8,8,8,8,8,8,8,8,8,8,8,8,8,8,8,8,8,8,8,8,8,8,8,8,8,8,8,8,8,8,8,8,8,8,8,8,8,8,8,8,8,8,8,8,8,8,8,8,8,8,8,8,8,8,8,8,8,8,8,8,8,8,8,8,8,8,8,8,8,8,8,8,8,8,8,8,8,8,8,8,8,8,8,8,8,8,8,8,8,8,8,8,8,8,8,8,8,8,8,8,8,8,8,8,8,8,8,8,8,8,8,8,8,8,8,8,8,8,8,8]⟩:ByteArray)[m.val]?.map (·.toNat)=some (Bp m.val).toNat:=by decide+kernel
theorem fA (n:Nat) (h:n<256):∃ b,(⟨#[0,1,2,2,3,3,3,3,4,4,4,4,4,4,4,4,5,5,5,5,5,5,5,5,5,5,5,5,5,5,5,5,6,6,6,6,6,6,6,6,6,6,6,6,6,6,6,6,6,6,6,6,6,6,6,6,6,6,6,6,6,6,6,6,7,7,7,7,7,7,7,7,7,7,7,7,7,7,7,7,7,7,7,7,7,7,7,7,7,7,7,7,7,7,7,7,7,7,7,7,7,7,7,7,7,7,7,7,7,7,7,7,7,7,7,7,7,7,7,7,7,7,7,7,7,7,7,7,8,8,8,8,8,8,8,8,8,8,8,8,8,8,8,8,8,8,8,8,8,8,8,8,8,8,8,8,8,8,8,8,8,8,8,8,8,8,8,8,8,8,8,8,8,8,8,8,8,8,8,8,8,8,8,8,8,8,8,8,8,8,8,8,8,8,8,8,8,8,8,8,8,8,8,8,8,8,8,8,8,8,8,8,8,8,8,8,8,8,8,8,8,8,8,8,8,8,8,8,8,8,8,8,8,8,8,8,8,8,8,8,8,8,8,8,8,8,8,8,8,8,8,8,8,8,8,8]⟩:ByteArray)[n]?= some b/\(b.toNat:Int)=Bp n:=by
 have:=Ye ⟨n,h⟩;simp only [Option.map_eq_some_iff] at this;obtain ⟨b,h1,h2⟩:=this;refine ⟨b,h1,?_⟩;rw [h2];have:0<=Bp n:=by unfold Bp;split<;>omega
 omega
theorem ro (x:Int) (hx:0<=x/\x<=18446744073709551615):Ct prog 210 [vu x] (vi (Bp x)) []:=by
 refine CB func210 c210 fun E hE=>?_
 have fin:∀ (y c:Int),0<=y->y<256->0<=c->c<=56->Bp y+c=Bp x->∃ b,(⟨#[0,1,2,2,3,3,3,3,4,4,4,4,4,4,4,4,5,5,5,5,5,5,5,5,5,5,5,5,5,5,5,5,6,6,6,6,6,6,6,6,6,6,6,6,6,6,6,6,6,6,6,6,6,6,6,6,6,6,6,6,6,6,6,6,7,7,7,7,7,7,7,7,7,7,7,7,7,7,7,7,7,7,7,7,7,7,7,7,7,7,7,7,7,7,7,7,7,7,7,7,7,7,7,7,7,7,7,7,7,7,7,7,7,7,7,7,7,7,7,7,7,7,7,7,7,7,7,7,8,8,8,8,8,8,8,8,8,8,8,8,8,8,8,8,8,8,8,8,8,8,8,8,8,8,8,8,8,8,8,8,8,8,8,8,8,8,8,8,8,8,8,8,8,8,8,8,8,8,8,8,8,8,8,8,8,8,8,8,8,8,8,8,8,8,8,8,8,8,8,8,8,8,8,8,8,8,8,8,8,8,8,8,8,8,8,8,8,8,8,8,8,8,8,8,8,8,8,8,8,8,8,8,8,8,8,8,8,8,8,8,8,8,8,8,8,8,8,8,8,8,8,8,8,8,8,8]⟩:ByteArray)[y.toNat]?= some b/\IntKind.wrap .u8 y=y/\IntKind.wrap .i64 (b.toNat:Int)=(b.toNat:Int)/\IntKind.wrap .i64 (c+(b.toNat:Int))=Bp x/\0<=y:=fun y c h0 h1 h2 h3 h4=>by
   obtain ⟨b,q1,q2⟩:=fA y.toNat (by omega);have hb:(b.toNat:Int)<256:=by have:=b.toNat_lt;omega
   rw [Int.toNat_of_nonneg h0] at q2;exact ⟨b,q1,by simp [IntKind.wrap,IntKind.bits,IntKind.signed];omega,AD (by omega) (by omega),by rw [AD (by omega) (by omega)];omega,h0⟩
 have e16:IntKind.wrap .i64 16=16:=by decide
 have e8:IntKind.wrap .i64 8=8:=by decide
 have e48:IntKind.wrap .i64 48=48:=by decide
 have e40:IntKind.wrap .i64 40=40:=by decide
 have e24:IntKind.wrap .i64 24=24:=by decide
 have e56:IntKind.wrap .i64 56=56:=by decide
 have s8:=fun (y:Int) (h:256<=y)=>Fv y 8 (by simpa using h)
 have s16:=fun (y:Int) (h:65536<=y)=>Fv y 16 (by simpa using h)
 have s32:=fun (y:Int) (h:4294967296<=y)=>Fv y 32 (by simpa using h)
 simp at s8 s16 s32;by_cases h1:4294967296<=x
 . have q1:=s32 x h1
   by_cases h2:65536<=x/4294967296
   . have q2:=s16 _ h2
     by_cases h3:256<=x/4294967296/65536
     . have q3:=s8 _ h3
       obtain ⟨b,r1,r2,r3,r4,r0⟩:=fin (x/4294967296/65536/256) 56 (by omega) (by omega) (by omega) (by omega) (by omega);simp [p210,h1,h2,h3,r0,r1,r2,r3,e48,e56];apply RZ;simp [results210,r4]
     . obtain ⟨b,r1,r2,r3,r4,r0⟩:=fin (x/4294967296/65536) 48 (by omega) (by omega) (by omega) (by omega) (by omega)
       simp [p210,h1,h2,h3,r0,r1,r2,r3,e48];apply RZ;simp [results210,r4]
   . by_cases h3:256<=x/4294967296
     . have q3:=s8 _ h3
       obtain ⟨b,r1,r2,r3,r4,r0⟩:=fin (x/4294967296/256) 40 (by omega) (by omega) (by omega) (by omega) (by omega);simp [p210,h1,h2,h3,r0,r1,r2,r3,e40];apply RZ;simp [results210,r4]
     . obtain ⟨b,r1,r2,r3,r4,r0⟩:=fin (x/4294967296) 32 (by omega) (by omega) (by omega) (by omega) (by omega)
       simp [p210,h1,h2,h3,r0,r1,r2,r3];apply RZ;simp [results210,r4]
 . by_cases h2:65536<=x
   . have q2:=s16 _ h2
     by_cases h3:256<=x/65536
     . have q3:=s8 _ h3
       obtain ⟨b,r1,r2,r3,r4,r0⟩:=fin (x/65536/256) 24 (by omega) (by omega) (by omega) (by omega) (by omega);simp [p210,h1,h2,h3,r0,r1,r2,r3,e16,e24];apply RZ;simp [results210,r4]
     . obtain ⟨b,r1,r2,r3,r4,r0⟩:=fin (x/65536) 16 (by omega) (by omega) (by omega) (by omega) (by omega)
       simp [p210,h1,h2,h3,r0,r1,r2,r3,e16];apply RZ;simp [results210,r4]
   . by_cases h3:256<=x
     . have q3:=s8 _ h3
       obtain ⟨b,r1,r2,r3,r4,r0⟩:=fin (x/256) 8 (by omega) (by omega) (by omega) (by omega) (by omega);simp [p210,h1,h2,h3,r0,r1,r2,r3,e8];apply RZ;simp [results210,r4]
     . obtain ⟨b,r1,r2,r3,r4,r0⟩:=fin x 0 (by omega) (by omega) (by omega) (by omega) (by omega)
       rw [Int.zero_add,r3] at r4;simp [p210,h1,h2,h3,r0,r1,r2,r3];apply RZ;simp [results210,r4]
theorem Oh (x:Int) (h0:0<=x) (h1:x<=18446744073709551615):0<=Bp x/\Bp x<=64:=by
 by_cases h:x=0
 . subst h;decide
 . obtain ⟨q1,q2,q3⟩:=II x (by omega)
   refine ⟨by omega,?_⟩
   have:¬ 65<=Bp x:=fun hh=>by
     have h2:(2:Int)^64<=2^(Bp x-1).toNat:=by
       have:2^64<=2^(Bp x-1).toNat:=Nat.pow_le_pow_right (by omega) (by omega)
       exact_mod_cast this
     have:(2:Int)^64=18446744073709551616:=by decide
     omega
   omega
theorem ASH (x:Int) (hx:0<=x/\x<=18446744073709551615):Ct prog 198 [vu x] (vi (64-Bp x)) []:=by
 refine CB func198 c198 fun E hE=>?_
 simp [p198];refine CLa (ro x hx) ?_;have:=Oh x hx.1 hx.2;have e:IntKind.wrap .i64 (64-Bp x)=64-Bp x:=AD (by omega) (by omega);simp [e];apply RZ;simp [results198]
theorem bg {u v D:Int} (hD:0<D) (hu:u<D) (hv:v<4294967296):(u*4294967296+v)/D<4294967296:=by
 rw [Int.ediv_lt_iff_lt_mul hD];have:u*4294967296+4294967296<=4294967296*D:=by omega
 omega
theorem LJ (s:Nat):(1:Int)<=2^s:=by
 have:0<2^s:=Nat.pow_pos (by omega)
 exact_mod_cast this
theorem WF (s t n:Nat) (h:s+t=n):(2:Int)^s*2^t=2^n:=by rw [<-h,Int.pow_add]
theorem APT (lo y:Int) (hlo:0<=lo/\lo<=18446744073709551615) (hy:1<=y/\y<=18446744073709551615):Ct prog 188 [vu 0,vu lo,vu y] (.tup [vu (lo/y),vu (lo%y)]) []:=by
 refine CB func188 ASi fun E hE=>?_
 have h1:(y == 0)=false:=by simp;omega
 have h2:decide (y<=0)=false:=by simp;omega
 have h3:¬ y=0:=by omega
 have h5:¬ y<=0:=by omega
 have q0:0<=lo/y:=Int.ediv_nonneg hlo.1 (by omega);have q1:lo/y<=lo:=Int.ediv_le_self _ hlo.1;have e1:lo.tdiv y=lo/y:=Int.tdiv_eq_ediv_of_nonneg hlo.1;have e2:lo.tmod y=lo%y:=Int.tmod_eq_emod_of_nonneg hlo.1;have e3:IntKind.wrap .u64 (lo/y)=lo/y:=Ay q0 (by omega);simp [p188,h3,h5,e1,e2,e3];apply RZ;simp [results188]
theorem jE (hi lo y:Int) (hhi:1<=hi/\hi<y) (hlo:0<=lo/\lo<=18446744073709551615) (hy:y<=18446744073709551615):Ct prog 188 [vu hi,vu lo,vu y] (.tup [vu ((hi*18446744073709551616+lo)/y),vu ((hi*18446744073709551616+lo)%y)]) []:=by
 refine CB func188 ASi fun E hE=>?_
 have h3:¬ y=0:=by omega
 have h5:¬ y<=hi:=by omega
 have h6:¬ hi=0:=by omega
 simp [p188,h3,h5,h6];refine CLa (ASH y (by omega)) ?_;obtain ⟨b1,b2,b3⟩:=II y (by omega);obtain ⟨b4,b5⟩:=Oh y (by omega) hy;obtain ⟨S,hS,hS2⟩:∃ S:Nat,64-Bp y=S/\S<=63:=⟨(64-Bp y).toNat,by omega,by omega⟩
 obtain ⟨T,hT⟩:∃ T:Nat,S+T=64:=⟨64-S,by omega⟩
 have p1:(2:Int)^S*2^T=18446744073709551616:=by rw [WF S T 64 hT];rfl
 have p2:=LJ S;have p3:=LJ T;have w1:IntKind.wrap .u64 (S:Int)=S:=Ay (by omega) (by omega);have w2:IntKind.wrap .u64 (64-(S:Int))=T:=by rw [Ay (by omega) (by omega)];omega
 have eL:(Bp y).toNat=T:=by omega
 have eL1:(2:Int)^(Bp y-1).toNat*2=2^T:=by
   obtain ⟨T',rfl⟩:∃ T',T=T'+1:=⟨T-1,by omega⟩
   rw [show (Bp y-1).toNat=T' by omega,Int.pow_succ]
 rw [eL] at b2;have d1:y*2^S<18446744073709551616:=by rw [<-p1,Int.mul_comm];exact Int.mul_lt_mul_of_pos_left b2 (by omega)
 have d2:9223372036854775808<=y*2^S:=by
   have:2^T*2^S<=y*2*2^S:=Int.mul_le_mul_of_nonneg_right (by omega) (by omega);rw [Int.mul_comm (2^T),p1] at this;have e:y*2*2^S=2*(y*2^S):=by rw [Int.mul_comm y 2,Int.mul_assoc]
   omega
 have d3:hi*2^S+2^S<=y*2^S:=by
   have:(hi+1)*2^S<=y*2^S:=Int.mul_le_mul_of_nonneg_right (by omega) (by omega);rw [Int.add_mul,Int.one_mul] at this;exact this
 have d4:0<=hi*2^S:=Int.mul_nonneg (by omega) (by omega)
 obtain ⟨lh,ll,hl,l1,l2,l3,l4⟩:∃ lh ll:Int,lo=lh*2^T+ll/\0<=lh/\lh<2^S/\0<=ll/\ll<2^T:=by
   refine ⟨lo/2^T,lo%2^T,by rw [Int.mul_comm];exact (Int.mul_ediv_add_emod lo (2^T)).symm,Int.ediv_nonneg hlo.1 (by omega),?_,Int.emod_nonneg _ (by omega),Int.emod_lt_of_pos _ (by omega)⟩;rw [Int.ediv_lt_iff_lt_mul (by omega),p1];omega
 have l5:lo/2^T=lh:=by
   rw [hl,Int.add_comm,Int.add_mul_ediv_right _ _ (by omega),Int.ediv_eq_zero_of_lt l3 l4];omega
 have l6:lo*2^S=lh*18446744073709551616+ll*2^S:=by
   rw [hl,Int.add_mul,Int.mul_assoc,Int.mul_comm (2^T),p1]
 have l7:ll*2^S+2^S<=18446744073709551616:=by
   have:(ll+1)*2^S<=2^T*2^S:=Int.mul_le_mul_of_nonneg_right (by omega) (by omega);rw [Int.add_mul,Int.one_mul,Int.mul_comm (2^T),p1] at this;exact this
 have l8:0<=ll*2^S:=Int.mul_nonneg l3 (by omega)
 have hU:(hi*18446744073709551616+lo)*2^S=(hi*2^S+lh)*18446744073709551616+ll*2^S:=by
   rw [Int.add_mul,l6,Int.add_mul,Int.mul_right_comm];omega
 have hor:bits .or .u64 (hi*2^S) lh=hi*2^S+lh:=kl S (by omega) l1 l2 (by omega);have v1:IntKind.wrap .u64 (y*2^S)=y*2^S:=Ay (by omega) (by omega);have v2:IntKind.wrap .u64 (hi*2^S)=hi*2^S:=Ay (by omega) (by omega);have v3:IntKind.wrap .u64 (lo*2^S)=ll*2^S:=by rw [Bl,l6];omega
 have c1:(0:Int)<=S/\(S:Int)<=64:=by omega
 have c2:(0:Int)<=T/\(T:Int)<=64:=by omega
 have hN:∀ q r,(hi*18446744073709551616+lo)*2^S=q*(y*2^S)+r->0<=r->r<y*2^S->q=(hi*18446744073709551616+lo)/y/\r/2^S=(hi*18446744073709551616+lo)%y:=fun q r h1 h2 h3=>by
   generalize hi*18446744073709551616+lo=N at*
   have hq:q=N/y:=by
     have e:N*2^S/(y*2^S)=N/y:=Int.mul_ediv_mul_of_pos_left _ _ (by omega);rw [<-e,h1,Int.add_comm,Int.add_mul_ediv_right _ _ (by omega),Int.ediv_eq_zero_of_lt h2 h3];omega
   refine ⟨hq,?_⟩;have e2:N*2^S=(q*y)*2^S+r:=by rw [h1,Int.mul_assoc]
   have e3:r=(N-q*y)*2^S:=by rw [Int.sub_mul];omega
   rw [e3,Int.mul_ediv_cancel _ (by omega),hq,Int.emod_def,Int.mul_comm]
 simp [hS,w1,w2,c1.1,c1.2,c2.1,c2.2,v1,v2,v3,l5,hor]
 generalize y*2^S=D at*
 generalize hu:hi*2^S+lh=u at*
 generalize ll*2^S=w at*
 have m1:bits .and .u64 D 4294967295=D%4294967296:=GA (by omega) (by omega);have m2:bits .and .u64 w 4294967295=w%4294967296:=GA (by omega) (by omega);obtain ⟨y1,y0,hy1,hy0⟩:∃ y1 y0:Int,D/4294967296=y1/\D%4294967296=y0:=⟨_,_,rfl,rfl⟩
 obtain ⟨w1',w0,hw1,hw0⟩:∃ w1 w0:Int,w/4294967296=w1/\w%4294967296=w0:=⟨_,_,rfl,rfl⟩
 have hDe:D=y1*4294967296+y0:=by omega
 have hy1n:¬ y1=0:=by omega
 have hu0:0<=u:=by omega
 have huD:u<D:=by omega
 have td:∀ a:Int,0<=a->a.tdiv y1=a/y1:=fun a ha=>Int.tdiv_eq_ediv_of_nonneg ha
 have dv:∀ a:Int,0<=a->0<=a/y1/\a/y1<=a/\a/y1*y1+a%y1=a/\0<=a%y1/\a%y1<y1:=fun a ha=>⟨Int.ediv_nonneg ha (by omega),Int.ediv_le_self _ ha,by rw [Int.mul_comm];exact Int.mul_ediv_add_emod a y1,Int.emod_nonneg _ hy1n,Int.emod_lt_of_pos _ (by omega)⟩
 have dq:∀ a v:Int,0<=a->0<=v->v<4294967296->(a*4294967296+v)/D<=a/y1:=fun a v ha hv hv'=>by
   obtain ⟨z1,z2,z3,z4,z5⟩:=dv a ha
   have hlt:(a*4294967296+v)/D<a/y1+1:=by
     rw [Int.ediv_lt_iff_lt_mul (by omega),hDe]
     have e:(a/y1+1)*(y1*4294967296+y0)=(a/y1*y1)*4294967296+y1*4294967296+(a/y1+1)*y0:=by
       rw [Int.add_mul,Int.one_mul,Int.mul_add,<-Int.mul_assoc,Int.add_mul,Int.one_mul];omega
     have:0<=(a/y1+1)*y0:=Int.mul_nonneg (by omega) (by omega);omega
   omega
 obtain ⟨z1,z2,z3,z4,z5⟩:=dv u hu0;have k1:IntKind.wrap .u64 (u/y1)=u/y1:=Ay z1 (by omega);have k2:IntKind.wrap .u64 (u/y1*y1)=u/y1*y1:=Ay (Int.mul_nonneg z1 (by omega)) (by omega);have k3:IntKind.wrap .u64 (u-u/y1*y1)=u-u/y1*y1:=Ay (by omega) (by omega);simp [m1,m2,hy1,hy0,hw1,hw0,hy1n,td u hu0,k1,k2,k3]
 have loopy:∀ a v:Int,0<=a->a<D->0<=v->v<4294967296->∃ Q:Int,Q=(a*4294967296+v)/D/\0<=Q/\Q<4294967296/\Q*D<=a*4294967296+v/\a*4294967296+v<Q*D+D/\Q<=a/y1/\
     (∀ q r,Q<=q->q*y1+r=a->4294967296<=q\/4294967296*r+v<q*y0->Q<=q-1)/\(∀ q r,Q<=q->q*y1+r=a->q*y0<=4294967296*r+v->q=Q)/\(∀ q r,0<=q->q*y1+r=a->4294967296<=r->q*y0<=4294967296*r+v):=fun a v ha haD hv hv'=>by
   refine ⟨_,rfl,Int.ediv_nonneg (by omega) (by omega),bg (by omega) haD hv',Int.ediv_mul_le _ (by omega),?_,dq a v ha hv hv',fun q r h1 h2 h3=>?_,fun q r h1 h2 h3=>?_,fun q r h1 h2 h3=>?_⟩
   . have:=Int.lt_ediv_add_one_mul_self (a*4294967296+v) (show 0<D by omega)
     rw [Int.add_mul,Int.one_mul] at this;exact this
   . rw [hDe] at h1 ⊢
     exact Q8 (by omega) (by omega) (by omega) (by omega) ha (by omega) hv hv' h1 h2 h3
   . rw [hDe] at h1 ⊢
     exact Q9 (by omega) (by omega) (by omega) h1 h2 h3
   . exact O0 (by omega) (by omega) (by omega) h1 (by omega:a<y1*4294967296+y0) hv h2 h3
 obtain ⟨Q1,_,a1,a2,a3,a4,a5,st1,dn1,br1⟩:=loopy u w1' hu0 huD (by omega) (by omega)
 refine BL (α:=Int × Int) 0 (fun _:Unit=>⟨AO [(2,vu D),(8,vu S),(9,vu y1),(10,vu y0),(11,vu u),(13,vu w1'),(14,vu w0),(15,vu Q1)],lk [],0⟩) (fun _=>True) (fun x=>⟨AO [(2,vu D),(8,vu S),(9,vu y1),(10,vu y0),(11,vu u),(13,vu w1'),(14,vu w0),(15,vu x.1),(16,vu x.2)],lk [],0⟩)
   (fun x=>Q1<=x.1/\x.1*y1+x.2=u/\0<=x.2/\x.2<4294967296/\x.1<=u) (fun x=>x.1.toNat) (u/y1,u-u/y1*y1) ?_ ?_ ?_ fun _ _=>?_
 . exact ⟨a5,by simp only;omega,by simp only;omega,by simp only;omega,z2⟩
 . exact WK hE (fun _=>none)
 . rintro ⟨q,r⟩ ⟨i1,i2,i3,i4,i5⟩
   simp only at i1 i2 i3 i4 i5;have step:=st1 q r i1 i2;have g1:IntKind.wrap .u64 (r+y1)=r+y1:=Ay (by omega) (by omega);have g2:(q-1)*y1+(r+y1)=u:=by rw [Int.sub_mul];omega
   have go:Q1<=q-1->IntKind.wrap .u64 (q-1)=q-1:=fun h=>Ay (by omega) (by omega)
   by_cases hc1:4294967296<=q
   . have h1:=step (.inl hc1)
     by_cases hb:4294967296<=r+y1
     . have:=dn1 _ _ h1 g2 (br1 _ _ (by omega) g2 hb)
       simp [AMJ,hc1,go h1,g1,hb];refine AI.mk hE (fun _=>none) _ _ _ ?_ ?_ ?_ ?_ ?_<;>simp [this]
     . simp [AMJ,hc1,go h1,g1,hb]
       refine ⟨q-1,r+y1,⟨h1,g2,by omega,by omega,by omega⟩,by omega,?_⟩;exact WK hE (fun _=>none)
   . have n1:0<=q*y0:=Int.mul_nonneg (by omega) (by omega)
     have n2:q*y0<=4294967295*4294967295:=DE (by omega) (by omega) (by omega) (by omega);have j1:IntKind.wrap .u64 (q*y0)=q*y0:=Ay n1 (by omega);have j2:IntKind.wrap .u64 (4294967296*r)=4294967296*r:=Ay (by omega) (by omega);have j3:IntKind.wrap .u64 (4294967296*r+w1')=4294967296*r+w1':=Ay (by omega) (by omega);by_cases hc2:4294967296*r+w1' < q*y0
     . have h1:=step (.inr hc2)
       by_cases hb:4294967296<=r+y1
       . have:=dn1 _ _ h1 g2 (br1 _ _ (by omega) g2 hb)
         simp [AMJ,hc1,hc2,j1,j2,j3,go h1,g1,hb];refine AI.mk hE (fun _=>none) _ _ _ ?_ ?_ ?_ ?_ ?_<;>simp [this]
       . simp [AMJ,hc1,hc2,j1,j2,j3,go h1,g1,hb]
         refine ⟨q-1,r+y1,⟨h1,g2,by omega,by omega,by omega⟩,by omega,?_⟩;exact WK hE (fun _=>none)
     . have:=dn1 _ _ i1 i2 (by omega)
       simp [AMJ,hc1,hc2,j1,j2,j3];refine AI.mk hE (fun _=>none) _ _ _ ?_ ?_ ?_ ?_ ?_<;>simp [this]
 obtain ⟨R,hR⟩:∃ R:Int,R=u*4294967296+w1' - Q1*D:=⟨_,rfl⟩
 have k4:IntKind.wrap .u64 (IntKind.wrap .u64 (IntKind.wrap .u64 (u*4294967296)+w1')-IntKind.wrap .u64 (Q1*D))=R:=by
   rw [Bl,Bl,Bl,Bl];omega
 have hR0:0<=R/\R<D:=by omega
 obtain ⟨x1,x2,x3,x4,x5⟩:=dv R hR0.1;have k5:IntKind.wrap .u64 (R/y1)=R/y1:=Ay x1 (by omega);have k6:IntKind.wrap .u64 (R/y1*y1)=R/y1*y1:=Ay (Int.mul_nonneg x1 (by omega)) (by omega);have k7:IntKind.wrap .u64 (R-R/y1*y1)=R-R/y1*y1:=Ay (by omega) (by omega);simp [k4,hy1n,td R hR0.1,k5,k6,k7];obtain ⟨Q0,_,c1,c2,c3,c4,c5,st0,dn0,br0⟩:=loopy R w0 hR0.1 hR0.2 (by omega) (by omega)
 refine BL (α:=Int × Int) 2 (fun _:Unit=>⟨AO [(2,vu D),(8,vu S),(14,vu w0),(15,vu Q1),(17,vu R),(18,vu Q0)],lk [],0⟩) (fun _=>True) (fun x=>⟨AO [(2,vu D),(8,vu S),(9,vu y1),(10,vu y0),(14,vu w0),(15,vu Q1),(17,vu R),(18,vu x.1),(16,vu x.2)],lk [],0⟩)
   (fun x=>Q0<=x.1/\x.1*y1+x.2=R/\0<=x.2/\x.2<4294967296/\x.1<=R) (fun x=>x.1.toNat) (R/y1,R-R/y1*y1) ?_ ?_ ?_ fun _ _=>?_
 . exact ⟨c5,by simp only;omega,by simp only;omega,by simp only;omega,x2⟩
 . exact WK hE (fun _=>none)
 . rintro ⟨q,r⟩ ⟨i1,i2,i3,i4,i5⟩
   simp only at i1 i2 i3 i4 i5;have step:=st0 q r i1 i2;have g1:IntKind.wrap .u64 (r+y1)=r+y1:=Ay (by omega) (by omega);have g2:(q-1)*y1+(r+y1)=R:=by rw [Int.sub_mul];omega
   have go:Q0<=q-1->IntKind.wrap .u64 (q-1)=q-1:=fun h=>Ay (by omega) (by omega)
   by_cases hc1:4294967296<=q
   . have h1:=step (.inl hc1)
     by_cases hb:4294967296<=r+y1
     . have:=dn0 _ _ h1 g2 (br0 _ _ (by omega) g2 hb)
       simp [AMK,hc1,go h1,g1,hb];refine AI.mk hE (fun _=>none) _ _ _ ?_ ?_ ?_ ?_ ?_<;>simp [this]
     . simp [AMK,hc1,go h1,g1,hb]
       refine ⟨q-1,r+y1,⟨h1,g2,by omega,by omega,by omega⟩,by omega,?_⟩;exact WK hE (fun _=>none)
   . have n1:0<=q*y0:=Int.mul_nonneg (by omega) (by omega)
     have n2:q*y0<=4294967295*4294967295:=DE (by omega) (by omega) (by omega) (by omega);have j1:IntKind.wrap .u64 (q*y0)=q*y0:=Ay n1 (by omega);have j2:IntKind.wrap .u64 (4294967296*r)=4294967296*r:=Ay (by omega) (by omega);have j3:IntKind.wrap .u64 (4294967296*r+w0)=4294967296*r+w0:=Ay (by omega) (by omega);by_cases hc2:4294967296*r+w0<q*y0
     . have h1:=step (.inr hc2)
       by_cases hb:4294967296<=r+y1
       . have:=dn0 _ _ h1 g2 (br0 _ _ (by omega) g2 hb)
         simp [AMK,hc1,hc2,j1,j2,j3,go h1,g1,hb];refine AI.mk hE (fun _=>none) _ _ _ ?_ ?_ ?_ ?_ ?_<;>simp [this]
       . simp [AMK,hc1,hc2,j1,j2,j3,go h1,g1,hb]
         refine ⟨q-1,r+y1,⟨h1,g2,by omega,by omega,by omega⟩,by omega,?_⟩;exact WK hE (fun _=>none)
     . have:=dn0 _ _ i1 i2 (by omega)
       simp [AMK,hc1,hc2,j1,j2,j3];refine AI.mk hE (fun _=>none) _ _ _ ?_ ?_ ?_ ?_ ?_<;>simp [this]
 obtain ⟨R0,hR0'⟩:∃ R0:Int,R0=R*4294967296+w0-Q0*D:=⟨_,rfl⟩
 have k8:IntKind.wrap .u64 (IntKind.wrap .u64 (IntKind.wrap .u64 (R*4294967296)+w0)-IntKind.wrap .u64 (Q0*D))=R0:=by
   rw [Bl,Bl,Bl,Bl];omega
 have k9:IntKind.wrap .u64 (Q1*4294967296)=Q1*4294967296:=Ay (by omega) (by omega);have k10:IntKind.wrap .u64 (Q1*4294967296+Q0)=Q1*4294967296+Q0:=Ay (by omega) (by omega);have e5:(Q1*4294967296+Q0)*D=(Q1*D)*4294967296+Q0*D:=by rw [Int.add_mul,Int.mul_right_comm]
 obtain ⟨n1,n2⟩:=hN (Q1*4294967296+Q0) R0 (by rw [hU,e5];omega) (by omega) (by omega);simp [k8,k9,k10,show (0:Int)<=S by omega,show (S:Int)<=64 by omega];apply RZ;simp [results188,n1,n2]
def Da (P z:Int):Int × Int:=if P/z<2199023255552 then (P/z,P%z) else (2199023255552,0)
def upS (q:Int × Int):Int:=if 0<q.2 then q.1+1 else q.1
def Eg (x y z:Int):Int × Int:=
 let q:=Da (max x (-x)*max y (-y)) z
 if decide (x<0) != decide (y<0) then (-(upS q), -q.1) else (q.1,upS q)
theorem Nm {P z:Int} (hP:0<=P) (hz:1<=z):0<=(Da P z).1/\(Da P z).1<=2199023255552:=by
 have:=Int.ediv_nonneg hP (show 0<=z by omega);unfold Da;split<;>simp<;>omega
theorem AIG {x y:Int} (hx: -1099511627776<=x/\x<=1099511627776) (hy: -1099511627776<=y/\y<=1099511627776):0<=max x (-x)*max y (-y)/\max x (-x)*max y (-y)<=1208925819614629174706176:=by
 refine ⟨Int.mul_nonneg (by omega) (by omega),?_⟩;have:=DE (a:=max x (-x)) (b:=max y (-y)) (c:=1099511627776) (d:=1099511627776) (by omega) (by omega) (by omega) (by omega);omega
theorem qp (x y z:Int) (hx: -1099511627776<=x/\x<=1099511627776) (hy: -1099511627776<=y/\y<=1099511627776) (hz:1<=z/\z<=1099511627776):Ct prog 171 [vi x,vi y,vi z] (vsp (Eg x y z).1 (Eg x y z).2) []:=by
 refine CB func171 c171 fun E hE=>?_
 simp [p171];refine CLa (AQP x (by omega)) ?_;simp;refine CLa (AQP y (by omega)) ?_;simp;refine AU.mk _ _ _ (jD (max x (-x)) (max y (-y)) (by omega) (by omega)) (by first | (simp;done) | simp [Bk,CP]) (by simp) (by first | (left;simp;done) | (right;simp;done)) ?_;obtain ⟨P0,P1⟩:=AIG hx hy
 generalize hP:max x (-x)*max y (-y)=P at*
 have wz:IntKind.wrap .u64 z=z:=Ay (by omega) (by omega);have hmod:0<=P%18446744073709551616/\P%18446744073709551616<=18446744073709551615:=by omega
 have hP2:P/18446744073709551616*18446744073709551616+P%18446744073709551616=P:=by omega
 obtain ⟨b0,b1⟩:=Nm P0 hz.1;have b2:0<=P/z:=Int.ediv_nonneg P0 (by omega);have w1:IntKind.wrap .i64 (Da P z).1=(Da P z).1:=AD (by omega) (by omega);have w2:IntKind.wrap .i64 ((Da P z).1+1)=(Da P z).1+1:=AD (by omega) (by omega);have w3:IntKind.wrap .i64 (-((Da P z).1+1))= -((Da P z).1+1):=AD (by omega) (by omega);have w4:IntKind.wrap .i64 (-(Da P z).1)= -(Da P z).1:=AD (by omega) (by omega);by_cases hh:P/18446744073709551616<z
 . by_cases hq:P/z<2199023255552
   . have eS:Da P z=(P/z,P%z):=if_pos hq
     have r0:0<=P%z:=Int.emod_nonneg _ (by omega);rw [eS] at w1 w2 w3 w4;simp only at w1 w2 w3 w4;by_cases h0:P/18446744073709551616=0
     . have e0:P%18446744073709551616=P:=by omega
       simp [wz,h0,e0,show (0:Int)<z by omega];refine CLa (APT P z (by omega) (by omega)) ?_;by_cases hr:0<P%z<;>by_cases hsx:x<0<;>by_cases hsy:y<0<;>simp [hq,hr,hsx,hsy,w1,w2,w3,w4,AA]
       all_goals
         apply RZ;simp [results171,Eg,hP,eS,upS,hr,hsx,hsy]
     . simp [wz,hh]
       refine CLa (jE (P/18446744073709551616) (P%18446744073709551616) z (by omega) hmod (by omega)) ?_;rw [hP2];by_cases hr:0<P%z<;>by_cases hsx:x<0<;>by_cases hsy:y<0<;>simp [hq,hr,hsx,hsy,w1,w2,w3,w4,AA]
       all_goals
         apply RZ;simp [results171,Eg,hP,eS,upS,hr,hsx,hsy]
   . have eS:Da P z=(2199023255552,0):=if_neg hq
     by_cases h0:P/18446744073709551616=0
     . have e0:P%18446744073709551616=P:=by omega
       simp [wz,h0,e0,show (0:Int)<z by omega];refine CLa (APT P z (by omega) (by omega)) ?_;by_cases hsx:x<0<;>by_cases hsy:y<0<;>simp [hq,hsx,hsy,AA,AD]
       all_goals
         apply RZ;simp [results171,Eg,hP,eS,upS,hsx,hsy]
     . simp [wz,hh]
       refine CLa (jE (P/18446744073709551616) (P%18446744073709551616) z (by omega) hmod (by omega)) ?_;rw [hP2];by_cases hsx:x<0<;>by_cases hsy:y<0<;>simp [hq,hsx,hsy,AA,AD]
       all_goals
         apply RZ;simp [results171,Eg,hP,eS,upS,hsx,hsy]
 . have hq:¬ P/z<2199023255552:=by
     have:2199023255552<=P/z:=by
       rw [Int.le_ediv_iff_mul_le (by omega)];omega
     omega
   have eS:Da P z=(2199023255552,0):=if_neg hq;by_cases hsx:x<0<;>by_cases hsy:y<0<;>simp [wz,hh,hsx,hsy,AA,AD]
   all_goals
     apply RZ;simp [results171,Eg,hP,eS,upS,hsx,hsy]
def HO (a b c:Int × Int) (k:Nat):Int × Int:=Eg (if k%2=1 then a.2 else a.1) (if k/2%2=1 then b.2 else b.1) (if k/4=1 then c.2 else c.1)
def Lx (a b c:Int × Int):List (Int × Int):=[HO a b c 1,HO a b c 2,HO a b c 3,HO a b c 4,HO a b c 5,HO a b c 6,HO a b c 7]
def Ja (a b c:Int × Int):(Int × Int) × Int:=
 if okS a&&okS b&&okS c then (if c.1<1 then ((0,0),12) else JH (ALK (HO a b c 0) (Lx a b c))) else ((0,0),10)
def EU (a b c:Int × Int) (i k:Nat):List V:=if k<i then [vi (HO a b c k).1,vi (HO a b c k).2] else [vi 0,vi 0]
def Dq (a b c:Int × Int) (i:Nat):List V:=EU a b c i 0++EU a b c i 1++EU a b c i 2++EU a b c i 3++EU a b c i 4++EU a b c i 5++EU a b c i 6++EU a b c i 7
theorem UM (a b c:Int × Int) (i:Nat):(Dq a b c i).length=16:=by
 have h:∀ k,(EU a b c i k).length=2:=fun k=>by unfold EU;split<;>rfl
 simp [Dq,h]
theorem CH {a b c:Int × Int} (ha:okS a=true) (hb:okS b=true) (hc:okS c=true) (h1:¬ c.1<1) (k:Nat):Ct prog 171 [vi (if k%2=1 then a.2 else a.1),vi (if k/2%2=1 then b.2 else b.1),vi (if k/4=1 then c.2 else c.1)] (vsp (HO a b c k).1 (HO a b c k).2) []:=by
 rw [CT] at ha hb hc;refine qp _ _ _ ?_ ?_ ?_<;>split<;>omega
theorem zW (a b c:Int × Int):Ct prog 146 [vsp a.1 a.2,vsp b.1 b.2,vsp c.1 c.2] (vse (Ja a b c)) []:=by
 refine CB func146 c146 fun E hE=>?_
 simp [p146,AM,AA];refine CLb (Tc [a,b,c] (by simp)) (by first | (simp;done) | simp [Bk]) ?_;by_cases h:(okS a&&okS b&&okS c)=true
 . have hf:Co [a,b,c]=true:=by simpa [Co,Bool.and_assoc] using h
   have h':=h;simp only [Bool.and_eq_true] at h';obtain ⟨⟨ha,hb⟩,hc⟩:=h';by_cases h1:c.1<1
   . simp [hf,h1,AA]
     apply RZ;simp [results146,Ja,h,h1]
   . simp [hf,h1]
     refine BL (α:=Nat) 1 (fun _:Unit=>⟨AO [(6, .lp 0 0),(8, .lp 1 0)],lk [(0,[vi 0,vi 0]),(1,Dq a b c 8)],2⟩) (fun _=>True) (fun i=>⟨AO [(3, .lp 2 0),(4, .lp 3 0),(5, .lp 4 0),(6, .lp 0 0),(8, .lp 1 0),(26,vi i)],lk [(0,[vi 0,vi 0]),(1,Dq a b c i),(2,[vi a.1,vi a.2]),(3,[vi b.1,vi b.2]),(4,[vi c.1,vi c.2])],5⟩) (fun i=>i<=8) (fun i=>8-i) 0 ?_ ?_ ?_ fun _ _=>?_
     . simp
     . refine AI.mk hE (lk [(0,3145728),(1,16777216),(2,0),(3,1048576),(4,2097152)]) _ _ _ ?_ ?_ ?_ ?_ ?_<;>simp [Dq,EU]
     . intro i hi
       simp [APJ];by_cases hlt:i<8
       . have hlt':(i:Int)<8:=by omega
         have hz:IntKind.wrap .i64 ((i:Int)+1)=(i:Int)+1:=AD (by omega) (by omega);simp [hlt'];refine PG [(18,15),(19,16)] (by kernel_rfl) ?_;have e0:bits .and .i64 0 1=0:=by decide
         have e1:bits .and .i64 1 1=1:=by decide
         have e2:bits .and .i64 2 1=0:=by decide
         have e3:bits .and .i64 3 1=1:=by decide
         have e4:bits .and .i64 4 1=0:=by decide
         have e5:bits .and .i64 5 1=1:=by decide
         have e6:bits .and .i64 6 1=0:=by decide
         have e7:bits .and .i64 7 1=1:=by decide
         simp [inC,Nat.testBit,AA];have s0:=CH ha hb hc h1 0;have s1:=CH ha hb hc h1 1;have s2:=CH ha hb hc h1 2;have s3:=CH ha hb hc h1 3;have s4:=CH ha hb hc h1 4;have s5:=CH ha hb hc h1 5;have s6:=CH ha hb hc h1 6;have s7:=CH ha hb hc h1 7;simp at s0 s1 s2 s3 s4 s5 s6 s7;have hi8:i=0\/i=1\/i=2\/i=3\/i=4\/i=5\/i=6\/i=7:=by omega
         rcases hi8 with rfl | rfl | rfl | rfl | rfl | rfl | rfl | rfl
         . simp [e0]
           refine CLa s0 ?_;simp [Dq,EU,AA,AD];refine ⟨1,by omega,by omega,?_⟩;exact WK hE (lk [(0,0),(1,1),(2,2),(3,3),(4,4)])
         . simp [e0,e1]
           refine CLa s1 ?_;simp [Dq,EU,AA,AD];refine ⟨2,by omega,by omega,?_⟩;exact WK hE (lk [(0,0),(1,1),(2,2),(3,3),(4,4)])
         . simp [e1,e2]
           refine CLa s2 ?_;simp [Dq,EU,AA,AD];refine ⟨3,by omega,by omega,?_⟩;exact WK hE (lk [(0,0),(1,1),(2,2),(3,3),(4,4)])
         . simp [e1,e3]
           refine CLa s3 ?_;simp [Dq,EU,AA,AD];refine ⟨4,by omega,by omega,?_⟩;exact WK hE (lk [(0,0),(1,1),(2,2),(3,3),(4,4)])
         . simp [e2,e4]
           refine CLa s4 ?_;simp [Dq,EU,AA,AD];refine ⟨5,by omega,by omega,?_⟩;exact WK hE (lk [(0,0),(1,1),(2,2),(3,3),(4,4)])
         . simp [e2,e5]
           refine CLa s5 ?_;simp [Dq,EU,AA,AD];refine ⟨6,by omega,by omega,?_⟩;exact WK hE (lk [(0,0),(1,1),(2,2),(3,3),(4,4)])
         . simp [e3,e6]
           refine CLa s6 ?_;simp [Dq,EU,AA,AD];refine ⟨7,by omega,by omega,?_⟩;exact WK hE (lk [(0,0),(1,1),(2,2),(3,3),(4,4)])
         . simp [e3,e7]
           refine CLa s7 ?_;simp [Dq,EU,AA,AD];refine ⟨8,by omega,by omega,?_⟩;exact WK hE (lk [(0,0),(1,1),(2,2),(3,3),(4,4)])
       . have:i=8:=by omega
         subst this;simp;refine AI.mk hE (lk [(0,0),(1,1)]) _ _ _ ?_ ?_ ?_ ?_ ?_<;>simp [Dq,EU]
     . simp [UM]
       refine CLb (yP (HO a b c 0) (Lx a b c) (by simp [Lx])) (by first | (simp;done) | simp [Bk,Lx,Dq,EU]) ?_;simp;refine AU.mk _ _ _ (ASW (ALK (HO a b c 0) (Lx a b c))) (by first | (simp;done) | simp [Bk,CP]) (by simp) (by first | (left;simp;done) | (right;simp;done)) ?_;simp [AA];apply RZ;simp [results146,Ja,h,h1]
 . have hf:Co [a,b,c]=false:=by simpa [Co,Bool.and_assoc] using h
   simp [hf,AA];apply RZ;simp [results146,Ja,h]
def sqG (n:Int):Nat->Int->Int
 | 0,r=>r
 | k+1,r=>sqG n k (if (r+2^k)*(r+2^k)<=n then r+2^k else r)
def DL (n:Int):Int:=sqG n 21 0
def LA (n r:Int):Prop:=0<=r/\r*r<=n/\n<(r+1)*(r+1)
theorem NW (n:Int):∀ (k:Nat) (r:Int),0<=r->r*r<=n->n<(r+2^k)*(r+2^k)->LA n (sqG n k r)
 | 0,r,h0,h1,h2=>⟨h0,h1,by simp only [sqG];simpa using h2⟩
 | k+1,r,h0,h1,h2=>by
   have hp:(1:Int)<=2^k:=LJ k;have e:(2:Int)^(k+1)=2^k+2^k:=by rw [Int.pow_succ];omega
   simp only [sqG];split
   . rename_i h
     exact NW n k _ (by omega) h (by rw [e,<-Int.add_assoc] at h2;exact h2)
   . rename_i h
     exact NW n k _ h0 h1 (by omega)
theorem PN {n r s:Int} (h1:LA n r) (h2:LA n s):r=s:=by
 obtain ⟨a1,a2,a3⟩:=h1;obtain ⟨b1,b2,b3⟩:=h2
 have key:∀ p q:Int,0<=p->0<=q->p*p<=n->n<(q+1)*(q+1)->p<=q:=fun p q hp hq h h'=>by
   refine Int.not_lt.1 fun hlt=>?_
   have:(q+1)*(q+1)<=p*p:=DE (by omega) (by omega) (by omega) (by omega);omega
 have:=key r s a1 b1 a2 b3;have:=key s r b1 a1 b2 a3;omega
theorem PP (n:Int) (h:0<=n/\n<=1099511627776):LA n (DL n):=NW n 21 0 (by omega) (by omega) (by simp;omega)
theorem V9 {n r:Int} (h:LA n r) (hn:n<=1099511627776):r<=1048576:=by
 refine Int.not_lt.1 fun hlt=>?_
 have:(1048577:Int)*1048577<=r*r:=DE (by omega) (by omega) (by omega) (by omega);have:=h.2.1;omega
theorem jR (n:Int) (h:0<=n/\n<=1099511627776):Ct prog 177 [vi n] (vi (DL n)) []:=by
 refine CB func177 c177 fun E hE=>?_
 simp [p177];refine BL (α:=Int × Int) 0 (fun _:Unit=>⟨AO [(3,vi (DL n))],lk [],0⟩) (fun _=>True) (fun x=>⟨AO [(0,vi n),(3,vi x.1),(4,vi x.2)],lk [],0⟩) (fun x=>0<=x.1/\x.1<x.2/\x.2<=1048577/\x.1*x.1<=n/\n<x.2*x.2) (fun x=>(x.2-x.1).toNat) (0,1048577) ?_ ?_ ?_ fun _ _=>?_
 . simp;omega
 . exact WK hE (lk [])
 . rintro ⟨lo,hi⟩ ⟨h1,h2,h3,h4,h5⟩
   simp only at h1 h2 h3 h4 h5;have w1:IntKind.wrap .i64 (hi-lo)=hi-lo:=AD (by omega) (by omega);have w2:IntKind.wrap .i64 (lo+hi)=lo+hi:=AD (by omega) (by omega);have t:(lo+hi).tdiv 2=(lo+hi)/2:=Int.tdiv_eq_ediv_of_nonneg (by omega);have w3:IntKind.wrap .i64 ((lo+hi)/2)=(lo+hi)/2:=AD (by omega) (by omega);have m0:0<=(lo+hi)/2:=by omega
   have m1:(lo+hi)/2*((lo+hi)/2)<=1048577*1048577:=DE (by omega) (by omega) m0 (by omega);have m2:=Int.mul_nonneg m0 m0;have w4:IntKind.wrap .i64 ((lo+hi)/2*((lo+hi)/2))=(lo+hi)/2*((lo+hi)/2):=AD (by omega) (by omega);by_cases hc:1<hi-lo
   . by_cases hm:(lo+hi)/2*((lo+hi)/2)<=n
     . simp [bJ,w1,w2,t,w3,w4,hc,hm]
       refine ⟨(lo+hi)/2,hi,⟨m0,by omega,h3,hm,h5⟩,by omega,?_⟩;exact WK hE (lk [])
     . simp [bJ,w1,w2,t,w3,w4,hc,hm]
       refine ⟨lo,(lo+hi)/2,⟨h1,by omega,by omega,h4,by omega⟩,by omega,?_⟩;exact WK hE (lk [])
   . have e:hi=lo+1:=by omega
     have:lo=DL n:=PN ⟨h1,h4,by rw [<-e];exact h5⟩ (PP n h);simp [bJ,w1,hc];refine AI.mk hE (lk []) _ _ _ ?_ ?_ ?_ ?_ ?_<;>simp [this]
 . simp
   apply RZ;simp [results177]
def LB (a:Int × Int):(Int × Int) × Int:=
 if okS a then (if a.1<0 then ((0,0),2) else ((DL a.1,if DL a.2*DL a.2=a.2 then DL a.2 else DL a.2+1),0)) else ((0,0),10)
theorem qn (a:Int × Int):Ct prog 164 [vsp a.1 a.2] (vse (LB a)) []:=by
 refine CB func164 c164 fun E hE=>?_
 simp [p164,AM,AA];refine CLb (Tc [a] (by simp)) (by first | (simp;done) | simp [Bk]) ?_;by_cases h:okS a=true
 . have hf:Co [a]=true:=by simpa [Co] using h
   have hh:=CT.1 h;by_cases h1:a.1<0
   . simp [hf,h1,AA]
     apply RZ;simp [results164,LB,h,h1]
   . simp [hf,h1,inC,Nat.testBit]
     refine CLa (jR a.1 (by omega)) ?_;simp [inC,Nat.testBit];refine CLa (jR a.2 (by omega)) ?_;have q:=PP a.2 (by omega);have ql:=V9 q (by omega);have m:=q.2.1;have m2:=Int.mul_nonneg q.1 q.1;have w:IntKind.wrap .i64 (DL a.2*DL a.2)=DL a.2*DL a.2:=AD (by omega) (by omega);have w2:IntKind.wrap .i64 (DL a.2+1)=DL a.2+1:=AD (by have:=q.1;omega) (by omega);have wa:IntKind.wrap .i64 a.2=a.2:=AD (by omega) (by omega);by_cases hq:DL a.2*DL a.2=a.2
     . simp [AA,wa,hq]
       apply RZ;simp [results164,LB,h,h1,hq]
     . simp [AA,w,w2,hq]
       apply RZ;simp [results164,LB,h,h1,hq]
 . have hf:Co [a]=false:=by simpa [Co] using h
   simp [hf,AA];apply RZ;simp [results164,LB,h]
open Go.Geo (cross CV chainR Bo)
def leC (x y:Int × Int):Bool:=!decide (Dw y x<0)
theorem PX {x y:Int × Int}:Dw x y<0↔Go.Geo.lt x y:=by
 unfold Dw orI orI orI NM Go.Geo.lt;by_cases h1:x.1<y.1
 . simp [h1]
 . by_cases h2:y.1<x.1
   . simp [h1,h2];omega
   . by_cases h3:x.2<y.2
     . simp [h1,h2,h3];omega
     . by_cases h4:y.2<x.2
       . simp [h1,h2,h3,h4]
       . simp [h1,h2,h3,h4]
theorem GZ {x y:Int × Int}:leC x y=true↔¬ Go.Geo.lt y x:=by unfold leC;rw [Bool.not_eq_true',decide_eq_false_iff_not,PX]
theorem WD (a b c:Int × Int) (h1:leC a b=true) (h2:leC b c=true):leC a c=true:=by
 rw [GZ] at*;unfold Go.Geo.lt at*;omega
theorem WE (a b:Int × Int):(leC a b||leC b a)=true:=by
 rw [Bool.or_eq_true,GZ,GZ];unfold Go.Geo.lt;omega
theorem bc {a b:Int × Int} (h1:leC a b=true) (h2:leC b a=true):a=b:=by
 rw [GZ] at*;unfold Go.Geo.lt at*
 ext<;>omega
theorem PY (l:List (Int × Int)):(DK l).Pairwise fun x y=>leC x y=true:=List.pairwise_mergeSort WD WE l
theorem be {l m:List (Int × Int)} (hp:m.Perm l) (hs:m.Pairwise fun x y=>leC x y=true):DK l=m:=
 List.Perm.eq_of_pairwise (le:=fun x y=>leC x y=true) (fun _ _ _ _ h1 h2=>bc h1 h2) (PY l) hs ((List.mergeSort_perm l _).trans hp.symm)
theorem qi {l:List (Int × Int)} (h:l.Pairwise fun x y=>leC x y=true):Go.Geo.Sorted (ddC l):=by
 have key:∀ (l d:List (Int × Int)),l.Pairwise (fun x y=>leC x y=true)->Go.Geo.Sorted d->(∀ x∈d,∀ y∈l,leC x y=true)->Go.Geo.Sorted (l.foldl DQ d):=by
   intro l;induction l with
   | nil=>intro d _ h _;exact h
   | cons a l ih=>
     intro d hl hd hx;rw [List.foldl_cons];have hl':=List.pairwise_cons.1 hl;unfold DQ;by_cases h:d.getLast?= some a
     . rw [if_pos h]
       exact ih d hl'.2 hd fun x hx' y hy=>hx x hx' y (by simp [hy])
     . rw [if_neg h]
       refine ih _ hl'.2 ?_ fun x hx' y hy=>?_
       . unfold Go.Geo.Sorted
         rw [List.pairwise_append];refine ⟨hd,List.pairwise_singleton _ _,fun x hxd y hy=>?_⟩;rw [List.mem_singleton.1 hy];have h1:=GZ.1 (hx x hxd a (by simp));rcases Go.Geo.lt_tri x a with h2 | h2 | h2
         . exact h2
         . exfalso
           subst h2;rcases List.eq_nil_or_concat d with rfl | ⟨d',z,rfl⟩
           . simp at hxd
           . rw [List.concat_eq_append] at*
             have hz:=GZ.1 (hx z (by simp) x (by simp));have hne:z≠x:=fun e=>h (by rw [e];simp)
             have hxd':x∈d':=by
               rcases List.mem_append.1 hxd with h | h
               . exact h
               . exact absurd (List.mem_singleton.1 h).symm hne
             have:=(List.pairwise_append.1 hd).2.2 x hxd' z (by simp);exact hz this
         . exact absurd h2 h1
       . rcases List.mem_append.1 hx' with h | h
         . exact hx x h y (by simp [hy])
         . rw [List.mem_singleton.1 h];exact hl'.1 y hy
 exact key l [] h List.Pairwise.nil (by simp)
theorem JN (l:List (Int × Int)):Go.Geo.Sorted (ddC (DK l)):=qi (PY l)
instance (l:List (Int × Int)):Decidable (l.Pairwise fun x y=>leC x y=true):=inferInstance
theorem bf {l m:List (Int × Int)} (hp:m.Perm l) (hs:m.Pairwise fun x y=>leC x y=true):Fb l=Bo (ddC m):=by unfold Fb;rw [be hp hs]
theorem z6 {H:Hp} {id:Nat} {cs:List V} (l:List (Int × Int)) (h:H id=some cs) (hc:cs=BC l):Bor H (.ls id 0 l.length 2) (.d (An l)):=by
 rw [Bk];refine ⟨rfl,by simp,fun e he=>?_,_,h,?_⟩
 . simp only [List.mem_map] at he
   obtain ⟨k,_,rfl⟩:=he;rfl
 . rw [Om,hc,List.drop_zero,List.take_of_length_le (by simp)]
def qj (l:List (Int × Int × Int)) (i:Nat) (a k:Int × Int × Int) (x:Int):Prop:=l[i]?= some a/\l[i+1]?= some k/\a.1<=x/\x<=k.1/\(i=0\/a.1<x)
section
variable {l:List (Int × Int × Int)} (ht:Ck l=true) {i:Nat} {a k:Int × Int × Int} {x:Int} (h:qj l i a k x) {u v:Int} (hu:a.2.1<=u/\u<=a.2.2) (hv:k.2.1<=v/\v<=k.2.2)
def qk (y:Int × Int):Int:=max y.1 (-1073741825)
def jP (y:Int × Int):Int:=min y.2 1073741825
def isIn (y:Int × Int) (num den:Int):Prop:=qk y<=1073741825/\ -1073741825<=jP y/\qk y*den<=num/\num<=jP y*den
end
end Go.Proofs.Tryz
namespace Go.Geo
def box (a b p:C):Prop:=(min a.1 b.1<=p.1/\p.1<=max a.1 b.1)/\min a.2 b.2<=p.2/\p.2<=max a.2 b.2
def InR (r:List C) (p:C):Prop:=(∀ e∈cyc r,0<=cross e.1 e.2 p)/\(2<r.length\/∃ a b,r.head?= some a/\r.getLast?= some b/\box a b p)
theorem dR {a b p:C} (hab:lt a b) (h1:le a p) (h2:le p b) (hc:cross a b p=0):box a b p:=by
 unfold box;unfold le lt at h1 h2;unfold lt at hab;unfold cross at hc;rcases hab with hab | ⟨h3,h4⟩
 . have k1:0<=p.1-a.1:=by omega
   have k2:0<=b.1-p.1:=by omega
   have e1:(b.1-a.1)*(p.2-a.2)=(b.2-a.2)*(p.1-a.1):=by omega
   have e2:(b.1-a.1)*(b.2-p.2)=(b.2-a.2)*(b.1-p.1):=by grind
   rcases Int.le_total a.2 b.2 with h | h
   . have q1:=Int.mul_nonneg (show 0<=b.2-a.2 by omega) k1
     have q2:=Int.mul_nonneg (show 0<=b.2-a.2 by omega) k2;have:=C8 (show 0<b.1-a.1 by omega) (by rw [e1];exact q1);have:=C8 (show 0<b.1-a.1 by omega) (by rw [e2];exact q2);omega
   . have q1:=Int.mul_nonneg (show 0<=a.2-b.2 by omega) k1
     have q2:=Int.mul_nonneg (show 0<=a.2-b.2 by omega) k2
     have:=C8 (y:=a.2-p.2) (show 0<b.1-a.1 by omega) (by
      have:(b.1-a.1)*(a.2-p.2)=(a.2-b.2)*(p.1-a.1):=by grind
      rw [this];exact q1)
     have:=C8 (y:=p.2-b.2) (show 0<b.1-a.1 by omega) (by
      have:(b.1-a.1)*(p.2-b.2)=(a.2-b.2)*(b.1-p.1):=by grind
      rw [this];exact q2)
     omega
 . omega
theorem hull_two {l:List C} (h:Sorted l) (h3:¬ l.length<3) (hn:¬ 5<=(chainR l).length+(chainR l.reverse).length):∃ f g,l.head?= some f/\l.getLast?= some g/\lt f g/\Bo l=[f,g]/\chainR l=[g,f]/\chainR l.reverse=[f,g]:=by
 obtain ⟨f,g,lo,up,hf,hg,hfg,e1,e2,b1,b2⟩:=Q2 h (by omega)
 have hgl:lt f g:=by
   rcases lt_tri f g with h1 | h1 | h1
   . exact h1
   . exact absurd h1 hfg
   . exact absurd h1 (Dh h hf g (List.mem_of_getLast? hg))
 refine ⟨f,g,hf,hg,hgl,?_⟩;rw [e1,e2] at hn;unfold Bo;rw [if_neg h3,e1,e2]
 match lo,up,b1,b2,hn with
 | [x],[y],b1,b2,_=>simp at b1 b2;subst b1;subst b2;exact ⟨rfl,rfl,rfl⟩
 | [],_,b1,_,_=>simp at b1
 | _,[],_,b2,_=>simp at b2
 | _::_::_,_::_,_,_,hn=>simp at hn;omega
 | [_],_::_::_,_,_,hn=>simp at hn;omega
theorem hull_len {l:List C} (h3:¬ l.length<3):(Bo l).length+2=(chainR l).length-1+((chainR l.reverse).length-1)+2:=by
 unfold Bo;rw [if_neg h3];simp
theorem chain_len2 {l:List C} (h:Sorted l) (h2:2<=l.length):2<=(chainR l).length/\2<=(chainR l.reverse).length:=by
 obtain ⟨f,g,lo,up,hf,hg,hfg,e1,e2,b1,b2⟩:=Q2 h h2;rw [e1,e2];constructor
 . cases lo with | nil=>simp at b1 | cons=>simp
 . cases up with | nil=>simp at b2 | cons=>simp
theorem hull_in {l:List C} (h:Sorted l):∀ q∈l,InR (Bo l) q:=by
 intro q hq;by_cases h3:l.length<3
 . have e:Bo l=l:=by unfold Bo;rw [if_pos h3]
   rw [e]
   match l,h3,h,hq with
   | [],_,_,hq=>simp at hq
   | [a],_,_,hq=>
     simp at hq;subst hq;refine ⟨fun e he=>?_,Or.inr ⟨q,q,rfl,rfl,by unfold box;omega⟩⟩;simp [cyc,steps] at he;subst he;rw [cross_self];omega
   | [a,b],_,h,hq=>
     refine ⟨fun e he=>?_,Or.inr ⟨a,b,rfl,rfl,?_⟩⟩
     . simp [cyc,steps] at he
       simp at hq;rcases he with rfl | rfl<;>rcases hq with rfl | rfl<;>simp only [cross_self,cross_self2]<;>omega
     . simp at hq
       rcases hq with rfl | rfl<;>(unfold box;omega)
   | _::_::_::_,h3,_,_=>simp at h3;omega
 . have hl:=UN h (by omega)
   refine ⟨fun e he=>hl e he q hq,?_⟩;have hlen:=hull_len h3;have h22:=chain_len2 h (by omega);by_cases hn:5<=(chainR l).length+(chainR l.reverse).length
   . left;omega
   . right
     obtain ⟨f,g,hf,hg,hfg,e,_⟩:=hull_two h h3 hn;refine ⟨f,g,by rw [e];rfl,by rw [e];rfl,?_⟩;have c1:=hl (f,g) (by rw [e];simp [cyc,steps]) q hq;have c2:=hl (g,f) (by rw [e];simp [cyc,steps]) q hq;simp only at c1 c2;rw [cross_swap2] at c2
     have hlast:le q g:=by
       have hs:=Ks h;have:=Dh hs (f:=neg g) (by rw [List.head?_map,List.head?_reverse,hg];rfl) (neg q) (List.mem_map.2 ⟨q,List.mem_reverse.2 hq,rfl⟩);intro hlt;exact this (Qy.2 hlt)
     exact dR hfg (Dh h hf q hq) hlast (by omega)
theorem Eb.mono {d d':List C} (hd:∀ q∈d',q∈d):∀ {st:List C},Eb d st->Eb d' st
 | [],_=>trivial
 | [_],_=>trivial
 | [_,_],h=>⟨h.1,fun q hq=>h.2 q (hd q hq)⟩
 | _::_::_::_,h=>⟨h.1,h.2.1,fun q hq=>h.2.2.1 q (hd q hq),Eb.mono hd h.2.2.2⟩
def dot (d v:C):Int:=d.1*v.1+d.2*v.2
def T (w v:C):C:=(-(xp w v), -(dot w v))
theorem MG:∀ l:List C,(steps l).length=l.length-1
 | []=>rfl
 | [_]=>rfl
 | _::b::r=>by simp only [steps,List.length_cons];rw [MG (b::r)];simp
theorem O3:∀ (l:List C) (i:Nat) (a b:C),l[i]?= some a->l[i+1]?= some b->(steps l)[i]?= some (a,b)
 | [],_,_,_,h,_=>by simp at h
 | [_],i,_,_,_,h=>by simp at h
 | x::y::r,0,a,b,h1,h2=>by simp at h1 h2;subst h1;subst h2;rfl
 | x::y::r,i+1,a,b,h1,h2=>by
   simp only [steps,List.getElem?_cons_succ] at h1 h2 ⊢;exact O3 (y::r) i a b h1 h2
theorem cyc_len (r:List C):(cyc r).length=r.length:=by
 cases r with
 | nil=>rfl
 | cons a t=>simp only [cyc];rw [MG];simp
theorem cyc_at {r:List C} {i j:Nat} {a b:C} (ha:r[i]?= some a) (hj:j=(i+1)%r.length) (hb:r[j]?= some b):(cyc r)[i]?= some (a,b):=by
 cases r with
 | nil=>simp at ha
 | cons x t=>
   have hi:=(List.getElem?_eq_some_iff.1 ha).1;simp only [cyc];refine O3 _ i a b ?_ ?_
   . rw [List.getElem?_append_left hi];exact ha
   . by_cases h:i+1<(x::t).length
     . rw [Nat.mod_eq_of_lt h] at hj
       subst hj;rw [List.getElem?_append_left h];exact hb
     . have e:i+1=(x::t).length:=by omega
       rw [e,Nat.mod_self] at hj;subst hj;simp at hb;subst hb;rw [e,List.getElem?_append_right (Nat.le_refl _),Nat.sub_self];rfl
theorem MH:∀ {l:List C} {e:C × C},e∈steps l->e.1∈l/\e.2∈l
 | [],_,h=>by simp [steps] at h
 | [_],_,h=>by simp [steps] at h
 | a::b::r,e,h=>by
   simp only [steps,List.mem_cons] at h;rcases h with rfl | h
   . simp
   . have:=MH (l:=b::r) h
     exact ⟨List.mem_cons_of_mem _ this.1,List.mem_cons_of_mem _ this.2⟩
theorem cyc_mem {r:List C} {e:C × C} (h:e∈cyc r):e.1∈r/\e.2∈r:=by
 cases r with
 | nil=>simp [cyc] at h
 | cons a t=>
   simp only [cyc] at h;have:=MH h;simp only [List.mem_append,List.mem_cons,List.not_mem_nil,or_false] at this ⊢;constructor
   . rcases this.1 with h | h;exact h;exact Or.inl h
   . rcases this.2 with h | h;exact h;exact Or.inl h
end Go.Geo
namespace Go.Proofs.Tryz
open Go.Psl
open Go.Geo (cross cyc InR box)
def ZU (p:Int × Int) (es:List ((Int × Int) × (Int × Int))):Bool:=es.all fun e=>decide (0<=cross e.1 e.2 p)
theorem MJ {p:Int × Int} {es:List ((Int × Int) × (Int × Int))}:ZU p es=true↔∀ e∈es,0<=cross e.1 e.2 p:=by
 unfold ZU;simp [List.all_eq_true]
def ZV (n lo hi:Int):Bool:=decide (lo<=n)&&decide (n<=hi)
def Lj (r:List (Int × Int)) (p:Int × Int):Bool:=match r with
 | []=>false
 | [a]=>decide (a=p)
 | a::b::t=>ZU p (cyc r)&&(decide (0<t.length)||(ZV p.1 a.1 b.1&&ZV p.2 (min a.2 b.2) (max a.2 b.2)))
theorem ASX (r:List (Int × Int)):Ct prog 199 [.d (An r)] (.cl 212 [.lp 0 0]) [(0,[.d (An r)])]:=by
 refine CB func199 c199 fun E hE=>?_
 simp [p199];refine AB.by (lk [(0,0)]) ?_;simp [results199]
theorem MK (r:List (Int × Int)) (hl:r.length<=1000000) (KS:List Nat) (k a m:Nat) (go:Nat->Bool) (L:Nat->List (Nat × List V)) (hk:k∈KS) (ha:a∈KS) (hN:∀ i∈KS,i<1000000000) (hm:m<=r.length) (hL:∀ i,i<=m->A4 KS (L i))
   (hrec:∀ i,i<m->∃ fr nt ps pa pb jmp,lk (L i) k=some [.lr fr nt ps pa pb jmp]/\ps.length=2) (hbox:∀ i,i<=m->lk (L i) a=some [.d (An r)]) (hgo:∀ j,j+1<m->go j=true) (hend:m=r.length\/(0<m/\go (m-1)=false))
   (hY:∀ i x y,i<m->(cyc r)[i]?= some (x,y)->Ym prog k [vsp x.1 x.2,vsp y.1 y.2] (lk (L i)) KS (.ret (vb (go i))) (lk (L (i+1)))):
   Cm prog 212 [.yl k, .lp a 0] (lk (L 0)) KS (.ret (.tup [])) (lk (L m)):=by
 refine Cm.by gok eok mixed 1000000000 func212 c212 rfl (by simp [ntmps212]) (by simp;exact ⟨hN k hk,hN a ha⟩) (A7.at ((hL 0 (by omega)).ids hN)) hN ⟨by simp,(hL m (Nat.le_refl _)).res⟩ fun E hs hE=>?_
 have haN:=hN a ha;have na:∀ x,1000000000<=x->¬ a=x:=fun x _=>by omega
 have la:∀ x,1000000000<=x->a<x:=fun x _=>by omega
 have b0:=hbox 0 (by omega);simp [p212,b0];refine Al (α:=Nat) (fun i=>⟨AO [(0, .yl k),(1, .lp a 0),(5, .d (An r)),(6,vi r.length),(7,vi i)],lk (L i),1000000000⟩) (fun i=>i<=m/\(i=m->m=r.length)) (fun i=>m-i) 0 ?_ ?_ ?_
 . omega
 . refine AI.keep hs (hL 0 (by omega)) (fun i _=>by simp) hN _ ?_ ?_
   . simp [Cr hk,Cr ha]
   . simp [hN k hk,hN a ha]
 . rintro i ⟨hi,him⟩
   simp [APS];refine Bh (fun h=>?_) (fun h=>?_)
   . simp at h
     have him2:i<m:=by omega
     have bi:=hbox i hi;obtain ⟨x,hx⟩:=gE h;obtain ⟨n,hn⟩:∃ n,r.length=n:=⟨_,rfl⟩
     rw [hn] at h hl hm him hend;obtain ⟨j,hj⟩:∃ j,j=(i+1)%n:=⟨_,rfl⟩
     have hjn:j<n:=by rw [hj];exact Nat.mod_lt _ (by omega)
     obtain ⟨y,hy⟩:∃ y,r[j]?= some y:=⟨r[j],by simp [show j<r.length by omega]⟩
     have hcy:=Go.Geo.cyc_at hx (by rw [hn];exact hj) hy;have hY':=hY i x y him2 hcy;obtain ⟨fr,nt,ps,pa,pb,jmp,hr1,hr2⟩:=hrec i him2;obtain ⟨i1,hi1⟩:∃ i1,i1=i+1:=⟨_,rfl⟩
     have hz:IntKind.wrap .i64 ((i:Int)+1)=(i1:Int):=by rw [AD (by omega) (by omega)];omega
     rw [<-hi1] at hj hY';have q1:(0:Int)<=(i1:Int).tmod (n:Int):=Int.natCast_nonneg (i1%n);have q2:((i1:Int).tmod (n:Int)).toNat=j:=by rw [hj];rfl
     have hnz:¬ (n:Int)=0:=by omega
     have hnz':¬ n=0:=by omega
     simp [hx,hz,hn,inC,Nat.testBit,AA,bi,na,la,hnz',q1,q2,hy];have hne:∀ q∈KS,¬ q=1004194304:=fun q hq e=>by have:=hN q hq;omega
     refine Fp.keep [vsp x.1 x.2,vsp y.1 y.2] (L i) (L i1) KS _ hY' (hL i hi) (hL i1 (by omega)) ⟨fr,nt,ps,pa,pb,jmp,hr1,hr2⟩ (fun q hq=>by simp [hne q hq]) (by simp) ?_;cases hgi:go i
     . have e:i1=m:=by
         by_cases hlt:i+1<m
         . rw [hgo i hlt] at hgi;cases hgi
         . omega
       simp;refine Dc.keep rfl (hL m (Nat.le_refl _)) fun q hq=>by simp [hq,e]
     . simp [hz]
       refine ⟨i1,⟨by omega,fun e=>?_⟩,by omega,?_⟩
       . rcases hend with h1 | ⟨_,h1⟩
         . exact h1
         . rw [show m-1=i by omega,hgi] at h1;cases h1
       . refine AI.keep hs (hL i1 (by omega)) (fun q hq=>by simp [hq]) hN _ ?_ ?_
         . simp [Cr hk,Cr ha]
         . simp [hN k hk,hN a ha]
   . simp at h
     have e:i=m:=by omega
     subst e;simp;exact Dc.keep rfl (hL i (Nat.le_refl _)) fun i _=>by simp
end Go.Proofs.Tryz
