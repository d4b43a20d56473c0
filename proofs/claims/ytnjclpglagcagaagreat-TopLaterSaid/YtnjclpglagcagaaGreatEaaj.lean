/- Own lemmas, used by the last text. Conditions: those that each theorem states. -/
import Derived.Test.YtnjclpglagcagaaGreatEaae
import Derived.Test.YtnjclpglagcagaaGreatEaaf
import Derived.Test.YtnjclpglagcagaaGreatEaag
import Derived.Test.YtnjclpglagcagaaGreatEaah
import Derived.Test.YtnjclpglagcagaaGreatEaai
set_option maxRecDepth 200000
set_option maxHeartbeats 8000000
namespace Go.Proofs.Tryz
open Go.Psl
open Go.Geo (cross CV chainR Bo)
def DK (l:List (Int × Int)):List (Int × Int):=l.mergeSort fun x y=>!decide (Dw y x<0)
def Fb (l:List (Int × Int)):List (Int × Int):=Bo (ddC (DK l))
theorem El (l:List (Int × Int)):(DK l).length=l.length:=List.length_mergeSort _
theorem Lw (l:List (Int × Int)) (p:Int × Int):p∈DK l↔p∈l:=(List.mergeSort_perm l _).mem_iff
theorem Su {p:Int × Int}:∀ l:List (Int × Int),p∈ddC l↔p∈l:=by
 have key:∀ (l d:List (Int × Int)),p∈l.foldl DQ d↔p∈d\/p∈l:=by
   intro l;induction l with
   | nil=>intro d;simp
   | cons a l ih=>
     intro d;rw [List.foldl_cons,ih];unfold DQ;by_cases h:d.getLast?= some a
     . rw [if_pos h]
       have:=List.mem_of_getLast? h;simp only [List.mem_cons];constructor
       . rintro (h | h);exact Or.inl h;exact Or.inr (Or.inr h)
       . rintro (h | rfl | h);exact Or.inl h;exact Or.inl this;exact Or.inr h
     . rw [if_neg h]
       simp only [List.mem_append,List.mem_cons,List.not_mem_nil,or_false];constructor
       . rintro ((h | h) | h);exact Or.inl h;exact Or.inr (Or.inl h);exact Or.inr (Or.inr h)
       . rintro (h | h | h);exact Or.inl (Or.inl h);exact Or.inl (Or.inr h);exact Or.inr h
 intro l;have:=key l [];simp only [List.not_mem_nil,false_or] at this;exact this
theorem pS (hsort:∀ l:List (Int × Int),0<l.length->l.length<=100000->Cm prog 179 [.ls 0 0 l.length 2, .d (.fn 180 [])] (lk [(0,BC l)]) [0] (.ret (.tup [])) (lk [(0,BC (DK l))]))
   (l:List (Int × Int)) (h1:0<l.length) (hl:l.length<=100000) (hbd:∀ q∈l,bd 536870912 q):∃ z,Ct prog 167 [.d (An l)] (.ls 0 0 (Fb l).length 2) [(0,BC (Fb l++z))]:=by
 have hne:l≠[]:=by intro h;rw [h] at h1;simp at h1
 obtain ⟨L,hL⟩:∃ L,ddC (DK l)=L:=⟨_,rfl⟩
 have hLm:∀ q∈L,bd 536870912 q:=fun q hq=>hbd q (by rw [<-hL,Su,Lw] at hq;exact hq)
 have hLl:L.length<=l.length:=by
   have:=I6 (DK l) l.length;rw [List.take_of_length_le (by rw [El];omega),hL] at this;exact this
 have c1:=rJ l (by omega) hne;have c2:=hsort l h1 hl;have c3:=qB (DK l) (by rw [El];omega);rw [El,hL] at c3;obtain ⟨zl,hzl⟩:∃ zl,List.replicate (l.length-L.length) ((0:Int),(0:Int))=zl:=⟨_,rfl⟩
 rw [hzl] at c3;unfold Fb;rw [hL]
 have hLpos:0<L.length:=by
   obtain ⟨p,hp⟩:=List.exists_mem_of_length_pos h1;have:p∈L:=by rw [<-hL,Su,Lw];exact hp
   exact List.length_pos_of_mem this
 have n1:spD l≠[]:=by intro h;have:=congrArg List.length h;simp at this;omega
 have n2:spD (DK l)≠[]:=by intro h;have:=congrArg List.length h;rw [Di,El] at this;simp at this;omega
 have n3:∀ z,spD (L++z)≠[]:=by intro z h;have:=congrArg List.length h;simp at this;omega
 have d2:=c2.rename (fun _=>2097152) 1 (by omega) (by simp) (by simp) (by simp);have d3:=c3.rename (fun _=>2097152) 1 (by omega) (by simp) (by simp) (by simp);simp [Ea,HW] at d2 d3;by_cases h3:L.length<3
 . refine ⟨zl,?_⟩
   have e:Bo L=L:=by unfold Bo;rw [if_pos h3]
   have h3':(L.length:Int)<3:=by omega
   rw [e];refine CB func167 ASh fun E hE=>?_
   simp [p167];refine CLa c1 ?_;simp [AA];refine CRs d2 (by simp [n1]) ?_;simp;refine CRs d3 (by simp [n2]) ?_;simp [AA,h3'];refine AB.by (lk [(0,2097152)]) ?_;simp [results167]
 . have h3':¬ (L.length:Int)<3:=by omega
   obtain ⟨z1,c4⟩:=qC [] [] L zl (by simp) (by omega) hLm (by omega);have c5:=rD L zl (by omega);obtain ⟨lo,hlo⟩:∃ lo,(chainR L).tail.reverse=lo:=⟨_,rfl⟩
   have hlol:lo.length<=100000:=by
     have:=Ez L;rw [<-hlo];simp;omega
   obtain ⟨z2,c6⟩:=qC lo z1 L.reverse zl (by omega) (by rw [List.length_reverse];omega) (fun q hq=>hLm q (List.mem_reverse.1 hq)) (by rw [List.length_reverse];omega);have e:Bo L=lo++(chainR L.reverse).tail.reverse:=by unfold Bo;rw [if_neg h3,hlo]
   rw [<-e] at c6;rw [hlo,List.nil_append] at c4
   have hlone:lo≠[]:=by
     obtain ⟨top,rest,h,hr⟩:=Lv (l:=L) (by omega);rw [<-hlo,h];simpa using hr
   have hRne:Bo L≠[]:=by rw [e];simp [hlone]
   rw [GP hlone,GQ hlone] at c4 c6;rw [GP hRne,GQ hRne,List.length_reverse] at c6;have n4:∀ z,spD (L.reverse++z)≠[]:=by intro z h;have:=congrArg List.length h;simp at this;omega
   have n5:∀ z,spD (lo++z)≠[]:=by intro z h;have:=congrArg List.length h;have h8:=List.length_pos_iff.2 hlone;simp only [Di,List.length_append,List.length_nil] at this;omega
   refine ⟨z2,?_⟩;refine CB func167 ASh fun E hE=>?_
   simp [p167];refine CLa c1 ?_;simp [AA];refine CRs d2 (by simp [n1]) ?_;simp;refine CRs d3 (by simp [n2]) ?_;have d4:=c4.rename (fun i=>if i=0 then 13631488 else if i=1 then 3145728 else if i=2 then 2097152 else i) 5 (by intro i j hi hj h;(repeat' split at h)<;>omega) (by simp) (by simp) (by simp);have d5:=c5.rename (fun _=>2097152) 1 (by omega) (by simp) (by simp) (by simp);have d6:=c6.rename (fun i=>if i=0 then 13631488 else if i=1 then 3145728 else if i=2 then 2097152 else if i=3 then 17825796 else i) 5 (by intro i j hi hj h;(repeat' split at h)<;>omega) (by simp) (by simp) (by simp);simp [Ea,HW] at d4 d5 d6;simp [AA,h3'];refine CRs d4 (by simp [n3]) ?_;simp;refine CRs d5 (by simp [n3]) ?_;simp;refine CRs d6 (by simp [n4]) ?_;simp;refine AB.by (lk [(0,22020100)]) ?_;simp [results167]
def SortOk:Prop:=∀ l:List (Int × Int),0<l.length->l.length<=100000->Cm prog 179 [.ls 0 0 l.length 2, .d (.fn 180 [])] (lk [(0,BC l)]) [0] (.ret (.tup [])) (lk [(0,BC (DK l))])
def C7 (r:List (Int × Int)):Bool:=decide (1<=r.length)&&decide (r.length<=64)&&EJ r&&decide (Fb r=r)
theorem fC {l:List (Int × Int)} (h:EJ l=true):∀ q∈l,bd 536870912 q:=fun q hq=>by
 have:=NH.1 (List.all_eq_true.1 h q hq);unfold bd at*;omega
theorem Yf {l:List (Int × Int)} (h:EJ l=true):∀ q∈l,bd 268435456 q:=fun q hq=>NH.1 (List.all_eq_true.1 h q hq)
theorem VM (l:List (Int × Int)):(Fb l).length<=2*l.length:=by
 have h1:(ddC (DK l)).length<=l.length:=by
   have:=I6 (DK l) l.length;rw [List.take_of_length_le (by rw [El];omega)] at this;exact this
 unfold Fb Bo;split
 . omega
 . have h2:=Ez (ddC (DK l))
   have h3:=Ez (ddC (DK l)).reverse;simp at h3 ⊢;omega
theorem fD {H:Hp} {id:Nat} {l z:List (Int × Int)} (h:H id=some (BC (l++z))):Bor H (.ls id 0 l.length 2) (.d (An l)):=by
 rw [Bk];refine ⟨rfl,by simp,fun e he=>?_,_,h,?_⟩
 . simp only [List.mem_map] at he
   obtain ⟨k,_,rfl⟩:=he;rfl
 . rw [Om,List.drop_zero,KL]
theorem qu (hS:SortOk) (r:List (Int × Int)) (hr:r.length<=1000000000):Ct prog 129 [.d (An r)] (vi (if C7 r then 0 else 14)) []:=by
 refine CB func129 c129 fun E hE=>?_
 by_cases h1:r.length<1
 . have h1':(r.length:Int)<1:=by omega
   have e:C7 r=false:=by unfold C7;rw [decide_eq_false (p:=1<=r.length) (by omega)];simp
   simp [p129,h1'];apply RZ;simp [results129,e]
 have h1':¬ (r.length:Int)<1:=by omega
 by_cases h2:64<r.length
 . have h2':(64:Int)<r.length:=by omega
   have e:C7 r=false:=by unfold C7;rw [decide_eq_false (p:=r.length<=64) (by omega)];simp
   simp [p129,h1',h2'];apply RZ;simp [results129,e]
 have h2':¬ (64:Int)<r.length:=by omega
 simp [p129,h1',h2'];refine CLa (jX r hr) ?_;by_cases h3:EJ r=true
 . simp [h3]
   obtain ⟨z,c⟩:=pS hS r (by omega) (by omega) (fC h3);refine CLa c ?_;simp;have hpl:=VM r;refine CLb (rE (Fb r) r (by omega) (by omega)) (by simp [fD (z:=z)]) ?_;have e:C7 r=decide (Fb r=r):=by unfold C7;rw [decide_eq_true (p:=1<=r.length) (by omega),decide_eq_true (p:=r.length<=64) (by omega),h3];rfl
   by_cases h4:Fb r=r
   . simp [h4]
     apply RZ;simp [results129,e,h4]
   . simp [h4]
     apply RZ;simp [results129,e,h4]
 . simp [h3]
   have e:C7 r=false:=by unfold C7;simp [h3]
   apply RZ;simp [results129,e]
open Go.Air
structure Rig where
 reg:List (Int × Int)
 gl:Int
 gh:Int
 tank:Int
 rsv:Int
 lo:Int
 hi:Int
abbrev rigL (r:Rig):List D:=[An r.reg,di r.gl,di r.gh,di r.tank,di r.rsv,di r.lo,di r.hi]
abbrev Fj (r:Rig):V:= .agg [.d (An r.reg),vi r.gl,vi r.gh,vi r.tank,vi r.rsv,vi r.lo,vi r.hi]
structure Leg where
 m:Int
 axl:Int
 axh:Int
 ayl:Int
 ayh:Int
 ul:Int
 uh:Int
 bl:Int
 bh:Int
 dr:Int
 acts:List Act
abbrev Pi (l:Leg):List D:=[di l.m,di l.axl,di l.axh,di l.ayl,di l.ayh,di l.ul,di l.uh,di l.bl,di l.bh,di l.dr,JZ l.acts]
abbrev AKx (l:Leg):V:= .agg [vi l.m,vi l.axl,vi l.axh,vi l.ayl,vi l.ayh,vi l.ul,vi l.uh,vi l.bl,vi l.bh,vi l.dr, .d (JZ l.acts)]
abbrev Bs (l:List Leg):D:= .sl 11 (l.map Pi)
def CF (r:Rig):Bool:=spB 0 120 r.gl r.gh&&rgB 0 1000000000 [r.tank,r.rsv]&&spB (-500) 9000 r.lo r.hi&&C7 r.reg
def Cb (a:Act):Bool:=decide (a.k=3)||decide (a.k=4)
def BE (l:Leg):Bool:=rgB 1 600 [l.m]&&(spB (-1000) 1000 l.axl l.axh&&spB (-1000) 1000 l.ayl l.ayh)&&spB (-300) 300 l.ul l.uh&&spB 0 1000000 l.bl l.bh&&rgB 0 1000000000 [l.dr]&&decide (l.acts.length<=12)&&l.acts.all Cb
def Cv (l:List Leg):Int:=(l.map (·.m)).sum
def C0 (l:List Leg):Int:=if 20<l.length then 4 else if l.all BE then (if 600<Cv l then 4 else 0) else 53
def grL (l:List Leg):Bool:=decide (30<l.length)||l.any (fun x=>decide (20<x.acts.length))||(decide (60<(l.map fun x=>min (max x.m 0) 1000).sum)&&decide (C0 l=0))
theorem AL0 {l:Leg} (h:BE l=true):1<=l.m/\l.m<=600:=by
 unfold BE at h;simp only [Bool.and_eq_true] at h;have:=h.1.1.1.1.1.1;simpa [rgB] using this
theorem MU {l:List Leg} {i:Nat} {x:Leg} (h:l[i]?= some x):Cv (l.take (i+1))=Cv (l.take i)+x.m:=by
 unfold Cv;rw [List.take_add_one,h];simp
theorem KA:∀ {l:List Leg},(∀ x∈l,BE x=true)->0<=Cv l/\Cv l<=l.length*600
 | [],_=>by simp [Cv]
 | c::l,h=>by
   have h1:=AL0 (h c (by simp));have h2:=KA (l:=l) fun x hx=>h x (by simp [hx])
   unfold Cv at h2 ⊢;simp only [List.map_cons,List.sum_cons,List.length_cons];omega
theorem qs (a:Act):Ct prog 117 [BZ a] (vb (Cb a)) []:=by
 by_cases h3:a.k=3
 . have e:Cb a=true:=by unfold Cb;simp [h3]
   refine CB func117 AQw fun E hE=>?_
   simp [p117,h3];apply RZ;simp [results117,e]
 . by_cases h4:a.k=4
   . have e:Cb a=true:=by unfold Cb;simp [h4]
     refine CB func117 AQw fun E hE=>?_
     simp [p117,h4];apply RZ;simp [results117,e]
   . have e:Cb a=false:=by unfold Cb;simp [h3,h4]
     refine CB func117 AQw fun E hE=>?_
     simp [p117,h3,h4];apply RZ;simp [results117,e]
theorem ir (l:List Act) (g:FuncId) (ds:List D) (q:Act->Bool) (hl:l.length<=1000000000) (hg:∀ p∈l,Ct prog g (BZ p::ds.map .d) (vb (q p)) []):Ct prog 116 [.d (JZ l), .d (.fn g ds)] (vb (l.all q)) []:=by
 refine CB func116 c116 fun E hE=>?_
 simp [p116];refine Al (α:=Nat) (fun i=>⟨AO [(1, .d (.fn g ds)),(7, .d (JZ l)),(8,vi l.length),(9,vi i)],lk [],0⟩) (fun i=>i<=l.length/\∀ j,j<i->(l[j]?).all q=true) (fun i=>l.length-i) 0 ?_ ?_ ?_
 . exact ⟨by omega,fun j hj=>by omega⟩
 . exact WK hE (lk [])
 . rintro i ⟨hi,hg3⟩
   have hz:=@wz i (by omega);by_cases h:i<l.length
   . have hI:(i:Int)<l.length:=by omega
     obtain ⟨p,hp⟩:=gE h;simp [ANj,hI,hp,AA];refine CLa (hg p (List.mem_of_getElem? hp)) ?_;cases hq:q p
     . have e:l.all q=false:=by rw [List.all_eq_false];exact ⟨p,List.mem_of_getElem? hp,by simp [hq]⟩
       simp;apply RZ;simp [results116,e]
     . simp [hz]
       refine ⟨i+1,⟨by omega,fun j hj=>?_⟩,by omega,?_⟩
       . by_cases e:j=i
         . subst e;rw [hp];simp [hq]
         . exact hg3 j (by omega)
       . exact WK hE (lk [])
   . have hI:¬ (i:Int)<l.length:=by omega
     have e:l.all q=true:=by
       rw [List.all_eq_true];intro x hx;obtain ⟨j,hj⟩:=List.getElem?_of_mem hx;have:=hg3 j (by have:=(List.getElem?_eq_some_iff.1 hj).1;omega);rw [hj] at this;simpa using this
     simp [ANj,hI];apply RZ;simp [results116,e]
theorem fn67 (l:Leg) (hl:l.acts.length<=1000000000):Ct prog 67 [AKx l] (vi (if BE l then 0 else 53)) []:=by
 have c1:=mM 1 600 [l.m] (by simp);have c2:=oz (-1000) 1000 [(l.axl,l.axh),(l.ayl,l.ayh)] (by simp);have c3:=oz (-300) 300 [(l.ul,l.uh)] (by simp);have c4:=oz 0 1000000 [(l.bl,l.bh)] (by simp);have c5:=mM 0 1000000000 [l.dr] (by simp);have c6:=ir l.acts 117 [] Cb hl fun a _=>qs a
 simp only [List.all_cons,List.all_nil,Bool.and_true] at c1 c2 c3 c4;have e:BE l=(rgB 1 600 [l.m]&&(spB (-1000) 1000 l.axl l.axh&&spB (-1000) 1000 l.ayl l.ayh)&&spB (-300) 300 l.ul l.uh&&spB 0 1000000 l.bl l.bh&&rgB 0 1000000000 [l.dr]&&decide (l.acts.length<=12)&&l.acts.all Cb):=rfl
 generalize rgB 1 600 [l.m]=b1 at*
 generalize (spB (-1000) 1000 l.axl l.axh&&spB (-1000) 1000 l.ayl l.ayh)=b2 at*
 generalize spB (-300) 300 l.ul l.uh=b3 at*
 generalize spB 0 1000000 l.bl l.bh=b4 at*
 generalize rgB 0 1000000000 [l.dr]=b5 at*
 generalize l.acts.all Cb=b6 at*
 rw [e];by_cases hm:l.acts.length<=12
 . have hn:¬ (12:Int)<l.acts.length:=by omega
   cases b1
   . refine CB func67 c67 fun E hE=>?_
     simp [p67,AA,AM]
     repeat ((first | (refine CLt c1 ?_ ?_;focus (simp [AG];done)) | (refine CLt c2 ?_ ?_;focus (simp [AG,AN,AQ];done)) | (refine CLt c3 ?_ ?_;focus (simp [AG,AN,AQ];done)) | (refine CLt c4 ?_ ?_;focus (simp [AG,AN,AQ];done)) | (refine CLt c5 ?_ ?_;focus (simp [AG,AN,AQ];done)) | (refine CLt c6 ?_ ?_;focus (simp [AG,AN,AQ];done)));simp)
     apply RZ;simp [results67]
   cases b2
   . refine CB func67 c67 fun E hE=>?_
     simp [p67,AA,AM]
     repeat ((first | (refine CLt c1 ?_ ?_;focus (simp [AG];done)) | (refine CLt c2 ?_ ?_;focus (simp [AQ];done)) | (refine CLt c3 ?_ ?_;focus (simp [AG,AN,AQ];done)) | (refine CLt c4 ?_ ?_;focus (simp [AG,AN,AQ];done)) | (refine CLt c5 ?_ ?_;focus (simp [AG,AN,AQ];done)) | (refine CLt c6 ?_ ?_;focus (simp [AG,AN,AQ];done)));simp [AA,AM])
     apply RZ;simp [results67]
   cases b3
   . refine CB func67 c67 fun E hE=>?_
     simp [p67,AA,AM]
     repeat ((first | (refine CLt c1 ?_ ?_;focus (simp [AG];done)) | (refine CLt c2 ?_ ?_;focus (simp [AQ];done)) | (refine CLt c3 ?_ ?_;focus (simp [AN];done)) | (refine CLt c4 ?_ ?_;focus (simp [AG,AN,AQ];done)) | (refine CLt c5 ?_ ?_;focus (simp [AG,AN,AQ];done)) | (refine CLt c6 ?_ ?_;focus (simp [AG,AN,AQ];done)));simp [AA,AM])
     apply RZ;simp [results67]
   cases b4
   . refine CB func67 c67 fun E hE=>?_
     simp [p67,AA,AM]
     repeat ((first | (refine CLt c1 ?_ ?_;focus (simp [AG];done)) | (refine CLt c2 ?_ ?_;focus (simp [AQ];done)) | (refine CLt c3 ?_ ?_;focus (simp [AN];done)) | (refine CLt c4 ?_ ?_;focus (simp [AN];done)) | (refine CLt c5 ?_ ?_;focus (simp [AG,AN,AQ];done)) | (refine CLt c6 ?_ ?_;focus (simp [AG,AN,AQ];done)));simp [AA,AM])
     apply RZ;simp [results67]
   cases b5
   . refine CB func67 c67 fun E hE=>?_
     simp [p67,AA,AM]
     repeat ((first | (refine CLt c1 ?_ ?_;focus (simp [AG];done)) | (refine CLt c2 ?_ ?_;focus (simp [AQ];done)) | (refine CLt c3 ?_ ?_;focus (simp [AN];done)) | (refine CLt c4 ?_ ?_;focus (simp [AN];done)) | (refine CLt c5 ?_ ?_;focus (simp [AG];done)) | (refine CLt c6 ?_ ?_;focus (simp [AG,AN,AQ];done)));simp [AA,AM])
     apply RZ;simp [results67]
   cases b6
   . refine CB func67 c67 fun E hE=>?_
     simp [p67,AA,AM]
     repeat ((first | (refine CLt c1 ?_ ?_;focus (simp [AG];done)) | (refine CLt c2 ?_ ?_;focus (simp [AQ];done)) | (refine CLt c3 ?_ ?_;focus (simp [AN];done)) | (refine CLt c4 ?_ ?_;focus (simp [AN];done)) | (refine CLt c5 ?_ ?_;focus (simp [AG];done)) | (refine CLt c6 ?_ ?_;focus (simp;done)));simp [AA,AM,hn])
     apply RZ;simp [results67]
   . refine CB func67 c67 fun E hE=>?_
     simp [p67,AA,AM]
     repeat ((first | (refine CLt c1 ?_ ?_;focus (simp [AG];done)) | (refine CLt c2 ?_ ?_;focus (simp [AQ];done)) | (refine CLt c3 ?_ ?_;focus (simp [AN];done)) | (refine CLt c4 ?_ ?_;focus (simp [AN];done)) | (refine CLt c5 ?_ ?_;focus (simp [AG];done)) | (refine CLt c6 ?_ ?_;focus (simp;done)));simp [AA,AM,hn])
     apply RZ;simp [results67,hm]
 . have hn:(12:Int)<l.acts.length:=by omega
   cases b1
   . refine CB func67 c67 fun E hE=>?_
     simp [p67,AA,AM]
     repeat ((first | (refine CLt c1 ?_ ?_;focus (simp [AG];done)) | (refine CLt c2 ?_ ?_;focus (simp [AG,AN,AQ];done)) | (refine CLt c3 ?_ ?_;focus (simp [AG,AN,AQ];done)) | (refine CLt c4 ?_ ?_;focus (simp [AG,AN,AQ];done)) | (refine CLt c5 ?_ ?_;focus (simp [AG,AN,AQ];done)) | (refine CLt c6 ?_ ?_;focus (simp [AG,AN,AQ];done)));simp)
     apply RZ;simp [results67]
   cases b2
   . refine CB func67 c67 fun E hE=>?_
     simp [p67,AA,AM]
     repeat ((first | (refine CLt c1 ?_ ?_;focus (simp [AG];done)) | (refine CLt c2 ?_ ?_;focus (simp [AQ];done)) | (refine CLt c3 ?_ ?_;focus (simp [AG,AN,AQ];done)) | (refine CLt c4 ?_ ?_;focus (simp [AG,AN,AQ];done)) | (refine CLt c5 ?_ ?_;focus (simp [AG,AN,AQ];done)) | (refine CLt c6 ?_ ?_;focus (simp [AG,AN,AQ];done)));simp [AA,AM])
     apply RZ;simp [results67]
   cases b3
   . refine CB func67 c67 fun E hE=>?_
     simp [p67,AA,AM]
     repeat ((first | (refine CLt c1 ?_ ?_;focus (simp [AG];done)) | (refine CLt c2 ?_ ?_;focus (simp [AQ];done)) | (refine CLt c3 ?_ ?_;focus (simp [AN];done)) | (refine CLt c4 ?_ ?_;focus (simp [AG,AN,AQ];done)) | (refine CLt c5 ?_ ?_;focus (simp [AG,AN,AQ];done)) | (refine CLt c6 ?_ ?_;focus (simp [AG,AN,AQ];done)));simp [AA,AM])
     apply RZ;simp [results67]
   cases b4
   . refine CB func67 c67 fun E hE=>?_
     simp [p67,AA,AM]
     repeat ((first | (refine CLt c1 ?_ ?_;focus (simp [AG];done)) | (refine CLt c2 ?_ ?_;focus (simp [AQ];done)) | (refine CLt c3 ?_ ?_;focus (simp [AN];done)) | (refine CLt c4 ?_ ?_;focus (simp [AN];done)) | (refine CLt c5 ?_ ?_;focus (simp [AG,AN,AQ];done)) | (refine CLt c6 ?_ ?_;focus (simp [AG,AN,AQ];done)));simp [AA,AM])
     apply RZ;simp [results67]
   cases b5
   . refine CB func67 c67 fun E hE=>?_
     simp [p67,AA,AM]
     repeat ((first | (refine CLt c1 ?_ ?_;focus (simp [AG];done)) | (refine CLt c2 ?_ ?_;focus (simp [AQ];done)) | (refine CLt c3 ?_ ?_;focus (simp [AN];done)) | (refine CLt c4 ?_ ?_;focus (simp [AN];done)) | (refine CLt c5 ?_ ?_;focus (simp [AG];done)) | (refine CLt c6 ?_ ?_;focus (simp [AG,AN,AQ];done)));simp [AA,AM])
     apply RZ;simp [results67]
   . refine CB func67 c67 fun E hE=>?_
     simp [p67,AA,AM]
     repeat ((first | (refine CLt c1 ?_ ?_;focus (simp [AG];done)) | (refine CLt c2 ?_ ?_;focus (simp [AQ];done)) | (refine CLt c3 ?_ ?_;focus (simp [AN];done)) | (refine CLt c4 ?_ ?_;focus (simp [AN];done)) | (refine CLt c5 ?_ ?_;focus (simp [AG];done)) | (refine CLt c6 ?_ ?_;focus (simp [AG,AN,AQ];done)));simp [AA,AM,hn])
     apply RZ;simp [results67,hm]
theorem fn39 (l:List Leg) (h:l.length<=1000000) (ha:∀ x∈l,x.acts.length<=1000000):Ct prog 39 [.d (Bs l)] (vi (C0 l)) []:=by
 refine CB func39 c39 fun E hE=>?_
 by_cases hm:20<l.length
 . have hm':(20:Int)<l.length:=by omega
   have e:C0 l=4:=by unfold C0;rw [if_pos hm]
   simp [p39,hm'];apply RZ;simp [results39,e]
 have hm':¬ (20:Int)<l.length:=by omega
 simp [p39,hm'];refine Al (α:=Nat) (fun i=>⟨AO [(3,vi (600-Cv (l.take i))),(10, .d (Bs l)),(11,vi l.length),(12,vi i)],lk [],0⟩) (fun i=>i<=l.length/\∀ j,j<i->(l[j]?).all BE=true) (fun i=>l.length-i) 0 ?_ ?_ ?_
 . exact ⟨by omega,fun j hj=>by omega⟩
 . refine AI.mk hE (lk []) _ _ _ ?_ ?_ ?_ ?_ ?_<;>simp [Cv]
 . rintro i ⟨hi,hg⟩
   have hz:=@wz i (by omega)
   have hok:∀ x∈l.take i,BE x=true:=fun x hx=>by
     obtain ⟨j,hj⟩:=List.getElem?_of_mem hx;have hji:j<i:=by have:=(List.getElem?_eq_some_iff.1 hj).1;simp at this;omega
     rw [List.getElem?_take,if_pos hji] at hj;have:=hg j hji;rw [hj] at this;simpa using this
   have hs:=KA hok;rw [List.length_take,Nat.min_eq_left hi] at hs;by_cases h:i<l.length
   . have hI:(i:Int)<l.length:=by omega
     obtain ⟨p,hp⟩:=gE h;have hnx:=MU hp;have c:=fn67 p (by have:=ha p (List.mem_of_getElem? hp);omega);cases hq:BE p
     . have e:C0 l=53:=by
         have:l.all BE=false:=by rw [List.all_eq_false];exact ⟨p,List.mem_of_getElem? hp,by simp [hq]⟩
         unfold C0;rw [if_neg hm,this];simp
       rw [hq] at c;simp [PR,hI,hp,AA];refine CLa c ?_;simp;apply RZ;simp [results39,e]
     . have hpm:=AL0 hq
       have hw:IntKind.wrap .i64 (600-Cv (l.take i)-p.m)=600-Cv (l.take (i+1)):=by rw [AD (by omega) (by omega)];omega
       rw [hq] at c;simp [PR,hI,hp,AA];refine CLa c ?_;simp [hw,hz];refine ⟨i+1,⟨by omega,fun j hj=>?_⟩,by omega,?_⟩
       . by_cases e:j=i
         . subst e;rw [hp];simp [hq]
         . exact hg j (by omega)
       . exact WK hE (lk [])
   . have hI:¬ (i:Int)<l.length:=by omega
     have ei:i=l.length:=by omega
     have hall:l.all BE=true:=by
       rw [List.all_eq_true];intro x hx;rw [ei,List.take_length] at hok;exact hok x hx
     have ht:Cv (l.take i)=Cv l:=by rw [ei,List.take_length]
     rw [ht];by_cases hb:600<Cv l
     . have e:C0 l=4:=by unfold C0;rw [if_neg hm,hall];simp [hb]
       have hb':600-Cv l<0:=by omega
       simp [PR,hI,hb'];apply RZ;simp [results39,e]
     . have e:C0 l=0:=by unfold C0;rw [if_neg hm,hall];simp [hb]
       have hb':¬ 600-Cv l<0:=by omega
       simp [PR,hI,hb'];apply RZ;simp [results39,e]
theorem AEE (hS:SortOk) (r:Rig) (hr:r.reg.length<=1000000000):Ct prog 87 [Fj r] (vi (if CF r then 0 else 51)) []:=by
 have c1:=oz 0 120 [(r.gl,r.gh)] (by simp);have c2:=mM 0 1000000000 [r.tank,r.rsv] (by simp);have c3:=oz (-500) 9000 [(r.lo,r.hi)] (by simp);have c4:=qu hS r.reg hr;simp only [List.all_cons,List.all_nil,Bool.and_true] at c1 c2 c3;have e:CF r=(spB 0 120 r.gl r.gh&&rgB 0 1000000000 [r.tank,r.rsv]&&spB (-500) 9000 r.lo r.hi&&C7 r.reg):=rfl
 generalize spB 0 120 r.gl r.gh=b1 at*
 generalize rgB 0 1000000000 [r.tank,r.rsv]=b2 at*
 generalize spB (-500) 9000 r.lo r.hi=b3 at*
 generalize C7 r.reg=b4 at*
 rw [e];cases b1
 . refine CB func87 c87 fun E hE=>?_
   simp [p87,AA,AM]
   repeat ((first | (refine CLt c1 ?_ ?_;focus (simp [AN];done)) | (refine CLt c2 ?_ ?_;focus (simp [Ap,AN];done)) | (refine CLt c3 ?_ ?_;focus (simp [Ap,AN];done)) | (refine CLt c4 ?_ ?_;focus (simp [Ap,AN];done)));simp)
   apply RZ;simp [results87]
 cases b2
 . refine CB func87 c87 fun E hE=>?_
   simp [p87,AA,AM]
   repeat ((first | (refine CLt c1 ?_ ?_;focus (simp [AN];done)) | (refine CLt c2 ?_ ?_;focus (simp [Ap];done)) | (refine CLt c3 ?_ ?_;focus (simp [Ap,AN];done)) | (refine CLt c4 ?_ ?_;focus (simp [Ap,AN];done)));simp [AA,AM])
   apply RZ;simp [results87]
 cases b3
 . refine CB func87 c87 fun E hE=>?_
   simp [p87,AA,AM]
   repeat ((first | (refine CLt c1 ?_ ?_;focus (simp [AN];done)) | (refine CLt c2 ?_ ?_;focus (simp [Ap];done)) | (refine CLt c3 ?_ ?_;focus (simp [AN];done)) | (refine CLt c4 ?_ ?_;focus (simp [Ap,AN];done)));simp [AA,AM])
   apply RZ;simp [results87]
 cases b4
 . refine CB func87 c87 fun E hE=>?_
   simp [p87,AA,AM]
   repeat ((first | (refine CLt c1 ?_ ?_;focus (simp [AN];done)) | (refine CLt c2 ?_ ?_;focus (simp [Ap];done)) | (refine CLt c3 ?_ ?_;focus (simp [AN];done)) | (refine CLt c4 ?_ ?_;focus (simp;done)));simp [AA,AM])
   apply RZ;simp [results87]
 . refine CB func87 c87 fun E hE=>?_
   simp [p87,AA,AM]
   repeat ((first | (refine CLt c1 ?_ ?_;focus (simp [AN];done)) | (refine CLt c2 ?_ ?_;focus (simp [Ap];done)) | (refine CLt c3 ?_ ?_;focus (simp [AN];done)) | (refine CLt c4 ?_ ?_;focus (simp;done)));simp [AA,AM])
   apply RZ;simp [results87]
end Go.Proofs.Tryz
namespace Go.Proofs.YtnjclpglagcagaaGreat
open Go.Joins Go.ChangeShapes Go.WideShapes Go.ChangeAt Go.RowKit Go.Psl
section
variable {H:Type} {enc:TypeId × Value->H} {P:Program} {w:World} {base:Nat} {spare:Nat->Bool} {held:Bool}
end
theorem fe {n:Nat} {ds:List D} (h:Sh' Tryz.prog (n+1) 5 ds):∃ i:Int,ds=[.lit (.int .u8 i)]:=by
 simp only [Sh',Tryz.underlying5] at h;obtain ⟨i,h,_⟩:=h;exact ⟨i,h⟩
theorem Vk {n:Nat} {ds:List D} (h:Sh' Tryz.prog (n+2) 149 ds):∃ k:Int × Int,ds=[Tryz.di k.1,Tryz.di k.2]:=by
 rw [Sh',Tryz.underlying149] at h;obtain ⟨a,r,rfl,h1,b,r2,rfl,h2,rfl⟩:=h;obtain ⟨i,rfl⟩:=BM h1;obtain ⟨j,rfl⟩:=BM h2;exact ⟨(i,j),rfl⟩
theorem kq {n:Nat} {ds:List D} (h:Sh' Tryz.prog (n+2) 65 ds):∃ k:Tryz.Act,ds=Tryz.XO k:=by
 rw [Sh',Tryz.underlying65] at h;obtain ⟨a,r,rfl,h1,b,r2,rfl,h2,c,r3,rfl,h3,d,r4,rfl,h4,rfl⟩:=h;obtain ⟨i1,rfl⟩:=fe h1;obtain ⟨i2,rfl⟩:=BM h2;obtain ⟨i3,rfl⟩:=BM h3;obtain ⟨i4,rfl⟩:=BM h4;exact ⟨⟨i1,i2,i3,i4⟩,rfl⟩
theorem AO7:Tryz.prog.cellsOf 149=2:=by kernel_rfl
theorem RC {n:Nat} {ds:List D} (h:Sh' Tryz.prog (n+3) 26 ds):∃ t:List (Int × Int),ds=[.sl 2 (t.map (fun k:Int × Int=>[Tryz.di k.1,Tryz.di k.2]))]:=by
 rw [Sh',Tryz.underlying26] at h;obtain ⟨es,rfl,_,h⟩:=h;obtain ⟨t,rfl⟩:=all_map (f:=(fun k:Int × Int=>[Tryz.di k.1,Tryz.di k.2])) fun x hx=>Vk (h x hx)
 exact ⟨t,by rw [AO7]⟩
theorem APx:Tryz.prog.cellsOf 65=4:=by kernel_rfl
theorem ff {n:Nat} {ds:List D} (h:Sh' Tryz.prog (n+3) 61 ds):∃ t:List (Tryz.Act),ds=[.sl 4 (t.map Tryz.XO)]:=by
 rw [Sh',Tryz.underlying61] at h;obtain ⟨es,rfl,_,h⟩:=h;obtain ⟨t,rfl⟩:=all_map (f:=Tryz.XO) fun x hx=>kq (h x hx)
 exact ⟨t,by rw [APx]⟩
theorem kr {n:Nat} {ds:List D} (h:Sh' Tryz.prog (n+4) 30 ds):∃ k:Tryz.Rig,ds=Tryz.rigL k:=by
 rw [Sh',Tryz.underlying30] at h;obtain ⟨a,r,rfl,h1,b,r2,rfl,h2,c,r3,rfl,h3,d,r4,rfl,h4,e,r5,rfl,h5,f,r6,rfl,h6,rfl⟩:=h;obtain ⟨i1,rfl⟩:=RC h1;obtain ⟨i2,rfl⟩:=CD h2;obtain ⟨i3,rfl⟩:=BM h3;obtain ⟨i4,rfl⟩:=BM h4;obtain ⟨i5,rfl⟩:=BM h5;obtain ⟨i6,rfl⟩:=BM h6;exact ⟨⟨i1,i2.1,i2.2,i3,i4,i5,i6⟩,rfl⟩
theorem AQn {n:Nat} {ds:List D} (h:Sh' Tryz.prog (n+4) 79 ds):∃ k:Tryz.Leg,ds=Tryz.Pi k:=by
 rw [Sh',Tryz.underlying79] at h;obtain ⟨a,r,rfl,h1,b,r2,rfl,h2,c,r3,rfl,h3,d,r4,rfl,h4,e,r5,rfl,h5,f,r6,rfl,h6,rfl⟩:=h;obtain ⟨i1,rfl⟩:=BM h1;obtain ⟨i2,rfl⟩:=TJ h2;obtain ⟨i3,rfl⟩:=CD h3;obtain ⟨i4,rfl⟩:=CD h4;obtain ⟨i5,rfl⟩:=BM h5;obtain ⟨i6,rfl⟩:=ff h6;exact ⟨⟨i1,i2.1.1,i2.1.2,i2.2.1,i2.2.2,i3.1,i3.2,i4.1,i4.2,i5,i6⟩,rfl⟩
theorem APy:Tryz.prog.cellsOf 79=11:=by kernel_rfl
theorem fi {n:Nat} {ds:List D} (h:Sh' Tryz.prog (n+5) 38 ds):∃ t:List (Tryz.Leg),ds=[.sl 11 (t.map Tryz.Pi)]:=by
 rw [Sh',Tryz.underlying38] at h;obtain ⟨es,rfl,_,h⟩:=h;obtain ⟨t,rfl⟩:=all_map (f:=Tryz.Pi) fun x hx=>AQn (h x hx)
 exact ⟨t,by rw [APy]⟩
theorem fj {H:Type} {enc:TypeId × Value->H} {W:World} {base:Nat} {v:Value} {d:DataW H} {p:List MemPlace} (hval:Value.okWide Tryz.prog W .any base 30 v) (h:DataW.Trod enc Tryz.prog W 0 (fun _=>true) true 30 v d p):
   ∃ k:Tryz.Rig,R2 (GW W) W (Tryz.Fj k) v:=by
 obtain ⟨ds,h1,h2⟩:=HX (n:=4) Tryz.underlying30 (by kernel_rfl) hval h;obtain ⟨k,hk⟩:=kr h1;cases hk;exact ⟨k,h2⟩
theorem Zb {H:Type} {enc:TypeId × Value->H} {W:World} {base:Nat} {v:Value} {d:DataW H} {p:List MemPlace} (hval:Value.okWide Tryz.prog W .any base 38 v) (h:DataW.Trod enc Tryz.prog W 0 (fun _=>true) true 38 v d p):
   ∃ k:List Tryz.Leg,R2 (GW W) W (.d (Tryz.Bs k)) v:=by
 obtain ⟨ds,h1,h2⟩:=VX (n:=5) Tryz.underlying38 (by kernel_rfl) hval h;obtain ⟨k,hk⟩:=fi h1;cases hk;exact ⟨k,h2⟩
end Go.Proofs.YtnjclpglagcagaaGreat
namespace Go.Psl
variable {P:Program} {Γ:Tys} {eqs:Eqs} {E:Ent}
def rid (ks:List Nat) (i:Nat):Option Nat:=if i∈ks then some i else none
structure A4 (ks:List Nat) (L:List (Nat × List V)):Prop where
 names:L.map (·.1)=ks
 nd:ks.Nodup
 cells:∀ p∈L,p.2≠[]/\Bv p.2/\∀ c∈p.2,WC (rid ks) c c
theorem Cr {ks:List Nat} {i:Nat} (h:i∈ks):rid ks i=some i:=by simp [rid,h]
theorem AF8:∀ {L:List (Nat × List V)},(L.map (·.1)).Nodup->∀ p∈L,lk L p.1=some p.2
 | [],_,p,hp=>by simp at hp
 | q::r,hn,p,hp=>by
   simp only [List.map_cons,List.nodup_cons] at hn;simp only [lk];rcases List.mem_cons.1 hp with rfl | hp
   . simp
   . have:p.1≠q.1:=fun e=>hn.1 (e ▸ List.mem_map.2 ⟨p,hp,rfl⟩)
     rw [if_neg this];exact AF8 hn.2 p hp
section
variable {ks:List Nat} {L L1:List (Nat × List V)}
theorem A4.lk (h:A4 ks L) {p:Nat × List V} (hp:p∈L):Go.Psl.lk L p.1=some p.2:=AF8 (by rw [h.names];exact h.nd) p hp
theorem A4.mem (h:A4 ks L) {p:Nat × List V} (hp:p∈L):p.1∈ks:=by rw [<-h.names];exact List.mem_map.2 ⟨p,hp,rfl⟩
theorem A4.isIn (h:A4 ks L) {i:Nat}:(Go.Psl.lk L i).isSome=true↔i∈ks:=by
 constructor
 . intro hi
   obtain ⟨x,hx⟩:=Option.isSome_iff_exists.1 hi;exact h.mem (p:=(i,x)) (B4 hx)
 . intro hi
   rw [<-h.names] at hi;obtain ⟨p,hp,rfl⟩:=List.mem_map.1 hi;rw [h.lk hp];rfl
theorem Dz {i j:Nat} (h:rid ks i=some j):i∈ks/\j=i:=by
 unfold rid at h;split at h
 . cases h;exact ⟨by assumption,rfl⟩
 . cases h
theorem FH {c:V} (h:W0 (rid ks) c c):A0 (·∈ks) AR c/\∀ b,DR (sg ks b) c=c:=by
 cases c with
 | junk=>exact ⟨trivial,fun _=>rfl⟩
 | d x=>exact ⟨trivial,fun _=>rfl⟩
 | lp i o=>
   obtain ⟨j,hj,_⟩:=h;have hi:=(Dz hj).1;exact ⟨hi,fun b=>by simp [DR,sg,hi]⟩
 | ls i o l z=>
   unfold W0 at h;simp only at h;split at h
   . rename_i j hj
     have hi:=(Dz hj).1;exact ⟨hi,fun b=>by simp [DR,sg,hi]⟩
   . cases h.2
 | yl i=>
   obtain ⟨j,hj,_⟩:=h;have hi:=(Dz hj).1;exact ⟨hi,fun b=>by simp [DR,sg,hi]⟩
 | lr=>exact False.elim h
 | cl f cs=>exact ⟨trivial,fun _=>rfl⟩
 | agg cs=>exact ⟨trivial,fun _=>rfl⟩
 | tup cs=>exact ⟨trivial,fun _=>rfl⟩
theorem Et {α:Type} {f:α->α}:∀ {l:List α},(∀ x∈l,f x=x)->l.map f=l
 | [],_=>rfl
 | a::l,h=>by rw [List.map_cons,h a (by simp),Et fun x hx=>h x (List.mem_cons_of_mem _ hx)]
theorem GY {α:Type} {R:α->α->Prop}:∀ {l:List α},AJ R l l->∀ x∈l,R x x
 | [],_,_,hx=>by simp at hx
 | a::l,h,x,hx=>by
   rcases List.mem_cons.1 hx with rfl | hx
   . exact h.1
   . exact GY h.2 x hx
theorem MM {α:Type} {R:α->α->Prop}:∀ {l:List α},(∀ x∈l,R x x)->AJ R l l
 | [],_=>trivial
 | a::l,h=>⟨h a (by simp),MM fun x hx=>h x (List.mem_cons_of_mem _ hx)⟩
theorem FI {c:V} (h:A0 (·∈ks) AR c) (b:Nat):DR (sg ks b) c=c:=by
 cases c<;>first | rfl | (have h2:_∈ks:=h;simp [DR,sg,h2]) | exact False.elim h
theorem FJ {c:V} (h:A1 (·∈ks) AR c) (b:Nat):DS (sg ks b) c=c:=by
 cases c with
 | cl f cs=>simp only [DS];rw [Et fun x hx=>FI (h x hx) b]
 | junk=>exact FI (ks:=ks) (c:= .junk) h b
 | d x=>exact FI (ks:=ks) (c:= .d x) h b
 | lp i o=>exact FI (ks:=ks) (c:= .lp i o) h b
 | ls i o l z=>exact FI (ks:=ks) (c:= .ls i o l z) h b
 | yl i=>exact FI (ks:=ks) (c:= .yl i) h b
 | lr f n p pa pb j=>exact FI (ks:=ks) (c:= .lr f n p pa pb j) h b
 | agg cs=>exact FI (ks:=ks) (c:= .agg cs) h b
 | tup cs=>exact FI (ks:=ks) (c:= .tup cs) h b
theorem ALq {c:V} (h:A2 (·∈ks) AR c) (b:Nat):HR (sg ks b) c=c:=by
 cases c with
 | agg cs=>simp only [HR];rw [Et fun x hx=>FJ (h x hx) b]
 | junk=>exact FJ (ks:=ks) (c:= .junk) h b
 | d x=>exact FJ (ks:=ks) (c:= .d x) h b
 | lp i o=>exact FJ (ks:=ks) (c:= .lp i o) h b
 | ls i o l z=>exact FJ (ks:=ks) (c:= .ls i o l z) h b
 | yl i=>exact FJ (ks:=ks) (c:= .yl i) h b
 | lr f n p pa pb j=>exact FJ (ks:=ks) (c:= .lr f n p pa pb j) h b
 | cl f cs=>exact FJ (ks:=ks) (c:= .cl f cs) h b
 | tup cs=>exact FJ (ks:=ks) (c:= .tup cs) h b
theorem R9 {c:V} (h:AV (·∈ks) AR c) (b:Nat):ren (sg ks b) c=c:=by
 cases c with
 | tup cs=>simp only [ren];rw [Et fun x hx=>ALq (h x hx) b]
 | junk=>exact ALq (ks:=ks) (c:= .junk) h b
 | d x=>exact ALq (ks:=ks) (c:= .d x) h b
 | lp i o=>exact ALq (ks:=ks) (c:= .lp i o) h b
 | ls i o l z=>exact ALq (ks:=ks) (c:= .ls i o l z) h b
 | yl i=>exact ALq (ks:=ks) (c:= .yl i) h b
 | lr f n p pa pb j=>exact ALq (ks:=ks) (c:= .lr f n p pa pb j) h b
 | cl f cs=>exact ALq (ks:=ks) (c:= .cl f cs) h b
 | agg cs=>exact ALq (ks:=ks) (c:= .agg cs) h b
theorem bB {c:V} (h:WC (rid ks) c c):AC (·∈ks) AR c/\∀ b,BJ (sg ks b) c=c:=by
 cases c with
 | lr fr nt ps pa pb jmp=>
   have h2:∀ t,AV (·∈ks) AR (fr t):=fun t=>AV.mono (fun i hi=>(Dz hi).1) (fun _ h=>h) (h.2 t)
   refine ⟨h2,fun b=>?_⟩;simp only [BJ];congr 1
   funext t;exact R9 (h2 t) b
 | cl f cs=>
   obtain ⟨cs',e,h2⟩:=h;cases e;have h3:=GY h2;exact ⟨fun c hc=>(FH (h3 c hc)).1,fun b=>by simp only [BJ,DS];rw [Et fun x hx=>(FH (h3 x hx)).2 b]⟩
 | junk=>exact ⟨trivial,fun _=>rfl⟩
 | d x=>exact ⟨trivial,fun _=>rfl⟩
 | lp i o=>exact FH (c:= .lp i o) h
 | ls i o l z=>exact FH (c:= .ls i o l z) h
 | yl i=>exact FH (c:= .yl i) h
 | agg cs=>exact False.elim h
 | tup cs=>exact False.elim h
theorem A4.ac (h:A4 ks L) {p:Nat × List V} (hp:p∈L):∀ c∈p.2,AC (·∈ks) AR c:=fun c hc=>(bB ((h.cells p hp).2.2 c hc)).1
theorem A4.hp (h:A4 ks L) {H:Hp} (hH:∀ i∈ks,H i=Go.Psl.lk L i):Ej (rid ks) H L:=by
 have key:∀ M:List (Nat × List V),(∀ p∈M,p∈L)->Ej (rid ks) H M:=by
   intro M;induction M with
   | nil=>intro _;trivial
   | cons p r ih=>
     intro hM;have hp:=hM p (by simp);have hm:=h.mem hp;obtain ⟨c1,c2,c3⟩:=h.cells p hp;refine ⟨?_,ih fun q hq=>hM q (List.mem_cons_of_mem _ hq)⟩;rw [Cr hm];exact ⟨⟨p.2,by rw [hH _ hm,h.lk hp],MM c3⟩,c2⟩
 exact key L fun _ h=>h
theorem A4.inj (h:A4 ks L):Bd (rid ks) L:=by
 have key:∀ M:List (Nat × List V),(∀ p∈M,p∈L)->Bd (rid ks) M:=by
   intro M;induction M with
   | nil=>intro _;trivial
   | cons p r ih=>
     intro hM;refine ⟨fun q hq=>?_,ih fun q hq=>hM q (List.mem_cons_of_mem _ hq)⟩;have h1:=h.mem (hM p (by simp));have h2:=h.mem (hM q (List.mem_cons_of_mem _ hq));rw [Cr h1,Cr h2];by_cases e:q.1=p.1
     . exact Or.inr (Or.inr e)
     . exact Or.inr (Or.inl fun e'=>e (Option.some.inj e'))
 exact key L fun _ h=>h
theorem A4.stab (_:A4 ks L) {H:Hp} (hH:∀ i∈ks,H i=Go.Psl.lk L i):DZ (rid ks) H (Go.Psl.lk L) ks:=by
 have key:∀ M:List Nat,(∀ i∈M,i∈ks)->DZ (rid ks) H (Go.Psl.lk L) M:=by
   intro M;induction M with
   | nil=>intro _;trivial
   | cons i r ih=>
     intro hM;have hi:=hM i (by simp);exact ⟨fun hs=>⟨Cr hi,by rw [hH i hi];exact hs⟩,ih fun j hj=>hM j (List.mem_cons_of_mem _ hj)⟩
 exact key ks fun _ h=>h
theorem A4.stabW (_:A4 ks L) {H:Hp} (hH:∀ i∈ks,H i=Go.Psl.lk L i) {n:Nat} (hn:∀ i∈ks,i<n):HD (rid ks) H (Go.Psl.lk L) n ks:=by
 have key:∀ M:List Nat,(∀ i∈M,i∈ks)->HD (rid ks) H (Go.Psl.lk L) n M:=by
   intro M;induction M with
   | nil=>intro _;trivial
   | cons i r ih=>
     intro hM;have hi:=hM i (by simp);exact ⟨hn i hi,fun hs=>⟨Cr hi,by rw [hH i hi];exact hs⟩,ih fun j hj=>hM j (List.mem_cons_of_mem _ hj)⟩
 exact key ks fun _ h=>h
theorem A4.ids (h:A4 ks L) {n:Nat} (hn:∀ i∈ks,i<n):A7 n L:=by
 have key:∀ M:List (Nat × List V),(∀ p∈M,p∈L)->A7 n M:=by
   intro M;induction M with
   | nil=>intro _;trivial
   | cons p r ih=>
     intro hM;have hp:=hM p (by simp);exact ⟨hn _ (h.mem hp),fun c hc=>AC.mono hn (fun _ h=>h) (h.ac hp c hc),ih fun q hq=>hM q (List.mem_cons_of_mem _ hq)⟩
 exact key L fun _ h=>h
theorem A4.res (h:A4 ks L):∀ p∈L,∀ c∈p.2,AC (InB L) AR c:=fun _ hp c hc=>AC.mono (fun _ hi=>h.isIn.2 hi) (fun _ h=>h) (h.ac hp c hc)
theorem AI.keep {st:St} (hs:∀ i,E.stab i↔i∈ks) (h:A4 ks L) (hH:∀ i∈ks,st.H i=Go.Psl.lk L i) {n:Nat} (hn:∀ i∈ks,i<n) (l:List (Nat × V)) (h1:CL (rid ks) st.fr l) (h4:Bw n l):AI P E st ⟨AO l,Go.Psl.lk L,n⟩:=
 AI.mkM hs (rid ks) l L n h1 (h.hp hH) h.inj h4 (h.ids hn) (h.stabW hH hn)
theorem Hn {H:Hp} {b:Nat} (hL:A4 ks L) (hL1:A4 ks L1):BI H b (Go.Psl.lk L) ks (Go.Psl.lk L1)=fun i=>if i∈ks then Go.Psl.lk L1 i else H i:=by
 funext i
 unfold BI;by_cases hi:i∈ks
 . simp only [hi,if_true]
   have h1:=hL1.isIn.2 hi;obtain ⟨x,hx⟩:=Option.isSome_iff_exists.1 h1;rw [hx];have hm:=hL1.cells (i,x) (B4 hx);simp only [Option.map_some];rw [Et fun c hc=>(bB (hm.2.2 c hc)).2 b]
 . simp only [hi,if_false]
   have h2:(Go.Psl.lk L i).isSome=false:=by
     cases hc:(Go.Psl.lk L i).isSome with
     | false=>rfl
     | true=>exact absurd (hL.isIn.1 hc) hi
   rw [h2];simp only [Bool.false_eq_true,if_false];split
   . split
     . rfl
     . rename_i hn
       have h3:Go.Psl.lk L1 (i-b)=none:=by
         cases hc:Go.Psl.lk L1 (i-b) with
         | none=>rfl
         | some x=>exact absurd (hL1.isIn.1 (by rw [hc];rfl)) hn
       rw [h3]
   . rfl
theorem Hq {H:Hp} {av args:List V} {res:Res} (hL:A4 ks L) (hL1:A4 ks L1) (hH:∀ i∈ks,H i=Go.Psl.lk L i) (hb:AJ (Bor noH) av args):IB H av args (Go.Psl.lk L) ks res (Go.Psl.lk L1):=
 ⟨fun i cs h=>by rw [hH i (hL.isIn.1 (by rw [h];rfl)),h],fun i h hn=>absurd (hL1.isIn.1 h) hn,fun i hi=>by
   obtain ⟨x,hx⟩:=Option.isSome_iff_exists.1 (hL.isIn.2 hi);exact ⟨x,hx,(hL.cells (i,x) (B4 hx)).1⟩,Or.inl hb⟩
theorem Fp.keep {H:Hp} {b k:Nat} {av:List V} {Kc Kx:V->Hp->Prop} (args:List V) (L L1:List (Nat × List V)) (ks:List Nat) (r:D) (hf:Ym P k args (Go.Psl.lk L) ks (.ret (.d r)) (Go.Psl.lk L1)) (hL:A4 ks L) (hL1:A4 ks L1)
   (hrec:∃ fr nt ps pa pb jmp,Go.Psl.lk L k=some [.lr fr nt ps pa pb jmp]/\ps.length=args.length) (hH:∀ i∈ks,H i=Go.Psl.lk L i) (hb:AJ (Bor noH) av args) (hk:Kc (.d r) (fun i=>if i∈ks then Go.Psl.lk L1 i else H i)):Fp P none H H b k av Kc Kx:=
 ⟨rfl,args,Go.Psl.lk L,ks, .ret (.d r),Go.Psl.lk L1,_,⟨hf,hrec,Hq hL hL1 hH hb⟩,(Hn hL hL1).symm,hk⟩
theorem AU.keep {H:Hp} {b:Nat} {g:FuncId} {av:List V} {Kc Kx:V->Hp->Prop} (args:List V) (L L1:List (Nat × List V)) (ks:List Nat) (r:V) (hf:Cm P g args (Go.Psl.lk L) ks (.ret r) (Go.Psl.lk L1)) (hL:A4 ks L) (hL1:A4 ks L1) (hr:AV (·∈ks) AR r)
   (hH:∀ i∈ks,H i=Go.Psl.lk L i) (hb:AJ (Bor noH) av args) (hk:Kc r (fun i=>if i∈ks then Go.Psl.lk L1 i else H i)):AU P none H H b g av Kc Kx:=
 ⟨args,Go.Psl.lk L,ks, .ret r,Go.Psl.lk L1,_,⟨hf,Hq hL hL1 hH hb⟩,trivial,(Hn hL hL1).symm,by show Kc (ren (sg ks b) r) _;rw [R9 hr];exact hk⟩
theorem Dc.keep {fn:Func} {st:St} (hn:fn.results= #[]) (h:A4 ks L) (hH:∀ i∈ks,st.H i=Go.Psl.lk L i):Dc Γ fn ks (.tup []) L st:=
 ⟨[],rid ks,by rw [hn];rfl,rfl,by simp,h.hp hH,h.inj,h.stab hH⟩
theorem E3.keepN {fo:Operand} {ps:List Nat} {pa pb:PC} {Q:Av->St->Prop} {f:Nat->V} {H:Hp} {n:Nat} {g:FuncId} {caps:List V} (L L1:List (Nat × List V)) (ks:List Nat) (r:V) (jmp:LSt) (h0:E.rqN H/\E.nt≠AL4) (hg:Be (evF f fo)=some (g,caps))
   (hf:Cm P g (.yl n::caps) (Go.Psl.lk ((n,[.lr f E.nt ps pa pb .ready])::L)) (n::ks) (.ret r) (Go.Psl.lk ((n,[.lr f E.nt ps pa pb jmp])::L1)))
   (hL:A4 (n::ks) ((n,[.lr f E.nt ps pa pb .ready])::L)) (hL1:A4 (n::ks) ((n,[.lr f E.nt ps pa pb jmp])::L1)) (hH:∀ i∈ks,H i=Go.Psl.lk L i) (hb:AJ (Bor noH) caps caps)
   (hq:Sm Q ⟨f,fun i=>if i=n then none else if i∈ks then Go.Psl.lk L1 i else H i,n+2097152⟩ jmp):PW P Γ eqs E (.rangeF fo ps pa pb) Q ⟨f,H,n⟩:=by
 have hH':∀ i∈n::ks,upd H n (some [.lr f E.nt ps pa pb .ready]) i=Go.Psl.lk ((n,[.lr f E.nt ps pa pb .ready])::L) i:=fun i hi=>by
   simp only [AY,Go.Psl.lk];by_cases e:i=n
   . simp [e]
   . simp only [e,if_false]
     rcases List.mem_cons.1 hi with h | h
     . exact absurd h e
     . exact hH i h
 refine ⟨h0,g,caps, .yl n::caps,_,n::ks, .ret r,_,hg,⟨hf,Hq hL hL1 hH' ⟨rfl,hb⟩⟩,by simp,jmp,by simp [Go.Psl.lk],?_⟩
 have e:upd (BI (upd H n (some [.lr f E.nt ps pa pb .ready])) (n+1048576) (Go.Psl.lk ((n,[.lr f E.nt ps pa pb .ready])::L)) (n::ks) (Go.Psl.lk ((n,[.lr f E.nt ps pa pb jmp])::L1))) n none=fun i=>if i=n then none else if i∈ks then Go.Psl.lk L1 i else H i:=by
   rw [Hn hL hL1]
   funext i
   simp only [AY];by_cases h:i=n
   . simp [h]
   . simp [h,Go.Psl.lk]
 show Sm Q ⟨f,upd (BI _ _ _ _ _) n none,n+2097152⟩ jmp
 rw [e];exact hq
theorem E3.keep {fo:Operand} {ps:List Nat} {pa pb:PC} {Q:Av->St->Prop} {f:Nat->V} {H:Hp} {n:Nat} {g:FuncId} {caps:List V} (L L1:List (Nat × List V)) (ks:List Nat) (r:V) (jmp:LSt) (h0:E.rq/\E.nt≠AL4) (hg:Be (evF f fo)=some (g,caps))
   (hf:Cm P g (.yl n::caps) (Go.Psl.lk ((n,[.lr f E.nt ps pa pb .ready])::L)) (n::ks) (.ret r) (Go.Psl.lk ((n,[.lr f E.nt ps pa pb jmp])::L1)))
   (hL:A4 (n::ks) ((n,[.lr f E.nt ps pa pb .ready])::L)) (hL1:A4 (n::ks) ((n,[.lr f E.nt ps pa pb jmp])::L1)) (hH:∀ i∈ks,H i=Go.Psl.lk L i) (hb:AJ (Bor noH) caps caps)
   (hq:Sm Q ⟨f,fun i=>if i=n then none else if i∈ks then Go.Psl.lk L1 i else H i,n+2097152⟩ jmp):PW P Γ eqs E (.rangeF fo ps pa pb) Q ⟨f,H,n⟩:=
 E3.keepN L L1 ks r jmp ⟨.inl h0.1,h0.2⟩ hg hf hL hL1 hH hb hq
theorem Hu.keep {k:Nat} {rc:LSt->V} {s:LSt} {st:St} (h:A4 ks L) (hb:st.H k=some [rc .busy]) (hH:∀ i∈ks,upd st.H k (some [rc s]) i=Go.Psl.lk L i):Hu k rc s ks L st:=
 ⟨hb,rid ks,h.hp hH,h.inj,h.stab hH⟩
end
structure Rnd (P:Program) (Γ:Tys) (eqs:Eqs) (k:Nat) (fr:Nat->V) (nt:Nat) (ps:List Nat) (pa pb:PC) (args:List V) (Hin:Hp) (ks:List Nat) (s:LSt) (H1:List (Nat × List V)) (N:Nat):Prop where
 run:∀ E:Ent,E.nt=nt->(∀ i,E.stab i↔i∈ks)->PW P Γ eqs E pa (DP (fun st=>st.H k=some [.lr fr nt ps pa pb .ready]/\PW P Γ eqs E pb (rH k (.lr fr nt ps pa pb) s ks H1) ⟨st.fr,upd st.H k (some [.lr fr nt ps pa pb .busy]),st.nx⟩) (fun _ _=>False)) ⟨BD fr ps args,Hin,N⟩
theorem Ym.ofR (hΓ:GOk P Γ) (hE:EB P eqs) (hm:P.follows .mixedOrders=true) {k:Nat} {fr:Nat->V} {nt:Nat} {ps:List Nat} {pa pb:PC} {args:List V} {ks:List Nat} {s:LSt} {L L1:List (Nat × List V)} (N:Nat)
   (hL:A4 ks L) (hL1:A4 ks L1) (hlt:∀ i∈ks,i<N) (hk:lk L k=some [.lr fr nt ps pa pb .ready]) (hlen:ps.length=args.length) (hps:∀ p∈ps,p<nt) (hcl:∀ v∈args,A2 (· < N) AR v)
   (h:Rnd P Γ eqs k fr nt ps pa pb args (lk L) ks s L1 N):Ym P k args (lk L) ks (.ret (.d (.lit (.bool (FP s))))) (lk L1):=
 Ym.of hΓ hE hm N hk (hL.isIn.1 (by rw [hk];rfl)) hlen hps hcl (A7.at (hL.ids hlt)) hlt hL1.res fun E h1 h2 _=>h.run E h1 h2
end Go.Psl
namespace Go.Psl
variable {P:Program} {Γ:Tys} {eqs:Eqs} {E:Ent}
def CX (ks xs:List Nat) (c:V):Prop:=match c with
 | .lr fr _ _ _ _ _=>∀ t,AV (·∈ks) AR (fr t)
 | c=>W1 (rid (ks++xs)) c c
structure BT (ks xs:List Nat) (L:List (Nat × List V)):Prop where
 names:L.map (·.1)=ks++xs
 nd:(ks++xs).Nodup
 cells:∀ p∈L,p.2≠[]/\Bv p.2/\∀ c∈p.2,CX ks xs c
section
variable {ks xs xs1:List Nat} {L L1:List (Nat × List V)}
theorem BT.lk (h:BT ks xs L) {p:Nat × List V} (hp:p∈L):Go.Psl.lk L p.1=some p.2:=AF8 (by rw [h.names];exact h.nd) p hp
theorem BT.mem (h:BT ks xs L) {p:Nat × List V} (hp:p∈L):p.1∈ks++xs:=by rw [<-h.names];exact List.mem_map.2 ⟨p,hp,rfl⟩
theorem BT.isIn (h:BT ks xs L) {i:Nat}:(Go.Psl.lk L i).isSome=true↔i∈ks++xs:=by
 constructor
 . intro hi
   obtain ⟨x,hx⟩:=Option.isSome_iff_exists.1 hi;exact h.mem (p:=(i,x)) (B4 hx)
 . intro hi
   rw [<-h.names] at hi;obtain ⟨p,hp,rfl⟩:=List.mem_map.1 hi;rw [h.lk hp];rfl
def rx (ks xs:List Nat) (b i:Nat):Option Nat:=if i∈ks then some i else if i∈xs then some (b+i) else none
theorem Lz {b i:Nat} (h:i∈ks++xs):rx ks xs b i=some (sg ks b i):=by
 unfold rx sg;by_cases hk:i∈ks
 . simp [hk]
 . rcases List.mem_append.1 h with h | h
   . exact absurd h hk
   . simp [hk,h]
theorem S4 {b:Nat} {c:V} (h:W0 (rid (ks++xs)) c c):W0 (rx ks xs b) (DR (sg ks b) c) c:=by
 cases c with
 | junk=>trivial
 | d x=>rfl
 | lp i o=>
   obtain ⟨j,hj,_⟩:=h;exact ⟨_,Lz (Dz hj).1,rfl⟩
 | ls i o l z=>
   unfold W0 at h;simp only at h;split at h
   . rename_i j hj
     simp only [W0,Lz (Dz hj).1];rfl
   . cases h.2
 | yl i=>
   obtain ⟨j,hj,_⟩:=h;exact ⟨_,Lz (Dz hj).1,rfl⟩
 | lr=>exact False.elim h
 | cl f cs=>exact False.elim h
 | agg cs=>exact False.elim h
 | tup cs=>exact False.elim h
theorem KZ {α:Type} {R:α->α->Prop} {f:α->α}:∀ {l:List α},(∀ x∈l,R (f x) x)->AJ R (l.map f) l
 | [],_=>trivial
 | a::l,h=>⟨h a (by simp),KZ fun x hx=>h x (List.mem_cons_of_mem _ hx)⟩
theorem ou {b:Nat} {c:V} (h:CX ks xs c):WC (rx ks xs b) (BJ (sg ks b) c) c:=by
 cases c with
 | lr fr nt ps pa pb jmp=>
   have h:∀ t,AV (·∈ks) AR (fr t):=h;refine ⟨?_,fun t=>AV.mono (fun i hi=>by simp [rx,hi]) (fun _ h=>h) (h t)⟩;simp only [BJ];congr 1
   funext t;exact R9 (h t) b
 | cl f cs=>
   obtain ⟨cs',e,h2⟩:=h;cases e;have h3:=GY h2;exact ⟨_,rfl,KZ fun x hx=>S4 (h3 x hx)⟩
 | junk=>trivial
 | d x=>rfl
 | lp i o=>exact S4 (c:= .lp i o) h
 | ls i o l z=>exact S4 (c:= .ls i o l z) h
 | yl i=>exact S4 (c:= .yl i) h
 | agg cs=>exact False.elim h
 | tup cs=>exact False.elim h
theorem Mw {c:V} (h:W1 (rid ks) c c):A1 (·∈ks) AR c:=by
 cases c with
 | cl f cs=>
   obtain ⟨cs',e,h2⟩:=h;cases e;exact fun c hc=>(FH (GY h2 c hc)).1
 | junk=>exact trivial
 | d x=>exact trivial
 | lp i o=>exact (FH (c:= .lp i o) h).1
 | ls i o l z=>exact (FH (c:= .ls i o l z) h).1
 | yl i=>exact (FH (c:= .yl i) h).1
 | lr=>exact False.elim h
 | agg cs=>exact False.elim h
 | tup cs=>exact False.elim h
theorem ie {c:V} (h:CX ks xs c):AC (·∈ks++xs) AR c:=by
 cases c with
 | lr fr nt ps pa pb jmp=>exact fun t=>AV.mono (fun i hi=>List.mem_append_left _ hi) (fun _ h=>h) (h t)
 | cl f cs=>exact Mw (c:= .cl f cs) h
 | junk=>exact trivial
 | d x=>exact trivial
 | lp i o=>exact Mw (c:= .lp i o) h
 | ls i o l z=>exact Mw (c:= .ls i o l z) h
 | yl i=>exact Mw (c:= .yl i) h
 | agg cs=>exact False.elim h
 | tup cs=>exact False.elim h
theorem BT.ids (h:BT ks xs L) {n:Nat} (hn:∀ i∈ks++xs,i<n):A7 n L:=by
 have key:∀ M:List (Nat × List V),(∀ p∈M,p∈L)->A7 n M:=by
   intro M;induction M with
   | nil=>intro _;trivial
   | cons p r ih=>
     intro hM;have hp:=hM p (by simp);exact ⟨hn _ (h.mem hp),fun c hc=>AC.mono hn (fun _ h=>h) (ie ((h.cells p hp).2.2 c hc)),ih fun q hq=>hM q (List.mem_cons_of_mem _ hq)⟩
 exact key L fun _ h=>h
theorem BT.res (h:BT ks xs L):∀ p∈L,∀ c∈p.2,AC (InB L) AR c:=fun p hp c hc=>AC.mono (fun _ hi=>h.isIn.2 hi) (fun _ h=>h) (ie ((h.cells p hp).2.2 c hc))
theorem Oe {H:Hp} {b:Nat} (hL:BT ks xs L) (hL1:BT ks xs1 L1) (hb:∀ i∈ks++xs,i<b) {p:Nat × List V} (hp:p∈L1):BI H b (Go.Psl.lk L) ks (Go.Psl.lk L1) (sg ks b p.1)=some (p.2.map (BJ (sg ks b))):=by
 have h1:=hL1.lk hp;by_cases hk:p.1∈ks
 . simp only [BI,sg,hk,if_true,h1,Option.map_some]
 . have e:sg ks b p.1=b+p.1:=by simp [sg,hk]
   have n1:¬ (b+p.1∈ks):=fun h=>by have:=hb _ (List.mem_append_left _ h);omega
   have n2:(Go.Psl.lk L (b+p.1)).isSome=false:=by
     cases hc:(Go.Psl.lk L (b+p.1)).isSome with
     | false=>rfl
     | true=>have:=hb _ (hL.isIn.1 hc);omega
   rw [e];simp only [BI,n1,if_false,n2,Bool.false_eq_true,Nat.le_add_right,if_true,Nat.add_sub_cancel_left,hk,h1]
theorem VL {H:Hp} {b:Nat} (hL:BT ks xs L) (_:BT ks xs1 L1) {i:Nat} (h1:i ∉ ks++xs) (h2:i<b):BI H b (Go.Psl.lk L) ks (Go.Psl.lk L1) i=H i:=by
 have n1:¬ i∈ks:=fun h=>h1 (List.mem_append_left _ h)
 have n2:(Go.Psl.lk L i).isSome=false:=by
   cases hc:(Go.Psl.lk L i).isSome with
   | false=>rfl
   | true=>exact absurd (hL.isIn.1 hc) h1
 simp only [BI,n1,if_false,n2,Bool.false_eq_true,show ¬ b<=i by omega]
theorem Og {H':Hp} {b:Nat} (hL1:BT ks xs1 L1) (hH:∀ p∈L1,H' (sg ks b p.1)=some (p.2.map (BJ (sg ks b)))):Ej (rx ks xs1 b) H' L1:=by
 have key:∀ M:List (Nat × List V),(∀ p∈M,p∈L1)->Ej (rx ks xs1 b) H' M:=by
   intro M;induction M with
   | nil=>intro _;trivial
   | cons p r ih=>
     intro hM;have hp:=hM p (by simp);obtain ⟨c1,c2,c3⟩:=hL1.cells p hp;refine ⟨?_,ih fun q hq=>hM q (List.mem_cons_of_mem _ hq)⟩;rw [Lz (hL1.mem hp)];exact ⟨⟨_,hH p hp,KZ fun c hc=>ou (c3 c hc)⟩,c2⟩
 exact key L1 fun _ h=>h
theorem Ya {b:Nat} (hL1:BT ks xs1 L1) (hb:∀ i∈ks,i<b):Bd (rx ks xs1 b) L1:=by
 have key:∀ M:List (Nat × List V),(∀ p∈M,p∈L1)->Bd (rx ks xs1 b) M:=by
   intro M;induction M with
   | nil=>intro _;trivial
   | cons p r ih=>
     intro hM;refine ⟨fun q hq=>?_,ih fun q hq=>hM q (List.mem_cons_of_mem _ hq)⟩;rw [Lz (hL1.mem (hM p (by simp))),Lz (hL1.mem (hM q (List.mem_cons_of_mem _ hq)))];by_cases e:q.1=p.1
     . exact Or.inr (Or.inr e)
     . refine Or.inr (Or.inl fun e'=>e ?_)
       have e':=Option.some.inj e';unfold sg at e';split at e'<;>split at e'
       . exact e'
       . rename_i h1 h2;have:=hb _ h1;omega
       . rename_i h1 h2;have:=hb _ h2;omega
       . omega
 exact key L1 fun _ h=>h
theorem S5 {H':Hp} {b:Nat} (_:BT ks xs1 L1) (hH:∀ p∈L1,H' (sg ks b p.1)=some (p.2.map (BJ (sg ks b)))):∀ i∈ks,(Go.Psl.lk L1 i).isSome=true->rx ks xs1 b i=some i/\(H' i).isSome=true:=fun i hi hs=>by
 obtain ⟨x,hx⟩:=Option.isSome_iff_exists.1 hs;have:=hH (i,x) (B4 hx);rw [show sg ks b i=i by simp [sg,hi]] at this;exact ⟨by simp [rx,hi],by rw [this];rfl⟩
theorem AAc {ρ:Nat->Option Nat} {H h:Hp}:∀ {M:List Nat},(∀ i∈M,(h i).isSome=true->ρ i=some i/\(H i).isSome=true)->DZ ρ H h M
 | [],_=>trivial
 | i::r,hM=>⟨hM i (by simp),AAc fun j hj=>hM j (List.mem_cons_of_mem _ hj)⟩
theorem IG {ρ:Nat->Option Nat} {H h:Hp} {n:Nat}:∀ {M:List Nat},(∀ i∈M,i<n)->(∀ i∈M,(h i).isSome=true->ρ i=some i/\(H i).isSome=true)->HD ρ H h n M
 | [],_,_=>trivial
 | i::r,hn,hM=>⟨hn i (by simp),hM i (by simp),IG (fun j hj=>hn j (List.mem_cons_of_mem _ hj)) fun j hj=>hM j (List.mem_cons_of_mem _ hj)⟩
theorem AI.keepX {st:St} {b:Nat} (hs:∀ i,E.stab i↔i∈ks) (h:BT ks xs1 L1) (hb:∀ i∈ks,i<b) (hH:∀ p∈L1,st.H (sg ks b p.1)=some (p.2.map (BJ (sg ks b)))) {n:Nat} (hn:∀ i∈ks++xs1,i<n) (l:List (Nat × V)) (h1:CL (rx ks xs1 b) st.fr l) (h4:Bw n l):AI P E st ⟨AO l,Go.Psl.lk L1,n⟩:=
 AI.mkM hs (rx ks xs1 b) l L1 n h1 (Og h hH) (Ya h hb) h4 (h.ids hn) (IG (fun i hi=>hn i (List.mem_append_left _ hi)) (S5 h hH))
theorem Dc.keepX {fn:Func} {st:St} {b:Nat} (hn:fn.results= #[]) (h:BT ks xs1 L1) (hb:∀ i∈ks,i<b) (hH:∀ p∈L1,st.H (sg ks b p.1)=some (p.2.map (BJ (sg ks b)))):Dc Γ fn ks (.tup []) L1 st:=
 ⟨[],rx ks xs1 b,by rw [hn];rfl,rfl,by simp,Og h hH,Ya h hb,AAc (S5 h hH)⟩
theorem Jd {H:Hp} {av args:List V} {res:Res} (hL:BT ks xs L) (hL1:BT ks xs1 L1) (hx:∀ i∈xs1,i<1048576) (hH:∀ i∈ks++xs,H i=Go.Psl.lk L i) (hb:AJ (Bor noH) av args):IB H av args (Go.Psl.lk L) ks res (Go.Psl.lk L1):=
 ⟨fun i cs h=>by rw [hH i (hL.isIn.1 (by rw [h];rfl)),h],fun i h hn=>by
   rcases List.mem_append.1 (hL1.isIn.1 h) with h | h
   . exact absurd h hn
   . exact hx i h,fun i hi=>by
   obtain ⟨x,hx⟩:=Option.isSome_iff_exists.1 (hL.isIn.2 (List.mem_append_left _ hi));exact ⟨x,hx,(hL.cells (i,x) (B4 hx)).1⟩,Or.inl hb⟩
theorem kO {c:V} (h:CX ks xs c):WC (rid (ks++xs)) c c:=by
 cases c with
 | lr fr nt ps pa pb jmp=>exact ⟨rfl,fun t=>AV.mono (fun i hi=>Cr (List.mem_append_left _ hi)) (fun _ h=>h) (h t)⟩
 | cl f cs=>exact h
 | junk=>exact h
 | d x=>exact h
 | lp i o=>exact h
 | ls i o l z=>exact h
 | yl i=>exact h
 | agg cs=>exact h
 | tup cs=>exact h
theorem BT.same (h:BT ks xs L):A4 (ks++xs) L:=⟨h.names,h.nd,fun p hp=>⟨(h.cells p hp).1,(h.cells p hp).2.1,fun c hc=>kO ((h.cells p hp).2.2 c hc)⟩⟩
theorem AI.sameX {st:St} (hs:∀ i,E.stab i↔i∈ks) (h:BT ks xs L) (hH:st.H=Go.Psl.lk L) {n:Nat} (hn:∀ i∈ks++xs,i<n) (l:List (Nat × V)) (h1:CL (rid (ks++xs)) st.fr l) (h4:Bw n l):AI P E st ⟨AO l,Go.Psl.lk L,n⟩:=
 AI.mkM hs (rid (ks++xs)) l L n h1 (h.same.hp fun i _=>by rw [hH]) h.same.inj h4 (h.ids hn) (IG (fun i hi=>hn i (List.mem_append_left _ hi)) fun i hi hs=>⟨Cr (List.mem_append_left _ hi),by rw [hH];exact hs⟩)
theorem Dc.sameX {fn:Func} {st:St} (hn:fn.results= #[]) (h:BT ks xs L) (hH:st.H=Go.Psl.lk L):Dc Γ fn ks (.tup []) L st:=
 ⟨[],rid (ks++xs),by rw [hn];rfl,rfl,by simp,h.same.hp fun i _=>by rw [hH],h.same.inj,AAc fun i hi hs=>⟨Cr (List.mem_append_left _ hi),by rw [hH];exact hs⟩⟩
theorem Fp.keepX {H:Hp} {b k:Nat} {av:List V} {Kc Kx:V->Hp->Prop} (args:List V) (L L1:List (Nat × List V)) (ks xs xs1:List Nat) (r:D) (hf:Ym P k args (Go.Psl.lk L) ks (.ret (.d r)) (Go.Psl.lk L1)) (hL:BT ks xs L) (hL1:BT ks xs1 L1) (hx:∀ i∈xs1,i<1048576)
   (hrec:∃ fr nt ps pa pb jmp,Go.Psl.lk L k=some [.lr fr nt ps pa pb jmp]/\ps.length=args.length) (hH:∀ i∈ks++xs,H i=Go.Psl.lk L i) (hb:AJ (Bor noH) av args) (hk:Kc (.d r) (BI H b (Go.Psl.lk L) ks (Go.Psl.lk L1))):Fp P none H H b k av Kc Kx:=
 ⟨rfl,args,Go.Psl.lk L,ks, .ret (.d r),Go.Psl.lk L1,_,⟨hf,hrec,Jd hL hL1 hx hH hb⟩,rfl,hk⟩
theorem Ym.ofX (hΓ:GOk P Γ) (hE:EB P eqs) (hm:P.follows .mixedOrders=true) {k:Nat} {fr:Nat->V} {nt:Nat} {ps:List Nat} {pa pb:PC} {args:List V} {s:LSt} (N:Nat)
   (hL:BT ks xs L) (hL1:BT ks xs1 L1) (hlt:∀ i∈ks++xs,i<N) (hkk:k∈ks) (hk:Go.Psl.lk L k=some [.lr fr nt ps pa pb .ready]) (hlen:ps.length=args.length) (hps:∀ p∈ps,p<nt) (hcl:∀ v∈args,A2 (· < N) AR v)
   (h:Rnd P Γ eqs k fr nt ps pa pb args (Go.Psl.lk L) ks s L1 N):Ym P k args (Go.Psl.lk L) ks (.ret (.d (.lit (.bool (FP s))))) (Go.Psl.lk L1):=
 Ym.of hΓ hE hm N hk hkk hlen hps hcl (A7.at (hL.ids hlt)) (fun i hi=>hlt i (List.mem_append_left _ hi)) hL1.res fun E h1 h2 _=>h.run E h1 h2
structure RndN (P:Program) (Γ:Tys) (eqs:Eqs) (k:Nat) (fr:Nat->V) (nt:Nat) (ps:List Nat) (pa pb:PC) (args:List V) (Hin:Hp) (ks:List Nat) (s:LSt) (H1:List (Nat × List V)) (N:Nat):Prop where
 run:∀ E:Ent,E.nt=nt->(∀ i,E.stab i↔i∈ks)->E.rd=some (E.β0 k)->PW P Γ eqs E pa (DP (fun st=>st.H k=some [.lr fr nt ps pa pb .ready]/\PW P Γ eqs E pb (rH k (.lr fr nt ps pa pb) s ks H1) ⟨st.fr,upd st.H k (some [.lr fr nt ps pa pb .busy]),st.nx⟩) (fun _ _=>False)) ⟨BD fr ps args,Hin,N⟩
theorem Ym.ofXN (hΓ:GOk P Γ) (hE:EB P eqs) (hm:P.follows .mixedOrders=true) {k:Nat} {fr:Nat->V} {nt:Nat} {ps:List Nat} {pa pb:PC} {args:List V} {s:LSt} (N:Nat)
   (hL:BT ks xs L) (hL1:BT ks xs1 L1) (hlt:∀ i∈ks++xs,i<N) (hkk:k∈ks) (hk:Go.Psl.lk L k=some [.lr fr nt ps pa pb .ready]) (hlen:ps.length=args.length) (hps:∀ p∈ps,p<nt) (hcl:∀ v∈args,A2 (· < N) AR v)
   (h:RndN P Γ eqs k fr nt ps pa pb args (Go.Psl.lk L) ks s L1 N):Ym P k args (Go.Psl.lk L) ks (.ret (.d (.lit (.bool (FP s))))) (Go.Psl.lk L1):=
 Ym.of hΓ hE hm N hk hkk hlen hps hcl (A7.at (hL.ids hlt)) (fun i hi=>hlt i (List.mem_append_left _ hi)) hL1.res h.run
theorem E3.keepXN {fo:Operand} {ps:List Nat} {pa pb:PC} {Q:Av->St->Prop} {f:Nat->V} {H:Hp} {n:Nat} {g:FuncId} {caps:List V} (L L1:List (Nat × List V)) (ks xs xs1:List Nat) (r:V) (jmp:LSt) (h0:E.rqN H/\E.nt≠AL4) (hg:Be (evF f fo)=some (g,caps))
   (hf:Cm P g (.yl n::caps) (Go.Psl.lk ((n,[.lr f E.nt ps pa pb .ready])::L)) (n::ks) (.ret r) (Go.Psl.lk ((n,[.lr f E.nt ps pa pb jmp])::L1)))
   (hL:BT (n::ks) xs ((n,[.lr f E.nt ps pa pb .ready])::L)) (hL1:BT (n::ks) xs1 ((n,[.lr f E.nt ps pa pb jmp])::L1)) (hx:∀ i∈xs1,i<1048576) (hlt:∀ i∈ks++xs,i<n) (hH:∀ i∈ks++xs,H i=Go.Psl.lk L i) (hb:AJ (Bor noH) caps caps)
   (hq:∀ F:Hp,(∀ p∈L1,F (sg (n::ks) (n+1048576) p.1)=some (p.2.map (BJ (sg (n::ks) (n+1048576)))))->(∀ i,i ∉ ks++xs->i<n->F i=H i)->Sm Q ⟨f,F,n+2097152⟩ jmp):PW P Γ eqs E (.rangeF fo ps pa pb) Q ⟨f,H,n⟩:=by
 have hH':∀ i∈n::ks++xs,upd H n (some [.lr f E.nt ps pa pb .ready]) i=Go.Psl.lk ((n,[.lr f E.nt ps pa pb .ready])::L) i:=fun i hi=>by
   simp only [AY,Go.Psl.lk];by_cases e:i=n
   . simp [e]
   . simp only [e,if_false]
     rw [List.cons_append] at hi;rcases List.mem_cons.1 hi with h | h
     . exact absurd h e
     . exact hH i h
 have hbk:∀ i∈n::ks++xs,i<n+1048576:=fun i hi=>by
   rw [List.cons_append] at hi;rcases List.mem_cons.1 hi with h | h
   . omega
   . have:=hlt i h;omega
 refine ⟨h0,g,caps, .yl n::caps,_,n::ks, .ret r,_,hg,⟨hf,Jd hL hL1 hx hH' ⟨rfl,hb⟩⟩,by simp,jmp,by simp [Go.Psl.lk],?_⟩;refine hq _ (fun p hp=>?_) fun i hi hin=>?_
 . have hm:p.1∈ks++xs1:=by
     have:=hL1.names;simp only [List.map_cons,List.cons_append,List.cons.injEq,true_and] at this;rw [<-this];exact List.mem_map.2 ⟨p,hp,rfl⟩
   have hne:sg (n::ks) (n+1048576) p.1≠n:=fun e=>by
     have hnd:=hL1.nd;rw [List.cons_append] at hnd;have hnm:=(List.nodup_cons.1 hnd).1;unfold sg at e;split at e
     . rw [e] at hm;exact hnm hm
     . omega
   simp only [AY,hne,if_false];exact Oe hL hL1 hbk (List.mem_cons_of_mem _ hp)
 . have hne:i≠n:=by omega
   simp only [AY,hne,if_false];rw [VL hL hL1 (by rw [List.cons_append];intro h;rcases List.mem_cons.1 h with h | h;exact hne h;exact hi h) (by omega)];simp [AY,hne]
theorem E3.keepX {fo:Operand} {ps:List Nat} {pa pb:PC} {Q:Av->St->Prop} {f:Nat->V} {H:Hp} {n:Nat} {g:FuncId} {caps:List V} (L L1:List (Nat × List V)) (ks xs xs1:List Nat) (r:V) (jmp:LSt) (h0:E.rq/\E.nt≠AL4) (hg:Be (evF f fo)=some (g,caps))
   (hf:Cm P g (.yl n::caps) (Go.Psl.lk ((n,[.lr f E.nt ps pa pb .ready])::L)) (n::ks) (.ret r) (Go.Psl.lk ((n,[.lr f E.nt ps pa pb jmp])::L1)))
   (hL:BT (n::ks) xs ((n,[.lr f E.nt ps pa pb .ready])::L)) (hL1:BT (n::ks) xs1 ((n,[.lr f E.nt ps pa pb jmp])::L1)) (hx:∀ i∈xs1,i<1048576) (hlt:∀ i∈ks++xs,i<n) (hH:∀ i∈ks++xs,H i=Go.Psl.lk L i) (hb:AJ (Bor noH) caps caps)
   (hq:∀ F:Hp,(∀ p∈L1,F (sg (n::ks) (n+1048576) p.1)=some (p.2.map (BJ (sg (n::ks) (n+1048576)))))->(∀ i,i ∉ ks++xs->i<n->F i=H i)->Sm Q ⟨f,F,n+2097152⟩ jmp):PW P Γ eqs E (.rangeF fo ps pa pb) Q ⟨f,H,n⟩:=
 E3.keepXN L L1 ks xs xs1 r jmp ⟨.inl h0.1,h0.2⟩ hg hf hL hL1 hx hlt hH hb hq
end
end Go.Psl
namespace Go.Psl
variable {P:Program} {Γ:Tys} {eqs:Eqs} {E:Ent}
def PWk (P:Program) (Γ:Tys) (eqs:Eqs) (E:Ent):Nat->PC->(Av->St->Prop)->St->Prop
 | 0,p,Q,st=>∃ st',AI P E st st'/\PW P Γ eqs E p Q st'
 | n+1, .seq a b,Q,st=>PW P Γ eqs E a (DP (fun st=>PWk P Γ eqs E n b Q st) Q) st
 | _+1,_,_,_=>False
theorem PWk.sound (hΓ:GOk P Γ) (hE:EB P eqs) (hm:P.follows .mixedOrders=true):∀ (n:Nat) (c:Code) (p:PC),AK E.nt c=some p->∀ (Q:Av->St->Prop) (st:St),PWk P Γ eqs E n p Q st->AW P E c Q st
 | 0,c,p,hc,Q,st,⟨st',hw,h⟩=>AW.weak hw (PW.sound hΓ hE hm c p hc Q st' h)
 | n+1,c,p,hc,Q,st,h=>by
   cases c with
   | seq a b=>
     simp only [AK,Option.bind_eq_some_iff,Option.map_eq_some_iff] at hc;obtain ⟨x,hx,y,hy,rfl⟩:=hc;refine AW.seq (AW.mono (PW.sound hΓ hE hm a x hx _ _ h) fun e st hq=>?_);cases e with
     | normal=>exact PWk.sound hΓ hE hm n b y hy Q st hq
     | _=>exact hq
   | region id ops draw=>
     exfalso;cases draw with
     | false=>
       simp only [AK,Bool.false_eq_true,if_false,Option.ite_none_right_eq_some,Option.some.injEq] at hc;obtain ⟨hd,rfl⟩:=hc;exact h
     | true=>
       simp only [AK,if_true,Option.ite_none_right_eq_some,Option.some.injEq] at hc;obtain ⟨hd,rfl⟩:=hc;revert h;unfold M8;split<;>exact fun h=>h
   | cond c a b=>
     simp only [AK,Option.bind_eq_some_iff,Option.map_eq_some_iff] at hc;obtain ⟨x,hx,y,hy,rfl⟩:=hc;exact False.elim h
   | block id a=>
     simp only [AK,Option.map_eq_some_iff] at hc;obtain ⟨x,hx,rfl⟩:=hc;exact False.elim h
   | loop a=>
     simp only [AK,Option.map_eq_some_iff] at hc;obtain ⟨x,hx,rfl⟩:=hc;exact False.elim h
   | rangeFunc fo ps a b=>
     simp only [AK,Option.bind_eq_some_iff,Option.map_eq_some_iff] at hc;obtain ⟨x,hx,y,hy,rfl⟩:=hc;exact False.elim h
   | skip=>cases hc;exact False.elim h
   | ret=>cases hc;exact False.elim h
   | exit id=>cases hc;exact False.elim h
   | _=>cases hc
end Go.Psl
namespace Go.Psl
variable {P:Program}
theorem Cm.give {f:FuncId} {args args':List V} {Hin:Hp} {res:Res} {H1:Hp} (h:Cm P f args (fun _=>none) [] res H1) (hf:AJ (Fz1 Hin) args' args):Cm P f args' Hin [] res H1:=by
 refine ⟨h.1,fun G W xs him hargs hpre=>?_⟩
 have him'0:∀ b,Jw G Hin b->b<W.heap.size:=fun b hb=>by
   rcases hb with hb | ⟨i,hi,hph,rfl⟩
   . exact him.1 b hb
   . cases hc:Hin i with
     | none=>simp [InH,hc] at hi
     | some cs=>
       rcases hpre.hb i cs hc with ⟨h1,_⟩ | ⟨_,_,_,c,T,h3,_⟩ | ⟨_,_,_,⟨_,fr,nt,ps,pa,pb,jmp,rec,_,h4,_⟩ | ⟨_,es,ms,ck,_,h4,_⟩ | ⟨_,bx,bp,bv,_,h4,_⟩⟩
       . rw [h1] at hph;cases hph
       . exact (Array.getElem?_eq_some_iff.1 h3.choose_spec.1).1
       . exact (Array.getElem?_eq_some_iff.1 h4).1
       . exact (Array.getElem?_eq_some_iff.1 h4).1
       . exact (Array.getElem?_eq_some_iff.1 h4).1
 have him':GW (Jw G Hin) W:=⟨him'0,him.2.mono fun b hb=>⟨.inl hb,rfl⟩⟩
 have hargs':AJ (R2 {G with Im:=Jw G Hin} W) args xs.toList:=AJ.of_get (by rw [<-hf.length,hargs.length]) fun i a x ha hx=>by
   obtain ⟨a',ha',hr⟩:=hf.get2 ha;obtain ⟨y,hy,hry⟩:=hargs.get ha';rw [hx] at hy;cases hy;exact fz1 hpre.hb hr hry
 have hno:∀ b,¬ Bm {G with Im:=Jw G Hin} (fun _=>none) b:=fun b ⟨i,hi,_⟩=>by simp [InH] at hi
 refine Calls.mono (h.2 {G with Im:=Jw G Hin} W xs him' hargs' ⟨fun i cs hc=>(by cases hc),fun i j hi=>(by simp [InH] at hi),fun i hi=>(by cases hi)⟩) fun e W' ⟨G',p⟩=>?_
 refine ⟨G',p.os,p.tape,p.output,p.drawn,p.size,fun b hb _=>p.block b hb (hno b),fun b hb=>?_,fun b hb=>p.im0 b (.inl hb),p.rv,p.wf,fun i cs hc=>?_,p.inj,fun i hi=>(by cases hi)⟩
 . obtain ⟨h1,h2⟩:=p.im b hb
   refine ⟨h1,?_⟩;rcases h2 with (h2 | ⟨i,hi,hph,rfl⟩) | h2 | h2
   . exact .inl h2
   . exact .inr (.inr ⟨i,hi,hph,rfl⟩)
   . exact .inr (.inl h2)
   . exact absurd h2 (hno b)
 . obtain ⟨h1,h2,h3⟩:=p.hb i cs hc
   refine ⟨h1,fun hp=>?_,h3⟩;rcases h2 hp with h2 | h2
   . exact .inl h2
   . exact absurd h2 (hno _)
end Go.Psl
namespace Go.Air
structure Nws where
 po:Int
 ki:Int
 se:Int
 ca:Int
 lo:Int
 hi:Int
deriving DecidableEq,Inhabited
structure Rts where
 p:Int
 t:Int
 w:Int
def ALy (r:Rts) (k:Int):Int:=if k=1 then r.p else if k=2 then r.t else r.w
def ALk (po ki nw:Int) (x:Nws):Bool:=decide (x.po=po)&&decide (x.ki=ki)&&decide (x.ca<=nw)
def C2 (po ki nw:Int):Nat->List Nws->List (Nat × Nws)
 | _,[]=>[]
 | i,x::l=>if ALk po ki nw x then (i,x)::C2 po ki nw (i+1) l else C2 po ki nw (i+1) l
def ALb (po ki nw:Int) (l:List Nws) (i:Nat):Nat:=((l.take i).filter (ALk po ki nw)).length
def ALN (r:Rts) (x:Nws) (at_:Int):Int:=ALy r x.ki*max (at_-x.se) (x.se-at_)
def ALJ (r:Rts) (x:Nws) (at_:Int):Int × Int:=(x.lo-ALN r x at_,x.hi+ALN r x at_)
theorem AMA {po ki nw:Int} {l:List Nws}:ALb po ki nw l 0=0:=rfl
theorem ANq {po ki nw:Int} {l:List Nws} {i:Nat} {x:Nws} (h:l[i]?= some x):ALb po ki nw l (i+1)=ALb po ki nw l i+if ALk po ki nw x then 1 else 0:=by
 unfold ALb;rw [List.take_add_one,h,List.filter_append,List.length_append]
 show _+([x].filter _).length=_
 rw [List.filter_cons];split<;>rfl
theorem AL2 {po ki nw:Int}:∀ (l:List Nws) (i:Nat),(C2 po ki nw i l).length=(l.filter (ALk po ki nw)).length
 | [],_=>rfl
 | x::l,i=>by
   rw [C2,List.filter_cons];split
   . rw [List.length_cons,List.length_cons,AL2 l]
   . exact AL2 l _
theorem AOn {po ki nw:Int} (l:List Nws) (j:Nat):ALb po ki nw l l.length=(C2 po ki nw j l).length:=by
 unfold ALb;rw [List.take_length,AL2]
theorem AND {po ki nw:Int}:∀ {l:List Nws} {i j:Nat} {x:Nws},l[i]?= some x->ALk po ki nw x=true->(C2 po ki nw j l)[ALb po ki nw l i]?= some (j+i,x)
 | [],_,_,_,h,_=>by simp at h
 | y::l,0,j,x,h,hx=>by
   simp at h;subst h;rw [AMA,C2,if_pos hx];rfl
 | y::l,i+1,j,x,h,hx=>by
   have ih:=AND (l:=l) (i:=i) (j:=j+1) (by simpa using h) hx
   have e:ALb po ki nw (y::l) (i+1)=(if ALk po ki nw y then 1 else 0)+ALb po ki nw l i:=by
     unfold ALb;rw [List.take_succ_cons,List.filter_cons];split<;>simp;omega
   rw [e,C2];split
   . rw [Nat.add_comm 1,List.getElem?_cons_succ,ih,show j+1+i=j+(i+1) by omega]
   . rw [Nat.zero_add,ih,show j+1+i=j+(i+1) by omega]
theorem ALp {po ki nw:Int}:∀ {l:List Nws} {j i:Nat} {x:Nws},(i,x)∈C2 po ki nw j l->j<=i/\l[i-j]?= some x/\ALk po ki nw x=true
 | [],_,_,_,h=>by cases h
 | y::l,j,i,x,h=>by
   rw [C2] at h;split at h
   . rcases List.mem_cons.1 h with h | h
     . cases h
       exact ⟨Nat.le_refl _,by simp,by assumption⟩
     . obtain ⟨h1,h2,h3⟩:=ALp h
       refine ⟨by omega,?_,h3⟩;rw [show i-j=i-(j+1)+1 by omega,List.getElem?_cons_succ,h2]
   . obtain ⟨h1,h2,h3⟩:=ALp h
     refine ⟨by omega,?_,h3⟩;rw [show i-j=i-(j+1)+1 by omega,List.getElem?_cons_succ,h2]
end Go.Air
namespace Go.Proofs.Tryz
open Go.Psl
open Go.Air
abbrev nwL (x:Nws):List D:=[di x.po,di x.ki,di x.se,di x.ca,di x.lo,di x.hi]
abbrev nwV (x:Nws):V:= .agg [vi x.po,vi x.ki,vi x.se,vi x.ca,vi x.lo,vi x.hi]
abbrev ALV (l:List Nws):D:= .sl 6 (l.map nwL)
abbrev cF (l:List Nws) (r:Rts):D:= .ref [ALV l,di 0,di r.p,di r.t,di r.w,di r.w]
theorem AQg (d:D) (po ki nw:Int):Ct prog 84 [.d d,vi po,vi ki,vi nw] (.cl 128 [.lp 0 0, .lp 1 0, .lp 2 0, .lp 3 0]) [(0,[.d d]),(1,[vi po]),(2,[vi ki]),(3,[vi nw])]:=by
 refine CB func84 c84 fun E hE=>?_
 simp [p84];refine AB.by (lk [(0,0),(1,1048576),(2,2097152),(3,3145728)]) ?_;simp [results84]
theorem AMG {P:Program} {E:Ent} {ks xs:List Nat} {L:List (Nat × List V)} {st:St} (hs:∀ i,E.stab i↔i∈ks) (h:BT ks xs L) (hH:∀ i∈ks++xs,st.H i=lk L i) {n:Nat} (hn:∀ i∈ks++xs,i<n) (l:List (Nat × V)) (h1:CL (rid (ks++xs)) st.fr l) (h4:Bw n l):AI P E st ⟨AO l,lk L,n⟩:=
 AI.mkM hs (rid (ks++xs)) l L n h1 (h.same.hp hH) h.same.inj h4 (h.ids hn) (IG (fun i hi=>hn i (List.mem_append_left _ hi)) fun i hi hs=>⟨Cr (List.mem_append_left _ hi),by rw [hH i (List.mem_append_left _ hi)];exact hs⟩)
theorem ALv (ns:List Nws) (r:Rts) (hl:ns.length<=1000000) (po ki nw:Int) (KS:List Nat) (XS:Nat->List Nat) (k b0 b1 b2 b3 m:Nat) (go:Nat->Bool) (L:Nat->List (Nat × List V)) (hk:k∈KS) (h0:b0∈KS) (h1:b1∈KS) (h2:b2∈KS) (h3:b3∈KS) (hN:∀ i∈KS,i<1000000000) (hX:∀ i,∀ x∈XS i,x<1048576) (hL:∀ i,i<=m->BT KS (XS i) (L i))
   (hrec:∀ i,i<=m->∃ fr nt ps pa pb jmp,lk (L i) k=some [.lr fr nt ps pa pb jmp]/\ps.length=2) (hb0:∀ i,i<=m->lk (L i) b0=some [.d (cF ns r)]) (hb1:∀ i,i<=m->lk (L i) b1=some [vi po]) (hb2:∀ i,i<=m->lk (L i) b2=some [vi ki]) (hb3:∀ i,i<=m->lk (L i) b3=some [vi nw])
   (hm:m<=(C2 po ki nw 0 ns).length) (hgo:∀ j,j+1<m->go j=true) (hend:m=(C2 po ki nw 0 ns).length/\(0<m->go (m-1)=true)\/(0<m/\go (m-1)=false))
   (hY:∀ j i x,j<m->(C2 po ki nw 0 ns)[j]?= some (i,x)->Ym prog k [vi i,nwV x] (lk (L j)) KS (.ret (vb (go j))) (lk (L (j+1)))):
   Cm prog 128 [.yl k, .lp b0 0, .lp b1 0, .lp b2 0, .lp b3 0] (lk (L 0)) KS (.ret (.tup [])) (lk (L m)):=by
 have hNX:∀ i,∀ x∈KS++XS i,x<1000000000:=fun i x hx=>by
   rcases List.mem_append.1 hx with h | h
   . exact hN x h
   . have:=hX i x h;omega
 refine Cm.by gok eok mixed 1000000000 func128 c128 rfl (by simp [ntmps128]) (by simp;exact ⟨hN k hk,hN b0 h0,hN b1 h1,hN b2 h2,hN b3 h3⟩) (A7.at ((hL 0 (by omega)).ids (hNX 0))) hN ⟨by simp,(hL _ (Nat.le_refl _)).res⟩ fun E hs hE=>?_
 have q0:=hN b0 h0;have q1:=hN b1 h1;have q2:=hN b2 h2;have q3:=hN b3 h3;have rk:∀ i b x,x∈KS->rx KS (XS i) b x=some x:=fun i b x hx=>by simp [rx,hx]
 have c0:=hb0 0 (by omega);have hca:=AOn (po:=po) (ki:=ki) (nw:=nw) ns 0;simp [p128,c0];refine Al (α:=Nat) (fun i=>⟨AO [(0, .yl k),(1, .lp b0 0),(2, .lp b1 0),(3, .lp b2 0),(4, .lp b3 0),(11, .d (ALV ns)),(12,vi ns.length),(13,vi i)],lk (L (ALb po ki nw ns i)),1000000000⟩) (fun i=>i<=ns.length/\ALb po ki nw ns i<=m/\(ALb po ki nw ns i=m->m=(C2 po ki nw 0 ns).length)) (fun i=>ns.length-i) 0 ?_ ?_ ?_
 . rw [AMA]
   refine ⟨by omega,by omega,fun e=>?_⟩;rcases hend with h | h
   . exact h.1
   . omega
 . rw [AMA]
   refine AI.sameX hs (hL 0 (by omega)) rfl (hNX 0) _ ?_ ?_
   . simp [rid,hk,h0,h1,h2,h3]
   . simp [hN k hk,q0,q1,q2,q3]
 . rintro i ⟨hi,hcm,hce⟩
   have hz:=@wz i (by omega);have d1:=hb1 _ hcm;have d2:=hb2 _ hcm;have d3:=hb3 _ hcm;by_cases h:i<ns.length
   . obtain ⟨x,hx⟩:=gE h
     have hI:(i:Int)<ns.length:=by omega
     have hcs:=ANq (po:=po) (ki:=ki) (nw:=nw) hx;have na:∀ b:Nat,b<1000000000->∀ z,1000000000<=z->¬ b=z:=fun b hb z hz=>by omega
     cases hh:ALk po ki nw x with
     | false=>
       rw [hh] at hcs;simp at hcs;rw [ALk] at hh;by_cases e1:x.po=po
       . by_cases e2:x.ki=ki
         . have e3:¬ x.ca<=nw:=by simpa [e1,e2] using hh
           simp [AMI,hI,hx,d1,d2,d3,e1,e2,e3,na b1 q1,na b2 q2,na b3 q3,AA,hz];refine ⟨i+1,⟨by omega,by rw [hcs];exact hcm,by rw [hcs];exact hce⟩,by omega,?_⟩;rw [hcs];refine AMG hs (hL _ hcm) (fun q hq=>?_) (hNX _) _ ?_ ?_
           . have:=hNX _ q hq
             have hq2:q≠1004194304:=by omega
             simp [hq2]
           . simp [rid,hk,h0,h1,h2,h3]
           . simp [hN k hk,q0,q1,q2,q3]
         . simp [AMI,hI,hx,d1,d2,e1,e2,na b1 q1,na b2 q2,AA,hz]
           refine ⟨i+1,⟨by omega,by rw [hcs];exact hcm,by rw [hcs];exact hce⟩,by omega,?_⟩;rw [hcs];refine AMG hs (hL _ hcm) (fun q hq=>?_) (hNX _) _ ?_ ?_
           . have:=hNX _ q hq
             have hq2:q≠1004194304:=by omega
             simp [hq2]
           . simp [rid,hk,h0,h1,h2,h3]
           . simp [hN k hk,q0,q1,q2,q3]
       . simp [AMI,hI,hx,d1,e1,na b1 q1,AA,hz]
         refine ⟨i+1,⟨by omega,by rw [hcs];exact hcm,by rw [hcs];exact hce⟩,by omega,?_⟩;rw [hcs];refine AMG hs (hL _ hcm) (fun q hq=>?_) (hNX _) _ ?_ ?_
         . have:=hNX _ q hq
           have hq2:q≠1004194304:=by omega
           simp [hq2]
         . simp [rid,hk,h0,h1,h2,h3]
         . simp [hN k hk,q0,q1,q2,q3]
     | true=>
       rw [hh,if_pos rfl] at hcs;simp only [ALk,Bool.and_eq_true,decide_eq_true_eq] at hh;obtain ⟨⟨e1,e2⟩,e3⟩:=hh;simp [AMI,hI,hx,d1,d2,d3,e1,e2,e3,na b1 q1,na b2 q2,na b3 q3,AA];have hat:=AND (po:=po) (ki:=ki) (nw:=nw) (j:=0) hx (by simp [ALk,e1,e2,e3]);rw [Nat.zero_add] at hat
       have hlt:ALb po ki nw ns i<m:=by
         rcases Nat.lt_or_ge (ALb po ki nw ns i) m with h | h
         . exact h
         . have:=hce (by omega)
           have:=(List.getElem?_eq_some_iff.1 hat).1;omega
       have hY':=hY _ i x hlt hat;obtain ⟨fr,nt,ps,pa,pb,jmp,hr1,hr2⟩:=hrec _ hcm
       generalize hc:ALb po ki nw ns i=c at*
       have hL1:=hL (c+1) hlt;have hbb:∀ q∈KS++XS c,q<1028311552:=fun q hq=>by have:=hNX c q hq;omega
       have hbk:∀ q∈KS,q<1028311552:=fun q hq=>by have:=hN q hq;omega
       refine Fp.keepX [vi i,nwV x] (L c) (L (c+1)) KS (XS c) (XS (c+1)) _ hY' (hL c hcm) hL1 (hX _) ⟨fr,nt,ps,pa,pb,jmp,hr1,hr2⟩ (fun q hq=>?_) (by simp [e1,e2]) ?_
       . have:=hNX _ q hq
         have hq2:q≠1004194304:=by omega
         simp [hq2]
       . cases hg:go c with
         | true=>
           simp [hz];refine ⟨i+1,⟨by omega,by rw [hcs];omega,fun e=>?_⟩,by omega,?_⟩
           . rcases hend with h | h
             . exact h.1
             . rw [hcs] at e
               rw [<-e,show c+1-1=c by omega,hg] at h;simp at h
           . rw [hcs]
             refine AI.keepX (b:=1028311552) hs hL1 hbk (fun p hp=>Oe (hL c hcm) hL1 hbb hp) (hNX _) _ ?_ ?_
             . simp [rk,hk,h0,h1,h2,h3]
             . simp [hN k hk,q0,q1,q2,q3]
         | false=>
           have hm1:m=c+1:=by
             rcases Nat.lt_or_ge (c+1) m with h | h
             . rw [hgo c h] at hg;cases hg
             . omega
           simp;rw [hm1];exact Dc.keepX rfl hL1 hbk (fun p hp=>Oe (hL c hcm) hL1 hbb hp)
   . have hI:¬ (i:Int)<ns.length:=by omega
     have e:i=ns.length:=by omega
     simp [AMI,hI]
     have hmc:ALb po ki nw ns i=m:=by
       rw [e] at hcm ⊢;omega
     rw [hmc];exact Dc.sameX rfl (hL m (Nat.le_refl _)) rfl
end Go.Proofs.Tryz
namespace Go.Air
structure OkN (x:Nws):Prop where
 po:0<=x.po/\x.po<=15
 ki:1<=x.ki/\x.ki<=4
 tm:0<=x.se/\x.se<=x.ca/\x.ca<=1000000
 v: -12000<=x.lo/\x.lo<=x.hi/\x.hi<=12000
structure OkR (r:Rts):Prop where
 p:0<=r.p/\r.p<=100
 t:0<=r.t/\r.t<=100
 w:0<=r.w/\r.w<=100
theorem AOC {r:Rts} (h:OkR r) (k:Int):0<=ALy r k/\ALy r k<=100:=by
 unfold ALy;split
 . exact h.p
 . split
   . exact h.t
   . exact h.w
theorem AOD {r:Rts} (h:OkR r) {x:Nws} (hx:OkN x) {t:Int} (ht:0<=t/\t<=1000000):0<=ALN r x t/\ALN r x t<=100000000:=by
 have h1:=AOC h x.ki;have h2:=hx.tm;unfold ALN;have h3:0<=max (t-x.se) (x.se-t)/\max (t-x.se) (x.se-t)<=1000000:=by omega
 exact ⟨Int.mul_nonneg h1.1 h3.1,Int.le_trans (Int.mul_le_mul h1.2 h3.2 h3.1 (by omega)) (by omega)⟩
def ALc (s:Int × Int) (l:List (Int × Int)):Int × Int:=l.foldl (fun a x=>(max a.1 x.1,min a.2 x.2)) s
def AMB (l:List (Int × Int)):Int × Int:=ALc (l.headD (0,0)) l
end Go.Air
namespace Go.Proofs.Tryz
open Go.Psl
open Go.Air
theorem ASE (ns:List Nws) (r:Rts) (hr:OkR r) (x:Nws) (hx:OkN x) (t:Int) (ht:0<=t/\t<=1000000):Ct prog 85 [.d (cF ns r),nwV x,vi t] (vsp (ALJ r x t).1 (ALJ r x t).2) []:=by
 have hw:=AOD hr hx ht;have h2:=hx.tm;have h3:=hx.v;have hk:=hx.ki;have w1:IntKind.wrap .i64 (t-x.se)=t-x.se:=AD (by omega) (by omega);have w2:IntKind.wrap .i64 (x.se-t)=x.se-t:=AD (by omega) (by omega);have w3:IntKind.wrap .i64 (ALN r x t)=ALN r x t:=AD (by omega) (by omega);have w4:IntKind.wrap .i64 (x.lo-ALN r x t)=x.lo-ALN r x t:=AD (by omega) (by omega);have w5:IntKind.wrap .i64 (x.hi+ALN r x t)=x.hi+ALN r x t:=AD (by omega) (by omega);have hk4:x.ki=1\/x.ki=2\/x.ki=3\/x.ki=4:=by omega
 rcases hk4 with h | h | h | h
 . have e5:r.p*max (t-x.se) (x.se-t)=ALN r x t:=by unfold ALN ALy;rw [if_pos h]
   refine CB func85 c85 fun E hE=>?_
   simp [p85,h,AA,inC,Nat.testBit,w1,w2,e5,w3,w4,w5];apply RZ;simp [results85,ALJ]
 . have e5:r.t*max (t-x.se) (x.se-t)=ALN r x t:=by unfold ALN ALy;rw [if_neg (by omega),if_pos h]
   refine CB func85 c85 fun E hE=>?_
   simp [p85,h,AA,inC,Nat.testBit,w1,w2,e5,w3,w4,w5];apply RZ;simp [results85,ALJ]
 . have e5:r.w*max (t-x.se) (x.se-t)=ALN r x t:=by unfold ALN ALy;rw [if_neg (by omega),if_neg (by omega)]
   refine CB func85 c85 fun E hE=>?_
   simp [p85,h,AA,inC,Nat.testBit,w1,w2,e5,w3,w4,w5];apply RZ;simp [results85,ALJ]
 . have e5:r.w*max (t-x.se) (x.se-t)=ALN r x t:=by unfold ALN ALy;rw [if_neg (by omega),if_neg (by omega)]
   refine CB func85 c85 fun E hE=>?_
   simp [p85,h,AA,inC,Nat.testBit,w1,w2,e5,w3,w4,w5];apply RZ;simp [results85,ALJ]
theorem AOu {s:Int × Int} {l:List (Int × Int)} {i:Nat} {x:Int × Int} (h:l[i]?= some x):ALc s (l.take (i+1))=(max (ALc s (l.take i)).1 x.1,min (ALc s (l.take i)).2 x.2):=by
 unfold ALc;rw [List.take_add_one,h,List.foldl_append];rfl
theorem AMq (l:List (Int × Int)) (h0:l≠[]) (hl:l.length<=1000000):Ct prog 36 [.d (An l)] (vsp (AMB l).1 (AMB l).2) []:=by
 obtain ⟨s,rest,e⟩:=List.exists_cons_of_ne_nil h0;have hs:l[0]?= some s:=by rw [e];rfl
 have hd:l.headD (0,0)=s:=by rw [e];rfl
 have hL:0<l.length:=by rw [e];simp
 have hs0:l[0]=s:=by simp [e]
 unfold AMB;rw [hd];refine CB func36 c36 fun E hE=>?_
 simp [p36,hL,AA];refine Al (α:=Nat) (fun k=>⟨AO [(2, .lp 0 0),(3, .lp 1 0),(9, .d (An l)),(10,vi l.length),(11,vi k)],lk [(0,[vi 0,vi 0]),(1,[vi (ALc s (l.take k)).1,vi (ALc s (l.take k)).2])],2⟩) (fun k=>k<=l.length) (fun k=>l.length-k) 0 ?_ ?_ ?_
 . omega
 . have e0:ALc s (l.take 0)=s:=rfl
   rw [e0];refine AI.mk hE (lk [(0,0),(1,4194304)]) _ _ _ ?_ ?_ ?_ ?_ ?_<;>simp [hs0]
 . intro i hi
   have hz:=@wz i (by omega);by_cases h:i<l.length
   . obtain ⟨x,hx⟩:=gE h
     have hI:(i:Int)<l.length:=by omega
     have ht:=AOu (s:=s) hx;simp [AMk,hI,hx,AA];refine AL [(11,1)] (by kernel_rfl) ?_;simp [AA,inC,Nat.testBit,hz];refine ⟨i+1,by omega,by omega,?_⟩;rw [ht];exact WK hE (lk [(0,0),(1,1)])
   . have hI:¬ (i:Int)<l.length:=by omega
     obtain rfl:i=l.length:=by omega
     simp [AMk,AA];apply RZ;simp [results36]
end Go.Proofs.Tryz
namespace Go.Proofs.Tryz
open Go.Psl
open Go.Air
abbrev spL (s:Int × Int):List D:=[di s.1,di s.2]
theorem AQh:∀ x:Int × Int,(spL x).length=2:=fun _=>rfl
def kKS:List Nat:=[10485760,9437184,9437185,9437186,9437187,0,1048576,2097152,4194304]
def kXS (st:List (Int × Int)):List Nat:=if st=[] then [] else [7]
def kHd (st:List (Int × Int)):V:=if st=[] then .d (.lit (.slice none 0 0)) else .ls 7 0 st.length 2
def kBk (st:List (Int × Int)):List (Nat × List V):=if st=[] then [] else [(7,AH spL st)]
structure KnD where
 ns:List Nws
 r:Rts
 po:Int
 ki:Int
 t:Int
 nw:Int
def kL (d:KnD) (f:Nat->V) (z:LSt) (st:List (Int × Int)):List (Nat × List V):=(10485760,[.lr f 49 [23,24] ALt ALu z])::(9437184,[.d (cF d.ns d.r)])::(9437185,[vi d.po])::(9437186,[vi d.ki])::(9437187,[vi d.nw])::(0,[.d (cF d.ns d.r)])::(1048576,[vi d.t])::(2097152,[vi 0,vi 0])::(4194304,[kHd st])::kBk st
theorem AM2 (d:KnD) (f:Nat->V) (z:LSt) (st:List (Int × Int)) (hf:∀ t,AV (·∈kKS) AR (f t)):BT kKS (kXS st) (kL d f z st):=by
 have hd:∀ (ks xs:List Nat) (x:D),CX ks xs (.d x):=fun _ _ _=>rfl
 by_cases h:st=[]
 . refine ⟨by simp [kL,kBk,kXS,kKS,h],by simp [kXS,kKS,h],?_⟩
   intro q hq;simp only [kL,kBk,h,if_true,List.mem_cons,List.not_mem_nil,or_false] at hq;rcases hq with rfl | rfl | rfl | rfl | rfl | rfl | rfl | rfl | rfl
   . exact ⟨by simp,Or.inr (.inl ⟨_,_,_,_,_,_,rfl⟩),fun c hc=>by simp at hc;subst hc;exact hf⟩
   all_goals refine ⟨by simp,Or.inl rfl,fun c hc=>?_⟩
   all_goals simp only [List.mem_cons,List.not_mem_nil,or_false] at hc
   all_goals first | (subst hc;first | exact rfl | (simp only [kHd,if_true];exact rfl)) | (rcases hc with rfl | rfl<;>exact rfl)
 . refine ⟨by simp [kL,kBk,kXS,kKS,h],by simp [kXS,kKS,h],?_⟩
   intro q hq;simp only [kL,kBk,h,if_false,List.mem_cons,List.not_mem_nil,or_false] at hq;rcases hq with rfl | rfl | rfl | rfl | rfl | rfl | rfl | rfl | rfl | rfl
   . exact ⟨by simp,Or.inr (.inl ⟨_,_,_,_,_,_,rfl⟩),fun c hc=>by simp at hc;subst hc;exact hf⟩
   . exact ⟨by simp,Or.inl rfl,fun c hc=>by simp at hc;subst hc;exact rfl⟩
   . exact ⟨by simp,Or.inl rfl,fun c hc=>by simp at hc;subst hc;exact rfl⟩
   . exact ⟨by simp,Or.inl rfl,fun c hc=>by simp at hc;subst hc;exact rfl⟩
   . exact ⟨by simp,Or.inl rfl,fun c hc=>by simp at hc;subst hc;exact rfl⟩
   . exact ⟨by simp,Or.inl rfl,fun c hc=>by simp at hc;subst hc;exact rfl⟩
   . exact ⟨by simp,Or.inl rfl,fun c hc=>by simp at hc;subst hc;exact rfl⟩
   . exact ⟨by simp,Or.inl rfl,fun c hc=>by simp at hc;subst hc;exact rfl⟩
   . refine ⟨by simp,Or.inl (by simp [kHd,h]),fun c hc=>?_⟩
     simp only [List.mem_cons,List.not_mem_nil,or_false] at hc;subst hc;simp [CX,kHd,h,W1,W0,rid,kXS,kKS]
   . obtain ⟨a,t,e⟩:=List.exists_cons_of_ne_nil h
     refine ⟨by rw [e,CQ];simp,Or.inl (List.all_eq_true.2 fun c hc=>by obtain ⟨y,_,rfl⟩:=List.mem_map.1 (show c∈List.map V.d (List.map spL st).flatten from hc);rfl),fun c hc=>?_⟩;obtain ⟨y,_,rfl⟩:=List.mem_map.1 (show c∈List.map V.d (List.map spL st).flatten from hc);exact rfl
structure KnF (f:Nat->V):Prop where
 av:∀ t,AV (·∈kKS) AR (f t)
 f5:f 5= .lp 0 0
 f8:f 8= .lp 1048576 0
 f12:f 12= .lp 4194304 0
structure KnO (d:KnD):Prop where
 r:OkR d.r
 n:∀ x∈d.ns,OkN x
 l:d.ns.length<=1000
 t:0<=d.t/\d.t<=1000000
theorem AQi (s:Int × Int):AH spL [s]=[vi s.1,vi s.2]:=by simp [AH]
theorem AO4 (d:KnD) (hd:KnO d) (f:Nat->V) (hF:KnF f) (i:Nat) (x:Nws) (hx:OkN x) (st:List (Int × Int)) (hst:st.length<=1000):
   Ym prog 10485760 [vi i,nwV x] (lk (kL d f .ready st)) kKS (.ret (vb true)) (lk (kL d f .ready (st++[ALJ d.r x d.t]))):=by
 obtain ⟨hf,f5,f8,f12⟩:=hF
 have hlt:∀ j∈kKS++kXS st,j<11534336:=by
   intro j hj;simp only [kKS,kXS,List.mem_append,List.mem_cons,List.not_mem_nil,or_false] at hj;split at hj<;>simp at hj<;>omega
 have hW:∀ z (ρ:Nat->Option Nat),(∀ j∈kKS,ρ j=some j)->WC ρ (.lr f 49 [23,24] ALt ALu z) (.lr f 49 [23,24] ALt ALu z):=fun z ρ hρ=>⟨rfl,fun t=>AV.mono (fun j hj=>hρ j hj) (fun _ h=>h) (hf t)⟩
 have hC:∀ z,Bv [.lr f 49 [23,24] ALt ALu z]:=fun z=>Or.inr (.inl ⟨_,_,_,_,_,_,rfl⟩)
 have cs:=ASE d.ns d.r hd.r x hx d.t hd.t;refine Ym.ofX (k:=10485760) (fr:=f) (nt:=49) (ps:=[23,24]) (pa:=ALt) (pb:=ALu) (args:=[vi i,nwV x]) (s:= .ready) gok eok mixed 11534336 (AM2 d f .ready st hf) (AM2 d f .ready _ hf) hlt (by simp [kKS]) (by simp [kL]) (by simp) (by simp) (by simp) ?_;have hne:¬ (st++[ALJ d.r x d.t]=[]):=by simp
 have hsl:=Aw AQh st;have hwh:=E9 AQh st;have n1:(st.length+1)*16<=140737488355328:=by omega
 have n2:st.length<=9223372036854775806:=by omega
 generalize ALJ d.r x d.t=s at cs hne ⊢
 by_cases he:st=[]
 . refine ⟨fun E hE hs=>?_⟩
   unfold kL;simp only [he,kBk,kHd,if_true,if_false,List.nil_append,List.cons_ne_nil]
   generalize V.lr f 49 [23,24] ALt ALu=rc at hW hC ⊢
   simp [ALt,BD,AA];simp [ALu,f5,f8,f12,inC,Nat.testBit];refine CLb (cs) (by first | (simp;done) | simp [Bk,CP,inC,Nat.testBit]) ?_;simp [f12,AA,AM];have hW2:=hW .ready (lk [(10485760,10485760),(9437184,9437184),(9437185,9437185),(9437186,9437186),(9437187,9437187),(0,0),(1048576,1048576),(2097152,2097152),(4194304,4194304),(7,19922944)]) (by intro j hj;simp only [kKS,List.mem_cons,List.not_mem_nil,or_false] at hj;rcases hj with rfl | rfl | rfl | rfl | rfl | rfl | rfl | rfl | rfl<;>rfl);refine ⟨trivial,by simp,lk [(10485760,10485760),(9437184,9437184),(9437185,9437185),(9437186,9437186),(9437187,9437187),(0,0),(1048576,1048576),(2097152,2097152),(4194304,4194304),(7,19922944)],?_⟩;simp [hW2,hC,kKS,AQi]
 . refine ⟨fun E hE hs=>?_⟩
   unfold kL;simp only [he,hne,kBk,kHd,if_false]
   generalize V.lr f 49 [23,24] ALt ALu=rc at hW hC ⊢
   simp [ALt,BD,AA];simp [ALu,f5,f8,f12,inC,Nat.testBit];refine CLb (cs) (by first | (simp;done) | simp [Bk,CP,inC,Nat.testBit]) ?_;simp [f12,AA,AM,hsl,hwh,n1,n2];have hW2:=hW .ready (lk [(10485760,10485760),(9437184,9437184),(9437185,9437185),(9437186,9437186),(9437187,9437187),(0,0),(1048576,1048576),(2097152,2097152),(4194304,4194304),(7,19922944)]) (by intro j hj;simp only [kKS,List.mem_cons,List.not_mem_nil,or_false] at hj;rcases hj with rfl | rfl | rfl | rfl | rfl | rfl | rfl | rfl | rfl<;>rfl);refine ⟨trivial,by simp,lk [(10485760,10485760),(9437184,9437184),(9437185,9437185),(9437186,9437186),(9437187,9437187),(0,0),(1048576,1048576),(2097152,2097152),(4194304,4194304),(7,19922944)],?_⟩;simp [hW2,hC,kKS,IV]
def AQI (r:Rts) (x y:Nws):Int × Int:=(max (ALJ r x y.se).1 y.lo,min (ALJ r x y.se).2 y.hi)
def AMC (r:Rts) (x y:Nat × Nws):Bool:=decide (x.1<y.1)&&decide ((AQI r x.2 y.2).2<(AQI r x.2 y.2).1)
def ALs (r:Rts) (S:List (Nat × Nws)):Option (Nat × Nat):=S.findSome? fun x=>(S.find? fun y=>AMC r x y).map fun y=>(x.1,y.1)
def AL8:Option (Nat × Nat)->V
 | none=> .tup [vi 0,vi 0,vb false]
 | some p=> .tup [vi p.1,vi p.2,vb true]
def ALd (r:Rts) (S:List (Nat × Nws)) (t:Int):(Int × Int) × Int:=if S=[] then ((0,0),6) else if (ALs r S).isSome then ((0,0),24) else (AMB (S.map fun x=>ALJ r x.2 t),0)
def AMH (d:KnD) (j:Nat):List (Int × Int):=((C2 d.po d.ki d.nw 0 d.ns).take j).map fun x=>ALJ d.r x.2 d.t
theorem AQJ (d:KnD) (f:Nat->V) (z:LSt) (st:List (Int × Int)):kL d f z st=(10485760,[.lr f 49 [23,24] ALt ALu z])::((9437184,[.d (cF d.ns d.r)])::(9437185,[vi d.po])::(9437186,[vi d.ki])::(9437187,[vi d.nw])::(0,[.d (cF d.ns d.r)])::(1048576,[vi d.t])::(2097152,[vi 0,vi 0])::(4194304,[kHd st])::kBk st):=rfl
theorem APu (d:KnD) (hd:KnO d) (hc:Ct prog 86 [.d (cF d.ns d.r),vi d.po,vi d.ki,vi d.nw] (AL8 (ALs d.r (C2 d.po d.ki d.nw 0 d.ns))) []):Ct prog 35 [.d (cF d.ns d.r),vi d.po,vi d.ki,vi d.t,vi d.nw] (.tup [vsp (ALd d.r (C2 d.po d.ki d.nw 0 d.ns) d.t).1.1 (ALd d.r (C2 d.po d.ki d.nw 0 d.ns) d.t).1.2,vi (ALd d.r (C2 d.po d.ki d.nw 0 d.ns) d.t).2]) []:=by
 have c1:=AQg (cF d.ns d.r) d.po d.ki d.nw;obtain ⟨S,hS⟩:∃ S,S=C2 d.po d.ki d.nw 0 d.ns:=⟨_,rfl⟩
 refine Ct.byR gok eok mixed func35 c35 rfl (by simp [ntmps35]) (by simp) (by simp [LD]) fun E hE hnt'=>?_
 simp [p35];refine CLa c1 ?_;simp;have hnt:E.nt=49:=by rw [hnt'.1];exact ntmps35
 rw [<-JI (Γ:=tys) (eqs:=eqs)];obtain ⟨f,hf⟩:∃ f,f=upd (upd (upd (upd (upd (upd (upd (upd (upd (upd (Dn 0 [V.d (cF d.ns d.r),vi d.po,vi d.ki,vi d.t,vi d.nw]) 5 (V.lp 0 0)) 8 (V.lp 1048576 0)) 10 (V.lp 2097152 0)) 11 (V.d (D.lit (Value.int IntKind.i64 0)))) 12 (V.lp 4194304 0)) 18 (V.d (cF d.ns d.r))) 19 (vi d.po)) 20 (vi d.ki)) 21 (vi d.nw)) 22 (V.cl 128 [V.lp 9437184 0,V.lp 9437185 0,V.lp 9437186 0,V.lp 9437187 0]):=⟨_,rfl⟩
 have hfA:∀ t,AV (·∈kKS) AR (f t):=fun t=>by
   rw [hf];simp only [AY];split
   . intro c hc
     simp only [List.mem_cons,List.not_mem_nil,or_false] at hc;rcases hc with rfl | rfl | rfl | rfl
     . exact (by simp [kKS]:(9437184:Nat)∈kKS)
     . exact (by simp [kKS]:(9437185:Nat)∈kKS)
     . exact (by simp [kKS]:(9437186:Nat)∈kKS)
     . exact (by simp [kKS]:(9437187:Nat)∈kKS)
   repeat (split;· first | exact trivial | (show (_:Nat)∈kKS;simp [kKS]))
   simp only [Dn]
   repeat (split;· exact trivial)
   exact fun c hc=>by simp at hc
 have hFF:KnF f:=⟨hfA,by rw [hf];simp,by rw [hf];simp,by rw [hf];simp⟩
 have f22:f 22= .cl 128 [.lp 9437184 0, .lp 9437185 0, .lp 9437186 0, .lp 9437187 0]:=by rw [hf];simp
 have f10:f 10= .lp 2097152 0:=by rw [hf];simp
 have fa:f 1=vi d.po/\f 2=vi d.ki/\f 4=vi d.nw:=by rw [hf];simp [Dn]
 rw [<-hf]
 have hSl:(C2 d.po d.ki d.nw 0 d.ns).length<=1000:=by
   rw [AL2];exact Nat.le_trans (List.length_filter_le _ _) hd.l
 have hst:∀ j,(AMH d j).length<=1000:=fun j=>by
   unfold AMH;rw [List.length_map,List.length_take];omega
 have hsucc:∀ j i x,(C2 d.po d.ki d.nw 0 d.ns)[j]?= some (i,x)->AMH d (j+1)=AMH d j++[ALJ d.r x d.t]:=fun j i x h=>by
   unfold AMH;rw [List.take_add_one,h,List.map_append];rfl
 have hmem:∀ j i x,(C2 d.po d.ki d.nw 0 d.ns)[j]?= some (i,x)->OkN x:=fun j i x h=>by
   obtain ⟨_,h2,_⟩:=ALp (List.mem_of_getElem? h);exact hd.n x (List.mem_of_getElem? h2)
 have hrun:=ALv d.ns d.r (by have:=hd.l;omega) d.po d.ki d.nw kKS (fun j=>kXS (AMH d j)) 10485760 9437184 9437185 9437186 9437187 (C2 d.po d.ki d.nw 0 d.ns).length (fun _=>true) (fun j=>kL d f .ready (AMH d j)) (by simp [kKS]) (by simp [kKS]) (by simp [kKS]) (by simp [kKS]) (by simp [kKS]) (by simp [kKS]) (fun i x hx=>by simp only [kXS] at hx;split at hx<;>simp at hx;omega) (fun i _=>AM2 d f .ready _ hfA)
   (fun i _=>⟨f,49,[23,24],ALt,ALu, .ready,by simp [kL],rfl⟩) (fun i _=>by simp [kL]) (fun i _=>by simp [kL]) (fun i _=>by simp [kL]) (fun i _=>by simp [kL]) (Nat.le_refl _) (fun _ _=>rfl) (.inl ⟨rfl,fun _=>rfl⟩)
   (fun j i x hj h=>by
     have:=AO4 d hd f hFF i x (hmem j i x h) (AMH d j) (hst j);rw [<-hsucc j i x h] at this;exact this)
 have e0:AMH d 0=[]:=rfl;have en:AMH d (C2 d.po d.ki d.nw 0 d.ns).length=(C2 d.po d.ki d.nw 0 d.ns).map fun x=>ALJ d.r x.2 d.t:=by unfold AMH;rw [List.take_length]
 have hK0:=AM2 d f .ready [] hfA;have hKn:=AM2 d f .ready (AMH d (C2 d.po d.ki d.nw 0 d.ns).length) hfA;rw [e0] at hrun;rw [AQJ] at hK0 hKn;simp only [AQJ] at hrun;have hlen:=hst (C2 d.po d.ki d.nw 0 d.ns).length
 generalize AMH d (C2 d.po d.ki d.nw 0 d.ns).length=T at hrun hKn en hlen
 refine E3.keepX ((9437184,[.d (cF d.ns d.r)])::(9437185,[vi d.po])::(9437186,[vi d.ki])::(9437187,[vi d.nw])::(0,[.d (cF d.ns d.r)])::(1048576,[vi d.t])::(2097152,[vi 0,vi 0])::(4194304,[kHd []])::kBk []) ((9437184,[.d (cF d.ns d.r)])::(9437185,[vi d.po])::(9437186,[vi d.ki])::(9437187,[vi d.nw])::(0,[.d (cF d.ns d.r)])::(1048576,[vi d.t])::(2097152,[vi 0,vi 0])::(4194304,[kHd T])::kBk T) [9437184,9437185,9437186,9437187,0,1048576,2097152,4194304] [] (kXS T) (.tup []) .ready ⟨hnt'.2,by rw [hnt];simp [AL4]⟩ (g:=128) (caps:=[.lp 9437184 0, .lp 9437185 0, .lp 9437186 0, .lp 9437187 0]) (by simp [f22]) (by rw [hnt];exact hrun) (by rw [hnt];exact hK0) (by rw [hnt];exact hKn) (fun x hx=>by simp only [kXS] at hx;split at hx<;>simp at hx;omega) (by simp) (by simp [kBk,kHd]) (by simp) fun F g1 g2=>?_
 have F0:=g1 (0,[.d (cF d.ns d.r)]) (by simp);have FR:=g1 (2097152,[vi 0,vi 0]) (by simp);have FL:=g1 (4194304,[kHd T]) (by simp);simp [BJ,DS,DR,sg] at F0 FR;obtain ⟨_,f5,f8,f12⟩:=id hFF;obtain ⟨f1,f2,f4⟩:=fa
 generalize C2 d.po d.ki d.nw 0 d.ns=S at en hc ⊢
 by_cases h0:S=[]
 . have hT:T=[]:=by rw [en,h0];rfl
   subst h0;subst hT;simp only [kHd,if_true] at FL;simp [BJ,DS,DR,sg] at FL
   show Ft 0 _ .normal _
   simp [f12,f10,FL,FR,AA];apply RZ;simp [results35,f10,ALd]
 . have hT:¬ T=[]:=by rw [en];simpa using h0
   have F7:=g1 (7,AH spL T) (by simp [kBk,hT]);simp only [kHd,hT,if_false] at FL;have e7:sg [10485760,9437184,9437185,9437186,9437187,0,1048576,2097152,4194304] (10485760+1048576) 7=11534343:=by simp [sg]
   have e7':List.map (BJ (sg [10485760,9437184,9437185,9437186,9437187,0,1048576,2097152,4194304] (10485760+1048576))) (AH spL T)=AH spL T:=by unfold AH;rw [List.map_map,SV]
   simp only [e7,e7'] at F7;simp [BJ,DS,DR,sg] at FL;have hTl:T.length≠0:=fun e=>hT (List.length_eq_zero_iff.1 e)
   have hTi:¬ ((T.length:Int)=0):=by omega
   have ct:=AMq T hT (by omega);have hb:∀ H:Hp,H 11534343=some (AH spL T)->Bor H (.ls 11534343 0 T.length 2) (.d (An T)):=fun H hh=>B0 (f:=spL) AQh (l:=T) hh
   cases hcn:ALs d.r S with
   | none=>
     rw [hcn] at hc;simp only [AL8] at hc
     show Ft 0 _ .normal _
     simp [f12,f5,FL,F0,f1,f2,f4,hT];refine CLa hc ?_;simp [f12,FL];refine CLb (ct) (by simp [hb,F7]) ?_;simp [f10,FR,AA];apply RZ;simp [results35,f10,ALd,h0,hcn,en]
   | some p=>
     rw [hcn] at hc;simp only [AL8] at hc
     show Ft 0 _ .normal _
     simp [f12,f5,FL,F0,f1,f2,f4,hT];refine CLa hc ?_;simp [f10,FR,AA];apply RZ;simp [results35,f10,ALd,h0,hcn]
structure CnD where
 ns:List Nws
 r:Rts
 po:Int
 ki:Int
 nw:Int
structure CnO (d:CnD):Prop where
 r:OkR d.r
 n:∀ x∈d.ns,OkN x
 l:d.ns.length<=1000
def AL5:List Nat:=[11534336,11534337,11534338,11534339,0,1048576,2097152,3145728,4194304,5242880,6291456]
def cKS:List Nat:=[12582912,11534336,11534337,11534338,11534339,0,1048576,2097152,3145728,4194304,5242880,6291456]
def ALP (o:Option (Nat × Nat)):List (Nat × List V):=match o with
 | none=>[(4194304,[vi 0]),(5242880,[vi 0]),(6291456,[vb false])]
 | some p=>[(4194304,[vi p.1]),(5242880,[vi p.2]),(6291456,[vb true])]
def cL (d:CnD) (f:Nat->V) (z:LSt) (o:Option (Nat × Nat)):List (Nat × List V):=(12582912,[.lr f 51 [21,22] Xv ALg z])::(11534336,[.d (cF d.ns d.r)])::(11534337,[vi d.po])::(11534338,[vi d.ki])::(11534339,[vi d.nw])::(0,[.d (cF d.ns d.r)])::(1048576,[vi d.po])::(2097152,[vi d.ki])::(3145728,[vi d.nw])::ALP o
theorem ACf (d:CnD) (f:Nat->V) (z:LSt) (o:Option (Nat × Nat)) (hf:∀ t,AV (·∈AL5) AR (f t)):BT cKS [] (cL d f z o):=by
 have hs:∀ i∈AL5,i∈cKS:=by decide
 cases o with
 | none=>
   refine ⟨by simp [cL,ALP,cKS],by simp [cKS],?_⟩;intro q hq;simp only [cL,ALP,List.mem_cons,List.not_mem_nil,or_false] at hq;rcases hq with rfl | rfl | rfl | rfl | rfl | rfl | rfl | rfl | rfl | rfl | rfl | rfl
   . exact ⟨by simp,Or.inr (.inl ⟨_,_,_,_,_,_,rfl⟩),fun c hc=>by simp at hc;subst hc;exact fun t=>AV.mono hs (fun _ h=>h) (hf t)⟩
   all_goals exact ⟨by simp,Or.inl rfl,fun c hc=>by simp at hc;subst hc;exact rfl⟩
 | some p=>
   refine ⟨by simp [cL,ALP,cKS],by simp [cKS],?_⟩;intro q hq;simp only [cL,ALP,List.mem_cons,List.not_mem_nil,or_false] at hq;rcases hq with rfl | rfl | rfl | rfl | rfl | rfl | rfl | rfl | rfl | rfl | rfl | rfl
   . exact ⟨by simp,Or.inr (.inl ⟨_,_,_,_,_,_,rfl⟩),fun c hc=>by simp at hc;subst hc;exact fun t=>AV.mono hs (fun _ h=>h) (hf t)⟩
   all_goals exact ⟨by simp,Or.inl rfl,fun c hc=>by simp at hc;subst hc;exact rfl⟩
structure CnF (f:Nat->V):Prop where
 av:∀ t,AV (·∈AL5) AR (f t)
 f4:f 4= .lp 0 0
 f5:f 5= .lp 1048576 0
 f6:f 6= .lp 2097152 0
 f7:f 7= .lp 3145728 0
 f8:f 8= .lp 4194304 0
 f9:f 9= .lp 5242880 0
 f10:f 10= .lp 6291456 0
def eKS:List Nat:=[23068672,22020096,22020097,22020098,22020099,11534336,11534337,11534338,11534339,0,1048576,2097152,3145728,4194304,5242880,6291456,13631488,15728640]
def AL6:List Nat:=[22020096,22020097,22020098,22020099,11534336,11534337,11534338,11534339,0,1048576,2097152,3145728,4194304,5242880,6291456,13631488,15728640]
def eL (d:CnD) (f:Nat->V) (i:Nat) (x:Nws) (z:LSt) (o:Option (Nat × Nat)):List (Nat × List V):=(23068672,[.lr f 51 [28,29] ALe ALf z])::(22020096,[.d (cF d.ns d.r)])::(22020097,[vi d.po])::(22020098,[vi d.ki])::(22020099,[vi d.nw])::(11534336,[.d (cF d.ns d.r)])::(11534337,[vi d.po])::(11534338,[vi d.ki])::(11534339,[vi d.nw])::(0,[.d (cF d.ns d.r)])::(1048576,[vi d.po])::(2097152,[vi d.ki])::(3145728,[vi d.nw])::(ALP o++[(13631488,[vi i]),(15728640,[vi x.po,vi x.ki,vi x.se,vi x.ca,vi x.lo,vi x.hi])])
theorem AM4 (d:CnD) (f:Nat->V) (i:Nat) (x:Nws) (z:LSt) (o:Option (Nat × Nat)) (hf:∀ t,AV (·∈AL6) AR (f t)):BT eKS [] (eL d f i x z o):=by
 have hs:∀ i∈AL6,i∈eKS:=by decide
 cases o with
 | none=>
   refine ⟨by simp [eL,ALP,eKS],by simp [eKS],?_⟩;intro q hq;simp only [eL,ALP,List.cons_append,List.nil_append,List.mem_cons,List.not_mem_nil,or_false] at hq;rcases hq with rfl | rfl | rfl | rfl | rfl | rfl | rfl | rfl | rfl | rfl | rfl | rfl | rfl | rfl | rfl | rfl | rfl | rfl
   . exact ⟨by simp,Or.inr (.inl ⟨_,_,_,_,_,_,rfl⟩),fun c hc=>by simp at hc;subst hc;exact fun t=>AV.mono hs (fun _ h=>h) (hf t)⟩
   all_goals exact ⟨by simp,Or.inl rfl,fun c hc=>by simp at hc;first | (subst hc;exact rfl) | (rcases hc with rfl | rfl | rfl | rfl | rfl | rfl<;>exact rfl)⟩
 | some p=>
   refine ⟨by simp [eL,ALP,eKS],by simp [eKS],?_⟩;intro q hq;simp only [eL,ALP,List.cons_append,List.nil_append,List.mem_cons,List.not_mem_nil,or_false] at hq;rcases hq with rfl | rfl | rfl | rfl | rfl | rfl | rfl | rfl | rfl | rfl | rfl | rfl | rfl | rfl | rfl | rfl | rfl | rfl
   . exact ⟨by simp,Or.inr (.inl ⟨_,_,_,_,_,_,rfl⟩),fun c hc=>by simp at hc;subst hc;exact fun t=>AV.mono hs (fun _ h=>h) (hf t)⟩
   all_goals exact ⟨by simp,Or.inl rfl,fun c hc=>by simp at hc;first | (subst hc;exact rfl) | (rcases hc with rfl | rfl | rfl | rfl | rfl | rfl<;>exact rfl)⟩
structure EnF (f:Nat->V):Prop where
 av:∀ t,AV (·∈AL6) AR (f t)
 f4:f 4= .lp 0 0
 f8:f 8= .lp 4194304 0
 f9:f 9= .lp 5242880 0
 f10:f 10= .lp 6291456 0
 f11:f 11= .lp 13631488 0
 f12:f 12= .lp 15728640 0
theorem APC (d:CnD) (hd:CnO d) (f:Nat->V) (hF:EnF f) (i:Nat) (x:Nws) (hx:OkN x) (k:Nat) (y:Nws) (hy:OkN y):Ym prog 23068672 [vi k,nwV y] (lk (eL d f i x .ready none)) eKS (.ret (vb (!AMC d.r (i,x) (k,y)))) (lk (eL d f i x (if AMC d.r (i,x) (k,y) then .done .ret else .ready) (if AMC d.r (i,x) (k,y) then some (i,k) else none))):=by
 obtain ⟨hf,f4,f8,f9,f10,f11,f12⟩:=hF;have hlt:∀ j∈eKS++[],j<24117248:=by decide
 have hsub:∀ i∈AL6,i∈eKS:=by decide
 have hW:∀ z (ρ:Nat->Option Nat),(∀ j∈eKS,ρ j=some j)->WC ρ (.lr f 51 [28,29] ALe ALf z) (.lr f 51 [28,29] ALe ALf z):=fun z ρ hρ=>⟨rfl,fun t=>AV.mono (fun j hj=>hρ j (hsub j hj)) (fun _ h=>h) (hf t)⟩
 have hC:∀ z,Bv [.lr f 51 [28,29] ALe ALf z]:=fun z=>Or.inr (.inl ⟨_,_,_,_,_,_,rfl⟩)
 have hyt:=hy.tm;have cs:=ASE d.ns d.r hd.r x hx y.se (by omega);have ct:=qF (ALJ d.r x y.se).1 (ALJ d.r x y.se).2 y.lo y.hi
 have key:∀ (s:LSt) (o:Option (Nat × Nat)),Rnd prog tys eqs 23068672 f 51 [28,29] ALe ALf [vi k,nwV y] (lk (eL d f i x .ready none)) eKS s (eL d f i x s o) 24117248->Ym prog 23068672 [vi k,nwV y] (lk (eL d f i x .ready none)) eKS (.ret (.d (.lit (.bool (FP s))))) (lk (eL d f i x s o)):=fun s o h=>
   Ym.ofX gok eok mixed 24117248 (AM4 d f i x .ready none hf) (AM4 d f i x s o hf) hlt (by simp [eKS]) (by simp [eL]) (by simp) (by simp) (by simp) h
 have hbe:AMC d.r (i,x) (k,y)=(decide (i<k)&&decide (min (ALJ d.r x y.se).2 y.hi<max (ALJ d.r x y.se).1 y.lo)):=rfl
 generalize ALJ d.r x y.se=s at cs ct hbe
 by_cases h1:i<k
 . by_cases h2:min s.2 y.hi<max s.1 y.lo
   . rw [hbe,decide_eq_true h1,decide_eq_true h2]
     refine key (.done .ret) (some (i,k)) ?_;refine ⟨fun E hE hs=>?_⟩;unfold eL;simp only [ALP,List.cons_append,List.nil_append]
     generalize V.lr f 51 [28,29] ALe ALf=rc at hW hC ⊢
     simp [ALe,BD,AA];simp [ALf,f4,f12,inC,Nat.testBit];refine CLb (cs) (by first | (simp;done) | simp [Bk,CP,inC,Nat.testBit]) ?_;simp [AA,AM,inC,Nat.testBit];refine CLb (ct) (by first | (simp;done) | simp [Bk,inC,Nat.testBit]) ?_;simp [f8,f9,f10,f11,AA,h1,h2];have hW2:=hW (.done .ret) (fun j=>some j) (fun _ _=>rfl);refine ⟨trivial,by simp,fun j=>some j,?_⟩;simp [hW2,hC,eKS]
   . rw [hbe,decide_eq_true h1,decide_eq_false h2]
     refine key .ready none ?_;refine ⟨fun E hE hs=>?_⟩;unfold eL;simp only [ALP,List.cons_append,List.nil_append]
     generalize V.lr f 51 [28,29] ALe ALf=rc at hW hC ⊢
     simp [ALe,BD,AA];simp [ALf,f4,f12,inC,Nat.testBit];refine CLb (cs) (by first | (simp;done) | simp [Bk,CP,inC,Nat.testBit]) ?_;simp [AA,AM,inC,Nat.testBit];refine CLb (ct) (by first | (simp;done) | simp [Bk,inC,Nat.testBit]) ?_;simp [f11,AA,h1,h2];have hW2:=hW .ready (fun j=>some j) (fun _ _=>rfl);refine ⟨trivial,by simp,fun j=>some j,?_⟩;simp [hW2,hC,eKS]
 . rw [hbe,decide_eq_false h1]
   refine key .ready none ?_;refine ⟨fun E hE hs=>?_⟩;unfold eL;simp only [ALP,List.cons_append,List.nil_append]
   generalize V.lr f 51 [28,29] ALe ALf=rc at hW hC ⊢
   simp [ALe,BD,AA];simp [ALf,f4,f12,inC,Nat.testBit];refine CLb (cs) (by first | (simp;done) | simp [Bk,CP,inC,Nat.testBit]) ?_;simp [AA,AM,inC,Nat.testBit];refine CLb (ct) (by first | (simp;done) | simp [Bk,inC,Nat.testBit]) ?_;simp [f11,AA,h1];have hW2:=hW .ready (fun j=>some j) (fun _ _=>rfl);refine ⟨trivial,by simp,fun j=>some j,?_⟩;simp [hW2,hC,eKS]
theorem AQT (d:CnD) (f:Nat->V) (i:Nat) (x:Nws) (z:LSt) (o:Option (Nat × Nat)):eL d f i x z o=(23068672,[.lr f 51 [28,29] ALe ALf z])::((22020096,[.d (cF d.ns d.r)])::(22020097,[vi d.po])::(22020098,[vi d.ki])::(22020099,[vi d.nw])::(11534336,[.d (cF d.ns d.r)])::(11534337,[vi d.po])::(11534338,[vi d.ki])::(11534339,[vi d.nw])::(0,[.d (cF d.ns d.r)])::(1048576,[vi d.po])::(2097152,[vi d.ki])::(3145728,[vi d.nw])::(ALP o++[(13631488,[vi i]),(15728640,[vi x.po,vi x.ki,vi x.se,vi x.ca,vi x.lo,vi x.hi])])):=rfl
def ALo (d:CnD) (i:Nat) (x:Nws):Option (Nat × Nat):=((C2 d.po d.ki d.nw 0 d.ns).find? fun y=>AMC d.r (i,x) y).map fun y=>(i,y.1)
def zOf (o:Option (Nat × Nat)):LSt:=if o.isSome then .done .ret else .ready
theorem AQu (d:CnD) (hd:CnO d) (f:Nat->V) (hF:EnF f) (i:Nat) (x:Nws) (hx:OkN x):Cm prog 128 [.yl 23068672, .lp 22020096 0, .lp 22020097 0, .lp 22020098 0, .lp 22020099 0] (lk (eL d f i x .ready none)) eKS (.ret (.tup [])) (lk (eL d f i x (zOf (ALo d i x)) (ALo d i x))):=by
 have hmem:∀ (j k:Nat) (y:Nws),(C2 d.po d.ki d.nw 0 d.ns)[j]?= some (k,y)->OkN y:=fun j k y h=>by
   obtain ⟨_,h2,_⟩:=ALp (List.mem_of_getElem? h);exact hd.n y (List.mem_of_getElem? h2)
 have hR:=fun (j k:Nat) (y:Nws) (h:(C2 d.po d.ki d.nw 0 d.ns)[j]?= some (k,y))=>APC d hd f hF i x hx k y (hmem j k y h)
 have hK:=fun z o=>AM4 d f i x z o hF.av
 have hl:=hd.l;cases hfd:(C2 d.po d.ki d.nw 0 d.ns).find? fun y=>AMC d.r (i,x) y with
 | none=>
   have e:ALo d i x=none:=by unfold ALo;rw [hfd];rfl
   rw [e];have hno:=List.find?_eq_none.1 hfd
   exact ALv d.ns d.r (by omega) d.po d.ki d.nw eKS (fun _=>[]) 23068672 22020096 22020097 22020098 22020099 (C2 d.po d.ki d.nw 0 d.ns).length (fun _=>true) (fun _=>eL d f i x .ready none) (by simp [eKS]) (by simp [eKS]) (by simp [eKS]) (by simp [eKS]) (by simp [eKS]) (by simp [eKS]) (fun _ _ h=>by cases h) (fun _ _=>hK .ready none)
     (fun _ _=>⟨f,51,[28,29],ALe,ALf, .ready,by simp [eL],rfl⟩) (fun _ _=>by simp [eL]) (fun _ _=>by simp [eL]) (fun _ _=>by simp [eL]) (fun _ _=>by simp [eL]) (Nat.le_refl _) (fun _ _=>rfl) (.inl ⟨rfl,fun _=>rfl⟩)
     (fun j k y _ h=>by
       have h1:=hR j k y h;have h2:AMC d.r (i,x) (k,y)=false:=by simpa using hno _ (List.mem_of_getElem? h)
       rw [h2] at h1;exact h1)
 | some q=>
   obtain ⟨hq,A,B,hAB,hA⟩:=List.find?_eq_some_iff_append.1 hfd;have e:ALo d i x=some (i,q.1):=by unfold ALo;rw [hfd];rfl
   rw [e];have hlt:∀ j:Nat,(C2 d.po d.ki d.nw 0 d.ns)[j]?= (A++q::B)[j]?:= fun j=>by rw [hAB]
   have hSl:(C2 d.po d.ki d.nw 0 d.ns).length=A.length+1+B.length:=by rw [hAB];simp;omega
   have hrun:=ALv d.ns d.r (by omega) d.po d.ki d.nw eKS (fun _=>[]) 23068672 22020096 22020097 22020098 22020099 (A.length+1) (fun j=>decide (j≠A.length)) (fun j=>if j<=A.length then eL d f i x .ready none else eL d f i x (.done .ret) (some (i,q.1))) (by simp [eKS]) (by simp [eKS]) (by simp [eKS]) (by simp [eKS]) (by simp [eKS]) (by simp [eKS]) (fun _ _ h=>by cases h) (fun j _=>by split;exact hK .ready none;exact hK _ _)
     (fun j _=>by split;exact ⟨f,51,[28,29],ALe,ALf, .ready,by simp [eL],rfl⟩;exact ⟨f,51,[28,29],ALe,ALf, .done .ret,by simp [eL],rfl⟩) (fun j _=>by split<;>simp [eL]) (fun j _=>by split<;>simp [eL]) (fun j _=>by split<;>simp [eL]) (fun j _=>by split<;>simp [eL]) (by omega) (fun j hj=>by simp;omega) (.inr ⟨by omega,by simp⟩)
     (fun j k y hj h=>by
       have h1:=hR j k y h;rw [hlt] at h;by_cases hjA:j=A.length
       . rw [hjA,List.getElem?_append_right (Nat.le_refl _),Nat.sub_self] at h
         simp at h;subst h;rw [hq] at h1;rw [if_pos (by omega),if_neg (by omega)];simp only [hjA,ne_eq,not_true_eq_false,decide_false];exact h1
       . rw [List.getElem?_append_left (by omega)] at h
         have h2:AMC d.r (i,x) (k,y)=false:=by simpa using hA _ (List.mem_of_getElem? h)
         rw [h2] at h1;rw [if_pos (by omega),if_pos (by omega),decide_eq_true hjA];exact h1)
   rw [if_pos (Nat.zero_le _),if_neg (by omega)] at hrun;exact hrun
theorem APD (d:CnD) (hd:CnO d) (f:Nat->V) (hF:CnF f) (i:Nat) (x:Nws) (hx:OkN x):Ym prog 12582912 [vi i,nwV x] (lk (cL d f .ready none)) cKS (.ret (vb (ALo d i x).isNone)) (lk (cL d f (zOf (ALo d i x)) (ALo d i x))):=by
 obtain ⟨hf,f4,f5,f6,f7,f8,f9,f10⟩:=hF;have hlt:∀ j∈cKS++[],j<13631488:=by decide
 have c1:=AQg (cF d.ns d.r) d.po d.ki d.nw
 have hgo:(ALo d i x).isNone=FP (zOf (ALo d i x)):=by
   unfold zOf;cases ALo d i x<;>rfl
 rw [hgo];refine Ym.ofXN (k:=12582912) (fr:=f) (nt:=51) (ps:=[21,22]) (pa:=Xv) (pb:=ALg) (args:=[vi i,nwV x]) (s:=zOf (ALo d i x)) gok eok mixed 13631488 (ACf d f .ready none hf) (ACf d f _ _ hf) hlt (by simp [cKS]) (by simp [cL]) (by simp) (by simp) (by simp) ?_;refine ⟨fun E hE hs hrd=>?_⟩;unfold cL;simp only [show ALP none=[(4194304,[vi 0]),(5242880,[vi 0]),(6291456,[vb false])] from rfl];have hrcb:∃ g nt ps pa pb,∀ z,V.lr f 51 [21,22] Xv ALg z=V.lr g nt ps pa pb z:=⟨f,_,_,_,_,fun _=>rfl⟩
 have hsub:∀ i∈AL5,i∈cKS:=by decide
 have hW:∀ z (ρ:Nat->Option Nat),(∀ j∈cKS,ρ j=some j)->WC ρ (.lr f 51 [21,22] Xv ALg z) (.lr f 51 [21,22] Xv ALg z):=fun z ρ hρ=>⟨rfl,fun t=>AV.mono (fun j hj=>hρ j (hsub j hj)) (fun _ h=>h) (hf t)⟩
 have hC:∀ z,Bv [.lr f 51 [21,22] Xv ALg z]:=fun z=>Or.inr (.inl ⟨_,_,_,_,_,_,rfl⟩)
 generalize hrc:V.lr f 51 [21,22] Xv ALg=rc at hW hC ⊢
 simp [Xv,BD,AA];simp [ALg,f4,f5,f6,f7];refine CLa c1 ?_;simp;rw [<-JI (Γ:=tys) (eqs:=eqs)];obtain ⟨f2,hf2⟩:∃ f2,f2=upd (upd (upd (upd (upd (upd (upd (upd (upd f 21 (vi i)) 22 (nwV x)) 11 (V.lp 13631488 0)) 12 (V.lp 15728640 0)) 23 (V.d (cF d.ns d.r))) 24 (vi d.po)) 25 (vi d.ki)) 26 (vi d.nw)) 27 (V.cl 128 [V.lp 22020096 0,V.lp 22020097 0,V.lp 22020098 0,V.lp 22020099 0]):=⟨_,rfl⟩
 have hfA:∀ t,AV (·∈AL6) AR (f2 t):=fun t=>by
   rw [hf2];simp only [AY];split
   . intro c hc
     simp only [List.mem_cons,List.not_mem_nil,or_false] at hc;rcases hc with rfl | rfl | rfl | rfl
     . exact (by simp [AL6]:(22020096:Nat)∈AL6)
     . exact (by simp [AL6]:(22020097:Nat)∈AL6)
     . exact (by simp [AL6]:(22020098:Nat)∈AL6)
     . exact (by simp [AL6]:(22020099:Nat)∈AL6)
   repeat (split;· first | exact trivial | (show (_:Nat)∈AL6;simp [AL6]) | (intro c hc;simp at hc;rcases hc with rfl | rfl | rfl | rfl | rfl | rfl<;>exact trivial))
   exact AV.mono (by decide:∀ i∈AL5,i∈AL6) (fun _ h=>h) (hf t)
 have hFF:EnF f2:=⟨hfA,by rw [hf2];simp [f4],by rw [hf2];simp [f8],by rw [hf2];simp [f9],by rw [hf2];simp [f10],by rw [hf2];simp,by rw [hf2];simp⟩
 have f27:f2 27= .cl 128 [.lp 22020096 0, .lp 22020097 0, .lp 22020098 0, .lp 22020099 0]:=by rw [hf2];simp
 rw [<-hf2];have hrun:=AQu d hd f2 hFF i x hx;have hK0:=AM4 d f2 i x .ready none hfA;have hKn:=AM4 d f2 i x (zOf (ALo d i x)) (ALo d i x) hfA;rw [AQT] at hK0 hKn;simp only [AQT] at hrun
 generalize ALo d i x=o at hrun hKn ⊢
 have hbusy:rc .busy= .lr f 51 [21,22] Xv ALg .busy:=by rw [<-hrc]
 refine E3.keepXN ((22020096,[.d (cF d.ns d.r)])::(22020097,[vi d.po])::(22020098,[vi d.ki])::(22020099,[vi d.nw])::(11534336,[.d (cF d.ns d.r)])::(11534337,[vi d.po])::(11534338,[vi d.ki])::(11534339,[vi d.nw])::(0,[.d (cF d.ns d.r)])::(1048576,[vi d.po])::(2097152,[vi d.ki])::(3145728,[vi d.nw])::(ALP none++[(13631488,[vi i]),(15728640,[vi x.po,vi x.ki,vi x.se,vi x.ca,vi x.lo,vi x.hi])])) ((22020096,[.d (cF d.ns d.r)])::(22020097,[vi d.po])::(22020098,[vi d.ki])::(22020099,[vi d.nw])::(11534336,[.d (cF d.ns d.r)])::(11534337,[vi d.po])::(11534338,[vi d.ki])::(11534339,[vi d.nw])::(0,[.d (cF d.ns d.r)])::(1048576,[vi d.po])::(2097152,[vi d.ki])::(3145728,[vi d.nw])::(ALP o++[(13631488,[vi i]),(15728640,[vi x.po,vi x.ki,vi x.se,vi x.ca,vi x.lo,vi x.hi])])) [22020096,22020097,22020098,22020099,11534336,11534337,11534338,11534339,0,1048576,2097152,3145728,4194304,5242880,6291456,13631488,15728640] [] [] (.tup []) (zOf o) ⟨.inr ⟨12582912,f,51,[21,22],Xv,ALg, .busy,hrd,(hs 12582912).2 (by simp [cKS]),by simp [hbusy]⟩,by rw [hE];simp [AL4]⟩ (g:=128) (caps:=[.lp 22020096 0, .lp 22020097 0, .lp 22020098 0, .lp 22020099 0]) (by simp [f27]) (by rw [hE];exact hrun) (by rw [hE];exact hK0) (by rw [hE];exact hKn) (fun x hx=>by cases hx) (by simp) (by simp [ALP]) (by simp) fun F g1 g2=>?_
 have FR:=g2 12582912 (by simp) (by simp);simp at FR;have G0:=g1 (11534336,[.d (cF d.ns d.r)]) (by simp);have G1:=g1 (11534337,[vi d.po]) (by simp);have G2:=g1 (11534338,[vi d.ki]) (by simp);have G3:=g1 (11534339,[vi d.nw]) (by simp);have G4:=g1 (0,[.d (cF d.ns d.r)]) (by simp);have G5:=g1 (1048576,[vi d.po]) (by simp);have G6:=g1 (2097152,[vi d.ki]) (by simp);have G7:=g1 (3145728,[vi d.nw]) (by simp);simp [BJ,DS,DR,sg] at G0 G1 G2 G3 G4 G5 G6 G7;cases o with
 | none=>
   have K1:=g1 (4194304,[vi 0]) (by simp [ALP]);have K2:=g1 (5242880,[vi 0]) (by simp [ALP]);have K3:=g1 (6291456,[vb false]) (by simp [ALP]);simp [BJ,DS,DR,sg] at K1 K2 K3;have hW2:=hW (zOf none) (fun j=>some j) (fun _ _=>rfl)
   show Ft 2 _ .normal _
   simp [ALP];refine ⟨trivial,by simp [FR],fun j=>some j,?_⟩;simp [hW2,hC,cKS,G0,G1,G2,G3,G4,G5,G6,G7,K1,K2,K3]
 | some p=>
   have K1:=g1 (4194304,[vi p.1]) (by simp [ALP]);have K2:=g1 (5242880,[vi p.2]) (by simp [ALP]);have K3:=g1 (6291456,[vb true]) (by simp [ALP]);simp [BJ,DS,DR,sg] at K1 K2 K3;have hW2:=hW (zOf (some p)) (fun j=>some j) (fun _ _=>rfl)
   show Ft 2 _ .ret _
   simp [ALP];refine ⟨trivial,by simp [FR],fun j=>some j,?_⟩;simp [hW2,hC,cKS,G0,G1,G2,G3,G4,G5,G6,G7,K1,K2,K3]
end Go.Proofs.Tryz
