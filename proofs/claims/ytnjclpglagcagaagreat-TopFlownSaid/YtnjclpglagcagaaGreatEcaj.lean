/- Own lemmas, used by the last text. Conditions: those that each theorem states. -/
import Derived.Test.YtnjclpglagcagaaGreatEcae
import Derived.Test.YtnjclpglagcagaaGreatEcaf
import Derived.Test.YtnjclpglagcagaaGreatEcag
import Derived.Test.YtnjclpglagcagaaGreatEcah
import Derived.Test.YtnjclpglagcagaaGreatEcai
set_option maxRecDepth 200000
set_option maxHeartbeats 8000000
namespace Go.Proofs.Tryz
open Go.Psl
open Go.Air
structure Rig where
 reg:List (Int × Int)
 gl:Int
 gh:Int
 tank:Int
 rsv:Int
 lo:Int
 hi:Int
abbrev Fj (r:Rig):V:= .agg [.d (An r.reg),vi r.gl,vi r.gh,vi r.tank,vi r.rsv,vi r.lo,vi r.hi]
structure Leg where
 m:Int
 axl:Int
 axh:Int
 ayl:Int
 ayh:Int
 ul:Int
 uh:Int
 bl:Int
 bh:Int
 dr:Int
 acts:List Act
abbrev Pi (l:Leg):List D:=[di l.m,di l.axl,di l.axh,di l.ayl,di l.ayh,di l.ul,di l.uh,di l.bl,di l.bh,di l.dr,JZ l.acts]
abbrev AKx (l:Leg):V:= .agg [vi l.m,vi l.axl,vi l.axh,vi l.ayl,vi l.ayh,vi l.ul,vi l.uh,vi l.bl,vi l.bh,vi l.dr, .d (JZ l.acts)]
abbrev Bs (l:List Leg):D:= .sl 11 (l.map Pi)
def CF (r:Rig):Bool:=spB 0 120 r.gl r.gh&&rgB 0 1000000000 [r.tank,r.rsv]&&spB (-500) 9000 r.lo r.hi&&C7 r.reg
def Cb (a:Act):Bool:=decide (a.k=3)||decide (a.k=4)
def BE (l:Leg):Bool:=rgB 1 600 [l.m]&&(spB (-1000) 1000 l.axl l.axh&&spB (-1000) 1000 l.ayl l.ayh)&&spB (-300) 300 l.ul l.uh&&spB 0 1000000 l.bl l.bh&&rgB 0 1000000000 [l.dr]&&decide (l.acts.length<=12)&&l.acts.all Cb
def Cv (l:List Leg):Int:=(l.map (·.m)).sum
def C0 (l:List Leg):Int:=if 20<l.length then 4 else if l.all BE then (if 600<Cv l then 4 else 0) else 53
theorem AL0 {l:Leg} (h:BE l=true):1<=l.m/\l.m<=600:=by
 unfold BE at h;simp only [Bool.and_eq_true] at h;have:=h.1.1.1.1.1.1;simpa [rgB] using this
theorem MU {l:List Leg} {i:Nat} {x:Leg} (h:l[i]?= some x):Cv (l.take (i+1))=Cv (l.take i)+x.m:=by
 unfold Cv;rw [List.take_add_one,h];simp
theorem KA:∀ {l:List Leg},(∀ x∈l,BE x=true)->0<=Cv l/\Cv l<=l.length*600
 | [],_=>by simp [Cv]
 | c::l,h=>by
   have h1:=AL0 (h c (by simp));have h2:=KA (l:=l) fun x hx=>h x (by simp [hx])
   unfold Cv at h2 ⊢;simp only [List.map_cons,List.sum_cons,List.length_cons];omega
theorem qs (a:Act):Ct prog 117 [BZ a] (vb (Cb a)) []:=by
 by_cases h3:a.k=3
 . have e:Cb a=true:=by unfold Cb;simp [h3]
   refine CB func117 AQw fun E hE=>?_
   simp [p117,h3];apply RZ;simp [results117,e]
 . by_cases h4:a.k=4
   . have e:Cb a=true:=by unfold Cb;simp [h4]
     refine CB func117 AQw fun E hE=>?_
     simp [p117,h4];apply RZ;simp [results117,e]
   . have e:Cb a=false:=by unfold Cb;simp [h3,h4]
     refine CB func117 AQw fun E hE=>?_
     simp [p117,h3,h4];apply RZ;simp [results117,e]
theorem ir (l:List Act) (g:FuncId) (ds:List D) (q:Act->Bool) (hl:l.length<=1000000000) (hg:∀ p∈l,Ct prog g (BZ p::ds.map .d) (vb (q p)) []):Ct prog 116 [.d (JZ l), .d (.fn g ds)] (vb (l.all q)) []:=by
 refine CB func116 c116 fun E hE=>?_
 simp [p116];refine Al (α:=Nat) (fun i=>⟨AO [(1, .d (.fn g ds)),(7, .d (JZ l)),(8,vi l.length),(9,vi i)],lk [],0⟩) (fun i=>i<=l.length/\∀ j,j<i->(l[j]?).all q=true) (fun i=>l.length-i) 0 ?_ ?_ ?_
 . exact ⟨by omega,fun j hj=>by omega⟩
 . exact WK hE (lk [])
 . rintro i ⟨hi,hg3⟩
   have hz:=@wz i (by omega);by_cases h:i<l.length
   . have hI:(i:Int)<l.length:=by omega
     obtain ⟨p,hp⟩:=gE h;simp [ANj,hI,hp,AA];refine CLa (hg p (List.mem_of_getElem? hp)) ?_;cases hq:q p
     . have e:l.all q=false:=by rw [List.all_eq_false];exact ⟨p,List.mem_of_getElem? hp,by simp [hq]⟩
       simp;apply RZ;simp [results116,e]
     . simp [hz]
       refine ⟨i+1,⟨by omega,fun j hj=>?_⟩,by omega,?_⟩
       . by_cases e:j=i
         . subst e;rw [hp];simp [hq]
         . exact hg3 j (by omega)
       . exact WK hE (lk [])
   . have hI:¬ (i:Int)<l.length:=by omega
     have e:l.all q=true:=by
       rw [List.all_eq_true];intro x hx;obtain ⟨j,hj⟩:=List.getElem?_of_mem hx;have:=hg3 j (by have:=(List.getElem?_eq_some_iff.1 hj).1;omega);rw [hj] at this;simpa using this
     simp [ANj,hI];apply RZ;simp [results116,e]
theorem fn67 (l:Leg) (hl:l.acts.length<=1000000000):Ct prog 67 [AKx l] (vi (if BE l then 0 else 53)) []:=by
 have c1:=mM 1 600 [l.m] (by simp);have c2:=oz (-1000) 1000 [(l.axl,l.axh),(l.ayl,l.ayh)] (by simp);have c3:=oz (-300) 300 [(l.ul,l.uh)] (by simp);have c4:=oz 0 1000000 [(l.bl,l.bh)] (by simp);have c5:=mM 0 1000000000 [l.dr] (by simp);have c6:=ir l.acts 117 [] Cb hl fun a _=>qs a
 simp only [List.all_cons,List.all_nil,Bool.and_true] at c1 c2 c3 c4;have e:BE l=(rgB 1 600 [l.m]&&(spB (-1000) 1000 l.axl l.axh&&spB (-1000) 1000 l.ayl l.ayh)&&spB (-300) 300 l.ul l.uh&&spB 0 1000000 l.bl l.bh&&rgB 0 1000000000 [l.dr]&&decide (l.acts.length<=12)&&l.acts.all Cb):=rfl
 generalize rgB 1 600 [l.m]=b1 at*
 generalize (spB (-1000) 1000 l.axl l.axh&&spB (-1000) 1000 l.ayl l.ayh)=b2 at*
 generalize spB (-300) 300 l.ul l.uh=b3 at*
 generalize spB 0 1000000 l.bl l.bh=b4 at*
 generalize rgB 0 1000000000 [l.dr]=b5 at*
 generalize l.acts.all Cb=b6 at*
 rw [e];by_cases hm:l.acts.length<=12
 . have hn:¬ (12:Int)<l.acts.length:=by omega
   cases b1
   . refine CB func67 c67 fun E hE=>?_
     simp [p67,AA,AM]
     repeat ((first | (refine CLt c1 ?_ ?_;focus (simp [AG];done)) | (refine CLt c2 ?_ ?_;focus (simp [AG,AN,AQ];done)) | (refine CLt c3 ?_ ?_;focus (simp [AG,AN,AQ];done)) | (refine CLt c4 ?_ ?_;focus (simp [AG,AN,AQ];done)) | (refine CLt c5 ?_ ?_;focus (simp [AG,AN,AQ];done)) | (refine CLt c6 ?_ ?_;focus (simp [AG,AN,AQ];done)));simp)
     apply RZ;simp [results67]
   cases b2
   . refine CB func67 c67 fun E hE=>?_
     simp [p67,AA,AM]
     repeat ((first | (refine CLt c1 ?_ ?_;focus (simp [AG];done)) | (refine CLt c2 ?_ ?_;focus (simp [AQ];done)) | (refine CLt c3 ?_ ?_;focus (simp [AG,AN,AQ];done)) | (refine CLt c4 ?_ ?_;focus (simp [AG,AN,AQ];done)) | (refine CLt c5 ?_ ?_;focus (simp [AG,AN,AQ];done)) | (refine CLt c6 ?_ ?_;focus (simp [AG,AN,AQ];done)));simp [AA,AM])
     apply RZ;simp [results67]
   cases b3
   . refine CB func67 c67 fun E hE=>?_
     simp [p67,AA,AM]
     repeat ((first | (refine CLt c1 ?_ ?_;focus (simp [AG];done)) | (refine CLt c2 ?_ ?_;focus (simp [AQ];done)) | (refine CLt c3 ?_ ?_;focus (simp [AN];done)) | (refine CLt c4 ?_ ?_;focus (simp [AG,AN,AQ];done)) | (refine CLt c5 ?_ ?_;focus (simp [AG,AN,AQ];done)) | (refine CLt c6 ?_ ?_;focus (simp [AG,AN,AQ];done)));simp [AA,AM])
     apply RZ;simp [results67]
   cases b4
   . refine CB func67 c67 fun E hE=>?_
     simp [p67,AA,AM]
     repeat ((first | (refine CLt c1 ?_ ?_;focus (simp [AG];done)) | (refine CLt c2 ?_ ?_;focus (simp [AQ];done)) | (refine CLt c3 ?_ ?_;focus (simp [AN];done)) | (refine CLt c4 ?_ ?_;focus (simp [AN];done)) | (refine CLt c5 ?_ ?_;focus (simp [AG,AN,AQ];done)) | (refine CLt c6 ?_ ?_;focus (simp [AG,AN,AQ];done)));simp [AA,AM])
     apply RZ;simp [results67]
   cases b5
   . refine CB func67 c67 fun E hE=>?_
     simp [p67,AA,AM]
     repeat ((first | (refine CLt c1 ?_ ?_;focus (simp [AG];done)) | (refine CLt c2 ?_ ?_;focus (simp [AQ];done)) | (refine CLt c3 ?_ ?_;focus (simp [AN];done)) | (refine CLt c4 ?_ ?_;focus (simp [AN];done)) | (refine CLt c5 ?_ ?_;focus (simp [AG];done)) | (refine CLt c6 ?_ ?_;focus (simp [AG,AN,AQ];done)));simp [AA,AM])
     apply RZ;simp [results67]
   cases b6
   . refine CB func67 c67 fun E hE=>?_
     simp [p67,AA,AM]
     repeat ((first | (refine CLt c1 ?_ ?_;focus (simp [AG];done)) | (refine CLt c2 ?_ ?_;focus (simp [AQ];done)) | (refine CLt c3 ?_ ?_;focus (simp [AN];done)) | (refine CLt c4 ?_ ?_;focus (simp [AN];done)) | (refine CLt c5 ?_ ?_;focus (simp [AG];done)) | (refine CLt c6 ?_ ?_;focus (simp;done)));simp [AA,AM,hn])
     apply RZ;simp [results67]
   . refine CB func67 c67 fun E hE=>?_
     simp [p67,AA,AM]
     repeat ((first | (refine CLt c1 ?_ ?_;focus (simp [AG];done)) | (refine CLt c2 ?_ ?_;focus (simp [AQ];done)) | (refine CLt c3 ?_ ?_;focus (simp [AN];done)) | (refine CLt c4 ?_ ?_;focus (simp [AN];done)) | (refine CLt c5 ?_ ?_;focus (simp [AG];done)) | (refine CLt c6 ?_ ?_;focus (simp;done)));simp [AA,AM,hn])
     apply RZ;simp [results67,hm]
 . have hn:(12:Int)<l.acts.length:=by omega
   cases b1
   . refine CB func67 c67 fun E hE=>?_
     simp [p67,AA,AM]
     repeat ((first | (refine CLt c1 ?_ ?_;focus (simp [AG];done)) | (refine CLt c2 ?_ ?_;focus (simp [AG,AN,AQ];done)) | (refine CLt c3 ?_ ?_;focus (simp [AG,AN,AQ];done)) | (refine CLt c4 ?_ ?_;focus (simp [AG,AN,AQ];done)) | (refine CLt c5 ?_ ?_;focus (simp [AG,AN,AQ];done)) | (refine CLt c6 ?_ ?_;focus (simp [AG,AN,AQ];done)));simp)
     apply RZ;simp [results67]
   cases b2
   . refine CB func67 c67 fun E hE=>?_
     simp [p67,AA,AM]
     repeat ((first | (refine CLt c1 ?_ ?_;focus (simp [AG];done)) | (refine CLt c2 ?_ ?_;focus (simp [AQ];done)) | (refine CLt c3 ?_ ?_;focus (simp [AG,AN,AQ];done)) | (refine CLt c4 ?_ ?_;focus (simp [AG,AN,AQ];done)) | (refine CLt c5 ?_ ?_;focus (simp [AG,AN,AQ];done)) | (refine CLt c6 ?_ ?_;focus (simp [AG,AN,AQ];done)));simp [AA,AM])
     apply RZ;simp [results67]
   cases b3
   . refine CB func67 c67 fun E hE=>?_
     simp [p67,AA,AM]
     repeat ((first | (refine CLt c1 ?_ ?_;focus (simp [AG];done)) | (refine CLt c2 ?_ ?_;focus (simp [AQ];done)) | (refine CLt c3 ?_ ?_;focus (simp [AN];done)) | (refine CLt c4 ?_ ?_;focus (simp [AG,AN,AQ];done)) | (refine CLt c5 ?_ ?_;focus (simp [AG,AN,AQ];done)) | (refine CLt c6 ?_ ?_;focus (simp [AG,AN,AQ];done)));simp [AA,AM])
     apply RZ;simp [results67]
   cases b4
   . refine CB func67 c67 fun E hE=>?_
     simp [p67,AA,AM]
     repeat ((first | (refine CLt c1 ?_ ?_;focus (simp [AG];done)) | (refine CLt c2 ?_ ?_;focus (simp [AQ];done)) | (refine CLt c3 ?_ ?_;focus (simp [AN];done)) | (refine CLt c4 ?_ ?_;focus (simp [AN];done)) | (refine CLt c5 ?_ ?_;focus (simp [AG,AN,AQ];done)) | (refine CLt c6 ?_ ?_;focus (simp [AG,AN,AQ];done)));simp [AA,AM])
     apply RZ;simp [results67]
   cases b5
   . refine CB func67 c67 fun E hE=>?_
     simp [p67,AA,AM]
     repeat ((first | (refine CLt c1 ?_ ?_;focus (simp [AG];done)) | (refine CLt c2 ?_ ?_;focus (simp [AQ];done)) | (refine CLt c3 ?_ ?_;focus (simp [AN];done)) | (refine CLt c4 ?_ ?_;focus (simp [AN];done)) | (refine CLt c5 ?_ ?_;focus (simp [AG];done)) | (refine CLt c6 ?_ ?_;focus (simp [AG,AN,AQ];done)));simp [AA,AM])
     apply RZ;simp [results67]
   . refine CB func67 c67 fun E hE=>?_
     simp [p67,AA,AM]
     repeat ((first | (refine CLt c1 ?_ ?_;focus (simp [AG];done)) | (refine CLt c2 ?_ ?_;focus (simp [AQ];done)) | (refine CLt c3 ?_ ?_;focus (simp [AN];done)) | (refine CLt c4 ?_ ?_;focus (simp [AN];done)) | (refine CLt c5 ?_ ?_;focus (simp [AG];done)) | (refine CLt c6 ?_ ?_;focus (simp [AG,AN,AQ];done)));simp [AA,AM,hn])
     apply RZ;simp [results67,hm]
theorem fn39 (l:List Leg) (h:l.length<=1000000) (ha:∀ x∈l,x.acts.length<=1000000):Ct prog 39 [.d (Bs l)] (vi (C0 l)) []:=by
 refine CB func39 c39 fun E hE=>?_
 by_cases hm:20<l.length
 . have hm':(20:Int)<l.length:=by omega
   have e:C0 l=4:=by unfold C0;rw [if_pos hm]
   simp [p39,hm'];apply RZ;simp [results39,e]
 have hm':¬ (20:Int)<l.length:=by omega
 simp [p39,hm'];refine Al (α:=Nat) (fun i=>⟨AO [(3,vi (600-Cv (l.take i))),(10, .d (Bs l)),(11,vi l.length),(12,vi i)],lk [],0⟩) (fun i=>i<=l.length/\∀ j,j<i->(l[j]?).all BE=true) (fun i=>l.length-i) 0 ?_ ?_ ?_
 . exact ⟨by omega,fun j hj=>by omega⟩
 . refine AI.mk hE (lk []) _ _ _ ?_ ?_ ?_ ?_ ?_<;>simp [Cv]
 . rintro i ⟨hi,hg⟩
   have hz:=@wz i (by omega)
   have hok:∀ x∈l.take i,BE x=true:=fun x hx=>by
     obtain ⟨j,hj⟩:=List.getElem?_of_mem hx;have hji:j<i:=by have:=(List.getElem?_eq_some_iff.1 hj).1;simp at this;omega
     rw [List.getElem?_take,if_pos hji] at hj;have:=hg j hji;rw [hj] at this;simpa using this
   have hs:=KA hok;rw [List.length_take,Nat.min_eq_left hi] at hs;by_cases h:i<l.length
   . have hI:(i:Int)<l.length:=by omega
     obtain ⟨p,hp⟩:=gE h;have hnx:=MU hp;have c:=fn67 p (by have:=ha p (List.mem_of_getElem? hp);omega);cases hq:BE p
     . have e:C0 l=53:=by
         have:l.all BE=false:=by rw [List.all_eq_false];exact ⟨p,List.mem_of_getElem? hp,by simp [hq]⟩
         unfold C0;rw [if_neg hm,this];simp
       rw [hq] at c;simp [PR,hI,hp,AA];refine CLa c ?_;simp;apply RZ;simp [results39,e]
     . have hpm:=AL0 hq
       have hw:IntKind.wrap .i64 (600-Cv (l.take i)-p.m)=600-Cv (l.take (i+1)):=by rw [AD (by omega) (by omega)];omega
       rw [hq] at c;simp [PR,hI,hp,AA];refine CLa c ?_;simp [hw,hz];refine ⟨i+1,⟨by omega,fun j hj=>?_⟩,by omega,?_⟩
       . by_cases e:j=i
         . subst e;rw [hp];simp [hq]
         . exact hg j (by omega)
       . exact WK hE (lk [])
   . have hI:¬ (i:Int)<l.length:=by omega
     have ei:i=l.length:=by omega
     have hall:l.all BE=true:=by
       rw [List.all_eq_true];intro x hx;rw [ei,List.take_length] at hok;exact hok x hx
     have ht:Cv (l.take i)=Cv l:=by rw [ei,List.take_length]
     rw [ht];by_cases hb:600<Cv l
     . have e:C0 l=4:=by unfold C0;rw [if_neg hm,hall];simp [hb]
       have hb':600-Cv l<0:=by omega
       simp [PR,hI,hb'];apply RZ;simp [results39,e]
     . have e:C0 l=0:=by unfold C0;rw [if_neg hm,hall];simp [hb]
       have hb':¬ 600-Cv l<0:=by omega
       simp [PR,hI,hb'];apply RZ;simp [results39,e]
theorem AEE (hS:SortOk) (r:Rig) (hr:r.reg.length<=1000000000):Ct prog 87 [Fj r] (vi (if CF r then 0 else 51)) []:=by
 have c1:=oz 0 120 [(r.gl,r.gh)] (by simp);have c2:=mM 0 1000000000 [r.tank,r.rsv] (by simp);have c3:=oz (-500) 9000 [(r.lo,r.hi)] (by simp);have c4:=qu hS r.reg hr;simp only [List.all_cons,List.all_nil,Bool.and_true] at c1 c2 c3;have e:CF r=(spB 0 120 r.gl r.gh&&rgB 0 1000000000 [r.tank,r.rsv]&&spB (-500) 9000 r.lo r.hi&&C7 r.reg):=rfl
 generalize spB 0 120 r.gl r.gh=b1 at*
 generalize rgB 0 1000000000 [r.tank,r.rsv]=b2 at*
 generalize spB (-500) 9000 r.lo r.hi=b3 at*
 generalize C7 r.reg=b4 at*
 rw [e];cases b1
 . refine CB func87 c87 fun E hE=>?_
   simp [p87,AA,AM]
   repeat ((first | (refine CLt c1 ?_ ?_;focus (simp [AN];done)) | (refine CLt c2 ?_ ?_;focus (simp [Ap,AN];done)) | (refine CLt c3 ?_ ?_;focus (simp [Ap,AN];done)) | (refine CLt c4 ?_ ?_;focus (simp [Ap,AN];done)));simp)
   apply RZ;simp [results87]
 cases b2
 . refine CB func87 c87 fun E hE=>?_
   simp [p87,AA,AM]
   repeat ((first | (refine CLt c1 ?_ ?_;focus (simp [AN];done)) | (refine CLt c2 ?_ ?_;focus (simp [Ap];done)) | (refine CLt c3 ?_ ?_;focus (simp [Ap,AN];done)) | (refine CLt c4 ?_ ?_;focus (simp [Ap,AN];done)));simp [AA,AM])
   apply RZ;simp [results87]
 cases b3
 . refine CB func87 c87 fun E hE=>?_
   simp [p87,AA,AM]
   repeat ((first | (refine CLt c1 ?_ ?_;focus (simp [AN];done)) | (refine CLt c2 ?_ ?_;focus (simp [Ap];done)) | (refine CLt c3 ?_ ?_;focus (simp [AN];done)) | (refine CLt c4 ?_ ?_;focus (simp [Ap,AN];done)));simp [AA,AM])
   apply RZ;simp [results87]
 cases b4
 . refine CB func87 c87 fun E hE=>?_
   simp [p87,AA,AM]
   repeat ((first | (refine CLt c1 ?_ ?_;focus (simp [AN];done)) | (refine CLt c2 ?_ ?_;focus (simp [Ap];done)) | (refine CLt c3 ?_ ?_;focus (simp [AN];done)) | (refine CLt c4 ?_ ?_;focus (simp;done)));simp [AA,AM])
   apply RZ;simp [results87]
 . refine CB func87 c87 fun E hE=>?_
   simp [p87,AA,AM]
   repeat ((first | (refine CLt c1 ?_ ?_;focus (simp [AN];done)) | (refine CLt c2 ?_ ?_;focus (simp [Ap];done)) | (refine CLt c3 ?_ ?_;focus (simp [AN];done)) | (refine CLt c4 ?_ ?_;focus (simp;done)));simp [AA,AM])
   apply RZ;simp [results87]
end Go.Proofs.Tryz
namespace Go.Psl
variable {P:Program} {Γ:Tys} {eqs:Eqs} {E:Ent}
def rid (ks:List Nat) (i:Nat):Option Nat:=if i∈ks then some i else none
structure A4 (ks:List Nat) (L:List (Nat × List V)):Prop where
 names:L.map (·.1)=ks
 nd:ks.Nodup
 cells:∀ p∈L,p.2≠[]/\Bv p.2/\∀ c∈p.2,WC (rid ks) c c
theorem Cr {ks:List Nat} {i:Nat} (h:i∈ks):rid ks i=some i:=by simp [rid,h]
theorem AF8:∀ {L:List (Nat × List V)},(L.map (·.1)).Nodup->∀ p∈L,lk L p.1=some p.2
 | [],_,p,hp=>by simp at hp
 | q::r,hn,p,hp=>by
   simp only [List.map_cons,List.nodup_cons] at hn;simp only [lk];rcases List.mem_cons.1 hp with rfl | hp
   . simp
   . have:p.1≠q.1:=fun e=>hn.1 (e ▸ List.mem_map.2 ⟨p,hp,rfl⟩)
     rw [if_neg this];exact AF8 hn.2 p hp
section
variable {ks:List Nat} {L L1:List (Nat × List V)}
theorem A4.lk (h:A4 ks L) {p:Nat × List V} (hp:p∈L):Go.Psl.lk L p.1=some p.2:=AF8 (by rw [h.names];exact h.nd) p hp
theorem A4.mem (h:A4 ks L) {p:Nat × List V} (hp:p∈L):p.1∈ks:=by rw [<-h.names];exact List.mem_map.2 ⟨p,hp,rfl⟩
theorem A4.isIn (h:A4 ks L) {i:Nat}:(Go.Psl.lk L i).isSome=true↔i∈ks:=by
 constructor
 . intro hi
   obtain ⟨x,hx⟩:=Option.isSome_iff_exists.1 hi;exact h.mem (p:=(i,x)) (B4 hx)
 . intro hi
   rw [<-h.names] at hi;obtain ⟨p,hp,rfl⟩:=List.mem_map.1 hi;rw [h.lk hp];rfl
theorem Dz {i j:Nat} (h:rid ks i=some j):i∈ks/\j=i:=by
 unfold rid at h;split at h
 . cases h;exact ⟨by assumption,rfl⟩
 . cases h
theorem FH {c:V} (h:W0 (rid ks) c c):A0 (·∈ks) AR c/\∀ b,DR (sg ks b) c=c:=by
 cases c with
 | junk=>exact ⟨trivial,fun _=>rfl⟩
 | d x=>exact ⟨trivial,fun _=>rfl⟩
 | lp i o=>
   obtain ⟨j,hj,_⟩:=h;have hi:=(Dz hj).1;exact ⟨hi,fun b=>by simp [DR,sg,hi]⟩
 | ls i o l z=>
   unfold W0 at h;simp only at h;split at h
   . rename_i j hj
     have hi:=(Dz hj).1;exact ⟨hi,fun b=>by simp [DR,sg,hi]⟩
   . cases h.2
 | yl i=>
   obtain ⟨j,hj,_⟩:=h;have hi:=(Dz hj).1;exact ⟨hi,fun b=>by simp [DR,sg,hi]⟩
 | lr=>exact False.elim h
 | cl f cs=>exact ⟨trivial,fun _=>rfl⟩
 | agg cs=>exact ⟨trivial,fun _=>rfl⟩
 | tup cs=>exact ⟨trivial,fun _=>rfl⟩
theorem Et {α:Type} {f:α->α}:∀ {l:List α},(∀ x∈l,f x=x)->l.map f=l
 | [],_=>rfl
 | a::l,h=>by rw [List.map_cons,h a (by simp),Et fun x hx=>h x (List.mem_cons_of_mem _ hx)]
theorem GY {α:Type} {R:α->α->Prop}:∀ {l:List α},AJ R l l->∀ x∈l,R x x
 | [],_,_,hx=>by simp at hx
 | a::l,h,x,hx=>by
   rcases List.mem_cons.1 hx with rfl | hx
   . exact h.1
   . exact GY h.2 x hx
theorem MM {α:Type} {R:α->α->Prop}:∀ {l:List α},(∀ x∈l,R x x)->AJ R l l
 | [],_=>trivial
 | a::l,h=>⟨h a (by simp),MM fun x hx=>h x (List.mem_cons_of_mem _ hx)⟩
theorem FI {c:V} (h:A0 (·∈ks) AR c) (b:Nat):DR (sg ks b) c=c:=by
 cases c<;>first | rfl | (have h2:_∈ks:=h;simp [DR,sg,h2]) | exact False.elim h
theorem FJ {c:V} (h:A1 (·∈ks) AR c) (b:Nat):DS (sg ks b) c=c:=by
 cases c with
 | cl f cs=>simp only [DS];rw [Et fun x hx=>FI (h x hx) b]
 | junk=>exact FI (ks:=ks) (c:= .junk) h b
 | d x=>exact FI (ks:=ks) (c:= .d x) h b
 | lp i o=>exact FI (ks:=ks) (c:= .lp i o) h b
 | ls i o l z=>exact FI (ks:=ks) (c:= .ls i o l z) h b
 | yl i=>exact FI (ks:=ks) (c:= .yl i) h b
 | lr f n p pa pb j=>exact FI (ks:=ks) (c:= .lr f n p pa pb j) h b
 | agg cs=>exact FI (ks:=ks) (c:= .agg cs) h b
 | tup cs=>exact FI (ks:=ks) (c:= .tup cs) h b
theorem ALq {c:V} (h:A2 (·∈ks) AR c) (b:Nat):HR (sg ks b) c=c:=by
 cases c with
 | agg cs=>simp only [HR];rw [Et fun x hx=>FJ (h x hx) b]
 | junk=>exact FJ (ks:=ks) (c:= .junk) h b
 | d x=>exact FJ (ks:=ks) (c:= .d x) h b
 | lp i o=>exact FJ (ks:=ks) (c:= .lp i o) h b
 | ls i o l z=>exact FJ (ks:=ks) (c:= .ls i o l z) h b
 | yl i=>exact FJ (ks:=ks) (c:= .yl i) h b
 | lr f n p pa pb j=>exact FJ (ks:=ks) (c:= .lr f n p pa pb j) h b
 | cl f cs=>exact FJ (ks:=ks) (c:= .cl f cs) h b
 | tup cs=>exact FJ (ks:=ks) (c:= .tup cs) h b
theorem R9 {c:V} (h:AV (·∈ks) AR c) (b:Nat):ren (sg ks b) c=c:=by
 cases c with
 | tup cs=>simp only [ren];rw [Et fun x hx=>ALq (h x hx) b]
 | junk=>exact ALq (ks:=ks) (c:= .junk) h b
 | d x=>exact ALq (ks:=ks) (c:= .d x) h b
 | lp i o=>exact ALq (ks:=ks) (c:= .lp i o) h b
 | ls i o l z=>exact ALq (ks:=ks) (c:= .ls i o l z) h b
 | yl i=>exact ALq (ks:=ks) (c:= .yl i) h b
 | lr f n p pa pb j=>exact ALq (ks:=ks) (c:= .lr f n p pa pb j) h b
 | cl f cs=>exact ALq (ks:=ks) (c:= .cl f cs) h b
 | agg cs=>exact ALq (ks:=ks) (c:= .agg cs) h b
theorem bB {c:V} (h:WC (rid ks) c c):AC (·∈ks) AR c/\∀ b,BJ (sg ks b) c=c:=by
 cases c with
 | lr fr nt ps pa pb jmp=>
   have h2:∀ t,AV (·∈ks) AR (fr t):=fun t=>AV.mono (fun i hi=>(Dz hi).1) (fun _ h=>h) (h.2 t)
   refine ⟨h2,fun b=>?_⟩;simp only [BJ];congr 1
   funext t;exact R9 (h2 t) b
 | cl f cs=>
   obtain ⟨cs',e,h2⟩:=h;cases e;have h3:=GY h2;exact ⟨fun c hc=>(FH (h3 c hc)).1,fun b=>by simp only [BJ,DS];rw [Et fun x hx=>(FH (h3 x hx)).2 b]⟩
 | junk=>exact ⟨trivial,fun _=>rfl⟩
 | d x=>exact ⟨trivial,fun _=>rfl⟩
 | lp i o=>exact FH (c:= .lp i o) h
 | ls i o l z=>exact FH (c:= .ls i o l z) h
 | yl i=>exact FH (c:= .yl i) h
 | agg cs=>exact False.elim h
 | tup cs=>exact False.elim h
theorem A4.ac (h:A4 ks L) {p:Nat × List V} (hp:p∈L):∀ c∈p.2,AC (·∈ks) AR c:=fun c hc=>(bB ((h.cells p hp).2.2 c hc)).1
theorem A4.hp (h:A4 ks L) {H:Hp} (hH:∀ i∈ks,H i=Go.Psl.lk L i):Ej (rid ks) H L:=by
 have key:∀ M:List (Nat × List V),(∀ p∈M,p∈L)->Ej (rid ks) H M:=by
   intro M;induction M with
   | nil=>intro _;trivial
   | cons p r ih=>
     intro hM;have hp:=hM p (by simp);have hm:=h.mem hp;obtain ⟨c1,c2,c3⟩:=h.cells p hp;refine ⟨?_,ih fun q hq=>hM q (List.mem_cons_of_mem _ hq)⟩;rw [Cr hm];exact ⟨⟨p.2,by rw [hH _ hm,h.lk hp],MM c3⟩,c2⟩
 exact key L fun _ h=>h
theorem A4.inj (h:A4 ks L):Bd (rid ks) L:=by
 have key:∀ M:List (Nat × List V),(∀ p∈M,p∈L)->Bd (rid ks) M:=by
   intro M;induction M with
   | nil=>intro _;trivial
   | cons p r ih=>
     intro hM;refine ⟨fun q hq=>?_,ih fun q hq=>hM q (List.mem_cons_of_mem _ hq)⟩;have h1:=h.mem (hM p (by simp));have h2:=h.mem (hM q (List.mem_cons_of_mem _ hq));rw [Cr h1,Cr h2];by_cases e:q.1=p.1
     . exact Or.inr (Or.inr e)
     . exact Or.inr (Or.inl fun e'=>e (Option.some.inj e'))
 exact key L fun _ h=>h
theorem A4.stab (_:A4 ks L) {H:Hp} (hH:∀ i∈ks,H i=Go.Psl.lk L i):DZ (rid ks) H (Go.Psl.lk L) ks:=by
 have key:∀ M:List Nat,(∀ i∈M,i∈ks)->DZ (rid ks) H (Go.Psl.lk L) M:=by
   intro M;induction M with
   | nil=>intro _;trivial
   | cons i r ih=>
     intro hM;have hi:=hM i (by simp);exact ⟨fun hs=>⟨Cr hi,by rw [hH i hi];exact hs⟩,ih fun j hj=>hM j (List.mem_cons_of_mem _ hj)⟩
 exact key ks fun _ h=>h
theorem A4.stabW (_:A4 ks L) {H:Hp} (hH:∀ i∈ks,H i=Go.Psl.lk L i) {n:Nat} (hn:∀ i∈ks,i<n):HD (rid ks) H (Go.Psl.lk L) n ks:=by
 have key:∀ M:List Nat,(∀ i∈M,i∈ks)->HD (rid ks) H (Go.Psl.lk L) n M:=by
   intro M;induction M with
   | nil=>intro _;trivial
   | cons i r ih=>
     intro hM;have hi:=hM i (by simp);exact ⟨hn i hi,fun hs=>⟨Cr hi,by rw [hH i hi];exact hs⟩,ih fun j hj=>hM j (List.mem_cons_of_mem _ hj)⟩
 exact key ks fun _ h=>h
theorem A4.ids (h:A4 ks L) {n:Nat} (hn:∀ i∈ks,i<n):A7 n L:=by
 have key:∀ M:List (Nat × List V),(∀ p∈M,p∈L)->A7 n M:=by
   intro M;induction M with
   | nil=>intro _;trivial
   | cons p r ih=>
     intro hM;have hp:=hM p (by simp);exact ⟨hn _ (h.mem hp),fun c hc=>AC.mono hn (fun _ h=>h) (h.ac hp c hc),ih fun q hq=>hM q (List.mem_cons_of_mem _ hq)⟩
 exact key L fun _ h=>h
theorem A4.res (h:A4 ks L):∀ p∈L,∀ c∈p.2,AC (InB L) AR c:=fun _ hp c hc=>AC.mono (fun _ hi=>h.isIn.2 hi) (fun _ h=>h) (h.ac hp c hc)
theorem AI.keep {st:St} (hs:∀ i,E.stab i↔i∈ks) (h:A4 ks L) (hH:∀ i∈ks,st.H i=Go.Psl.lk L i) {n:Nat} (hn:∀ i∈ks,i<n) (l:List (Nat × V)) (h1:CL (rid ks) st.fr l) (h4:Bw n l):AI P E st ⟨AO l,Go.Psl.lk L,n⟩:=
 AI.mkM hs (rid ks) l L n h1 (h.hp hH) h.inj h4 (h.ids hn) (h.stabW hH hn)
theorem Hn {H:Hp} {b:Nat} (hL:A4 ks L) (hL1:A4 ks L1):BI H b (Go.Psl.lk L) ks (Go.Psl.lk L1)=fun i=>if i∈ks then Go.Psl.lk L1 i else H i:=by
 funext i
 unfold BI;by_cases hi:i∈ks
 . simp only [hi,if_true]
   have h1:=hL1.isIn.2 hi;obtain ⟨x,hx⟩:=Option.isSome_iff_exists.1 h1;rw [hx];have hm:=hL1.cells (i,x) (B4 hx);simp only [Option.map_some];rw [Et fun c hc=>(bB (hm.2.2 c hc)).2 b]
 . simp only [hi,if_false]
   have h2:(Go.Psl.lk L i).isSome=false:=by
     cases hc:(Go.Psl.lk L i).isSome with
     | false=>rfl
     | true=>exact absurd (hL.isIn.1 hc) hi
   rw [h2];simp only [Bool.false_eq_true,if_false];split
   . split
     . rfl
     . rename_i hn
       have h3:Go.Psl.lk L1 (i-b)=none:=by
         cases hc:Go.Psl.lk L1 (i-b) with
         | none=>rfl
         | some x=>exact absurd (hL1.isIn.1 (by rw [hc];rfl)) hn
       rw [h3]
   . rfl
theorem Hq {H:Hp} {av args:List V} {res:Res} (hL:A4 ks L) (hL1:A4 ks L1) (hH:∀ i∈ks,H i=Go.Psl.lk L i) (hb:AJ (Bor noH) av args):IB H av args (Go.Psl.lk L) ks res (Go.Psl.lk L1):=
 ⟨fun i cs h=>by rw [hH i (hL.isIn.1 (by rw [h];rfl)),h],fun i h hn=>absurd (hL1.isIn.1 h) hn,fun i hi=>by
   obtain ⟨x,hx⟩:=Option.isSome_iff_exists.1 (hL.isIn.2 hi);exact ⟨x,hx,(hL.cells (i,x) (B4 hx)).1⟩,Or.inl hb⟩
theorem Fp.keep {H:Hp} {b k:Nat} {av:List V} {Kc Kx:V->Hp->Prop} (args:List V) (L L1:List (Nat × List V)) (ks:List Nat) (r:D) (hf:Ym P k args (Go.Psl.lk L) ks (.ret (.d r)) (Go.Psl.lk L1)) (hL:A4 ks L) (hL1:A4 ks L1)
   (hrec:∃ fr nt ps pa pb jmp,Go.Psl.lk L k=some [.lr fr nt ps pa pb jmp]/\ps.length=args.length) (hH:∀ i∈ks,H i=Go.Psl.lk L i) (hb:AJ (Bor noH) av args) (hk:Kc (.d r) (fun i=>if i∈ks then Go.Psl.lk L1 i else H i)):Fp P none H H b k av Kc Kx:=
 ⟨rfl,args,Go.Psl.lk L,ks, .ret (.d r),Go.Psl.lk L1,_,⟨hf,hrec,Hq hL hL1 hH hb⟩,(Hn hL hL1).symm,hk⟩
theorem AU.keep {H:Hp} {b:Nat} {g:FuncId} {av:List V} {Kc Kx:V->Hp->Prop} (args:List V) (L L1:List (Nat × List V)) (ks:List Nat) (r:V) (hf:Cm P g args (Go.Psl.lk L) ks (.ret r) (Go.Psl.lk L1)) (hL:A4 ks L) (hL1:A4 ks L1) (hr:AV (·∈ks) AR r)
   (hH:∀ i∈ks,H i=Go.Psl.lk L i) (hb:AJ (Bor noH) av args) (hk:Kc r (fun i=>if i∈ks then Go.Psl.lk L1 i else H i)):AU P none H H b g av Kc Kx:=
 ⟨args,Go.Psl.lk L,ks, .ret r,Go.Psl.lk L1,_,⟨hf,Hq hL hL1 hH hb⟩,trivial,(Hn hL hL1).symm,by show Kc (ren (sg ks b) r) _;rw [R9 hr];exact hk⟩
theorem Dc.keep {fn:Func} {st:St} (hn:fn.results= #[]) (h:A4 ks L) (hH:∀ i∈ks,st.H i=Go.Psl.lk L i):Dc Γ fn ks (.tup []) L st:=
 ⟨[],rid ks,by rw [hn];rfl,rfl,by simp,h.hp hH,h.inj,h.stab hH⟩
theorem E3.keepN {fo:Operand} {ps:List Nat} {pa pb:PC} {Q:Av->St->Prop} {f:Nat->V} {H:Hp} {n:Nat} {g:FuncId} {caps:List V} (L L1:List (Nat × List V)) (ks:List Nat) (r:V) (jmp:LSt) (h0:E.rqN H/\E.nt≠AL4) (hg:Be (evF f fo)=some (g,caps))
   (hf:Cm P g (.yl n::caps) (Go.Psl.lk ((n,[.lr f E.nt ps pa pb .ready])::L)) (n::ks) (.ret r) (Go.Psl.lk ((n,[.lr f E.nt ps pa pb jmp])::L1)))
   (hL:A4 (n::ks) ((n,[.lr f E.nt ps pa pb .ready])::L)) (hL1:A4 (n::ks) ((n,[.lr f E.nt ps pa pb jmp])::L1)) (hH:∀ i∈ks,H i=Go.Psl.lk L i) (hb:AJ (Bor noH) caps caps)
   (hq:Sm Q ⟨f,fun i=>if i=n then none else if i∈ks then Go.Psl.lk L1 i else H i,n+2097152⟩ jmp):PW P Γ eqs E (.rangeF fo ps pa pb) Q ⟨f,H,n⟩:=by
 have hH':∀ i∈n::ks,upd H n (some [.lr f E.nt ps pa pb .ready]) i=Go.Psl.lk ((n,[.lr f E.nt ps pa pb .ready])::L) i:=fun i hi=>by
   simp only [AY,Go.Psl.lk];by_cases e:i=n
   . simp [e]
   . simp only [e,if_false]
     rcases List.mem_cons.1 hi with h | h
     . exact absurd h e
     . exact hH i h
 refine ⟨h0,g,caps, .yl n::caps,_,n::ks, .ret r,_,hg,⟨hf,Hq hL hL1 hH' ⟨rfl,hb⟩⟩,by simp,jmp,by simp [Go.Psl.lk],?_⟩
 have e:upd (BI (upd H n (some [.lr f E.nt ps pa pb .ready])) (n+1048576) (Go.Psl.lk ((n,[.lr f E.nt ps pa pb .ready])::L)) (n::ks) (Go.Psl.lk ((n,[.lr f E.nt ps pa pb jmp])::L1))) n none=fun i=>if i=n then none else if i∈ks then Go.Psl.lk L1 i else H i:=by
   rw [Hn hL hL1]
   funext i
   simp only [AY];by_cases h:i=n
   . simp [h]
   . simp [h,Go.Psl.lk]
 show Sm Q ⟨f,upd (BI _ _ _ _ _) n none,n+2097152⟩ jmp
 rw [e];exact hq
theorem E3.keep {fo:Operand} {ps:List Nat} {pa pb:PC} {Q:Av->St->Prop} {f:Nat->V} {H:Hp} {n:Nat} {g:FuncId} {caps:List V} (L L1:List (Nat × List V)) (ks:List Nat) (r:V) (jmp:LSt) (h0:E.rq/\E.nt≠AL4) (hg:Be (evF f fo)=some (g,caps))
   (hf:Cm P g (.yl n::caps) (Go.Psl.lk ((n,[.lr f E.nt ps pa pb .ready])::L)) (n::ks) (.ret r) (Go.Psl.lk ((n,[.lr f E.nt ps pa pb jmp])::L1)))
   (hL:A4 (n::ks) ((n,[.lr f E.nt ps pa pb .ready])::L)) (hL1:A4 (n::ks) ((n,[.lr f E.nt ps pa pb jmp])::L1)) (hH:∀ i∈ks,H i=Go.Psl.lk L i) (hb:AJ (Bor noH) caps caps)
   (hq:Sm Q ⟨f,fun i=>if i=n then none else if i∈ks then Go.Psl.lk L1 i else H i,n+2097152⟩ jmp):PW P Γ eqs E (.rangeF fo ps pa pb) Q ⟨f,H,n⟩:=
 E3.keepN L L1 ks r jmp ⟨.inl h0.1,h0.2⟩ hg hf hL hL1 hH hb hq
theorem Hu.keep {k:Nat} {rc:LSt->V} {s:LSt} {st:St} (h:A4 ks L) (hb:st.H k=some [rc .busy]) (hH:∀ i∈ks,upd st.H k (some [rc s]) i=Go.Psl.lk L i):Hu k rc s ks L st:=
 ⟨hb,rid ks,h.hp hH,h.inj,h.stab hH⟩
end
structure Rnd (P:Program) (Γ:Tys) (eqs:Eqs) (k:Nat) (fr:Nat->V) (nt:Nat) (ps:List Nat) (pa pb:PC) (args:List V) (Hin:Hp) (ks:List Nat) (s:LSt) (H1:List (Nat × List V)) (N:Nat):Prop where
 run:∀ E:Ent,E.nt=nt->(∀ i,E.stab i↔i∈ks)->PW P Γ eqs E pa (DP (fun st=>st.H k=some [.lr fr nt ps pa pb .ready]/\PW P Γ eqs E pb (rH k (.lr fr nt ps pa pb) s ks H1) ⟨st.fr,upd st.H k (some [.lr fr nt ps pa pb .busy]),st.nx⟩) (fun _ _=>False)) ⟨BD fr ps args,Hin,N⟩
theorem Ym.ofR (hΓ:GOk P Γ) (hE:EB P eqs) (hm:P.follows .mixedOrders=true) {k:Nat} {fr:Nat->V} {nt:Nat} {ps:List Nat} {pa pb:PC} {args:List V} {ks:List Nat} {s:LSt} {L L1:List (Nat × List V)} (N:Nat)
   (hL:A4 ks L) (hL1:A4 ks L1) (hlt:∀ i∈ks,i<N) (hk:lk L k=some [.lr fr nt ps pa pb .ready]) (hlen:ps.length=args.length) (hps:∀ p∈ps,p<nt) (hcl:∀ v∈args,A2 (· < N) AR v)
   (h:Rnd P Γ eqs k fr nt ps pa pb args (lk L) ks s L1 N):Ym P k args (lk L) ks (.ret (.d (.lit (.bool (FP s))))) (lk L1):=
 Ym.of hΓ hE hm N hk (hL.isIn.1 (by rw [hk];rfl)) hlen hps hcl (A7.at (hL.ids hlt)) hlt hL1.res fun E h1 h2 _=>h.run E h1 h2
end Go.Psl
namespace Go.Psl
variable {P:Program} {Γ:Tys} {eqs:Eqs} {E:Ent}
def CX (ks xs:List Nat) (c:V):Prop:=match c with
 | .lr fr _ _ _ _ _=>∀ t,AV (·∈ks) AR (fr t)
 | c=>W1 (rid (ks++xs)) c c
structure BT (ks xs:List Nat) (L:List (Nat × List V)):Prop where
 names:L.map (·.1)=ks++xs
 nd:(ks++xs).Nodup
 cells:∀ p∈L,p.2≠[]/\Bv p.2/\∀ c∈p.2,CX ks xs c
section
variable {ks xs xs1:List Nat} {L L1:List (Nat × List V)}
theorem BT.lk (h:BT ks xs L) {p:Nat × List V} (hp:p∈L):Go.Psl.lk L p.1=some p.2:=AF8 (by rw [h.names];exact h.nd) p hp
theorem BT.mem (h:BT ks xs L) {p:Nat × List V} (hp:p∈L):p.1∈ks++xs:=by rw [<-h.names];exact List.mem_map.2 ⟨p,hp,rfl⟩
theorem BT.isIn (h:BT ks xs L) {i:Nat}:(Go.Psl.lk L i).isSome=true↔i∈ks++xs:=by
 constructor
 . intro hi
   obtain ⟨x,hx⟩:=Option.isSome_iff_exists.1 hi;exact h.mem (p:=(i,x)) (B4 hx)
 . intro hi
   rw [<-h.names] at hi;obtain ⟨p,hp,rfl⟩:=List.mem_map.1 hi;rw [h.lk hp];rfl
def rx (ks xs:List Nat) (b i:Nat):Option Nat:=if i∈ks then some i else if i∈xs then some (b+i) else none
theorem Lz {b i:Nat} (h:i∈ks++xs):rx ks xs b i=some (sg ks b i):=by
 unfold rx sg;by_cases hk:i∈ks
 . simp [hk]
 . rcases List.mem_append.1 h with h | h
   . exact absurd h hk
   . simp [hk,h]
theorem S4 {b:Nat} {c:V} (h:W0 (rid (ks++xs)) c c):W0 (rx ks xs b) (DR (sg ks b) c) c:=by
 cases c with
 | junk=>trivial
 | d x=>rfl
 | lp i o=>
   obtain ⟨j,hj,_⟩:=h;exact ⟨_,Lz (Dz hj).1,rfl⟩
 | ls i o l z=>
   unfold W0 at h;simp only at h;split at h
   . rename_i j hj
     simp only [W0,Lz (Dz hj).1];rfl
   . cases h.2
 | yl i=>
   obtain ⟨j,hj,_⟩:=h;exact ⟨_,Lz (Dz hj).1,rfl⟩
 | lr=>exact False.elim h
 | cl f cs=>exact False.elim h
 | agg cs=>exact False.elim h
 | tup cs=>exact False.elim h
theorem KZ {α:Type} {R:α->α->Prop} {f:α->α}:∀ {l:List α},(∀ x∈l,R (f x) x)->AJ R (l.map f) l
 | [],_=>trivial
 | a::l,h=>⟨h a (by simp),KZ fun x hx=>h x (List.mem_cons_of_mem _ hx)⟩
theorem ou {b:Nat} {c:V} (h:CX ks xs c):WC (rx ks xs b) (BJ (sg ks b) c) c:=by
 cases c with
 | lr fr nt ps pa pb jmp=>
   have h:∀ t,AV (·∈ks) AR (fr t):=h;refine ⟨?_,fun t=>AV.mono (fun i hi=>by simp [rx,hi]) (fun _ h=>h) (h t)⟩;simp only [BJ];congr 1
   funext t;exact R9 (h t) b
 | cl f cs=>
   obtain ⟨cs',e,h2⟩:=h;cases e;have h3:=GY h2;exact ⟨_,rfl,KZ fun x hx=>S4 (h3 x hx)⟩
 | junk=>trivial
 | d x=>rfl
 | lp i o=>exact S4 (c:= .lp i o) h
 | ls i o l z=>exact S4 (c:= .ls i o l z) h
 | yl i=>exact S4 (c:= .yl i) h
 | agg cs=>exact False.elim h
 | tup cs=>exact False.elim h
theorem Mw {c:V} (h:W1 (rid ks) c c):A1 (·∈ks) AR c:=by
 cases c with
 | cl f cs=>
   obtain ⟨cs',e,h2⟩:=h;cases e;exact fun c hc=>(FH (GY h2 c hc)).1
 | junk=>exact trivial
 | d x=>exact trivial
 | lp i o=>exact (FH (c:= .lp i o) h).1
 | ls i o l z=>exact (FH (c:= .ls i o l z) h).1
 | yl i=>exact (FH (c:= .yl i) h).1
 | lr=>exact False.elim h
 | agg cs=>exact False.elim h
 | tup cs=>exact False.elim h
theorem ie {c:V} (h:CX ks xs c):AC (·∈ks++xs) AR c:=by
 cases c with
 | lr fr nt ps pa pb jmp=>exact fun t=>AV.mono (fun i hi=>List.mem_append_left _ hi) (fun _ h=>h) (h t)
 | cl f cs=>exact Mw (c:= .cl f cs) h
 | junk=>exact trivial
 | d x=>exact trivial
 | lp i o=>exact Mw (c:= .lp i o) h
 | ls i o l z=>exact Mw (c:= .ls i o l z) h
 | yl i=>exact Mw (c:= .yl i) h
 | agg cs=>exact False.elim h
 | tup cs=>exact False.elim h
theorem BT.ids (h:BT ks xs L) {n:Nat} (hn:∀ i∈ks++xs,i<n):A7 n L:=by
 have key:∀ M:List (Nat × List V),(∀ p∈M,p∈L)->A7 n M:=by
   intro M;induction M with
   | nil=>intro _;trivial
   | cons p r ih=>
     intro hM;have hp:=hM p (by simp);exact ⟨hn _ (h.mem hp),fun c hc=>AC.mono hn (fun _ h=>h) (ie ((h.cells p hp).2.2 c hc)),ih fun q hq=>hM q (List.mem_cons_of_mem _ hq)⟩
 exact key L fun _ h=>h
theorem BT.res (h:BT ks xs L):∀ p∈L,∀ c∈p.2,AC (InB L) AR c:=fun p hp c hc=>AC.mono (fun _ hi=>h.isIn.2 hi) (fun _ h=>h) (ie ((h.cells p hp).2.2 c hc))
theorem Oe {H:Hp} {b:Nat} (hL:BT ks xs L) (hL1:BT ks xs1 L1) (hb:∀ i∈ks++xs,i<b) {p:Nat × List V} (hp:p∈L1):BI H b (Go.Psl.lk L) ks (Go.Psl.lk L1) (sg ks b p.1)=some (p.2.map (BJ (sg ks b))):=by
 have h1:=hL1.lk hp;by_cases hk:p.1∈ks
 . simp only [BI,sg,hk,if_true,h1,Option.map_some]
 . have e:sg ks b p.1=b+p.1:=by simp [sg,hk]
   have n1:¬ (b+p.1∈ks):=fun h=>by have:=hb _ (List.mem_append_left _ h);omega
   have n2:(Go.Psl.lk L (b+p.1)).isSome=false:=by
     cases hc:(Go.Psl.lk L (b+p.1)).isSome with
     | false=>rfl
     | true=>have:=hb _ (hL.isIn.1 hc);omega
   rw [e];simp only [BI,n1,if_false,n2,Bool.false_eq_true,Nat.le_add_right,if_true,Nat.add_sub_cancel_left,hk,h1]
theorem VL {H:Hp} {b:Nat} (hL:BT ks xs L) (_:BT ks xs1 L1) {i:Nat} (h1:i ∉ ks++xs) (h2:i<b):BI H b (Go.Psl.lk L) ks (Go.Psl.lk L1) i=H i:=by
 have n1:¬ i∈ks:=fun h=>h1 (List.mem_append_left _ h)
 have n2:(Go.Psl.lk L i).isSome=false:=by
   cases hc:(Go.Psl.lk L i).isSome with
   | false=>rfl
   | true=>exact absurd (hL.isIn.1 hc) h1
 simp only [BI,n1,if_false,n2,Bool.false_eq_true,show ¬ b<=i by omega]
theorem Og {H':Hp} {b:Nat} (hL1:BT ks xs1 L1) (hH:∀ p∈L1,H' (sg ks b p.1)=some (p.2.map (BJ (sg ks b)))):Ej (rx ks xs1 b) H' L1:=by
 have key:∀ M:List (Nat × List V),(∀ p∈M,p∈L1)->Ej (rx ks xs1 b) H' M:=by
   intro M;induction M with
   | nil=>intro _;trivial
   | cons p r ih=>
     intro hM;have hp:=hM p (by simp);obtain ⟨c1,c2,c3⟩:=hL1.cells p hp;refine ⟨?_,ih fun q hq=>hM q (List.mem_cons_of_mem _ hq)⟩;rw [Lz (hL1.mem hp)];exact ⟨⟨_,hH p hp,KZ fun c hc=>ou (c3 c hc)⟩,c2⟩
 exact key L1 fun _ h=>h
theorem AUh {b:Nat} (hL1:BT ks xs1 L1) (hb:∀ i∈ks,i<b):Bd (rx ks xs1 b) L1:=by
 have key:∀ M:List (Nat × List V),(∀ p∈M,p∈L1)->Bd (rx ks xs1 b) M:=by
   intro M;induction M with
   | nil=>intro _;trivial
   | cons p r ih=>
     intro hM;refine ⟨fun q hq=>?_,ih fun q hq=>hM q (List.mem_cons_of_mem _ hq)⟩;rw [Lz (hL1.mem (hM p (by simp))),Lz (hL1.mem (hM q (List.mem_cons_of_mem _ hq)))];by_cases e:q.1=p.1
     . exact Or.inr (Or.inr e)
     . refine Or.inr (Or.inl fun e'=>e ?_)
       have e':=Option.some.inj e';unfold sg at e';split at e'<;>split at e'
       . exact e'
       . rename_i h1 h2;have:=hb _ h1;omega
       . rename_i h1 h2;have:=hb _ h2;omega
       . omega
 exact key L1 fun _ h=>h
theorem S5 {H':Hp} {b:Nat} (_:BT ks xs1 L1) (hH:∀ p∈L1,H' (sg ks b p.1)=some (p.2.map (BJ (sg ks b)))):∀ i∈ks,(Go.Psl.lk L1 i).isSome=true->rx ks xs1 b i=some i/\(H' i).isSome=true:=fun i hi hs=>by
 obtain ⟨x,hx⟩:=Option.isSome_iff_exists.1 hs;have:=hH (i,x) (B4 hx);rw [show sg ks b i=i by simp [sg,hi]] at this;exact ⟨by simp [rx,hi],by rw [this];rfl⟩
theorem AAc {ρ:Nat->Option Nat} {H h:Hp}:∀ {M:List Nat},(∀ i∈M,(h i).isSome=true->ρ i=some i/\(H i).isSome=true)->DZ ρ H h M
 | [],_=>trivial
 | i::r,hM=>⟨hM i (by simp),AAc fun j hj=>hM j (List.mem_cons_of_mem _ hj)⟩
theorem IG {ρ:Nat->Option Nat} {H h:Hp} {n:Nat}:∀ {M:List Nat},(∀ i∈M,i<n)->(∀ i∈M,(h i).isSome=true->ρ i=some i/\(H i).isSome=true)->HD ρ H h n M
 | [],_,_=>trivial
 | i::r,hn,hM=>⟨hn i (by simp),hM i (by simp),IG (fun j hj=>hn j (List.mem_cons_of_mem _ hj)) fun j hj=>hM j (List.mem_cons_of_mem _ hj)⟩
theorem AI.keepX {st:St} {b:Nat} (hs:∀ i,E.stab i↔i∈ks) (h:BT ks xs1 L1) (hb:∀ i∈ks,i<b) (hH:∀ p∈L1,st.H (sg ks b p.1)=some (p.2.map (BJ (sg ks b)))) {n:Nat} (hn:∀ i∈ks++xs1,i<n) (l:List (Nat × V)) (h1:CL (rx ks xs1 b) st.fr l) (h4:Bw n l):AI P E st ⟨AO l,Go.Psl.lk L1,n⟩:=
 AI.mkM hs (rx ks xs1 b) l L1 n h1 (Og h hH) (AUh h hb) h4 (h.ids hn) (IG (fun i hi=>hn i (List.mem_append_left _ hi)) (S5 h hH))
theorem Dc.keepX {fn:Func} {st:St} {b:Nat} (hn:fn.results= #[]) (h:BT ks xs1 L1) (hb:∀ i∈ks,i<b) (hH:∀ p∈L1,st.H (sg ks b p.1)=some (p.2.map (BJ (sg ks b)))):Dc Γ fn ks (.tup []) L1 st:=
 ⟨[],rx ks xs1 b,by rw [hn];rfl,rfl,by simp,Og h hH,AUh h hb,AAc (S5 h hH)⟩
theorem Jd {H:Hp} {av args:List V} {res:Res} (hL:BT ks xs L) (hL1:BT ks xs1 L1) (hx:∀ i∈xs1,i<1048576) (hH:∀ i∈ks++xs,H i=Go.Psl.lk L i) (hb:AJ (Bor noH) av args):IB H av args (Go.Psl.lk L) ks res (Go.Psl.lk L1):=
 ⟨fun i cs h=>by rw [hH i (hL.isIn.1 (by rw [h];rfl)),h],fun i h hn=>by
   rcases List.mem_append.1 (hL1.isIn.1 h) with h | h
   . exact absurd h hn
   . exact hx i h,fun i hi=>by
   obtain ⟨x,hx⟩:=Option.isSome_iff_exists.1 (hL.isIn.2 (List.mem_append_left _ hi));exact ⟨x,hx,(hL.cells (i,x) (B4 hx)).1⟩,Or.inl hb⟩
theorem kO {c:V} (h:CX ks xs c):WC (rid (ks++xs)) c c:=by
 cases c with
 | lr fr nt ps pa pb jmp=>exact ⟨rfl,fun t=>AV.mono (fun i hi=>Cr (List.mem_append_left _ hi)) (fun _ h=>h) (h t)⟩
 | cl f cs=>exact h
 | junk=>exact h
 | d x=>exact h
 | lp i o=>exact h
 | ls i o l z=>exact h
 | yl i=>exact h
 | agg cs=>exact h
 | tup cs=>exact h
theorem BT.same (h:BT ks xs L):A4 (ks++xs) L:=⟨h.names,h.nd,fun p hp=>⟨(h.cells p hp).1,(h.cells p hp).2.1,fun c hc=>kO ((h.cells p hp).2.2 c hc)⟩⟩
theorem AI.sameX {st:St} (hs:∀ i,E.stab i↔i∈ks) (h:BT ks xs L) (hH:st.H=Go.Psl.lk L) {n:Nat} (hn:∀ i∈ks++xs,i<n) (l:List (Nat × V)) (h1:CL (rid (ks++xs)) st.fr l) (h4:Bw n l):AI P E st ⟨AO l,Go.Psl.lk L,n⟩:=
 AI.mkM hs (rid (ks++xs)) l L n h1 (h.same.hp fun i _=>by rw [hH]) h.same.inj h4 (h.ids hn) (IG (fun i hi=>hn i (List.mem_append_left _ hi)) fun i hi hs=>⟨Cr (List.mem_append_left _ hi),by rw [hH];exact hs⟩)
theorem Dc.sameX {fn:Func} {st:St} (hn:fn.results= #[]) (h:BT ks xs L) (hH:st.H=Go.Psl.lk L):Dc Γ fn ks (.tup []) L st:=
 ⟨[],rid (ks++xs),by rw [hn];rfl,rfl,by simp,h.same.hp fun i _=>by rw [hH],h.same.inj,AAc fun i hi hs=>⟨Cr (List.mem_append_left _ hi),by rw [hH];exact hs⟩⟩
theorem Fp.keepX {H:Hp} {b k:Nat} {av:List V} {Kc Kx:V->Hp->Prop} (args:List V) (L L1:List (Nat × List V)) (ks xs xs1:List Nat) (r:D) (hf:Ym P k args (Go.Psl.lk L) ks (.ret (.d r)) (Go.Psl.lk L1)) (hL:BT ks xs L) (hL1:BT ks xs1 L1) (hx:∀ i∈xs1,i<1048576)
   (hrec:∃ fr nt ps pa pb jmp,Go.Psl.lk L k=some [.lr fr nt ps pa pb jmp]/\ps.length=args.length) (hH:∀ i∈ks++xs,H i=Go.Psl.lk L i) (hb:AJ (Bor noH) av args) (hk:Kc (.d r) (BI H b (Go.Psl.lk L) ks (Go.Psl.lk L1))):Fp P none H H b k av Kc Kx:=
 ⟨rfl,args,Go.Psl.lk L,ks, .ret (.d r),Go.Psl.lk L1,_,⟨hf,hrec,Jd hL hL1 hx hH hb⟩,rfl,hk⟩
theorem Ym.ofX (hΓ:GOk P Γ) (hE:EB P eqs) (hm:P.follows .mixedOrders=true) {k:Nat} {fr:Nat->V} {nt:Nat} {ps:List Nat} {pa pb:PC} {args:List V} {s:LSt} (N:Nat)
   (hL:BT ks xs L) (hL1:BT ks xs1 L1) (hlt:∀ i∈ks++xs,i<N) (hkk:k∈ks) (hk:Go.Psl.lk L k=some [.lr fr nt ps pa pb .ready]) (hlen:ps.length=args.length) (hps:∀ p∈ps,p<nt) (hcl:∀ v∈args,A2 (· < N) AR v)
   (h:Rnd P Γ eqs k fr nt ps pa pb args (Go.Psl.lk L) ks s L1 N):Ym P k args (Go.Psl.lk L) ks (.ret (.d (.lit (.bool (FP s))))) (Go.Psl.lk L1):=
 Ym.of hΓ hE hm N hk hkk hlen hps hcl (A7.at (hL.ids hlt)) (fun i hi=>hlt i (List.mem_append_left _ hi)) hL1.res fun E h1 h2 _=>h.run E h1 h2
theorem E3.keepXN {fo:Operand} {ps:List Nat} {pa pb:PC} {Q:Av->St->Prop} {f:Nat->V} {H:Hp} {n:Nat} {g:FuncId} {caps:List V} (L L1:List (Nat × List V)) (ks xs xs1:List Nat) (r:V) (jmp:LSt) (h0:E.rqN H/\E.nt≠AL4) (hg:Be (evF f fo)=some (g,caps))
   (hf:Cm P g (.yl n::caps) (Go.Psl.lk ((n,[.lr f E.nt ps pa pb .ready])::L)) (n::ks) (.ret r) (Go.Psl.lk ((n,[.lr f E.nt ps pa pb jmp])::L1)))
   (hL:BT (n::ks) xs ((n,[.lr f E.nt ps pa pb .ready])::L)) (hL1:BT (n::ks) xs1 ((n,[.lr f E.nt ps pa pb jmp])::L1)) (hx:∀ i∈xs1,i<1048576) (hlt:∀ i∈ks++xs,i<n) (hH:∀ i∈ks++xs,H i=Go.Psl.lk L i) (hb:AJ (Bor noH) caps caps)
   (hq:∀ F:Hp,(∀ p∈L1,F (sg (n::ks) (n+1048576) p.1)=some (p.2.map (BJ (sg (n::ks) (n+1048576)))))->(∀ i,i ∉ ks++xs->i<n->F i=H i)->Sm Q ⟨f,F,n+2097152⟩ jmp):PW P Γ eqs E (.rangeF fo ps pa pb) Q ⟨f,H,n⟩:=by
 have hH':∀ i∈n::ks++xs,upd H n (some [.lr f E.nt ps pa pb .ready]) i=Go.Psl.lk ((n,[.lr f E.nt ps pa pb .ready])::L) i:=fun i hi=>by
   simp only [AY,Go.Psl.lk];by_cases e:i=n
   . simp [e]
   . simp only [e,if_false]
     rw [List.cons_append] at hi;rcases List.mem_cons.1 hi with h | h
     . exact absurd h e
     . exact hH i h
 have hbk:∀ i∈n::ks++xs,i<n+1048576:=fun i hi=>by
   rw [List.cons_append] at hi;rcases List.mem_cons.1 hi with h | h
   . omega
   . have:=hlt i h;omega
 refine ⟨h0,g,caps, .yl n::caps,_,n::ks, .ret r,_,hg,⟨hf,Jd hL hL1 hx hH' ⟨rfl,hb⟩⟩,by simp,jmp,by simp [Go.Psl.lk],?_⟩;refine hq _ (fun p hp=>?_) fun i hi hin=>?_
 . have hm:p.1∈ks++xs1:=by
     have:=hL1.names;simp only [List.map_cons,List.cons_append,List.cons.injEq,true_and] at this;rw [<-this];exact List.mem_map.2 ⟨p,hp,rfl⟩
   have hne:sg (n::ks) (n+1048576) p.1≠n:=fun e=>by
     have hnd:=hL1.nd;rw [List.cons_append] at hnd;have hnm:=(List.nodup_cons.1 hnd).1;unfold sg at e;split at e
     . rw [e] at hm;exact hnm hm
     . omega
   simp only [AY,hne,if_false];exact Oe hL hL1 hbk (List.mem_cons_of_mem _ hp)
 . have hne:i≠n:=by omega
   simp only [AY,hne,if_false];rw [VL hL hL1 (by rw [List.cons_append];intro h;rcases List.mem_cons.1 h with h | h;exact hne h;exact hi h) (by omega)];simp [AY,hne]
theorem E3.keepX {fo:Operand} {ps:List Nat} {pa pb:PC} {Q:Av->St->Prop} {f:Nat->V} {H:Hp} {n:Nat} {g:FuncId} {caps:List V} (L L1:List (Nat × List V)) (ks xs xs1:List Nat) (r:V) (jmp:LSt) (h0:E.rq/\E.nt≠AL4) (hg:Be (evF f fo)=some (g,caps))
   (hf:Cm P g (.yl n::caps) (Go.Psl.lk ((n,[.lr f E.nt ps pa pb .ready])::L)) (n::ks) (.ret r) (Go.Psl.lk ((n,[.lr f E.nt ps pa pb jmp])::L1)))
   (hL:BT (n::ks) xs ((n,[.lr f E.nt ps pa pb .ready])::L)) (hL1:BT (n::ks) xs1 ((n,[.lr f E.nt ps pa pb jmp])::L1)) (hx:∀ i∈xs1,i<1048576) (hlt:∀ i∈ks++xs,i<n) (hH:∀ i∈ks++xs,H i=Go.Psl.lk L i) (hb:AJ (Bor noH) caps caps)
   (hq:∀ F:Hp,(∀ p∈L1,F (sg (n::ks) (n+1048576) p.1)=some (p.2.map (BJ (sg (n::ks) (n+1048576)))))->(∀ i,i ∉ ks++xs->i<n->F i=H i)->Sm Q ⟨f,F,n+2097152⟩ jmp):PW P Γ eqs E (.rangeF fo ps pa pb) Q ⟨f,H,n⟩:=
 E3.keepXN L L1 ks xs xs1 r jmp ⟨.inl h0.1,h0.2⟩ hg hf hL hL1 hx hlt hH hb hq
end
end Go.Psl
namespace Go.Psl
variable {P:Program} {Γ:Tys} {eqs:Eqs} {E:Ent}
def PWk (P:Program) (Γ:Tys) (eqs:Eqs) (E:Ent):Nat->PC->(Av->St->Prop)->St->Prop
 | 0,p,Q,st=>∃ st',AI P E st st'/\PW P Γ eqs E p Q st'
 | n+1, .seq a b,Q,st=>PW P Γ eqs E a (DP (fun st=>PWk P Γ eqs E n b Q st) Q) st
 | _+1,_,_,_=>False
theorem ADm {p:PC} {Q:Av->St->Prop} {st:St}:PWk P Γ eqs E 0 p Q st=∃ st',AI P E st st'/\PW P Γ eqs E p Q st':=AF rfl
theorem ADn {n:Nat} {a b:PC} {Q:Av->St->Prop} {st:St}:PWk P Γ eqs E (n+1) (.seq a b) Q st=PW P Γ eqs E a (DP (fun st=>PWk P Γ eqs E n b Q st) Q) st:=AF rfl
theorem PWk.sound (hΓ:GOk P Γ) (hE:EB P eqs) (hm:P.follows .mixedOrders=true):∀ (n:Nat) (c:Code) (p:PC),AK E.nt c=some p->∀ (Q:Av->St->Prop) (st:St),PWk P Γ eqs E n p Q st->AW P E c Q st
 | 0,c,p,hc,Q,st,⟨st',hw,h⟩=>AW.weak hw (PW.sound hΓ hE hm c p hc Q st' h)
 | n+1,c,p,hc,Q,st,h=>by
   cases c with
   | seq a b=>
     simp only [AK,Option.bind_eq_some_iff,Option.map_eq_some_iff] at hc;obtain ⟨x,hx,y,hy,rfl⟩:=hc;refine AW.seq (AW.mono (PW.sound hΓ hE hm a x hx _ _ h) fun e st hq=>?_);cases e with
     | normal=>exact PWk.sound hΓ hE hm n b y hy Q st hq
     | _=>exact hq
   | region id ops draw=>
     exfalso;cases draw with
     | false=>
       simp only [AK,Bool.false_eq_true,if_false,Option.ite_none_right_eq_some,Option.some.injEq] at hc;obtain ⟨hd,rfl⟩:=hc;exact h
     | true=>
       simp only [AK,if_true,Option.ite_none_right_eq_some,Option.some.injEq] at hc;obtain ⟨hd,rfl⟩:=hc;revert h;unfold M8;split<;>exact fun h=>h
   | cond c a b=>
     simp only [AK,Option.bind_eq_some_iff,Option.map_eq_some_iff] at hc;obtain ⟨x,hx,y,hy,rfl⟩:=hc;exact False.elim h
   | block id a=>
     simp only [AK,Option.map_eq_some_iff] at hc;obtain ⟨x,hx,rfl⟩:=hc;exact False.elim h
   | loop a=>
     simp only [AK,Option.map_eq_some_iff] at hc;obtain ⟨x,hx,rfl⟩:=hc;exact False.elim h
   | rangeFunc fo ps a b=>
     simp only [AK,Option.bind_eq_some_iff,Option.map_eq_some_iff] at hc;obtain ⟨x,hx,y,hy,rfl⟩:=hc;exact False.elim h
   | skip=>cases hc;exact False.elim h
   | ret=>cases hc;exact False.elim h
   | exit id=>cases hc;exact False.elim h
   | _=>cases hc
theorem Cm.byK {f:FuncId} {fn:Func} {p:PC} {args:List V} {Hin:Hp} {ks:List Nat} {res:Res} {H1:List (Nat × List V)} (n:Nat) (hΓ:GOk P Γ) (hE:EB P eqs) (hm:P.follows .mixedOrders=true) (N:Nat) (hf:P.funcs[f]?= some fn) (hc:fn.body.bind (AK fn.ntmps)=some p) (hname:(fn.name == "runtime.NumGoroutine")=false)
   (hn:args.length<=fn.ntmps) (hcl:∀ v∈args,A2 (· < N) AR v) (hids:H3 N Hin) (hks:∀ i∈ks,i<N) (hri:LD res.v H1) (h:∀ E:Ent,(∀ i,E.stab i↔i∈ks)->E.nt=fn.ntmps/\E.rq->PWk P Γ eqs E n p (Mh Γ fn ks res H1) ⟨Dn 0 args,Hin,N⟩):Cm P f args Hin ks res (lk H1):=by
 cases hb:fn.body with
 | none=>rw [hb] at hc;cases hc
 | some c=>rw [hb] at hc;exact Cm.intro hΓ N hf hb hname hn hcl hids hks hri fun E hE' hs hrd=>PWk.sound hΓ hE hm n c p (by rw [hE'];exact hc) _ _ (h E hs ⟨hE',hrd⟩)
theorem Ct.byK {f:FuncId} {fn:Func} {p:PC} {args:List V} {r:V} {H1:List (Nat × List V)} (n:Nat) (hΓ:GOk P Γ) (hE:EB P eqs) (hm:P.follows .mixedOrders=true) (hf:P.funcs[f]?= some fn) (hc:fn.body.bind (AK fn.ntmps)=some p) (hname:(fn.name == "runtime.NumGoroutine")=false)
   (hn:args.length<=fn.ntmps) (hcl:∀ v∈args,I8 v) (hri:LD r H1) (h:∀ E:Ent,(∀ i,¬ E.stab i)->E.nt=fn.ntmps/\E.rq->PWk P Γ eqs E n p (dL Γ fn r H1) ⟨Dn 0 args,fun _=>none,0⟩):Ct P f args r H1:=
 Cm.byK n hΓ hE hm 0 hf hc hname hn (fun v hv=>A2.mono (fun _ h=>h.elim) (fun _ h=>h) (hcl v hv)) nofun nofun hri fun E hs hn=>h E (fun i hi=>by have:=(hs i).1 hi;cases this) hn
end Go.Psl
namespace Go.Psl
variable {P:Program}
theorem Cm.give {f:FuncId} {args args':List V} {Hin:Hp} {res:Res} {H1:Hp} (h:Cm P f args (fun _=>none) [] res H1) (hf:AJ (Fz1 Hin) args' args):Cm P f args' Hin [] res H1:=by
 refine ⟨h.1,fun G W xs him hargs hpre=>?_⟩
 have him'0:∀ b,Jw G Hin b->b<W.heap.size:=fun b hb=>by
   rcases hb with hb | ⟨i,hi,hph,rfl⟩
   . exact him.1 b hb
   . cases hc:Hin i with
     | none=>simp [InH,hc] at hi
     | some cs=>
       rcases hpre.hb i cs hc with ⟨h1,_⟩ | ⟨_,_,_,c,T,h3,_⟩ | ⟨_,_,_,⟨_,fr,nt,ps,pa,pb,jmp,rec,_,h4,_⟩ | ⟨_,es,ms,ck,_,h4,_⟩ | ⟨_,bx,bp,bv,_,h4,_⟩⟩
       . rw [h1] at hph;cases hph
       . exact (Array.getElem?_eq_some_iff.1 h3.choose_spec.1).1
       . exact (Array.getElem?_eq_some_iff.1 h4).1
       . exact (Array.getElem?_eq_some_iff.1 h4).1
       . exact (Array.getElem?_eq_some_iff.1 h4).1
 have him':GW (Jw G Hin) W:=⟨him'0,him.2.mono fun b hb=>⟨.inl hb,rfl⟩⟩
 have hargs':AJ (R2 {G with Im:=Jw G Hin} W) args xs.toList:=AJ.of_get (by rw [<-hf.length,hargs.length]) fun i a x ha hx=>by
   obtain ⟨a',ha',hr⟩:=hf.get2 ha;obtain ⟨y,hy,hry⟩:=hargs.get ha';rw [hx] at hy;cases hy;exact fz1 hpre.hb hr hry
 have hno:∀ b,¬ Bm {G with Im:=Jw G Hin} (fun _=>none) b:=fun b ⟨i,hi,_⟩=>by simp [InH] at hi
 refine Calls.mono (h.2 {G with Im:=Jw G Hin} W xs him' hargs' ⟨fun i cs hc=>(by cases hc),fun i j hi=>(by simp [InH] at hi),fun i hi=>(by cases hi)⟩) fun e W' ⟨G',p⟩=>?_
 refine ⟨G',p.os,p.tape,p.output,p.drawn,p.size,fun b hb _=>p.block b hb (hno b),fun b hb=>?_,fun b hb=>p.im0 b (.inl hb),p.rv,p.wf,fun i cs hc=>?_,p.inj,fun i hi=>(by cases hi)⟩
 . obtain ⟨h1,h2⟩:=p.im b hb
   refine ⟨h1,?_⟩;rcases h2 with (h2 | ⟨i,hi,hph,rfl⟩) | h2 | h2
   . exact .inl h2
   . exact .inr (.inr ⟨i,hi,hph,rfl⟩)
   . exact .inr (.inl h2)
   . exact absurd h2 (hno b)
 . obtain ⟨h1,h2,h3⟩:=p.hb i cs hc
   refine ⟨h1,fun hp=>?_,h3⟩;rcases h2 hp with h2 | h2
   . exact .inl h2
   . exact absurd h2 (hno _)
end Go.Psl
namespace Go.Air
structure Nws where
 po:Int
 ki:Int
 se:Int
 ca:Int
 lo:Int
 hi:Int
deriving DecidableEq,Inhabited
structure Rts where
 p:Int
 t:Int
 w:Int
end Go.Air
namespace Go.Proofs.Tryz
open Go.Psl
open Go.Air
abbrev nwL (x:Nws):List D:=[di x.po,di x.ki,di x.se,di x.ca,di x.lo,di x.hi]
abbrev ALV (l:List Nws):D:= .sl 6 (l.map nwL)
abbrev cF (l:List Nws) (r:Rts):D:= .ref [ALV l,di 0,di r.p,di r.t,di r.w,di r.w]
abbrev spL (s:Int × Int):List D:=[di s.1,di s.2]
structure CnD where
 ns:List Nws
 r:Rts
 po:Int
 ki:Int
 nw:Int
def cRes (o:Option (Nat × Nat)):List (Nat × List V):=match o with
 | none=>[(4194304,[vi 0]),(5242880,[vi 0]),(6291456,[vb false])]
 | some p=>[(4194304,[vi p.1]),(5242880,[vi p.2]),(6291456,[vb true])]
def eL (d:CnD) (f:Nat->V) (i:Nat) (x:Nws) (z:LSt) (o:Option (Nat × Nat)):List (Nat × List V):=(23068672,[.lr f 51 [28,29] ALe ALf z])::(22020096,[.d (cF d.ns d.r)])::(22020097,[vi d.po])::(22020098,[vi d.ki])::(22020099,[vi d.nw])::(11534336,[.d (cF d.ns d.r)])::(11534337,[vi d.po])::(11534338,[vi d.ki])::(11534339,[vi d.nw])::(0,[.d (cF d.ns d.r)])::(1048576,[vi d.po])::(2097152,[vi d.ki])::(3145728,[vi d.nw])::(cRes o++[(13631488,[vi i]),(15728640,[vi x.po,vi x.ki,vi x.se,vi x.ca,vi x.lo,vi x.hi])])
end Go.Proofs.Tryz
namespace Go.Proofs.YtnjclpglagcagaaGreat
open Go.Joins Go.ChangeShapes Go.WideShapes Go.ChangeAt Go.RowKit Go.Psl
section
variable {H:Type} {enc:TypeId × Value->H} {P:Program} {w:World} {base:Nat} {spare:Nat->Bool} {held:Bool}
end
theorem AUg {H:Type} {enc:TypeId × Value->H} {W:World} {base:Nat} {v:Value} {d:DataW H} {p:List MemPlace} (hval:Value.okWide Tryz.prog W .any base 44 v) (h:DataW.Trod enc Tryz.prog W 0 (fun _=>true) true 44 v d p):
   ∃ k:List Tryz.Gal,R2 (GW W) W (.d (Tryz.cT k)) v:=by
 obtain ⟨ds,h1,h2⟩:=VX (n:=5) Tryz.underlying44 (by kernel_rfl) hval h;obtain ⟨k,hk⟩:=fN h1;cases hk;exact ⟨k,h2⟩
end Go.Proofs.YtnjclpglagcagaaGreat
namespace Go.Proofs.Tryz
open Go.Psl
theorem dM {r:List (Int × Int)} (h:C7 r=true):∀ q∈r,bd 268435456 q:=AUl (by unfold C7 at h;simp only [Bool.and_eq_true] at h;exact h.1.2)
theorem Ws {r:List (Int × Int)} (h:C7 r=true):1<=r.length/\r.length<=64:=by
 unfold C7 at h;simp only [Bool.and_eq_true,decide_eq_true_eq] at h;exact h.1.1
theorem GM {M N:Int} {p:Int × Int} (h:bd M p) (hm:M<=N):bd N p:=by unfold bd at*;omega
abbrev vu (n:Int):V:= .d (.lit (.int .u64 n))
theorem UL (x1 x0 y1 y0:Int):(x1*4294967296+x0)*(y1*4294967296+y0)=x1*y1*18446744073709551616+(x1*y0+x0*y1)*4294967296+x0*y0:=by
 have e1:(x1*4294967296)*(y1*4294967296)=x1*y1*18446744073709551616:=by
   rw [show x1*4294967296*(y1*4294967296)=x1*y1*(4294967296*4294967296) by rw [Int.mul_assoc,Int.mul_left_comm 4294967296,<-Int.mul_assoc]];rfl
 rw [Int.mul_add,Int.add_mul,Int.add_mul,e1,Int.add_mul];have e2:x0*(y1*4294967296)=x0*y1*4294967296:=by rw [Int.mul_assoc]
 have e3:x1*4294967296*y0=x1*y0*4294967296:=by rw [Int.mul_assoc,Int.mul_comm 4294967296,<-Int.mul_assoc]
 rw [e2,e3];omega
theorem DE {a b c d:Int} (h1:a<=c) (h2:b<=d) (h0:0<=b) (h3:0<=c):a*b<=c*d:=Int.le_trans (Int.mul_le_mul_of_nonneg_right h1 h0) (Int.mul_le_mul_of_nonneg_left h2 h3)
theorem jD (x y:Int) (hx:0<=x/\x<=1099511627776) (hy:0<=y/\y<=1099511627776):Ct prog 186 [vu x,vu y] (.tup [vu (x*y/18446744073709551616),vu (x*y%18446744073709551616)]) []:=by
 refine CB func186 c186 fun E hE=>?_
 obtain ⟨x1,x0,rfl,hx1,hx1',hx0,hx0'⟩:∃ x1 x0:Int,x=x1*4294967296+x0/\0<=x1/\x1<=256/\0<=x0/\x0<4294967296:=⟨x/4294967296,x%4294967296,by omega,by omega,by omega,by omega,by omega⟩
 obtain ⟨y1,y0,rfl,hy1,hy1',hy0,hy0'⟩:∃ y1 y0:Int,y=y1*4294967296+y0/\0<=y1/\y1<=256/\0<=y0/\y0<4294967296:=⟨y/4294967296,y%4294967296,by omega,by omega,by omega,by omega,by omega⟩
 have a1:bits .and .u64 (x1*4294967296+x0) 4294967295=x0:=by rw [GA (by omega) (by omega)];omega
 have a2:bits .and .u64 (y1*4294967296+y0) 4294967295=y0:=by rw [GA (by omega) (by omega)];omega
 have a3:(x1*4294967296+x0)/4294967296=x1:=by omega
 have a4:(y1*4294967296+y0)/4294967296=y1:=by omega
 have m:=UL x1 x0 y1 y0;have b11:x1*y1<=256*256:=DE hx1' hy1' hy1 (by omega);have b10:x1*y0<=256*4294967295:=DE hx1' (by omega) hy0 (by omega);have b01:x0*y1<=4294967295*256:=DE (by omega) hy1' hy1 (by omega);have b00:x0*y0<=4294967295*4294967295:=DE (by omega) (by omega) hy0 (by omega);have c11:=Int.mul_nonneg hx1 hy1;have c10:=Int.mul_nonneg hx1 hy0;have c01:=Int.mul_nonneg hx0 hy1;have c00:=Int.mul_nonneg hx0 hy0
 generalize hp11:x1*y1=p11 at*
 generalize hp10:x1*y0=p10 at*
 generalize hp01:x0*y1=p01 at*
 generalize hp00:x0*y0=p00 at*
 have e1:IntKind.wrap .u64 p00=p00:=Ay (by omega) (by omega);have e2:IntKind.wrap .u64 p10=p10:=Ay (by omega) (by omega);have e3:IntKind.wrap .u64 p01=p01:=Ay (by omega) (by omega);have e4:IntKind.wrap .u64 p11=p11:=Ay (by omega) (by omega);have e5:IntKind.wrap .u64 (p10+p00/4294967296)=p10+p00/4294967296:=Ay (by omega) (by omega);have e6:bits .and .u64 (p10+p00/4294967296) 4294967295=(p10+p00/4294967296)%4294967296:=GA (by omega) (by omega);have e7:IntKind.wrap .u64 ((p10+p00/4294967296)%4294967296+p01)=(p10+p00/4294967296)%4294967296+p01:=Ay (by omega) (by omega);have e8:IntKind.wrap .u64 (p11+(p10+p00/4294967296)/4294967296)=p11+(p10+p00/4294967296)/4294967296:=Ay (by omega) (by omega);have e9:IntKind.wrap .u64 (p11+(p10+p00/4294967296)/4294967296+((p10+p00/4294967296)%4294967296+p01)/4294967296)=p11+(p10+p00/4294967296)/4294967296+((p10+p00/4294967296)%4294967296+p01)/4294967296:=Ay (by omega) (by omega);simp [p186,a1,a2,a3,a4,hp11,hp10,hp01,hp00,e1,e2,e3,e4,e5,e6,e7,e8,e9];apply RZ;simp [results186];rw [m];refine ⟨by omega,?_⟩;rw [Bl]
def Bp (x:Int):Int:=if x=0 then 0 else (Nat.log2 x.toNat:Int)+1
theorem ANI (n k:Nat) (h:2^k<=n):Nat.log2 n=Nat.log2 (n/2^k)+k:=by
 induction k generalizing n with
 | zero=>simp
 | succ k ih=>
   have h2:2<=n:=by
     have:2^1<=2^(k+1):=Nat.pow_le_pow_right (by omega) (by omega);omega
   have h1:Nat.log2 n=Nat.log2 (n/2)+1:=by rw [Nat.log2_def];simp [h2]
   rw [h1,ih (n/2) (by rw [Nat.pow_succ] at h;omega),Nat.div_div_eq_div_mul,Nat.pow_succ,Nat.mul_comm 2];omega
theorem Fv (x:Int) (k:Nat) (h:2^k<=x):Bp (x/2^k)+k=Bp x:=by
 obtain ⟨n,rfl⟩:=Int.eq_ofNat_of_zero_le (show 0<=x from Int.le_trans (Int.pow_nonneg (by decide)) h);have h':2^k<=n:=by exact_mod_cast h
 have hp:0<2^k:=Nat.pow_pos (by omega);have e:((n:Int)/2^k)=((n/2^k:Nat):Int):=by push_cast;rfl
 have h1:1<=n/2^k:=by rw [Nat.le_div_iff_mul_le hp];omega
 rw [e];unfold Bp;rw [if_neg (by omega),if_neg (by omega)];simp only [Int.toNat_natCast];rw [ANI n k h'];omega
theorem II (x:Int) (h:1<=x):2^(Bp x-1).toNat<=x/\x<2^(Bp x).toNat/\1<=Bp x:=by
 obtain ⟨n,rfl⟩:=Int.eq_ofNat_of_zero_le (show 0<=x by omega);unfold Bp;rw [if_neg (by omega)];have e1:(((Nat.log2 (n:Int).toNat:Nat):Int)+1-1).toNat=Nat.log2 n:=by simp
 have e2:(((Nat.log2 (n:Int).toNat:Nat):Int)+1).toNat=Nat.log2 n+1:=by simp
 rw [e1,e2];have h1:=Nat.log2_self_le (n:=n) (by omega);have h2:=Nat.lt_log2_self (n:=n);refine ⟨by exact_mod_cast h1,by exact_mod_cast h2,by omega⟩
theorem AUk:∀ m:Fin 256,(⟨#[0,1,2,2,3,3,3,3,4,4,4,4,4,4,4,4,5,5,5,5,5,5,5,5,5,5,5,5,5,5,5,5,6,6,6,6,6,6,6,6,6,6,6,6,6,6,6,6,6,6,6,6,6,6,6,6,6,6,6,6,6,6,6,6,7,7,7,7,7,7,7,7,7,7,7,7,7,7,7,7,7,7,7,7,7,7,7,7,7,7,7,7,7,7,7,7,7,7,7,7,7,7,7,7,7,7,7,7,7,7,7,7,7,7,7,7,7,7,7,7,7,7,7,7,7,7,7,7,8,8,8,8,8,8,8,8,8,8,8,8,8,8,8,8,8,8,8,8,8,8,8,8,8,8,8,8,8,8,8,8,8,8,8,8,8,8,8,8,8,8,8,8,8,8,8,8,8,8,8,8,8,8,8,8,8,8,8,8,8,8,8,8,8,8,8,8,8,8,8,8,8,8,8,8,8,8,8,8,8,8,8,8,8,8,8,8,8,8,8,8,8,8,8,8,8,8,8,8,8,8,8,8,8,8,8,8,8,8,8,8,8,8,8,8,8,8,8,8,8,8,8,8,8,8,8,8]⟩:ByteArray)[m.val]?.map (·.toNat)=some (Bp m.val).toNat:=by decide+kernel
theorem fA (n:Nat) (h:n<256):∃ b,(⟨#[0,1,2,2,3,3,3,3,4,4,4,4,4,4,4,4,5,5,5,5,5,5,5,5,5,5,5,5,5,5,5,5,6,6,6,6,6,6,6,6,6,6,6,6,6,6,6,6,6,6,6,6,6,6,6,6,6,6,6,6,6,6,6,6,7,7,7,7,7,7,7,7,7,7,7,7,7,7,7,7,7,7,7,7,7,7,7,7,7,7,7,7,7,7,7,7,7,7,7,7,7,7,7,7,7,7,7,7,7,7,7,7,7,7,7,7,7,7,7,7,7,7,7,7,7,7,7,7,8,8,8,8,8,8,8,8,8,8,8,8,8,8,8,8,8,8,8,8,8,8,8,8,8,8,8,8,8,8,8,8,8,8,8,8,8,8,8,8,8,8,8,8,8,8,8,8,8,8,8,8,8,8,8,8,8,8,8,8,8,8,8,8,8,8,8,8,8,8,8,8,8,8,8,8,8,8,8,8,8,8,8,8,8,8,8,8,8,8,8,8,8,8,8,8,8,8,8,8,8,8,8,8,8,8,8,8,8,8,8,8,8,8,8,8,8,8,8,8,8,8,8,8,8,8,8,8]⟩:ByteArray)[n]?= some b/\(b.toNat:Int)=Bp n:=by
 have:=AUk ⟨n,h⟩;simp only [Option.map_eq_some_iff] at this;obtain ⟨b,h1,h2⟩:=this;refine ⟨b,h1,?_⟩;rw [h2];have:0<=Bp n:=by unfold Bp;split<;>omega
 omega
theorem ro (x:Int) (hx:0<=x/\x<=18446744073709551615):Ct prog 210 [vu x] (vi (Bp x)) []:=by
 refine CB func210 c210 fun E hE=>?_
 have fin:∀ (y c:Int),0<=y->y<256->0<=c->c<=56->Bp y+c=Bp x->∃ b,(⟨#[0,1,2,2,3,3,3,3,4,4,4,4,4,4,4,4,5,5,5,5,5,5,5,5,5,5,5,5,5,5,5,5,6,6,6,6,6,6,6,6,6,6,6,6,6,6,6,6,6,6,6,6,6,6,6,6,6,6,6,6,6,6,6,6,7,7,7,7,7,7,7,7,7,7,7,7,7,7,7,7,7,7,7,7,7,7,7,7,7,7,7,7,7,7,7,7,7,7,7,7,7,7,7,7,7,7,7,7,7,7,7,7,7,7,7,7,7,7,7,7,7,7,7,7,7,7,7,7,8,8,8,8,8,8,8,8,8,8,8,8,8,8,8,8,8,8,8,8,8,8,8,8,8,8,8,8,8,8,8,8,8,8,8,8,8,8,8,8,8,8,8,8,8,8,8,8,8,8,8,8,8,8,8,8,8,8,8,8,8,8,8,8,8,8,8,8,8,8,8,8,8,8,8,8,8,8,8,8,8,8,8,8,8,8,8,8,8,8,8,8,8,8,8,8,8,8,8,8,8,8,8,8,8,8,8,8,8,8,8,8,8,8,8,8,8,8,8,8,8,8,8,8,8,8,8,8]⟩:ByteArray)[y.toNat]?= some b/\IntKind.wrap .u8 y=y/\IntKind.wrap .i64 (b.toNat:Int)=(b.toNat:Int)/\IntKind.wrap .i64 (c+(b.toNat:Int))=Bp x/\0<=y:=fun y c h0 h1 h2 h3 h4=>by
   obtain ⟨b,q1,q2⟩:=fA y.toNat (by omega);have hb:(b.toNat:Int)<256:=by have:=b.toNat_lt;omega
   rw [Int.toNat_of_nonneg h0] at q2;exact ⟨b,q1,by simp [IntKind.wrap,IntKind.bits,IntKind.signed];omega,AD (by omega) (by omega),by rw [AD (by omega) (by omega)];omega,h0⟩
 have e16:IntKind.wrap .i64 16=16:=by decide
 have e8:IntKind.wrap .i64 8=8:=by decide
 have e48:IntKind.wrap .i64 48=48:=by decide
 have e40:IntKind.wrap .i64 40=40:=by decide
 have e24:IntKind.wrap .i64 24=24:=by decide
 have e56:IntKind.wrap .i64 56=56:=by decide
 have s8:=fun (y:Int) (h:256<=y)=>Fv y 8 (by simpa using h)
 have s16:=fun (y:Int) (h:65536<=y)=>Fv y 16 (by simpa using h)
 have s32:=fun (y:Int) (h:4294967296<=y)=>Fv y 32 (by simpa using h)
 simp at s8 s16 s32;by_cases h1:4294967296<=x
 . have q1:=s32 x h1
   by_cases h2:65536<=x/4294967296
   . have q2:=s16 _ h2
     by_cases h3:256<=x/4294967296/65536
     . have q3:=s8 _ h3
       obtain ⟨b,r1,r2,r3,r4,r0⟩:=fin (x/4294967296/65536/256) 56 (by omega) (by omega) (by omega) (by omega) (by omega);simp [p210,h1,h2,h3,r0,r1,r2,r3,e48,e56];apply RZ;simp [results210,r4]
     . obtain ⟨b,r1,r2,r3,r4,r0⟩:=fin (x/4294967296/65536) 48 (by omega) (by omega) (by omega) (by omega) (by omega)
       simp [p210,h1,h2,h3,r0,r1,r2,r3,e48];apply RZ;simp [results210,r4]
   . by_cases h3:256<=x/4294967296
     . have q3:=s8 _ h3
       obtain ⟨b,r1,r2,r3,r4,r0⟩:=fin (x/4294967296/256) 40 (by omega) (by omega) (by omega) (by omega) (by omega);simp [p210,h1,h2,h3,r0,r1,r2,r3,e40];apply RZ;simp [results210,r4]
     . obtain ⟨b,r1,r2,r3,r4,r0⟩:=fin (x/4294967296) 32 (by omega) (by omega) (by omega) (by omega) (by omega)
       simp [p210,h1,h2,h3,r0,r1,r2,r3];apply RZ;simp [results210,r4]
 . by_cases h2:65536<=x
   . have q2:=s16 _ h2
     by_cases h3:256<=x/65536
     . have q3:=s8 _ h3
       obtain ⟨b,r1,r2,r3,r4,r0⟩:=fin (x/65536/256) 24 (by omega) (by omega) (by omega) (by omega) (by omega);simp [p210,h1,h2,h3,r0,r1,r2,r3,e16,e24];apply RZ;simp [results210,r4]
     . obtain ⟨b,r1,r2,r3,r4,r0⟩:=fin (x/65536) 16 (by omega) (by omega) (by omega) (by omega) (by omega)
       simp [p210,h1,h2,h3,r0,r1,r2,r3,e16];apply RZ;simp [results210,r4]
   . by_cases h3:256<=x
     . have q3:=s8 _ h3
       obtain ⟨b,r1,r2,r3,r4,r0⟩:=fin (x/256) 8 (by omega) (by omega) (by omega) (by omega) (by omega);simp [p210,h1,h2,h3,r0,r1,r2,r3,e8];apply RZ;simp [results210,r4]
     . obtain ⟨b,r1,r2,r3,r4,r0⟩:=fin x 0 (by omega) (by omega) (by omega) (by omega) (by omega)
       rw [Int.zero_add,r3] at r4;simp [p210,h1,h2,h3,r0,r1,r2,r3];apply RZ;simp [results210,r4]
theorem Oh (x:Int) (h0:0<=x) (h1:x<=18446744073709551615):0<=Bp x/\Bp x<=64:=by
 by_cases h:x=0
 . subst h;decide
 . obtain ⟨q1,q2,q3⟩:=II x (by omega)
   refine ⟨by omega,?_⟩
   have:¬ 65<=Bp x:=fun hh=>by
     have h2:(2:Int)^64<=2^(Bp x-1).toNat:=by
       have:2^64<=2^(Bp x-1).toNat:=Nat.pow_le_pow_right (by omega) (by omega)
       exact_mod_cast this
     have:(2:Int)^64=18446744073709551616:=by decide
     omega
   omega
theorem ASH (x:Int) (hx:0<=x/\x<=18446744073709551615):Ct prog 198 [vu x] (vi (64-Bp x)) []:=by
 refine CB func198 c198 fun E hE=>?_
 simp [p198];refine CLa (ro x hx) ?_;have:=Oh x hx.1 hx.2;have e:IntKind.wrap .i64 (64-Bp x)=64-Bp x:=AD (by omega) (by omega);simp [e];apply RZ;simp [results198]
theorem bg {u v D:Int} (hD:0<D) (hu:u<D) (hv:v<4294967296):(u*4294967296+v)/D<4294967296:=by
 rw [Int.ediv_lt_iff_lt_mul hD];have:u*4294967296+4294967296<=4294967296*D:=by omega
 omega
theorem LJ (s:Nat):(1:Int)<=2^s:=by
 have:0<2^s:=Nat.pow_pos (by omega)
 exact_mod_cast this
theorem WF (s t n:Nat) (h:s+t=n):(2:Int)^s*2^t=2^n:=by rw [<-h,Int.pow_add]
theorem APT (lo y:Int) (hlo:0<=lo/\lo<=18446744073709551615) (hy:1<=y/\y<=18446744073709551615):Ct prog 188 [vu 0,vu lo,vu y] (.tup [vu (lo/y),vu (lo%y)]) []:=by
 refine CB func188 ASi fun E hE=>?_
 have h1:(y == 0)=false:=by simp;omega
 have h2:decide (y<=0)=false:=by simp;omega
 have h3:¬ y=0:=by omega
 have h5:¬ y<=0:=by omega
 have q0:0<=lo/y:=Int.ediv_nonneg hlo.1 (by omega);have q1:lo/y<=lo:=Int.ediv_le_self _ hlo.1;have e1:lo.tdiv y=lo/y:=Int.tdiv_eq_ediv_of_nonneg hlo.1;have e2:lo.tmod y=lo%y:=Int.tmod_eq_emod_of_nonneg hlo.1;have e3:IntKind.wrap .u64 (lo/y)=lo/y:=Ay q0 (by omega);simp [p188,h3,h5,e1,e2,e3];apply RZ;simp [results188]
theorem jE (hi lo y:Int) (hhi:1<=hi/\hi<y) (hlo:0<=lo/\lo<=18446744073709551615) (hy:y<=18446744073709551615):Ct prog 188 [vu hi,vu lo,vu y] (.tup [vu ((hi*18446744073709551616+lo)/y),vu ((hi*18446744073709551616+lo)%y)]) []:=by
 refine CB func188 ASi fun E hE=>?_
 have h3:¬ y=0:=by omega
 have h5:¬ y<=hi:=by omega
 have h6:¬ hi=0:=by omega
 simp [p188,h3,h5,h6];refine CLa (ASH y (by omega)) ?_;obtain ⟨b1,b2,b3⟩:=II y (by omega);obtain ⟨b4,b5⟩:=Oh y (by omega) hy;obtain ⟨S,hS,hS2⟩:∃ S:Nat,64-Bp y=S/\S<=63:=⟨(64-Bp y).toNat,by omega,by omega⟩
 obtain ⟨T,hT⟩:∃ T:Nat,S+T=64:=⟨64-S,by omega⟩
 have p1:(2:Int)^S*2^T=18446744073709551616:=by rw [WF S T 64 hT];rfl
 have p2:=LJ S;have p3:=LJ T;have w1:IntKind.wrap .u64 (S:Int)=S:=Ay (by omega) (by omega);have w2:IntKind.wrap .u64 (64-(S:Int))=T:=by rw [Ay (by omega) (by omega)];omega
 have eL:(Bp y).toNat=T:=by omega
 have eL1:(2:Int)^(Bp y-1).toNat*2=2^T:=by
   obtain ⟨T',rfl⟩:∃ T',T=T'+1:=⟨T-1,by omega⟩
   rw [show (Bp y-1).toNat=T' by omega,Int.pow_succ]
 rw [eL] at b2;have d1:y*2^S<18446744073709551616:=by rw [<-p1,Int.mul_comm];exact Int.mul_lt_mul_of_pos_left b2 (by omega)
 have d2:9223372036854775808<=y*2^S:=by
   have:2^T*2^S<=y*2*2^S:=Int.mul_le_mul_of_nonneg_right (by omega) (by omega);rw [Int.mul_comm (2^T),p1] at this;have e:y*2*2^S=2*(y*2^S):=by rw [Int.mul_comm y 2,Int.mul_assoc]
   omega
 have d3:hi*2^S+2^S<=y*2^S:=by
   have:(hi+1)*2^S<=y*2^S:=Int.mul_le_mul_of_nonneg_right (by omega) (by omega);rw [Int.add_mul,Int.one_mul] at this;exact this
 have d4:0<=hi*2^S:=Int.mul_nonneg (by omega) (by omega)
 obtain ⟨lh,ll,hl,l1,l2,l3,l4⟩:∃ lh ll:Int,lo=lh*2^T+ll/\0<=lh/\lh<2^S/\0<=ll/\ll<2^T:=by
   refine ⟨lo/2^T,lo%2^T,by rw [Int.mul_comm];exact (Int.mul_ediv_add_emod lo (2^T)).symm,Int.ediv_nonneg hlo.1 (by omega),?_,Int.emod_nonneg _ (by omega),Int.emod_lt_of_pos _ (by omega)⟩;rw [Int.ediv_lt_iff_lt_mul (by omega),p1];omega
 have l5:lo/2^T=lh:=by
   rw [hl,Int.add_comm,Int.add_mul_ediv_right _ _ (by omega),Int.ediv_eq_zero_of_lt l3 l4];omega
 have l6:lo*2^S=lh*18446744073709551616+ll*2^S:=by
   rw [hl,Int.add_mul,Int.mul_assoc,Int.mul_comm (2^T),p1]
 have l7:ll*2^S+2^S<=18446744073709551616:=by
   have:(ll+1)*2^S<=2^T*2^S:=Int.mul_le_mul_of_nonneg_right (by omega) (by omega);rw [Int.add_mul,Int.one_mul,Int.mul_comm (2^T),p1] at this;exact this
 have l8:0<=ll*2^S:=Int.mul_nonneg l3 (by omega)
 have hU:(hi*18446744073709551616+lo)*2^S=(hi*2^S+lh)*18446744073709551616+ll*2^S:=by
   rw [Int.add_mul,l6,Int.add_mul,Int.mul_right_comm];omega
 have hor:bits .or .u64 (hi*2^S) lh=hi*2^S+lh:=kl S (by omega) l1 l2 (by omega);have v1:IntKind.wrap .u64 (y*2^S)=y*2^S:=Ay (by omega) (by omega);have v2:IntKind.wrap .u64 (hi*2^S)=hi*2^S:=Ay (by omega) (by omega);have v3:IntKind.wrap .u64 (lo*2^S)=ll*2^S:=by rw [Bl,l6];omega
 have c1:(0:Int)<=S/\(S:Int)<=64:=by omega
 have c2:(0:Int)<=T/\(T:Int)<=64:=by omega
 have hN:∀ q r,(hi*18446744073709551616+lo)*2^S=q*(y*2^S)+r->0<=r->r<y*2^S->q=(hi*18446744073709551616+lo)/y/\r/2^S=(hi*18446744073709551616+lo)%y:=fun q r h1 h2 h3=>by
   generalize hi*18446744073709551616+lo=N at*
   have hq:q=N/y:=by
     have e:N*2^S/(y*2^S)=N/y:=Int.mul_ediv_mul_of_pos_left _ _ (by omega);rw [<-e,h1,Int.add_comm,Int.add_mul_ediv_right _ _ (by omega),Int.ediv_eq_zero_of_lt h2 h3];omega
   refine ⟨hq,?_⟩;have e2:N*2^S=(q*y)*2^S+r:=by rw [h1,Int.mul_assoc]
   have e3:r=(N-q*y)*2^S:=by rw [Int.sub_mul];omega
   rw [e3,Int.mul_ediv_cancel _ (by omega),hq,Int.emod_def,Int.mul_comm]
 simp [hS,w1,w2,c1.1,c1.2,c2.1,c2.2,v1,v2,v3,l5,hor]
 generalize y*2^S=D at*
 generalize hu:hi*2^S+lh=u at*
 generalize ll*2^S=w at*
 have m1:bits .and .u64 D 4294967295=D%4294967296:=GA (by omega) (by omega);have m2:bits .and .u64 w 4294967295=w%4294967296:=GA (by omega) (by omega);obtain ⟨y1,y0,hy1,hy0⟩:∃ y1 y0:Int,D/4294967296=y1/\D%4294967296=y0:=⟨_,_,rfl,rfl⟩
 obtain ⟨w1',w0,hw1,hw0⟩:∃ w1 w0:Int,w/4294967296=w1/\w%4294967296=w0:=⟨_,_,rfl,rfl⟩
 have hDe:D=y1*4294967296+y0:=by omega
 have hy1n:¬ y1=0:=by omega
 have hu0:0<=u:=by omega
 have huD:u<D:=by omega
 have td:∀ a:Int,0<=a->a.tdiv y1=a/y1:=fun a ha=>Int.tdiv_eq_ediv_of_nonneg ha
 have dv:∀ a:Int,0<=a->0<=a/y1/\a/y1<=a/\a/y1*y1+a%y1=a/\0<=a%y1/\a%y1<y1:=fun a ha=>⟨Int.ediv_nonneg ha (by omega),Int.ediv_le_self _ ha,by rw [Int.mul_comm];exact Int.mul_ediv_add_emod a y1,Int.emod_nonneg _ hy1n,Int.emod_lt_of_pos _ (by omega)⟩
 have dq:∀ a v:Int,0<=a->0<=v->v<4294967296->(a*4294967296+v)/D<=a/y1:=fun a v ha hv hv'=>by
   obtain ⟨z1,z2,z3,z4,z5⟩:=dv a ha
   have hlt:(a*4294967296+v)/D<a/y1+1:=by
     rw [Int.ediv_lt_iff_lt_mul (by omega),hDe]
     have e:(a/y1+1)*(y1*4294967296+y0)=(a/y1*y1)*4294967296+y1*4294967296+(a/y1+1)*y0:=by
       rw [Int.add_mul,Int.one_mul,Int.mul_add,<-Int.mul_assoc,Int.add_mul,Int.one_mul];omega
     have:0<=(a/y1+1)*y0:=Int.mul_nonneg (by omega) (by omega);omega
   omega
 obtain ⟨z1,z2,z3,z4,z5⟩:=dv u hu0;have k1:IntKind.wrap .u64 (u/y1)=u/y1:=Ay z1 (by omega);have k2:IntKind.wrap .u64 (u/y1*y1)=u/y1*y1:=Ay (Int.mul_nonneg z1 (by omega)) (by omega);have k3:IntKind.wrap .u64 (u-u/y1*y1)=u-u/y1*y1:=Ay (by omega) (by omega);simp [m1,m2,hy1,hy0,hw1,hw0,hy1n,td u hu0,k1,k2,k3]
 have loopy:∀ a v:Int,0<=a->a<D->0<=v->v<4294967296->∃ Q:Int,Q=(a*4294967296+v)/D/\0<=Q/\Q<4294967296/\Q*D<=a*4294967296+v/\a*4294967296+v<Q*D+D/\Q<=a/y1/\
     (∀ q r,Q<=q->q*y1+r=a->4294967296<=q\/4294967296*r+v<q*y0->Q<=q-1)/\(∀ q r,Q<=q->q*y1+r=a->q*y0<=4294967296*r+v->q=Q)/\(∀ q r,0<=q->q*y1+r=a->4294967296<=r->q*y0<=4294967296*r+v):=fun a v ha haD hv hv'=>by
   refine ⟨_,rfl,Int.ediv_nonneg (by omega) (by omega),bg (by omega) haD hv',Int.ediv_mul_le _ (by omega),?_,dq a v ha hv hv',fun q r h1 h2 h3=>?_,fun q r h1 h2 h3=>?_,fun q r h1 h2 h3=>?_⟩
   . have:=Int.lt_ediv_add_one_mul_self (a*4294967296+v) (show 0<D by omega)
     rw [Int.add_mul,Int.one_mul] at this;exact this
   . rw [hDe] at h1 ⊢
     exact Q8 (by omega) (by omega) (by omega) (by omega) ha (by omega) hv hv' h1 h2 h3
   . rw [hDe] at h1 ⊢
     exact Q9 (by omega) (by omega) (by omega) h1 h2 h3
   . exact O0 (by omega) (by omega) (by omega) h1 (by omega:a<y1*4294967296+y0) hv h2 h3
 obtain ⟨Q1,_,a1,a2,a3,a4,a5,st1,dn1,br1⟩:=loopy u w1' hu0 huD (by omega) (by omega)
 refine BL (α:=Int × Int) 0 (fun _:Unit=>⟨AO [(2,vu D),(8,vu S),(9,vu y1),(10,vu y0),(11,vu u),(13,vu w1'),(14,vu w0),(15,vu Q1)],lk [],0⟩) (fun _=>True) (fun x=>⟨AO [(2,vu D),(8,vu S),(9,vu y1),(10,vu y0),(11,vu u),(13,vu w1'),(14,vu w0),(15,vu x.1),(16,vu x.2)],lk [],0⟩)
   (fun x=>Q1<=x.1/\x.1*y1+x.2=u/\0<=x.2/\x.2<4294967296/\x.1<=u) (fun x=>x.1.toNat) (u/y1,u-u/y1*y1) ?_ ?_ ?_ fun _ _=>?_
 . exact ⟨a5,by simp only;omega,by simp only;omega,by simp only;omega,z2⟩
 . exact WK hE (fun _=>none)
 . rintro ⟨q,r⟩ ⟨i1,i2,i3,i4,i5⟩
   simp only at i1 i2 i3 i4 i5;have step:=st1 q r i1 i2;have g1:IntKind.wrap .u64 (r+y1)=r+y1:=Ay (by omega) (by omega);have g2:(q-1)*y1+(r+y1)=u:=by rw [Int.sub_mul];omega
   have go:Q1<=q-1->IntKind.wrap .u64 (q-1)=q-1:=fun h=>Ay (by omega) (by omega)
   by_cases hc1:4294967296<=q
   . have h1:=step (.inl hc1)
     by_cases hb:4294967296<=r+y1
     . have:=dn1 _ _ h1 g2 (br1 _ _ (by omega) g2 hb)
       simp [AMJ,hc1,go h1,g1,hb];refine AI.mk hE (fun _=>none) _ _ _ ?_ ?_ ?_ ?_ ?_<;>simp [this]
     . simp [AMJ,hc1,go h1,g1,hb]
       refine ⟨q-1,r+y1,⟨h1,g2,by omega,by omega,by omega⟩,by omega,?_⟩;exact WK hE (fun _=>none)
   . have n1:0<=q*y0:=Int.mul_nonneg (by omega) (by omega)
     have n2:q*y0<=4294967295*4294967295:=DE (by omega) (by omega) (by omega) (by omega);have j1:IntKind.wrap .u64 (q*y0)=q*y0:=Ay n1 (by omega);have j2:IntKind.wrap .u64 (4294967296*r)=4294967296*r:=Ay (by omega) (by omega);have j3:IntKind.wrap .u64 (4294967296*r+w1')=4294967296*r+w1':=Ay (by omega) (by omega);by_cases hc2:4294967296*r+w1' < q*y0
     . have h1:=step (.inr hc2)
       by_cases hb:4294967296<=r+y1
       . have:=dn1 _ _ h1 g2 (br1 _ _ (by omega) g2 hb)
         simp [AMJ,hc1,hc2,j1,j2,j3,go h1,g1,hb];refine AI.mk hE (fun _=>none) _ _ _ ?_ ?_ ?_ ?_ ?_<;>simp [this]
       . simp [AMJ,hc1,hc2,j1,j2,j3,go h1,g1,hb]
         refine ⟨q-1,r+y1,⟨h1,g2,by omega,by omega,by omega⟩,by omega,?_⟩;exact WK hE (fun _=>none)
     . have:=dn1 _ _ i1 i2 (by omega)
       simp [AMJ,hc1,hc2,j1,j2,j3];refine AI.mk hE (fun _=>none) _ _ _ ?_ ?_ ?_ ?_ ?_<;>simp [this]
 obtain ⟨R,hR⟩:∃ R:Int,R=u*4294967296+w1' - Q1*D:=⟨_,rfl⟩
 have k4:IntKind.wrap .u64 (IntKind.wrap .u64 (IntKind.wrap .u64 (u*4294967296)+w1')-IntKind.wrap .u64 (Q1*D))=R:=by
   rw [Bl,Bl,Bl,Bl];omega
 have hR0:0<=R/\R<D:=by omega
 obtain ⟨x1,x2,x3,x4,x5⟩:=dv R hR0.1;have k5:IntKind.wrap .u64 (R/y1)=R/y1:=Ay x1 (by omega);have k6:IntKind.wrap .u64 (R/y1*y1)=R/y1*y1:=Ay (Int.mul_nonneg x1 (by omega)) (by omega);have k7:IntKind.wrap .u64 (R-R/y1*y1)=R-R/y1*y1:=Ay (by omega) (by omega);simp [k4,hy1n,td R hR0.1,k5,k6,k7];obtain ⟨Q0,_,c1,c2,c3,c4,c5,st0,dn0,br0⟩:=loopy R w0 hR0.1 hR0.2 (by omega) (by omega)
 refine BL (α:=Int × Int) 2 (fun _:Unit=>⟨AO [(2,vu D),(8,vu S),(14,vu w0),(15,vu Q1),(17,vu R),(18,vu Q0)],lk [],0⟩) (fun _=>True) (fun x=>⟨AO [(2,vu D),(8,vu S),(9,vu y1),(10,vu y0),(14,vu w0),(15,vu Q1),(17,vu R),(18,vu x.1),(16,vu x.2)],lk [],0⟩)
   (fun x=>Q0<=x.1/\x.1*y1+x.2=R/\0<=x.2/\x.2<4294967296/\x.1<=R) (fun x=>x.1.toNat) (R/y1,R-R/y1*y1) ?_ ?_ ?_ fun _ _=>?_
 . exact ⟨c5,by simp only;omega,by simp only;omega,by simp only;omega,x2⟩
 . exact WK hE (fun _=>none)
 . rintro ⟨q,r⟩ ⟨i1,i2,i3,i4,i5⟩
   simp only at i1 i2 i3 i4 i5;have step:=st0 q r i1 i2;have g1:IntKind.wrap .u64 (r+y1)=r+y1:=Ay (by omega) (by omega);have g2:(q-1)*y1+(r+y1)=R:=by rw [Int.sub_mul];omega
   have go:Q0<=q-1->IntKind.wrap .u64 (q-1)=q-1:=fun h=>Ay (by omega) (by omega)
   by_cases hc1:4294967296<=q
   . have h1:=step (.inl hc1)
     by_cases hb:4294967296<=r+y1
     . have:=dn0 _ _ h1 g2 (br0 _ _ (by omega) g2 hb)
       simp [AMK,hc1,go h1,g1,hb];refine AI.mk hE (fun _=>none) _ _ _ ?_ ?_ ?_ ?_ ?_<;>simp [this]
     . simp [AMK,hc1,go h1,g1,hb]
       refine ⟨q-1,r+y1,⟨h1,g2,by omega,by omega,by omega⟩,by omega,?_⟩;exact WK hE (fun _=>none)
   . have n1:0<=q*y0:=Int.mul_nonneg (by omega) (by omega)
     have n2:q*y0<=4294967295*4294967295:=DE (by omega) (by omega) (by omega) (by omega);have j1:IntKind.wrap .u64 (q*y0)=q*y0:=Ay n1 (by omega);have j2:IntKind.wrap .u64 (4294967296*r)=4294967296*r:=Ay (by omega) (by omega);have j3:IntKind.wrap .u64 (4294967296*r+w0)=4294967296*r+w0:=Ay (by omega) (by omega);by_cases hc2:4294967296*r+w0<q*y0
     . have h1:=step (.inr hc2)
       by_cases hb:4294967296<=r+y1
       . have:=dn0 _ _ h1 g2 (br0 _ _ (by omega) g2 hb)
         simp [AMK,hc1,hc2,j1,j2,j3,go h1,g1,hb];refine AI.mk hE (fun _=>none) _ _ _ ?_ ?_ ?_ ?_ ?_<;>simp [this]
       . simp [AMK,hc1,hc2,j1,j2,j3,go h1,g1,hb]
         refine ⟨q-1,r+y1,⟨h1,g2,by omega,by omega,by omega⟩,by omega,?_⟩;exact WK hE (fun _=>none)
     . have:=dn0 _ _ i1 i2 (by omega)
       simp [AMK,hc1,hc2,j1,j2,j3];refine AI.mk hE (fun _=>none) _ _ _ ?_ ?_ ?_ ?_ ?_<;>simp [this]
 obtain ⟨R0,hR0'⟩:∃ R0:Int,R0=R*4294967296+w0-Q0*D:=⟨_,rfl⟩
 have k8:IntKind.wrap .u64 (IntKind.wrap .u64 (IntKind.wrap .u64 (R*4294967296)+w0)-IntKind.wrap .u64 (Q0*D))=R0:=by
   rw [Bl,Bl,Bl,Bl];omega
 have k9:IntKind.wrap .u64 (Q1*4294967296)=Q1*4294967296:=Ay (by omega) (by omega);have k10:IntKind.wrap .u64 (Q1*4294967296+Q0)=Q1*4294967296+Q0:=Ay (by omega) (by omega);have e5:(Q1*4294967296+Q0)*D=(Q1*D)*4294967296+Q0*D:=by rw [Int.add_mul,Int.mul_right_comm]
 obtain ⟨n1,n2⟩:=hN (Q1*4294967296+Q0) R0 (by rw [hU,e5];omega) (by omega) (by omega);simp [k8,k9,k10,show (0:Int)<=S by omega,show (S:Int)<=64 by omega];apply RZ;simp [results188,n1,n2]
def Da (P z:Int):Int × Int:=if P/z<2199023255552 then (P/z,P%z) else (2199023255552,0)
def upS (q:Int × Int):Int:=if 0<q.2 then q.1+1 else q.1
def Eg (x y z:Int):Int × Int:=
 let q:=Da (max x (-x)*max y (-y)) z
 if decide (x<0) != decide (y<0) then (-(upS q), -q.1) else (q.1,upS q)
theorem Nm {P z:Int} (hP:0<=P) (hz:1<=z):0<=(Da P z).1/\(Da P z).1<=2199023255552:=by
 have:=Int.ediv_nonneg hP (show 0<=z by omega);unfold Da;split<;>simp<;>omega
theorem AIG {x y:Int} (hx: -1099511627776<=x/\x<=1099511627776) (hy: -1099511627776<=y/\y<=1099511627776):0<=max x (-x)*max y (-y)/\max x (-x)*max y (-y)<=1208925819614629174706176:=by
 refine ⟨Int.mul_nonneg (by omega) (by omega),?_⟩;have:=DE (a:=max x (-x)) (b:=max y (-y)) (c:=1099511627776) (d:=1099511627776) (by omega) (by omega) (by omega) (by omega);omega
theorem qp (x y z:Int) (hx: -1099511627776<=x/\x<=1099511627776) (hy: -1099511627776<=y/\y<=1099511627776) (hz:1<=z/\z<=1099511627776):Ct prog 171 [vi x,vi y,vi z] (vsp (Eg x y z).1 (Eg x y z).2) []:=by
 refine CB func171 c171 fun E hE=>?_
 simp [p171];refine CLa (AQP x (by omega)) ?_;simp;refine CLa (AQP y (by omega)) ?_;simp;refine AU.mk _ _ _ (jD (max x (-x)) (max y (-y)) (by omega) (by omega)) (by first | (simp;done) | simp [Bk,CP]) (by simp) (by first | (left;simp;done) | (right;simp;done)) ?_;obtain ⟨P0,P1⟩:=AIG hx hy
 generalize hP:max x (-x)*max y (-y)=P at*
 have wz:IntKind.wrap .u64 z=z:=Ay (by omega) (by omega);have hmod:0<=P%18446744073709551616/\P%18446744073709551616<=18446744073709551615:=by omega
 have hP2:P/18446744073709551616*18446744073709551616+P%18446744073709551616=P:=by omega
 obtain ⟨b0,b1⟩:=Nm P0 hz.1;have b2:0<=P/z:=Int.ediv_nonneg P0 (by omega);have w1:IntKind.wrap .i64 (Da P z).1=(Da P z).1:=AD (by omega) (by omega);have w2:IntKind.wrap .i64 ((Da P z).1+1)=(Da P z).1+1:=AD (by omega) (by omega);have w3:IntKind.wrap .i64 (-((Da P z).1+1))= -((Da P z).1+1):=AD (by omega) (by omega);have w4:IntKind.wrap .i64 (-(Da P z).1)= -(Da P z).1:=AD (by omega) (by omega);by_cases hh:P/18446744073709551616<z
 . by_cases hq:P/z<2199023255552
   . have eS:Da P z=(P/z,P%z):=if_pos hq
     have r0:0<=P%z:=Int.emod_nonneg _ (by omega);rw [eS] at w1 w2 w3 w4;simp only at w1 w2 w3 w4;by_cases h0:P/18446744073709551616=0
     . have e0:P%18446744073709551616=P:=by omega
       simp [wz,h0,e0,show (0:Int)<z by omega];refine CLa (APT P z (by omega) (by omega)) ?_;by_cases hr:0<P%z<;>by_cases hsx:x<0<;>by_cases hsy:y<0<;>simp [hq,hr,hsx,hsy,w1,w2,w3,w4,AA]
       all_goals
         apply RZ;simp [results171,Eg,hP,eS,upS,hr,hsx,hsy]
     . simp [wz,hh]
       refine CLa (jE (P/18446744073709551616) (P%18446744073709551616) z (by omega) hmod (by omega)) ?_;rw [hP2];by_cases hr:0<P%z<;>by_cases hsx:x<0<;>by_cases hsy:y<0<;>simp [hq,hr,hsx,hsy,w1,w2,w3,w4,AA]
       all_goals
         apply RZ;simp [results171,Eg,hP,eS,upS,hr,hsx,hsy]
   . have eS:Da P z=(2199023255552,0):=if_neg hq
     by_cases h0:P/18446744073709551616=0
     . have e0:P%18446744073709551616=P:=by omega
       simp [wz,h0,e0,show (0:Int)<z by omega];refine CLa (APT P z (by omega) (by omega)) ?_;by_cases hsx:x<0<;>by_cases hsy:y<0<;>simp [hq,hsx,hsy,AA,AD]
       all_goals
         apply RZ;simp [results171,Eg,hP,eS,upS,hsx,hsy]
     . simp [wz,hh]
       refine CLa (jE (P/18446744073709551616) (P%18446744073709551616) z (by omega) hmod (by omega)) ?_;rw [hP2];by_cases hsx:x<0<;>by_cases hsy:y<0<;>simp [hq,hsx,hsy,AA,AD]
       all_goals
         apply RZ;simp [results171,Eg,hP,eS,upS,hsx,hsy]
 . have hq:¬ P/z<2199023255552:=by
     have:2199023255552<=P/z:=by
       rw [Int.le_ediv_iff_mul_le (by omega)];omega
     omega
   have eS:Da P z=(2199023255552,0):=if_neg hq;by_cases hsx:x<0<;>by_cases hsy:y<0<;>simp [wz,hh,hsx,hsy,AA,AD]
   all_goals
     apply RZ;simp [results171,Eg,hP,eS,upS,hsx,hsy]
def HO (a b c:Int × Int) (k:Nat):Int × Int:=Eg (if k%2=1 then a.2 else a.1) (if k/2%2=1 then b.2 else b.1) (if k/4=1 then c.2 else c.1)
def Lx (a b c:Int × Int):List (Int × Int):=[HO a b c 1,HO a b c 2,HO a b c 3,HO a b c 4,HO a b c 5,HO a b c 6,HO a b c 7]
def Ja (a b c:Int × Int):(Int × Int) × Int:=
 if okS a&&okS b&&okS c then (if c.1<1 then ((0,0),12) else JH (ALK (HO a b c 0) (Lx a b c))) else ((0,0),10)
def EU (a b c:Int × Int) (i k:Nat):List V:=if k<i then [vi (HO a b c k).1,vi (HO a b c k).2] else [vi 0,vi 0]
def Dq (a b c:Int × Int) (i:Nat):List V:=EU a b c i 0++EU a b c i 1++EU a b c i 2++EU a b c i 3++EU a b c i 4++EU a b c i 5++EU a b c i 6++EU a b c i 7
theorem UM (a b c:Int × Int) (i:Nat):(Dq a b c i).length=16:=by
 have h:∀ k,(EU a b c i k).length=2:=fun k=>by unfold EU;split<;>rfl
 simp [Dq,h]
theorem CH {a b c:Int × Int} (ha:okS a=true) (hb:okS b=true) (hc:okS c=true) (h1:¬ c.1<1) (k:Nat):Ct prog 171 [vi (if k%2=1 then a.2 else a.1),vi (if k/2%2=1 then b.2 else b.1),vi (if k/4=1 then c.2 else c.1)] (vsp (HO a b c k).1 (HO a b c k).2) []:=by
 rw [CT] at ha hb hc;refine qp _ _ _ ?_ ?_ ?_<;>split<;>omega
theorem zW (a b c:Int × Int):Ct prog 146 [vsp a.1 a.2,vsp b.1 b.2,vsp c.1 c.2] (vse (Ja a b c)) []:=by
 refine CB func146 c146 fun E hE=>?_
 simp [p146,AM,AA];refine CLb (Tc [a,b,c] (by simp)) (by first | (simp;done) | simp [Bk]) ?_;by_cases h:(okS a&&okS b&&okS c)=true
 . have hf:Co [a,b,c]=true:=by simpa [Co,Bool.and_assoc] using h
   have h':=h;simp only [Bool.and_eq_true] at h';obtain ⟨⟨ha,hb⟩,hc⟩:=h';by_cases h1:c.1<1
   . simp [hf,h1,AA]
     apply RZ;simp [results146,Ja,h,h1]
   . simp [hf,h1]
     refine BL (α:=Nat) 1 (fun _:Unit=>⟨AO [(6, .lp 0 0),(8, .lp 1 0)],lk [(0,[vi 0,vi 0]),(1,Dq a b c 8)],2⟩) (fun _=>True) (fun i=>⟨AO [(3, .lp 2 0),(4, .lp 3 0),(5, .lp 4 0),(6, .lp 0 0),(8, .lp 1 0),(26,vi i)],lk [(0,[vi 0,vi 0]),(1,Dq a b c i),(2,[vi a.1,vi a.2]),(3,[vi b.1,vi b.2]),(4,[vi c.1,vi c.2])],5⟩) (fun i=>i<=8) (fun i=>8-i) 0 ?_ ?_ ?_ fun _ _=>?_
     . simp
     . refine AI.mk hE (lk [(0,3145728),(1,16777216),(2,0),(3,1048576),(4,2097152)]) _ _ _ ?_ ?_ ?_ ?_ ?_<;>simp [Dq,EU]
     . intro i hi
       simp [APJ];by_cases hlt:i<8
       . have hlt':(i:Int)<8:=by omega
         have hz:IntKind.wrap .i64 ((i:Int)+1)=(i:Int)+1:=AD (by omega) (by omega);simp [hlt'];refine PG [(18,15),(19,16)] (by kernel_rfl) ?_;have e0:bits .and .i64 0 1=0:=by decide
         have e1:bits .and .i64 1 1=1:=by decide
         have e2:bits .and .i64 2 1=0:=by decide
         have e3:bits .and .i64 3 1=1:=by decide
         have e4:bits .and .i64 4 1=0:=by decide
         have e5:bits .and .i64 5 1=1:=by decide
         have e6:bits .and .i64 6 1=0:=by decide
         have e7:bits .and .i64 7 1=1:=by decide
         simp [inC,Nat.testBit,AA];have s0:=CH ha hb hc h1 0;have s1:=CH ha hb hc h1 1;have s2:=CH ha hb hc h1 2;have s3:=CH ha hb hc h1 3;have s4:=CH ha hb hc h1 4;have s5:=CH ha hb hc h1 5;have s6:=CH ha hb hc h1 6;have s7:=CH ha hb hc h1 7;simp at s0 s1 s2 s3 s4 s5 s6 s7;have hi8:i=0\/i=1\/i=2\/i=3\/i=4\/i=5\/i=6\/i=7:=by omega
         rcases hi8 with rfl | rfl | rfl | rfl | rfl | rfl | rfl | rfl
         . simp [e0]
           refine CLa s0 ?_;simp [Dq,EU,AA,AD];refine ⟨1,by omega,by omega,?_⟩;exact WK hE (lk [(0,0),(1,1),(2,2),(3,3),(4,4)])
         . simp [e0,e1]
           refine CLa s1 ?_;simp [Dq,EU,AA,AD];refine ⟨2,by omega,by omega,?_⟩;exact WK hE (lk [(0,0),(1,1),(2,2),(3,3),(4,4)])
         . simp [e1,e2]
           refine CLa s2 ?_;simp [Dq,EU,AA,AD];refine ⟨3,by omega,by omega,?_⟩;exact WK hE (lk [(0,0),(1,1),(2,2),(3,3),(4,4)])
         . simp [e1,e3]
           refine CLa s3 ?_;simp [Dq,EU,AA,AD];refine ⟨4,by omega,by omega,?_⟩;exact WK hE (lk [(0,0),(1,1),(2,2),(3,3),(4,4)])
         . simp [e2,e4]
           refine CLa s4 ?_;simp [Dq,EU,AA,AD];refine ⟨5,by omega,by omega,?_⟩;exact WK hE (lk [(0,0),(1,1),(2,2),(3,3),(4,4)])
         . simp [e2,e5]
           refine CLa s5 ?_;simp [Dq,EU,AA,AD];refine ⟨6,by omega,by omega,?_⟩;exact WK hE (lk [(0,0),(1,1),(2,2),(3,3),(4,4)])
         . simp [e3,e6]
           refine CLa s6 ?_;simp [Dq,EU,AA,AD];refine ⟨7,by omega,by omega,?_⟩;exact WK hE (lk [(0,0),(1,1),(2,2),(3,3),(4,4)])
         . simp [e3,e7]
           refine CLa s7 ?_;simp [Dq,EU,AA,AD];refine ⟨8,by omega,by omega,?_⟩;exact WK hE (lk [(0,0),(1,1),(2,2),(3,3),(4,4)])
       . have:i=8:=by omega
         subst this;simp;refine AI.mk hE (lk [(0,0),(1,1)]) _ _ _ ?_ ?_ ?_ ?_ ?_<;>simp [Dq,EU]
     . simp [UM]
       refine CLb (yP (HO a b c 0) (Lx a b c) (by simp [Lx])) (by first | (simp;done) | simp [Bk,Lx,Dq,EU]) ?_;simp;refine AU.mk _ _ _ (ASW (ALK (HO a b c 0) (Lx a b c))) (by first | (simp;done) | simp [Bk,CP]) (by simp) (by first | (left;simp;done) | (right;simp;done)) ?_;simp [AA];apply RZ;simp [results146,Ja,h,h1]
 . have hf:Co [a,b,c]=false:=by simpa [Co,Bool.and_assoc] using h
   simp [hf,AA];apply RZ;simp [results146,Ja,h]
def AUX (a b:Int × Int):(Int × Int) × Int:=Ja a b (1,1)
theorem pO (a b:Int × Int):Ct prog 191 [vsp a.1 a.2,vsp b.1 b.2] (vse (AUX a b)) []:=by
 refine CB func191 c191 fun E hE=>?_
 simp [p191,AA];refine CLa (zW a b (1,1)) ?_;simp [AA];apply RZ;simp [results191,AUX]
def sqG (n:Int):Nat->Int->Int
 | 0,r=>r
 | k+1,r=>sqG n k (if (r+2^k)*(r+2^k)<=n then r+2^k else r)
def DL (n:Int):Int:=sqG n 21 0
def LA (n r:Int):Prop:=0<=r/\r*r<=n/\n<(r+1)*(r+1)
theorem NW (n:Int):∀ (k:Nat) (r:Int),0<=r->r*r<=n->n<(r+2^k)*(r+2^k)->LA n (sqG n k r)
 | 0,r,h0,h1,h2=>⟨h0,h1,by simp only [sqG];simpa using h2⟩
 | k+1,r,h0,h1,h2=>by
   have hp:(1:Int)<=2^k:=LJ k;have e:(2:Int)^(k+1)=2^k+2^k:=by rw [Int.pow_succ];omega
   simp only [sqG];split
   . rename_i h
     exact NW n k _ (by omega) h (by rw [e,<-Int.add_assoc] at h2;exact h2)
   . rename_i h
     exact NW n k _ h0 h1 (by omega)
theorem PN {n r s:Int} (h1:LA n r) (h2:LA n s):r=s:=by
 obtain ⟨a1,a2,a3⟩:=h1;obtain ⟨b1,b2,b3⟩:=h2
 have key:∀ p q:Int,0<=p->0<=q->p*p<=n->n<(q+1)*(q+1)->p<=q:=fun p q hp hq h h'=>by
   refine Int.not_lt.1 fun hlt=>?_
   have:(q+1)*(q+1)<=p*p:=DE (by omega) (by omega) (by omega) (by omega);omega
 have:=key r s a1 b1 a2 b3;have:=key s r b1 a1 b2 a3;omega
theorem PP (n:Int) (h:0<=n/\n<=1099511627776):LA n (DL n):=NW n 21 0 (by omega) (by omega) (by simp;omega)
theorem V9 {n r:Int} (h:LA n r) (hn:n<=1099511627776):r<=1048576:=by
 refine Int.not_lt.1 fun hlt=>?_
 have:(1048577:Int)*1048577<=r*r:=DE (by omega) (by omega) (by omega) (by omega);have:=h.2.1;omega
theorem jR (n:Int) (h:0<=n/\n<=1099511627776):Ct prog 177 [vi n] (vi (DL n)) []:=by
 refine CB func177 c177 fun E hE=>?_
 simp [p177];refine BL (α:=Int × Int) 0 (fun _:Unit=>⟨AO [(3,vi (DL n))],lk [],0⟩) (fun _=>True) (fun x=>⟨AO [(0,vi n),(3,vi x.1),(4,vi x.2)],lk [],0⟩) (fun x=>0<=x.1/\x.1<x.2/\x.2<=1048577/\x.1*x.1<=n/\n<x.2*x.2) (fun x=>(x.2-x.1).toNat) (0,1048577) ?_ ?_ ?_ fun _ _=>?_
 . simp;omega
 . exact WK hE (lk [])
 . rintro ⟨lo,hi⟩ ⟨h1,h2,h3,h4,h5⟩
   simp only at h1 h2 h3 h4 h5;have w1:IntKind.wrap .i64 (hi-lo)=hi-lo:=AD (by omega) (by omega);have w2:IntKind.wrap .i64 (lo+hi)=lo+hi:=AD (by omega) (by omega);have t:(lo+hi).tdiv 2=(lo+hi)/2:=Int.tdiv_eq_ediv_of_nonneg (by omega);have w3:IntKind.wrap .i64 ((lo+hi)/2)=(lo+hi)/2:=AD (by omega) (by omega);have m0:0<=(lo+hi)/2:=by omega
   have m1:(lo+hi)/2*((lo+hi)/2)<=1048577*1048577:=DE (by omega) (by omega) m0 (by omega);have m2:=Int.mul_nonneg m0 m0;have w4:IntKind.wrap .i64 ((lo+hi)/2*((lo+hi)/2))=(lo+hi)/2*((lo+hi)/2):=AD (by omega) (by omega);by_cases hc:1<hi-lo
   . by_cases hm:(lo+hi)/2*((lo+hi)/2)<=n
     . simp [bJ,w1,w2,t,w3,w4,hc,hm]
       refine ⟨(lo+hi)/2,hi,⟨m0,by omega,h3,hm,h5⟩,by omega,?_⟩;exact WK hE (lk [])
     . simp [bJ,w1,w2,t,w3,w4,hc,hm]
       refine ⟨lo,(lo+hi)/2,⟨h1,by omega,by omega,h4,by omega⟩,by omega,?_⟩;exact WK hE (lk [])
   . have e:hi=lo+1:=by omega
     have:lo=DL n:=PN ⟨h1,h4,by rw [<-e];exact h5⟩ (PP n h);simp [bJ,w1,hc];refine AI.mk hE (lk []) _ _ _ ?_ ?_ ?_ ?_ ?_<;>simp [this]
 . simp
   apply RZ;simp [results177]
def LB (a:Int × Int):(Int × Int) × Int:=
 if okS a then (if a.1<0 then ((0,0),2) else ((DL a.1,if DL a.2*DL a.2=a.2 then DL a.2 else DL a.2+1),0)) else ((0,0),10)
theorem qn (a:Int × Int):Ct prog 164 [vsp a.1 a.2] (vse (LB a)) []:=by
 refine CB func164 c164 fun E hE=>?_
 simp [p164,AM,AA];refine CLb (Tc [a] (by simp)) (by first | (simp;done) | simp [Bk]) ?_;by_cases h:okS a=true
 . have hf:Co [a]=true:=by simpa [Co] using h
   have hh:=CT.1 h;by_cases h1:a.1<0
   . simp [hf,h1,AA]
     apply RZ;simp [results164,LB,h,h1]
   . simp [hf,h1,inC,Nat.testBit]
     refine CLa (jR a.1 (by omega)) ?_;simp [inC,Nat.testBit];refine CLa (jR a.2 (by omega)) ?_;have q:=PP a.2 (by omega);have ql:=V9 q (by omega);have m:=q.2.1;have m2:=Int.mul_nonneg q.1 q.1;have w:IntKind.wrap .i64 (DL a.2*DL a.2)=DL a.2*DL a.2:=AD (by omega) (by omega);have w2:IntKind.wrap .i64 (DL a.2+1)=DL a.2+1:=AD (by have:=q.1;omega) (by omega);have wa:IntKind.wrap .i64 a.2=a.2:=AD (by omega) (by omega);by_cases hq:DL a.2*DL a.2=a.2
     . simp [AA,wa,hq]
       apply RZ;simp [results164,LB,h,h1,hq]
     . simp [AA,w,w2,hq]
       apply RZ;simp [results164,LB,h,h1,hq]
 . have hf:Co [a]=false:=by simpa [Co] using h
   simp [hf,AA];apply RZ;simp [results164,LB,h]
open Go.Geo (cross CV chainR Bo)
def leC (x y:Int × Int):Bool:=!decide (Dw y x<0)
theorem PX {x y:Int × Int}:Dw x y<0↔Go.Geo.lt x y:=by
 unfold Dw orI orI orI NM Go.Geo.lt;by_cases h1:x.1<y.1
 . simp [h1]
 . by_cases h2:y.1<x.1
   . simp [h1,h2];omega
   . by_cases h3:x.2<y.2
     . simp [h1,h2,h3];omega
     . by_cases h4:y.2<x.2
       . simp [h1,h2,h3,h4]
       . simp [h1,h2,h3,h4]
theorem GZ {x y:Int × Int}:leC x y=true↔¬ Go.Geo.lt y x:=by unfold leC;rw [Bool.not_eq_true',decide_eq_false_iff_not,PX]
theorem WD (a b c:Int × Int) (h1:leC a b=true) (h2:leC b c=true):leC a c=true:=by
 rw [GZ] at*;unfold Go.Geo.lt at*;omega
theorem WE (a b:Int × Int):(leC a b||leC b a)=true:=by
 rw [Bool.or_eq_true,GZ,GZ];unfold Go.Geo.lt;omega
theorem bc {a b:Int × Int} (h1:leC a b=true) (h2:leC b a=true):a=b:=by
 rw [GZ] at*;unfold Go.Geo.lt at*
 ext<;>omega
theorem PY (l:List (Int × Int)):(DK l).Pairwise fun x y=>leC x y=true:=List.pairwise_mergeSort WD WE l
theorem be {l m:List (Int × Int)} (hp:m.Perm l) (hs:m.Pairwise fun x y=>leC x y=true):DK l=m:=
 List.Perm.eq_of_pairwise (le:=fun x y=>leC x y=true) (fun _ _ _ _ h1 h2=>bc h1 h2) (PY l) hs ((List.mergeSort_perm l _).trans hp.symm)
theorem qi {l:List (Int × Int)} (h:l.Pairwise fun x y=>leC x y=true):Go.Geo.Sorted (ddC l):=by
 have key:∀ (l d:List (Int × Int)),l.Pairwise (fun x y=>leC x y=true)->Go.Geo.Sorted d->(∀ x∈d,∀ y∈l,leC x y=true)->Go.Geo.Sorted (l.foldl DQ d):=by
   intro l;induction l with
   | nil=>intro d _ h _;exact h
   | cons a l ih=>
     intro d hl hd hx;rw [List.foldl_cons];have hl':=List.pairwise_cons.1 hl;unfold DQ;by_cases h:d.getLast?= some a
     . rw [if_pos h]
       exact ih d hl'.2 hd fun x hx' y hy=>hx x hx' y (by simp [hy])
     . rw [if_neg h]
       refine ih _ hl'.2 ?_ fun x hx' y hy=>?_
       . unfold Go.Geo.Sorted
         rw [List.pairwise_append];refine ⟨hd,List.pairwise_singleton _ _,fun x hxd y hy=>?_⟩;rw [List.mem_singleton.1 hy];have h1:=GZ.1 (hx x hxd a (by simp));rcases Go.Geo.lt_tri x a with h2 | h2 | h2
         . exact h2
         . exfalso
           subst h2;rcases List.eq_nil_or_concat d with rfl | ⟨d',z,rfl⟩
           . simp at hxd
           . rw [List.concat_eq_append] at*
             have hz:=GZ.1 (hx z (by simp) x (by simp));have hne:z≠x:=fun e=>h (by rw [e];simp)
             have hxd':x∈d':=by
               rcases List.mem_append.1 hxd with h | h
               . exact h
               . exact absurd (List.mem_singleton.1 h).symm hne
             have:=(List.pairwise_append.1 hd).2.2 x hxd' z (by simp);exact hz this
         . exact absurd h2 h1
       . rcases List.mem_append.1 hx' with h | h
         . exact hx x h y (by simp [hy])
         . rw [List.mem_singleton.1 h];exact hl'.1 y hy
 exact key l [] h List.Pairwise.nil (by simp)
theorem JN (l:List (Int × Int)):Go.Geo.Sorted (ddC (DK l)):=qi (PY l)
instance (l:List (Int × Int)):Decidable (l.Pairwise fun x y=>leC x y=true):=inferInstance
theorem bf {l m:List (Int × Int)} (hp:m.Perm l) (hs:m.Pairwise fun x y=>leC x y=true):Fb l=Bo (ddC m):=by unfold Fb;rw [be hp hs]
theorem z6 {H:Hp} {id:Nat} {cs:List V} (l:List (Int × Int)) (h:H id=some cs) (hc:cs=BC l):Bor H (.ls id 0 l.length 2) (.d (An l)):=by
 rw [Bk];refine ⟨rfl,by simp,fun e he=>?_,_,h,?_⟩
 . simp only [List.mem_map] at he
   obtain ⟨k,_,rfl⟩:=he;rfl
 . rw [Om,hc,List.drop_zero,List.take_of_length_le (by simp)]
def qj (l:List (Int × Int × Int)) (i:Nat) (a k:Int × Int × Int) (x:Int):Prop:=l[i]?= some a/\l[i+1]?= some k/\a.1<=x/\x<=k.1/\(i=0\/a.1<x)
section
variable {l:List (Int × Int × Int)} (ht:Ck l=true) {i:Nat} {a k:Int × Int × Int} {x:Int} (h:qj l i a k x) {u v:Int} (hu:a.2.1<=u/\u<=a.2.2) (hv:k.2.1<=v/\v<=k.2.2)
def qk (y:Int × Int):Int:=max y.1 (-1073741825)
def jP (y:Int × Int):Int:=min y.2 1073741825
def isIn (y:Int × Int) (num den:Int):Prop:=qk y<=1073741825/\ -1073741825<=jP y/\qk y*den<=num/\num<=jP y*den
end
end Go.Proofs.Tryz
namespace Go.Geo
def box (a b p:C):Prop:=(min a.1 b.1<=p.1/\p.1<=max a.1 b.1)/\min a.2 b.2<=p.2/\p.2<=max a.2 b.2
def InR (r:List C) (p:C):Prop:=(∀ e∈cyc r,0<=cross e.1 e.2 p)/\(2<r.length\/∃ a b,r.head?= some a/\r.getLast?= some b/\box a b p)
theorem dR {a b p:C} (hab:lt a b) (h1:le a p) (h2:le p b) (hc:cross a b p=0):box a b p:=by
 unfold box;unfold le lt at h1 h2;unfold lt at hab;unfold cross at hc;rcases hab with hab | ⟨h3,h4⟩
 . have k1:0<=p.1-a.1:=by omega
   have k2:0<=b.1-p.1:=by omega
   have e1:(b.1-a.1)*(p.2-a.2)=(b.2-a.2)*(p.1-a.1):=by omega
   have e2:(b.1-a.1)*(b.2-p.2)=(b.2-a.2)*(b.1-p.1):=by grind
   rcases Int.le_total a.2 b.2 with h | h
   . have q1:=Int.mul_nonneg (show 0<=b.2-a.2 by omega) k1
     have q2:=Int.mul_nonneg (show 0<=b.2-a.2 by omega) k2;have:=C8 (show 0<b.1-a.1 by omega) (by rw [e1];exact q1);have:=C8 (show 0<b.1-a.1 by omega) (by rw [e2];exact q2);omega
   . have q1:=Int.mul_nonneg (show 0<=a.2-b.2 by omega) k1
     have q2:=Int.mul_nonneg (show 0<=a.2-b.2 by omega) k2
     have:=C8 (y:=a.2-p.2) (show 0<b.1-a.1 by omega) (by
      have:(b.1-a.1)*(a.2-p.2)=(a.2-b.2)*(p.1-a.1):=by grind
      rw [this];exact q1)
     have:=C8 (y:=p.2-b.2) (show 0<b.1-a.1 by omega) (by
      have:(b.1-a.1)*(p.2-b.2)=(a.2-b.2)*(b.1-p.1):=by grind
      rw [this];exact q2)
     omega
 . omega
theorem hull_two {l:List C} (h:Sorted l) (h3:¬ l.length<3) (hn:¬ 5<=(chainR l).length+(chainR l.reverse).length):∃ f g,l.head?= some f/\l.getLast?= some g/\lt f g/\Bo l=[f,g]/\chainR l=[g,f]/\chainR l.reverse=[f,g]:=by
 obtain ⟨f,g,lo,up,hf,hg,hfg,e1,e2,b1,b2⟩:=Q2 h (by omega)
 have hgl:lt f g:=by
   rcases lt_tri f g with h1 | h1 | h1
   . exact h1
   . exact absurd h1 hfg
   . exact absurd h1 (Dh h hf g (List.mem_of_getLast? hg))
 refine ⟨f,g,hf,hg,hgl,?_⟩;rw [e1,e2] at hn;unfold Bo;rw [if_neg h3,e1,e2]
 match lo,up,b1,b2,hn with
 | [x],[y],b1,b2,_=>simp at b1 b2;subst b1;subst b2;exact ⟨rfl,rfl,rfl⟩
 | [],_,b1,_,_=>simp at b1
 | _,[],_,b2,_=>simp at b2
 | _::_::_,_::_,_,_,hn=>simp at hn;omega
 | [_],_::_::_,_,_,hn=>simp at hn;omega
theorem hull_len {l:List C} (h3:¬ l.length<3):(Bo l).length+2=(chainR l).length-1+((chainR l.reverse).length-1)+2:=by
 unfold Bo;rw [if_neg h3];simp
theorem chain_len2 {l:List C} (h:Sorted l) (h2:2<=l.length):2<=(chainR l).length/\2<=(chainR l.reverse).length:=by
 obtain ⟨f,g,lo,up,hf,hg,hfg,e1,e2,b1,b2⟩:=Q2 h h2;rw [e1,e2];constructor
 . cases lo with | nil=>simp at b1 | cons=>simp
 . cases up with | nil=>simp at b2 | cons=>simp
theorem hull_in {l:List C} (h:Sorted l):∀ q∈l,InR (Bo l) q:=by
 intro q hq;by_cases h3:l.length<3
 . have e:Bo l=l:=by unfold Bo;rw [if_pos h3]
   rw [e]
   match l,h3,h,hq with
   | [],_,_,hq=>simp at hq
   | [a],_,_,hq=>
     simp at hq;subst hq;refine ⟨fun e he=>?_,Or.inr ⟨q,q,rfl,rfl,by unfold box;omega⟩⟩;simp [cyc,steps] at he;subst he;rw [cross_self];omega
   | [a,b],_,h,hq=>
     refine ⟨fun e he=>?_,Or.inr ⟨a,b,rfl,rfl,?_⟩⟩
     . simp [cyc,steps] at he
       simp at hq;rcases he with rfl | rfl<;>rcases hq with rfl | rfl<;>simp only [cross_self,cross_self2]<;>omega
     . simp at hq
       rcases hq with rfl | rfl<;>(unfold box;omega)
   | _::_::_::_,h3,_,_=>simp at h3;omega
 . have hl:=UN h (by omega)
   refine ⟨fun e he=>hl e he q hq,?_⟩;have hlen:=hull_len h3;have h22:=chain_len2 h (by omega);by_cases hn:5<=(chainR l).length+(chainR l.reverse).length
   . left;omega
   . right
     obtain ⟨f,g,hf,hg,hfg,e,_⟩:=hull_two h h3 hn;refine ⟨f,g,by rw [e];rfl,by rw [e];rfl,?_⟩;have c1:=hl (f,g) (by rw [e];simp [cyc,steps]) q hq;have c2:=hl (g,f) (by rw [e];simp [cyc,steps]) q hq;simp only at c1 c2;rw [cross_swap2] at c2
     have hlast:le q g:=by
       have hs:=Ks h;have:=Dh hs (f:=neg g) (by rw [List.head?_map,List.head?_reverse,hg];rfl) (neg q) (List.mem_map.2 ⟨q,List.mem_reverse.2 hq,rfl⟩);intro hlt;exact this (Qy.2 hlt)
     exact dR hfg (Dh h hf q hq) hlast (by omega)
theorem Eb.mono {d d':List C} (hd:∀ q∈d',q∈d):∀ {st:List C},Eb d st->Eb d' st
 | [],_=>trivial
 | [_],_=>trivial
 | [_,_],h=>⟨h.1,fun q hq=>h.2 q (hd q hq)⟩
 | _::_::_::_,h=>⟨h.1,h.2.1,fun q hq=>h.2.2.1 q (hd q hq),Eb.mono hd h.2.2.2⟩
def dot (d v:C):Int:=d.1*v.1+d.2*v.2
def T (w v:C):C:=(-(xp w v), -(dot w v))
theorem MG:∀ l:List C,(steps l).length=l.length-1
 | []=>rfl
 | [_]=>rfl
 | _::b::r=>by simp only [steps,List.length_cons];rw [MG (b::r)];simp
theorem O3:∀ (l:List C) (i:Nat) (a b:C),l[i]?= some a->l[i+1]?= some b->(steps l)[i]?= some (a,b)
 | [],_,_,_,h,_=>by simp at h
 | [_],i,_,_,_,h=>by simp at h
 | x::y::r,0,a,b,h1,h2=>by simp at h1 h2;subst h1;subst h2;rfl
 | x::y::r,i+1,a,b,h1,h2=>by
   simp only [steps,List.getElem?_cons_succ] at h1 h2 ⊢;exact O3 (y::r) i a b h1 h2
theorem cyc_len (r:List C):(cyc r).length=r.length:=by
 cases r with
 | nil=>rfl
 | cons a t=>simp only [cyc];rw [MG];simp
theorem cyc_at {r:List C} {i j:Nat} {a b:C} (ha:r[i]?= some a) (hj:j=(i+1)%r.length) (hb:r[j]?= some b):(cyc r)[i]?= some (a,b):=by
 cases r with
 | nil=>simp at ha
 | cons x t=>
   have hi:=(List.getElem?_eq_some_iff.1 ha).1;simp only [cyc];refine O3 _ i a b ?_ ?_
   . rw [List.getElem?_append_left hi];exact ha
   . by_cases h:i+1<(x::t).length
     . rw [Nat.mod_eq_of_lt h] at hj
       subst hj;rw [List.getElem?_append_left h];exact hb
     . have e:i+1=(x::t).length:=by omega
       rw [e,Nat.mod_self] at hj;subst hj;simp at hb;subst hb;rw [e,List.getElem?_append_right (Nat.le_refl _),Nat.sub_self];rfl
theorem MH:∀ {l:List C} {e:C × C},e∈steps l->e.1∈l/\e.2∈l
 | [],_,h=>by simp [steps] at h
 | [_],_,h=>by simp [steps] at h
 | a::b::r,e,h=>by
   simp only [steps,List.mem_cons] at h;rcases h with rfl | h
   . simp
   . have:=MH (l:=b::r) h
     exact ⟨List.mem_cons_of_mem _ this.1,List.mem_cons_of_mem _ this.2⟩
theorem cyc_mem {r:List C} {e:C × C} (h:e∈cyc r):e.1∈r/\e.2∈r:=by
 cases r with
 | nil=>simp [cyc] at h
 | cons a t=>
   simp only [cyc] at h;have:=MH h;simp only [List.mem_append,List.mem_cons,List.not_mem_nil,or_false] at this ⊢;constructor
   . rcases this.1 with h | h;exact h;exact Or.inl h
   . rcases this.2 with h | h;exact h;exact Or.inl h
end Go.Geo
namespace Go.Proofs.Tryz
open Go.Psl
open Go.Geo (cross cyc InR box)
def ZU (p:Int × Int) (es:List ((Int × Int) × (Int × Int))):Bool:=es.all fun e=>decide (0<=cross e.1 e.2 p)
theorem MJ {p:Int × Int} {es:List ((Int × Int) × (Int × Int))}:ZU p es=true↔∀ e∈es,0<=cross e.1 e.2 p:=by
 unfold ZU;simp [List.all_eq_true]
def ZV (n lo hi:Int):Bool:=decide (lo<=n)&&decide (n<=hi)
def Lj (r:List (Int × Int)) (p:Int × Int):Bool:=match r with
 | []=>false
 | [a]=>decide (a=p)
 | a::b::t=>ZU p (cyc r)&&(decide (0<t.length)||(ZV p.1 a.1 b.1&&ZV p.2 (min a.2 b.2) (max a.2 b.2)))
theorem ASX (r:List (Int × Int)):Ct prog 199 [.d (An r)] (.cl 212 [.lp 0 0]) [(0,[.d (An r)])]:=by
 refine CB func199 c199 fun E hE=>?_
 simp [p199];refine AB.by (lk [(0,0)]) ?_;simp [results199]
theorem MK (r:List (Int × Int)) (hl:r.length<=1000000) (KS:List Nat) (k a m:Nat) (go:Nat->Bool) (L:Nat->List (Nat × List V)) (hk:k∈KS) (ha:a∈KS) (hN:∀ i∈KS,i<1000000000) (hm:m<=r.length) (hL:∀ i,i<=m->A4 KS (L i))
   (hrec:∀ i,i<m->∃ fr nt ps pa pb jmp,lk (L i) k=some [.lr fr nt ps pa pb jmp]/\ps.length=2) (hbox:∀ i,i<=m->lk (L i) a=some [.d (An r)]) (hgo:∀ j,j+1<m->go j=true) (hend:m=r.length\/(0<m/\go (m-1)=false))
   (hY:∀ i x y,i<m->(cyc r)[i]?= some (x,y)->Ym prog k [vsp x.1 x.2,vsp y.1 y.2] (lk (L i)) KS (.ret (vb (go i))) (lk (L (i+1)))):
   Cm prog 212 [.yl k, .lp a 0] (lk (L 0)) KS (.ret (.tup [])) (lk (L m)):=by
 refine Cm.by gok eok mixed 1000000000 func212 c212 rfl (by simp [ntmps212]) (by simp;exact ⟨hN k hk,hN a ha⟩) (A7.at ((hL 0 (by omega)).ids hN)) hN ⟨by simp,(hL m (Nat.le_refl _)).res⟩ fun E hs hE=>?_
 have haN:=hN a ha;have na:∀ x,1000000000<=x->¬ a=x:=fun x _=>by omega
 have la:∀ x,1000000000<=x->a<x:=fun x _=>by omega
 have b0:=hbox 0 (by omega);simp [p212,b0];refine Al (α:=Nat) (fun i=>⟨AO [(0, .yl k),(1, .lp a 0),(5, .d (An r)),(6,vi r.length),(7,vi i)],lk (L i),1000000000⟩) (fun i=>i<=m/\(i=m->m=r.length)) (fun i=>m-i) 0 ?_ ?_ ?_
 . omega
 . refine AI.keep hs (hL 0 (by omega)) (fun i _=>by simp) hN _ ?_ ?_
   . simp [Cr hk,Cr ha]
   . simp [hN k hk,hN a ha]
 . rintro i ⟨hi,him⟩
   simp [APS];refine Bh (fun h=>?_) (fun h=>?_)
   . simp at h
     have him2:i<m:=by omega
     have bi:=hbox i hi;obtain ⟨x,hx⟩:=gE h;obtain ⟨n,hn⟩:∃ n,r.length=n:=⟨_,rfl⟩
     rw [hn] at h hl hm him hend;obtain ⟨j,hj⟩:∃ j,j=(i+1)%n:=⟨_,rfl⟩
     have hjn:j<n:=by rw [hj];exact Nat.mod_lt _ (by omega)
     obtain ⟨y,hy⟩:∃ y,r[j]?= some y:=⟨r[j],by simp [show j<r.length by omega]⟩
     have hcy:=Go.Geo.cyc_at hx (by rw [hn];exact hj) hy;have hY':=hY i x y him2 hcy;obtain ⟨fr,nt,ps,pa,pb,jmp,hr1,hr2⟩:=hrec i him2;obtain ⟨i1,hi1⟩:∃ i1,i1=i+1:=⟨_,rfl⟩
     have hz:IntKind.wrap .i64 ((i:Int)+1)=(i1:Int):=by rw [AD (by omega) (by omega)];omega
     rw [<-hi1] at hj hY';have q1:(0:Int)<=(i1:Int).tmod (n:Int):=Int.natCast_nonneg (i1%n);have q2:((i1:Int).tmod (n:Int)).toNat=j:=by rw [hj];rfl
     have hnz:¬ (n:Int)=0:=by omega
     have hnz':¬ n=0:=by omega
     simp [hx,hz,hn,inC,Nat.testBit,AA,bi,na,la,hnz',q1,q2,hy];have hne:∀ q∈KS,¬ q=1004194304:=fun q hq e=>by have:=hN q hq;omega
     refine Fp.keep [vsp x.1 x.2,vsp y.1 y.2] (L i) (L i1) KS _ hY' (hL i hi) (hL i1 (by omega)) ⟨fr,nt,ps,pa,pb,jmp,hr1,hr2⟩ (fun q hq=>by simp [hne q hq]) (by simp) ?_;cases hgi:go i
     . have e:i1=m:=by
         by_cases hlt:i+1<m
         . rw [hgo i hlt] at hgi;cases hgi
         . omega
       simp;refine Dc.keep rfl (hL m (Nat.le_refl _)) fun q hq=>by simp [hq,e]
     . simp [hz]
       refine ⟨i1,⟨by omega,fun e=>?_⟩,by omega,?_⟩
       . rcases hend with h1 | ⟨_,h1⟩
         . exact h1
         . rw [show m-1=i by omega,hgi] at h1;cases h1
       . refine AI.keep hs (hL i1 (by omega)) (fun q hq=>by simp [hq]) hN _ ?_ ?_
         . simp [Cr hk,Cr ha]
         . simp [hN k hk,hN a ha]
   . simp at h
     have e:i=m:=by omega
     subst e;simp;exact Dc.keep rfl (hL i (Nat.le_refl _)) fun i _=>by simp
end Go.Proofs.Tryz
