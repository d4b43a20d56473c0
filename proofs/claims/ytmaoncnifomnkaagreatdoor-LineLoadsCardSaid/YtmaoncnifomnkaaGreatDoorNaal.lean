/- Own lemmas, used by the last text. Conditions: those that each theorem states. -/
import Derived.Test.YtmaoncnifomnkaaGreatDoorNaaf
import Derived.Test.YtmaoncnifomnkaaGreatDoorNaag
import Derived.Test.YtmaoncnifomnkaaGreatDoorNaah
import Derived.Test.YtmaoncnifomnkaaGreatDoorNaai
import Derived.Test.YtmaoncnifomnkaaGreatDoorNaaj
import Derived.Test.YtmaoncnifomnkaaGreatDoorNaak
set_option maxRecDepth 200000
set_option maxHeartbeats 8000000
namespace Go.Proofs.Tryz
open Go.Psl
open Go.Air
theorem AVW (p:Int × Int):Ct prog 293 [vsp p.1 p.2] (vb (bkB p)) []:=by
 have c1:=sB p.1 0 1000000000000;have c2:=sB p.2 0 1000000000000;have e:bkB p=(rgB 0 1000000000000 [p.1]&&rgB 0 1000000000000 [p.2]):=rU;rw [e]
 generalize rgB 0 1000000000000 [p.1]=b1 at*
 generalize rgB 0 1000000000000 [p.2]=b2 at*
 cases b1<;>(
   refine CB func293 c293 fun E hE=>?_
   simp [p293]
   repeat ((first | (refine CLt c1 ?_ ?_;focus (simp;done)) | (refine CLt c2 ?_ ?_;focus (simp;done)));simp)
   apply RZ;simp [results293])
theorem vY (p:Plt) (hl:p.cs.length<=1000000) (h:IR p=false):Ct prog 255 [AWy p (.d (AX p.cs))] (vb false) []:=by
 have c1:=sB p.bt 0 10000000;have c2:=AVW (p.ih,p.ia);have c3:=AVW (p.vh,p.va);have c4:=AVW (p.lh,p.la);have c5:=AVW (p.ph,p.pa)
 have e:IR p=(decide (p.cs.length<=12)&&rgB 0 10000000 [p.bt]&&(bkB (p.ih,p.ia)&&(bkB (p.vh,p.va)&&(bkB (p.lh,p.la)&&bkB (p.ph,p.pa))))):=by
   unfold IR Li;simp [Bool.and_assoc]
 rw [e] at h;by_cases hn:p.cs.length<=12
 case neg=>
   have hI:(12:Int)<p.cs.length:=by omega
   refine CB func255 AXR fun E hE=>?_
   simp [p255,hI];apply RZ;simp [results255]
 have hI:¬ (12:Int)<p.cs.length:=by omega
 have hI2:(p.cs.length:Int)<=12:=by omega
 rw [decide_eq_true hn] at h
 generalize rgB 0 10000000 [p.bt]=b1 at*
 generalize bkB (p.ih,p.ia)=b2 at*
 generalize bkB (p.vh,p.va)=b3 at*
 generalize bkB (p.lh,p.la)=b4 at*
 generalize bkB (p.ph,p.pa)=b5 at*
 cases b1
 . refine CB func255 AXR fun E hE=>?_
   simp [p255,hI]
   repeat ((first | (refine CLt c1 ?_ ?_;focus (simp;done)) | (refine CLt c2 ?_ ?_;focus (simp;done)) | (refine CLt c3 ?_ ?_;focus (simp;done)) | (refine CLt c4 ?_ ?_;focus (simp;done)) | (refine CLt c5 ?_ ?_;focus (simp;done)));simp)
   apply RZ;simp [results255]
 cases b2
 . refine CB func255 AXR fun E hE=>?_
   simp [p255,hI]
   repeat ((first | (refine CLt c1 ?_ ?_;focus (simp;done)) | (refine CLt c2 ?_ ?_;focus (simp;done)) | (refine CLt c3 ?_ ?_;focus (simp;done)) | (refine CLt c4 ?_ ?_;focus (simp;done)) | (refine CLt c5 ?_ ?_;focus (simp;done)));simp)
   apply RZ;simp [results255]
 cases b3
 . refine CB func255 AXR fun E hE=>?_
   simp [p255,hI]
   repeat ((first | (refine CLt c1 ?_ ?_;focus (simp;done)) | (refine CLt c2 ?_ ?_;focus (simp;done)) | (refine CLt c3 ?_ ?_;focus (simp;done)) | (refine CLt c4 ?_ ?_;focus (simp;done)) | (refine CLt c5 ?_ ?_;focus (simp;done)));simp)
   apply RZ;simp [results255]
 cases b4
 . refine CB func255 AXR fun E hE=>?_
   simp [p255,hI]
   repeat ((first | (refine CLt c1 ?_ ?_;focus (simp;done)) | (refine CLt c2 ?_ ?_;focus (simp;done)) | (refine CLt c3 ?_ ?_;focus (simp;done)) | (refine CLt c4 ?_ ?_;focus (simp;done)) | (refine CLt c5 ?_ ?_;focus (simp;done)));simp)
   apply RZ;simp [results255]
 cases b5
 . refine CB func255 AXR fun E hE=>?_
   simp [p255,hI]
   repeat ((first | (refine CLt c1 ?_ ?_;focus (simp;done)) | (refine CLt c2 ?_ ?_;focus (simp;done)) | (refine CLt c3 ?_ ?_;focus (simp;done)) | (refine CLt c4 ?_ ?_;focus (simp;done)) | (refine CLt c5 ?_ ?_;focus (simp;done)));simp)
   apply RZ;simp [results255]
 . simp at h
theorem uf (p:Plt) (hb:IR p=true):Ct prog 255 [AWy p (.d (AX p.cs))] (vb (Ar p)) []:=by
 have c1:=sB p.bt 0 10000000;have c2:=AVW (p.ih,p.ia);have c3:=AVW (p.vh,p.va);have c4:=AVW (p.lh,p.la);have c5:=AVW (p.ph,p.pa);have hbk:=K9 (p:=p) (by unfold IR at hb;simp at hb;simpa using hb.2);have hbt:0<=p.bt/\p.bt<=10000000:=by unfold IR at hb;simp [rgB] at hb;omega
 have hn:p.cs.length<=12:=by unfold IR at hb;simp at hb;exact hb.1.1
 have e:IR p=(decide (p.cs.length<=12)&&rgB 0 10000000 [p.bt]&&(bkB (p.ih,p.ia)&&(bkB (p.vh,p.va)&&(bkB (p.lh,p.la)&&bkB (p.ph,p.pa))))):=by
   unfold IR Li;simp [Bool.and_assoc]
 rw [hb] at e;have hI:¬ (12:Int)<p.cs.length:=by omega
 have hI2:(p.cs.length:Int)<=12:=by omega
 rw [decide_eq_true hn] at e;have e':=e.symm;simp only [Bool.true_and,Bool.and_eq_true] at e';rw [e'.1] at c1;rw [e'.2.1] at c2;rw [e'.2.2.1] at c3;rw [e'.2.2.2.1] at c4;rw [e'.2.2.2.2] at c5;have w1:IntKind.wrap .i64 (p.bt+p.vh)=p.bt+p.vh:=AD (by omega) (by omega);have w2:IntKind.wrap .i64 (p.bt+p.vh+p.lh)=p.bt+p.vh+p.lh:=AD (by omega) (by omega);have w3:IntKind.wrap .i64 (p.bt+p.vh+p.lh+p.ph)=p.bt+p.vh+p.lh+p.ph:=AD (by omega) (by omega);have w4:IntKind.wrap .i64 (p.va+p.la)=p.va+p.la:=AD (by omega) (by omega);have w5:IntKind.wrap .i64 (p.va+p.la+p.pa)=p.va+p.la+p.pa:=AD (by omega) (by omega);refine CB func255 AXR fun E hE=>?_
 simp [p255,hI]
 repeat ((first | (refine CLt c1 ?_ ?_;focus (simp;done)) | (refine CLt c2 ?_ ?_;focus (simp;done)) | (refine CLt c3 ?_ ?_;focus (simp;done)) | (refine CLt c4 ?_ ?_;focus (simp;done)) | (refine CLt c5 ?_ ?_;focus (simp;done)));simp [w1,w2,w3,w4,w5])
 refine Al (α:=Nat) (fun i=>⟨AO [(1, .lp 0 0),(3,vi (p.bt+p.vh+p.lh+p.ph+heS (p.cs.take i))),(4,vi (p.va+p.la+p.pa+aiS (p.cs.take i))),(5,vi i)],lk [(0,[.d (AX p.cs),vi p.bt,vi p.ih,vi p.ia,vi p.vh,vi p.va,vi p.lh,vi p.la,vi p.ph,vi p.pa])],1⟩) (fun i=>i<=p.cs.length/\∀ c∈p.cs.take i,B5 c) (fun i=>p.cs.length-i) 0 ?_ ?_ ?_
 . simp
 . refine AI.mk hE (lk [(0,0)]) _ _ _ ?_ ?_ ?_ ?_ ?_<;>simp [heS,aiS]
 . rintro i ⟨hi,hcs⟩
   by_cases h:i<p.cs.length
   . obtain ⟨c,hc⟩:=gE h
     have hz:=@wz i (by omega);have hI:(i:Int)<p.cs.length:=by omega
     have d1:=se c;cases hok:Je c
     . have hbad:Ar p=false:=by
         unfold Ar
         have:p.cs.all Je=false:=by
           rw [List.all_eq_false];exact ⟨c,List.mem_of_getElem? hc,by simp [hok]⟩
         simp [this]
       rw [hok] at d1;simp [bV,hI,hc];refine CLa d1 ?_;simp;apply RZ;simp [results255,hbad]
     . rw [hok] at d1
       have hcb:=Dm.1 hok;have hx:=hcb.he;have hy:=hcb.ai;have e1:=Yz hc;have e2:=tY hc;have b1:=Y1 hcs;have b2:=Y2 hcs;have hlen:((p.cs.take i).length:Int)<=12:=by simp;omega
       have v1:IntKind.wrap .i64 (p.bt+p.vh+p.lh+p.ph+heS (p.cs.take i)+c.he)=p.bt+p.vh+p.lh+p.ph+heS (p.cs.take i)+c.he:=AD (by omega) (by omega);have v2:IntKind.wrap .i64 (p.va+p.la+p.pa+aiS (p.cs.take i)+c.ai)=p.va+p.la+p.pa+aiS (p.cs.take i)+c.ai:=AD (by omega) (by omega);simp [bV,hI,hc];refine CLa d1 ?_;simp [hc,hz,v1,v2];refine ⟨i+1,⟨by omega,?_⟩,by omega,?_⟩
       . intro d hd
         rw [List.take_add_one,hc] at hd;simp only [List.mem_append,Option.toList_some,List.mem_singleton] at hd;rcases hd with hd | rfl
         . exact hcs d hd
         . exact hcb
       . rw [e1,e2,<-Int.add_assoc,<-Int.add_assoc]
         exact WK hE (lk [(0,0)])
   . have ei:i=p.cs.length:=by omega
     have hI:¬ (i:Int)<p.cs.length:=by omega
     rw [ei,List.take_length] at hcs
     have hall:p.cs.all Je=true:=by
       rw [List.all_eq_true];exact fun c hc=>Dm.2 (hcs c hc)
     have eo:Ar p=decide (p.bt+p.vh+p.lh+p.ph+heS p.cs=p.ih/\p.va+p.la+p.pa+aiS p.cs=p.ia):=by simp [Ar,hb,hall]
     rw [ei,List.take_length];by_cases hq:p.bt+p.vh+p.lh+p.ph+heS p.cs=p.ih
     . simp [bV,hq]
       apply RZ;simp [results255,eo,hq]
     . simp [bV,hq]
       apply RZ;simp [results255,eo,hq]
theorem Wj (p:Plt) (hl:p.cs.length<=1000000):Ct prog 255 [AWy p (.d (AX p.cs))] (vb (Ar p)) []:=by
 cases h:IR p
 . have e:Ar p=false:=by unfold Ar;rw [h];rfl
   rw [e];exact vY p hl h
 . exact uf p h
theorem AXa (a b lo hi:Int):Ct prog 203 [vsp a b,vi lo,vi hi] (vb (spB lo hi a b)) []:=by
 have e:spB lo hi a b=(decide (a<=b)&&decide (lo<=a)&&decide (b<=hi)):=by
   rw [Bool.eq_iff_iff,CC];simp;omega
 rw [e];by_cases h:a<=b
 . by_cases h2:lo<=a
   . refine CB func203 qc fun E hE=>?_
     simp [p203,h,h2];apply RZ;simp [results203]
   . refine CB func203 qc fun E hE=>?_
     simp [p203,h,h2];apply RZ;simp [results203]
 . refine CB func203 qc fun E hE=>?_
   simp [p203,h];apply RZ;simp [results203]
theorem AAN (a b lo hi:Int):Ct prog 253 [vsp a b,vi lo,vi hi] (vb (spB lo hi a b)) []:=by
 have e:spB lo hi a b=(decide (a<=b)&&decide (lo<=a)&&decide (b<=hi)):=by
   rw [Bool.eq_iff_iff,CC];simp;omega
 rw [e];by_cases h:a<=b
 . by_cases h2:lo<=a
   . refine CB func253 yr fun E hE=>?_
     simp [p253,h,h2];apply RZ;simp [results253]
   . refine CB func253 yr fun E hE=>?_
     simp [p253,h,h2];apply RZ;simp [results253]
 . refine CB func253 yr fun E hE=>?_
   simp [p253,h];apply RZ;simp [results253]
theorem Tx (s:Shp) (hl:s.gas.cs.length<=1000000):Ct prog 189 [AW3 s (.d (AX s.gas.cs))] (vb (A6 s)) []:=by
 have c1:=AAN s.xl s.xh (-10000000) 10000000;have c2:=AAN s.yl s.yh (-10000000) 10000000;have c3:=AAN s.hl s.hh (-500) 9000;have c4:=AAN s.fl s.fh 0 1000000000;have c5:=AAN s.wl s.wh 0 1000000000;have c6:=AAN s.bl s.bh 0 1000000000000;have c7:=AVj s.dry 0 1000000000;have c8:=AVj s.bal 0 1000000000;have c9:=AVj s.drp 0 1000000000000;have cA:=Wj s.gas hl;have e:A6 s=((spB (-10000000) 10000000 s.xl s.xh&&spB (-10000000) 10000000 s.yl s.yh)&&spB (-500) 9000 s.hl s.hh&&(spB 0 1000000000 s.fl s.fh&&spB 0 1000000000 s.wl s.wh)&&spB 0 1000000000000 s.bl s.bh&&(rgB 0 1000000000 [s.dry]&&rgB 0 1000000000 [s.bal])&&rgB 0 1000000000000 [s.drp]&&Ar s.gas):=by unfold A6;rw [rU]
 rw [e]
 generalize spB (-10000000) 10000000 s.xl s.xh=b1 at*
 generalize spB (-10000000) 10000000 s.yl s.yh=b2 at*
 generalize spB (-500) 9000 s.hl s.hh=b3 at*
 generalize spB 0 1000000000 s.fl s.fh=b4 at*
 generalize spB 0 1000000000 s.wl s.wh=b5 at*
 generalize spB 0 1000000000000 s.bl s.bh=b6 at*
 generalize rgB 0 1000000000 [s.dry]=b7 at*
 generalize rgB 0 1000000000 [s.bal]=b8 at*
 generalize rgB 0 1000000000000 [s.drp]=b9 at*
 generalize Ar s.gas=bA at*
 cases b1
 . refine CB func189 AV4 fun E hE=>?_
   simp [p189]
   repeat ((first | (refine CLt c1 ?_ ?_;focus (simp;done)) | (refine CLt c2 ?_ ?_;focus (simp;done)) | (refine CLt c3 ?_ ?_;focus (simp;done)) | (refine CLt c4 ?_ ?_;focus (simp;done)) | (refine CLt c5 ?_ ?_;focus (simp;done)) | (refine CLt c6 ?_ ?_;focus (simp;done)) | (refine CLt c7 ?_ ?_;focus (simp;done)) | (refine CLt c8 ?_ ?_;focus (simp;done)) | (refine CLt c9 ?_ ?_;focus (simp;done)) | (refine CLt cA ?_ ?_;focus (simp;done)));simp)
   apply RZ;simp [results189]
 cases b2
 . refine CB func189 AV4 fun E hE=>?_
   simp [p189]
   repeat ((first | (refine CLt c1 ?_ ?_;focus (simp;done)) | (refine CLt c2 ?_ ?_;focus (simp;done)) | (refine CLt c3 ?_ ?_;focus (simp;done)) | (refine CLt c4 ?_ ?_;focus (simp;done)) | (refine CLt c5 ?_ ?_;focus (simp;done)) | (refine CLt c6 ?_ ?_;focus (simp;done)) | (refine CLt c7 ?_ ?_;focus (simp;done)) | (refine CLt c8 ?_ ?_;focus (simp;done)) | (refine CLt c9 ?_ ?_;focus (simp;done)) | (refine CLt cA ?_ ?_;focus (simp;done)));simp)
   apply RZ;simp [results189]
 cases b3
 . refine CB func189 AV4 fun E hE=>?_
   simp [p189]
   repeat ((first | (refine CLt c1 ?_ ?_;focus (simp;done)) | (refine CLt c2 ?_ ?_;focus (simp;done)) | (refine CLt c3 ?_ ?_;focus (simp;done)) | (refine CLt c4 ?_ ?_;focus (simp;done)) | (refine CLt c5 ?_ ?_;focus (simp;done)) | (refine CLt c6 ?_ ?_;focus (simp;done)) | (refine CLt c7 ?_ ?_;focus (simp;done)) | (refine CLt c8 ?_ ?_;focus (simp;done)) | (refine CLt c9 ?_ ?_;focus (simp;done)) | (refine CLt cA ?_ ?_;focus (simp;done)));simp)
   apply RZ;simp [results189]
 cases b4
 . refine CB func189 AV4 fun E hE=>?_
   simp [p189]
   repeat ((first | (refine CLt c1 ?_ ?_;focus (simp;done)) | (refine CLt c2 ?_ ?_;focus (simp;done)) | (refine CLt c3 ?_ ?_;focus (simp;done)) | (refine CLt c4 ?_ ?_;focus (simp;done)) | (refine CLt c5 ?_ ?_;focus (simp;done)) | (refine CLt c6 ?_ ?_;focus (simp;done)) | (refine CLt c7 ?_ ?_;focus (simp;done)) | (refine CLt c8 ?_ ?_;focus (simp;done)) | (refine CLt c9 ?_ ?_;focus (simp;done)) | (refine CLt cA ?_ ?_;focus (simp;done)));simp)
   apply RZ;simp [results189]
 cases b5
 . refine CB func189 AV4 fun E hE=>?_
   simp [p189]
   repeat ((first | (refine CLt c1 ?_ ?_;focus (simp;done)) | (refine CLt c2 ?_ ?_;focus (simp;done)) | (refine CLt c3 ?_ ?_;focus (simp;done)) | (refine CLt c4 ?_ ?_;focus (simp;done)) | (refine CLt c5 ?_ ?_;focus (simp;done)) | (refine CLt c6 ?_ ?_;focus (simp;done)) | (refine CLt c7 ?_ ?_;focus (simp;done)) | (refine CLt c8 ?_ ?_;focus (simp;done)) | (refine CLt c9 ?_ ?_;focus (simp;done)) | (refine CLt cA ?_ ?_;focus (simp;done)));simp)
   apply RZ;simp [results189]
 cases b6
 . refine CB func189 AV4 fun E hE=>?_
   simp [p189]
   repeat ((first | (refine CLt c1 ?_ ?_;focus (simp;done)) | (refine CLt c2 ?_ ?_;focus (simp;done)) | (refine CLt c3 ?_ ?_;focus (simp;done)) | (refine CLt c4 ?_ ?_;focus (simp;done)) | (refine CLt c5 ?_ ?_;focus (simp;done)) | (refine CLt c6 ?_ ?_;focus (simp;done)) | (refine CLt c7 ?_ ?_;focus (simp;done)) | (refine CLt c8 ?_ ?_;focus (simp;done)) | (refine CLt c9 ?_ ?_;focus (simp;done)) | (refine CLt cA ?_ ?_;focus (simp;done)));simp)
   apply RZ;simp [results189]
 cases b7
 . refine CB func189 AV4 fun E hE=>?_
   simp [p189]
   repeat ((first | (refine CLt c1 ?_ ?_;focus (simp;done)) | (refine CLt c2 ?_ ?_;focus (simp;done)) | (refine CLt c3 ?_ ?_;focus (simp;done)) | (refine CLt c4 ?_ ?_;focus (simp;done)) | (refine CLt c5 ?_ ?_;focus (simp;done)) | (refine CLt c6 ?_ ?_;focus (simp;done)) | (refine CLt c7 ?_ ?_;focus (simp;done)) | (refine CLt c8 ?_ ?_;focus (simp;done)) | (refine CLt c9 ?_ ?_;focus (simp;done)) | (refine CLt cA ?_ ?_;focus (simp;done)));simp)
   apply RZ;simp [results189]
 cases b8
 . refine CB func189 AV4 fun E hE=>?_
   simp [p189]
   repeat ((first | (refine CLt c1 ?_ ?_;focus (simp;done)) | (refine CLt c2 ?_ ?_;focus (simp;done)) | (refine CLt c3 ?_ ?_;focus (simp;done)) | (refine CLt c4 ?_ ?_;focus (simp;done)) | (refine CLt c5 ?_ ?_;focus (simp;done)) | (refine CLt c6 ?_ ?_;focus (simp;done)) | (refine CLt c7 ?_ ?_;focus (simp;done)) | (refine CLt c8 ?_ ?_;focus (simp;done)) | (refine CLt c9 ?_ ?_;focus (simp;done)) | (refine CLt cA ?_ ?_;focus (simp;done)));simp)
   apply RZ;simp [results189]
 cases b9
 . refine CB func189 AV4 fun E hE=>?_
   simp [p189]
   repeat ((first | (refine CLt c1 ?_ ?_;focus (simp;done)) | (refine CLt c2 ?_ ?_;focus (simp;done)) | (refine CLt c3 ?_ ?_;focus (simp;done)) | (refine CLt c4 ?_ ?_;focus (simp;done)) | (refine CLt c5 ?_ ?_;focus (simp;done)) | (refine CLt c6 ?_ ?_;focus (simp;done)) | (refine CLt c7 ?_ ?_;focus (simp;done)) | (refine CLt c8 ?_ ?_;focus (simp;done)) | (refine CLt c9 ?_ ?_;focus (simp;done)) | (refine CLt cA ?_ ?_;focus (simp;done)));simp)
   apply RZ;simp [results189]
 . refine CB func189 AV4 fun E hE=>?_
   simp [p189]
   repeat ((first | (refine CLt c1 ?_ ?_;focus (simp;done)) | (refine CLt c2 ?_ ?_;focus (simp;done)) | (refine CLt c3 ?_ ?_;focus (simp;done)) | (refine CLt c4 ?_ ?_;focus (simp;done)) | (refine CLt c5 ?_ ?_;focus (simp;done)) | (refine CLt c6 ?_ ?_;focus (simp;done)) | (refine CLt c7 ?_ ?_;focus (simp;done)) | (refine CLt c8 ?_ ?_;focus (simp;done)) | (refine CLt c9 ?_ ?_;focus (simp;done)) | (refine CLt cA ?_ ?_;focus (simp;done)));simp)
   apply RZ;simp [results189]
theorem zg (a b:Int) (ha:0<=a/\a<=3000000000000000000) (hb:0<b):Ct prog 266 [vi a,vi b] (vi (a/b)) []:=by
 have h0:¬ a<0:=by omega
 have hz:¬ b=0:=by omega
 have t:=J5 (b:=b) ha.1;have d:=NJ ha hb;have w:IntKind.wrap .i64 (a/b)=a/b:=AD (by omega) (by omega);refine CB func266 AbB fun E hE=>?_
 simp [p266,h0,hz,t,w];apply RZ;simp [results266]
theorem Aan (a b:Int) (ha:0<=a/\a<=3000000000000000000) (hb:0<b/\b<=1000000000000000000):Ct prog 266 [vi (-a),vi b] (vi (-cdv a b)) []:=by
 have hz:¬ b=0:=by omega
 by_cases h0:0<a
 . have w0:IntKind.wrap .i64 a=a:=AD (by omega) (by omega)
   have w1:IntKind.wrap .i64 (a+b)=a+b:=AD (by omega) (by omega);have w2:IntKind.wrap .i64 (a+b-1)=a+b-1:=AD (by omega) (by omega);have t:=J5 (a:=a+b-1) (b:=b) (by omega);have d:=NJ (a:=a+b-1) (b:=b) (M:=4000000000000000000) (by omega) hb.1;have w3:IntKind.wrap .i64 ((a+b-1)/b)=(a+b-1)/b:=AD (by omega) (by omega);have w4:IntKind.wrap .i64 (-((a+b-1)/b))= -((a+b-1)/b):=AD (by omega) (by omega);refine CB func266 AbB fun E hE=>?_
   simp [p266,h0,hz,w0,w1,w2,w3,w4,t];apply RZ;simp [results266,cdv]
 . have e:a=0:=by omega
   subst e;have ed:(b-1)/b=0:=Int.ediv_eq_zero_of_lt (by omega) (by omega);refine CB func266 AbB fun E hE=>?_
   simp [p266,hz];apply RZ;simp [results266,cdv,ed];decide
theorem xy (a b:Int) (ha:0<=a/\a<=3000000000000000000) (hb:0<b/\b<=1000000000000000000):Ct prog 267 [vi a,vi b] (vi (cdv a b)) []:=by
 have c:=Aan a b ha hb;have w0:IntKind.wrap .i64 (-a)= -a:=AD (by omega) (by omega);have d:=NJ (a:=a+b-1) (b:=b) (M:=4000000000000000000) (by omega) hb.1;have w1:IntKind.wrap .i64 (cdv a b)=cdv a b:=AD (by unfold cdv;omega) (by unfold cdv;omega);refine CB func267 c267 fun E hE=>?_
 simp [p267,w0];refine CLa c ?_;simp [w1];apply RZ;simp [results267]
theorem xz (a b c d:Int):Ct prog 264 [vsp a b,vsp c d] (vsp (max a c) (min b d)) []:=by
 refine CB func264 c264 fun E hE=>?_
 simp [p264,AA];apply RZ;simp [results264]
theorem zk (x y c tl th:Int) (hx:0<=x/\x<=400000000) (hy:0<=y/\y<=400000000) (hc:0<c/\c<=2000) (ht:1500<=tl/\tl<=th/\th<=3500):Ct prog 206 [vsp x y,vi c,vsp tl th] (vsp (CY (1000000*tl) (341632*c) x) (C9 (1000000*th) (341632*c) y)) []:=by
 obtain ⟨A,hA⟩:∃ A,1000000*tl=A:=⟨_,rfl⟩
 obtain ⟨B,hB⟩:∃ B,1000000*th=B:=⟨_,rfl⟩
 obtain ⟨S,hS⟩:∃ S,341632*c=S:=⟨_,rfl⟩
 have w1:IntKind.wrap .i64 S=S:=AD (by omega) (by omega);have w2:IntKind.wrap .i64 A=A:=AD (by omega) (by omega);have w3:IntKind.wrap .i64 B=B:=AD (by omega) (by omega);have w4:IntKind.wrap .i64 (A-S)=A-S:=AD (by omega) (by omega);have w10:IntKind.wrap .i64 (B+S)=B+S:=AD (by omega) (by omega);have m1:=J4 (x:=x) (y:=A-S) (X:=400000000) (Y:=5000000000) hx (by omega);have m2:=J4 (x:=y) (y:=B) (X:=400000000) (Y:=3500000000) hy (by omega);have w5:IntKind.wrap .i64 (x*(A-S))=x*(A-S):=AD (by omega) (by omega);have w6:IntKind.wrap .i64 (y*B)=y*B:=AD (by omega) (by omega);have c1:=zg (x*(A-S)) A (by omega) (by omega);have c2:=xy (y*B) (B+S) (by omega) (by omega);rw [hA,hB,hS];refine CB func206 c206 fun E hE=>?_
 simp [p206,inC,Nat.testBit,hA,hB,hS,w1,w2,w3,w4,w5,w6,w10];refine CLa c1 ?_;simp [inC,Nat.testBit,hS,w1,w6,w10];refine CLa c2 ?_;simp [AA];apply RZ;simp [results206,CY,C9]
theorem yA (x y c tl th:Int) (hx:0<=x/\x<=400000000) (hy:0<=y/\y<=400000000) (hc:0<c/\c<=2000) (ht:1500<=tl/\tl<=th/\th<=3500):Ct prog 265 [vsp x y,vi c,vsp tl th] (vsp (Cz (1000000*th) (341632*c) x) (Ud (1000000*tl) (341632*c) y)) []:=by
 obtain ⟨A,hA⟩:∃ A,1000000*tl=A:=⟨_,rfl⟩
 obtain ⟨B,hB⟩:∃ B,1000000*th=B:=⟨_,rfl⟩
 obtain ⟨S,hS⟩:∃ S,341632*c=S:=⟨_,rfl⟩
 have w1:IntKind.wrap .i64 S=S:=AD (by omega) (by omega);have w2:IntKind.wrap .i64 A=A:=AD (by omega) (by omega);have w3:IntKind.wrap .i64 B=B:=AD (by omega) (by omega);have w4:IntKind.wrap .i64 (A-S)=A-S:=AD (by omega) (by omega);have w10:IntKind.wrap .i64 (B+S)=B+S:=AD (by omega) (by omega);have m1:=J4 (x:=x) (y:=B+S) (X:=400000000) (Y:=5000000000) hx (by omega);have m2:=J4 (x:=y) (y:=A) (X:=400000000) (Y:=3500000000) hy (by omega);have w5:IntKind.wrap .i64 (x*(B+S))=x*(B+S):=AD (by omega) (by omega);have w6:IntKind.wrap .i64 (y*A)=y*A:=AD (by omega) (by omega);have c1:=zg (x*(B+S)) B (by omega) (by omega);have c2:=xy (y*A) (A-S) (by omega) (by omega);rw [hA,hB,hS];refine CB func265 c265 fun E hE=>?_
 simp [p265,inC,Nat.testBit,hA,hB,hS,w1,w2,w3,w4,w5,w6,w10];refine CLa c1 ?_;simp [inC,Nat.testBit,hS,w1,w4,w6];refine CLa c2 ?_;simp [AA];apply RZ;simp [results265,Cz,Ud]
theorem AbN (l m:List (Int × Int)) (hl:l.length<=1000000000) (_:m.length<=1000000000):Ct prog 295 [.d (An l), .d (An m)] (vb (decide (l=m))) []:=by
 refine CB func295 c295 fun E hE=>?_
 by_cases hlen:l.length=m.length
 case neg=>
   have hn:¬ (l.length:Int)=m.length:=by omega
   have hne:¬ l=m:=fun h=>hlen (by rw [h])
   simp [p295,hn];apply RZ;simp [results295,hne]
 simp [p295,hlen];refine Al (α:=Nat) (fun i=>⟨AO [(0, .d (An l)),(1, .d (An m)),(5,vi i)],lk [],0⟩) (fun i=>i<=l.length/\l.take i=m.take i) (fun i=>l.length-i) 0 ?_ ?_ ?_
 . simp
 . exact WK hE (lk [])
 . rintro i ⟨hi,hg⟩
   have hz:IntKind.wrap .i64 ((i:Int)+1)=((i:Int)+1):=AD (by omega) (by omega);simp [AZI];refine DW (fun h=>?_) (fun h=>?_)
   . simp at h
     have hil:i<l.length:=by omega
     obtain ⟨a,ha⟩:∃ a,l[i]?= some a:=⟨l[i],by simp [hil]⟩
     obtain ⟨b,hb⟩:∃ b,m[i]?= some b:=⟨m[i],by simp [show i<m.length by omega]⟩
     by_cases h1:a.1=b.1/\a.2=b.2
     . have hab:a=b:=by ext;exact h1.1;exact h1.2
       simp [ha,hb,h1,hz];refine ⟨i+1,⟨by omega,by simp [List.take_add_one,hg,ha,hb,hab]⟩,by omega,?_⟩;exact WK hE (lk [])
     . have hne:¬ l=m:=fun h=>by
         rw [h,hb] at ha;cases ha;exact h1 ⟨rfl,rfl⟩
       have hd:(!decide (a.1=b.1)||!decide (a.2=b.2))=true:=by simp;omega
       simp [ha,hb,hd];apply RZ;simp [results295,hne]
   . simp at h
     have hil:i=l.length:=by omega
     have hlm:l=m:=by rw [hil,List.take_length,hlen,List.take_length] at hg;exact hg
     simp;apply RZ;simp [results295,hlm]
theorem xY (l:List (Int × Int)):(l.map fun s=>[di s.1,di s.2]).flatten=spD l:=rfl
theorem xZ {l:List (Int × Int)}:∀ x∈spD l,B9 x:=fun x h=>by
 simp only [spD,List.mem_flatMap] at h;obtain ⟨s,_,h⟩:=h;simp at h;rcases h with rfl | rfl<;>exact ⟨_,rfl⟩
theorem vW {H:Hp} {id:Nat} {l:List (Int × Int)} {p:Int × Int} (h:H id=some (BC l++[vi p.1,vi p.2])):Bor H (.ls id 0 (l.length+1) 2) (.d (An (l++[p]))):=by
 rw [Bk];refine ⟨rfl,by simp,fun e he=>?_,_,h,?_⟩
 . simp only [List.mem_map] at he
   obtain ⟨k,_,rfl⟩:=he;rfl
 . rw [xY,bZ,List.drop_zero,List.take_of_length_le (by simp;omega)]
   simp
open Go.Geo (cross Qs AE Bo)
def leC (x y:Int × Int):Bool:=!decide (Dw y x<0)
theorem PX {x y:Int × Int}:Dw x y<0↔Go.Geo.lt x y:=by
 unfold Dw orI orI orI NM Go.Geo.lt;by_cases h1:x.1<y.1
 . simp [h1]
 . by_cases h2:y.1<x.1
   . simp [h1,h2];omega
   . by_cases h3:x.2<y.2
     . simp [h1,h2,h3];omega
     . by_cases h4:y.2<x.2
       . simp [h1,h2,h3,h4]
       . simp [h1,h2,h3,h4]
theorem GZ {x y:Int × Int}:leC x y=true↔¬ Go.Geo.lt y x:=by unfold leC;rw [Bool.not_eq_true',decide_eq_false_iff_not,PX]
theorem WD (a b c:Int × Int) (h1:leC a b=true) (h2:leC b c=true):leC a c=true:=by
 rw [GZ] at*;unfold Go.Geo.lt at*;omega
theorem WE (a b:Int × Int):(leC a b||leC b a)=true:=by
 rw [Bool.or_eq_true,GZ,GZ];unfold Go.Geo.lt;omega
theorem PY (l:List (Int × Int)):(DK l).Pairwise fun x y=>leC x y=true:=List.pairwise_mergeSort WD WE l
theorem qi {l:List (Int × Int)} (h:l.Pairwise fun x y=>leC x y=true):Go.Geo.Sorted (ddC l):=by
 have key:∀ (l d:List (Int × Int)),l.Pairwise (fun x y=>leC x y=true)->Go.Geo.Sorted d->(∀ x∈d,∀ y∈l,leC x y=true)->Go.Geo.Sorted (l.foldl DQ d):=by
   intro l;induction l with
   | nil=>intro d _ h _;exact h
   | cons a l ih=>
     intro d hl hd hx;rw [List.foldl_cons];have hl':=List.pairwise_cons.1 hl;unfold DQ;by_cases h:d.getLast?= some a
     . rw [if_pos h]
       exact ih d hl'.2 hd fun x hx' y hy=>hx x hx' y (by simp [hy])
     . rw [if_neg h]
       refine ih _ hl'.2 ?_ fun x hx' y hy=>?_
       . unfold Go.Geo.Sorted
         rw [List.pairwise_append];refine ⟨hd,List.pairwise_singleton _ _,fun x hxd y hy=>?_⟩;rw [List.mem_singleton.1 hy];have h1:=GZ.1 (hx x hxd a (by simp));rcases Go.Geo.lt_tri x a with h2 | h2 | h2
         . exact h2
         . exfalso
           subst h2;rcases List.eq_nil_or_concat d with rfl | ⟨d',z,rfl⟩
           . simp at hxd
           . rw [List.concat_eq_append] at*
             have hz:=GZ.1 (hx z (by simp) x (by simp));have hne:z≠x:=fun e=>h (by rw [e];simp)
             have hxd':x∈d':=by
               rcases List.mem_append.1 hxd with h | h
               . exact h
               . exact absurd (List.mem_singleton.1 h).symm hne
             have:=(List.pairwise_append.1 hd).2.2 x hxd' z (by simp);exact hz this
         . exact absurd h2 h1
       . rcases List.mem_append.1 hx' with h | h
         . exact hx x h y (by simp [hy])
         . rw [List.mem_singleton.1 h];exact hl'.1 y hy
 exact key l [] h List.Pairwise.nil (by simp)
theorem JN (l:List (Int × Int)):Go.Geo.Sorted (ddC (DK l)):=qi (PY l)
instance (l:List (Int × Int)):Decidable (l.Pairwise fun x y=>leC x y=true):=inferInstance
theorem wM {a b c:Int × Int} (ha:bd 536870912 a) (hb:bd 536870912 b) (hc:bd 536870912 c):(-1152921504606846976<=(b.1-a.1)*(c.2-a.2)/\(b.1-a.1)*(c.2-a.2)<=1152921504606846976)/\(-1152921504606846976<=(b.2-a.2)*(c.1-a.1)/\(b.2-a.2)*(c.1-a.1)<=1152921504606846976):=by
 unfold bd at*;have h1:=NK (M:=1073741824) (N:=1073741824) (x:=b.1-a.1) (y:=c.2-a.2) (by omega) (by omega);have h2:=NK (M:=1073741824) (N:=1073741824) (x:=b.2-a.2) (y:=c.1-a.1) (by omega) (by omega);omega
theorem Abz (a b c:Int × Int) (ha:bd 536870912 a) (hb:bd 536870912 b) (hc:bd 536870912 c):Ct prog 336 [vsp a.1 a.2,vsp b.1 b.2,vsp c.1 c.2] (vi (Go.Geo.cross a b c)) []:=by
 refine CB func336 c336 fun E hE=>?_
 have h:=wM ha hb hc;unfold bd at ha hb hc;have w1:IntKind.wrap .i64 (b.1-a.1)=b.1-a.1:=AD (by omega) (by omega);have w2:IntKind.wrap .i64 (c.2-a.2)=c.2-a.2:=AD (by omega) (by omega);have w3:IntKind.wrap .i64 (b.2-a.2)=b.2-a.2:=AD (by omega) (by omega);have w4:IntKind.wrap .i64 (c.1-a.1)=c.1-a.1:=AD (by omega) (by omega);have w5:IntKind.wrap .i64 ((b.1-a.1)*(c.2-a.2))=(b.1-a.1)*(c.2-a.2):=AD (by omega) (by omega);have w6:IntKind.wrap .i64 ((b.2-a.2)*(c.1-a.1))=(b.2-a.2)*(c.1-a.1):=AD (by omega) (by omega);have w7:IntKind.wrap .i64 ((b.1-a.1)*(c.2-a.2)-(b.2-a.2)*(c.1-a.1))=(b.1-a.1)*(c.2-a.2)-(b.2-a.2)*(c.1-a.1):=AD (by omega) (by omega);simp [p336,w1,w2,w3,w4,w5,w6,w7];apply RZ;simp [results336,Go.Geo.cross]
def ltB (a b:Int × Int):Bool:=decide (a.1<b.1)||(decide (a.1=b.1)&&decide (a.2<b.2))
theorem uu {a b:Int × Int}:ltB a b=true↔Go.Geo.lt a b:=by unfold ltB Go.Geo.lt;simp
theorem Ab0 (a b:Int × Int):Ct prog 335 [vsp a.1 a.2,vsp b.1 b.2] (vb (ltB a b)) []:=by
 rcases Int.lt_trichotomy a.1 b.1 with h | h | h
 . refine CB func335 AbD fun E hE=>?_
   simp [p335,h];apply RZ;simp [results335,ltB,h]
 . have h1:¬ a.1<b.1:=by omega
   refine CB func335 AbD fun E hE=>?_
   simp [p335,h];apply RZ;simp [results335,ltB,h]
 . have h1:¬ a.1<b.1:=by omega
   have h2:¬ a.1=b.1:=by omega
   refine CB func335 AbD fun E hE=>?_
   simp [p335,h1,h2];apply RZ;simp [results335,ltB,h1,h2]
theorem sa {l m:List (Int × Int)} (hl:Go.Geo.Sorted l) (hm:Go.Geo.Sorted m) (h:∀ x,x∈l↔x∈m):l=m:=by
 have hd1:l.Nodup:=hl.imp fun h e=>by subst e;exact Go.Geo.lt_irr _ h
 have hd2:m.Nodup:=hm.imp fun h e=>by subst e;exact Go.Geo.lt_irr _ h
 have hp:l.Perm m:=(List.perm_ext_iff_of_nodup hd1 hd2).2 h;exact hp.eq_of_pairwise (fun a b _ _ h1 h2=>absurd (Go.Geo.lt_trans h1 h2) (Go.Geo.lt_irr _)) hl hm
theorem vJ {l m:List (Int × Int)} (hm:Go.Geo.Sorted m) (h:∀ x,x∈m↔x∈l):m=ddC (DK l):=
 sa hm (JN l) fun x=>by rw [h,Su,Lw]
theorem Gx {O:List (Int × Int)} (h:O≠[]) (b:Nat):AAV O b=[(b,BC O)]:=by
 unfold AAV;cases O with
 | nil=>exact absurd rfl h
 | cons a l=>rfl
theorem tS {out:List (Int × Int)} {p:Int × Int} {j:Nat} (hs:Go.Geo.Sorted out) (hj:j<=out.length) (h1:∀ m q,j<=m->out[m]?= some q->Go.Geo.lt p q) (h2:∀ q,0<j->out[j-1]?= some q->¬ Go.Geo.lt p q):
   (∀ q,0<j->out[j-1]?= some q->q≠p->Go.Geo.Sorted (out.take j++p::out.drop j))/\(j=0->Go.Geo.Sorted (p::out)):=by
 have hd:∀ y∈out.drop j,Go.Geo.lt p y:=fun y hy=>by
   obtain ⟨m,hm⟩:=List.getElem?_of_mem hy;rw [List.getElem?_drop] at hm;exact h1 _ y (by omega) hm
 constructor
 . intro q h0 hq hne
   have hqp:Go.Geo.lt q p:=by
     rcases Go.Geo.lt_tri q p with h | h | h
     . exact h
     . exact absurd h hne
     . exact absurd h (h2 q h0 hq)
   have ht:∀ x∈out.take j,Go.Geo.lt x p:=fun x hx=>by
     obtain ⟨m,hm⟩:=List.getElem?_of_mem hx;rw [List.getElem?_take] at hm;split at hm
     . rename_i hmj
       by_cases e:m=j-1
       . rw [e] at hm;rw [hq] at hm;cases hm;exact hqp
       . have hmm:=(List.getElem?_eq_some_iff.1 hm)
         have hqq:=(List.getElem?_eq_some_iff.1 hq)
         have:=List.pairwise_iff_getElem.1 hs m (j-1) hmm.1 hqq.1 (by omega);rw [hmm.2,hqq.2] at this;exact Go.Geo.lt_trans this hqp
     . cases hm
   refine List.pairwise_append.2 ⟨hs.sublist (List.take_sublist j out),?_,fun x hx y hy=>?_⟩
   . exact List.pairwise_cons.2 ⟨hd,hs.sublist (List.drop_sublist j out)⟩
   . rcases List.mem_cons.1 hy with rfl | hy
     . exact ht x hx
     . exact Go.Geo.lt_trans (ht x hx) (hd y hy)
 . intro h0
   subst h0;exact List.pairwise_cons.2 ⟨fun y hy=>hd y (by simpa using hy),hs⟩
theorem sq {l out:List (Int × Int)} {i j:Nat} {p:Int × Int} (hp:l[i]?= some p) (hm:∀ x,x∈out↔x∈l.take i):∀ x,x∈out.take j++p::out.drop j↔x∈l.take (i+1):=fun x=>by
 rw [List.take_add_one,hp];simp only [List.mem_append,List.mem_cons,Option.toList_some,List.not_mem_nil,or_false];rw [<-hm];have:x∈out↔x∈out.take j\/x∈out.drop j:=by rw [<-List.mem_append,List.take_append_drop]
 rw [this];constructor
 . rintro (h | h | h)
   . exact Or.inl (Or.inl h)
   . exact Or.inr h
   . exact Or.inl (Or.inr h)
 . rintro ((h | h) | h)
   . exact Or.inl h
   . exact Or.inr (Or.inr h)
   . exact Or.inr (Or.inl h)
theorem vo {l out:List (Int × Int)} {i:Nat} {p:Int × Int} (hp:l[i]?= some p) (hm:∀ x,x∈out↔x∈l.take i) (h:p∈out):∀ x,x∈out↔x∈l.take (i+1):=fun x=>by
 rw [List.take_add_one,hp];simp only [List.mem_append,Option.toList_some,List.mem_singleton];rw [<-hm];constructor
 . exact Or.inl
 . rintro (h2 | rfl)
   . exact h2
   . exact h
def xC (out:List (Int × Int)) (p:Int × Int) (k:Nat):Prop:=k<=out.length/\∀ m q,k<=m->out[m]?= some q->Go.Geo.lt p q
def zC (out:List (Int × Int)) (p:Int × Int) (k:Nat):Prop:=xC out p k/\∀ q,0<k->out[k-1]?= some q->¬ Go.Geo.lt p q
theorem yV (l out:List (Int × Int)) (i:Nat) (p:Int × Int) (hp:l[i]?= some p) (_:l.length<=100000) (_:out≠[]) (ho:out.length<=100000) {E:Ent} (hE:∀ i,¬ E.stab i) {Q:Av->St->Prop}:∀ j:Nat,xC out p j->PW prog tys eqs E AWd
   (DP (fun st'=>∃ k,xC out p k/\k<j/\AI prog E st' ⟨AO [(0, .d (An l)),(3, .ls 0 0 out.length 2),(4,vi i),(5,vi k)],lk [(0,BC out)],1⟩)
     (exC prog E Q 2 (fun k:Nat=>⟨AO [(0, .d (An l)),(3, .ls 0 0 out.length 2),(4,vi i),(5,vi k)],lk [(0,BC out)],1⟩) (fun k=>zC out p k)))
   ⟨AO [(0, .d (An l)),(3, .ls 0 0 out.length 2),(4,vi i),(5,vi j)],lk [(0,BC out)],1⟩:=by
 intro j hjp;obtain ⟨hj,hjq⟩:=hjp;simp [AWd];by_cases h0:0<j
 . obtain ⟨q,hq⟩:∃ q,out[j-1]?= some q:=⟨_,List.getElem?_eq_getElem (by omega)⟩
   have hw:IntKind.wrap .i64 ((j:Int)-1)=((j-1:Nat):Int):=by rw [AD (by omega) (by omega)];omega
   have cq:=KS hq;have q1:(j-1)*2+2<=out.length*2:=by omega
   have hjl:j-1<out.length:=by omega
   have d1:=Ab0 p q;obtain ⟨B,hB⟩:∃ B,ltB p q=B:=⟨_,rfl⟩
   rw [hB] at d1;simp [h0,hp,hw,cq,q1,hjl,inC,Nat.testBit];refine CLa d1 ?_;cases B
   . simp
     refine ⟨j,⟨⟨hj,hjq⟩,fun q' _ hq' h=>?_⟩,?_⟩
     . rw [hq] at hq';cases hq'
       rw [uu.2 h] at hB;cases hB
     . exact WK hE (lk [(0,0)])
   . simp [hw]
     refine ⟨j-1,⟨by omega,fun m q' hm hq'=>?_⟩,by omega,?_⟩
     . by_cases e:m=j-1
       . subst e;rw [hq] at hq';cases hq';exact uu.1 hB
       . exact hjq m q' (by omega) hq'
     . exact WK hE (lk [(0,0)])
 . simp [h0]
   refine ⟨j,⟨⟨hj,hjq⟩,fun q' h'=>absurd h' h0⟩,?_⟩;exact WK hE (lk [(0,0)])
theorem rT (out:List (Int × Int)) (k:Nat) (g:Int × Int) (h:k<=out.length):(out.take k++g::out.drop k).length=out.length+1:=by
 simp;omega
theorem sw {out:List (Int × Int)} {k:Nat} {g:Int × Int} (q:Int × Int) (h:k<=out.length):(out.take k++g::out.drop k).set k q=out.take k++q::out.drop k:=by
 have e:(out.take k).length=k:=by simp;omega
 rw [List.set_append_right _ _ (by omega),e,Nat.sub_self,List.set_cons_zero]
theorem wH {out:List (Int × Int)} {k:Nat} {q:Int × Int} (hq:out[k]?= some q):out.take (k+1)++q::out.drop (k+1)=out.take k++q::out.drop k:=by
 rw [List.take_add_one,hq,List.drop_eq_getElem_cons (List.getElem?_eq_some_iff.1 hq).1,(List.getElem?_eq_some_iff.1 hq).2];simp
theorem xU {out:List (Int × Int)} {k m:Nat} {g:Int × Int} (hm:m<k):(out.take k++g::out.drop k)[m]?= out[m]?\/ out.length<=m:=by
 by_cases h:m<out.length
 . left
   rw [List.getElem?_append_left (by simp;omega),List.getElem?_take,if_pos hm]
 . right;omega
theorem sf (l out:List (Int × Int)) (i at':Nat) (ho:out.length<=100000) {E:Ent} (hE:∀ i,¬ E.stab i) {Q:Av->St->Prop}:∀ x:Nat × (Int × Int),(at'<=x.1/\x.1<=out.length)->PW prog tys eqs E AVw
   (DP (fun st'=>∃ y:Nat × (Int × Int),(at'<=y.1/\y.1<=out.length)/\y.1<x.1/\AI prog E st' ⟨AO [(0, .d (An l)),(3, .ls 0 0 (out.length+1) 2),(4,vi i),(5,vi at'),(6,vi y.1)],lk [(0,BC (out.take y.1++y.2::out.drop y.1))],1⟩)
     (exC prog E Q 4 (fun g:Int × Int=>⟨AO [(0, .d (An l)),(3, .ls 0 0 (out.length+1) 2),(4,vi i),(5,vi at')],lk [(0,BC (out.take at'++g::out.drop at'))],1⟩) (fun _=>at'<=out.length)))
   ⟨AO [(0, .d (An l)),(3, .ls 0 0 (out.length+1) 2),(4,vi i),(5,vi at'),(6,vi x.1)],lk [(0,BC (out.take x.1++x.2::out.drop x.1))],1⟩:=by
 rintro ⟨k,g⟩ ⟨h1,h2⟩
 simp only at h1 h2 ⊢;by_cases hk:at' < k
 . obtain ⟨j,rfl⟩:∃ j,k=j+1:=⟨k-1,by omega⟩
   obtain ⟨q,hq⟩:∃ q,out[j]?= some q:=⟨_,List.getElem?_eq_getElem (by omega)⟩
   have hM:(out.take (j+1)++g::out.drop (j+1))[j]?= some q:=by
     rcases xU (out:=out) (g:=g) (show j<j+1 by omega) with h | h
     . rw [h];exact hq
     . omega
   have hlen:=rT out (j+1) g h2;have hset:=sw (g:=g) q h2;rw [wH hq] at hset;obtain ⟨M,hMM⟩:∃ M,out.take (j+1)++g::out.drop (j+1)=M:=⟨_,rfl⟩
   rw [hMM] at hM hlen hset ⊢;have cq:=KS hM;have cs:=I9 (l:=M) q (i:=j+1) (by omega);rw [hset] at cs;obtain ⟨k,hkk⟩:∃ k,k=j+1:=⟨_,rfl⟩
   rw [<-hkk] at cs ⊢;have w1:IntKind.wrap .i64 ((k:Int)-1)=(j:Int):=by rw [AD (by omega) (by omega)];omega
   have hsl:=Di M;rw [hlen] at hsl;have q1:j*2+2<=(out.length+1)*2:=by omega
   have q2:k*2+2<=(out.length+1)*2:=by omega
   have q3:j<out.length+1:=by omega
   have q4:k<out.length+1:=by omega
   have hak:at' < k:=by omega
   have q3i:(j:Int)<(out.length:Int)+1:=by omega
   have q4i:(k:Int)<(out.length:Int)+1:=by omega
   simp [AVw,hak,w1,cq,cs,hsl,q1,q2,q3i,q4i];refine ⟨j,⟨by omega,by omega⟩,by omega,q.1,q.2,?_⟩;exact WK hE (lk [(0,0)])
 . have e:k=at':=by omega
   subst e;simp [AVw];refine ⟨h2,g.1,g.2,?_⟩;exact WK hE (lk [(0,0)])
def qj (l:List (Int × Int × Int)) (i:Nat) (a k:Int × Int × Int) (x:Int):Prop:=l[i]?= some a/\l[i+1]?= some k/\a.1<=x/\x<=k.1/\(i=0\/a.1<x)
section
variable {l:List (Int × Int × Int)} (ht:LL l=true) {i:Nat} {a k:Int × Int × Int} {x:Int} (h:qj l i a k x) {u v:Int} (hu:a.2.1<=u/\u<=a.2.2) (hv:k.2.1<=v/\v<=k.2.2)
def qk (y:Int × Int):Int:=max y.1 (-1073741825)
def jP (y:Int × Int):Int:=min y.2 1073741825
def isIn (y:Int × Int) (num den:Int):Prop:=qk y<=1073741825/\ -1073741825<=jP y/\qk y*den<=num/\num<=jP y*den
end
end Go.Proofs.Tryz
namespace Go.Proofs.Tryz
open Go.Psl
theorem wv (out:List (Int × Int)):Fz1 (lk (AAV out 0)) (Ju out 0) (.d (An out)):=by
 rcases List.eq_nil_or_concat out with rfl | ⟨l,p,rfl⟩
 . exact Or.inr ⟨rfl,2,rfl⟩
 . rw [List.concat_eq_append]
   have h:=vW (H:=lk (AAV (l++[p]) 0)) (id:=0) (l:=l) (p:=p) (by simp);have e:Ju (l++[p]) 0= .ls 0 0 (l.length+1) 2:=by simp
   rw [e];exact h
def srtI (l:List (Int × Int)) (x:Nat × List (Int × Int)):Prop:=x.1<=l.length/\x.2.length<=x.1/\Go.Geo.Sorted x.2/\∀ q,q∈x.2↔q∈l.take x.1
theorem wD (l:List (Int × Int)) (hl:l.length<=100000):Ct prog 322 [.d (An l)] (Ju (ddC (DK l)) 0) (AAV (ddC (DK l)) 0):=by
 refine Ct.by gok eok mixed func322 c322 rfl (by simp [ntmps322]) (by simp) ?_ fun E hE=>?_
 . rcases CO (ddC (DK l)) with h | ⟨o,x,h⟩
   . rw [h];simp [LD]
   . rw [h];simp [LD]
     rintro c (⟨a,_,rfl⟩ | rfl | rfl)<;>simp
 simp [p322];refine BL (α:=Nat × List (Int × Int)) 0 (fun _:Unit=>⟨AO [(3,Ju (ddC (DK l)) 0)],lk (AAV (ddC (DK l)) 0),1⟩) (fun _=>True) (fun x=>⟨AO [(0, .d (An l)),(3,Ju x.2 0),(4,vi x.1)],lk (AAV x.2 0),1⟩) (srtI l) (fun x=>l.length-x.1) (0,[]) ?_ ?_ ?_ fun _ _=>?_
 . exact ⟨by simp,by simp,List.Pairwise.nil,fun q=>by simp⟩
 . exact WK hE (lk [])
 . rintro ⟨i,out⟩ hI
   obtain ⟨h1,h2,h3,h4⟩:=hI;simp only at h1 h2 h3 h4;simp [AZJ];refine DW (fun h=>?_) (fun h=>?_)
   . simp at h
     obtain ⟨p,hp⟩:=gE h;have hz:=@wz i (by omega);by_cases hne:out=[]
     . subst hne
       have wl:IntKind.wrap .i64 0=0:=by decide
       simp;refine BL (α:=Unit) 2 (fun _:Unit=>⟨AO [(0, .d (An l)),(3, .d (.lit (.slice none 0 0))),(4,vi i),(5,vi 0)],lk [],0⟩) (fun _=>True) (fun _=>⟨AO [(0, .d (An l)),(3, .d (.lit (.slice none 0 0))),(4,vi i),(5,vi 0)],lk [],0⟩) (fun _=>True) (fun _=>0) () ?_ ?_ ?_ fun _ _=>?_
       . trivial
       . exact WK hE (lk [])
       . intro _ _
         simp [AWd];exact WK hE (lk [])
       . simp [AA,AM]
         refine BL (α:=Nat × (Int × Int)) 4 (fun g:Int × Int=>⟨AO [(0, .d (An l)),(3, .ls 0 0 1 2),(4,vi i),(5,vi 0)],lk [(0,[vi g.1,vi g.2])],1⟩) (fun _=>True) (fun _=>⟨AO [(0, .d (An l)),(3, .ls 0 0 1 2),(4,vi i),(5,vi 0),(6,vi 0)],lk [(0,[vi 0,vi 0])],1⟩) (fun _=>True) (fun x=>x.1) (0,((0:Int),(0:Int))) ?_ ?_ ?_ fun g _=>?_
         . trivial
         . refine AI.mk hE (lk [(0,17825792)]) _ _ _ ?_ ?_ ?_ ?_ ?_<;>simp [wl]
         . intro _ _
           simp [AVw];refine ⟨0,0,?_⟩;exact WK hE (lk [(0,0)])
         . simp [hp,hz,AA]
           refine ⟨i+1,[p],⟨by simp only;omega,by simp only [List.length_singleton];omega,List.pairwise_singleton _ _,sq (j:=0) hp h4⟩,by omega,?_⟩;rw [GP (by simp),Gx (by simp),show BC [p]=[vi p.1,vi p.2] from rfl];exact WK hE (lk [(0,0)])
     . rw [GP hne,Gx hne]
       simp;refine BL (α:=Nat) 2 (fun k:Nat=>⟨AO [(0, .d (An l)),(3, .ls 0 0 out.length 2),(4,vi i),(5,vi k)],lk [(0,BC out)],1⟩) (fun k=>zC out p k) (fun k=>⟨AO [(0, .d (An l)),(3, .ls 0 0 out.length 2),(4,vi i),(5,vi k)],lk [(0,BC out)],1⟩) (fun k=>xC out p k) (fun k=>k) out.length ?_ ?_ ?_ fun j hj=>?_
       . exact ⟨Nat.le_refl _,fun m q hm hq=>by have:=(List.getElem?_eq_some_iff.1 hq).1;omega⟩
       . exact WK hE (lk [(0,0)])
       . exact yV l out i p hp hl hne (by omega) hE
       . obtain ⟨⟨hj1,hj2⟩,hj3⟩:=hj
         by_cases h0:0<j
         . obtain ⟨q,hq⟩:∃ q,out[j-1]?= some q:=⟨_,List.getElem?_eq_getElem (by omega)⟩
           have hw:IntKind.wrap .i64 ((j:Int)-1)=((j-1:Nat):Int):=by rw [AD (by omega) (by omega)];omega
           have cq:=KS hq;have q1:(j-1)*2+2<=out.length*2:=by omega
           have hjl:j-1<out.length:=by omega
           by_cases hqp:q.1=p.1/\q.2=p.2
           . have hqp':q=p:=by ext;exact hqp.1;exact hqp.2
             simp [h0,hp,hw,cq,q1,hjl,hqp,hz,inC,Nat.testBit];refine ⟨i+1,out,⟨by simp only;omega,by simp only;omega,h3,vo hp h4 (by rw [<-hqp'];exact List.mem_of_getElem? hq)⟩,by omega,?_⟩;rw [GP hne,Gx hne];exact WK hE (lk [(0,0)])
           . have hb:(decide (q.1=p.1)&&decide (q.2=p.2))=false:=by rw [Bool.and_eq_false_iff];simp only [decide_eq_false_iff_not];omega
             have hsl:=Di out;have htk:List.take (out.length*2) (BC out)=BC out:=List.take_of_length_le (by simp);have n1:(out.length+1)*16<=140737488355328:=by omega
             have n2:out.length+1<=9223372036854775807:=by omega
             simp [h0,hp,hw,cq,q1,hjl,hb,hsl,htk,n1,n2,inC,Nat.testBit,AA,AM];refine BL (α:=Nat × (Int × Int)) 4 (fun g:Int × Int=>⟨AO [(0, .d (An l)),(3, .ls 0 0 (out.length+1) 2),(4,vi i),(5,vi j)],lk [(0,BC (out.take j++g::out.drop j))],1⟩) (fun _=>j<=out.length) (fun x=>⟨AO [(0, .d (An l)),(3, .ls 0 0 (out.length+1) 2),(4,vi i),(5,vi j),(6,vi x.1)],lk [(0,BC (out.take x.1++x.2::out.drop x.1))],1⟩) (fun x=>j<=x.1/\x.1<=out.length) (fun x=>x.1) (out.length,((0:Int),(0:Int))) ?_ ?_ ?_ fun g hg=>?_
             . exact ⟨hj1,Nat.le_refl _⟩
             . have wl:IntKind.wrap .i64 (out.length:Int)=out.length:=AD (by omega) (by omega)
               simp only [List.take_length,List.drop_length,Sj];refine AI.mk hE (lk [(0,17825793)]) _ _ _ ?_ ?_ ?_ ?_ ?_<;>simp [wl]
               rintro c (⟨a,_,rfl⟩ | rfl)<;>simp
             . exact sf l out i j (by omega) hE
             . have hset:=sw (g:=g) p hj1
               have hlen:=rT out j g hj1;obtain ⟨M,hMM⟩:∃ M,out.take j++g::out.drop j=M:=⟨_,rfl⟩
               rw [hMM] at hset hlen ⊢;have cs:=I9 (l:=M) p (i:=j) (by omega);rw [hset] at cs;have hml:=Di M;rw [hlen] at hml;have q3:j<out.length+1:=by omega
               have q3i:(j:Int)<(out.length:Int)+1:=by omega
               have q2:j*2+2<=(out.length+1)*2:=by omega
               simp [hp,q3i,q2,hml,cs,hz];have hN:out.take j++p::out.drop j≠[]:=by simp
               have hNl:=rT out j p hj1;refine ⟨i+1,out.take j++p::out.drop j,⟨by simp only;omega,by simp only;omega,(tS h3 hj1 hj2 hj3).1 q h0 hq (fun e=>hqp ⟨by rw [e],by rw [e]⟩),sq hp h4⟩,by omega,?_⟩;rw [GP hN,Gx hN,hNl];exact WK hE (lk [(0,0)])
         . have hj0:j=0:=by omega
           have hsl:=Di out;have htk:List.take (out.length*2) (BC out)=BC out:=List.take_of_length_le (by simp);have n1:(out.length+1)*16<=140737488355328:=by omega
           have n2:out.length+1<=9223372036854775807:=by omega
           simp [h0,hsl,htk,n1,n2,AA,AM];refine BL (α:=Nat × (Int × Int)) 4 (fun g:Int × Int=>⟨AO [(0, .d (An l)),(3, .ls 0 0 (out.length+1) 2),(4,vi i),(5,vi j)],lk [(0,BC (out.take j++g::out.drop j))],1⟩) (fun _=>j<=out.length) (fun x=>⟨AO [(0, .d (An l)),(3, .ls 0 0 (out.length+1) 2),(4,vi i),(5,vi j),(6,vi x.1)],lk [(0,BC (out.take x.1++x.2::out.drop x.1))],1⟩) (fun x=>j<=x.1/\x.1<=out.length) (fun x=>x.1) (out.length,((0:Int),(0:Int))) ?_ ?_ ?_ fun g hg=>?_
           . exact ⟨hj1,Nat.le_refl _⟩
           . have wl:IntKind.wrap .i64 (out.length:Int)=out.length:=AD (by omega) (by omega)
             simp only [List.take_length,List.drop_length,Sj];refine AI.mk hE (lk [(0,17825793)]) _ _ _ ?_ ?_ ?_ ?_ ?_<;>simp [wl]
             rintro c (⟨a,_,rfl⟩ | rfl)<;>simp
           . exact sf l out i j (by omega) hE
           . have hset:=sw (g:=g) p hj1
             have hlen:=rT out j g hj1;obtain ⟨M,hMM⟩:∃ M,out.take j++g::out.drop j=M:=⟨_,rfl⟩
             rw [hMM] at hset hlen ⊢;have cs:=I9 (l:=M) p (i:=j) (by omega);rw [hset] at cs;have hml:=Di M;rw [hlen] at hml;have q3:j<out.length+1:=by omega
             have q3i:(j:Int)<(out.length:Int)+1:=by omega
             have q2:j*2+2<=(out.length+1)*2:=by omega
             simp [hp,q3i,q2,hml,cs,hz];have hN:out.take j++p::out.drop j≠[]:=by simp
             have hNl:=rT out j p hj1;refine ⟨i+1,out.take j++p::out.drop j,⟨by simp only;omega,by simp only;omega,(by rw [hj0];simpa using (tS h3 hj1 hj2 hj3).2 hj0),sq hp h4⟩,by omega,?_⟩;rw [GP hN,Gx hN,hNl];exact WK hE (lk [(0,0)])
   . simp at h
     have e:i=l.length:=by omega
     have ht:out=ddC (DK l):=vJ h3 (by rw [e] at h4;simpa using h4);rw [<-ht];simp;rcases CO out with h | ⟨o,x,h⟩
     . rw [h]
       exact WK hE (lk [])
     . rw [h]
       refine AI.mk hE (lk [(0,0)]) _ _ _ ?_ ?_ ?_ ?_ ?_<;>simp
       rintro c (⟨a,_,rfl⟩ | rfl | rfl)<;>simp
 . simp
   rcases CO (ddC (DK l)) with h | ⟨o,x,h⟩
   . rw [h]
     apply RZ;simp [results322]
   . rw [h]
     refine AB.by (lk [(0,0)]) ?_;simp [results322]
theorem AaL (l:List (Int × Int)) (hl:l.length<=100000):Ct prog 322 [.d (An l)] (.d (An (ddC (DK l)))) []:=by
 refine Cm.freeze (wD l hl) ?_;have h:=wv (ddC (DK l));unfold Fz;split
 . rename_i e _;rcases CO (ddC (DK l)) with h2 | ⟨o,x,h2⟩<;>rw [h2] at e<;>simp at e
 . exact h
open Go.Geo (cross AE)
theorem xG (l:List (Int × Int)) (i:Nat) (p:Int × Int) (hp:l[i]?= some p) (hpm:bd 536870912 p) (st0:List (Int × Int)) {E:Ent} (hE:∀ i,¬ E.stab i) {Q:Av->St->Prop}:∀ x:List (Int × Int) × List (Int × Int),(Fo x.1 p=Fo st0 p/\x.1.length<=100000/\∀ q∈x.1,bd 536870912 q)->PW prog tys eqs E AWe
   (DP (fun st'=>∃ y:List (Int × Int) × List (Int × Int),(Fo y.1 p=Fo st0 p/\y.1.length<=100000/\∀ q∈y.1,bd 536870912 q)/\y.1.length<x.1.length/\AI prog E st' ⟨AO [(0, .d (An l)),(3,Ju y.1.reverse 0),(4,vi i)],lk (Ld y.1.reverse y.2 0),1⟩)
     (exC prog E Q 2 (fun z:List (Int × Int)=>⟨AO [(0, .d (An l)),(3,Ju (Fo st0 p).reverse 0),(4,vi i)],lk (Ld (Fo st0 p).reverse z 0),1⟩) (fun _=>True)))
   ⟨AO [(0, .d (An l)),(3,Ju x.1.reverse 0),(4,vi i)],lk (Ld x.1.reverse x.2 0),1⟩:=by
 rintro ⟨st,z⟩ ⟨hpop,hlen,hm⟩
 simp only at hpop hlen hm ⊢;by_cases h2s:st.length<2
 . have hps:Fo st0 p=st:=by
     rw [<-hpop]
     match st,h2s with
     | [],_=>rfl
     | [_],_=>rfl
     | _::_::_,h=>simp at h;omega
   rw [hps];obtain ⟨O,hO⟩:∃ O,st.reverse=O:=⟨_,rfl⟩
   have hOl:O.length=st.length:=by rw [<-hO];simp
   rw [hO];have hlt:¬ ((1:Int)<(O.length:Int)):=by omega
   have hlt':¬ (1<O.length):=by omega
   simp [AWe,OL,hlt];refine ⟨z,?_⟩;obtain rfl | ⟨b0,x0,rfl⟩:=CO O
   . exact WK hE (lk [])
   . rw [CN]
     exact WK hE (lk [(0,0)])
 . obtain ⟨b,a,r,rfl⟩:∃ b a r,st=b::a::r:=by
     match st,h2s with
     | b::a::r,_=>exact ⟨b,a,r,rfl⟩
     | [],h=>simp at h
     | [_],h=>simp at h
   have ba:=hm a (by simp);have bb:=hm b (by simp);obtain ⟨m,hmm⟩:∃ m,m=r.length:=⟨_,rfl⟩
   obtain ⟨m1,hm1⟩:∃ m1,m1=m+1:=⟨_,rfl⟩
   obtain ⟨O,hO⟩:∃ O,(b::a::r).reverse=O:=⟨_,rfl⟩
   have hO2:O=r.reverse++[a]++[b]:=by rw [<-hO];simp
   have hO3:(a::r).reverse=r.reverse++[a]:=by simp
   obtain ⟨N,hN⟩:∃ N,O.length=N:=⟨_,rfl⟩
   have hNm:N=m+2:=by rw [<-hN,hO2,hmm];simp
   have hOne:O≠[]:=by rw [hO2];simp
   have ha':(O++z)[m]?= some a:=by
     rw [hO2,hmm];simp only [List.append_assoc];rw [List.getElem?_append_right (by simp),List.length_reverse,Nat.sub_self];rfl
   have hb':(O++z)[m1]?= some b:=by
     rw [hO2,hm1,hmm];simp only [List.append_assoc];rw [List.getElem?_append_right (by simp),List.length_reverse,show r.length+1-r.length=1 by omega];rfl
   have ca:=KS ha';have cb:=KS hb';obtain ⟨ds,hds⟩:∃ ds,spD (O++z)=ds:=⟨_,rfl⟩
   have hdsl:N*2<=ds.length:=by rw [<-hds,Di,List.length_append,hN];omega
   rw [hds] at ca cb;rw [hO,GP hOne,GQ hOne,hN,show BC (O++z)=ds.map V.d by rw [<-hds]];have w2:IntKind.wrap .i64 ((N:Int)-2)=(m:Int):=by simp at hlen;rw [AD (by omega) (by omega)];omega
   have w3:IntKind.wrap .i64 ((N:Int)-1)=(m1:Int):=by simp at hlen;rw [AD (by omega) (by omega)];omega
   have hlt:(1:Int)<(N:Int):=by omega
   have hlt':1<N:=by omega
   have l1:m<N:=by omega
   have l2:m1<N:=by omega
   have l3:m*2+2<=ds.length:=by omega
   have l4:m1*2+2<=ds.length:=by omega
   have l5:m1<=N:=by omega
   simp [AWe,hlt,hp,inC,Nat.testBit,w2,w3,l1,l2,l3,l4,ca,cb];refine CLa (Abz a b p ba bb hpm) ?_;by_cases hc:cross a b p<=0
   . simp [hc,w3,l5]
     refine ⟨a::r,⟨by rw [<-hpop,OA,if_pos hc],by simp at hlen ⊢;omega,fun q1 q2 hq=>hm (q1,q2) (List.mem_cons_of_mem _ hq)⟩,by simp,[b]++z,?_⟩;rw [hO3,Rx,CN,show BC (r.reverse++[a]++([b]++z))=ds.map V.d by rw [<-hds,hO2];simp];refine AI.mk hE (lk [(0,0)]) _ _ _ ?_ ?_ ?_ ?_ ?_<;>simp
     omega
   . have hps:Fo st0 p=b::a::r:=by rw [<-hpop,OA,if_neg hc]
     rw [hps,hO,GP hOne,hN];simp [hc];refine ⟨z,?_⟩;rw [GQ hOne,show BC (O++z)=ds.map V.d by rw [<-hds]];exact WK hE (lk [(0,0)])
theorem tX (l:List (Int × Int)) (hl:l.length<=100000) (hbd:∀ q∈l,bd 536870912 q):Ct prog 323 [.d (An l)] (Ju (AE l).reverse 0) (Ld (AE l).reverse [] 0):=by
 refine Ct.by gok eok mixed func323 c323 rfl (by simp [ntmps323]) (by simp) ?_ fun E hE=>?_
 . rcases CO (AE l).reverse with h | ⟨o,x,h⟩
   . rw [h];simp [LD,Ld]
   . rw [h,CN];simp [LD]
 have hst0:AE (l.take 0)=[]:=by simp [AE]
 have hcl:=fun i=>Ez (l.take i)
 have hcm:∀ i,∀ q∈AE (l.take i),bd 536870912 q:=fun i q hq=>hbd q (List.mem_of_mem_take (QA q hq))
 simp [p323];refine BL (α:=Nat) 0 (fun _:Unit=>⟨AO [(3,Ju (AE l).reverse 0)],lk (Ld (AE l).reverse [] 0),1⟩) (fun _=>True) (fun i=>⟨AO [(0, .d (An l)),(3,Ju (AE (l.take i)).reverse 0),(4,vi i)],lk (Ld (AE (l.take i)).reverse [] 0),1⟩) (fun i=>i<=l.length) (fun i=>l.length-i) 0 ?_ ?_ ?_ fun _ _=>?_
 . simp
 . rw [hst0]
   refine AI.mk hE (lk []) _ _ _ ?_ ?_ ?_ ?_ ?_<;>simp [Ld]
 . intro i hi
   simp [AZK];refine DW (fun h=>?_) (fun h=>?_)
   . simp at h
     obtain ⟨p,hp⟩:=gE h;have hpm:=hbd p (List.mem_of_getElem? hp);have w1:=@wz i (by omega);have hct:=QB hp;have hci:=hcl i;have hcmi:=hcm i;obtain ⟨st0,hst⟩:∃ st0,AE (l.take i)=st0:=⟨_,rfl⟩
     rw [hst] at hct hci hcmi ⊢;have hl0:st0.length<=100000:=by simp at hci;omega
     simp;refine BL (α:=List (Int × Int) × List (Int × Int)) 2 (fun z:List (Int × Int)=>⟨AO [(0, .d (An l)),(3,Ju (Fo st0 p).reverse 0),(4,vi i)],lk (Ld (Fo st0 p).reverse z 0),1⟩) (fun _=>True) (fun x=>⟨AO [(0, .d (An l)),(3,Ju x.1.reverse 0),(4,vi i)],lk (Ld x.1.reverse x.2 0),1⟩) (fun x=>Fo x.1 p=Fo st0 p/\x.1.length<=100000/\∀ q∈x.1,bd 536870912 q) (fun x=>x.1.length) (st0,[]) ?_ ?_ ?_ fun zz _=>?_
     . exact ⟨rfl,hl0,hcmi⟩
     . obtain e | ⟨b0,x0,e⟩:=CO st0.reverse<;>simp only [e]
       . refine AI.mk hE (lk []) _ _ _ ?_ ?_ ?_ ?_ ?_<;>simp [Ld]
       . rw [CN]
         exact WK hE (lk [(0,0)])
     . exact xG l i p hp hpm st0 hE
     . have hpl:=KK p st0
       obtain ⟨O,hO⟩:∃ O,(Fo st0 p).reverse=O:=⟨_,rfl⟩
       have hOl:O.length<=200000:=by rw [<-hO];simp;omega
       have hnx:(AE (l.take (i+1))).reverse=O++[p]:=by rw [hct,<-hO];simp
       rw [hO];have fin:BC (O++[p])=(spD O).map V.d++[vi p.1,vi p.2]:=Sj p O;obtain rfl | ⟨o,x,rfl⟩:=CO O
       . simp [hp,AM,AA,w1]
         refine ⟨i+1,by omega,by omega,?_⟩;rw [hnx,Rx,CN,List.append_nil,fin];exact WK hE (lk [(0,6291457)])
       . have htk:=KL (o++[x]) zz
         have hdl3:=Di (o++[x]++zz);have hOne:o++[x]≠[]:=by simp
         obtain ⟨N,hN⟩:∃ N,(o++[x]).length=N:=⟨_,rfl⟩
         have hdo:=Di (o++[x]);rw [List.length_append,hN] at hdl3;rw [hN] at htk hOl hdo;rw [GP hOne,GQ hOne,hN];have hcc:BC (o++[x]++zz)=List.map V.d (spD (o++[x]++zz)):=rfl;rw [hcc]
         generalize spD (o++[x]++zz)=ds at htk hdl3 ⊢
         generalize spD (o++[x])=eo at fin htk hdo
         have hfit:N*2<=ds.length/\(N+1)*16<=140737488355328/\N+1<=9223372036854775807:=by omega
         simp [hp,AM,AA,w1,hfit,htk];refine ⟨i+1,by omega,by omega,?_⟩;rw [hnx,Rx,CN,List.append_nil,fin,hN];refine AI.mk hE (lk [(0,6291457)]) _ _ _ ?_ ?_ ?_ ?_ ?_<;>simp
         rintro c (⟨a,_,rfl⟩ | rfl | rfl)<;>simp
   . simp at h
     have e:l.take i=l:=List.take_of_length_le h;rw [e];simp;rcases CO (AE l).reverse with h | ⟨o,x,h⟩
     . simp only [h]
       refine AI.mk hE (lk []) _ _ _ ?_ ?_ ?_ ?_ ?_<;>simp [Ld]
     . simp only [h]
       rw [CN];exact WK hE (lk [(0,0)])
 . rcases CO (AE l).reverse with h | ⟨o,x,h⟩
   . simp only [h]
     simp;apply RZ;simp [results323]
   . simp only [h]
     rw [CN];simp;refine AB.by (lk [(0,0)]) ?_;simp [results323]
theorem xi (out z:List (Int × Int)):Fz1 (lk (Ld out z 0)) (Ju out 0) (.d (An out)):=by
 by_cases h:out=[]
 . subst h;exact Or.inr ⟨rfl,2,rfl⟩
 . rw [GP h,GQ h]
   exact fD (z:=z) (by simp [lk])
theorem AZO {P:Program} {f:FuncId} {args:List V} {out z:List (Int × Int)} (h:Ct P f args (Ju out 0) (Ld out z 0)):Ct P f args (.d (An out)) []:=by
 refine Cm.freeze h ?_;have h1:=xi out z;unfold Fz;split
 . rename_i e _;rcases CO out with h2 | ⟨o,x,h2⟩<;>rw [h2] at e<;>simp at e
 . exact h1
theorem Acq (l:List (Int × Int)) (hl:l.length<=100000) (hbd:∀ q∈l,bd 536870912 q):Ct prog 323 [.d (An l)] (.d (An (AE l).reverse)) []:=AZO (tX l hl hbd)
open Go.Geo (cross AE Bo)
theorem vn (s:List (Int × Int)) (hl:s.length<=100000) {E:Ent} (hE:∀ i,¬ E.stab i) {Q:Av->St->Prop}:∀ k:Nat,k<=s.length->PW prog tys eqs E vu
   (DP (fun st'=>∃ j,j<=s.length/\s.length-j<s.length-k/\AI prog E st' ⟨AO [(3, .d (An s)),(4,Ju (s.reverse.take j) 0),(5,vi ((s.length:Int)-1-j))],lk (AAV (s.reverse.take j) 0),1⟩)
     (exC prog E Q 0 (fun _:Unit=>⟨AO [(3, .d (An s)),(4,Ju s.reverse 0)],lk (AAV s.reverse 0),1⟩) (fun _=>True)))
   ⟨AO [(3, .d (An s)),(4,Ju (s.reverse.take k) 0),(5,vi ((s.length:Int)-1-k))],lk (AAV (s.reverse.take k) 0),1⟩:=by
 intro k hk;by_cases h:k<s.length
 . obtain ⟨e,he⟩:∃ e,e=s.length-1-k:=⟨_,rfl⟩
   have hee:(s.length:Int)-1-k=(e:Int):=by omega
   obtain ⟨p,hp⟩:∃ p,s[e]?= some p:=⟨_,List.getElem?_eq_getElem (by omega)⟩
   have hrp:s.reverse[k]?= some p:=by rw [List.getElem?_reverse h,<-he];exact hp
   have hnx:s.reverse.take (k+1)=s.reverse.take k++[p]:=by rw [List.take_add_one,hrp];rfl
   have w1:IntKind.wrap .i64 ((e:Int)-1)=(s.length:Int)-1-((k+1:Nat):Int):=by rw [AD (by omega) (by omega)];omega
   have hol:(s.reverse.take k).length=k:=by simp;omega
   rw [hee];obtain ⟨O,hO⟩:∃ O,s.reverse.take k=O:=⟨_,rfl⟩
   rw [hO] at hnx hol ⊢;have fin:BC (O++[p])=(spD O).map V.d++[vi p.1,vi p.2]:=Sj p O;by_cases hne:O=[]
   . subst hne
     simp [vu,hp,AM,AA,w1];refine ⟨k+1,by omega,by omega,?_⟩;rw [hnx,GP (by simp),Gx (by simp),fin];refine AI.mk hE (lk [(0,8388609)]) _ _ _ ?_ ?_ ?_ ?_ ?_<;>simp
   . have hsl:=Di O
     have htk:List.take (O.length*2) (BC O)=BC O:=List.take_of_length_le (by simp);have n1:(O.length+1)*16<=140737488355328:=by omega
     have n2:O.length+1<=9223372036854775807:=by omega
     rw [GP hne,Gx hne];simp [vu,hp,AM,AA,w1,hsl,htk,n1,n2];refine ⟨k+1,by omega,by omega,?_⟩;rw [hnx,GP (by simp),Gx (by simp),fin];refine AI.mk hE (lk [(0,8388609)]) _ _ _ ?_ ?_ ?_ ?_ ?_<;>simp
     rintro c (⟨a,_,rfl⟩ | rfl | rfl)<;>simp
 . have e:k=s.length:=by omega
   have hneg:(s.length:Int)-1-k= -1:=by omega
   have hrev:s.reverse.take k=s.reverse:=List.take_of_length_le (by simp;omega);rw [hneg,hrev];rcases CO s.reverse with h | ⟨o,x,h⟩
   . simp only [h]
     simp [vu];exact WK hE (lk [])
   . simp only [h]
     simp [vu];refine AI.mk hE (lk [(0,0)]) _ _ _ ?_ ?_ ?_ ?_ ?_<;>simp
     rintro c (⟨a,_,rfl⟩ | rfl | rfl)<;>simp
theorem vZ (l:List (Int × Int)) (hl:l.length<=100000) (h3:(ddC (DK l)).length<3):Ct prog 296 [.d (An l)] (.d (An (Fb l))) []:=by
 have c1:=AaL l hl;have e:Fb l=ddC (DK l):=by unfold Fb Bo;rw [if_pos h3]
 rw [e]
 generalize ddC (DK l)=s at*
 have h3':(s.length:Int)<3:=by omega
 refine CB func296 Aco fun E hE=>?_
 simp [p296];refine CLa c1 ?_;simp [h3'];apply RZ;simp [results296]
theorem wm (l:List (Int × Int)) (hl:l.length<=100000) (hbd:∀ q∈l,bd 536870912 q) (h3:¬ (ddC (DK l)).length<3):Ct prog 296 [.d (An l)] (Ju (Fb l) 0) (Ld (Fb l) [] 0):=by
 have c1:=AaL l hl;have e:Fb l=(AE (ddC (DK l))).tail.reverse++(AE (ddC (DK l)).reverse).tail.reverse:=by unfold Fb Bo;rw [if_neg h3]
 have hsl:(ddC (DK l)).length<=l.length:=by
   have:=I6 (DK l) (DK l).length;rw [List.take_length,El] at this;exact this
 have hsb:∀ q∈ddC (DK l),bd 536870912 q:=fun q hq=>hbd q (by rwa [Su,Lw] at hq)
 obtain ⟨s,hs⟩:∃ s,ddC (DK l)=s:=⟨_,rfl⟩
 have hso:Go.Geo.Sorted s:=by rw [<-hs];exact JN l
 rw [hs] at c1 e h3 hsl hsb;obtain ⟨f,g,lo,up,_,_,_,hlo,hup,_,hupl⟩:=Go.Geo.chains hso (by omega)
 obtain ⟨mid,hmid⟩:∃ mid,up.reverse=g::mid:=by
   have:up.reverse.head?= some g:=by rw [List.head?_reverse];exact hupl
   cases hr:up.reverse with
   | nil=>rw [hr] at this;simp at this
   | cons a r=>rw [hr] at this;simp at this;subst this;exact ⟨r,rfl⟩
 have e2:Fb l=(AE s).reverse++mid:=by rw [e,hlo,hup];simp [hmid]
 have e3:(AE s.reverse).reverse=g::(mid++[f]):=by rw [hup,List.reverse_cons,hmid];rfl
 have c2:=Acq s (by omega) hsb;have c3:=tX s.reverse (by simp;omega) (fun q hq=>hsb q (List.mem_reverse.1 hq));rw [e3,GP (by simp),GQ (by simp),List.append_nil] at c3;have h3':¬ (s.length:Int)<3:=by omega
 have w1:IntKind.wrap .i64 ((s.length:Int)-1)=(s.length:Int)-1:=AD (by omega) (by omega);have hne:s.reverse≠[]:=by intro h;rw [List.reverse_eq_nil_iff] at h;rw [h] at h3;simp at h3
 refine Ct.by gok eok mixed func296 Aco rfl (by simp [ntmps296]) (by simp) ?_ fun E hE=>?_
 . rw [e2,hlo,GP (by simp),GQ (by simp)];simp [LD]
 simp [p296];refine CLa c1 ?_;simp [h3',w1];refine BL (α:=Nat) 0 (fun _:Unit=>⟨AO [(3, .d (An s)),(4,Ju s.reverse 0)],lk (AAV s.reverse 0),1⟩) (fun _=>True) (fun j=>⟨AO [(3, .d (An s)),(4,Ju (s.reverse.take j) 0),(5,vi ((s.length:Int)-1-j))],lk (AAV (s.reverse.take j) 0),1⟩) (fun j=>j<=s.length) (fun j=>s.length-j) 0 ?_ ?_ ?_ fun _ _=>?_
 . simp
 . simp only [List.take_zero]
   exact WK hE (lk [])
 . exact vn s (by omega) hE
 . rw [GP hne,Gx hne]
   simp;refine CLa c2 ?_;simp
   have hbor:∀ H:Hp,H 0=some (BC s.reverse)->Bor H (.ls 0 0 s.length 2) (.d (An s.reverse)):=fun H h=>by
     have:=fD (H:=H) (id:=0) (l:=s.reverse) (z:=[]) (by rw [List.append_nil];exact h)
     rwa [List.length_reverse] at this
   refine AU.mk _ _ _ c3 (by refine ⟨hbor _ (by simp),trivial⟩) (by simp) (by right;simp;exact fun a h=>xZ a h) ?_;obtain ⟨LO,hLO⟩:∃ LO,(AE s).reverse=LO:=⟨_,rfl⟩
   have hLOn:LO≠[]:=by rw [<-hLO,hlo];simp
   have hcl:=Ez s;have hcu:=Ez s.reverse;rw [hLO] at e2 ⊢;have hLOl:LO.length<=100000:=by rw [<-hLO];simp;omega
   have hml:mid.length<=100000:=by
     have:(g::(mid++[f])).length=(AE s.reverse).length:=by rw [<-e3];simp
     simp at this hcu;omega
   have hfl:(List.map (List.map V.d ∘ fun s:Int × Int=>[di s.1,di s.2]) LO).flatten=BC LO:=by
     show _=(spD LO).map V.d
     unfold spD;rw [List.map_flatMap,List.flatMap_def];rfl
   have hcell:∀ x:V,x∈BC LO->x.isCell=true:=fun x hx=>by
     obtain ⟨y,_,rfl⟩:=List.mem_map.1 hx;rfl
   have n1:LO.length*16<=140737488355328:=by omega
   have n2:LO.length<=9223372036854775807:=by omega
   have w2:IntKind.wrap .i64 ((mid.length:Int)+1)=((mid.length+1:Nat):Int):=by rw [AD (by omega) (by omega)];omega
   have hcut:List.take (mid.length*2) (List.drop 2 (List.map V.d (spD (g::(mid++[f])))))=BC mid:=KL mid [f];have hcut2:2+mid.length*2<=(mid.length+1+1)*2:=by omega
   have hcm:∀ x:V,x∈BC mid->x.isCell=true:=fun x hx=>by
     obtain ⟨y,_,rfl⟩:=List.mem_map.1 hx;rfl
   have w4:(1:Int)<=(mid.length:Int)+1:=by omega
   have w3:(0:Int)<=(mid.length:Int)+1/\(mid.length:Int)<=(mid.length:Int)+1:=by omega
   have hfit:LO.length*2<=(BC LO).length/\(LO.length+mid.length)*16<=140737488355328/\LO.length+mid.length<=9223372036854775807:=by simp;omega
   simp;refine AL [(2,6291457)] (by kernel_rfl) ?_;simp [inC,Nat.testBit,AM,hfl,n1,n2,w2,w3,w4,hfit,hcut,hcut2];have hne2:LO++mid≠[]:=by simp [hLOn]
   have htk:List.take (LO.length*2) (BC LO)=BC LO:=List.take_of_length_le (by simp)
   have happ:BC LO++BC mid=BC (LO++mid):=by
     show (spD LO).map V.d++(spD mid).map V.d=(spD (LO++mid)).map V.d
     rw [<-List.map_append];unfold spD;rw [List.flatMap_append]
   rw [e2,GP hne2,GQ hne2,List.append_nil,List.length_append,htk,happ];refine AB.by (lk [(0,14680065)]) ?_;simp [results296]
theorem Acp (l:List (Int × Int)) (hl:l.length<=100000) (hbd:∀ q∈l,bd 536870912 q):Ct prog 296 [.d (An l)] (.d (An (Fb l))) []:=by
 by_cases h3:(ddC (DK l)).length<3
 . exact vZ l hl h3
 . exact AZO (wm l hl hbd h3)
theorem yb {p:Int × Int}:okC p=((decide (-268435456<=p.1)&&decide (p.1<=268435456))&&(decide (-268435456<=p.2)&&decide (p.2<=268435456))):=by
 rw [Bool.eq_iff_iff,NH];simp only [bd,Bool.and_eq_true,decide_eq_true_eq]
theorem Abr (l:List (Int × Int)) (hl:l.length<=1000000000):Ct prog 294 [.d (An l)] (vb (EJ l)) []:=by
 refine CB func294 c294 fun E hE=>?_
 simp [p294];refine Al (α:=Nat) (fun i=>⟨AO [(0, .d (An l)),(3,vi i)],lk [],0⟩) (fun i=>i<=l.length/\EJ (l.take i)=true) (fun i=>l.length-i) 0 ?_ ?_ ?_
 . simp [EJ]
 . exact WK hE (lk [])
 . rintro i ⟨hi,hg⟩
   have hz:IntKind.wrap .i64 ((i:Int)+1)=((i:Int)+1):=AD (by omega) (by omega);simp [AZH];refine DW (fun h=>?_) (fun h=>?_)
   . simp at h
     have hil:i<l.length:=by omega
     obtain ⟨p,hp⟩:∃ p,l[i]?= some p:=⟨l[i],by simp [hil]⟩
     obtain ⟨b1,hb1⟩:∃ b1,(decide (-268435456<=p.1)&&decide (p.1<=268435456))=b1:=⟨_,rfl⟩
     have hb:=yb (p:=p);rw [hb1] at hb;simp [hp];refine CLa (zT p.1 (-268435456) 268435456) ?_;rw [hb1];cases b1
     . simp
       apply RZ;simp [results294,Jh hp hb]
     . simp [hp]
       refine CLa (zT p.2 (-268435456) 268435456) ?_;rw [Bool.true_and] at hb;rw [<-hb];cases hc:okC p
       . simp
         apply RZ;simp [results294,Jh hp hc]
       . simp [hz]
         refine ⟨i+1,⟨by omega,by rw [RA hp,hg,hc];rfl⟩,by omega,?_⟩;exact WK hE (lk [])
   . simp at h
     have hil:i=l.length:=by omega
     subst hil;rw [List.take_length] at hg;simp;apply RZ;simp [results294,hg]
theorem xT (r:List (Int × Int)):C7 r=((decide ((1:Int)<=r.length)&&decide ((r.length:Int)<=64))&&EJ r&&decide (Fb r=r)):=by
 unfold C7;rw [decide_eq_decide.2 (show 1<=r.length↔(1:Int)<=r.length by omega),decide_eq_decide.2 (show r.length<=64↔(r.length:Int)<=64 by omega)]
theorem pN (r:List (Int × Int)) (hr:r.length<=1000000000):Ct prog 257 [.d (An r)] (vb (C7 r)) []:=by
 refine CB func257 c257 fun E hE=>?_
 have e:=xT r;obtain ⟨b1,hb1⟩:∃ b1,(decide ((1:Int)<=r.length)&&decide ((r.length:Int)<=64))=b1:=⟨_,rfl⟩
 rw [hb1] at e;simp [p257];refine CLa (zT (r.length:Int) 1 64) ?_;rw [hb1];cases b1
 . simp
   apply RZ;simp [results257,e]
 . simp only [Bool.and_eq_true,decide_eq_true_eq] at hb1
   simp;refine CLa (Abr r hr) ?_;cases hn:EJ r
   . rw [hn] at e
     simp;apply RZ;simp [results257,e]
   . rw [hn] at e
     have hpl:=VM r;simp;refine CLa (Acp r (by omega) (fC hn)) ?_;simp;refine CLa (AbN (Fb r) r (by omega) hr) ?_;simp;apply RZ;simp [results257,e]
open Go.Air
theorem pO (r:Rig) (hr:r.reg.length<=1000000000):Ct prog 191 [Fj r] (vb (CF r)) []:=by
 have c1:=pN r.reg hr;have c2:=AAN r.gl r.gh 0 120;have c3:=AVj r.tank 0 1000000000;have c4:=AVj r.rsv 0 1000000000;have c5:=AVj r.lo (-500) r.hi;have c6:=AVj r.hi (-500) 9000
 have e:CF r=(C7 r.reg&&spB 0 120 r.gl r.gh&&rgB 0 1000000000 [r.tank]&&rgB 0 1000000000 [r.rsv]&&rgB (-500) r.hi [r.lo]&&rgB (-500) 9000 [r.hi]):=by
   unfold CF;rw [rU]
   have:spB (-500) 9000 r.lo r.hi=(rgB (-500) r.hi [r.lo]&&rgB (-500) 9000 [r.hi]):=by
     rw [Bool.eq_iff_iff,CC];simp [rgB];omega
   rw [this];cases C7 r.reg<;>cases spB 0 120 r.gl r.gh<;>cases rgB 0 1000000000 [r.tank]<;>simp [Bool.and_assoc]
 rw [e]
 generalize C7 r.reg=b1 at*
 generalize spB 0 120 r.gl r.gh=b2 at*
 generalize rgB 0 1000000000 [r.tank]=b3 at*
 generalize rgB 0 1000000000 [r.rsv]=b4 at*
 generalize rgB (-500) r.hi [r.lo]=b5 at*
 generalize rgB (-500) 9000 [r.hi]=b6 at*
 cases b1
 . refine CB func191 AXN fun E hE=>?_
   simp [p191]
   repeat ((first | (refine CLt c1 ?_ ?_;focus (simp;done)) | (refine CLt c2 ?_ ?_;focus (simp;done)) | (refine CLt c3 ?_ ?_;focus (simp;done)) | (refine CLt c4 ?_ ?_;focus (simp;done)) | (refine CLt c5 ?_ ?_;focus (simp;done)) | (refine CLt c6 ?_ ?_;focus (simp;done)));simp)
   apply RZ;simp [results191]
 cases b2
 . refine CB func191 AXN fun E hE=>?_
   simp [p191]
   repeat ((first | (refine CLt c1 ?_ ?_;focus (simp;done)) | (refine CLt c2 ?_ ?_;focus (simp;done)) | (refine CLt c3 ?_ ?_;focus (simp;done)) | (refine CLt c4 ?_ ?_;focus (simp;done)) | (refine CLt c5 ?_ ?_;focus (simp;done)) | (refine CLt c6 ?_ ?_;focus (simp;done)));simp)
   apply RZ;simp [results191]
 cases b3
 . refine CB func191 AXN fun E hE=>?_
   simp [p191]
   repeat ((first | (refine CLt c1 ?_ ?_;focus (simp;done)) | (refine CLt c2 ?_ ?_;focus (simp;done)) | (refine CLt c3 ?_ ?_;focus (simp;done)) | (refine CLt c4 ?_ ?_;focus (simp;done)) | (refine CLt c5 ?_ ?_;focus (simp;done)) | (refine CLt c6 ?_ ?_;focus (simp;done)));simp)
   apply RZ;simp [results191]
 cases b4
 . refine CB func191 AXN fun E hE=>?_
   simp [p191]
   repeat ((first | (refine CLt c1 ?_ ?_;focus (simp;done)) | (refine CLt c2 ?_ ?_;focus (simp;done)) | (refine CLt c3 ?_ ?_;focus (simp;done)) | (refine CLt c4 ?_ ?_;focus (simp;done)) | (refine CLt c5 ?_ ?_;focus (simp;done)) | (refine CLt c6 ?_ ?_;focus (simp;done)));simp)
   apply RZ;simp [results191]
 cases b5
 . refine CB func191 AXN fun E hE=>?_
   simp [p191]
   repeat ((first | (refine CLt c1 ?_ ?_;focus (simp;done)) | (refine CLt c2 ?_ ?_;focus (simp;done)) | (refine CLt c3 ?_ ?_;focus (simp;done)) | (refine CLt c4 ?_ ?_;focus (simp;done)) | (refine CLt c5 ?_ ?_;focus (simp;done)) | (refine CLt c6 ?_ ?_;focus (simp;done)));simp)
   apply RZ;simp [results191]
 cases b6
 . refine CB func191 AXN fun E hE=>?_
   simp [p191]
   repeat ((first | (refine CLt c1 ?_ ?_;focus (simp;done)) | (refine CLt c2 ?_ ?_;focus (simp;done)) | (refine CLt c3 ?_ ?_;focus (simp;done)) | (refine CLt c4 ?_ ?_;focus (simp;done)) | (refine CLt c5 ?_ ?_;focus (simp;done)) | (refine CLt c6 ?_ ?_;focus (simp;done)));simp)
   apply RZ;simp [results191]
 . refine CB func191 AXN fun E hE=>?_
   simp [p191]
   repeat ((first | (refine CLt c1 ?_ ?_;focus (simp;done)) | (refine CLt c2 ?_ ?_;focus (simp;done)) | (refine CLt c3 ?_ ?_;focus (simp;done)) | (refine CLt c4 ?_ ?_;focus (simp;done)) | (refine CLt c5 ?_ ?_;focus (simp;done)) | (refine CLt c6 ?_ ?_;focus (simp;done)));simp)
   apply RZ;simp [results191]
theorem jU (r:Rig) (hr:r.reg.length<=1000000000):Ct prog 109 [Fj r] (vi (if CF r then 0 else 51)) []:=by
 have c1:=pO r hr
 generalize CF r=b at*
 cases b
 . refine CB func109 AcQ fun E hE=>?_
   simp [p109];refine CLa c1 ?_;simp;apply RZ;simp [results109]
 . refine CB func109 AcQ fun E hE=>?_
   simp [p109];refine CLa c1 ?_;simp;apply RZ;simp [results109]
theorem fn14 (r:Rig):Ct prog 14 [Fj r] (vb (decide (80<r.reg.length))) []:=by
 have e:decide ((80:Int)<r.reg.length)=decide (80<r.reg.length):=decide_eq_decide.2 (by omega);refine CB func14 c14 fun E hE=>?_
 simp [p14];apply RZ;simp [results14,e]
theorem Tw (l:List Lev) (lo hi:Int) (hl:l.length<=1000000) (h0:l≠[]) (hlh:lo<=hi):Ct prog 122 [.d (BF l),vi lo,vi hi] (vsp (tmS (knT l) lo hi).1 (tmS (knT l) lo hi).2) []:=by
 have ev:tmS (knT l) lo hi=(Jy (knT l) (lo,hi)).1:=by unfold tmS;rw [show min lo hi=lo by omega,show max lo hi=hi by omega]
 have c:=si (knT l) (lo,hi) (by rw [Dg];omega);have ekl:(knT l).length=l.length:=Dg
 have bk:∀ H:Hp,H 1=some (AH knL (knT l))->Bor H (.ls 1 0 l.length 3) (.d (DA (knT l))):=fun H hh=>by
   have:=B0 (f:=knL) hfk (l:=knT l) hh;rw [ekl] at this;exact this
 rw [ev];refine CB func122 c122 fun E hE=>?_
 simp [p122];refine Al (α:=Nat) (fun i=>⟨AO [(0, .d (BF l)),(1,vi lo),(2,vi hi),(6, .lp 0 0),(7,hdF 3 (LS l i) 1),(8,vi i)],lk ([(0,[vi 0,vi 0])]++ouF knL (LS l i) 1),2⟩) (fun i=>i<=l.length) (fun i=>l.length-i) 0 ?_ ?_ ?_
 . omega
 . rw [show LS l 0=[] from rfl,Aq,Au]
   exact WK hE (lk [(0,0)])
 . intro i hi
   by_cases h:i<l.length
   . obtain ⟨x,hx⟩:=gE h
     have hz:=@wz i (by omega);have hI:(i:Int)<l.length:=by omega
     have hnx:=WR hx;have hO:(LS l i).length<=1000000:=by unfold LS;simp;omega
     obtain ⟨O,hOe⟩:∃ O,LS l i=O:=⟨_,rfl⟩
     rw [hOe] at hnx hO ⊢;by_cases hne:O=[]
     . subst hne
       rw [Aq,Au];simp [AWU,hI,hx,AA,AM,hz];refine ⟨i+1,by omega,by omega,?_⟩;rw [hnx,Ak (by simp),AZ (by simp)];refine AI.mk hE (lk [(0,0),(1,17825794)]) _ _ _ ?_ ?_ ?_ ?_ ?_<;>simp [AH,knOf]
     . have hsl:=Aw hfk O
       have hwh:=E9 hfk O;have n1:(O.length+1)*24<=140737488355328:=by omega
       have n2:O.length+1<=9223372036854775807:=by omega
       rw [Ak hne,AZ hne];simp [AWU,hI,hx,AA,AM,hz,hsl,hwh,n1,n2];refine ⟨i+1,by omega,by omega,?_⟩;rw [hnx,Ak (by simp),AZ (by simp),IV];refine AI.mk hE (lk [(0,0),(1,17825794)]) _ _ _ ?_ ?_ ?_ ?_ ?_<;>simp [knOf]
   . have e:i=l.length:=by omega
     have hn:¬ (i:Int)<l.length:=by omega
     have ek:LS l i=knT l:=by unfold LS knT;rw [e,List.take_length]
     have ene:knT l≠[]:=by unfold knT;simpa using h0
     rw [ek,Ak ene,AZ ene,ekl];simp [AWU,hn,AA];refine CLb (c) (by simp [bk]) ?_;simp [AA];apply RZ;simp [results122]
def Xm (l:List Lev) (i:Nat):Bool:=match l[i]? with
 | some x=>Dy l i&&spB 1000 12000 x.pl x.ph&&spB 1500 3500 x.tl x.th
 | none=>true
theorem rl {l:List Lev} {i:Nat} (hi:i<l.length) (h:Xm l i=false):GC l=false:=by
 obtain ⟨x,hx⟩:=gE hi;unfold Xm at h;rw [hx] at h;simp only at h;cases h1:Dy l i
 . unfold GC;rw [PK hi h1];rfl
 . rw [h1] at h
   have:l.all Ij=false:=by
     rw [List.all_eq_false];exact ⟨x,List.mem_of_getElem? hx,by unfold Ij;rw [Bool.true_and] at h;rw [h];simp⟩
   unfold GC;rw [this];simp
theorem xo {l:List Lev} (hn:rgB 2 16 [(l.length:Int)]=true) (h:∀ j,j<l.length->Xm l j=true):GC l=true:=by
 unfold GC;rw [Vv fun j hj=>?_,hn,Bool.true_and,List.all_eq_true]
 . intro x hx
   obtain ⟨j,hj⟩:=List.getElem?_of_mem hx;have:=h j (List.getElem?_eq_some_iff.1 hj).1;unfold Xm at this;rw [hj] at this;simp only [Bool.and_eq_true] at this;unfold Ij;rw [this.1.2,this.2];rfl
 . have:=h j hj
   obtain ⟨x,hx⟩:=gE hj;unfold Xm at this;rw [hx] at this;simp only [Bool.and_eq_true] at this;exact this.1.1
theorem qG (l:List Lev) (hl:l.length<=1000000):Ct prog 118 [.d (BF l)] (vb (GC l)) []:=by
 have c1:=AV8 (l.length:Int) 2 16;cases hn:rgB 2 16 [(l.length:Int)]
 . rw [hn] at c1
   have hbad:GC l=false:=by unfold GC FG;simp [hn]
   refine CB func118 AcU fun E hE=>?_
   simp [p118];refine CLa c1 ?_;simp;apply RZ;simp [results118,hbad]
 rw [hn] at c1;refine CB func118 AcU fun E hE=>?_
 simp [p118];refine CLa c1 ?_;simp;refine Al (α:=Nat) (fun i=>⟨AO [(0, .d (BF l)),(3,vi i)],lk [],0⟩) (fun i=>i<=l.length/\∀ j,j<i->Xm l j=true) (fun i=>l.length-i) 0 ?_ ?_ ?_
 . exact ⟨by omega,fun j hj=>by omega⟩
 . exact WK hE (lk [])
 . rintro i ⟨hi,hg⟩
   by_cases h:i<l.length
   . obtain ⟨x,hx⟩:=gE h
     have hz:=@wz i (by omega);have hI:(i:Int)<l.length:=by omega
     have c2:=AV8 x.h (-500) 9000;have c3:=AXa x.pl x.ph 1000 12000;have c4:=AXa x.tl x.th 1500 3500;have eg:Xm l i=(Dy l i&&spB 1000 12000 x.pl x.ph&&spB 1500 3500 x.tl x.th):=by unfold Xm;rw [hx]
     have fin:Xm l i=true->∀ j,j<i+1->Xm l j=true:=fun he j hj=>by
       by_cases e:j=i
       . rw [e];exact he
       . exact hg j (by omega)
     generalize spB 1000 12000 x.pl x.ph=b3 at*
     generalize spB 1500 3500 x.tl x.th=b4 at*
     cases hb1:rgB (-500) 9000 [x.h]
     . rw [hb1] at c2
       have es:Dy l i=false:=by unfold Dy;rw [hx];simp [hb1]
       have hbad:=rl h (by rw [eg,es];rfl);simp [ALS,hI,hx,AA,inC,Nat.testBit];refine CLa c2 ?_;simp;apply RZ;simp [results118,hbad]
     . rw [hb1] at c2
       by_cases h0:i=0
       . have es:Dy l i=true:=by unfold Dy;rw [hx];simp [hb1,h0]
         rw [es] at eg;have hI0:¬ 0<i:=by omega
         have c6:=c2;cases b3
         . have hbad:=rl h (by rw [eg];rfl)
           simp [ALS,hI,hx,AA,inC,Nat.testBit]
           repeat ((first | (refine CLt c2 ?_ ?_;focus (simp;done)) | (refine CLt c6 ?_ ?_;focus (simp;done)));simp [hI0])
           refine CLa c3 ?_;simp;apply RZ;simp [results118,hbad]
         . simp [ALS,hI,hx,AA,inC,Nat.testBit]
           repeat ((first | (refine CLt c2 ?_ ?_;focus (simp;done)) | (refine CLt c6 ?_ ?_;focus (simp;done)));simp [hI0])
           refine CLa c3 ?_;simp;refine CLa c4 ?_;cases b4
           . have hbad:=rl h (by rw [eg];rfl)
             simp;apply RZ;simp [results118,hbad]
           . have hok:=fin (by rw [eg];rfl)
             simp [hz];refine ⟨i+1,⟨by omega,hok⟩,by omega,?_⟩;exact WK hE (lk [])
       . obtain ⟨y,hy⟩:∃ y,l[i-1]?= some y:=⟨_,List.getElem?_eq_getElem (by omega)⟩
         have hw:IntKind.wrap .i64 ((i:Int)-1)=((i-1:Nat):Int):=by rw [AD (by omega) (by omega)];omega
         have hI0:0<i:=by omega
         have hxb: -500<=x.h/\x.h<=9000:=by simp [rgB] at hb1;omega
         have hyb: -500<=y.h/\y.h<=9000:=by
           have:=hg (i-1) (by omega);unfold Xm Dy at this;rw [hy] at this;simp [rgB] at this;omega
         have hwd:IntKind.wrap .i64 (x.h-y.h)=x.h-y.h:=AD (by omega) (by omega);have c6:=AV8 (x.h-y.h) 1 2000;have es:Dy l i=rgB 1 2000 [x.h-y.h]:=by unfold Dy;rw [hx];simp [hb1,h0,hy]
         cases h2:rgB 1 2000 [x.h-y.h]
         . rw [h2] at c6
           have hbad:=rl h (by rw [eg,es,h2];rfl);simp [ALS,hI,hx,AA,inC,Nat.testBit];refine CLa c2 ?_;simp [hI0,hw,hy,hwd,inC,Nat.testBit];refine CLa c6 ?_;simp;apply RZ;simp [results118,hbad]
         . rw [h2] at c6 es
           rw [es] at eg;cases b3
           . have hbad:=rl h (by rw [eg];rfl)
             simp [ALS,hI,hx,AA,inC,Nat.testBit]
             repeat ((first | (refine CLt c2 ?_ ?_;focus (simp;done)) | (refine CLt c6 ?_ ?_;focus (simp;done)));simp [inC,Nat.testBit,hI0,hw,hy,hwd])
             refine CLa c3 ?_;simp;apply RZ;simp [results118,hbad]
           . simp [ALS,hI,hx,AA,inC,Nat.testBit]
             repeat ((first | (refine CLt c2 ?_ ?_;focus (simp;done)) | (refine CLt c6 ?_ ?_;focus (simp;done)));simp [inC,Nat.testBit,hI0,hw,hy,hwd])
             refine CLa c3 ?_;simp;refine CLa c4 ?_;cases b4
             . have hbad:=rl h (by rw [eg];rfl)
               simp;apply RZ;simp [results118,hbad]
             . have hok:=fin (by rw [eg];rfl)
               simp [hz];refine ⟨i+1,⟨by omega,hok⟩,by omega,?_⟩;exact WK hE (lk [])
   . have e:i=l.length:=by omega
     have hnn:¬ (i:Int)<l.length:=by omega
     have hall:=xo hn (by rw [<-e];exact hg);simp [ALS,hnn];apply RZ;simp [results118,hall]
structure yi (S:List Lev):Prop where
 len:2<=S.length/\S.length<=16
 at':∀ x∈S, -500<=x.h/\x.h<=9000
 pr:∀ x∈S,PrB x
 step:∀ (i:Nat) (a b:Lev),S[i]?= some a->S[i+1]?= some b->(0<b.h-a.h/\b.h-a.h<=2000)/\TmB (tmS (knT S)) a.h b.h
def rf (S:List Lev) (i:Nat) (a:Lev):Lev:=gsB (tmS (knT S)) (gsA (tmS (knT S)) (if i=0 then none else S[i-1]?) a) a (S.drop (i+1))
theorem AcC (S:List Lev) (i:Nat) (a:Lev) (h:yi S) (ha:S[i]?= some a):Ct prog 205 [.d (BF S),vi i] (vsp (rf S i a).pl (rf S i a).ph) []:=by
 have hlen:=h.len;have hil:=(List.getElem?_eq_some_iff.1 ha).1;have hI:(i:Int)<S.length:=by omega
 have hne:S≠[]:=by intro e;rw [e] at hlen;simp at hlen
 obtain ⟨j,hj⟩:∃ j,j=i+1:=⟨_,rfl⟩
 have w1:IntKind.wrap .i64 ((i:Int)+1)=(j:Int):=by rw [AD (by omega) (by omega)];omega
 have hah:=h.at' a (List.mem_of_getElem? ha);by_cases hi0:0<i
 . have h0:¬ i=0:=by omega
   obtain ⟨q,hq⟩:∃ q,S[i-1]?= some q:=⟨_,List.getElem?_eq_getElem (by omega)⟩
   have hqs:=h.step (i-1) q a hq (by rw [show i-1+1=i by omega];exact ha);have hqb:=h.pr q (List.mem_of_getElem? hq);have hqh:=h.at' q (List.mem_of_getElem? hq);have w0:IntKind.wrap .i64 ((i:Int)-1)=((i-1:Nat):Int):=by rw [AD (by omega) (by omega)];omega
   have wd:IntKind.wrap .i64 (a.h-q.h)=a.h-q.h:=AD (by omega) (by omega);have c1:=Tw S q.h a.h (by omega) hne (by omega);have c2:=zk q.pl q.ph (a.h-q.h) (tmS (knT S) q.h a.h).1 (tmS (knT S) q.h a.h).2 hqb.l hqb.h hqs.1 hqs.2.p;have c3:=xz a.pl a.ph (CY (1000000*(tmS (knT S) q.h a.h).1) (341632*(a.h-q.h)) q.pl) (C9 (1000000*(tmS (knT S) q.h a.h).2) (341632*(a.h-q.h)) q.ph);have hA:gsA (tmS (knT S)) (if i=0 then none else S[i-1]?) a=mt a (cyu (tmS (knT S)) q a):=by rw [if_neg h0,hq];rfl
   by_cases h1:i+1<S.length
   . obtain ⟨b,hb⟩:∃ b,S[i+1]?= some b:=⟨_,List.getElem?_eq_getElem (by omega)⟩
     have hbs:=h.step i a b ha hb;have hbb:=h.pr b (List.mem_of_getElem? hb);have hbh:=h.at' b (List.mem_of_getElem? hb);have wb:IntKind.wrap .i64 (b.h-a.h)=b.h-a.h:=AD (by omega) (by omega);have hdrop:∃ r,S.drop (i+1)=b::r:=⟨_,by rw [List.drop_eq_getElem?_toList_append,hb];rfl⟩
     obtain ⟨rr,hdrop⟩:=hdrop;have hn1:(j:Int)<S.length:=by omega
     rw [<-hj] at hb;have c4:=Tw S a.h b.h (by omega) hne (by omega);have c5:=yA b.pl b.ph (b.h-a.h) (tmS (knT S) a.h b.h).1 (tmS (knT S) a.h b.h).2 hbb.l hbb.h hbs.1 hbs.2.p;have e:rf S i a=mt (mt a (cyu (tmS (knT S)) q a)) (cyd (tmS (knT S)) a b):=by unfold rf;rw [hA,hdrop];rfl
     rw [e];have c6:=xz (max a.pl (CY (1000000*(tmS (knT S) q.h a.h).1) (341632*(a.h-q.h)) q.pl)) (min a.ph (C9 (1000000*(tmS (knT S) q.h a.h).2) (341632*(a.h-q.h)) q.ph)) (Cz (1000000*(tmS (knT S) a.h b.h).2) (341632*(b.h-a.h)) b.pl) (Ud (1000000*(tmS (knT S) a.h b.h).1) (341632*(b.h-a.h)) b.ph);refine CB func205 AbA fun E hE=>?_
     simp [p205,AA,ha,hi0,hq,w0,wd,inC,Nat.testBit];refine CLa c1 ?_;simp;refine CLa c2 ?_;simp;refine CLa c3 ?_;simp [AA,ha,hb,w1,wb,hn1,inC,Nat.testBit];refine CLa c4 ?_;simp;refine CLa c5 ?_;simp;refine CLa c6 ?_;simp [AA];apply RZ;simp [results205,Air.mt,cyu,cyd,lc,lw,ls]
   . have hdrop:S.drop (i+1)=[]:=List.drop_eq_nil_of_le (by omega)
     have e:rf S i a=mt a (cyu (tmS (knT S)) q a):=by unfold rf;rw [hA,hdrop];rfl
     rw [e];have hn1:¬ (j:Int)<S.length:=by omega
     refine CB func205 AbA fun E hE=>?_
     simp [p205,AA,ha,hi0,hq,w0,wd,inC,Nat.testBit];refine CLa c1 ?_;simp;refine CLa c2 ?_;simp;refine CLa c3 ?_;simp [AA,w1,hn1];apply RZ;simp [results205,Air.mt,cyu,lc,lw,ls]
 . have h0:i=0:=by omega
   have hA:gsA (tmS (knT S)) (if i=0 then none else S[i-1]?) a=a:=by rw [if_pos h0];rfl
   have h1:i+1<S.length:=by omega
   obtain ⟨b,hb⟩:∃ b,S[i+1]?= some b:=⟨_,List.getElem?_eq_getElem (by omega)⟩
   have hbs:=h.step i a b ha hb;have hbb:=h.pr b (List.mem_of_getElem? hb);have hbh:=h.at' b (List.mem_of_getElem? hb);have wb:IntKind.wrap .i64 (b.h-a.h)=b.h-a.h:=AD (by omega) (by omega);have hdrop:∃ r,S.drop (i+1)=b::r:=⟨_,by rw [List.drop_eq_getElem?_toList_append,hb];rfl⟩
   obtain ⟨rr,hdrop⟩:=hdrop;have hn1:(j:Int)<S.length:=by omega
   rw [<-hj] at hb;have c4:=Tw S a.h b.h (by omega) hne (by omega);have c5:=yA b.pl b.ph (b.h-a.h) (tmS (knT S) a.h b.h).1 (tmS (knT S) a.h b.h).2 hbb.l hbb.h hbs.1 hbs.2.p;have e:rf S i a=mt a (cyd (tmS (knT S)) a b):=by unfold rf;rw [hA,hdrop];rfl
   rw [e];have c6:=xz a.pl a.ph (Cz (1000000*(tmS (knT S) a.h b.h).2) (341632*(b.h-a.h)) b.pl) (Ud (1000000*(tmS (knT S) a.h b.h).1) (341632*(b.h-a.h)) b.ph);refine CB func205 AbA fun E hE=>?_
   simp [p205,AA,ha,hi0,hb,w1,wb,hn1,inC,Nat.testBit];refine CLa c4 ?_;simp;refine CLa c5 ?_;simp;refine CLa c6 ?_;simp [AA];apply RZ;simp [results205,Air.mt,cyd,lc,lw,ls]
def gsK (T:Tm):Nat->Option Lev->List Lev->List Lev
 | 0,_,l=>l
 | i+1,p,a::r=>gsB T (gsA T p a) a r::gsK T i (some (gsB T (gsA T p a) a r)) r
 | _+1,_,[]=>[]
theorem ur (T:Tm):∀ (i:Nat) (p:Option Lev) (l:List Lev),l.length<=i->gsK T i p l=gsP T p l
 | 0,p,[],_=>rfl
 | 0,p,_::_,h=>by simp at h
 | i+1,p,[],_=>rfl
 | i+1,p,a::r,h=>by
   show gsB T (gsA T p a) a r::gsK T i _ r=gsB T (gsA T p a) a r::gsP T _ r
   rw [ur T i _ r (by simpa using h)]
theorem su (T:Tm):∀ (i:Nat) (p:Option Lev) (l:List Lev),LeL l (gsK T i p l)
 | 0,_,l=>LeL.refl l
 | _+1,_,[]=>trivial
 | i+1,p,a::r=>⟨(sL T p a).trans (sM T _ a r),su T i _ r⟩
theorem tU (T:Tm):∀ (i:Nat) (p:Option Lev) (l:List Lev),LeL (gsK T i p l) (gsP T p l)
 | 0,p,l=>ux T l p
 | _+1,_,[]=>trivial
 | i+1,_,_::r=>⟨Le.refl _,tU T i _ r⟩
theorem xO (T:Tm) (i:Nat) (p:Option Lev) (l:List Lev):(gsK T i p l).length=l.length:=(su T i p l).len.symm
theorem tV (T:Tm):∀ (i:Nat) (p:Option Lev) (l:List Lev) (j:Nat),i<=j->(gsK T i p l)[j]?= l[j]?
 | 0,p,l,j,_=>rfl
 | i+1,p,[],j,_=>rfl
 | i+1,p,a::r,0,h=>by omega
 | i+1,p,a::r,j+1,h=>by
   show (gsK T i _ r)[j]?= r[j]?
   exact tV T i _ r j (by omega)
theorem tW (T:Tm):∀ (i:Nat) (p:Option Lev) (l:List Lev) (a:Lev),l[i]?= some a->gsK T (i+1) p l=(gsK T i p l).set i (gsB T (gsA T (if i=0 then p else (gsK T i p l)[i-1]?) a) a ((gsK T i p l).drop (i+1)))
 | _,p,[],a,h=>by simp at h
 | 0,p,b::r,a,h=>by simp at h;subst h;rfl
 | i+1,p,b::r,a,h=>by
   have h1:gsK T (i+1) p (b::r)=gsB T (gsA T p b) b r::gsK T i (some (gsB T (gsA T p b) b r)) r:=rfl;have h2:gsK T (i+1+1) p (b::r)=gsB T (gsA T p b) b r::gsK T (i+1) (some (gsB T (gsA T p b) b r)) r:=rfl;have ih:=tW T i (some (gsB T (gsA T p b) b r)) r a (by simpa using h);rw [h2,h1,List.set_cons_succ,List.drop_succ_cons]
   have e0:(if i+1=0 then p else (gsB T (gsA T p b) b r::gsK T i (some (gsB T (gsA T p b) b r)) r)[i+1-1]?)=(if i=0 then some (gsB T (gsA T p b) b r) else (gsK T i (some (gsB T (gsA T p b) b r)) r)[i-1]?):=by
     cases i with
     | zero=>rfl
     | succ j=>rfl
   rw [e0,<-ih]
theorem xP {l m:List Lev} (h1:LeL l m) (i:Nat):knT (gsK (tmS (knT l)) i none m)=knT l:=(Yt (LeL.trans h1 (su _ i none m))).symm
section
variable {l m:List Lev} (h:OkS l) (h1:LeL l m) (h2:LeL m (swp l))
include h h1 h2
theorem xR (i:Nat):yi (gsK (tmS (knT l)) i none m):=by
 have hp:=uy h.lks h.pos h1 h2;have a1:LeL l (gsK (tmS (knT l)) i none m):=LeL.trans h1 (su _ i none m);have a2:LeL (gsK (tmS (knT l)) i none m) (swp l):=LeL.trans (tU _ i none m) hp.2.1;have hlen:=a1.len;have key:∀ (j:Nat) (y:Lev),(gsK (tmS (knT l)) i none m)[j]?= some y->∃ x,l[j]?= some x/\Le x y:=fun j y hy=>EM a1 j y hy
 have upper:∀ (j:Nat) (y:Lev),(gsK (tmS (knT l)) i none m)[j]?= some y->∃ z,z∈swp l/\Le y z:=fun j y hy=>by
   obtain ⟨z,hz⟩:∃ z,(swp l)[j]?= some z:=⟨_,List.getElem?_eq_getElem (by have:=(List.getElem?_eq_some_iff.1 hy).1;have:=a2.len;omega)⟩
   obtain ⟨y',hy',q⟩:=EM a2 j z hz;rw [hy] at hy';cases hy';exact ⟨z,List.mem_of_getElem? hz,q⟩
 refine ⟨by rw [<-hlen];exact h.len,fun y hy=>?_,fun y hy=>?_,fun j a b ha hb=>?_⟩
 . obtain ⟨j,hj⟩:=List.getElem?_of_mem hy
   obtain ⟨x,hx,q⟩:=key j y hj;have:=h.at' x (List.mem_of_getElem? hx);have:=q.s.1;omega
 . obtain ⟨j,hj⟩:=List.getElem?_of_mem hy
   obtain ⟨x,hx,q⟩:=key j y hj;obtain ⟨z,hz,q'⟩:=upper j y hj;have b1:=h.lev x (List.mem_of_getElem? hx);have b2:=AK1 h z hz;have c1:=q.lo;have c2:=q.hi;have c3:=q'.lo;have c4:=q'.hi;have d1:=b2.1;have d2:=b2.2;exact ⟨by omega,by omega⟩
 . obtain ⟨x,hx,q⟩:=key j a ha
   obtain ⟨y,hy,q'⟩:=key (j+1) b hb;have hs:=h.step j x y hx hy;have ht:=Oq h (h.inS hx) (h.inS hy);have e1:=q.s.1;have e2:=q'.s.1;rw [<-Yt a1];rw [e1,e2] at ht;exact ⟨by omega,ht⟩
end
theorem xS {l m:List Lev} (h1:LeL l m) (i:Nat) (a:Lev) (ha:m[i]?= some a):gsK (tmS (knT l)) (i+1) none m=(gsK (tmS (knT l)) i none m).set i (rf (gsK (tmS (knT l)) i none m) i a):=by
 unfold rf;rw [xP h1 i];exact tW _ i none m a ha
end Go.Proofs.Tryz
namespace Go.Proofs.Tryz
open Go.Psl
open Go.Air
theorem vA (a b c d:V):AA [a,b] 0 [c,d]=[c,d]:=rfl
theorem y2 (S:List Lev) (i:Nat) (a:Lev):Le a (rf S i a):=(sL _ _ a).trans (sM _ _ a _)
theorem vg {L m:List Lev} {i:Nat} {a b:Lev} (ha:L[i]?= some a) (hm:m[i]?= some a) (hb:Le a b):L.set i b=m↔(L=m/\b.pl=a.pl/\b.ph=a.ph):=by
 constructor
 . intro e
   have h1:(L.set i b)[i]?= some b:=by
     rw [List.getElem?_set_self (List.getElem?_eq_some_iff.1 ha).1]
   rw [e,hm] at h1;cases h1;rw [Pn ha] at e;exact ⟨e,rfl,rfl⟩
 . rintro ⟨rfl,h1,h2⟩
   have:b=a:=by
     obtain ⟨⟨q1,q2,q3⟩,_,_⟩:=hb;cases a;cases b;simp only [Lev.mk.injEq] at*;exact ⟨q1.symm,h1,h2,q2.symm,q3.symm⟩
   rw [this,Pn ha]
theorem AaI (m:List Lev) (n:Nat) (S:Nat->List Lev) (hn:n<=16) (hml:m.length=n) (hW:∀ i,yi (S i)) (hlen:∀ i,(S i).length=n) (hm:∀ i a,m[i]?= some a->(S i)[i]?= some a) (hnx:∀ i a,m[i]?= some a->S (i+1)=(S i).set i (rf (S i) i a)) {E:Ent} (hE:∀ i,¬ E.stab i) {Q:Av->St->Prop}:∀ i:Nat,i<=n->PW prog tys eqs E AVq
   (DP (fun st'=>∃ j,j<=n/\n-j<n-i/\AI prog E st' ⟨AO [(5, .ls 0 0 n 5),(6,vb (!decide (S j=m))),(7,vi j)],lk [(0,AH A5 (S j))],1⟩)
     (exC prog E Q 2 (fun _:Unit=>⟨AO [(5, .ls 0 0 n 5),(6,vb (!decide (S n=m)))],lk [(0,AH A5 (S n))],1⟩) (fun _=>True)))
   ⟨AO [(5, .ls 0 0 n 5),(6,vb (!decide (S i=m))),(7,vi i)],lk [(0,AH A5 (S i))],1⟩:=by
 intro i hi;by_cases h:i<n
 . obtain ⟨a,ha⟩:∃ a,m[i]?= some a:=⟨_,List.getElem?_eq_getElem (by omega)⟩
   have hSa:=hm i a ha;have hN:=hnx i a ha;have hz:=@wz i (by omega);have hI:(i:Int)<n:=by omega
   have c:=AcC (S i) i a (hW i) hSa;have hble:=y2 (S i) i a;have hfl:=vg hSa ha hble;rw [<-hN] at hfl;have hl2:=hlen i
   generalize hbe:rf (S i) i a=b at*
   generalize hLe:S i=L at*
   have bL:=JO (b:=0) hl2;have e2:List.take 2 (List.drop (i*5+1) (AH A5 L))=[vi a.pl,vi a.ph]:=XS Tryz.hfl hSa (by omega)
   have e3:AA (AH A5 L) (i*5+1) [vi b.pl,vi b.ph]=AH A5 (S (i+1)):=by
     rw [hN];refine ra Tryz.hfl (vs:=[di b.pl,di b.ph]) hSa (by simp) ?_;simp [A5,hble.s.1,hble.s.2.1,hble.s.2.2]
   have hsl:=Aw Tryz.hfl L;have f3:i*5+1+2<=n*5:=by omega
   rw [hl2] at hsl;by_cases hc:L=m
   . have hd:decide (L=m)=true:=decide_eq_true hc
     have hd2:decide (S (i+1)=m)=(decide (b.pl=a.pl)&&decide (b.ph=a.ph)):=by
       rw [Bool.eq_iff_iff];simp only [decide_eq_true_eq,Bool.and_eq_true];rw [hfl];simp [hc]
     rw [hd];simp [AVq,hI];refine CLb (c) (by simp [bL]) ?_;simp [vA,e2,e3,hsl,f3,hI,hz,inC,Nat.testBit];refine ⟨i+1,by omega,by omega,?_⟩;rw [hd2];exact WK hE (lk [(0,0)])
   . have hd:decide (L=m)=false:=decide_eq_false hc
     have hd2:decide (S (i+1)=m)=false:=decide_eq_false fun h=>hc (hfl.1 h).1
     rw [hd];simp [AVq,hI];refine CLb (c) (by simp [bL]) ?_;simp [vA,e3,hsl,f3,hI,hz];refine ⟨i+1,by omega,by omega,?_⟩;rw [hd2];exact WK hE (lk [(0,0)])
 . have e:i=n:=by omega
   subst e;simp [AVq];exact WK hE (lk [(0,0)])
theorem tT (l:List Lev) (h:OkS l) {E:Ent} (hE:∀ i,¬ E.stab i) {Q:Av->St->Prop}:∀ y:List Lev × Bool,(LeL l y.1/\LeL y.1 (swp l)/\(y.2=false->y.1=swp l))->PW prog tys eqs E AWT
   (DP (fun st'=>∃ z:List Lev × Bool,(LeL l z.1/\LeL z.1 (swp l)/\(z.2=false->z.1=swp l))/\(2*far z.1 (swp l)+cond z.2 1 0)<(2*far y.1 (swp l)+cond y.2 1 0)/\AI prog E st' ⟨AO [(5, .ls 0 0 l.length 5),(6,vb z.2)],lk [(0,AH A5 z.1)],1⟩)
     (exC prog E Q 0 (fun _:Unit=>⟨AO [(5, .ls 0 0 l.length 5)],lk [(0,AH A5 (swp l))],1⟩) (fun _=>True)))
   ⟨AO [(5, .ls 0 0 l.length 5),(6,vb y.2)],lk [(0,AH A5 y.1)],1⟩:=by
 rintro ⟨m,c⟩ ⟨h1,h2,h3⟩
 simp only at h1 h2 h3;have hlen:=h.len;cases c with
 | false=>
   have e:=h3 rfl;subst e;simp [AWT];exact WK hE (lk [(0,0)])
 | true=>
   have hml:=h1.len;have hp:=uy h.lks h.pos h1 h2;have eall:gsK (tmS (knT l)) l.length none m=gsP (tmS (knT l)) none m:=ur _ _ _ _ (by omega);simp [AWT];refine BL (α:=Nat) 2 (fun _:Unit=>⟨AO [(5, .ls 0 0 l.length 5),(6,vb (!decide (gsK (tmS (knT l)) l.length none m=m)))],lk [(0,AH A5 (gsK (tmS (knT l)) l.length none m))],1⟩) (fun _=>True) (fun j=>⟨AO [(5, .ls 0 0 l.length 5),(6,vb (!decide (gsK (tmS (knT l)) j none m=m))),(7,vi j)],lk [(0,AH A5 (gsK (tmS (knT l)) j none m))],1⟩) (fun j=>j<=l.length) (fun j=>l.length-j) 0 ?_ ?_ (AaI m l.length (fun i=>gsK (tmS (knT l)) i none m) hlen.2 hml.symm (xR h h1 h2) (fun i=>by rw [xO];exact hml.symm) (fun i a ha=>by rw [tV _ i none m i (by omega)];exact ha) (xS h1) hE) fun _ _=>?_
   . omega
   . rw [show gsK (tmS (knT l)) 0 none m=m from rfl,decide_eq_true rfl]
     exact WK hE (lk [(0,0)])
   . rw [eall]
     simp;refine ⟨gsP (tmS (knT l)) none m,?_⟩;by_cases e:gsP (tmS (knT l)) none m=m
     . left
       have e2:=hp.2.2.1 e;refine ⟨⟨hp.1,hp.2.1,by rw [e];exact e2⟩,by rw [e];omega,?_⟩;rw [decide_eq_true e];exact WK hE (lk [(0,0)])
     . right
       refine ⟨⟨hp.1,hp.2.1⟩,hp.2.2.2 e,?_⟩;rw [decide_eq_false e];exact WK hE (lk [(0,0)])
theorem tv (l:List Lev) (h:OkS l) (hq:0<=ixF unf (swp l)):Ct prog 120 [.d (BF l)] (.tup [.d (.lit (.slice none 0 0)),vi (ixF unf (swp l)),vi 21]) []:=by
 have hlen:=h.len;have h0:l≠[]:=by intro e;rw [e] at hlen;simp at hlen
 have hl2:=Dj (l:=l);have c1:=qG l (by omega);rw [B8.2 h] at c1;obtain ⟨x0,r0,e0⟩:=List.exists_cons_of_ne_nil h0;have hmx:(r0.length+1)*40<=140737488355328/\r0.length+1<=9223372036854775807:=by rw [e0] at hlen;simp at hlen;omega
 have ee:BF l= .sl 5 (A5 x0::r0.map A5):=by rw [e0];rfl
 have ef:(r0.map (List.map V.d ∘ A5)).flatten=AH A5 r0:=by simp [AH,List.map_flatten]
 have hcl:(∀ x∈AH A5 r0,x.isCell=true)=True:=eq_true BU;have eln:l.length=r0.length+1:=by rw [e0];simp
 have efc:AH A5 l=vi x0.h::vi x0.pl::vi x0.ph::vi x0.tl::vi x0.th::AH A5 r0:=by rw [e0,CQ];rfl
 refine CB func120 Aa3 fun E hE=>?_
 simp [p120];refine CLa c1 ?_;simp [ee,ef,AM,hmx];refine BL (α:=List Lev × Bool) 0 (fun _:Unit=>⟨AO [(5, .ls 0 0 l.length 5)],lk [(0,AH A5 (swp l))],1⟩) (fun _=>True) (fun z=>⟨AO [(5, .ls 0 0 l.length 5),(6,vb z.2)],lk [(0,AH A5 z.1)],1⟩) (fun z=>LeL l z.1/\LeL z.1 (swp l)/\(z.2=false->z.1=swp l)) (fun z=>2*far z.1 (swp l)+cond z.2 1 0) (l,true) ?_ ?_ (tT l h hE) fun _ _=>?_
 . exact ⟨LeL.refl l,Es l,by simp⟩
 . simp only
   rw [efc,eln];refine AI.mk hE (lk [(0,8388608)]) _ _ _ ?_ ?_ ?_ ?_ ?_<;>simp
 . simp
   refine Al (α:=Nat) (fun i=>⟨AO [(5, .ls 0 0 l.length 5),(9,vi i)],lk [(0,AH A5 (swp l))],1⟩) (fun i=>i<=l.length/\∀ j,j<i->((swp l)[j]?).all (fun x=>!unf x)=true) (fun i=>l.length-i) 0 ?_ ?_ ?_
   . exact ⟨by omega,fun j hj=>by omega⟩
   . exact WK hE (lk [(0,0)])
   . rintro i ⟨hi,hg3⟩
     have hg2:∀ (j:Nat) (x:Lev),j<i->(swp l)[j]?= some x->unf x=false:=fun j x hj hx=>by
       have:=hg3 j hj;rw [hx] at this;have h9:(!unf x)=true:=this;simpa using h9
     by_cases hil:i<l.length
     . obtain ⟨x,hx⟩:∃ x,(swp l)[i]?= some x:=⟨_,List.getElem?_eq_getElem (by omega)⟩
       have hz:=@wz i (by omega);have hI:(i:Int)<l.length:=by omega
       have e1:(AH A5 (swp l))[i*5+1]?= some (vi x.pl):=Jg Tryz.hfl hx rfl;have e2:(AH A5 (swp l))[i*5+2]?= some (vi x.ph):=Jg Tryz.hfl hx rfl;have e3:List.take 1 (List.drop (i*5+1) (AH A5 (swp l)))=[vi x.pl]:=XS Tryz.hfl hx (by omega);have e4:List.take 1 (List.drop (i*5+2) (AH A5 (swp l)))=[vi x.ph]:=XS Tryz.hfl hx (by omega);have hsl:=Aw Tryz.hfl (swp l);rw [hl2] at hsl;have f1:i*5+1+1<=l.length*5:=by omega
       have f2:i*5+2+1<=l.length*5:=by omega
       have f3:i*5+1<l.length*5:=by omega
       have f4:i*5+2<l.length*5:=by omega
       by_cases hu:x.ph<x.pl
       . have hui:ixF unf (swp l)=i:=IY hx (decide_eq_true hu) fun j y hj hy=>hg2 j y hj hy
         (rw [hui];simp [AVr,hI,e3,e4,hsl,f1,f2,hu,inC,Nat.testBit];apply RZ;simp [results120])
       . simp [AVr,hI,e3,e4,hsl,f1,f2,hu,hz,inC,Nat.testBit]
         refine ⟨i+1,⟨by omega,fun j hj=>?_⟩,by omega,?_⟩
         . by_cases e:j=i
           . subst e;rw [hx]
             have:unf x=false:=decide_eq_false hu
             show (!unf x)=true
             rw [this];rfl
           . exact hg3 j (by omega)
         . exact WK hE (lk [(0,0)])
     . have ei:i=l.length:=by omega
       have hI:¬ (i:Int)<l.length:=by omega
       (have:=IX (q:=unf) (l:=swp l) fun j x hx=>hg2 j x (by have:=(List.getElem?_eq_some_iff.1 hx).1;omega) hx;omega)
theorem vq (l:List Lev) (h:OkS l) (hq:¬ 0<=ixF unf (swp l)):Ct prog 120 [.d (BF l)] (.tup [.ls 0 0 l.length 5,vi 0,vi 0]) [(0,AH A5 (swp l))]:=by
 have hlen:=h.len;have h0:l≠[]:=by intro e;rw [e] at hlen;simp at hlen
 have hl2:=Dj (l:=l);have c1:=qG l (by omega);rw [B8.2 h] at c1;obtain ⟨x0,r0,e0⟩:=List.exists_cons_of_ne_nil h0;have hmx:(r0.length+1)*40<=140737488355328/\r0.length+1<=9223372036854775807:=by rw [e0] at hlen;simp at hlen;omega
 have ee:BF l= .sl 5 (A5 x0::r0.map A5):=by rw [e0];rfl
 have ef:(r0.map (List.map V.d ∘ A5)).flatten=AH A5 r0:=by simp [AH,List.map_flatten]
 have hcl:(∀ x∈AH A5 r0,x.isCell=true)=True:=eq_true BU;have eln:l.length=r0.length+1:=by rw [e0];simp
 have efc:AH A5 l=vi x0.h::vi x0.pl::vi x0.ph::vi x0.tl::vi x0.th::AH A5 r0:=by rw [e0,CQ];rfl
 refine CB func120 Aa3 fun E hE=>?_
 simp [p120];refine CLa c1 ?_;simp [ee,ef,AM,hmx];refine BL (α:=List Lev × Bool) 0 (fun _:Unit=>⟨AO [(5, .ls 0 0 l.length 5)],lk [(0,AH A5 (swp l))],1⟩) (fun _=>True) (fun z=>⟨AO [(5, .ls 0 0 l.length 5),(6,vb z.2)],lk [(0,AH A5 z.1)],1⟩) (fun z=>LeL l z.1/\LeL z.1 (swp l)/\(z.2=false->z.1=swp l)) (fun z=>2*far z.1 (swp l)+cond z.2 1 0) (l,true) ?_ ?_ (tT l h hE) fun _ _=>?_
 . exact ⟨LeL.refl l,Es l,by simp⟩
 . simp only
   rw [efc,eln];refine AI.mk hE (lk [(0,8388608)]) _ _ _ ?_ ?_ ?_ ?_ ?_<;>simp
 . simp
   refine Al (α:=Nat) (fun i=>⟨AO [(5, .ls 0 0 l.length 5),(9,vi i)],lk [(0,AH A5 (swp l))],1⟩) (fun i=>i<=l.length/\∀ j,j<i->((swp l)[j]?).all (fun x=>!unf x)=true) (fun i=>l.length-i) 0 ?_ ?_ ?_
   . exact ⟨by omega,fun j hj=>by omega⟩
   . exact WK hE (lk [(0,0)])
   . rintro i ⟨hi,hg3⟩
     have hg2:∀ (j:Nat) (x:Lev),j<i->(swp l)[j]?= some x->unf x=false:=fun j x hj hx=>by
       have:=hg3 j hj;rw [hx] at this;have h9:(!unf x)=true:=this;simpa using h9
     by_cases hil:i<l.length
     . obtain ⟨x,hx⟩:∃ x,(swp l)[i]?= some x:=⟨_,List.getElem?_eq_getElem (by omega)⟩
       have hz:=@wz i (by omega);have hI:(i:Int)<l.length:=by omega
       have e1:(AH A5 (swp l))[i*5+1]?= some (vi x.pl):=Jg Tryz.hfl hx rfl;have e2:(AH A5 (swp l))[i*5+2]?= some (vi x.ph):=Jg Tryz.hfl hx rfl;have e3:List.take 1 (List.drop (i*5+1) (AH A5 (swp l)))=[vi x.pl]:=XS Tryz.hfl hx (by omega);have e4:List.take 1 (List.drop (i*5+2) (AH A5 (swp l)))=[vi x.ph]:=XS Tryz.hfl hx (by omega);have hsl:=Aw Tryz.hfl (swp l);rw [hl2] at hsl;have f1:i*5+1+1<=l.length*5:=by omega
       have f2:i*5+2+1<=l.length*5:=by omega
       have f3:i*5+1<l.length*5:=by omega
       have f4:i*5+2<l.length*5:=by omega
       by_cases hu:x.ph<x.pl
       . have hui:ixF unf (swp l)=i:=IY hx (decide_eq_true hu) fun j y hj hy=>hg2 j y hj hy
         omega
       . simp [AVr,hI,e3,e4,hsl,f1,f2,hu,hz,inC,Nat.testBit]
         refine ⟨i+1,⟨by omega,fun j hj=>?_⟩,by omega,?_⟩
         . by_cases e:j=i
           . subst e;rw [hx]
             have:unf x=false:=decide_eq_false hu
             show (!unf x)=true
             rw [this];rfl
           . exact hg3 j (by omega)
         . exact WK hE (lk [(0,0)])
     . have ei:i=l.length:=by omega
       have hI:¬ (i:Int)<l.length:=by omega
       (simp [AVr,hI];refine AB.by (lk [(0,0)]) ?_;simp [results120])
theorem vr (l:List Lev) (hl:l.length<=1000000) (h:GC l=false):Ct prog 120 [.d (BF l)] (.tup [.d (.lit (.slice none 0 0)),vi 0,vi 20]) []:=by
 have c1:=qG l hl;rw [h] at c1;refine CB func120 Aa3 fun E hE=>?_
 simp [p120];refine CLa c1 ?_;simp;apply RZ;simp [results120]
theorem Iu (l:List Lev) (hl:l.length<=1000000):Ct prog 120 [.d (BF l)] (gz (D3 l)) []:=by
 cases h:GC l
 . refine Cm.freeze (vr l hl h) ?_
   unfold D3;rw [h];exact ⟨Or.inr ⟨rfl,5,rfl⟩,Or.inl rfl,Or.inl rfl,trivial⟩
 . have ho:=B8.1 h
   by_cases hq:0<=ixF unf (swp l)
   . refine Cm.freeze (tv l ho hq) ?_
     unfold D3;rw [h,if_pos rfl,if_pos hq];exact ⟨Or.inr ⟨rfl,5,rfl⟩,Or.inl rfl,Or.inl rfl,trivial⟩
   . refine Cm.freeze (vq l ho hq) ?_
     unfold D3;rw [h,if_pos rfl,if_neg hq];refine ⟨?_,Or.inl rfl,Or.inl rfl,trivial⟩;have:=JO (ws:=swp l) (b:=0) (Dj (l:=l)) (lk [(0,AH A5 (swp l))]) (by simp);exact this
theorem AaZ (s:List Lev) (x:Int) (h:OkS s) (hx:E8 s x):Ct prog 121 [.d (BF s),vi x] (vsp (prs (tmS (knT s)) s x).1 (prs (tmS (knT s)) s x).2) []:=by
 have hlen:=h.len;have hp:=Zj s x;obtain ⟨e0,he0⟩:∃ e0,s[0]?= some e0:=⟨_,List.getElem?_eq_getElem (by omega)⟩
 obtain ⟨e1,he1⟩:∃ e1,s[s.length-1]?= some e1:=⟨_,List.getElem?_eq_getElem (by omega)⟩
 have hx0:=hx.1 e0 he0;have hx1:=hx.2 e1 he1;have hb0:=h.at' e0 (List.mem_of_getElem? he0);have hb1:=h.at' e1 (List.mem_of_getElem? he1)
 have hlt:Ii s x<s.length:=Nat.not_le.1 fun hge=>by
   have:=NN s x (s.length-1) e1 he1 (by omega);omega
 obtain ⟨r,hr⟩:∃ r,Ii s x=r:=⟨_,rfl⟩
 rw [hr] at hlt;obtain ⟨b,hb⟩:=gE hlt;have hbx:x<=b.h:=Zk s x b (by rw [hr];exact hb);have hin:∀ (j:Nat) (z:Lev),j<r->s[j]?= some z->z.h<x:=fun j z hj hz=>NN s x j z hz (by omega)
 have hbb:=h.lev b (List.mem_of_getElem? hb);have hbh:=h.at' b (List.mem_of_getElem? hb);have hI:(r:Int)<s.length:=by omega
 have hbnx:¬ b.h<x:=by omega
 by_cases hit:b.h=x
 . rw [TY r s b hb hit hin]
   refine CB func121 qP fun E hE=>?_
   simp [p121];refine BL (α:=Nat) 0 (fun _:Unit=>⟨AO [(0, .d (BF s)),(1,vi x),(4, .lp 0 0),(5,vi r)],lk [(0,[vi 0,vi 0])],1⟩) (fun _=>True) (fun i=>⟨AO [(0, .d (BF s)),(1,vi x),(4, .lp 0 0),(5,vi i)],lk [(0,[vi 0,vi 0])],1⟩) (fun i=>i<=r) (fun i=>r-i) 0 ?_ ?_ ?_ fun _ _=>?_
   . omega
   . exact WK hE (lk [(0,0)])
   . intro i hi
     have hIi:(i:Int)<s.length:=by omega
     obtain ⟨z,hz⟩:∃ z,s[i]?= some z:=⟨_,List.getElem?_eq_getElem (by omega)⟩
     have hw:=@wz i (by omega);by_cases h2:i<r
     . have hzx:=hin i z h2 hz
       simp [ATp,hz,hzx,hw];refine ⟨i+1,by omega,by omega,?_⟩;exact WK hE (lk [(0,0)])
     . have e:i=r:=by omega
       subst e;simp [ATp,hb,hbnx];exact WK hE (lk [(0,0)])
   simp [AA,hb,hit];apply RZ;simp [results121]
 . have hr1:1<=r:=Nat.not_lt.1 fun h0=>by
     have:r=0:=by omega
     subst this;rw [he0] at hb;cases hb;omega
   obtain ⟨q,hq⟩:∃ q,r=q+1:=⟨r-1,by omega⟩
   obtain ⟨a,ha⟩:∃ a,s[q]?= some a:=⟨_,List.getElem?_eq_getElem (by omega)⟩
   rw [TZ q s a b ha (by rw [<-hq];exact hb) (by omega) fun j z hj hz=>hin j z (by omega) hz];have hax:=hin q a (by omega) ha;have hs:=h.step q a b ha (by rw [<-hq];exact hb);have hal:=(h.lev a (List.mem_of_getElem? ha)).1;have hah:=h.at' a (List.mem_of_getElem? ha);have ht:=(Oq h (h.inS ha) (h.inS hb)).p;have hw:IntKind.wrap .i64 ((r:Int)-1)=(q:Int):=by rw [AD (by omega) (by omega)];omega
   have hw2:IntKind.wrap .i64 (x-a.h)=x-a.h:=AD (by omega) (by omega);have hQ:(q:Int)<s.length:=by omega
   have c2:=Tw s a.h b.h (by omega) (by intro e;rw [e] at hlen;simp at hlen) (by omega);have c3:=zk a.pl a.ph (x-a.h) (tmS (knT s) a.h b.h).1 (tmS (knT s) a.h b.h).2 (by omega) (by omega) (by omega) ht;refine CB func121 qP fun E hE=>?_
   simp [p121];refine BL (α:=Nat) 0 (fun _:Unit=>⟨AO [(0, .d (BF s)),(1,vi x),(4, .lp 0 0),(5,vi r)],lk [(0,[vi 0,vi 0])],1⟩) (fun _=>True) (fun i=>⟨AO [(0, .d (BF s)),(1,vi x),(4, .lp 0 0),(5,vi i)],lk [(0,[vi 0,vi 0])],1⟩) (fun i=>i<=r) (fun i=>r-i) 0 ?_ ?_ ?_ fun _ _=>?_
   . omega
   . exact WK hE (lk [(0,0)])
   . intro i hi
     have hIi:(i:Int)<s.length:=by omega
     obtain ⟨z,hz⟩:∃ z,s[i]?= some z:=⟨_,List.getElem?_eq_getElem (by omega)⟩
     have hw:=@wz i (by omega);by_cases h2:i<r
     . have hzx:=hin i z h2 hz
       simp [ATp,hz,hzx,hw];refine ⟨i+1,by omega,by omega,?_⟩;exact WK hE (lk [(0,0)])
     . have e:i=r:=by omega
       subst e;simp [ATp,hb,hbnx];exact WK hE (lk [(0,0)])
   simp [AA,ha,hb,hit,hw,hw2,inC,Nat.testBit];refine CLa c2 ?_;simp [inC,Nat.testBit];refine CLa c3 ?_;simp [AA,hb,inC,Nat.testBit];apply RZ;simp [results121,lc,lw]
end Go.Proofs.Tryz
