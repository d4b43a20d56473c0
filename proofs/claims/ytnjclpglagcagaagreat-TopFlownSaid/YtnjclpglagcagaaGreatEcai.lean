/- Own lemmas, used by the last text. Conditions: those that each theorem states. -/
import Derived.Test.YtnjclpglagcagaaGreatEcaf
import Derived.Test.YtnjclpglagcagaaGreatEcag
import Derived.Test.YtnjclpglagcagaaGreatEcah
import Derived.Test.YtnjclpglagcagaaGreatRows
set_option maxRecDepth 200000
set_option maxHeartbeats 8000000
namespace Go.Proofs.Tryz
open Go.Psl
open Go.Air
def bkI (p:Plt):Nat->Int × Int
 | 0=>(p.bt,0)
 | 1=>(p.bt+p.vh,p.va)
 | 2=>(p.bt+p.vh+p.lh,p.va+p.la)
 | _=>(p.bt+p.vh+p.lh+p.ph,p.va+p.la+p.pa)
theorem ah {H:Hp} {id:Nat} {p:Plt} (h:H id=some [vi p.ih,vi p.ia,vi p.vh,vi p.va,vi p.lh,vi p.la,vi p.ph,vi p.pa]):Bor H (.ls id 0 4 2) (.d (An (Li p))):=by
 rw [Bk];exact ⟨rfl,rfl,by simp [Li],_,h,rfl⟩
theorem K9 {p:Plt} (h:(Li p).all bkB=true):(0<=p.ih/\p.ih<=1000000000000)/\(0<=p.ia/\p.ia<=1000000000000)/\(0<=p.vh/\p.vh<=1000000000000)/\(0<=p.va/\p.va<=1000000000000)/\(0<=p.lh/\p.lh<=1000000000000)/\(0<=p.la/\p.la<=1000000000000)/\(0<=p.ph/\p.ph<=1000000000000)/\(0<=p.pa/\p.pa<=1000000000000):=by
 unfold Li at h;simp [rgB] at h;omega
theorem Vy (p:Plt) (hl:p.cs.length<=12) (hb:IR p=true) {E:Ent} (hE:∀ i,¬ E.stab i):∀ i:Nat,(i<=p.cs.length/\∀ c∈p.cs.take i,B5 c)->PW prog tys eqs E AM6
   (DP (fun st'=>∃ k,(k<=p.cs.length/\∀ c∈p.cs.take k,B5 c)/\p.cs.length-k<p.cs.length-i/\AI prog E st' ⟨AO [(1, .lp 0 0),(4, .lp 2 0),(48, .d (AX p.cs)),(49,vi p.cs.length),(50,vi k)],lk [(0,[.d (AX p.cs),vi p.bt,vi p.ih,vi p.ia,vi p.vh,vi p.va,vi p.lh,vi p.la,vi p.ph,vi p.pa]),(2,[vi ((bkI p 3).1+heS (p.cs.take k)),vi ((bkI p 3).2+aiS (p.cs.take k))])],3⟩)
     (exC prog E (dL tys f17 (vi (if Ar p then 0 else 32)) []) 2 (fun _:Unit=>⟨AO [(1, .lp 0 0),(4, .lp 2 0)],lk [(0,[.d (AX p.cs),vi p.bt,vi p.ih,vi p.ia,vi p.vh,vi p.va,vi p.lh,vi p.la,vi p.ph,vi p.pa]),(2,[vi ((bkI p 3).1+heS p.cs),vi ((bkI p 3).2+aiS p.cs)])],3⟩) (fun _=>∀ c∈p.cs,B5 c)))
   ⟨AO [(1, .lp 0 0),(4, .lp 2 0),(48, .d (AX p.cs)),(49,vi p.cs.length),(50,vi i)],lk [(0,[.d (AX p.cs),vi p.bt,vi p.ih,vi p.ia,vi p.vh,vi p.va,vi p.lh,vi p.la,vi p.ph,vi p.pa]),(2,[vi ((bkI p 3).1+heS (p.cs.take i)),vi ((bkI p 3).2+aiS (p.cs.take i))])],3⟩:=by
 rintro i ⟨hi,hcs⟩
 have hbk:=K9 (p:=p) (by unfold IR at hb;simp at hb;simpa using hb.2);have hbt:0<=p.bt/\p.bt<=10000000:=by unfold IR at hb;simp [rgB] at hb;omega
 by_cases h:i<p.cs.length
 . obtain ⟨c,hc⟩:=gE h
   have hz:=@wz i (by omega);have hI:(i:Int)<p.cs.length:=by omega
   have c1:=ASU c;cases hok:Je c
   . have hbad:Ar p=false:=by
       unfold Ar
       have:p.cs.all Je=false:=by
         rw [List.all_eq_false];exact ⟨c,List.mem_of_getElem? hc,by simp [hok]⟩
       simp [this]
     rw [hok] at c1;simp [AM6,hI,hc,AA];refine CLa c1 ?_;simp;apply RZ;simp [results17,hbad]
   . rw [hok] at c1
     have hcb:=Dm.1 hok;have hx:=hcb.he;have hy:=hcb.ai;have e1:=Yz hc;have e2:=tY hc;have b1:=Y1 hcs;have b2:=Y2 hcs;have hlen:((p.cs.take i).length:Int)<=12:=by simp;omega
     obtain ⟨X,hX⟩:∃ X,(bkI p 3).1+heS (p.cs.take i)=X:=⟨_,rfl⟩
     obtain ⟨Y,hY⟩:∃ Y,(bkI p 3).2+aiS (p.cs.take i)=Y:=⟨_,rfl⟩
     have q1:(bkI p 3).1=p.bt+p.vh+p.lh+p.ph:=rfl;have q2:(bkI p 3).2=p.va+p.la+p.pa:=rfl;have c2:=ACR X Y c.he c.ai (AD (by omega) (by omega)) (AD (by omega) (by omega));have z1:(bkI p 3).1+heS (p.cs.take (i+1))=X+c.he:=by omega
     have z2:(bkI p 3).2+aiS (p.cs.take (i+1))=Y+c.ai:=by omega
     rw [hX,hY];simp [AM6,hI,hc,AA];refine CLa c1 ?_;simp [AA];refine CLa c2 ?_;simp [AA,hz];refine ⟨i+1,⟨by omega,?_⟩,by omega,?_⟩
     . intro d hd
       rw [List.take_add_one,hc] at hd;simp only [List.mem_append,Option.toList_some,List.mem_singleton] at hd;rcases hd with hd | rfl
       . exact hcs d hd
       . exact hcb
     . rw [z1,z2]
       exact WK hE (lk [(0,0),(2,2)])
 . have e:i=p.cs.length:=by omega
   rw [e,List.take_length] at hcs;rw [e,List.take_length];simp [AM6];refine ⟨hcs,?_⟩;exact WK hE (lk [(0,0),(2,2)])
theorem ALn (p:Plt) (hl:p.cs.length<=1000000000):Ct prog 17 [Cy p (.d (AX p.cs))] (vi (if Ar p then 0 else 32)) []:=by
 have c1:=ALU 0 10000000 [p.bt] (by simp);have c2:=fn58 (Li p) 59 [] (fun x=>!bkB x) (by simp [Li]) fun x _=>fn59 x
 rw [Sa] at c2;by_cases hlen:p.cs.length<=12
 case neg=>
   have hI:(12:Int)<p.cs.length:=by omega
   have hbad:Ar p=false:=by simp [Ar,IR,hlen]
   refine CB func17 c17 fun E hE=>?_
   simp [p17,AA,AM,hI];apply RZ;simp [results17,hbad]
 have hI:¬ (12:Int)<p.cs.length:=by omega
 have hI2:(p.cs.length:Int)<=12:=by omega
 cases h1:rgB 0 10000000 [p.bt]
 . have hbad:Ar p=false:=by simp [Ar,IR,h1]
   rw [h1] at c1;refine CB func17 c17 fun E hE=>?_
   simp [p17,AA,AM,hI];refine CLb (c1) (by simp [AG]) ?_;simp;apply RZ;simp [results17,hbad]
 rw [h1] at c1;cases h2:(Li p).all bkB
 . have hbad:Ar p=false:=by simp [Ar,IR,h2]
   rw [h2] at c2;refine CB func17 c17 fun E hE=>?_
   simp [p17,AA,AM,hI];refine CLb (c1) (by simp [AG]) ?_;simp;refine CLb (c2) (by simp [ah]) ?_;simp;apply RZ;simp [results17,hbad]
 rw [h2] at c2;have hb:IR p=true:=by simp [IR,hlen,h1,h2]
 have hbk:=K9 h2;have hbt:0<=p.bt/\p.bt<=10000000:=by simp [rgB] at h1;omega
 have ww1:IntKind.wrap .i64 1=1:=by decide
 have ww2:IntKind.wrap .i64 2=2:=by decide
 have ww3:IntKind.wrap .i64 3=3:=by decide
 refine CB func17 c17 fun E hE=>?_
 simp [p17,AA,AM,hI];refine CLb (c1) (by simp [AG]) ?_;simp;refine CLb (c2) (by simp [ah]) ?_;simp [AA];refine BL (α:=Nat) 0 (fun _:Unit=>⟨AO [(1, .lp 0 0),(4, .lp 2 0)],lk [(0,[.d (AX p.cs),vi p.bt,vi p.ih,vi p.ia,vi p.vh,vi p.va,vi p.lh,vi p.la,vi p.ph,vi p.pa]),(2,[vi (bkI p 3).1,vi (bkI p 3).2])],3⟩) (fun _=>True) (fun k=>⟨AO [(1, .lp 0 0),(4, .lp 2 0),(37, .ls 1 2 3 2),(38,vi 3),(39,vi k)],lk [(0,[.d (AX p.cs),vi p.bt,vi p.ih,vi p.ia,vi p.vh,vi p.va,vi p.lh,vi p.la,vi p.ph,vi p.pa]),(1,[vi p.ih,vi p.ia,vi p.vh,vi p.va,vi p.lh,vi p.la,vi p.ph,vi p.pa]),(2,[vi (bkI p k).1,vi (bkI p k).2])],3⟩) (fun k=>k<=3) (fun k=>3-k) 0 ?_ ?_ ?_ fun _ _=>?_
 . omega
 . refine AI.mk hE (lk [(0,0),(1,10485760),(2,31457280)]) _ _ _ ?_ ?_ ?_ ?_ ?_<;>simp [bkI]
 . intro i hi
   match i,hi with
   | 0,_=>
     have d:=ACR p.bt 0 p.vh p.va (AD (by omega) (by omega)) (AD (by omega) (by omega));simp [AM5,AA,bkI];refine CLa d ?_;simp [AA];refine ⟨1,by omega,by omega,?_⟩;refine AI.mk hE (lk [(0,0),(1,1),(2,2)]) _ _ _ ?_ ?_ ?_ ?_ ?_<;>simp [ww1]
   | 1,_=>
     have d:=ACR (p.bt+p.vh) p.va p.lh p.la (AD (by omega) (by omega)) (AD (by omega) (by omega));simp [AM5,AA,bkI];refine CLa d ?_;simp [AA];refine ⟨2,by omega,by omega,?_⟩;refine AI.mk hE (lk [(0,0),(1,1),(2,2)]) _ _ _ ?_ ?_ ?_ ?_ ?_<;>simp [ww2]
   | 2,_=>
     have d:=ACR (p.bt+p.vh+p.lh) (p.va+p.la) p.ph p.pa (AD (by omega) (by omega)) (AD (by omega) (by omega));simp [AM5,AA,bkI];refine CLa d ?_;simp [AA];refine ⟨3,by omega,by omega,?_⟩;refine AI.mk hE (lk [(0,0),(1,1),(2,2)]) _ _ _ ?_ ?_ ?_ ?_ ?_<;>simp [ww3]
   | 3,_=>
     simp [AM5];exact WK hE (lk [(0,0),(2,2)])
   | i+4,hi=>omega
 . simp
   refine BL (α:=Nat) 2 (fun _:Unit=>⟨AO [(1, .lp 0 0),(4, .lp 2 0)],lk [(0,[.d (AX p.cs),vi p.bt,vi p.ih,vi p.ia,vi p.vh,vi p.va,vi p.lh,vi p.la,vi p.ph,vi p.pa]),(2,[vi ((bkI p 3).1+heS p.cs),vi ((bkI p 3).2+aiS p.cs)])],3⟩) (fun _=>∀ c∈p.cs,B5 c) (fun k=>⟨AO [(1, .lp 0 0),(4, .lp 2 0),(48, .d (AX p.cs)),(49,vi p.cs.length),(50,vi k)],lk [(0,[.d (AX p.cs),vi p.bt,vi p.ih,vi p.ia,vi p.vh,vi p.va,vi p.lh,vi p.la,vi p.ph,vi p.pa]),(2,[vi ((bkI p 3).1+heS (p.cs.take k)),vi ((bkI p 3).2+aiS (p.cs.take k))])],3⟩) (fun k=>k<=p.cs.length/\∀ c∈p.cs.take k,B5 c) (fun k=>p.cs.length-k) 0 ?_ ?_ (Vy p hlen hb hE) fun _ hcs=>?_
   . simp
   . refine AI.mk hE (lk [(0,0),(2,2)]) _ _ _ ?_ ?_ ?_ ?_ ?_<;>simp [heS,aiS]
   . have hall:p.cs.all Je=true:=by
       rw [List.all_eq_true];exact fun c hc=>Dm.2 (hcs c hc)
     have q1:(bkI p 3).1=p.bt+p.vh+p.lh+p.ph:=rfl;have q2:(bkI p 3).2=p.va+p.la+p.pa:=rfl;rw [q1,q2];have e:Ar p=decide (p.bt+p.vh+p.lh+p.ph+heS p.cs=p.ih/\p.va+p.la+p.pa+aiS p.cs=p.ia):=by simp [Ar,hb,hall]
     by_cases hq:p.bt+p.vh+p.lh+p.ph+heS p.cs=p.ih/\p.va+p.la+p.pa+aiS p.cs=p.ia
     . rw [decide_eq_true hq] at e
       simp [hq];apply RZ;simp [results17,e]
     . rw [decide_eq_false hq] at e
       have hd:(!decide (p.bt+p.vh+p.lh+p.ph+heS p.cs=p.ih)||!decide (p.va+p.la+p.pa+aiS p.cs=p.ia))=true:=by simp;omega
       simp [hd];apply RZ;simp [results17,e]
theorem AEG (l:List (Int × Int)) (g:FuncId) (ds:List D) (q:(Int × Int)->Bool) (hl:l.length<=1000000000) (hg:∀ p∈l,Ct prog g (vsp p.1 p.2::ds.map .d) (vb (q p)) []):Ct prog 131 [.d (An l), .d (.fn g ds)] (vb (l.all q)) []:=by
 refine CB func131 c131 fun E hE=>?_
 simp [p131];refine Al (α:=Nat) (fun i=>⟨AO [(1, .d (.fn g ds)),(7, .d (An l)),(8,vi l.length),(9,vi i)],lk [],0⟩) (fun i=>i<=l.length/\∀ j,j<i->(l[j]?).all q=true) (fun i=>l.length-i) 0 ?_ ?_ ?_
 . exact ⟨by omega,fun j hj=>by omega⟩
 . exact WK hE (lk [])
 . rintro i ⟨hi,hg3⟩
   have hz:=@wz i (by omega);by_cases h:i<l.length
   . have hI:(i:Int)<l.length:=by omega
     obtain ⟨p,hp⟩:=gE h;simp [ANk,hI,hp,AA];refine CLa (hg p (List.mem_of_getElem? hp)) ?_;cases hq:q p
     . have e:l.all q=false:=by rw [List.all_eq_false];exact ⟨p,List.mem_of_getElem? hp,by simp [hq]⟩
       simp;apply RZ;simp [results131,e]
     . simp [hz]
       refine ⟨i+1,⟨by omega,fun j hj=>?_⟩,by omega,?_⟩
       . by_cases e:j=i
         . subst e;rw [hp];simp [hq]
         . exact hg3 j (by omega)
       . exact WK hE (lk [])
   . have hI:¬ (i:Int)<l.length:=by omega
     have e:l.all q=true:=by
       rw [List.all_eq_true];intro x hx;obtain ⟨j,hj⟩:=List.getElem?_of_mem hx;have:=hg3 j (by have:=(List.getElem?_eq_some_iff.1 hj).1;omega);rw [hj] at this;simpa using this
     simp [ANk,hI];apply RZ;simp [results131,e]
theorem ASl (lo hi:Int) (s:Int × Int):Ct prog 132 [vsp s.1 s.2, .d (.ref [di lo]), .d (.ref [di hi])] (vb (spB lo hi s.1 s.2)) []:=by
 have c:=mM lo hi [s.1,s.2] (by simp);by_cases h:s.1<=s.2
 . have e:spB lo hi s.1 s.2=rgB lo hi [s.1,s.2]:=by unfold spB;simp [h]
   refine CB func132 AEI fun E hE=>?_
   simp [p132,AA,AM,h];refine CLb (c) (by simp [Ap]) ?_;simp;apply RZ;simp [results132,e]
 . have e:spB lo hi s.1 s.2=false:=by unfold spB;simp [h]
   refine CB func132 AEI fun E hE=>?_
   simp [p132,h];apply RZ;simp [results132,e]
theorem oz (lo hi:Int) (l:List (Int × Int)) (hl:l.length<=1000000):Ct prog 89 [vi lo,vi hi, .d (An l)] (vb (l.all fun s=>spB lo hi s.1 s.2)) []:=by
 have c:=AEG l 132 [.ref [di lo], .ref [di hi]] (fun s=>spB lo hi s.1 s.2) (by omega) fun s _=>ASl lo hi s
 refine CB func89 c89 fun E hE=>?_
 simp [p89];refine CLa c ?_;simp;apply RZ;simp [results89]
structure Sky where
 s:List Lev
 w:List Gal
abbrev Eu (k:Sky):V:= .agg [.d (BF k.s), .d (cT k.w)]
def BV (k:Sky):Bool:=decide ((D3 k.s).2.2=0)&&Dr k.w
theorem AFl (k:Sky) (h1:k.s.length<=1000000) (h2:k.w.length<=1000000):Ct prog 52 [Eu k] (vi (if BV k then 0 else 50)) []:=by
 have c1:=AQE k.s h1;have c2:=ASI k.w h2;have e:BV k=(decide ((D3 k.s).2.2=0)&&Dr k.w):=rfl;unfold gz at c1
 generalize (D3 k.s).2.2=er at*
 by_cases h:er=0
 . cases hw:Dr k.w
   . rw [hw] at c2 e
     refine CB func52 c52 fun E hE=>?_
     simp [p52];refine CLa c1 ?_;simp [h];refine CLa c2 ?_;simp;apply RZ;simp [results52,e]
   . rw [hw] at c2 e
     refine CB func52 c52 fun E hE=>?_
     simp [p52];refine CLa c1 ?_;simp [h];refine CLa c2 ?_;simp;apply RZ;simp [results52,e,h]
 . refine CB func52 c52 fun E hE=>?_
   simp [p52];refine CLa c1 ?_;simp [h];apply RZ;simp [results52,e,h]
structure Shp where
 xl:Int
 xh:Int
 yl:Int
 yh:Int
 hl:Int
 hh:Int
 fl:Int
 fh:Int
 wl:Int
 wh:Int
 bl:Int
 bh:Int
 dry:Int
 bal:Int
 drp:Int
 gas:Plt
abbrev Cl (s:Shp) (c:V):V:= .agg [vi s.xl,vi s.xh,vi s.yl,vi s.yh,vi s.hl,vi s.hh,vi s.fl,vi s.fh,vi s.wl,vi s.wh,vi s.bl,vi s.bh,vi s.dry,vi s.bal,vi s.drp,c,vi s.gas.bt,vi s.gas.ih,vi s.gas.ia,vi s.gas.vh,vi s.gas.va,vi s.gas.lh,vi s.gas.la,vi s.gas.ph,vi s.gas.pa]
def A6 (s:Shp):Bool:=(spB (-10000000) 10000000 s.xl s.xh&&spB (-10000000) 10000000 s.yl s.yh)&&spB (-500) 9000 s.hl s.hh&&(spB 0 1000000000 s.fl s.fh&&spB 0 1000000000 s.wl s.wh)&&spB 0 1000000000000 s.bl s.bh&&rgB 0 1000000000 [s.dry,s.bal]&&rgB 0 1000000000000 [s.drp]&&Ar s.gas
theorem AN {H:Hp} {id:Nat} {a b:Int} (h:H id=some [vi a,vi b]):Bor H (.ls id 0 1 2) (.d (An [(a,b)])):=by
 rw [Bk];exact ⟨rfl,rfl,by simp,_,h,rfl⟩
theorem fn38 (s:Shp) (hl:s.gas.cs.length<=1000000000):Ct prog 38 [Cl s (.d (AX s.gas.cs))] (vi (if A6 s then 0 else 52)) []:=by
 have c1:=oz (-10000000) 10000000 [(s.xl,s.xh),(s.yl,s.yh)] (by simp);have c2:=oz (-500) 9000 [(s.hl,s.hh)] (by simp);have c3:=oz 0 1000000000 [(s.fl,s.fh),(s.wl,s.wh)] (by simp);have c4:=oz 0 1000000000000 [(s.bl,s.bh)] (by simp);have c5:=mM 0 1000000000 [s.dry,s.bal] (by simp);have c6:=mM 0 1000000000000 [s.drp] (by simp);have c7:=ALn s.gas hl;simp only [List.all_cons,List.all_nil,Bool.and_true] at c1 c2 c3 c4;have e:A6 s=((spB (-10000000) 10000000 s.xl s.xh&&spB (-10000000) 10000000 s.yl s.yh)&&spB (-500) 9000 s.hl s.hh&&(spB 0 1000000000 s.fl s.fh&&spB 0 1000000000 s.wl s.wh)&&spB 0 1000000000000 s.bl s.bh&&rgB 0 1000000000 [s.dry,s.bal]&&rgB 0 1000000000000 [s.drp]&&Ar s.gas):=rfl
 generalize (spB (-10000000) 10000000 s.xl s.xh&&spB (-10000000) 10000000 s.yl s.yh)=b1 at*
 generalize spB (-500) 9000 s.hl s.hh=b2 at*
 generalize (spB 0 1000000000 s.fl s.fh&&spB 0 1000000000 s.wl s.wh)=b3 at*
 generalize spB 0 1000000000000 s.bl s.bh=b4 at*
 generalize rgB 0 1000000000 [s.dry,s.bal]=b5 at*
 generalize rgB 0 1000000000000 [s.drp]=b6 at*
 generalize Ar s.gas=b7 at*
 rw [e];cases b1
 . refine CB func38 c38 fun E hE=>?_
   simp [p38,AA,AM]
   repeat ((first | (refine CLt c1 ?_ ?_;focus (simp [AQ];done)) | (refine CLt c2 ?_ ?_;focus (simp [AG,Ap,AN,AQ];done)) | (refine CLt c3 ?_ ?_;focus (simp [AG,Ap,AN,AQ];done)) | (refine CLt c4 ?_ ?_;focus (simp [AG,Ap,AN,AQ];done)) | (refine CLt c5 ?_ ?_;focus (simp [AG,Ap,AN,AQ];done)) | (refine CLt c6 ?_ ?_;focus (simp [AG,Ap,AN,AQ];done)) | (refine CLt c7 ?_ ?_;focus (simp [AG,Ap,AN,AQ];done)));simp)
   apply RZ;simp [results38]
 cases b2
 . refine CB func38 c38 fun E hE=>?_
   simp [p38,AA,AM]
   repeat ((first | (refine CLt c1 ?_ ?_;focus (simp [AQ];done)) | (refine CLt c2 ?_ ?_;focus (simp [AN];done)) | (refine CLt c3 ?_ ?_;focus (simp [AG,Ap,AN,AQ];done)) | (refine CLt c4 ?_ ?_;focus (simp [AG,Ap,AN,AQ];done)) | (refine CLt c5 ?_ ?_;focus (simp [AG,Ap,AN,AQ];done)) | (refine CLt c6 ?_ ?_;focus (simp [AG,Ap,AN,AQ];done)) | (refine CLt c7 ?_ ?_;focus (simp [AG,Ap,AN,AQ];done)));simp [AA,AM])
   apply RZ;simp [results38]
 cases b3
 . refine CB func38 c38 fun E hE=>?_
   simp [p38,AA,AM]
   repeat ((first | (refine CLt c1 ?_ ?_;focus (simp [AQ];done)) | (refine CLt c2 ?_ ?_;focus (simp [AN];done)) | (refine CLt c3 ?_ ?_;focus (simp [AQ];done)) | (refine CLt c4 ?_ ?_;focus (simp [AG,Ap,AN,AQ];done)) | (refine CLt c5 ?_ ?_;focus (simp [AG,Ap,AN,AQ];done)) | (refine CLt c6 ?_ ?_;focus (simp [AG,Ap,AN,AQ];done)) | (refine CLt c7 ?_ ?_;focus (simp [AG,Ap,AN,AQ];done)));simp [AA,AM])
   apply RZ;simp [results38]
 cases b4
 . refine CB func38 c38 fun E hE=>?_
   simp [p38,AA,AM]
   repeat ((first | (refine CLt c1 ?_ ?_;focus (simp [AQ];done)) | (refine CLt c2 ?_ ?_;focus (simp [AN];done)) | (refine CLt c3 ?_ ?_;focus (simp [AQ];done)) | (refine CLt c4 ?_ ?_;focus (simp [AN];done)) | (refine CLt c5 ?_ ?_;focus (simp [AG,Ap,AN,AQ];done)) | (refine CLt c6 ?_ ?_;focus (simp [AG,Ap,AN,AQ];done)) | (refine CLt c7 ?_ ?_;focus (simp [AG,Ap,AN,AQ];done)));simp [AA,AM])
   apply RZ;simp [results38]
 cases b5
 . refine CB func38 c38 fun E hE=>?_
   simp [p38,AA,AM]
   repeat ((first | (refine CLt c1 ?_ ?_;focus (simp [AQ];done)) | (refine CLt c2 ?_ ?_;focus (simp [AN];done)) | (refine CLt c3 ?_ ?_;focus (simp [AQ];done)) | (refine CLt c4 ?_ ?_;focus (simp [AN];done)) | (refine CLt c5 ?_ ?_;focus (simp [Ap];done)) | (refine CLt c6 ?_ ?_;focus (simp [AG,Ap,AN,AQ];done)) | (refine CLt c7 ?_ ?_;focus (simp [AG,Ap,AN,AQ];done)));simp [AA,AM])
   apply RZ;simp [results38]
 cases b6
 . refine CB func38 c38 fun E hE=>?_
   simp [p38,AA,AM]
   repeat ((first | (refine CLt c1 ?_ ?_;focus (simp [AQ];done)) | (refine CLt c2 ?_ ?_;focus (simp [AN];done)) | (refine CLt c3 ?_ ?_;focus (simp [AQ];done)) | (refine CLt c4 ?_ ?_;focus (simp [AN];done)) | (refine CLt c5 ?_ ?_;focus (simp [Ap];done)) | (refine CLt c6 ?_ ?_;focus (simp [AG];done)) | (refine CLt c7 ?_ ?_;focus (simp [AG,Ap,AN,AQ];done)));simp [AA,AM])
   apply RZ;simp [results38]
 cases b7
 . refine CB func38 c38 fun E hE=>?_
   simp [p38,AA,AM]
   repeat ((first | (refine CLt c1 ?_ ?_;focus (simp [AQ];done)) | (refine CLt c2 ?_ ?_;focus (simp [AN];done)) | (refine CLt c3 ?_ ?_;focus (simp [AQ];done)) | (refine CLt c4 ?_ ?_;focus (simp [AN];done)) | (refine CLt c5 ?_ ?_;focus (simp [Ap];done)) | (refine CLt c6 ?_ ?_;focus (simp [AG];done)) | (refine CLt c7 ?_ ?_;focus (simp;done)));simp [AA,AM])
   apply RZ;simp [results38]
 . refine CB func38 c38 fun E hE=>?_
   simp [p38,AA,AM]
   repeat ((first | (refine CLt c1 ?_ ?_;focus (simp [AQ];done)) | (refine CLt c2 ?_ ?_;focus (simp [AN];done)) | (refine CLt c3 ?_ ?_;focus (simp [AQ];done)) | (refine CLt c4 ?_ ?_;focus (simp [AN];done)) | (refine CLt c5 ?_ ?_;focus (simp [Ap];done)) | (refine CLt c6 ?_ ?_;focus (simp [AG];done)) | (refine CLt c7 ?_ ?_;focus (simp;done)));simp [AA,AM])
   apply RZ;simp [results38]
theorem yN (a b c d:Int) (h: -100000<=a/\a<=100000) (h1: -100000<=b/\b<=100000) (h2: -100000<=c/\c<=100000) (h3: -100000<=d/\d<=100000):Ct prog 141 [vsp a b,vsp c d] (vsp (a+c) (b+d)) []:=by
 have w1:IntKind.wrap .i64 (a+c)=a+c:=AD (by omega) (by omega);have w2:IntKind.wrap .i64 (b+d)=b+d:=AD (by omega) (by omega);refine CB func141 c141 fun E hE=>?_
 simp [p141,AA,w1,w2];apply RZ;simp [results141]
abbrev putV (c:Cel) (a:Atm):V:= .agg [vi c.rm,vi c.he,vi c.ai,vi c.wl,vi c.wh,vi c.lk,vi c.ow,vi a.pl,vi a.ph,vi a.tl,vi a.th,vi (am c),vi (a.tl+c.wl),vi (a.th+c.wh)]
theorem zM (c:Cel) (a:Atm) (hc:B5 c) (ha:Fx a):Ct prog 102 [Ky c,Ox a] (.tup [putV c a,vi 0]) []:=by
 have c1:=ASU c;have c2:=tu a;rw [Dm.2 hc] at c1;rw [VN.2 ha] at c2;have h1:=hc.he;have h2:=hc.ai;have h3:=hc.w;have h4:=ha.t;have c3:=yN a.tl a.th c.wl c.wh (by omega) (by omega) (by omega) (by omega);have w:IntKind.wrap .i64 (c.he+c.ai)=am c:=by unfold am;exact AD (by omega) (by omega)
 refine CB func102 c102 fun E hE=>?_
 simp [p102];refine CLa c1 ?_;simp [w,inC,Nat.testBit];refine CLa c3 ?_;simp [AA,inC,Nat.testBit];refine CLa c2 ?_;simp [AA];apply RZ;simp [results102]
theorem mO {c:Cel} {a:Atm} (hc:B5 c) (ha:Fx a):(0<=am c*(a.th+c.wh)/\am c*(a.th+c.wh)<=1000000000000)/\(0<=am c*(a.tl+c.wl)/\am c*(a.tl+c.wl)<=1000000000000)/\(0<=c.rm*a.pl/\c.rm*a.pl<=1000000000000)/\0<=c.rm*a.ph/\c.rm*a.ph<=1000000000000:=by
 have h1:=ig hc;have h2:=hc.w;have h3:=ha.t;have h4:=ha.p;have h5:=hc.rm;have m1:=sD (x:=am c) (y:=a.th+c.wh) (X:=20000000) (Y:=5000) (by omega) (by omega);have m2:=sD (x:=am c) (y:=a.tl+c.wl) (X:=20000000) (Y:=5000) (by omega) (by omega);have m3:=sD (x:=c.rm) (y:=a.pl) (X:=10000000) (Y:=12000) (by omega) (by omega);have m4:=sD (x:=c.rm) (y:=a.ph) (X:=10000000) (Y:=12000) (by omega) (by omega);have p1:0<=am c*(a.th+c.wh):=Int.mul_nonneg h1.1 (by omega);have p2:0<=am c*(a.tl+c.wl):=Int.mul_nonneg h1.1 (by omega);have p3:0<=c.rm*a.pl:=Int.mul_nonneg (by omega) (by omega);have p4:0<=c.rm*a.ph:=Int.mul_nonneg (by omega) (by omega);omega
abbrev vu8 (n:Int):V:= .d (.lit (.int .u8 n))
theorem TI (c:Cel) (a:Atm) (hc:B5 c) (ha:Fx a):Ct prog 115 [Ky c,Ox a] (.tup [vu8 (Lh c a),vi 0]) []:=by
 have c1:=zM c a hc ha;have b:=mO hc ha;have w1:IntKind.wrap .i64 (am c*(a.th+c.wh))=am c*(a.th+c.wh):=AD (by omega) (by omega);have w2:IntKind.wrap .i64 (am c*(a.tl+c.wl))=am c*(a.tl+c.wl):=AD (by omega) (by omega);have w3:IntKind.wrap .i64 (c.rm*a.pl)=c.rm*a.pl:=AD (by omega) (by omega);have w4:IntKind.wrap .i64 (c.rm*a.ph)=c.rm*a.ph:=AD (by omega) (by omega);by_cases h1:am c*(a.th+c.wh)<=c.rm*a.pl
 . refine CB func115 qO fun E hE=>?_
   simp [p115];refine CLa c1 ?_;simp [AA,w1,w3,h1];apply RZ;simp [results115,Lh,h1]
 . by_cases h2:c.rm*a.ph<am c*(a.tl+c.wl)
   . refine CB func115 qO fun E hE=>?_
     simp [p115];refine CLa c1 ?_;simp [AA,w1,w2,w3,w4,h1,h2];apply RZ;simp [results115,Lh,h1,h2]
   . refine CB func115 qO fun E hE=>?_
     simp [p115];refine CLa c1 ?_;simp [AA,w1,w2,w3,w4,h1,h2];apply RZ;simp [results115,Lh,h1,h2]
abbrev prL (r:Int × Int):List D:=[di r.1,di r.2]
def Bj (c:Cel) (w:Int) (t:Int):Int × Int:=(29*am c*w,t)
theorem KP {c:Cel} (hc:B5 c) {w:Int} (hw: -300<=w/\w<=300):(-1000000000<=29*am c/\29*am c<=1000000000)/\ -1000000000000<=29*am c*w/\29*am c*w<=1000000000000:=by
 have h1:=ig hc;have:=sD (x:=29*am c) (y:=w) (X:=1000000000) (Y:=300) (by omega) (by omega);omega
def ET (c:Cel) (a:Atm) (w:Int) (B:List (Int × Int)) (k:Nat):List (Int × Int):=B++([a.tl,a.th].take k).map (Bj c w)
theorem UI {c:Cel} {a:Atm} {w t:Int} {B:List (Int × Int)} {j:Nat} (h:[a.tl,a.th][j]?= some t):ET c a w B (j+1)=ET c a w B j++[Bj c w t]:=by
 unfold ET;rw [List.take_add_one,h];simp
theorem hfp:∀ r:Int × Int,(prL r).length=2:=fun _=>rfl
theorem dQ (c:Cel) (a:Atm) (hc:B5 c) (w:Int) (hw: -300<=w/\w<=300) (B:List (Int × Int)) (hB:B.length<=100) (i:Nat) {E:Ent} (hE:∀ i,¬ E.stab i) {Q:Av->St->Prop}:∀ j:Nat,j<=2->PW prog tys eqs E bI
   (DP (fun st'=>∃ k,k<=2/\2-k<2-j/\AI prog E st' ⟨AO [(2, .lp 0 0),(3, .lp 1 0),(4, .lp 2 0),(6, .lp 3 0),(31, .ls 4 0 2 1),(32,vi 2),(33,vi i),(10,vi w),(43, .ls 5 0 2 1),(44,vi 2),(45,vi k),(8,hdF 2 (ET c a w B k) 6)],lk ([(0,[vi c.rm,vi c.he,vi c.ai,vi c.wl,vi c.wh,vi c.lk,vi c.ow]),(1,[vi a.pl,vi a.ph,vi a.tl,vi a.th]),(2,[vi 0,vi 0]),(3,[vi c.rm,vi c.he,vi c.ai,vi c.wl,vi c.wh,vi c.lk,vi c.ow,vi a.pl,vi a.ph,vi a.tl,vi a.th,vi (am c),vi (a.tl+c.wl),vi (a.th+c.wh)]),(4,[vi c.wl,vi c.wh]),(5,[vi a.tl,vi a.th])]++ouF prL (ET c a w B k) 6),7⟩)
     (exC prog E Q 2 (fun _:Unit=>⟨AO [(2, .lp 0 0),(3, .lp 1 0),(4, .lp 2 0),(6, .lp 3 0),(31, .ls 4 0 2 1),(32,vi 2),(33,vi i),(8,hdF 2 (B++[Bj c w a.tl,Bj c w a.th]) 6)],lk ([(0,[vi c.rm,vi c.he,vi c.ai,vi c.wl,vi c.wh,vi c.lk,vi c.ow]),(1,[vi a.pl,vi a.ph,vi a.tl,vi a.th]),(2,[vi 0,vi 0]),(3,[vi c.rm,vi c.he,vi c.ai,vi c.wl,vi c.wh,vi c.lk,vi c.ow,vi a.pl,vi a.ph,vi a.tl,vi a.th,vi (am c),vi (a.tl+c.wl),vi (a.th+c.wh)]),(4,[vi c.wl,vi c.wh])]++ouF prL (B++[Bj c w a.tl,Bj c w a.th]) 6),7⟩) (fun _=>True)))
   ⟨AO [(2, .lp 0 0),(3, .lp 1 0),(4, .lp 2 0),(6, .lp 3 0),(31, .ls 4 0 2 1),(32,vi 2),(33,vi i),(10,vi w),(43, .ls 5 0 2 1),(44,vi 2),(45,vi j),(8,hdF 2 (ET c a w B j) 6)],lk ([(0,[vi c.rm,vi c.he,vi c.ai,vi c.wl,vi c.wh,vi c.lk,vi c.ow]),(1,[vi a.pl,vi a.ph,vi a.tl,vi a.th]),(2,[vi 0,vi 0]),(3,[vi c.rm,vi c.he,vi c.ai,vi c.wl,vi c.wh,vi c.lk,vi c.ow,vi a.pl,vi a.ph,vi a.tl,vi a.th,vi (am c),vi (a.tl+c.wl),vi (a.th+c.wh)]),(4,[vi c.wl,vi c.wh]),(5,[vi a.tl,vi a.th])]++ouF prL (ET c a w B j) 6),7⟩:=by
 have hb:=KP hc hw;have w1:IntKind.wrap .i64 (29*am c)=29*am c:=AD (by omega) (by omega);have w2:IntKind.wrap .i64 (29*am c*w)=29*am c*w:=AD (by omega) (by omega)
 have step:∀ (j:Nat) (t:Int) (O:List (Int × Int)),O.length<=200->[a.tl,a.th][j]?= some t->ET c a w B j=O->ET c a w B (j+1)=O++[Bj c w t]->PW prog tys eqs E bI
   (DP (fun st'=>∃ k,k<=2/\2-k<2-j/\AI prog E st' ⟨AO [(2, .lp 0 0),(3, .lp 1 0),(4, .lp 2 0),(6, .lp 3 0),(31, .ls 4 0 2 1),(32,vi 2),(33,vi i),(10,vi w),(43, .ls 5 0 2 1),(44,vi 2),(45,vi k),(8,hdF 2 (ET c a w B k) 6)],lk ([(0,[vi c.rm,vi c.he,vi c.ai,vi c.wl,vi c.wh,vi c.lk,vi c.ow]),(1,[vi a.pl,vi a.ph,vi a.tl,vi a.th]),(2,[vi 0,vi 0]),(3,[vi c.rm,vi c.he,vi c.ai,vi c.wl,vi c.wh,vi c.lk,vi c.ow,vi a.pl,vi a.ph,vi a.tl,vi a.th,vi (am c),vi (a.tl+c.wl),vi (a.th+c.wh)]),(4,[vi c.wl,vi c.wh]),(5,[vi a.tl,vi a.th])]++ouF prL (ET c a w B k) 6),7⟩)
     (exC prog E Q 2 (fun _:Unit=>⟨AO [(2, .lp 0 0),(3, .lp 1 0),(4, .lp 2 0),(6, .lp 3 0),(31, .ls 4 0 2 1),(32,vi 2),(33,vi i),(8,hdF 2 (B++[Bj c w a.tl,Bj c w a.th]) 6)],lk ([(0,[vi c.rm,vi c.he,vi c.ai,vi c.wl,vi c.wh,vi c.lk,vi c.ow]),(1,[vi a.pl,vi a.ph,vi a.tl,vi a.th]),(2,[vi 0,vi 0]),(3,[vi c.rm,vi c.he,vi c.ai,vi c.wl,vi c.wh,vi c.lk,vi c.ow,vi a.pl,vi a.ph,vi a.tl,vi a.th,vi (am c),vi (a.tl+c.wl),vi (a.th+c.wh)]),(4,[vi c.wl,vi c.wh])]++ouF prL (B++[Bj c w a.tl,Bj c w a.th]) 6),7⟩) (fun _=>True)))
   ⟨AO [(2, .lp 0 0),(3, .lp 1 0),(4, .lp 2 0),(6, .lp 3 0),(31, .ls 4 0 2 1),(32,vi 2),(33,vi i),(10,vi w),(43, .ls 5 0 2 1),(44,vi 2),(45,vi j),(8,hdF 2 O 6)],lk ([(0,[vi c.rm,vi c.he,vi c.ai,vi c.wl,vi c.wh,vi c.lk,vi c.ow]),(1,[vi a.pl,vi a.ph,vi a.tl,vi a.th]),(2,[vi 0,vi 0]),(3,[vi c.rm,vi c.he,vi c.ai,vi c.wl,vi c.wh,vi c.lk,vi c.ow,vi a.pl,vi a.ph,vi a.tl,vi a.th,vi (am c),vi (a.tl+c.wl),vi (a.th+c.wh)]),(4,[vi c.wl,vi c.wh]),(5,[vi a.tl,vi a.th])]++ouF prL O 6),7⟩:=by
   intro j t O hO ht _ hnx;have hj:j<2:=by have:=(List.getElem?_eq_some_iff.1 ht).1;simpa using this
   have hz:=@wz j (by omega);have hI:(j:Int)<2:=by omega
   have hj1:j<=1:=by omega
   have hcel:([vi a.tl,vi a.th]:List V)[j]?= some (vi t):=by
     have:([vi a.tl,vi a.th]:List V)=[a.tl,a.th].map vi:=rfl;rw [this,List.getElem?_map,ht];rfl
   have hcel2:([vi a.tl,vi a.th]:List V).drop j=vi t::([vi a.tl,vi a.th]:List V).drop (j+1):=by
     rw [List.drop_eq_getElem?_toList_append,hcel];rfl
   have hk:(2:Nat)-(j+1)<2-j:=by omega
   by_cases hne:O=[]
   . subst hne
     rw [Aq,Au];simp [bI,hI,hj1,hcel2,AA,AM,w1,w2,hz];refine ⟨j+1,by omega,hk,?_⟩;rw [hnx,Ak (by simp),AZ (by simp)];refine AI.mk hE (lk [(0,0),(1,1),(2,2),(3,3),(4,4),(5,5),(6,13631495)]) _ _ _ ?_ ?_ ?_ ?_ ?_<;>simp [AH,Bj]
   . have hsl:=Aw hfp O
     have hwh:=E9 hfp O;have n1:(O.length+1)*16<=140737488355328:=by omega
     have n2:O.length+1<=9223372036854775807:=by omega
     rw [Ak hne,AZ hne];simp [bI,hI,hj1,hcel2,AA,AM,w1,w2,hz,hsl,hwh,n1,n2];refine ⟨j+1,by omega,hk,?_⟩;rw [hnx,Ak (by simp),AZ (by simp),IV];refine AI.mk hE (lk [(0,0),(1,1),(2,2),(3,3),(4,4),(5,5),(6,13631495)]) _ _ _ ?_ ?_ ?_ ?_ ?_<;>simp [Bj]
 intro j hj;rcases Nat.lt_or_ge j 2 with h2 | h2
 . obtain ⟨t,ht⟩:∃ t,[a.tl,a.th][j]?= some t:=⟨_,List.getElem?_eq_getElem (by simpa using h2)⟩
   exact step j t (ET c a w B j) (by unfold ET;simp;omega) ht rfl (UI ht)
 . have e:j=2:=by omega
   subst e;have e2:ET c a w B 2=B++[Bj c w a.tl,Bj c w a.th]:=rfl;rw [e2,Ak (by simp),AZ (by simp)];simp [bI];exact WK hE (lk [(0,0),(1,1),(2,2),(3,3),(4,4),(6,6)])
def CG (c:Cel) (a:Atm) (i:Nat):List (Int × Int):=([c.wl,c.wh].take i).flatMap fun w=>[Bj c w a.tl,Bj c w a.th]
theorem UJ {c:Cel} {a:Atm} {w:Int} {i:Nat} (h:[c.wl,c.wh][i]?= some w):CG c a (i+1)=CG c a i++[Bj c w a.tl,Bj c w a.th]:=by
 unfold CG;rw [List.take_add_one,h];simp
theorem XH {c:Cel} {a:Atm} (i:Nat):(CG c a i).length<=4:=by
 match i with
 | 0=>simp [CG]
 | 1=>simp [CG]
 | i+2=>simp [CG]
theorem XI (c:Cel) (a:Atm) (hc:B5 c) {E:Ent} (hE:∀ i,¬ E.stab i) {Q:Av->St->Prop}:∀ i:Nat,i<=2->PW prog tys eqs E AMZ
   (DP (fun st'=>∃ k,k<=2/\2-k<2-i/\AI prog E st' ⟨AO [(2, .lp 0 0),(3, .lp 1 0),(4, .lp 2 0),(6, .lp 3 0),(31, .ls 4 0 2 1),(32,vi 2),(33,vi k),(8,hdF 2 (CG c a k) 6)],lk ([(0,[vi c.rm,vi c.he,vi c.ai,vi c.wl,vi c.wh,vi c.lk,vi c.ow]),(1,[vi a.pl,vi a.ph,vi a.tl,vi a.th]),(2,[vi 0,vi 0]),(3,[vi c.rm,vi c.he,vi c.ai,vi c.wl,vi c.wh,vi c.lk,vi c.ow,vi a.pl,vi a.ph,vi a.tl,vi a.th,vi (am c),vi (a.tl+c.wl),vi (a.th+c.wh)]),(4,[vi c.wl,vi c.wh])]++ouF prL (CG c a k) 6),7⟩)
     (exC prog E Q 0 (fun _:Unit=>⟨AO [(2, .lp 0 0),(3, .lp 1 0),(4, .lp 2 0),(8, .ls 3 0 4 2)],lk [(0,[vi c.rm,vi c.he,vi c.ai,vi c.wl,vi c.wh,vi c.lk,vi c.ow]),(1,[vi a.pl,vi a.ph,vi a.tl,vi a.th]),(2,[vi 0,vi 0]),(3,AH prL (CG c a 2))],4⟩) (fun _=>True)))
   ⟨AO [(2, .lp 0 0),(3, .lp 1 0),(4, .lp 2 0),(6, .lp 3 0),(31, .ls 4 0 2 1),(32,vi 2),(33,vi i),(8,hdF 2 (CG c a i) 6)],lk ([(0,[vi c.rm,vi c.he,vi c.ai,vi c.wl,vi c.wh,vi c.lk,vi c.ow]),(1,[vi a.pl,vi a.ph,vi a.tl,vi a.th]),(2,[vi 0,vi 0]),(3,[vi c.rm,vi c.he,vi c.ai,vi c.wl,vi c.wh,vi c.lk,vi c.ow,vi a.pl,vi a.ph,vi a.tl,vi a.th,vi (am c),vi (a.tl+c.wl),vi (a.th+c.wh)]),(4,[vi c.wl,vi c.wh])]++ouF prL (CG c a i) 6),7⟩:=by
 intro i hi;rcases Nat.lt_or_ge i 2 with h2 | h2
 . obtain ⟨w,hw⟩:∃ w,[c.wl,c.wh][i]?= some w:=⟨_,List.getElem?_eq_getElem (by simpa using h2)⟩
   have hwm:=List.mem_of_getElem? hw
   have hwb: -300<=w/\w<=300:=by
     have:=hc.w;simp at hwm;rcases hwm with rfl | rfl<;>omega
   have hz:=@wz i (by omega);have hI:(i:Int)<2:=by omega
   have hj1:i<=1:=by omega
   have hcel:([vi c.wl,vi c.wh]:List V)[i]?= some (vi w):=by
     have:([vi c.wl,vi c.wh]:List V)=[c.wl,c.wh].map vi:=rfl;rw [this,List.getElem?_map,hw];rfl
   have hcel2:([vi c.wl,vi c.wh]:List V).drop i=vi w::([vi c.wl,vi c.wh]:List V).drop (i+1):=by
     rw [List.drop_eq_getElem?_toList_append,hcel];rfl
   have hk:(2:Nat)-(i+1)<2-i:=by omega
   have hnx:=UJ (a:=a) hw;have hB:=XH (c:=c) (a:=a) i;obtain ⟨B,hBe⟩:∃ B,CG c a i=B:=⟨_,rfl⟩
   rw [hBe] at hnx hB ⊢;have hin:=fun (Q:Av->St->Prop)=>dQ (Q:=Q) c a hc w hwb B (by omega) i hE
   by_cases hne:B=[]
   . subst hne
     rw [Aq,Au];simp [AMZ,hI,hj1,hcel2,AA,AM];refine BL (α:=Nat) 2 (fun _:Unit=>⟨AO [(2, .lp 0 0),(3, .lp 1 0),(4, .lp 2 0),(6, .lp 3 0),(31, .ls 4 0 2 1),(32,vi 2),(33,vi i),(8,hdF 2 ([]++[Bj c w a.tl,Bj c w a.th]) 6)],lk ([(0,[vi c.rm,vi c.he,vi c.ai,vi c.wl,vi c.wh,vi c.lk,vi c.ow]),(1,[vi a.pl,vi a.ph,vi a.tl,vi a.th]),(2,[vi 0,vi 0]),(3,[vi c.rm,vi c.he,vi c.ai,vi c.wl,vi c.wh,vi c.lk,vi c.ow,vi a.pl,vi a.ph,vi a.tl,vi a.th,vi (am c),vi (a.tl+c.wl),vi (a.th+c.wh)]),(4,[vi c.wl,vi c.wh])]++ouF prL ([]++[Bj c w a.tl,Bj c w a.th]) 6),7⟩) (fun _=>True) (fun k=>⟨AO [(2, .lp 0 0),(3, .lp 1 0),(4, .lp 2 0),(6, .lp 3 0),(31, .ls 4 0 2 1),(32,vi 2),(33,vi i),(10,vi w),(43, .ls 5 0 2 1),(44,vi 2),(45,vi k),(8,hdF 2 (ET c a w [] k) 6)],lk ([(0,[vi c.rm,vi c.he,vi c.ai,vi c.wl,vi c.wh,vi c.lk,vi c.ow]),(1,[vi a.pl,vi a.ph,vi a.tl,vi a.th]),(2,[vi 0,vi 0]),(3,[vi c.rm,vi c.he,vi c.ai,vi c.wl,vi c.wh,vi c.lk,vi c.ow,vi a.pl,vi a.ph,vi a.tl,vi a.th,vi (am c),vi (a.tl+c.wl),vi (a.th+c.wh)]),(4,[vi c.wl,vi c.wh]),(5,[vi a.tl,vi a.th])]++ouF prL (ET c a w [] k) 6),7⟩) (fun k=>k<=2) (fun k=>2-k) 0 ?_ ?_ (hin _) fun _ _=>?_
     . omega
     . rw [show ET c a w [] 0=[] from rfl,Aq,Au]
       exact WK hE (lk [(0,0),(1,1),(2,2),(3,3),(4,4),(5,10485767)])
     . rw [Ak (by simp),AZ (by simp)]
       simp [hz];refine ⟨i+1,by omega,hk,?_⟩;rw [hnx,Ak (by simp),AZ (by simp)];exact WK hE (lk [(0,0),(1,1),(2,2),(3,3),(4,4),(6,6)])
   . rw [Ak hne,AZ hne]
     simp [AMZ,hI,hj1,hcel2,AA,AM];refine BL (α:=Nat) 2 (fun _:Unit=>⟨AO [(2, .lp 0 0),(3, .lp 1 0),(4, .lp 2 0),(6, .lp 3 0),(31, .ls 4 0 2 1),(32,vi 2),(33,vi i),(8,hdF 2 (B++[Bj c w a.tl,Bj c w a.th]) 6)],lk ([(0,[vi c.rm,vi c.he,vi c.ai,vi c.wl,vi c.wh,vi c.lk,vi c.ow]),(1,[vi a.pl,vi a.ph,vi a.tl,vi a.th]),(2,[vi 0,vi 0]),(3,[vi c.rm,vi c.he,vi c.ai,vi c.wl,vi c.wh,vi c.lk,vi c.ow,vi a.pl,vi a.ph,vi a.tl,vi a.th,vi (am c),vi (a.tl+c.wl),vi (a.th+c.wh)]),(4,[vi c.wl,vi c.wh])]++ouF prL (B++[Bj c w a.tl,Bj c w a.th]) 6),7⟩) (fun _=>True) (fun k=>⟨AO [(2, .lp 0 0),(3, .lp 1 0),(4, .lp 2 0),(6, .lp 3 0),(31, .ls 4 0 2 1),(32,vi 2),(33,vi i),(10,vi w),(43, .ls 5 0 2 1),(44,vi 2),(45,vi k),(8,hdF 2 (ET c a w B k) 6)],lk ([(0,[vi c.rm,vi c.he,vi c.ai,vi c.wl,vi c.wh,vi c.lk,vi c.ow]),(1,[vi a.pl,vi a.ph,vi a.tl,vi a.th]),(2,[vi 0,vi 0]),(3,[vi c.rm,vi c.he,vi c.ai,vi c.wl,vi c.wh,vi c.lk,vi c.ow,vi a.pl,vi a.ph,vi a.tl,vi a.th,vi (am c),vi (a.tl+c.wl),vi (a.th+c.wh)]),(4,[vi c.wl,vi c.wh]),(5,[vi a.tl,vi a.th])]++ouF prL (ET c a w B k) 6),7⟩) (fun k=>k<=2) (fun k=>2-k) 0 ?_ ?_ (hin _) fun _ _=>?_
     . omega
     . rw [show ET c a w B 0=B by simp [ET],Ak hne,AZ hne]
       exact WK hE (lk [(0,0),(1,1),(2,2),(3,3),(4,4),(5,10485767),(6,6)])
     . rw [Ak (by simp),AZ (by simp)]
       simp [hz];refine ⟨i+1,by omega,hk,?_⟩;rw [hnx,Ak (by simp),AZ (by simp)];exact WK hE (lk [(0,0),(1,1),(2,2),(3,3),(4,4),(6,6)])
 . have e:i=2:=by omega
   subst e;have e2:(CG c a 2).length=4:=rfl;rw [Ak (by simp [CG]),AZ (by simp [CG]),e2];simp [AMZ];exact WK hE (lk [(0,0),(1,1),(2,2),(3,6)])
theorem O7 {c:Cel} {a:Atm} (hc:B5 c) (ha:Fx a):Ed (Bj c c.wl a.tl) [Bj c c.wl a.th,Bj c c.wh a.tl,Bj c c.wh a.th]=((Bx c a).1-25*c.he,(Bx c a).2-25*c.he):=by
 obtain ⟨h1,h2⟩:=VO hc ha;unfold Ed ALK rSp Bj Bx;simp only [List.map_cons,List.map_nil,List.foldl_cons,List.foldl_nil,Xa];rw [h1,h2]
 ext<;>simp only<;>omega
theorem YZ (c:Cel) (a:Atm) (hc:B5 c) (ha:Fx a):Ct prog 175 [Ky c,Ox a] (.tup [vsp (Bx c a).1 (Bx c a).2,vi 0]) []:=by
 have c1:=zM c a hc ha;have t:=ha.t;have wb:=hc.w;have k1:=(KP hc (w:=c.wl) (by omega)).2;have k2:=(KP hc (w:=c.wh) (by omega)).2
 have okr:∀ w t',(w=c.wl\/w=c.wh)->(t'=a.tl\/t'=a.th)->okR (Bj c w t'):=fun w t' h1 h2=>by
   unfold okR Bj;rcases h1 with rfl | rfl<;>rcases h2 with rfl | rfl<;>simp only<;>omega
 have c2:=qw (Bj c c.wl a.tl) [Bj c c.wl a.th,Bj c c.wh a.tl,Bj c c.wh a.th] (by simp) (okr _ _ (Or.inl rfl) (Or.inl rfl)) (fun q hq=>by
   simp only [List.mem_cons,List.not_mem_nil,or_false] at hq;rcases hq with rfl | rfl | rfl
   . exact okr _ _ (Or.inl rfl) (Or.inr rfl)
   . exact okr _ _ (Or.inr rfl) (Or.inl rfl)
   . exact okr _ _ (Or.inr rfl) (Or.inr rfl))
 rw [O7 hc ha] at c2;have e4:CG c a 2=[Bj c c.wl a.tl,Bj c c.wl a.th,Bj c c.wh a.tl,Bj c c.wh a.th]:=rfl
 have bnd: -10000000000000<=(Bx c a).1-25*c.he/\(Bx c a).1-25*c.he<=10000000000000/\ -10000000000000<=(Bx c a).2-25*c.he/\(Bx c a).2-25*c.he<=10000000000000:=by
   have q:∀ x t',(-1000000000000<=x/\x<=1000000000000)->(0<t')-> -1000000000000<=fl x t'/\fl x t'<=1000000000000:=fun x t' hx ht=>by
     unfold fl;refine ⟨?_,?_⟩
     . rw [Int.le_ediv_iff_mul_le ht]
       have:(-1000000000000:Int)*t'<= -1000000000000*1:=Int.mul_le_mul_of_nonpos_left (by omega) (by omega);omega
     . have h3:x/t' < 1000000000001:=by
         rw [Int.ediv_lt_iff_lt_mul ht];have:(1000000000001:Int)*1<=1000000000001*t':=Int.mul_le_mul_of_nonneg_left (by omega) (by omega);omega
       omega
   have q1:=q _ a.tl k1 (by omega);have q2:=q _ a.th k1 (by omega);have q3:=q (-(29*am c*c.wh)) a.tl (by omega) (by omega);have q4:=q (-(29*am c*c.wh)) a.th (by omega) (by omega);unfold Bx ce;unfold fl at q1 q2 q3 q4 ⊢;simp only;omega
 have he:=hc.he;have w0:IntKind.wrap .i64 (25*c.he)=25*c.he:=AD (by omega) (by omega);have w1:IntKind.wrap .i64 (Bx c a).1=(Bx c a).1:=AD (by omega) (by omega);have w2:IntKind.wrap .i64 (Bx c a).2=(Bx c a).2:=AD (by omega) (by omega);have hb4:∀ H:Hp,H 3=some (AH prL (CG c a 2))->Bor H (.ls 3 0 4 2) (.d (An [Bj c c.wl a.tl,Bj c c.wl a.th,Bj c c.wh a.tl,Bj c c.wh a.th])):=fun H h=>B0 (f:=prL) hfp (l:=CG c a 2) h
 refine CB func175 c175 fun E hE=>?_
 simp [p175];refine CLa c1 ?_;simp [AA,AM];refine BL (α:=Nat) 0 (fun _:Unit=>⟨AO [(2, .lp 0 0),(3, .lp 1 0),(4, .lp 2 0),(8, .ls 3 0 4 2)],lk [(0,[vi c.rm,vi c.he,vi c.ai,vi c.wl,vi c.wh,vi c.lk,vi c.ow]),(1,[vi a.pl,vi a.ph,vi a.tl,vi a.th]),(2,[vi 0,vi 0]),(3,AH prL (CG c a 2))],4⟩) (fun _=>True) (fun k=>⟨AO [(2, .lp 0 0),(3, .lp 1 0),(4, .lp 2 0),(6, .lp 3 0),(31, .ls 4 0 2 1),(32,vi 2),(33,vi k),(8,hdF 2 (CG c a k) 6)],lk ([(0,[vi c.rm,vi c.he,vi c.ai,vi c.wl,vi c.wh,vi c.lk,vi c.ow]),(1,[vi a.pl,vi a.ph,vi a.tl,vi a.th]),(2,[vi 0,vi 0]),(3,[vi c.rm,vi c.he,vi c.ai,vi c.wl,vi c.wh,vi c.lk,vi c.ow,vi a.pl,vi a.ph,vi a.tl,vi a.th,vi (am c),vi (a.tl+c.wl),vi (a.th+c.wh)]),(4,[vi c.wl,vi c.wh])]++ouF prL (CG c a k) 6),7⟩) (fun k=>k<=2) (fun k=>2-k) 0 ?_ ?_ (XI c a hc hE) fun _ _=>?_
 . omega
 . rw [show CG c a 0=[] from rfl,Aq,Au]
   exact WK hE (lk [(0,0),(1,1048576),(2,2097152),(3,10485760),(4,23068672)])
 . simp
   refine AL [(6,5242884)] (by kernel_rfl) ?_;simp [inC,Nat.testBit];refine CLb (c2) (by simp [hb4]) ?_;simp [AA,inC,Nat.testBit,w0,w1,w2];apply RZ;simp [results175]
theorem TE {c:Cel} {a:Atm} (hc:B5 c) (ha:Fx a):(-10000000000000<=(Bx c a).1/\(Bx c a).1<=10000000000000)/\ -10000000000000<=(Bx c a).2/\(Bx c a).2<=10000000000000:=by
 have t:=ha.t;have wb:=hc.w;have he:=hc.he;have k1:=(KP hc (w:=c.wl) (by omega)).2;have k2:=(KP hc (w:=c.wh) (by omega)).2
 have q:∀ x t',(-1000000000000<=x/\x<=1000000000000)->(0<t')-> -1000000000000<=fl x t'/\fl x t'<=1000000000000:=fun x t' hx ht=>by
   unfold fl;refine ⟨?_,?_⟩
   . rw [Int.le_ediv_iff_mul_le ht]
     have:(-1000000000000:Int)*t'<= -1000000000000*1:=Int.mul_le_mul_of_nonpos_left (by omega) (by omega);omega
   . have h3:x/t' < 1000000000001:=by
       rw [Int.ediv_lt_iff_lt_mul ht];have:(1000000000001:Int)*1<=1000000000001*t':=Int.mul_le_mul_of_nonneg_left (by omega) (by omega);omega
     omega
 have q1:=q _ a.tl k1 (by omega);have q2:=q _ a.th k1 (by omega);have q3:=q (-(29*am c*c.wh)) a.tl (by omega) (by omega);have q4:=q (-(29*am c*c.wh)) a.th (by omega) (by omega);unfold Bx ce;unfold fl at q1 q2 q3 q4 ⊢;simp only;omega
structure VU (s:Shp):Prop where
 h: -500<=s.hl/\s.hl<=s.hh/\s.hh<=9000
 f:0<=s.fl/\s.fl<=s.fh/\s.fh<=1000000000
 w:0<=s.wl/\s.wl<=s.wh/\s.wh<=1000000000
 d:0<=s.dry/\s.dry<=1000000000
 b:0<=s.bal/\s.bal<=1000000000
 n:s.gas.cs.length<=12
 c:∀ c∈s.gas.cs,B5 c
theorem GT {s:Shp} (h:A6 s=true):VU s:=by
 unfold A6 Ar IR at h;simp only [Bool.and_eq_true,CC,List.all_eq_true,decide_eq_true_eq] at h;obtain ⟨⟨⟨⟨⟨⟨h1,h2⟩,h3⟩,h4⟩,h5⟩,h6⟩,⟨⟨⟨h7,h8⟩,h9⟩,h10⟩,h11⟩:=h;have h5':(0<=s.dry/\s.dry<=1000000000)/\0<=s.bal/\s.bal<=1000000000:=by simpa [rgB] using h5
 exact ⟨h2,h3.1,h3.2,h5'.1,h5'.2,h7,fun c hc=>Dm.1 (h10 c hc)⟩
def hvK (a:Atm) (l:List Cel) (o:Int × Int):Int × Int:=l.foldl (fun o c=>(o.1-(Bx c a).2,o.2-(Bx c a).1)) o
def hv0 (s:Shp):Int × Int:=(s.dry+s.bal+s.fl+s.wl,s.dry+s.bal+s.fh+s.wh)
def hvS (s:Shp) (a:Atm):Int × Int:=hvK a s.gas.cs (hv0 s)
theorem Oo {a:Atm} {l:List Cel} {o:Int × Int} {i:Nat} {c:Cel} (h:l[i]?= some c):hvK a (l.take (i+1)) o=((hvK a (l.take i) o).1-(Bx c a).2,(hvK a (l.take i) o).2-(Bx c a).1):=by
 unfold hvK;rw [List.take_add_one,h];simp
theorem Yr {a:Atm} (ha:Fx a) {o:Int × Int} (ho:(0<=o.1/\o.1<=4000000000)/\0<=o.2/\o.2<=4000000000) {l:List Cel} (hc:∀ c∈l,B5 c):∀ i:Nat,i<=l.length->(-(i*10000000000000)<=(hvK a (l.take i) o).1/\(hvK a (l.take i) o).1<=4000000000+i*10000000000000)/\ -(i*10000000000000)<=(hvK a (l.take i) o).2/\(hvK a (l.take i) o).2<=4000000000+i*10000000000000
 | 0,_=>by simp [hvK];omega
 | i+1,hi=>by
   obtain ⟨c,hcc⟩:∃ c,l[i]?= some c:=⟨_,List.getElem?_eq_getElem (by omega)⟩
   have ih:=Yr ha ho hc i (by omega);have hb:=TE (hc c (List.mem_of_getElem? hcc)) ha;rw [Oo hcc];simp only;omega
theorem iw (s:Shp) (a:Atm) (hs:VU s) (ha:Fx a):Ct prog 157 [Cl s (.d (AX s.gas.cs)),Ox a] (vsp (hvS s a).1 (hvS s a).2) []:=by
 have q1:=hs.f;have q2:=hs.w;have q3:=hs.d;have q4:=hs.b;have q5:=hs.n;have w1:IntKind.wrap .i64 (s.dry+s.bal)=s.dry+s.bal:=AD (by omega) (by omega);have w2:IntKind.wrap .i64 (s.dry+s.bal+s.fl)=s.dry+s.bal+s.fl:=AD (by omega) (by omega);have w3:IntKind.wrap .i64 (s.dry+s.bal+s.fl+s.wl)=s.dry+s.bal+s.fl+s.wl:=AD (by omega) (by omega);have w4:IntKind.wrap .i64 (s.dry+s.bal+s.fh)=s.dry+s.bal+s.fh:=AD (by omega) (by omega);have w5:IntKind.wrap .i64 (s.dry+s.bal+s.fh+s.wh)=s.dry+s.bal+s.fh+s.wh:=AD (by omega) (by omega);have ho:(0<=(hv0 s).1/\(hv0 s).1<=4000000000)/\0<=(hv0 s).2/\(hv0 s).2<=4000000000:=by unfold hv0;simp only;omega
 refine CB func157 c157 fun E hE=>?_
 simp [p157,AA,w1,w2,w3,w4,w5];refine Al (α:=Nat) (fun i=>⟨AO [(3, .lp 0 0),(4, .lp 1 0),(6, .lp 2 0),(37, .d (AX s.gas.cs)),(38,vi s.gas.cs.length),(39,vi i)],lk [(0,[vi a.pl,vi a.ph,vi a.tl,vi a.th]),(1,[vi 0,vi 0]),(2,[vi (hvK a (s.gas.cs.take i) (hv0 s)).1,vi (hvK a (s.gas.cs.take i) (hv0 s)).2])],3⟩) (fun i=>i<=s.gas.cs.length) (fun i=>s.gas.cs.length-i) 0 ?_ ?_ ?_
 . omega
 . skip
   refine AI.mk hE (lk [(0,1048576),(1,2097152),(2,29360128)]) _ _ _ ?_ ?_ ?_ ?_ ?_<;>simp [hvK,hv0]
 . intro i hi
   by_cases h:i<s.gas.cs.length
   . obtain ⟨c,hc⟩:=gE h
     have hz:=@wz i (by omega);have hI:(i:Int)<s.gas.cs.length:=by omega
     have hcb:=hs.c c (List.mem_of_getElem? hc);have c1:=YZ c a hcb ha;have hb:=TE hcb ha;have hk:=Yr ha ho hs.c i hi;have hnx:=Oo (a:=a) (o:=hv0 s) hc
     generalize hvK a (s.gas.cs.take i) (hv0 s)=o at*
     have w6:IntKind.wrap .i64 (o.1-(Bx c a).2)=o.1-(Bx c a).2:=AD (by omega) (by omega);have w7:IntKind.wrap .i64 (o.2-(Bx c a).1)=o.2-(Bx c a).1:=AD (by omega) (by omega);simp [tC,hI,hc,AA];refine CLa c1 ?_;simp [AA];refine AL [(11,2)] (by kernel_rfl) ?_;simp [AA,w6,w7,hz,inC,Nat.testBit];refine ⟨i+1,by omega,by omega,?_⟩;rw [hnx];exact WK hE (lk [(0,0),(1,1),(2,2)])
   . have e:i=s.gas.cs.length:=by omega
     have hn:¬ (i:Int)<s.gas.cs.length:=by omega
     rw [e,List.take_length];simp [tC,AA];apply RZ;simp [results157,hvS]
theorem aR:∀ {l:List Lev},(∀ (i:Nat) (x y:Lev),l[i]?= some x->l[i+1]?= some y->x.h<y.h)->Inc l
 | [],_=>trivial
 | [_],_=>trivial
 | a::b::r,h=>⟨h 0 a b rfl rfl,aR fun i x y hx hy=>h (i+1) x y (by simpa using hx) (by simpa using hy)⟩
theorem gZ {l:List Lev} (h:OkS l) (hf:¬ 0<=ixF unf (swp l)):Snd (tmS (knT l)) (swp l):=by
 have ho:=Yu h hf;have hk:=ho.lks;rw [TF] at hk;refine ⟨aR fun i x y hx hy=>by have:=ho.step i x y hx hy;omega,hk,Ns h,fun x hx=>?_⟩;have:=(ho.lev x hx).1;exact ⟨this.1,this.2.1,this.2.2⟩
theorem ld {l:List Lev} (h:OkS l):swp l≠[]:=by
 intro e;have:=Dj (l:=l);rw [e] at this;have:=h.len;simp at*;omega
structure yg (l:List Lev) (a b:Int):Prop where
 ok:OkS l
 fit:¬ 0<=ixF unf (swp l)
 ab:a<=b
 ina:E8 l a
 inb:E8 l b
 eq:atA l a b=(WH (tmS (knT l)) (swp l) a b,0)
theorem NU {l:List Lev} {x y:Lev} {z:Int} (hx:l[0]?= some x) (hy:l[l.length-1]?= some y) (h1:x.h<=z) (h2:z<=y.h):E8 l z:=by
 refine ⟨fun k hk=>?_,fun k hk=>?_⟩
 . rw [hx] at hk;cases hk;exact h1
 . rw [hy] at hk;cases hk;exact h2
theorem Td {lo hi a b:Int}:rgB lo hi [a,b]=true↔(lo<=a/\a<=hi)/\lo<=b/\b<=hi:=by simp [rgB]
theorem ACP {l:List Lev} {a b:Int} (ho:OkS l) (hf:¬ 0<=ixF unf (swp l)) (hab:a<=b) (ha:E8 l a) (hb:E8 l b):yg l a b:=by
 have hlen:=ho.len;obtain ⟨x,hx⟩:∃ x,l[0]?= some x:=⟨_,List.getElem?_eq_getElem (by omega)⟩
 obtain ⟨y,hy⟩:∃ y,l[l.length-1]?= some y:=⟨_,List.getElem?_eq_getElem (by omega)⟩
 have q1:=ha.1 x hx;have q2:=ha.2 y hy;have q3:=hb.1 x hx;have q4:=hb.2 y hy;have b1:=ho.at' x (List.mem_of_getElem? hx);have b2:=ho.at' y (List.mem_of_getElem? hy);refine ⟨ho,hf,hab,ha,hb,?_⟩;unfold atA;rw [if_pos (B8.2 ho),if_pos (CT.2 (by simp only;omega)),hx,hy];simp only;rw [if_pos (Td.2 (by omega)),if_pos ((IQ ho).2 hf)]
theorem aU {l:List Lev} {a b:Int} (h:yg l a b):Fx (atA l a b).1:=by
 rw [h.eq];exact mD (gZ h.ok h.fit) (ld h.ok) h.ab (Oq h.ok h.ina h.inb).p
structure Act where
 k:Int
 c:Int
 t:Int
 n:Int
deriving DecidableEq
abbrev XO (x:Act):List D:=[.lit (.int .u8 x.k),di x.c,di x.t,di x.n]
abbrev BZ (x:Act):V:= .agg [vu8 x.k,vi x.c,vi x.t,vi x.n]
abbrev JZ (l:List Act):D:= .sl 4 (l.map XO)
theorem hfa:∀ x:Act,(XO x).length=4:=fun _=>rfl
theorem fn66 (c:Cel) (a:Atm) (hc:B5 c) (ha:Fx a):Ct prog 66 [Ky c,Ox a] (vb (decide (Lh c a=1))) []:=by
 have c1:=TI c a hc ha;refine CB func66 c66 fun E hE=>?_
 simp [p66];refine CLa c1 ?_;simp;apply RZ;simp [results66]
abbrev Ca (s:Shp):List D:=[di s.xl,di s.xh,di s.yl,di s.yh,di s.hl,di s.hh,di s.fl,di s.fh,di s.wl,di s.wh,di s.bl,di s.bh,di s.dry,di s.bal,di s.drp,AX s.gas.cs,di s.gas.bt,di s.gas.ih,di s.gas.ia,di s.gas.vh,di s.gas.va,di s.gas.lh,di s.gas.la,di s.gas.ph,di s.gas.pa]
def aj (l:List Lev):Int:=match l[l.length-1]? with | some y=>y.h | none=>0
end Go.Proofs.Tryz
namespace Go.Proofs.YtnjclpglagcagaaGreat
open Go.Joins Go.ChangeShapes Go.WideShapes Go.ChangeAt Go.RowKit Go.Psl
theorem Tryz.own:ownKnob Tryz.prog.godebug=none:=by kernel_rfl
theorem Tryz.laidOut:laidOutB Tryz.prog=true:=by kernel_rfl
theorem all_map {α β:Type} {f:α->β}:∀ {es:List β},(∀ x∈es,∃ k,x=f k)->∃ t:List α,es=t.map f
 | [],_=>⟨[],rfl⟩
 | e::es,h=>by
   obtain ⟨k,hk⟩:=h e (by simp);obtain ⟨t,ht⟩:=all_map (f:=f) (es:=es) fun x hx=>h x (by simp [hx])
   exact ⟨k::t,by rw [ht,hk];rfl⟩
theorem BM {n:Nat} {ds:List D} (h:Sh' Tryz.prog (n+1) 3 ds):∃ i:Int,ds=[.lit (.int .i64 i)]:=by
 simp only [Sh',Tryz.underlying3] at h;obtain ⟨i,h,_⟩:=h;exact ⟨i,h⟩
theorem CD {n:Nat} {ds:List D} (h:Sh' Tryz.prog (n+2) 28 ds):∃ k:Int × Int,ds=[.lit (.int .i64 k.1), .lit (.int .i64 k.2)]:=by
 rw [Sh',Tryz.underlying28] at h;obtain ⟨a,r,rfl,h1,b,r2,rfl,h2,rfl⟩:=h;obtain ⟨i,rfl⟩:=BM h1;obtain ⟨j,rfl⟩:=BM h2;exact ⟨(i,j),rfl⟩
theorem TJ {n:Nat} {ds:List D} (h:Sh' Tryz.prog (n+3) 77 ds):∃ k:(Int × Int) × Int × Int,ds=[.lit (.int .i64 k.1.1), .lit (.int .i64 k.1.2), .lit (.int .i64 k.2.1), .lit (.int .i64 k.2.2)]:=by
 rw [Sh',Tryz.underlying77] at h;obtain ⟨a,r,rfl,h1,b,r2,rfl,h2,rfl⟩:=h;obtain ⟨i,rfl⟩:=CD h1;obtain ⟨j,rfl⟩:=CD h2;exact ⟨(i,j),rfl⟩
theorem kf {n:Nat} {ds:List D} (h:Sh' Tryz.prog (n+4) 83 ds):∃ k:Tryz.Gal,ds=Tryz.galL k:=by
 rw [Sh',Tryz.underlying83] at h;obtain ⟨a,r,rfl,h1,b,r2,rfl,h2,c,r3,rfl,h3,rfl⟩:=h;obtain ⟨i,rfl⟩:=BM h1;obtain ⟨j,rfl⟩:=TJ h2;obtain ⟨k,rfl⟩:=BM h3;exact ⟨⟨i,j.1.1,j.1.2,j.2.1,j.2.2,k⟩,rfl⟩
theorem ATf:Tryz.prog.cellsOf 83=6:=by kernel_rfl
theorem fN {n:Nat} {ds:List D} (h:Sh' Tryz.prog (n+5) 44 ds):∃ t:List Tryz.Gal,ds=[.sl 6 (t.map Tryz.galL)]:=by
 rw [Sh',Tryz.underlying44] at h;obtain ⟨es,rfl,_,h⟩:=h;obtain ⟨t,rfl⟩:=all_map fun x hx=>kf (h x hx)
 exact ⟨t,by rw [ATf]⟩
abbrev GW (W:World):Gh:=⟨fun _=>0,fun _=>0,fun _=>true,fun _=>true,InW W⟩
theorem VX {H:Type} {enc:TypeId × Value->H} {W:World} {base:Nat} {v:Value} {d:DataW H} {p:List MemPlace} {t e:TypeId} {n:Nat} (hu:Tryz.prog.underlying t=some (.slice e)) (hp:E5 Tryz.prog n t=true)
   (hval:Value.okWide Tryz.prog W .any base t v) (h:DataW.Trod enc Tryz.prog W 0 (fun _=>true) true t v d p):∃ D:D,Sh' Tryz.prog n t [D]/\R2 (GW W) W (.d D) v:=by
 obtain ⟨m,hm⟩:=h;obtain ⟨a,len,cap,rfl⟩:=okWide_slice hu hval;obtain ⟨ds,h1,h2⟩:=HQ n t hp m _ _ hm
 match ds,h2 with
 | [D],h2=>exact ⟨D,h1,h2.1⟩
theorem AMu {H:Type} {enc:TypeId × Value->H} {W:World} {base:Nat} {v:Value} {d:DataW H} {p:List MemPlace} (hval:Value.okWide Tryz.prog W .any base 3 v) (h:DataW.Trod enc Tryz.prog W 0 (fun _=>true) true 3 v d p):∃ a:Int,R2 (GW W) W (Tryz.vi a) v:=by
 obtain ⟨a,rfl,_⟩:=open_int Tryz.underlying3 hval h;exact ⟨a, .lit _ rfl⟩
end Go.Proofs.YtnjclpglagcagaaGreat
namespace Go.Proofs.Tryz
open Go.Psl
theorem fZ {H:Hp} {id:Nat} {a b:Int} (h:H id=some [vi a,vi b]):Bor H (.ls id 0 2 1) (.d (Ch [a,b])):=by
 rw [Bk];exact ⟨rfl,rfl,by simp,_,h,rfl⟩
theorem jJ (a b:Int × Int):Ct prog 180 [vsp a.1 a.2,vsp b.1 b.2] (vi (Dw a b)) []:=by
 refine CB func180 c180 fun E hE=>?_
 simp [p180,inC,Nat.testBit];refine CLa (AQQ a.1 b.1) ?_;simp [inC,Nat.testBit];refine CLa (AQQ a.2 b.2) ?_;simp [AA,AM];refine CLb (AQo (NM a.1 b.1) (NM a.2 b.2)) (by simp [fZ]) ?_;simp;apply RZ;simp [results180,Dw]
def okC (p:Int × Int):Bool:=decide (max p.1 p.2<=268435456)&&decide (-268435456<=min p.1 p.2)
theorem NH {p:Int × Int}:okC p=true↔bd 268435456 p:=by
 unfold okC bd;simp only [Bool.and_eq_true,decide_eq_true_eq];omega
def EJ (l:List (Int × Int)):Bool:=l.all okC
theorem RA {l:List (Int × Int)} {i:Nat} {s:Int × Int} (hs:l[i]?= some s):EJ (l.take (i+1))=(EJ (l.take i)&&okC s):=by
 simp [EJ,List.take_add_one,hs]
theorem Jh {l:List (Int × Int)} {i:Nat} {s:Int × Int} (hs:l[i]?= some s) (h:okC s=false):EJ l=false:=by
 unfold EJ;rw [List.all_eq_false];exact ⟨s,List.mem_of_getElem? hs,by simp [h]⟩
theorem jX (l:List (Int × Int)) (hl:l.length<=1000000000):Ct prog 165 [.d (An l)] (vb (EJ l)) []:=by
 refine CB func165 c165 fun E hE=>?_
 simp [p165];refine Al (α:=Nat) (fun i=>⟨AO [(5, .d (An l)),(6,vi l.length),(7,vi i)],lk [],0⟩) (fun i=>i<=l.length/\EJ (l.take i)=true) (fun i=>l.length-i) 0 ?_ ?_ ?_
 . simp [EJ]
 . exact WK hE (lk [])
 . rintro i ⟨hi,hg⟩
   have hz:IntKind.wrap .i64 ((i:Int)+1)=((i:Int)+1):=AD (by omega) (by omega);simp [APL];refine Bh (fun h=>?_) (fun h=>?_)
   . simp at h
     have hil:i<l.length:=by omega
     obtain ⟨p,hp⟩:∃ p,l[i]?= some p:=⟨l[i],by simp [hil]⟩
     by_cases h1:268435456<max p.1 p.2
     . have hb:okC p=false:=by unfold okC;rw [decide_eq_false (by omega)];rfl
       simp [hp,h1,AA];apply RZ;simp [results165,Jh hp hb]
     by_cases h2:min p.1 p.2 < -268435456
     . have hb:okC p=false:=by unfold okC;rw [decide_eq_false (p:= -268435456<=min p.1 p.2) (by omega)];simp
       simp [hp,h1,h2,AA];apply RZ;simp [results165,Jh hp hb]
     have hb:okC p=true:=by unfold okC;simp only [Bool.and_eq_true,decide_eq_true_eq];omega
     simp [hp,h1,h2,hz,AA];refine ⟨i+1,⟨by omega,by rw [RA hp,hg,hb];rfl⟩,by omega,?_⟩;exact WK hE (lk [])
   . simp at h
     have hil:i=l.length:=by omega
     subst hil;rw [List.take_length] at hg;simp;apply RZ;simp [results165,hg]
theorem rE (l m:List (Int × Int)) (hl:l.length<=1000000000) (_:m.length<=1000000000):Ct prog 166 [.d (An l), .d (An m)] (vb (decide (l=m))) []:=by
 refine CB func166 c166 fun E hE=>?_
 by_cases hlen:l.length=m.length
 case neg=>
   have hn:¬ (l.length:Int)=m.length:=by omega
   have hne:¬ l=m:=fun h=>hlen (by rw [h])
   simp [p166,hn];apply RZ;simp [results166,hne]
 simp [p166,hlen];refine Al (α:=Nat) (fun i=>⟨AO [(0, .d (An l)),(1, .d (An m)),(12,vi m.length),(13,vi i)],lk [],0⟩) (fun i=>i<=l.length/\l.take i=m.take i) (fun i=>l.length-i) 0 ?_ ?_ ?_
 . simp
 . exact WK hE (lk [])
 . rintro i ⟨hi,hg⟩
   have hz:IntKind.wrap .i64 ((i:Int)+1)=((i:Int)+1):=AD (by omega) (by omega);simp [APM];refine Bh (fun h=>?_) (fun h=>?_)
   . simp at h
     have hil:i<l.length:=by omega
     obtain ⟨a,ha⟩:∃ a,l[i]?= some a:=⟨l[i],by simp [hil]⟩
     obtain ⟨b,hb⟩:∃ b,m[i]?= some b:=⟨m[i],by simp [show i<m.length by omega]⟩
     by_cases h1:a.1=b.1/\a.2=b.2
     . have hab:a=b:=by ext;exact h1.1;exact h1.2
       simp [ha,hb,h1,hz];refine ⟨i+1,⟨by omega,by simp [List.take_add_one,hg,ha,hb,hab]⟩,by omega,?_⟩;exact WK hE (lk [])
     . have hne:¬ l=m:=fun h=>by
         rw [h,hb] at ha;cases ha;exact h1 ⟨rfl,rfl⟩
       have hd:(!decide (a.1=b.1)||!decide (a.2=b.2))=true:=by simp;omega
       simp [ha,hb,hd];apply RZ;simp [results166,hne]
   . simp at h
     have hil:i=l.length:=by omega
     have hlm:l=m:=by rw [hil,List.take_length,hlen,List.take_length] at hg;exact hg
     simp;apply RZ;simp [results166,hlm]
def spD (l:List (Int × Int)):List D:=l.flatMap fun s=>[di s.1,di s.2]
abbrev BC (l:List (Int × Int)):List V:=(spD l).map .d
@[simp] theorem Di (l:List (Int × Int)):(spD l).length=l.length*2:=by
 induction l with
 | nil=>rfl
 | cons a l ih=>simp [spD] at ih ⊢;omega
theorem bZ (l:List (Int × Int)) (p:Int × Int):spD (l++[p])=spD l++[di p.1,di p.2]:=by simp [spD]
abbrev v3 (a b c:Int):V:= .agg [vi a,vi b,vi c]
def Ju (out:List (Int × Int)) (b:Nat):V:=if out.isEmpty then .d (.lit (.slice none 0 0)) else .ls b 0 out.length 2
@[simp] theorem AG1 (b:Nat):Ju [] b= .d (.lit (.slice none 0 0)):=rfl
@[simp] theorem En (l:List (Int × Int)) (p:Int × Int) (b:Nat):Ju (l++[p]) b= .ls b 0 (l.length+1) 2:=by simp [Ju]
@[simp] theorem AG2 (p:Int × Int) (b:Nat):Ju [p] b= .ls b 0 1 2:=rfl
@[simp] theorem rM:spD []=[]:=rfl
theorem Eo (p:Int × Int) (l:List (Int × Int)):spD (p::l)=di p.1::di p.2::spD l:=rfl
theorem fG (l m:List (Int × Int)):spD (l++m)=spD l++spD m:=by simp [spD]
theorem Yo:∀ {l:List (Int × Int)} {i:Nat} {p:Int × Int},l[i]?= some p->((spD l).drop (i*2)).take 2=[di p.1,di p.2]
 | [],i,p,h=>by simp at h
 | a::l,0,p,h=>by simp at h;subst h;rfl
 | a::l,i+1,p,h=>by
   simp at h;rw [show (i+1)*2=i*2+2 by omega,Eo,List.drop_succ_cons,List.drop_succ_cons];exact Yo h
theorem Cp {l:List (Int × Int)} {i:Nat} {p:Int × Int} (h:l[i]?= some p):List.take 2 (List.drop (i*2) (List.map V.d (spD l)))=[vi p.1,vi p.2]:=by
 rw [<-List.map_drop,<-List.map_take,Yo h];rfl
theorem TC:∀ {l:List (Int × Int)} {i:Nat} (p:Int × Int),i<l.length->(spD l).take (i*2)++[di p.1,di p.2]++(spD l).drop (i*2+2)=spD (l.set i p)
 | [],i,p,h=>by simp at h
 | a::l,0,p,h=>rfl
 | a::l,i+1,p,h=>by
   have:=TC (l:=l) (i:=i) p (by simpa using h);rw [show (i+1)*2=i*2+1+1 by omega,Eo,List.take_succ_cons,List.take_succ_cons,List.set_cons_succ,Eo,<-this];simp [List.drop_succ_cons]
theorem I9 {l:List (Int × Int)} {i:Nat} (p:Int × Int) (h:i<l.length):AA (List.map V.d (spD l)) (i*2) [vi p.1,vi p.2]=List.map V.d (spD (l.set i p)):=by
 unfold AA;rw [<-TC p h,List.map_append,List.map_append,List.map_take,List.map_drop];rfl
theorem Om (l:List (Int × Int)):(l.map fun s=>[di s.1,di s.2]).flatten=spD l:=rfl
theorem rJ (l:List (Int × Int)) (hl:l.length<=1000000000) (h0:l≠[]):Ct prog 178 [.d (An l)] (.ls 0 0 l.length 2) [(0,BC l)]:=by
 refine CB func178 c178 fun E hE=>?_
 obtain ⟨a,r,rfl⟩:=List.exists_cons_of_ne_nil h0;have hmx:(r.length+1)*16<=140737488355328/\r.length+1<=9223372036854775807:=by simp at hl;omega
 have e:An (a::r)= .sl 2 ([di a.1,di a.2]::r.map fun s=>[di s.1,di s.2]):=rfl;have ef:(r.map fun s=>[di s.1,di s.2]).flatten=spD r:=rfl;simp [p178,e,ef,AM,hmx];refine AB.by (lk [(0,5242880)]) ?_;have ec:BC (a::r)=V.d (di a.1)::V.d (di a.2)::(spD r).map .d:=rfl;simp [results178,ec]
def HC (l:List (Int × Int)):Nat->List (Int × Int)
 | 0=>l
 | i+1=>((HC l i).set i (l.getD (l.length-1-i) (0,0))).set (l.length-1-i) (l.getD i (0,0))
theorem GB (l:List (Int × Int)):∀ i,(HC l i).length=l.length
 | 0=>rfl
 | i+1=>by simp [HC,GB l i]
theorem J3 (l:List (Int × Int)):∀ i,2*i<=l.length->∀ k,k<l.length->(HC l i)[k]?= if k<i\/l.length-i<=k then l[l.length-1-k]? else l[k]?
 | 0,_,k,hk=>by simp [HC];omega
 | i+1,h,k,hk=>by
   have ih:=J3 l i (by omega) k hk
   have g:∀ j,j<l.length->some (l.getD j (0,0))=l[j]?:= fun j hj=>by
     rw [List.getD_eq_getElem?_getD,List.getElem?_eq_getElem hj];rfl
   simp only [HC];by_cases h1:k=l.length-1-i
   . subst h1
     rw [List.getElem?_set_self (by simp [GB];omega),g i (by omega),if_pos (by omega)];congr 1;omega
   . rw [List.getElem?_set_ne (by omega)]
     by_cases h2:k=i
     . subst h2
       rw [List.getElem?_set_self (by simp [GB];omega),g _ (by omega),if_pos (by omega)]
     . rw [List.getElem?_set_ne (by omega),ih]
       by_cases h3:k<i\/l.length-i<=k
       . rw [if_pos h3,if_pos (by omega)]
       . rw [if_neg h3,if_neg (by omega)]
theorem ZW {l:List (Int × Int)} {i:Nat} (h:2*i<=l.length) (h2:l.length<=2*i+1):HC l i=l.reverse:=by
 apply List.ext_getElem?;intro k;by_cases hk:k<l.length
 . rw [J3 l i h k hk,List.getElem?_reverse hk]
   by_cases h3:k<i\/l.length-i<=k
   . rw [if_pos h3]
   . rw [if_neg h3];congr 1;omega
 . rw [List.getElem?_eq_none (by rw [GB];omega),List.getElem?_eq_none (by rw [List.length_reverse];omega)]
theorem rD (l z:List (Int × Int)) (hl:l.length<=1000000000):Cm prog 185 [.ls 0 0 l.length 2] (lk [(0,BC (l++z))]) [0] (.ret (.tup [])) (lk [(0,BC (l.reverse++z))]):=by
 refine Cm.by gok eok mixed 1 func185 c185 rfl (by simp [ntmps185]) (by simp) (A7.at ?_) (by simp) ?_ fun E hE hs=>?_
 . simp
 . simp [LD]
 have w0:IntKind.wrap .i64 ((l.length:Int)-1)=(l.length:Int)-1:=AD (by omega) (by omega);simp [p185,w0];refine Al (α:=Nat) (fun i=>⟨AO [(0, .ls 0 0 l.length 2),(2,vi i),(3,vi ((l.length:Int)-1-i))],lk [(0,BC (HC l i++z))],1⟩) (fun i=>2*i<=l.length) (fun i=>l.length-i) 0 ?_ ?_ ?_
 . simp
 . refine AI.mkM hE (lk [(0,0)]) _ _ _ ?_ ?_ ?_ ?_ ?_ ?_<;>simp [HC]
 . intro i hi
   simp [APQ];by_cases h:(i:Int)<(l.length:Int)-1-i
   . obtain ⟨j,hj⟩:∃ j,j=l.length-1-i:=⟨_,rfl⟩
     have hj':(l.length:Int)-1-i=(j:Int):=by omega
     obtain ⟨a,ha⟩:∃ a,l[i]?= some a:=⟨l[i],by simp [show i<l.length by omega]⟩
     obtain ⟨b,hb⟩:∃ b,l[j]?= some b:=⟨l[j],by simp [show j<l.length by omega]⟩
     have hlen:=GB l i;have ha':(HC l i++z)[i]?= some a:=by rw [List.getElem?_append_left (by omega),J3 l i hi i (by omega),if_neg (by omega),ha]
     have hb':(HC l i++z)[j]?= some b:=by rw [List.getElem?_append_left (by omega),J3 l i hi j (by omega),if_neg (by omega),hb]
     have hnx:((HC l i++z).set i b).set j a=HC l (i+1)++z:=by
       have e1:l.getD i (0,0)=a:=by rw [List.getD_eq_getElem?_getD,ha];rfl
       have e2:l.getD j (0,0)=b:=by rw [List.getD_eq_getElem?_getD,hb];rfl
       rw [HC,<-hj,e1,e2,List.set_append_left _ _ (by omega),List.set_append_left _ _ (by simp;omega)]
     generalize HC l i++z=L at ha' hb' hnx ⊢
     have hL1:=(List.getElem?_eq_some_iff.1 ha').1;have hL2:=(List.getElem?_eq_some_iff.1 hb').1;have ca:=Cp ha';have cb:=Cp hb';have s1:=I9 b hL1;have s2:=I9 (l:=L.set i b) a (i:=j) (by simpa using hL2);rw [hnx] at s2;have hdl:=Di L;have hdl2:=Di (L.set i b);have q1:i*2+2<=L.length*2:=by omega
     have q2:j*2+2<=L.length*2:=by omega
     have z1:=@wz i (by omega);have z2:IntKind.wrap .i64 ((j:Int)-1)=(j:Int)-1:=AD (by omega) (by omega);have i1:i<l.length:=by omega
     have j1:j<l.length:=by omega
     have hij:i<j:=by omega
     rw [hj'];simp [hij];refine AL [(13,0)] (by kernel_rfl) ?_;simp [inC,Nat.testBit,i1,j1,q1,q2,ca,cb,s1,s2,z1,z2];refine ⟨i+1,by omega,by omega,?_⟩;refine AI.mkM hE (lk [(0,0)]) _ _ _ ?_ ?_ ?_ ?_ ?_ ?_<;>simp
     omega
   . simp [h]
     have he:HC l i=l.reverse:=ZW hi (by omega);refine AB.by (lk [(0,0)]) ?_;simp [results185,he]
def DQ (d:List (Int × Int)) (p:Int × Int):List (Int × Int):=if d.getLast?= some p then d else d++[p]
def ddC (l:List (Int × Int)):List (Int × Int):=l.foldl DQ []
theorem IE {l:List (Int × Int)} {a:Nat} {p:Int × Int} (h:l[a]?= some p):ddC (l.take (a+1))=DQ (ddC (l.take a)) p:=by
 simp [ddC,List.take_add_one,h]
theorem S0 {l:List (Int × Int)}:∀ a,a+1<=l.length->(ddC (l.take (a+1))).getLast?= l[a]?:= fun a h=>by
 obtain ⟨p,hp⟩:∃ p,l[a]?= some p:=⟨l[a],by simp [show a<l.length by omega]⟩
 rw [IE hp,hp,DQ];by_cases h:(ddC (l.take a)).getLast?= some p
 . rw [if_pos h,h]
 . rw [if_neg h];simp
theorem I6 (l:List (Int × Int)):∀ a,(ddC (l.take a)).length<=a
 | 0=>by simp [ddC]
 | a+1=>by
   by_cases h:a<l.length
   . rw [IE (p:=l[a]) (by simp [h]),DQ]
     have:=I6 l a;split
     . omega
     . simp;omega
   . have:=I6 l a
     rw [List.take_of_length_le (by omega)] at this ⊢;omega
theorem KY:∀ (l:List (Int × Int)) (i:Nat),(spD l).take (i*2)=spD (l.take i)
 | l,0=>by simp
 | [],i+1=>by simp
 | a::l,i+1=>by
   rw [show (i+1)*2=i*2+1+1 by omega,Eo,List.take_succ_cons,List.take_succ_cons,List.take_succ_cons,Eo];rw [KY l i]
theorem YY (n:Nat):AM n [vi 0,vi 0]=List.map V.d (spD (List.replicate n ((0:Int),(0:Int)))):=by
 induction n with
 | zero=>rfl
 | succ n ih=>rw [List.replicate_succ,Eo,List.map_cons,List.map_cons,<-ih];rfl
theorem VK {d m:List (Int × Int)} {n:Nat} (hm:(d++m).length=n):AA (List.map V.d (spD (d++m))) (d.length*2) (AM (n-d.length) [vi 0,vi 0])=List.map V.d (spD (d++List.replicate (n-d.length) (0,0))):=by
 have hl:m.length=n-d.length:=by simp at hm;omega
 unfold AA;rw [YY,<-List.map_take,KY,<-List.map_drop]
 have h1:(spD (d++m)).drop (d.length*2+(List.map V.d (spD (List.replicate (n-d.length) ((0:Int),(0:Int))))).length)=[]:=by
   apply List.drop_of_length_le;simp;omega
 rw [h1,List.take_left,fG,List.map_append];simp
theorem qB (l:List (Int × Int)) (hl:l.length<=1000000000):Cm prog 181 [.ls 0 0 l.length 2] (lk [(0,BC l)]) [0] (.ret (.ls 0 0 (ddC l).length 2)) (lk [(0,BC (ddC l++List.replicate (l.length-(ddC l).length) (0,0)))]):=by
 refine Cm.by gok eok mixed 1 func181 c181 rfl (by simp [ntmps181]) (by simp) (A7.at ?_) (by simp) ?_ fun E hE hs=>?_
 . simp
 . simp [LD]
 by_cases h2:l.length<2
 . have h2':(l.length:Int)<2:=by omega
   have e:ddC l=l:=by
     clear hE h2'
     match l,h2 with
     | [],_=>rfl
     | [a],_=>rfl
     | _::_::_,h=>simp at h;omega
   simp [p181,h2'];refine AB.by (lk [(0,0)]) ?_;simp [results181,e]
 have h2':¬ (l.length:Int)<2:=by omega
 simp [p181,h2'];refine Al (α:=Nat) (fun k=>⟨AO [(0, .ls 0 0 l.length 2),(3,vi k)],lk [(0,BC l)],1⟩) (fun k=>1<=k/\k<=l.length/\ddC (l.take k)=l.take k) (fun k=>l.length-k) 1 ?_ ?_ ?_
 . refine ⟨by omega,by omega,?_⟩
   cases l with
   | nil=>rfl
   | cons a l=>rfl
 . exact WKM hE (lk [(0,0)])
 rintro k ⟨k1,k2,hdd⟩
 simp [APO];refine Bh (fun h=>?_) (fun h=>?_)
 . simp at h
   obtain ⟨j,hj⟩:∃ j,k=j+1:=⟨k-1,by omega⟩
   obtain ⟨a,ha⟩:∃ a,l[k]?= some a:=⟨l[k],by simp [h]⟩
   obtain ⟨b,hb⟩:∃ b,l[j]?= some b:=⟨l[j],by simp [show j<l.length by omega]⟩
   have ca:=Cp ha;have cb:=Cp hb;have q1:k*2+2<=l.length*2:=by omega
   have q2:j*2+2<=l.length*2:=by omega
   have hj1:j<l.length:=by omega
   have w1:IntKind.wrap .i64 ((k:Int)-1)=(j:Int):=by rw [AD (by omega) (by omega)];omega
   have w2:=@wz k (by omega);have hlast:=S0 (l:=l) j (by omega);rw [hb,<-hj] at hlast;by_cases hab:a.1=b.1/\a.2=b.2
   . have hab':a=b:=by ext;exact hab.1;exact hab.2
     have hst:ddC (l.take (k+1))=l.take k:=by rw [IE ha,DQ,hlast,hab',if_pos rfl,hdd]
     simp [inC,Nat.testBit,h,hj1,q1,q2,ca,cb,w1,hab,k2];have hkl:(k:Int)<=l.length:=by omega
     refine BL (α:=Nat) 2 (fun _:Unit=>⟨AO [(0, .ls 0 0 l.length 2),(3,vi (ddC l).length)],lk [(0,BC (ddC l++l.drop (ddC l).length))],1⟩) (fun _=>(ddC l).length<l.length)
       (fun x=>⟨AO [(0, .ls 0 0 l.length 2),(3,vi (ddC (l.take (k+x))).length),(4, .ls 0 (k*2) (l.length-k) 2),(5,vi x)],lk [(0,BC (ddC (l.take (k+x))++l.drop (ddC (l.take (k+x))).length))],1⟩)
       (fun x=>1<=x/\k+x<=l.length/\(ddC (l.take (k+x))).length<k+x) (fun x=>l.length-x) 1 ?_ ?_ ?_ fun _ hc=>?_
     . refine ⟨by omega,by omega,?_⟩
       rw [hst,List.length_take];omega
     . rw [hst,List.length_take,Nat.min_eq_left (by omega),List.take_append_drop]
       exact WKM hE (lk [(0,0)])
     . rintro x ⟨x1,x2,x3⟩
       obtain ⟨dl,hdl⟩:∃ dl,(ddC (l.take (k+x))).length=dl:=⟨_,rfl⟩
       simp [APN];by_cases hx:x<l.length-k
       . obtain ⟨y,hy⟩:∃ y,x=y+1:=⟨x-1,by omega⟩
         obtain ⟨c,hc⟩:∃ c,l[k+x]?= some c:=⟨l[k+x],by simp [show k+x<l.length by omega]⟩
         obtain ⟨e,he⟩:∃ e,l[k+y]?= some e:=⟨l[k+y],by simp [show k+y<l.length by omega]⟩
         have hnext:=IE hc;have hlst:=S0 (l:=l) (k+y) (by omega);rw [show k+y+1=k+x by omega,he] at hlst;rw [hdl] at x3
         have hMl:∀ t,dl<=t->(ddC (l.take (k+x))++l.drop dl)[t]?= l[t]?:= fun t ht=>by
           rw [List.getElem?_append_right (by omega),List.getElem?_drop,hdl];congr 1;omega
         have hc':(ddC (l.take (k+x))++l.drop dl)[k+x]?= some c:=by rw [hMl _ (by omega),hc]
         have he':(ddC (l.take (k+x))++l.drop dl)[k+y]?= some e:=by rw [hMl _ (by omega),he]
         have hML:(ddC (l.take (k+x))++l.drop dl).length=l.length:=by rw [List.length_append,hdl,List.length_drop];omega
         have hset:(ddC (l.take (k+x))++l.drop dl).set dl c=(ddC (l.take (k+x))++[c])++l.drop (dl+1):=by
           rw [List.set_append_right _ _ (by omega),hdl,Nat.sub_self];cases hd:l.drop dl with
           | nil=>have:=congrArg List.length hd;simp at this;omega
           | cons p r=>
             have hr:l.drop (dl+1)=r:=by
               have:=congrArg (List.drop 1) hd;rw [List.drop_drop] at this;simpa [Nat.add_comm] using this
             rw [hr];simp
         have cc:=Cp hc';have ce:=Cp he';have sc:=I9 c (l:=ddC (l.take (k+x))++l.drop dl) (i:=dl) (by omega);rw [hset] at sc;have hsl:=Di (ddC (l.take (k+x))++l.drop dl);rw [hML] at hsl;rw [hdl];obtain ⟨M,hM⟩:∃ M,ddC (l.take (k+x))++l.drop dl=M:=⟨_,rfl⟩
         rw [hM] at cc ce sc hsl ⊢;have z1:IntKind.wrap .i64 ((x:Int)-1)=(y:Int):=by rw [AD (by omega) (by omega)];omega
         have z2:=@wz x (by omega);have z3:=@wz dl (by omega);have r1:(k+x)*2+2<=l.length*2:=by omega
         have r2:(k+y)*2+2<=l.length*2:=by omega
         have r3:dl*2+2<=l.length*2:=by omega
         have m1:k*2+x*2=(k+x)*2:=by omega
         have m2:k*2+y*2=(k+y)*2:=by omega
         have y1:y<l.length-k:=by omega
         have d1:dl<l.length:=by omega
         have xx:(x:Int)<((l.length-k:Nat):Int):=by omega
         by_cases hce:c.1=e.1/\c.2=e.2
         . have hce':c=e:=by ext;exact hce.1;exact hce.2
           have hd2:ddC (l.take (k+(x+1)))=ddC (l.take (k+x)):=by rw [<-Nat.add_assoc,hnext,DQ,hlst,hce',if_pos rfl]
           simp [xx,inC,Nat.testBit,hx,y1,hsl,r1,r2,m1,m2,cc,ce,z1,z2,hce];refine ⟨x+1,⟨by omega,by omega,by rw [hd2];omega⟩,by omega,?_⟩;rw [hd2,hdl,hM];exact WKM hE (lk [(0,0)])
         . have hd2:ddC (l.take (k+(x+1)))=ddC (l.take (k+x))++[c]:=by rw [<-Nat.add_assoc,hnext,DQ,hlst,if_neg];intro h;cases h;exact hce ⟨rfl,rfl⟩
           have hne:(!decide (c.1=e.1)||!decide (c.2=e.2))=true:=by simp;omega
           have hdl2:(ddC (l.take (k+x))++[c]).length=dl+1:=by simp [hdl]
           simp [xx,inC,Nat.testBit,hx,y1,hsl,r1,r2,r3,m1,m2,cc,ce,z1,z2,z3,hne,d1,sc];refine ⟨x+1,⟨by omega,by omega,by rw [hd2,hdl2];omega⟩,by omega,?_⟩;rw [hd2,hdl2];exact WKM hE (lk [(0,0)])
       . have hkx:k+x=l.length:=by omega
         rw [hkx,List.take_length] at x3 hdl;rw [hkx,List.take_length];simp [hx];refine ⟨by omega,?_⟩;exact WKM hE (lk [(0,0)])
     . obtain ⟨d,hd⟩:∃ d,ddC l=d:=⟨_,rfl⟩
       rw [hd] at hc ⊢;have hML:(d++l.drop d.length).length=l.length:=by simp;omega
       have hcl:=VK hML;have hsl:=Di (d++l.drop d.length);rw [hML] at hsl;have hne:¬ l.length-d.length=0:=by omega
       have hle:d.length<=l.length:=by omega
       have hfit:d.length*2+(l.length-d.length)*2<=l.length*2:=by omega
       simp [hle,hne,hfit,hsl,hcl];refine AB.by (lk [(0,0)]) ?_;simp [results181]
   . have hd:(decide (a.1=b.1)&&decide (a.2=b.2))=false:=by simp;omega
     simp [inC,Nat.testBit,h,hj1,q1,q2,ca,cb,w1,w2,hd];refine ⟨k+1,⟨by omega,by omega,?_⟩,by omega,?_⟩
     . rw [IE ha,DQ,hlast,if_neg,hdd,List.take_add_one (i:=k),ha];rfl
       intro e;cases e;exact hab ⟨rfl,rfl⟩
     . exact WKM hE (lk [(0,0)])
 . simp at h
   have hk:k=l.length:=by omega
   subst hk;rw [List.take_length] at hdd;simp;refine AB.by (lk [(0,0)]) ?_;simp [results181,hdd]
end Go.Proofs.Tryz
namespace Go.Geo
abbrev C:=Int × Int
def lt (a b:C):Prop:=a.1<b.1\/(a.1=b.1/\a.2<b.2)
def cross (a b c:C):Int:=(b.1-a.1)*(c.2-a.2)-(b.2-a.2)*(c.1-a.1)
def xp (u v:C):Int:=u.1*v.2-u.2*v.1
def pos (u:C):Prop:=0<u.1\/(u.1=0/\0<u.2)
def sb (a b:C):C:=(a.1-b.1,a.2-b.2)
theorem lt_irr (a:C):¬ lt a a:=by unfold lt;omega
theorem lt_trans {a b c:C} (h1:lt a b) (h2:lt b c):lt a c:=by unfold lt at*;omega
theorem lt_tri (a b:C):lt a b\/a=b\/lt b a:=by
 rcases a with ⟨a1,a2⟩;rcases b with ⟨b1,b2⟩;simp only [lt,Prod.mk.injEq];omega
theorem DT {a b:C} (h:lt a b):pos (sb b a):=by unfold lt at h;unfold pos sb;omega
theorem kh (u v w:C):v.1*xp u w=w.1*xp u v+u.1*xp v w:=by unfold xp;grind
theorem IU (a b c:C):cross a b c=xp (sb b a) (sb c a):=by unfold cross xp sb;grind
theorem cross_xp2 (a b c:C):cross a b c=xp (sb b a) (sb c b):=by unfold cross xp sb;grind
theorem JB (a b c:C):cross a b c=xp (sb c a) (sb c b):=by unfold cross xp sb;grind
theorem Q6 (u v:C):xp u v= - xp v u:=by unfold xp;grind
theorem HY (a b c:C):cross a b c= - cross a c b:=by unfold cross;grind
theorem cross_swap2 (a b c:C):cross a b c= - cross b a c:=by unfold cross;grind
theorem cross_self (a b:C):cross a b a=0:=by unfold cross;grind
theorem cross_self2 (a b:C):cross a b b=0:=by unfold cross;grind
theorem cross_self3 (a b:C):cross a a b=0:=by unfold cross;grind
theorem C8 {x y:Int} (h:0<x) (hy:0<=x*y):0<=y:=by
 apply Int.not_lt.1;intro hn
 have:=Int.mul_neg_of_pos_of_neg h hn;omega
theorem tr {u v w:C} (hu:pos u) (hv:pos v) (hw:pos w) (h1:0<=xp u v) (h2:0<=xp v w):0<=xp u w:=by
 rcases hv with hv | ⟨hv,hv2⟩
 . refine C8 hv ?_
   rw [kh];have a:=Int.mul_nonneg (show 0<=w.1 by unfold pos at hw;omega) h1;have b:=Int.mul_nonneg (show 0<=u.1 by unfold pos at hu;omega) h2;omega
 . have e1:xp v w=v.2* -w.1:=by unfold xp;rw [hv];grind
   rw [e1] at h2;have:=C8 hv2 h2;have hw1:w.1=0:=by unfold pos at hw;omega
   have hw2:0<w.2:=by unfold pos at hw;omega
   have e2:xp u w=u.1*w.2:=by unfold xp;rw [hw1];grind
   rw [e2];exact Int.mul_nonneg (by unfold pos at hu;omega) (by omega)
def CV:List C->C->List C
 | b::a::r,p=>if cross a b p<=0 then CV (a::r) p else p::b::a::r
 | st,p=>p::st
def chainR (l:List C):List C:=l.foldl CV []
def edg:List C->List (C × C)
 | b::a::r=>(a,b)::edg (a::r)
 | _=>[]
def Eb (done:List C):List C->Prop
 | c::b::a::r=>lt b c/\0<cross a b c/\(∀ q∈done,0<=cross b c q)/\Eb done (b::a::r)
 | c::b::[]=>lt b c/\∀ q∈done,0<=cross b c q
 | _=>True
theorem Eb.tail {done:List C} {b:C}:∀ {r:List C},Eb done (b::r)->Eb done r
 | [],_=>trivial
 | [_],_=>trivial
 | _::_::_,h=>h.2.2.2
theorem Eb.lt2 {done:List C} {c b:C}:∀ {r:List C},Eb done (c::b::r)->lt b c
 | [],h=>h.1
 | _::_,h=>h.1
theorem Eb.above {done:List C} {c b:C}:∀ {r:List C},Eb done (c::b::r)->∀ q∈done,0<=cross b c q
 | [],h=>h.2
 | _::_,h=>h.2.2.1
theorem Eb.one {done:List C} {q:C}:∀ {st:List C},Eb done st->(∀ e∈edg st,0<=cross e.1 e.2 q)->Eb (done++[q]) st
 | [],_,_=>trivial
 | [_],_,_=>trivial
 | [c,b],h,hq=>⟨h.1,fun x hx=>by
     rcases List.mem_append.1 hx with hx | hx
     . exact h.2 x hx
     . rw [List.mem_singleton.1 hx];exact hq (b,c) (by simp [edg])⟩
 | c::b::a::r,h,hq=>⟨h.1,h.2.1,fun x hx=>by
     rcases List.mem_append.1 hx with hx | hx
     . exact h.2.2.1 x hx
     . rw [List.mem_singleton.1 hx];exact hq (b,c) (by simp [edg]),Eb.one h.2.2.2 fun e he=>hq e (by simp only [edg,List.mem_cons] at he ⊢;exact Or.inr he)⟩
theorem TK {done:List C} {p:C}:∀ {st:List C},Eb done st->(∀ b∈st,lt b p)->(∀ b a r,st=b::a::r->0<=cross a b p)->∀ e∈edg st,0<=cross e.1 e.2 p
 | [],_,_,_,_,he=>by simp [edg] at he
 | [_],_,_,_,_,he=>by simp [edg] at he
 | [c,b],_,_,h,e,he=>by simp [edg] at he;subst he;exact h c b [] rfl
 | c::b::a::r,hg,hl,h,e,he=>by
   simp only [edg,List.mem_cons] at he;have h0:=h c b (a::r) rfl;have hba:lt a b:=hg.2.2.2.lt2;have hcb:=hg.1;rcases he with rfl | he
   . exact h0
   . refine TK hg.2.2.2 (fun x hx=>hl x (by simp [hx])) (fun x y s hs=>?_) e (by simp only [edg,List.mem_cons];exact he)
     cases hs;have h1:=hg.2.1;rw [cross_xp2] at h1 ⊢;rw [IU] at h0;exact tr (DT hba) (DT hcb) (DT (hl b (by simp))) (Int.le_of_lt h1) h0
theorem ME {done:List C} {p:C} (hp:∀ q∈done,lt q p):∀ {st:List C},Eb done st->(∀ b∈st,b∈done)->(∀ b r,st=b::r->∀ q∈done,¬ lt q b->0<=cross b p q)->(∀ f,st.getLast?= some f->∀ q∈done,¬ lt q f)->Eb (done++[p]) (CV st p)
 | [],_,_,_,_=>trivial
 | [b],_,hs,hk,h1=>by
   refine ⟨hp b (hs b (by simp)),fun q hq=>?_⟩;rcases List.mem_append.1 hq with hq | hq
   . exact hk b [] rfl q hq (h1 b rfl q hq)
   . rw [List.mem_singleton.1 hq,cross_self2];omega
 | b::a::r,hg,hs,hk,h1=>by
   have hab:=hg.lt2;have hbp:=hp b (hs b (by simp));have hap:=hp a (hs a (by simp));unfold CV;by_cases hc:cross a b p<=0
   . rw [if_pos hc]
     refine ME hp hg.tail (fun x hx=>hs x (by simp [hx])) (fun a' r' e q hq hqa=>?_) (fun f e q hq=>h1 f (by rw [List.getLast?_cons_cons];exact e) q hq);cases e;have hqp:=hp q hq;have hba:0<=xp (sb p a) (sb b a):=by rw [HY,IU] at hc;omega
     have hbp2:0<=xp (sb p b) (sb p a):=by rw [JB] at hc;rw [Q6];omega
     rcases lt_tri q b with hqb | rfl | hbq
     . rcases lt_tri a q with haq | rfl | hqa2
       . have h2:=hg.above q hq
         rw [IU] at h2 ⊢;exact tr (DT hap) (DT hab) (DT haq) hba h2
       . rw [cross_self];omega
       . exact absurd hqa2 hqa
     . rw [IU];exact hba
     . have h2:=hk b (a::r) rfl q hq (fun h=>lt_irr _ (lt_trans h hbq))
       rw [HY,JB] at h2;rw [HY,JB];have h3:0<=xp (sb p q) (sb p b):=by rw [Q6];omega
       have:=tr (DT hqp) (DT hbp) (DT hap) h3 hbp2;rw [Q6] at this;omega
   . rw [if_neg hc]
     refine ⟨hbp,by omega,fun q hq=>?_,hg.one (TK hg (fun x hx=>hp x (hs x hx)) fun b' a' r' e=>by cases e;omega)⟩;rcases List.mem_append.1 hq with hq | hq
     . rcases lt_tri q b with hqb | rfl | hbq
       . have h2:=hg.above q hq
         have h3:0<=xp (sb b q) (sb b a):=by
           have:cross a b q=xp (sb b q) (sb b a):=by unfold cross xp sb;grind
           omega
         have h4:0<=xp (sb b a) (sb p b):=by rw [<-cross_xp2];omega
         have:=tr (DT hqb) (DT hab) (DT hbp) h3 h4;have e:cross b p q=xp (sb b q) (sb p b):=by unfold cross xp sb;grind
         omega
       . rw [cross_self];omega
       . exact hk b (a::r) rfl q hq fun h=>lt_irr _ (lt_trans h hbq)
     . rw [List.mem_singleton.1 hq,cross_self2];omega
def Sorted:List C->Prop:=List.Pairwise lt
theorem pushS_head (p:C):∀ st:List C,∃ r,CV st p=p::r/\(st=[]->r=[])/\(st≠[]->r≠[]/\r.getLast?= st.getLast?)/\r.Sublist st
 | []=>⟨[],rfl,fun _=>rfl,fun h=>absurd rfl h,List.Sublist.refl _⟩
 | [b]=>⟨[b],rfl,fun h=>by simp at h,fun _=>⟨by simp,rfl⟩,List.Sublist.refl _⟩
 | b::a::r=>by
   unfold CV;by_cases h:cross a b p<=0
   . rw [if_pos h]
     obtain ⟨r',h1,_,h3,h4⟩:=pushS_head p (a::r);exact ⟨r',h1,fun h=>by simp at h,fun _=>by rw [List.getLast?_cons_cons];exact h3 (by simp),h4.cons b⟩
   . rw [if_neg h]
     exact ⟨b::a::r,rfl,fun h=>by simp at h,fun _=>⟨by simp,rfl⟩,List.Sublist.refl _⟩
structure J1 (l st:List C):Prop where
 good:Eb l st
 sub:st.reverse.Sublist l
 top:st.head?= l.getLast?
 bot:st.getLast?= l.head?
theorem chainR_snoc (l:List C) (p:C):chainR (l++[p])=CV (chainR l) p:=by simp [chainR]
theorem Dh {l:List C} (h:Sorted l) {f:C} (hf:l.head?= some f):∀ q∈l,¬ lt q f:=by
 cases l with
 | nil=>simp at hf
 | cons a r=>
   simp at hf;subst hf;intro q hq hlt;rcases List.mem_cons.1 hq with rfl | hq
   . exact lt_irr _ hlt
   . exact lt_irr _ (lt_trans hlt ((List.pairwise_cons.1 h).1 q hq))
theorem F4 (l:List C) (h:Sorted l):J1 l (chainR l):=by
 have key:∀ n,∀ l:List C,l.length=n->Sorted l->J1 l (chainR l):=by
   intro n;induction n with
   | zero=>
     intro l hl _;rw [List.length_eq_zero_iff] at hl;subst hl;exact ⟨trivial,List.Sublist.refl _,rfl,rfl⟩
   | succ n ih=>
     intro l hl hs;rcases List.eq_nil_or_concat l with rfl | ⟨l',p,rfl⟩
     . simp at hl
     rw [List.concat_eq_append] at hl hs ⊢;have hs':Sorted l':=(List.pairwise_append.1 hs).1;have hp:∀ q∈l',lt q p:=fun q hq=>(List.pairwise_append.1 hs).2.2 q hq p (by simp)
     have hi:=ih l' (by simpa using hl) hs';rw [chainR_snoc];obtain ⟨r,e,e1,e2,e3⟩:=pushS_head p (chainR l');have hmem:∀ b∈chainR l',b∈l':=fun b hb=>hi.sub.subset (List.mem_reverse.2 hb)
     refine ⟨ME hp hi.good hmem ?_ ?_,?_,?_,?_⟩
     . intro b r' hb q hq hqb
       have ht:=hi.top;rw [hb] at ht;simp at ht
       have hql:q=b:=by
         rcases List.eq_nil_or_concat l' with rfl | ⟨l2,x,rfl⟩
         . simp at hq
         . rw [List.concat_eq_append] at ht hq hs'
           simp at ht;subst ht;rcases List.mem_append.1 hq with hq | hq
           . exact absurd ((List.pairwise_append.1 hs').2.2 q hq b (by simp)) hqb
           . exact List.mem_singleton.1 hq
       rw [hql,cross_self];omega
     . intro f hf
       exact Dh hs' (by rw [<-hi.bot];exact hf)
     . rw [e,List.reverse_cons]
       exact ((List.reverse_sublist.2 e3).trans hi.sub).append (List.Sublist.refl _)
     . rw [e];simp
     . rw [e]
       by_cases h0:chainR l'=[]
       . have hl':l'=[]:=by
           have:=hi.top;rw [h0] at this;simp at this;cases l' with
           | nil=>rfl
           | cons a b=>simp [List.getLast?_cons] at this
         subst hl';rw [e1 h0];rfl
       . obtain ⟨h1,h2⟩:=e2 h0
         cases r with
         | nil=>exact absurd rfl h1
         | cons x r=>
           rw [List.getLast?_cons_cons,h2,hi.bot];cases l' with
           | nil=>exact absurd rfl h0
           | cons a b=>rfl
 exact key _ l rfl h
def steps:List C->List (C × C)
 | a::b::r=>(a,b)::steps (b::r)
 | _=>[]
theorem Kr (a b:C):∀ l:List C,steps (l++[a,b])=steps (l++[a])++[(a,b)]
 | []=>rfl
 | [x]=>rfl
 | x::y::r=>by
   have:=Kr a b (y::r);simp only [List.cons_append,steps] at this ⊢;rw [this]
theorem L9:∀ st:List C,steps st.reverse=(edg st).reverse
 | []=>rfl
 | [_]=>rfl
 | b::a::r=>by
   have h:=L9 (a::r);rw [edg,List.reverse_cons (a:=(a,b)),<-h,List.reverse_cons (a:=b),List.reverse_cons,List.append_assoc];exact Kr a b r.reverse
theorem MA (x:C) (u:List C):∀ l:List C,steps (l++x::u)=steps (l++[x])++steps (x::u)
 | []=>rfl
 | [a]=>by simp [steps]
 | a::b::r=>by
   have:=MA x u (b::r);simp only [List.cons_append,steps] at this ⊢;rw [this]
def cyc (r:List C):List (C × C):=match r with | []=>[] | a::t=>steps (a::t++[a])
def neg (p:C):C:=(-p.1, -p.2)
theorem neg_neg (p:C):neg (neg p)=p:=by simp [neg]
theorem MC (a b c:C):cross (neg a) (neg b) (neg c)=cross a b c:=by unfold cross neg;grind
theorem Qy {a b:C}:lt (neg a) (neg b)↔lt b a:=by unfold lt neg;omega
theorem On (p:C):∀ st:List C,CV (st.map neg) (neg p)=(CV st p).map neg
 | []=>rfl
 | [_]=>rfl
 | b::a::r=>by
   have ih:=On p (a::r);simp only [List.map_cons] at ih ⊢;unfold CV;simp only [MC];split
   . exact ih
   . rfl
theorem Qz (l:List C):chainR (l.map neg)=(chainR l).map neg:=by
 have key:∀ (l st:List C),(l.map neg).foldl CV (st.map neg)=(l.foldl CV st).map neg:=by
   intro l;induction l with
   | nil=>intro st;rfl
   | cons a l ih=>intro st;simp only [List.map_cons,List.foldl_cons];rw [On,ih]
 exact key l []
theorem Ks {l:List C} (h:Sorted l):Sorted (l.reverse.map neg):=by
 unfold Sorted at*;rw [List.pairwise_map,List.pairwise_reverse];exact h.imp fun h=>Qy.2 h
theorem TD (f:C->C):∀ st:List C,edg (st.map f)=(edg st).map fun e=>(f e.1,f e.2)
 | []=>rfl
 | [_]=>rfl
 | b::a::r=>by
   have:=TD f (a::r);simp only [List.map_cons,edg] at this ⊢;rw [this]
def Bo (l:List C):List C:=if l.length<3 then l else (chainR l).tail.reverse++(chainR l.reverse).tail.reverse
theorem Yp {l:List C} (h:Sorted l):J1 (l.reverse.map neg) ((chainR l.reverse).map neg):=by
 rw [<-Qz];exact F4 _ (Ks h)
theorem Yq {l st:List C} (h:J1 l st) {a:C} (ha:l.getLast?= some a):∃ t,st=a::t:=by
 have:=h.top;rw [ha] at this;cases st with
 | nil=>simp at this
 | cons b t=>simp at this;exact ⟨t,by rw [this]⟩
theorem Q2 {l:List C} (h:Sorted l) (h2:2<=l.length):∃ f g lo up,l.head?= some f/\l.getLast?= some g/\f≠g/\chainR l=g::lo/\chainR l.reverse=f::up/\lo.getLast?= some f/\up.getLast?= some g:=by
 cases l with
 | nil=>simp at h2
 | cons f r=>
   rcases List.eq_nil_or_concat r with rfl | ⟨m,g,rfl⟩
   . simp at h2
   rw [List.concat_eq_append] at*
   have hfg:f≠g:=by
     intro e;have:=(List.pairwise_cons.1 h).1 g (by simp);rw [e] at this;exact lt_irr _ this
   have hl:(f::(m++[g])).getLast?= some g:=by rw [show f::(m++[g])=(f::m)++[g] from rfl,List.getLast?_append];rfl
   obtain ⟨lo,hlo⟩:=Yq (F4 _ h) hl;have hu:=Yp h;have hl2:((f::(m++[g])).reverse.map neg).getLast?= some (neg f):=by rw [List.getLast?_map,List.getLast?_reverse];rfl
   obtain ⟨u',hu'⟩:=Yq hu hl2;have hb:=(F4 _ h).bot;rw [hlo] at hb;have hub:=hu.bot
   obtain ⟨up,hup⟩:∃ up,chainR (f::(m++[g])).reverse=f::up:=by
     cases hc:chainR (f::(m++[g])).reverse with
     | nil=>rw [hc] at hu';simp at hu'
     | cons a t=>
       rw [hc] at hu';simp only [List.map_cons,List.cons.injEq] at hu';have:a=f:=by rw [<-neg_neg a,hu'.1,neg_neg]
       exact ⟨t,by rw [this]⟩
   refine ⟨f,g,lo,up,rfl,hl,hfg,hlo,hup,?_,?_⟩
   . cases lo with
     | nil=>simp at hb;exact absurd hb.symm hfg
     | cons a t=>rw [List.getLast?_cons_cons] at hb;rw [hb];rfl
   . rw [hup] at hub
     simp at hub;cases up with
     | nil=>
       simp at hub;have:f=g:=by rw [<-neg_neg f,hub,neg_neg]
       exact absurd this hfg
     | cons a t=>
       simp [List.getLast?_cons_cons] at hub;rw [<-List.map_cons,List.getLast?_map,Option.map_eq_some_iff] at hub;obtain ⟨x,hx1,hx2⟩:=hub;rw [hx1,show x=g by rw [<-neg_neg x,hx2,neg_neg]]
def le (a b:C):Prop:=¬ lt b a
theorem HE (st:List C) (e:C × C):e∈steps st.reverse↔e∈edg st:=by rw [L9,List.mem_reverse]
theorem XP {l:List C} (h:Sorted l) (h3:3<=l.length) (e:C × C):e∈cyc (Bo l)↔e∈edg (chainR l)\/e∈edg (chainR l.reverse):=by
 obtain ⟨f,g,lo,up,hf,hg,hfg,e1,e2,b1,b2⟩:=Q2 h (by omega);unfold Bo;rw [if_neg (by omega),e1,e2];simp only [List.tail_cons]
 obtain ⟨lo',rfl⟩:∃ lo',lo=lo'++[f]:=by
   rcases List.eq_nil_or_concat lo with rfl | ⟨x,y,rfl⟩
   . simp at b1
   . rw [List.concat_eq_append] at b1 ⊢;simp at b1;exact ⟨x,by rw [b1]⟩
 obtain ⟨up',rfl⟩:∃ up',up=up'++[g]:=by
   rcases List.eq_nil_or_concat up with rfl | ⟨x,y,rfl⟩
   . simp at b2
   . rw [List.concat_eq_append] at b2 ⊢;simp at b2;exact ⟨x,by rw [b2]⟩
 have hc:cyc ((lo'++[f]).reverse++(up'++[g]).reverse)=steps ((g::(lo'++[f])).reverse)++steps ((f::(up'++[g])).reverse):=by
   simp only [List.reverse_append,List.reverse_cons,List.reverse_nil,List.nil_append,List.cons_append,cyc];have:=MA g (up'.reverse++[f]) (f::lo'.reverse);simpa [List.append_assoc] using this
 rw [hc,List.mem_append,HE,HE]
theorem I5 {done:List C}:∀ {st:List C},Eb done st->∀ e∈edg st,lt e.1 e.2/\∀ q∈done,0<=cross e.1 e.2 q
 | [],_,_,he=>by simp [edg] at he
 | [_],_,_,he=>by simp [edg] at he
 | c::b::r,h,e,he=>by
   simp only [edg,List.mem_cons] at he;rcases he with rfl | he
   . exact ⟨h.lt2,h.above⟩
   . exact I5 h.tail e he
theorem dU {l:List C} (h:Sorted l):∀ e∈edg (chainR l.reverse),lt e.2 e.1/\∀ q∈l,0<=cross e.1 e.2 q:=fun e he=>by
 have hg:=(Yp h).good;obtain ⟨h1,h2⟩:=I5 hg (neg e.1,neg e.2) (by rw [TD];exact List.mem_map.2 ⟨e,he,rfl⟩);refine ⟨Qy.1 h1,fun q hq=>?_⟩;have:=h2 (neg q) (List.mem_map.2 ⟨q,List.mem_reverse.2 hq,rfl⟩)
 rwa [MC] at this
theorem UN {l:List C} (h:Sorted l) (h3:3<=l.length):∀ e∈cyc (Bo l),∀ q∈l,0<=cross e.1 e.2 q:=fun e he=>by
 rcases (XP h h3 e).1 he with he | he
 . exact (I5 (F4 l h).good e he).2
 . exact (dU h e he).2
theorem hull_sub {l:List C} (h:Sorted l):∀ p∈Bo l,p∈l:=fun p hp=>by
 unfold Bo at hp;split at hp
 . exact hp
 . rcases List.mem_append.1 hp with hp | hp
   . exact (F4 l h).sub.subset (List.mem_reverse.2 (List.mem_of_mem_tail (List.mem_reverse.1 hp)))
   . have h1:=List.mem_of_mem_tail (List.mem_reverse.1 hp)
     have h2:=(Yp h).sub.subset (List.mem_reverse.2 (List.mem_map.2 ⟨p,h1,rfl⟩));obtain ⟨q,hq,e⟩:=List.mem_map.1 h2;have:p=q:=by rw [<-neg_neg p,<-e,neg_neg]
     rw [this];exact List.mem_reverse.1 hq
end Go.Geo
namespace Go.Proofs.Tryz
open Go.Psl
open Go.Geo (cross CV chainR)
def Fo:List (Int × Int)->Int × Int->List (Int × Int)
 | b::a::r,p=>if cross a b p<=0 then Fo (a::r) p else b::a::r
 | st,_=>st
theorem Ek (p:Int × Int):∀ st,CV st p=p::Fo st p
 | []=>rfl
 | [_]=>rfl
 | b::a::r=>by
   unfold CV Fo;split
   . exact Ek p (a::r)
   . rfl
theorem N9 (p:Int × Int):∀ st q,q∈Fo st p->q∈st
 | [],q,h=>h
 | [_],q,h=>h
 | b::a::r,q,h=>by
   unfold Fo at h;split at h
   . exact List.mem_cons_of_mem _ (N9 p (a::r) q h)
   . exact h
theorem OA {p a b:Int × Int} {r:List (Int × Int)}:Fo (b::a::r) p=if cross a b p<=0 then Fo (a::r) p else b::a::r:=rfl
theorem KK (p:Int × Int):∀ st,(Fo st p).length<=st.length
 | []=>Nat.le_refl _
 | [_]=>Nat.le_refl _
 | b::a::r=>by
   unfold Fo;split
   . exact Nat.le_succ_of_le (KK p (a::r))
   . exact Nat.le_refl _
theorem Ez:∀ (l:List (Int × Int)),(chainR l).length<=l.length:=fun l=>by
 have key:∀ (l st:List (Int × Int)),(l.foldl CV st).length<=st.length+l.length:=by
   intro l;induction l with
   | nil=>intro st;simp
   | cons a l ih=>
     intro st;have:=ih (CV st a);have h2:=KK a st;rw [Ek] at this;simp only [List.foldl_cons,List.length_cons] at this ⊢;rw [Ek];omega
 have:=key l [];simpa [chainR] using this
theorem QA {l:List (Int × Int)}:∀ q∈chainR l,q∈l:=fun q h=>by
 have key:∀ (l st:List (Int × Int)),∀ q∈l.foldl CV st,q∈l\/q∈st:=by
   intro l;induction l with
   | nil=>intro st q h;exact Or.inr h
   | cons a l ih=>
     intro st q h;rcases ih _ q h with h | h
     . exact Or.inl (List.mem_cons_of_mem _ h)
     . rw [Ek] at h
       rcases List.mem_cons.1 h with rfl | h
       . exact Or.inl (List.mem_cons_self ..)
       . exact Or.inr (N9 a st q h)
 rcases key l [] q h with h | h
 . exact h
 . simp at h
theorem QB {l:List (Int × Int)} {i:Nat} {p:Int × Int} (h:l[i]?= some p):chainR (l.take (i+1))=p::Fo (chainR (l.take i)) p:=by
 rw [List.take_add_one,h]
 show chainR (l.take i++[p])=_
 rw [Go.Geo.chainR_snoc,Ek]
def Ld (out z:List (Int × Int)) (b:Nat):List (Nat × List V):=if out.isEmpty then [] else [(b,BC (out++z))]
@[simp] theorem mX (z:List (Int × Int)) (b:Nat):Ld [] z b=[]:=rfl
theorem CN (l z:List (Int × Int)) (p:Int × Int) (b:Nat):Ld (l++[p]) z b=[(b,BC (l++[p]++z))]:=by simp [Ld]
theorem KL (l z:List (Int × Int)):List.take (l.length*2) (List.map V.d (spD (l++z)))=List.map V.d (spD l):=by
 rw [<-List.map_take,KY,List.take_left]
theorem Sj (p:Int × Int) (l:List (Int × Int)):List.map V.d (spD (l++[p]))=List.map V.d (spD l)++[vi p.1,vi p.2]:=by rw [bZ];simp
theorem CO (O:List (Int × Int)):O=[]\/∃ o x,O=o++[x]:=by
 rcases List.eq_nil_or_concat O with rfl | ⟨o,x,rfl⟩
 . exact Or.inl rfl
 . exact Or.inr ⟨o,x,List.concat_eq_append⟩
theorem GP {O:List (Int × Int)} (h:O≠[]) (b:Nat):Ju O b= .ls b 0 O.length 2:=by
 obtain rfl | ⟨o,x,rfl⟩:=CO O
 . exact absurd rfl h
 . simp
theorem GQ {O z:List (Int × Int)} (h:O≠[]) (b:Nat):Ld O z b=[(b,BC (O++z))]:=by
 obtain rfl | ⟨o,x,rfl⟩:=CO O
 . exact absurd rfl h
 . exact CN o z x b
theorem XN (O z:List (Int × Int)) (b n:Nat) (h:b<n):A7 n (Ld O z b):=by
 obtain rfl | ⟨o,x,rfl⟩:=CO O
 . trivial
 . rw [CN]
   simp [h]
theorem jj (O:List (Int × Int)) (b n:Nat) (h:b<n):AC (· < n) AR (Ju O b):=by
 obtain rfl | ⟨o,x,rfl⟩:=CO O
 . simp
 . simp [h]
theorem OL {Γ:Tys} {t:TypeId} {O:List (Int × Int)} {b:Nat}:Iy Γ t (Ju O b)=(Γ t).bind fun y=>match y.sh with | .slice _=>some (.d (.lit (.int .i64 O.length)), .none) | _=>none:=by
 obtain rfl | ⟨o,x,rfl⟩:=CO O
 . exact OQ
 . rw [En,Sw];congr;funext y;cases y.sh<;>simp
theorem QH (a b p:Int × Int):TX (DU a b) (DU b p)=cross a b p:=(Go.Geo.cross_xp2 a b p).symm
theorem Lv {l:List (Int × Int)} (h2:2<=l.length):∃ top rest,chainR l=top::rest/\rest≠[]:=by
 rcases List.eq_nil_or_concat l with rfl | ⟨l',p,rfl⟩
 . simp at h2
 . rw [List.concat_eq_append,Go.Geo.chainR_snoc]
   obtain ⟨r,e,_,e2,_⟩:=Go.Geo.pushS_head p (chainR l');refine ⟨p,r,e,fun hr=>?_⟩
   have hne:chainR l'≠[]:=by
     cases l' with
     | nil=>simp at h2
     | cons x l'=>
       rcases List.eq_nil_or_concat (x::l') with h | ⟨m,y,h⟩
       . simp at h
       . rw [h,List.concat_eq_append,Go.Geo.chainR_snoc,Ek];simp
   exact (e2 hne).1 hr
theorem qC (B z l zl:List (Int × Int)) (hB:B.length<=100000) (hl:l.length<=100000) (hbd:∀ q∈l,bd 536870912 q) (h2:2<=l.length):
   ∃ z',Cm prog 182 [.lp 0 0, .lp 1 0] (lk ((0,[Ju B 3])::(1,[.ls 2 0 l.length 2])::(2,BC (l++zl))::Ld B z 3)) [0,1,2] (.ret (.tup []))
     (lk ((0,[Ju (B++(chainR l).tail.reverse) 4])::(1,[.ls 2 0 l.length 2])::(2,BC (l++zl))::Ld (B++(chainR l).tail.reverse) z' 4)):=by
 obtain ⟨top,rest,hch,hrest⟩:=Lv h2;refine ⟨[top],?_⟩;rw [hch,List.tail_cons];have hrr:rest.reverse≠[]:=by simp [hrest]
 have hR:B++rest.reverse≠[]:=by simp [hrest]
 rw [GP hR,GQ hR];refine Cm.by gok eok mixed 4 func182 c182 rfl (by simp [ntmps182]) (by simp) (A7.at ?_) (by simp) ?_ fun E hE hs=>?_
 . refine ⟨by show 0<4;omega,fun c hc=>?_,by show 1<4;omega,fun c hc=>?_,by show 2<4;omega,fun c hc=>?_,XN _ _ _ _ (by omega)⟩
   . simp at hc;subst hc;exact jj B 3 4 (by omega)
   . simp at hc;subst hc;simp
   . exact iI c hc
 . simp [LD]
 have hst0:chainR (l.take 0)=[]:=by simp [chainR]
 have hcl:=fun i=>Ez (l.take i)
 have hcm:∀ i,∀ q∈chainR (l.take i),bd 536870912 q:=fun i q hq=>hbd q (List.mem_of_mem_take (QA q hq))
 obtain ⟨dl,hdl⟩:∃ dl,spD (l++zl)=dl:=⟨_,rfl⟩
 have hdl':BC (l++zl)=dl.map V.d:=by rw [<-hdl]
 have hlat:∀ i p,l[i]?= some p->List.take 2 (List.drop (i*2) (dl.map V.d))=[vi p.1,vi p.2]:=fun i p h=>by
   rw [<-hdl];exact Cp (by rw [List.getElem?_append_left (List.getElem?_eq_some_iff.1 h).1];exact h)
 have hlcl:l.length*2<=dl.length:=by rw [<-hdl];simp;omega
 rw [hdl'];simp [p182,OL]
 refine Al (α:=Nat × List (Int × Int)) (fun x=>⟨AO [(0, .lp 0 0),(1, .lp 1 0),(2,vi B.length),(7, .ls 2 0 l.length 2),(8,vi l.length),(9,vi x.1)],lk ((0,[Ju (B++(chainR (l.take x.1)).reverse) 3])::(1,[.ls 2 0 l.length 2])::(2,dl.map .d)::Ld (B++(chainR (l.take x.1)).reverse) x.2 3),4⟩)
   (fun x=>x.1<=l.length/\(x.1=l.length->x.2=[])) (fun x=>l.length-x.1) (0,z) ?_ ?_ ?_
 . exact ⟨by omega,fun h=>by simp only at h;omega⟩
 . simp only [hst0,List.reverse_nil,List.append_nil]
   obtain rfl | ⟨b0,x0,rfl⟩:=CO B
   . exact WKM hE (lk [(0,0),(1,1),(2,2)])
   . rw [CN]
     exact WKM hE (lk [(0,0),(1,1),(2,2),(3,3)])
 rintro ⟨i,z⟩ ⟨hi,hz⟩
 simp only at hi hz;simp [APP];refine Bh (fun h=>?_) (fun h=>?_)
 . simp at h
   obtain ⟨p,hp⟩:∃ p,l[i]?= some p:=⟨l[i],by simp [h]⟩
   have hpm:=hbd p (List.mem_of_getElem? hp);have cp:=hlat i p hp;have q1:i*2+2<=dl.length:=by omega
   have w1:=@wz i (by omega);have hct:=QB hp;have hci:=hcl i;have hcmi:=hcm i;have wB:IntKind.wrap .i64 ((B.length:Int)+1)=(B.length:Int)+1:=AD (by omega) (by omega);obtain ⟨st0,hst⟩:∃ st0,chainR (l.take i)=st0:=⟨_,rfl⟩
   rw [hst] at hct hci hcmi ⊢;have hl0:st0.length<=100000:=by simp at hci;omega
   simp [h,cp,q1,AA]
   refine BL (α:=List (Int × Int) × List (Int × Int)) 2 (fun z:List (Int × Int)=>⟨AO [(0, .lp 0 0),(1, .lp 1 0),(2,vi B.length),(4, .lp 4 0),(7, .ls 2 0 l.length 2),(8,vi l.length),(9,vi i)],lk ((0,[Ju (B++(Fo st0 p).reverse) 3])::(1,[.ls 2 0 l.length 2])::(2,dl.map .d)::(4,[vi p.1,vi p.2])::Ld (B++(Fo st0 p).reverse) z 3),5⟩) (fun _=>True)
     (fun x=>⟨AO [(0, .lp 0 0),(1, .lp 1 0),(2,vi B.length),(4, .lp 4 0),(7, .ls 2 0 l.length 2),(8,vi l.length),(9,vi i)],lk ((0,[Ju (B++x.1.reverse) 3])::(1,[.ls 2 0 l.length 2])::(2,dl.map .d)::(4,[vi p.1,vi p.2])::Ld (B++x.1.reverse) x.2 3),5⟩)
     (fun x=>Fo x.1 p=Fo st0 p/\x.1.length<=100000/\∀ q∈x.1,bd 536870912 q) (fun x=>x.1.length) (st0,z) ?_ ?_ ?_ fun zz _=>?_
   . exact ⟨rfl,hl0,hcmi⟩
   . obtain e | ⟨b0,x0,e⟩:=CO (B++st0.reverse)<;>rw [e]
     . exact WKM hE (lk [(0,0),(1,1),(2,2),(4,3145732)])
     . rw [CN]
       exact WKM hE (lk [(0,0),(1,1),(2,2),(3,3),(4,3145732)])
   . rintro ⟨st,z⟩ ⟨hpop,hlen,hm⟩
     simp only at hpop hlen hm;by_cases h2s:st.length<2
     . have hps:Fo st0 p=st:=by
         rw [<-hpop]
         match st,h2s with
         | [],_=>rfl
         | [_],_=>rfl
         | _::_::_,h=>simp at h;omega
       rw [hps];obtain ⟨O,hO⟩:∃ O,B++st.reverse=O:=⟨_,rfl⟩
       have hOl:O.length=B.length+st.length:=by rw [<-hO];simp
       rw [hO];have hlt:¬ ((B.length:Int)+1<(O.length:Int)):=by omega
       simp [JK,OL,wB,hlt,inC,Nat.testBit];refine ⟨z,?_⟩;obtain rfl | ⟨b0,x0,rfl⟩:=CO O
       . exact WKM hE (lk [(0,0),(1,1),(2,2),(4,4)])
       . rw [CN]
         exact WKM hE (lk [(0,0),(1,1),(2,2),(3,3),(4,4)])
     . obtain ⟨b,a,r,rfl⟩:∃ b a r,st=b::a::r:=by
         match st,h2s with
         | b::a::r,_=>exact ⟨b,a,r,rfl⟩
         | [],h=>simp at h
         | [_],h=>simp at h
       have ba:=hm a (by simp);have bb:=hm b (by simp);obtain ⟨m,hmm⟩:∃ m,m=B.length+r.length:=⟨_,rfl⟩
       obtain ⟨m1,hm1⟩:∃ m1,m1=m+1:=⟨_,rfl⟩
       obtain ⟨O,hO⟩:∃ O,B++(b::a::r).reverse=O:=⟨_,rfl⟩
       have hO2:O=B++r.reverse++[a]++[b]:=by rw [<-hO];simp
       have hO3:B++(a::r).reverse=B++r.reverse++[a]:=by simp
       obtain ⟨N,hN⟩:∃ N,O.length=N:=⟨_,rfl⟩
       have hNm:N=m+2:=by rw [<-hN,hO2,hmm];simp;omega
       have hOne:O≠[]:=by rw [hO2];simp
       have ha':(O++z)[m]?= some a:=by
         rw [hO2,hmm];simp only [List.append_assoc];rw [List.getElem?_append_right (by omega),List.getElem?_append_right (by simp),List.length_reverse,show B.length+r.length-B.length-r.length=0 by omega];rfl
       have hb':(O++z)[m1]?= some b:=by
         rw [hO2,hm1,hmm];simp only [List.append_assoc];rw [List.getElem?_append_right (by omega),List.getElem?_append_right (by simp;omega),List.length_reverse,show B.length+r.length+1-B.length-r.length=1 by omega];rfl
       have ca:=Cp ha';have cb:=Cp hb';obtain ⟨ds,hds⟩:∃ ds,spD (O++z)=ds:=⟨_,rfl⟩
       have hdsl:N*2<=ds.length:=by rw [<-hds,Di,List.length_append,hN];omega
       rw [hds] at ca cb;rw [hO,GP hOne,GQ hOne,hN,show BC (O++z)=ds.map V.d by rw [<-hds]];have w2:IntKind.wrap .i64 ((N:Int)-2)=(m:Int):=by simp at hlen;rw [AD (by omega) (by omega)];omega
       have w3:IntKind.wrap .i64 ((N:Int)-1)=(m1:Int):=by simp at hlen;rw [AD (by omega) (by omega)];omega
       have hlt:(B.length:Int)+1<(N:Int):=by omega
       have l1:m<N:=by omega
       have l2:m1<N:=by omega
       have l3:m*2+2<=ds.length:=by omega
       have l4:m1*2+2<=ds.length:=by omega
       have l5:m1<=N:=by omega
       have e1:=NL (N:=1073741824) ba bb (by omega);have e2:=NL (N:=1073741824) bb hpm (by omega);have big:∀ q,bd 536870912 q->bd 1152921504606846976 q:=fun q h=>by unfold bd at*;omega
       have big2:∀ q,bd 1073741824 q->bd 2000000000 q:=fun q h=>by unfold bd at*;omega
       simp [JK,wB,hlt,inC,Nat.testBit,w2,w3,l1,l2,l3,l4,ca,cb];refine CLa (rL a b (big _ ba) (big _ bb)) ?_;simp [inC,Nat.testBit,w3,l2,l4,cb];refine CLa (rL b p (big _ bb) (big _ hpm)) ?_;simp;refine CLa (jI (DU a b) (DU b p) (big2 _ e1) (big2 _ e2)) ?_;rw [QH];by_cases hc:cross a b p<=0
       . simp [hc,w3,l5,AA]
         refine ⟨a::r,⟨by rw [<-hpop,OA,if_pos hc],by simp at hlen ⊢;omega,fun q1 q2 hq=>hm (q1,q2) (List.mem_cons_of_mem _ hq)⟩,by simp,[b]++z,?_⟩;rw [hO3,En,CN,show BC (B++r.reverse++[a]++([b]++z))=ds.map V.d by rw [<-hds,hO2];simp];refine AI.mkM hE (lk [(0,0),(1,1),(2,2),(3,3),(4,4)]) _ _ _ ?_ ?_ ?_ ?_ ?_ ?_<;>simp
         omega
       . have hps:Fo st0 p=b::a::r:=by rw [<-hpop,OA,if_neg hc]
         rw [hps,hO,GP hOne,hN];simp [hc];refine ⟨z,?_⟩;rw [GQ hOne,show BC (O++z)=ds.map V.d by rw [<-hds]];exact WKM hE (lk [(0,0),(1,1),(2,2),(3,3),(4,4)])
   . have hpl:=KK p st0
     obtain ⟨O,hO⟩:∃ O,B++(Fo st0 p).reverse=O:=⟨_,rfl⟩
     have hOl:O.length<=200000:=by rw [<-hO];simp;omega
     have hnx:B++(chainR (l.take (i+1))).reverse=O++[p]:=by rw [hct,<-hO];simp
     rw [hO];have fin:BC (O++[p])=(spD O).map V.d++[vi p.1,vi p.2]:=Sj p O;obtain rfl | ⟨o,x,rfl⟩:=CO O
     . simp [AM,AA,w1]
       refine ⟨i+1,[],⟨by omega,fun _=>rfl⟩,by omega,?_⟩;rw [hnx,En,CN,List.append_nil,fin];exact WKM hE (lk [(0,0),(1,1),(2,2),(3,3145733)])
     . have htk:=KL (o++[x]) zz
       have hdl3:=Di (o++[x]++zz);have hOne:o++[x]≠[]:=by simp
       obtain ⟨N,hN⟩:∃ N,(o++[x]).length=N:=⟨_,rfl⟩
       have hdo:=Di (o++[x]);rw [List.length_append,hN] at hdl3;rw [hN] at htk hOl hdo;rw [GP hOne,GQ hOne,hN];have hcc:BC (o++[x]++zz)=List.map V.d (spD (o++[x]++zz)):=rfl;rw [hcc]
       generalize spD (o++[x]++zz)=ds at htk hdl3 ⊢
       generalize spD (o++[x])=eo at fin htk hdo
       have hfit:N*2<=ds.length/\(N+1)*16<=140737488355328/\N+1<=9223372036854775807:=by omega
       simp [AM,AA,w1,hfit,htk];refine ⟨i+1,[],⟨by omega,fun _=>rfl⟩,by omega,?_⟩;rw [hnx,En,CN,List.append_nil,fin,hN];refine AI.mkM hE (lk [(0,0),(1,1),(2,2),(3,3145733)]) _ _ _ ?_ ?_ ?_ ?_ ?_ ?_<;>simp
       rintro c (⟨a,_,rfl⟩ | rfl | rfl)<;>simp
 . simp at h
   have hil:i=l.length:=by omega
   subst hil;rw [hz rfl,List.take_length,hch,List.reverse_cons,<-List.append_assoc,En,CN];obtain ⟨O,hO⟩:∃ O,B++rest.reverse=O:=⟨_,rfl⟩
   rw [hO]
   try rw [hO] at hR
   have hOl:O.length<=1000000:=by
     have:=hcl l.length;rw [List.take_length,hch] at this;rw [<-hO];simp at this ⊢;omega
   have w2:IntKind.wrap .i64 (O.length:Int)=(O.length:Int):=AD (by omega) (by omega);have hOr:O.length=B.length+rest.length:=by rw [<-hO];simp
   have hOn:(O.length:Int)<=(O.length:Int)+1:=by omega
   have hOm:O.length<=O.length+1:=by omega
   have hcO:=Sj top O;rw [List.append_nil,show BC (O++[top])=(spD O).map V.d++[vi top.1,vi top.2] from hcO];simp [w2,hOn,AA];refine AB.by (lk [(0,0),(1,1),(2,2),(4,3)]) ?_;simp [results182];exact hOr
open Go.Geo (cross CV chainR Bo)
def DK (l:List (Int × Int)):List (Int × Int):=l.mergeSort fun x y=>!decide (Dw y x<0)
def Fb (l:List (Int × Int)):List (Int × Int):=Bo (ddC (DK l))
theorem El (l:List (Int × Int)):(DK l).length=l.length:=List.length_mergeSort _
theorem Lw (l:List (Int × Int)) (p:Int × Int):p∈DK l↔p∈l:=(List.mergeSort_perm l _).mem_iff
theorem Su {p:Int × Int}:∀ l:List (Int × Int),p∈ddC l↔p∈l:=by
 have key:∀ (l d:List (Int × Int)),p∈l.foldl DQ d↔p∈d\/p∈l:=by
   intro l;induction l with
   | nil=>intro d;simp
   | cons a l ih=>
     intro d;rw [List.foldl_cons,ih];unfold DQ;by_cases h:d.getLast?= some a
     . rw [if_pos h]
       have:=List.mem_of_getLast? h;simp only [List.mem_cons];constructor
       . rintro (h | h);exact Or.inl h;exact Or.inr (Or.inr h)
       . rintro (h | rfl | h);exact Or.inl h;exact Or.inl this;exact Or.inr h
     . rw [if_neg h]
       simp only [List.mem_append,List.mem_cons,List.not_mem_nil,or_false];constructor
       . rintro ((h | h) | h);exact Or.inl h;exact Or.inr (Or.inl h);exact Or.inr (Or.inr h)
       . rintro (h | h | h);exact Or.inl (Or.inl h);exact Or.inl (Or.inr h);exact Or.inr h
 intro l;have:=key l [];simp only [List.not_mem_nil,false_or] at this;exact this
theorem pS (hsort:∀ l:List (Int × Int),0<l.length->l.length<=100000->Cm prog 179 [.ls 0 0 l.length 2, .d (.fn 180 [])] (lk [(0,BC l)]) [0] (.ret (.tup [])) (lk [(0,BC (DK l))]))
   (l:List (Int × Int)) (h1:0<l.length) (hl:l.length<=100000) (hbd:∀ q∈l,bd 536870912 q):∃ z,Ct prog 167 [.d (An l)] (.ls 0 0 (Fb l).length 2) [(0,BC (Fb l++z))]:=by
 have hne:l≠[]:=by intro h;rw [h] at h1;simp at h1
 obtain ⟨L,hL⟩:∃ L,ddC (DK l)=L:=⟨_,rfl⟩
 have hLm:∀ q∈L,bd 536870912 q:=fun q hq=>hbd q (by rw [<-hL,Su,Lw] at hq;exact hq)
 have hLl:L.length<=l.length:=by
   have:=I6 (DK l) l.length;rw [List.take_of_length_le (by rw [El];omega),hL] at this;exact this
 have c1:=rJ l (by omega) hne;have c2:=hsort l h1 hl;have c3:=qB (DK l) (by rw [El];omega);rw [El,hL] at c3;obtain ⟨zl,hzl⟩:∃ zl,List.replicate (l.length-L.length) ((0:Int),(0:Int))=zl:=⟨_,rfl⟩
 rw [hzl] at c3;unfold Fb;rw [hL]
 have hLpos:0<L.length:=by
   obtain ⟨p,hp⟩:=List.exists_mem_of_length_pos h1;have:p∈L:=by rw [<-hL,Su,Lw];exact hp
   exact List.length_pos_of_mem this
 have n1:spD l≠[]:=by intro h;have:=congrArg List.length h;simp at this;omega
 have n2:spD (DK l)≠[]:=by intro h;have:=congrArg List.length h;rw [Di,El] at this;simp at this;omega
 have n3:∀ z,spD (L++z)≠[]:=by intro z h;have:=congrArg List.length h;simp at this;omega
 have d2:=c2.rename (fun _=>2097152) 1 (by omega) (by simp) (by simp) (by simp);have d3:=c3.rename (fun _=>2097152) 1 (by omega) (by simp) (by simp) (by simp);simp [Ea,HW] at d2 d3;by_cases h3:L.length<3
 . refine ⟨zl,?_⟩
   have e:Bo L=L:=by unfold Bo;rw [if_pos h3]
   have h3':(L.length:Int)<3:=by omega
   rw [e];refine CB func167 ASh fun E hE=>?_
   simp [p167];refine CLa c1 ?_;simp [AA];refine CRs d2 (by simp [n1]) ?_;simp;refine CRs d3 (by simp [n2]) ?_;simp [AA,h3'];refine AB.by (lk [(0,2097152)]) ?_;simp [results167]
 . have h3':¬ (L.length:Int)<3:=by omega
   obtain ⟨z1,c4⟩:=qC [] [] L zl (by simp) (by omega) hLm (by omega);have c5:=rD L zl (by omega);obtain ⟨lo,hlo⟩:∃ lo,(chainR L).tail.reverse=lo:=⟨_,rfl⟩
   have hlol:lo.length<=100000:=by
     have:=Ez L;rw [<-hlo];simp;omega
   obtain ⟨z2,c6⟩:=qC lo z1 L.reverse zl (by omega) (by rw [List.length_reverse];omega) (fun q hq=>hLm q (List.mem_reverse.1 hq)) (by rw [List.length_reverse];omega);have e:Bo L=lo++(chainR L.reverse).tail.reverse:=by unfold Bo;rw [if_neg h3,hlo]
   rw [<-e] at c6;rw [hlo,List.nil_append] at c4
   have hlone:lo≠[]:=by
     obtain ⟨top,rest,h,hr⟩:=Lv (l:=L) (by omega);rw [<-hlo,h];simpa using hr
   have hRne:Bo L≠[]:=by rw [e];simp [hlone]
   rw [GP hlone,GQ hlone] at c4 c6;rw [GP hRne,GQ hRne,List.length_reverse] at c6;have n4:∀ z,spD (L.reverse++z)≠[]:=by intro z h;have:=congrArg List.length h;simp at this;omega
   have n5:∀ z,spD (lo++z)≠[]:=by intro z h;have:=congrArg List.length h;have h8:=List.length_pos_iff.2 hlone;simp only [Di,List.length_append,List.length_nil] at this;omega
   refine ⟨z2,?_⟩;refine CB func167 ASh fun E hE=>?_
   simp [p167];refine CLa c1 ?_;simp [AA];refine CRs d2 (by simp [n1]) ?_;simp;refine CRs d3 (by simp [n2]) ?_;have d4:=c4.rename (fun i=>if i=0 then 13631488 else if i=1 then 3145728 else if i=2 then 2097152 else i) 5 (by intro i j hi hj h;(repeat' split at h)<;>omega) (by simp) (by simp) (by simp);have d5:=c5.rename (fun _=>2097152) 1 (by omega) (by simp) (by simp) (by simp);have d6:=c6.rename (fun i=>if i=0 then 13631488 else if i=1 then 3145728 else if i=2 then 2097152 else if i=3 then 17825796 else i) 5 (by intro i j hi hj h;(repeat' split at h)<;>omega) (by simp) (by simp) (by simp);simp [Ea,HW] at d4 d5 d6;simp [AA,h3'];refine CRs d4 (by simp [n3]) ?_;simp;refine CRs d5 (by simp [n3]) ?_;simp;refine CRs d6 (by simp [n4]) ?_;simp;refine AB.by (lk [(0,22020100)]) ?_;simp [results167]
def SortOk:Prop:=∀ l:List (Int × Int),0<l.length->l.length<=100000->Cm prog 179 [.ls 0 0 l.length 2, .d (.fn 180 [])] (lk [(0,BC l)]) [0] (.ret (.tup [])) (lk [(0,BC (DK l))])
def C7 (r:List (Int × Int)):Bool:=decide (1<=r.length)&&decide (r.length<=64)&&EJ r&&decide (Fb r=r)
theorem fC {l:List (Int × Int)} (h:EJ l=true):∀ q∈l,bd 536870912 q:=fun q hq=>by
 have:=NH.1 (List.all_eq_true.1 h q hq);unfold bd at*;omega
theorem AUl {l:List (Int × Int)} (h:EJ l=true):∀ q∈l,bd 268435456 q:=fun q hq=>NH.1 (List.all_eq_true.1 h q hq)
theorem VM (l:List (Int × Int)):(Fb l).length<=2*l.length:=by
 have h1:(ddC (DK l)).length<=l.length:=by
   have:=I6 (DK l) l.length;rw [List.take_of_length_le (by rw [El];omega)] at this;exact this
 unfold Fb Bo;split
 . omega
 . have h2:=Ez (ddC (DK l))
   have h3:=Ez (ddC (DK l)).reverse;simp at h3 ⊢;omega
theorem fD {H:Hp} {id:Nat} {l z:List (Int × Int)} (h:H id=some (BC (l++z))):Bor H (.ls id 0 l.length 2) (.d (An l)):=by
 rw [Bk];refine ⟨rfl,by simp,fun e he=>?_,_,h,?_⟩
 . simp only [List.mem_map] at he
   obtain ⟨k,_,rfl⟩:=he;rfl
 . rw [Om,List.drop_zero,KL]
theorem qu (hS:SortOk) (r:List (Int × Int)) (hr:r.length<=1000000000):Ct prog 129 [.d (An r)] (vi (if C7 r then 0 else 14)) []:=by
 refine CB func129 c129 fun E hE=>?_
 by_cases h1:r.length<1
 . have h1':(r.length:Int)<1:=by omega
   have e:C7 r=false:=by unfold C7;rw [decide_eq_false (p:=1<=r.length) (by omega)];simp
   simp [p129,h1'];apply RZ;simp [results129,e]
 have h1':¬ (r.length:Int)<1:=by omega
 by_cases h2:64<r.length
 . have h2':(64:Int)<r.length:=by omega
   have e:C7 r=false:=by unfold C7;rw [decide_eq_false (p:=r.length<=64) (by omega)];simp
   simp [p129,h1',h2'];apply RZ;simp [results129,e]
 have h2':¬ (64:Int)<r.length:=by omega
 simp [p129,h1',h2'];refine CLa (jX r hr) ?_;by_cases h3:EJ r=true
 . simp [h3]
   obtain ⟨z,c⟩:=pS hS r (by omega) (by omega) (fC h3);refine CLa c ?_;simp;have hpl:=VM r;refine CLb (rE (Fb r) r (by omega) (by omega)) (by simp [fD (z:=z)]) ?_;have e:C7 r=decide (Fb r=r):=by unfold C7;rw [decide_eq_true (p:=1<=r.length) (by omega),decide_eq_true (p:=r.length<=64) (by omega),h3];rfl
   by_cases h4:Fb r=r
   . simp [h4]
     apply RZ;simp [results129,e,h4]
   . simp [h4]
     apply RZ;simp [results129,e,h4]
 . simp [h3]
   have e:C7 r=false:=by unfold C7;simp [h3]
   apply RZ;simp [results129,e]
end Go.Proofs.Tryz
