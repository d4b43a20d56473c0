/- Own lemmas, used by the last text. Conditions: those that each theorem states. -/
import Derived.Shelf.SlSortCmp.NoneTotal
import Derived.Test.YtmaoncnifomnkaaGreatDoorNaaf
import Derived.Test.YtmaoncnifomnkaaGreatDoorNaak
import Derived.Test.YtmaoncnifomnkaaGreatDoorNaal
import Derived.Test.YtmaoncnifomnkaaGreatDoorNaam
import Derived.Test.YtmaoncnifomnkaaGreatDoorProg
set_option maxRecDepth 200000
set_option maxHeartbeats 8000000
namespace Go.Log
def vlK (x:Lim) (p:Int × Int):Int:=Ub x p.1 p.2
def crK (y:Ldp):Nat->Int × Int
 | 0=>(y.al,y.wl)
 | 1=>(y.ah,y.wl)
 | 2=>(y.al,y.wh)
 | _=>(y.ah,y.wh)
def F9 (x:Lim) (y:Ldp):Nat->Int × Int
 | 0=>crK y 0
 | k+1=>if vlK x (F9 x y k)<vlK x (crK y (k+1)) then crK y (k+1) else F9 x y k
theorem AZn (x:Lim) (y:Ldp):vlK x (F9 x y 3)=U1 x y:=by
 have e:∀ a b:Int × Int,vlK x (if vlK x a<vlK x b then b else a)=max (vlK x a) (vlK x b):=fun a b=>by
   split<;>omega
 show vlK x (if vlK x (F9 x y 2)<vlK x (crK y 3) then crK y 3 else F9 x y 2)=_
 rw [e]
 show max (vlK x (if vlK x (F9 x y 1)<vlK x (crK y 2) then crK y 2 else F9 x y 1)) _=_
 rw [e]
 show max (max (vlK x (if vlK x (F9 x y 0)<vlK x (crK y 1) then crK y 1 else F9 x y 0)) _) _=_
 rw [e];rfl
def AVy (p:Int × Int):Prop:= -20000<=p.1/\p.1<=20000/\ -1073741824<=p.2/\p.2<=1073741824
theorem ew {y:Ldp} (h:Kl y=true) (k:Nat):AVy (crK y k):=by
 have b:=cn h
 match k with
 | 0=>show AVy (y.al,y.wl);exact ⟨by omega,by omega,by omega,by omega⟩
 | 1=>show AVy (y.ah,y.wl);exact ⟨by omega,by omega,by omega,by omega⟩
 | 2=>show AVy (y.al,y.wh);exact ⟨by omega,by omega,by omega,by omega⟩
 | _+3=>show AVy (y.ah,y.wh);exact ⟨by omega,by omega,by omega,by omega⟩
theorem Ya {y:Ldp} (x:Lim) (h:Kl y=true):∀ k,AVy (F9 x y k)
 | 0=>ew h 0
 | k+1=>by
   unfold F9;split
   . exact ew h _
   . exact Ya x h k
def eT (x:Lim) (ps:List (Int × Int)):Int:=(ps.map (vlK x)).foldl (·+·) 0
theorem AYh (x:Lim) (p:Int × Int):eT x [p]=vlK x p:=by simp [eT]
theorem AXy {x:Lim} {ps:List (Int × Int)} {i:Nat} {p:Int × Int} (h:ps[i]?= some p):eT x (ps.take (i+1))=eT x (ps.take i)+vlK x p:=by
 unfold eT;rw [List.take_add_one,h];simp [List.foldl_append]
theorem AXc {x:Lim} (hx:Rf x=true):∀ (ps:List (Int × Int)),(∀ p∈ps,AVy p)-> -(21475910221824000*ps.length)<=eT x ps/\eT x ps<=21475910221824000*ps.length
 | [],_=>by simp [eT]
 | p::r,h=>by
   have ih:=AXc hx r fun y hy=>h y (by simp [hy])
   have hp:=h p (by simp);obtain ⟨_,_,q3,q4⟩:=dq hx hp.1 hp.2.1 hp.2.2.1 hp.2.2.2
   have e:eT x (p::r)=vlK x p+eT x r:=by
     unfold eT;simp only [List.map_cons,List.foldl_cons];rw [AV9];omega
   have q5:vlK x p=Ub x p.1 p.2:=rfl;rw [e];simp only [List.length_cons];omega
def wsP (x:Lim) (l:List Ldp):List (Int × Int):=l.map fun y=>F9 x y 3
theorem AZo (x:Lim) (l:List Ldp):eT x (wsP x l)=FB (U1 x) l:=by
 unfold eT wsP FB;rw [List.map_map];congr 1;exact List.map_congr_left fun y _=>AZn x y
end Go.Log
namespace Go.Proofs.Tryz
open Go.Psl
open Go.Log
abbrev ptL (p:Int × Int):List D:=[di p.1,di p.2]
abbrev AZp (ps:List (Int × Int)):D:= .sl 2 (ps.map ptL)
theorem hf2:∀ p:Int × Int,(ptL p).length=2:=fun _=>rfl
theorem AaK (ps:List (Int × Int)) (x:Lim) (hx:Rf x=true) (hp:∀ p∈ps,AVy p) (hn:ps.length<=100):Ct prog 221 [.d (AZp ps),lmV x] (vi (eT x ps)) []:=by
 refine CB func221 c221 fun E hE=>?_
 simp [p221];refine Al (α:=Nat) (fun i=>⟨AO [(0, .d (AZp ps)),(3, .lp 0 0),(5,vi (eT x (ps.take i))),(6,vi i)],lk [(0,[vi x.a,vi x.b,vi x.c])],1⟩) (fun i=>i<=ps.length) (fun i=>ps.length-i) 0 ?_ ?_ ?_
 . omega
 . refine AI.mk hE (lk [(0,0)]) _ _ _ ?_ ?_ ?_ ?_ ?_<;>simp [eT]
 . intro i hi
   have hz:=@wz i (by omega);by_cases h:i<ps.length
   . obtain ⟨p,hpi⟩:=gE h
     have hI:(i:Int)<ps.length:=by omega
     have hpo:=hp p (List.mem_of_getElem? hpi);obtain ⟨q1,q2,q3,q4⟩:=dq hx hpo.1 hpo.2.1 hpo.2.2.1 hpo.2.2.2;obtain ⟨a1,a2,_⟩:=AWM hx;have w1:IntKind.wrap .i64 (x.b*p.1)=x.b*p.1:=AD (by omega) (by omega);have w2:IntKind.wrap .i64 (x.a+x.b*p.1)=x.a+x.b*p.1:=AD (by omega) (by omega)
     have w3:IntKind.wrap .i64 (p.2*(x.a+x.b*p.1))=vlK x p:=by
       have e:p.2*(x.a+x.b*p.1)=vlK x p:=rfl;have e2:vlK x p=Ub x p.1 p.2:=rfl;rw [e];exact AD (by omega) (by omega)
     have hs:=AXy (x:=x) hpi;have hb:=AXc hx (ps.take (i+1)) fun y hy=>hp y (List.mem_of_mem_take hy)
     have hlen:(ps.take (i+1)).length<=100:=by rw [List.length_take];omega
     have w4:IntKind.wrap .i64 (eT x (ps.take i)+vlK x p)=eT x (ps.take (i+1)):=by rw [<-hs];exact AD (by omega) (by omega)
     simp [AXP,hI,hpi,inC,Nat.testBit,w1,w2,w3,w4,hz];refine ⟨i+1,by omega,by omega,?_⟩;exact WK hE (lk [(0,0)])
   . have hI:¬ (i:Int)<ps.length:=by omega
     obtain rfl:i=ps.length:=by omega
     rw [List.take_length];simp [AXP];apply RZ;simp [results221]
theorem Rk (p:Int × Int) (x:Lim) (hx:Rf x=true) (hp:AVy p):Ct prog 221 [.d (.sl 2 [[di p.1,di p.2]]),lmV x] (vi (vlK x p)) []:=by
 have:=AaK [p] x hx (fun q hq=>by obtain rfl:=List.mem_singleton.1 hq;exact hp) (by simp);rw [AYh] at this;exact this
theorem AWr {x:Lim} {l:List Ldp} {i:Nat} {y:Ldp} (h:l[i]?= some y):wsP x (l.take (i+1))=wsP x (l.take i)++[F9 x y 3]:=by
 unfold wsP;rw [List.take_add_one,h];simp
theorem Aao (p:Int × Int):AH ptL [p]=[vi p.1,vi p.2]:=rfl
theorem Aap (l:List Ldp) (x:Lim) (hx:Rf x=true) (hn:l.length<=40) (ho:∀ y∈l,Kl y=true):Ct prog 137 [.d (Hl l),lmV x] (hdN l.length 2) (bkN l.length (AH ptL (wsP x l))):=by
 have hri:LD (hdN l.length 2) (bkN l.length (AH ptL (wsP x l))):=by
   unfold hdN bkN;split<;>simp [LD]
 have hwl:∀ i,i<=l.length->(wsP x (l.take i)).length=i:=fun i hi=>by unfold wsP;simp;omega
 refine Ct.by gok eok mixed func137 c137 rfl (by simp [ntmps137]) (by simp) hri fun E hE=>?_
 simp [p137];refine Al (α:=Nat) (fun i=>⟨AO [(0, .d (Hl l)),(3, .lp 1 0),(5,hdN i 2),(6,vi i)],lk (bkN i (AH ptL (wsP x (l.take i)))++[(1,[vi x.a,vi x.b,vi x.c])]),2⟩) (fun i=>i<=l.length) (fun i=>l.length-i) 0 ?_ ?_ ?_
 . omega
 . rw [AXf,AXg]
   exact WK hE (lk [(1,0)])
 . intro i hi
   have hz:=@wz i (by omega);by_cases h:i<l.length
   . obtain ⟨y,hy⟩:=gE h
     have hI:(i:Int)<l.length:=by omega
     have hoy:=ho y (List.mem_of_getElem? hy);have cc:=pR y;by_cases h0:i=0
     . have e3:hdN i 2= .d (.lit (.slice none 0 0)):=by rw [h0];rfl
       have e4:bkN i (AH ptL (wsP x (l.take i)))=[]:=by rw [h0];rfl
       have e5:wsP x (l.take i)=[]:=by rw [h0];rfl
       have e6:i+1=1:=by omega
       have e7:(i:Int)+1=1:=by omega
       rw [e3,e4];simp [AVs,hI,hy];refine CLa cc ?_;simp [AA]
       refine BL (α:=Nat) 2 (fun _:Unit=>⟨AO [(0, .d (Hl l)),(3, .lp 1 0),(5, .d (.lit (.slice none 0 0))),(6,vi i),(8, .lp 2 0)],lk ([]++[(1,[vi x.a,vi x.b,vi x.c]),(2,[vi (F9 x y 3).1,vi (F9 x y 3).2])]),3⟩) (fun _=>True)
         (fun j=>⟨AO [(0, .d (Hl l)),(3, .lp 1 0),(5, .d (.lit (.slice none 0 0))),(6,vi i),(7, .d (Aav y)),(8, .lp 2 0),(9,vi (j+1:Nat))],lk ([]++[(1,[vi x.a,vi x.b,vi x.c]),(2,[vi (F9 x y j).1,vi (F9 x y j).2])]),3⟩) (fun j=>j<=3) (fun j=>3-j) 0 (by omega) ?_ ?_ fun _ _=>?_
       . refine AI.mk hE (lk [(1,1),(2,13631490)]) _ _ _ ?_ ?_ ?_ ?_ ?_<;>simp [F9,crK]
       . intro j hj
         match j,hj with
         | 0,_=>
           have c1:=Rk (crK y 1) x hx (ew hoy 1);have c2:=Rk (F9 x y 0) x hx (Ya x hoy 0);have e:F9 x y 1=if vlK x (F9 x y 0)<vlK x (crK y 1) then crK y 1 else F9 x y 0:=rfl
           have v:IntKind.wrap .i64 (1+1)=2:=by decide
           have v3:IntKind.wrap .i64 2=2:=by decide
           have v4:IntKind.wrap .i64 1=1:=by decide
           generalize F9 x y 0=B at c2 e ⊢
           by_cases hlt:vlK x B<vlK x (crK y 1)
           . rw [if_pos hlt] at e
             simp only [crK] at c1 hlt e;simp [Rt,AA,AM,inC,Nat.testBit,v3];refine CLb (c1) (by first | (simp;done) | simp [Bk,CP,inC,Nat.testBit]) ?_;simp [AA,AM,inC,Nat.testBit];refine CLa c2 ?_;simp [AA,hlt,v3];refine ⟨1,by omega,by omega,?_⟩;rw [e];exact WK hE (lk [(1,1),(2,2)])
           . rw [if_neg hlt] at e
             simp only [crK] at c1 hlt;simp [Rt,AA,AM,inC,Nat.testBit,v3];refine CLb (c1) (by first | (simp;done) | simp [Bk,CP,inC,Nat.testBit]) ?_;simp [AA,AM,inC,Nat.testBit];refine CLa c2 ?_;simp [hlt,v3];refine ⟨1,by omega,by omega,?_⟩;rw [e];exact WK hE (lk [(1,1),(2,2)])
         | 1,_=>
           have c1:=Rk (crK y 2) x hx (ew hoy 2);have c2:=Rk (F9 x y 1) x hx (Ya x hoy 1);have e:F9 x y 2=if vlK x (F9 x y 1)<vlK x (crK y 2) then crK y 2 else F9 x y 1:=rfl
           have v:IntKind.wrap .i64 (2+1)=3:=by decide
           have v3:IntKind.wrap .i64 3=3:=by decide
           have v4:IntKind.wrap .i64 2=2:=by decide
           generalize F9 x y 1=B at c2 e ⊢
           by_cases hlt:vlK x B<vlK x (crK y 2)
           . rw [if_pos hlt] at e
             simp only [crK] at c1 hlt e;simp [Rt,AA,AM,inC,Nat.testBit,v3];refine CLb (c1) (by first | (simp;done) | simp [Bk,CP,inC,Nat.testBit]) ?_;simp [AA,AM,inC,Nat.testBit];refine CLa c2 ?_;simp [AA,hlt,v3];refine ⟨2,by omega,by omega,?_⟩;rw [e];exact WK hE (lk [(1,1),(2,2)])
           . rw [if_neg hlt] at e
             simp only [crK] at c1 hlt;simp [Rt,AA,AM,inC,Nat.testBit,v3];refine CLb (c1) (by first | (simp;done) | simp [Bk,CP,inC,Nat.testBit]) ?_;simp [AA,AM,inC,Nat.testBit];refine CLa c2 ?_;simp [hlt,v3];refine ⟨2,by omega,by omega,?_⟩;rw [e];exact WK hE (lk [(1,1),(2,2)])
         | 2,_=>
           have c1:=Rk (crK y 3) x hx (ew hoy 3);have c2:=Rk (F9 x y 2) x hx (Ya x hoy 2);have e:F9 x y 3=if vlK x (F9 x y 2)<vlK x (crK y 3) then crK y 3 else F9 x y 2:=rfl
           have v:IntKind.wrap .i64 (3+1)=4:=by decide
           have v3:IntKind.wrap .i64 4=4:=by decide
           have v4:IntKind.wrap .i64 3=3:=by decide
           generalize F9 x y 2=B at c2 e ⊢
           by_cases hlt:vlK x B<vlK x (crK y 3)
           . rw [if_pos hlt] at e
             simp only [crK] at c1 hlt e;simp [Rt,AA,AM,inC,Nat.testBit,v3];refine CLb (c1) (by first | (simp;done) | simp [Bk,CP,inC,Nat.testBit]) ?_;simp [AA,AM,inC,Nat.testBit];refine CLa c2 ?_;simp [AA,hlt,v3];refine ⟨3,by omega,by omega,?_⟩;rw [e];exact WK hE (lk [(1,1),(2,2)])
           . rw [if_neg hlt] at e
             simp only [crK] at c1 hlt;simp [Rt,AA,AM,inC,Nat.testBit,v3];refine CLb (c1) (by first | (simp;done) | simp [Bk,CP,inC,Nat.testBit]) ?_;simp [AA,AM,inC,Nat.testBit];refine CLa c2 ?_;simp [hlt,v3];refine ⟨3,by omega,by omega,?_⟩;rw [e];exact WK hE (lk [(1,1),(2,2)])
         | 3,_=>
           simp [Rt,aJ];exact WK hE (lk [(1,1),(2,2)])
       simp [AA,AM,hz];refine ⟨i+1,by omega,by omega,?_⟩;rw [l8 (by omega),mb (by omega),AWr hy,e5];refine AI.mk hE (lk [(0,3145731),(1,1)]) _ _ _ ?_ ?_ ?_ ?_ ?_<;>simp [Aao,e6,e7]
     . have e2:i+1≠0:=by omega
       have hsl:=Aw hf2 (wsP x (l.take i));have hwh:=E9 hf2 (wsP x (l.take i));rw [hwl i hi] at hsl hwh;have n1:(i+1)*16<=140737488355328:=by omega
       have n2:i<=9223372036854775806:=by omega
       rw [l8 h0,mb h0];simp [AVs,hI,hy];refine CLa cc ?_;simp [AA]
       refine BL (α:=Nat) 2 (fun _:Unit=>⟨AO [(0, .d (Hl l)),(3, .lp 1 0),(5, .ls 0 0 i 2),(6,vi i),(8, .lp 2 0)],lk ([(0,AH ptL (wsP x (l.take i)))]++[(1,[vi x.a,vi x.b,vi x.c]),(2,[vi (F9 x y 3).1,vi (F9 x y 3).2])]),3⟩) (fun _=>True)
         (fun j=>⟨AO [(0, .d (Hl l)),(3, .lp 1 0),(5, .ls 0 0 i 2),(6,vi i),(7, .d (Aav y)),(8, .lp 2 0),(9,vi (j+1:Nat))],lk ([(0,AH ptL (wsP x (l.take i)))]++[(1,[vi x.a,vi x.b,vi x.c]),(2,[vi (F9 x y j).1,vi (F9 x y j).2])]),3⟩) (fun j=>j<=3) (fun j=>3-j) 0 (by omega) ?_ ?_ fun _ _=>?_
       . refine AI.mk hE (lk [(0,0),(1,1),(2,13631490)]) _ _ _ ?_ ?_ ?_ ?_ ?_<;>simp [F9,crK]
       . intro j hj
         match j,hj with
         | 0,_=>
           have c1:=Rk (crK y 1) x hx (ew hoy 1);have c2:=Rk (F9 x y 0) x hx (Ya x hoy 0);have e:F9 x y 1=if vlK x (F9 x y 0)<vlK x (crK y 1) then crK y 1 else F9 x y 0:=rfl
           have v:IntKind.wrap .i64 (1+1)=2:=by decide
           have v3:IntKind.wrap .i64 2=2:=by decide
           have v4:IntKind.wrap .i64 1=1:=by decide
           generalize F9 x y 0=B at c2 e ⊢
           by_cases hlt:vlK x B<vlK x (crK y 1)
           . rw [if_pos hlt] at e
             simp only [crK] at c1 hlt e;simp [Rt,AA,AM,inC,Nat.testBit,v3];refine CLb (c1) (by first | (simp;done) | simp [Bk,CP,inC,Nat.testBit]) ?_;simp [AA,AM,inC,Nat.testBit];refine CLa c2 ?_;simp [AA,hlt,v3];refine ⟨1,by omega,by omega,?_⟩;rw [e];exact WK hE (lk [(0,0),(1,1),(2,2)])
           . rw [if_neg hlt] at e
             simp only [crK] at c1 hlt;simp [Rt,AA,AM,inC,Nat.testBit,v3];refine CLb (c1) (by first | (simp;done) | simp [Bk,CP,inC,Nat.testBit]) ?_;simp [AA,AM,inC,Nat.testBit];refine CLa c2 ?_;simp [hlt,v3];refine ⟨1,by omega,by omega,?_⟩;rw [e];exact WK hE (lk [(0,0),(1,1),(2,2)])
         | 1,_=>
           have c1:=Rk (crK y 2) x hx (ew hoy 2);have c2:=Rk (F9 x y 1) x hx (Ya x hoy 1);have e:F9 x y 2=if vlK x (F9 x y 1)<vlK x (crK y 2) then crK y 2 else F9 x y 1:=rfl
           have v:IntKind.wrap .i64 (2+1)=3:=by decide
           have v3:IntKind.wrap .i64 3=3:=by decide
           have v4:IntKind.wrap .i64 2=2:=by decide
           generalize F9 x y 1=B at c2 e ⊢
           by_cases hlt:vlK x B<vlK x (crK y 2)
           . rw [if_pos hlt] at e
             simp only [crK] at c1 hlt e;simp [Rt,AA,AM,inC,Nat.testBit,v3];refine CLb (c1) (by first | (simp;done) | simp [Bk,CP,inC,Nat.testBit]) ?_;simp [AA,AM,inC,Nat.testBit];refine CLa c2 ?_;simp [AA,hlt,v3];refine ⟨2,by omega,by omega,?_⟩;rw [e];exact WK hE (lk [(0,0),(1,1),(2,2)])
           . rw [if_neg hlt] at e
             simp only [crK] at c1 hlt;simp [Rt,AA,AM,inC,Nat.testBit,v3];refine CLb (c1) (by first | (simp;done) | simp [Bk,CP,inC,Nat.testBit]) ?_;simp [AA,AM,inC,Nat.testBit];refine CLa c2 ?_;simp [hlt,v3];refine ⟨2,by omega,by omega,?_⟩;rw [e];exact WK hE (lk [(0,0),(1,1),(2,2)])
         | 2,_=>
           have c1:=Rk (crK y 3) x hx (ew hoy 3);have c2:=Rk (F9 x y 2) x hx (Ya x hoy 2);have e:F9 x y 3=if vlK x (F9 x y 2)<vlK x (crK y 3) then crK y 3 else F9 x y 2:=rfl
           have v:IntKind.wrap .i64 (3+1)=4:=by decide
           have v3:IntKind.wrap .i64 4=4:=by decide
           have v4:IntKind.wrap .i64 3=3:=by decide
           generalize F9 x y 2=B at c2 e ⊢
           by_cases hlt:vlK x B<vlK x (crK y 3)
           . rw [if_pos hlt] at e
             simp only [crK] at c1 hlt e;simp [Rt,AA,AM,inC,Nat.testBit,v3];refine CLb (c1) (by first | (simp;done) | simp [Bk,CP,inC,Nat.testBit]) ?_;simp [AA,AM,inC,Nat.testBit];refine CLa c2 ?_;simp [AA,hlt,v3];refine ⟨3,by omega,by omega,?_⟩;rw [e];exact WK hE (lk [(0,0),(1,1),(2,2)])
           . rw [if_neg hlt] at e
             simp only [crK] at c1 hlt;simp [Rt,AA,AM,inC,Nat.testBit,v3];refine CLb (c1) (by first | (simp;done) | simp [Bk,CP,inC,Nat.testBit]) ?_;simp [AA,AM,inC,Nat.testBit];refine CLa c2 ?_;simp [hlt,v3];refine ⟨3,by omega,by omega,?_⟩;rw [e];exact WK hE (lk [(0,0),(1,1),(2,2)])
         | 3,_=>
           simp [Rt,aJ];exact WK hE (lk [(0,0),(1,1),(2,2)])
       simp [AA,AM,hz,hsl,hwh,n1,n2];refine ⟨i+1,by omega,by omega,?_⟩;rw [l8 e2,mb e2,AWr hy];refine AI.mk hE (lk [(0,3145731),(1,1)]) _ _ _ ?_ ?_ ?_ ?_ ?_<;>simp [IV]
   . have hI:¬ (i:Int)<l.length:=by omega
     obtain rfl:i=l.length:=by omega
     rw [List.take_length];by_cases h0:l.length=0
     . rw [h0,AXf,AXg]
       simp [AVs,h0];apply RZ;simp [results137]
     . rw [l8 h0,mb h0]
       simp [AVs];refine AB.by (lk [(0,0)]) ?_;simp [results137]
end Go.Proofs.Tryz
namespace Go.Proofs.Tryz
open Go.Psl
open Go.Log
theorem it (l:List Ldp) (x:Lim) (hx:Rf x=true) (hn:l.length<=40) (ho:∀ y∈l,Kl y=true):Ct prog 137 [.d (Hl l),lmV x] (.d (AZp (wsP x l))) []:=by
 refine Cm.freeze (Aap l x hx hn ho) ?_;by_cases h0:l.length=0
 . obtain rfl:l=[]:=List.length_eq_zero_iff.1 h0
   exact .inr ⟨rfl,_,rfl⟩
 . rw [l8 h0,mb h0]
   have:=B0 (f:=ptL) hf2 (H:=lk [(0,AH ptL (wsP x l))]) (id:=0) (l:=wsP x l) (by simp);rw [show (wsP x l).length=l.length by simp [wsP]] at this;exact this
theorem Aae {l:List Ldp} {x:Lim} (ho:∀ y∈l,Kl y=true):∀ p∈wsP x l,AVy p:=fun p hp=>by
 obtain ⟨y,hy,rfl⟩:=List.mem_map.1 hp;exact Ya x (ho y hy) 3
def brI (l:List Ldp) (ls:List Lim):Int:=match Uj l ls with
 | some i=>i
 | none=> -1
theorem S6 (l:List Ldp) (ls:List Lim) (hl:l.length<=40) (ho:∀ y∈l,Kl y=true) (hn:ls.length<=12) (hx:∀ x∈ls,Rf x=true):Ct prog 136 [.d (Hl l), .d (p0 ls)] (vi (brI l ls)) []:=by
 refine CB func136 c136 fun E hE=>?_
 simp [p136];refine Al (α:=Nat) (fun i=>⟨AO [(0, .d (Hl l)),(1, .d (p0 ls)),(5,vi i)],lk [],0⟩) (fun i=>i<=ls.length/\∀ j y,j<i->ls[j]?= some y->FB (U1 y) l<=y.c) (fun i=>ls.length-i) 0 ?_ ?_ ?_
 . exact ⟨by omega,fun j y hj=>by omega⟩
 . exact WK hE (lk [])
 . rintro i ⟨hi,hg⟩
   have hz:=@wz i (by omega);by_cases h:i<ls.length
   . obtain ⟨x,hxi⟩:=gE h
     have hI:(i:Int)<ls.length:=by omega
     have hxo:=hx x (List.mem_of_getElem? hxi);have c1:=it l x hxo hl ho;have c2:=AaK (wsP x l) x hxo (Aae ho) (by simp [wsP];omega);rw [AZo] at c2;by_cases hb:x.c<FB (U1 x) l
     . have e:brI l ls=i:=by unfold brI;rw [AXs hxi hb hg]
       rw [e];simp [AWW,hI,hxi,inC,Nat.testBit];refine CLb (c1) (by first | (simp;done) | simp [Bk,CP,inC,Nat.testBit]) ?_;simp [hxi,inC,Nat.testBit];refine CLb (c2) (by first | (simp;done) | simp [Bk,CP,inC,Nat.testBit]) ?_;simp [hxi,hb];apply RZ;simp [results136]
     . simp [AWW,hI,hxi,inC,Nat.testBit]
       refine CLb (c1) (by first | (simp;done) | simp [Bk,CP,inC,Nat.testBit]) ?_;simp [hxi,inC,Nat.testBit];refine CLb (c2) (by first | (simp;done) | simp [Bk,CP,inC,Nat.testBit]) ?_;simp [hxi,hb,hz];refine ⟨i+1,⟨by omega,fun j y hj hy=>?_⟩,by omega,?_⟩
       . by_cases e:j=i
         . subst e;rw [hxi] at hy;cases hy;omega
         . exact hg j y (by omega) hy
       . exact WK hE (lk [])
   . have hI:¬ (i:Int)<ls.length:=by omega
     have e:brI l ls= -1:=by
       unfold brI;rw [AZS fun j y hj=>hg j y (by have:=(List.getElem?_eq_some_iff.1 hj).1;omega) hj]
     rw [e];simp [AWW,hI];apply RZ;simp [results136]
theorem yP (l:List Ldp) (ls:List Lim) (h:F0 l=0) (h2:F7 ls=0):Ct prog 135 [.d (Hl l), .d (p0 ls)] (vi 0) []:=by
 have c1:=AQS l (by have:=(AXD h).1;omega);have c2:=Bq ls (by have:=(Ry h2).1;omega);rw [h] at c1;rw [h2] at c2;refine CB func135 c135 fun E hE=>?_
 simp [p135];refine CLa c1 ?_;simp;refine CLa c2 ?_;simp;apply RZ;simp [results135]
theorem AYP {l:List Ldp} {ls:List Lim} (h:F0 l=0) (h2:F7 ls=0) (hb:Uj l ls=none):Ct prog 66 [.d (Hl l), .d (p0 ls)] (.tup [.agg [vi 0, .d (.lit (.slice none 0 0))],vi 6]) []:=by
 obtain ⟨hl,ho⟩:=AXD h;obtain ⟨hn,hx⟩:=Ry h2;have c1:=yP l ls h h2;have c2:=S6 l ls hl ho hn hx;have e:brI l ls= -1:=by unfold brI;rw [hb]
 rw [e] at c2;refine CB func66 c66 fun E hE=>?_
 simp [p66];refine CLa c1 ?_;simp;refine CLa c2 ?_;simp [AA];apply RZ;simp [results66]
theorem AYQ {l:List Ldp} {ls:List Lim} {i:Nat} (h:F0 l=0) (h2:F7 ls=0) (hb:Uj l ls=some i):∃ P:D,Ct prog 66 [.d (Hl l), .d (p0 ls)] (.tup [.agg [vi i, .d P],vi 0]) []:=by
 obtain ⟨hl,ho⟩:=AXD h;obtain ⟨hn,hx⟩:=Ry h2;have hi:=AXV hb;obtain ⟨x,hxi⟩:=gE hi;have c1:=yP l ls h h2;have c2:=S6 l ls hl ho hn hx;have c3:=it l x (hx x (List.mem_of_getElem? hxi)) hl ho;have e:brI l ls=i:=by unfold brI;rw [hb]
 rw [e] at c2;have h0:¬ (i:Int)<0:=by omega
 have hI:(i:Int)<ls.length:=by omega
 refine ⟨AZp (wsP x l),?_⟩;refine CB func66 c66 fun E hE=>?_
 simp [p66];refine CLa c1 ?_;simp;refine CLa c2 ?_;simp [h0,hxi];refine CLa c3 ?_;simp [AA];apply RZ;simp [results66]
open Go.Air
open Go.Log (Ldp Lim Etr By Lg DF F7 Ue F0 Kl Uj Rh)
abbrev Acx:By:=[99,101,108,108,32]
abbrev limT:By:=[108,105,109,105,116,32]
abbrev frmT:By:=[102,114,97,109,101,32]
def AZW (a:Atm) (l:List Cel):Option Nat:=l.findIdx? fun c=>decide (Lh c a≠1)
def AZX (l:Lin) (a:Atm):By × Int:=
 match AZW a l.sh.gas.cs with
 | some i=>(Acx++Rh i,104)
 | none=>match Uj (ldZ l a) l.lm with
   | some i=>(limT++Rh i,104)
   | none=>match stN (ldZ l a) l.fr l.fr.length with
     | n::_=>(frmT++Rh n,104)
     | []=>([],0)
def AXX (l:Lin):By × Int:=if (atA l.sk.s l.sh.hl l.sh.hh).2=0 then AZX l (atA l.sk.s l.sh.hl l.sh.hh).1 else ([],(atA l.sk.s l.sh.hl l.sh.hh).2)
open Go.Log (Ldp Lim Etr By Lg DF F7 Ue F0 Kl Uj Rh Ro)
theorem AWG {x t:Int} (h: -174000000000<=x/\x<=174000000000) (ht:1500<=t): -116000000<=fl x t/\fl x t<=116000000:=by
 unfold fl;refine ⟨?_,?_⟩
 . rw [Int.le_ediv_iff_mul_le (by omega)];omega
 . have h3:x/t<116000001:=by rw [Int.ediv_lt_iff_lt_mul (by omega)];omega
   omega
theorem Abk {a b t:Int} (h:a<=b) (ht:0<t):fl a t<=ce b t:=by
 have h1:=S7 ht h
 have h2:fl b t<=ce b t:=by
   unfold fl ce;have e1:=Int.mul_ediv_add_emod b t;have e2:=Int.mul_ediv_add_emod (-b) t;have m1:=Int.emod_nonneg b (show t≠0 by omega);have m2:=Int.emod_nonneg (-b) (show t≠0 by omega);have:t*(b/t+ -b/t)<=t*0:=by rw [Int.mul_add];omega
   have:=Int.le_of_mul_le_mul_left this ht;omega
 omega
theorem AZZ {c:Cel} {a:Atm} (hc:B5 c) (ha:Fx a): -1000000000<=(Bx c a).1/\(Bx c a).1<=(Bx c a).2/\(Bx c a).2<=1000000000:=by
 have t:=ha.t;have w:=hc.w;have he:=hc.he;have am1:0<=29*am c/\29*am c<=580000000:=by have:=hc.ai;unfold am;omega
 have q:∀ w:Int, -300<=w->w<=300-> -174000000000<=29*am c*w/\29*am c*w<=174000000000:=fun w h1 h2=>by
   have e1:=Int.mul_le_mul_of_nonneg_left h1 am1.1;have e2:=Int.mul_le_mul_of_nonneg_left h2 am1.1;omega
 have b1:=q c.wl w.1 (by omega);have b2:=q c.wh (by omega) w.2.2;have k1:=AWG b1 t.1;have k2:=AWG b1 (t:=a.th) (by omega);have k3:=AWG (x:= -(29*am c*c.wh)) (t:=a.tl) (by omega) t.1;have k4:=AWG (x:= -(29*am c*c.wh)) (t:=a.th) (by omega) (by omega);have m:=Abk (Int.mul_le_mul_of_nonneg_left w.2.1 am1.1) (t:=a.tl) (by omega);unfold Bx;simp only;unfold ce at m ⊢;unfold fl at*;omega
theorem AYR {x:Ldp}:Kl x=true↔(-20000<=x.al/\x.al<=x.ah/\x.ah<=20000)/\ -1073741824<=x.wl/\x.wl<=x.wh/\x.wh<=1073741824:=by
 simp [Kl,Ro];omega
theorem AWk {l:Lin} (h:pk l=true):AV3 l/\VU l.sh/\F7 l.lm=0/\GV l.fr=0/\BV l.sk=true:=by
 simp only [pk,rk,AVb,DF,Bool.and_eq_true,decide_eq_true_eq,List.all_eq_true] at h;have hS:=GT (s:=l.sh) (by simp [h]);refine ⟨⟨by omega,by have:=hS.n;omega,by omega,hS.c,by omega,fun x hx=>rx (by simp [h,hx]),hS.d⟩,hS,by simp [h],by simp [h],by simp [h]⟩
theorem AYS {l:Lin} {a:Atm} (h:pk l=true) (ha:Fx a):F0 (ldZ l a)=0:=by
 obtain ⟨hb,hS,_⟩:=AWk h;have hlen:=AWO (a:=a) hb;have h1:=hb.c;have h2:=hb.k;obtain ⟨pm,pc⟩:=hb.pm;simp only [pk,AVb,plB,DF,Bool.and_eq_true,decide_eq_true_eq,List.all_eq_true] at h;unfold F0;rw [if_neg (by omega),if_pos];rw [List.all_eq_true];intro y hy;rw [AYR];unfold ldZ at hy;simp only [List.mem_append,List.mem_map,List.mem_cons,List.not_mem_nil,or_false] at hy;have d:=hS.d;have f:=hS.f;have w:=hS.w;have bb:=hS.b;rcases hy with (⟨p,hp,rfl⟩ | rfl | rfl | rfl | rfl) | ⟨x,hx,rfl⟩
 . have q:=List.of_mem_zip hp
   have k:=AZZ (hb.cel _ q.2) ha;have:=h.1.1.1.1.1.1.1.2 _ q.1;simp only;omega
 . simp only;omega
 . simp only;omega
 . simp only;omega
 . simp only;omega
 . have:=h.1.1.1.1.1.1.2 x hx
   have:=pc x hx;simp only;omega
theorem AaV (l:Lin) (a:Atm) (hb:AV3 l) (ha:Fx a):Ct prog 22 [Re l,Ox a] (.d (Hl (ldZ l a))) []:=
 Cm.freeze (fn22 l a hb ha) (B0 hlx (l:=ldZ l a) (id:=0) (by simp):Bor (lk [(0,AH lxL (ldZ l a))]) (.ls 0 0 (ldZ l a).length 4) (.d (Hl (ldZ l a))))
theorem AaW (l:Lin) (a:Atm) (hb:AV3 l) (ha:Fx a):Ct prog 25 [Re l,Ox a] (.d (Hl (ldZ l a))) []:=
 Cm.freeze (fn25 l a hb ha) (B0 hlx (l:=ldZ l a) (id:=0) (by simp):Bor (lk [(0,AH lxL (ldZ l a))]) (.ls 0 0 (ldZ l a).length 4) (.d (Hl (ldZ l a))))
def AXF (a:Atm) (cs:List Cel) (i:Nat):Prop:=∀ (j:Nat) d,j<i->cs[j]?= some d->Lh d a=1
theorem AYv (a:Atm) (cs:List Cel):AXF a cs 0:=fun j d h=>by omega
theorem AYw {a:Atm} {cs:List Cel} {i:Nat} {c:Cel} (h:AXF a cs i) (hc:cs[i]?= some c) (h1:Lh c a=1):AXF a cs (i+1):=fun j d hj hd=>by
 by_cases e:j=i
 . subst e;rw [hc] at hd;cases hd;exact h1
 . exact h j d (by omega) hd
theorem AaX {a:Atm} {cs:List Cel} {i:Nat} {c:Cel} (h:AXF a cs i) (hc:cs[i]?= some c) (h1:¬ Lh c a=1):AZW a cs=some i:=by
 unfold AZW;rw [List.findIdx?_eq_some_iff_getElem];obtain ⟨k1,k2⟩:=List.getElem?_eq_some_iff.1 hc;refine ⟨k1,by rw [k2];simp [h1],fun j hj=>?_⟩;simp [h j cs[j] hj (List.getElem?_eq_getElem (by omega))]
theorem AaY {a:Atm} {cs:List Cel} (h:AXF a cs cs.length):AZW a cs=none:=by
 unfold AZW;rw [List.findIdx?_eq_none_iff];intro c hc;obtain ⟨j,hj⟩:=List.getElem?_of_mem hc;simp [h j c (List.getElem?_eq_some_iff.1 hj).1 hj]
theorem AWQ {l:List Ldp} {fs:List Frm}:∀ {i:Nat} {n:Int},n∈stN l fs i->0<=n/\n<i
 | 0,n,h=>by simp [stN] at h
 | i+1,n,h=>by
   rw [stN,List.mem_append] at h;rcases h with h | h
   . have:=AWQ h;omega
   . split at h
     . simp at h
     . simp at h;omega
theorem tq8 {n:Int} (h0:0<=n) (h:n<=1000000):(Rh n).length<=15:=gb n (by omega) (by omega)
theorem fn26 (l:Lin) (hf:pk l=true) (hs:l.sk.s.length<=1000000):Ct prog 26 [Re l] (.tup [vS (AXX l).1,vi (AXX l).2]) []:=by
 obtain ⟨hb,hS,f1,f2,_⟩:=AWk hf;have c1:=ABz l hs;unfold AXX;obtain ⟨A,hA⟩:∃ A,atA l.sk.s l.sh.hl l.sh.hh=A:=⟨_,rfl⟩
 rw [hA] at c1 ⊢;by_cases he:A.2=0
 case neg=>exact CW func26 c26
 have ha:Fx A.1:=by rw [<-hA];exact aU (qD (by rw [hA];exact he))
 have hc:=AYS hf ha;have hcs:l.sh.gas.cs.length<=12:=hS.n;refine CW func26 c26 fun E hE=>?_
 refine Wp ?_;refine L2 l.sh.gas.cs (fun i=>⟨AO [(1, .lp 0 0),(4, .lp 1 0),(25, .d (AX l.sh.gas.cs)),(26,vi l.sh.gas.cs.length),(27,vi i)],lk [(0,TR l),(1,AZq A.1)],2⟩) (AXF A.1 l.sh.gas.cs) (by omega) (AYv _ _) (WkA hE WA) (fun i x hx hI hz hi=>?_) fun hi=>?_
 . have c1:=fn60 x A.1 (hb.cel x (List.mem_of_getElem? hx)) ha
   have c2:Ct prog 61 [vi i] (vS (Rh i)) []:=ASU i (by omega) (by omega);have k:=tq8 (n:=i) (by omega) (by omega);by_cases h1:Lh x A.1=1
   . have hn:=AYw hi hx h1
     clear hi;exact Wk
   . have hn:=AaX hi hx h1
     unfold AZX;clear hi;exact Wk
 have hn:=AaY hi;clear hi;have w:=AaV l A.1 hb ha;unfold AZX;rw [hn]
 generalize ldZ l A.1=Z at*
 have b:=fn62 Z l.lm hc f1;have s:=fn63 Z l.fr (by have:=(Qd hc).1;omega) (by have:=(AWE f2).1;omega);cases hB:Uj Z l.lm with
 | some i=>
   have hlt:=AXV hB;have hle:=(Ry f1).1;obtain ⟨x,hx⟩:=gE hlt;rw [ll hx hB,hB] at b;have t:Ct prog 61 [vi i] (vS (Rh i)) []:=ASU i (by omega) (by omega);have k:=tq8 (n:=i) (by omega) (by omega);clear hx;exact Wk
 | none=>
   rw [l6 hB,hB] at b;unfold AYF AYG at s;rw [if_neg (by simp [hc]),if_neg (by simp [f2]),if_neg (by simp [hc,f2])] at s;cases hN:stN Z l.fr l.fr.length with
   | nil=>
     rw [hN,Aq,Au] at s;exact Wk
   | cons n r=>
     have hm:=AWQ (l:=Z) (fs:=l.fr) (i:=l.fr.length) (n:=n) (by rw [hN];simp);have hle:=(AWE f2).1;rw [hN,Ak (by simp),AZ (by simp),CQ] at s;have t:Ct prog 61 [vi n] (vS (Rh n)) []:=ASU n (by omega) (by omega);have k:=tq8 (n:=n) (by omega) (by omega);exact Wk
theorem fn27 (l:Lin) (hf:pk l=true) (hs:l.sk.s.length<=1000000):Ct prog 27 [Re l] (.tup [vS (AXX l).1,vi (AXX l).2]) []:=by
 obtain ⟨hb,hS,f1,f2,_⟩:=AWk hf;have c1:=AU3 l hs;unfold AXX;obtain ⟨A,hA⟩:∃ A,atA l.sk.s l.sh.hl l.sh.hh=A:=⟨_,rfl⟩
 rw [hA] at c1 ⊢;by_cases he:A.2=0
 case neg=>exact CW func27 c27
 have ha:Fx A.1:=by rw [<-hA];exact aU (qD (by rw [hA];exact he))
 have hc:=AYS hf ha;have hcs:=hb.c;refine CW func27 c27 fun E hE=>?_
 refine Wp ?_;refine L2 l.ce (fun i=>⟨AO [(1, .lp 0 0),(4, .lp 1 0),(6,vi i)],lk [(0,TR l),(1,AZq A.1)],2⟩) (AXF A.1 l.sh.gas.cs) (by omega) (AYv _ _) (WkA hE WA) (fun i y hy hI hz hi=>?_) fun hi=>?_
 . have hn:=hb.n
   obtain ⟨x,hx⟩:∃ x,l.sh.gas.cs[i]?= some x:=⟨_,List.getElem?_eq_getElem (by omega)⟩
   have hI2:(i:Int)<l.sh.gas.cs.length:=by omega
   have c1:=fn64 x A.1 (hb.cel x (List.mem_of_getElem? hx)) ha;have c2:=AJH i (by omega) (by omega);have k:=tq8 (n:=i) (by omega) (by omega);clear hn;by_cases h1:Lh x A.1=1
   . have hn:=AYw hi hx h1
     clear hi;exact Wk
   . have hn:=AaX hi hx h1
     unfold AZX;clear hi;exact Wk
 rw [hb.n] at hi;have hn:=AaY hi;clear hi;have w:=AaW l A.1 hb ha;unfold AZX;rw [hn]
 generalize ldZ l A.1=Z at*
 have s:=fn67 Z l.fr (by have:=(Qd hc).1;omega) (by have:=(AWE f2).1;omega);cases hB:Uj Z l.lm with
 | some i=>
   have hlt:=AXV hB;have hle:=(Ry f1).1;obtain ⟨P,b⟩:=AYQ hc f1 hB;have t:=AJH i (by omega) (by omega);have k:=tq8 (n:=i) (by omega) (by omega);exact Wk
 | none=>
   have b:=AYP hc f1 hB;unfold AYF AYG at s;rw [if_neg (by simp [hc]),if_neg (by simp [f2]),if_neg (by simp [hc,f2])] at s;cases hN:stN Z l.fr l.fr.length with
   | nil=>
     rw [hN,Aq,Au] at s;exact Wk
   | cons n r=>
     have hm:=AWQ (l:=Z) (fs:=l.fr) (i:=l.fr.length) (n:=n) (by rw [hN];simp);have hle:=(AWE f2).1;rw [hN,Ak (by simp),AZ (by simp),CQ] at s;have t:=AJH n (by omega) (by omega);have k:=tq8 (n:=n) (by omega) (by omega);exact Wk
def AYD (l:Lin):V:=if Yb l=0 then (if (atA l.sk.s l.sh.hl l.sh.hh).2=0 then .tup [.d (Hl (ldZ l (atA l.sk.s l.sh.hl l.sh.hh).1)),vi 0] else .tup [.d (.lit (.slice none 0 0)),vi (atA l.sk.s l.sh.hl l.sh.hh).2]) else .tup [.d (.lit (.slice none 0 0)),vi (Yb l)]
def AYE (l:Lin):By × Int:=if Yb l=0 then AXX l else ([],Yb l)
theorem sm {l:Lin} (h:Yb l=0):pk l=true:=by
 unfold Yb at h;split at h
 . rename_i h1;simp only [Bool.and_eq_true] at h1;exact h1.1.1
 . cases h
theorem fn8 (hS:SortOk) (l:Lin) (hs:SzA l):Ct prog 8 [Re l] (.tup [vS (AYE l).1,vi (AYE l).2]) []:=by
 have c1:=Ab2 hS l hs;unfold AYE;by_cases h:Yb l=0
 . have c2:=fn26 l (sm h) hs.z.s
   exact CW func8 c8
 . exact CW func8 c8
theorem fn6 (hS:SortOk) (l:Lin) (hs:SzA l):Ct prog 6 [Re l] (AYD l) []:=by
 have c1:=Ab2 hS l hs;have c2:=ABz l hs.z.s;unfold AYD;obtain ⟨A,hA⟩:∃ A,atA l.sk.s l.sh.hl l.sh.hh=A:=⟨_,rfl⟩
 rw [hA] at c2 ⊢;by_cases h:Yb l=0
 . rw [if_pos h]
   by_cases he:A.2=0
   . have c3:=AaV l A.1 (AWk (sm h)).1 (by rw [<-hA];exact aU (qD (by rw [hA];exact he)))
     rw [if_pos he];exact CW func6 c6
   . rw [if_neg he]
     exact CW func6 c6
 . rw [if_neg h]
   exact CW func6 c6
theorem fn9 (l:Lin) (hs:SzA l):Ct prog 9 [Re l] (.tup [vS (AYE l).1,vi (AYE l).2]) []:=by
 have c1:=AVV l hs;unfold AYE;by_cases h:Yb l=0
 . have c2:=fn27 l (sm h) hs.z.s
   exact CW func9 c9
 . exact CW func9 c9
theorem fn7 (l:Lin) (hs:SzA l):Ct prog 7 [Re l] (AYD l) []:=by
 have c1:=AVV l hs;have c2:=AU3 l hs.z.s;unfold AYD;obtain ⟨A,hA⟩:∃ A,atA l.sk.s l.sh.hl l.sh.hh=A:=⟨_,rfl⟩
 rw [hA] at c2 ⊢;by_cases h:Yb l=0
 . rw [if_pos h]
   by_cases he:A.2=0
   . have c3:=AaW l A.1 (AWk (sm h)).1 (by rw [<-hA];exact aU (qD (by rw [hA];exact he)))
     rw [if_pos he];exact CW func7 c7
   . rw [if_neg he]
     exact CW func7 c7
 . rw [if_neg h]
   exact CW func7 c7
attribute [local irreducible] PW
theorem fn30 (l:List Lev) (hl:l.length<=1000000):Ct prog 30 [.d (BF l), .d (BF l)] (vb true) []:=by
 refine CW func30 c30 fun E hE=>?_
 refine Wp ?_;exact L2 l (fun i=>⟨AO [(0, .d (BF l)),(1, .d (BF l)),(5,vi i)],lk [],0⟩) (fun _=>True) (by omega) trivial (WkA hE WA) (fun i x hx hI hz _=>Wk) fun _=>Wk
theorem fn31 (l:List Gal) (hl:l.length<=1000000):Ct prog 31 [.d (cT l), .d (cT l)] (vb true) []:=by
 refine CW func31 c31 fun E hE=>?_
 refine Wp ?_;exact L2 l (fun i=>⟨AO [(0, .d (cT l)),(1, .d (cT l)),(5,vi i)],lk [],0⟩) (fun _=>True) (by omega) trivial (WkA hE WA) (fun i x hx hI hz _=>Wk) fun _=>Wk
theorem fn10 (l:List Ldp) (hl:l.length<=1000000):Ct prog 10 [.d (Hl l), .d (Hl l)] (vb true) []:=by
 refine CW func10 c10 fun E hE=>?_
 refine Wp ?_;exact L2 l (fun i=>⟨AO [(0, .d (Hl l)),(1, .d (Hl l)),(5,vi i)],lk [],0⟩) (fun _=>True) (by omega) trivial (WkA hE WA) (fun i x hx hI hz _=>Wk) fun _=>Wk
theorem AWD:Ct prog 10 [.d (.lit (.slice none 0 0)), .d (.lit (.slice none 0 0))] (vb true) []:=by
 refine CW func10 c10 fun E hE=>?_
 refine Wp ?_;exact AWR 0 (fun i=>⟨AO [(0, .d (.lit (.slice none 0 0))),(1, .d (.lit (.slice none 0 0))),(5,vi i)],lk [],0⟩) (fun _=>True) (by omega) trivial (WkA hE WA) (fun i h=>by omega) fun _=>Wk
theorem fn28 (l:Lin):Ct prog 28 [Re l,Re l] (vb true) []:=CW func28 c28
abbrev AYC (l:Lin):List (Nat × List V):=[(0,TR l),(1,TR l)]
theorem fn34 (l:Lin) (hs:SzL l):Ct prog 34 [Re l,Re l] (vb true) []:=by
 have h1:=hs.cb;have h2:=hs.lm;have h3:=hs.fr;refine CW func34 c34 fun E hE=>?_
 refine Wp ?_;refine L2 l.cb (fun i=>⟨AO [(2, .lp 0 0),(3, .lp 1 0),(5,vi i)],lk (AYC l),2⟩) (fun _=>True) (by omega) trivial (WkA hE WA) (fun i x hx hI hz _=>Wk) fun _=>?_
 refine Wp ?_;refine L2 l.lm (fun i=>⟨AO [(2, .lp 0 0),(3, .lp 1 0),(6,vi i)],lk (AYC l),2⟩) (fun _=>True) (by omega) trivial (WkA hE WA) (fun i x hx hI hz _=>Wk) fun _=>?_
 refine Wp ?_;exact L2 l.fr (fun i=>⟨AO [(2, .lp 0 0),(3, .lp 1 0),(7,vi i)],lk (AYC l),2⟩) (fun _=>True) (by omega) trivial (WkA hE WA) (fun i x hx hI hz _=>Wk) fun _=>Wk
theorem fn11 (l:Lin) (hs:SzA l):Ct prog 11 [Re l,Re l] (vb true) []:=by
 obtain ⟨⟨s1,s2,s3,s4,s5,s6,s7,s8,s9,s10,s11⟩,sg⟩:=id hs;have c1:=fn28 l;have c2:=Ab7 l.sh s1;have c3:=fn30 l.sk.s s2;have c4:=fn31 l.sk.w s3;have c5:Ct prog 32 [.d (Qw l.ce), .d (Qw l.ce)] (vb true) []:=yy l.ce s7;have c6:=ALn l;have c7:=fn33 ⟨l.nm,l.lg⟩ sg;have c8:=fn34 l hs.z;clear hs;refine CW func11 c11 fun E hE=>?_
 refine Wp ?_;refine L2 l.rg.reg (fun i=>⟨AO [(2, .lp 0 0),(3, .lp 1 0),(5,vi i)],lk (AYC l),2⟩) (fun _=>True) (by omega) trivial (WkA hE WA) (fun i x hx hI hz _=>Wk) fun _=>?_
 refine Wp ?_;refine L2 l.po.ax (fun i=>⟨AO [(2, .lp 0 0),(3, .lp 1 0),(6,vi i)],lk (AYC l),2⟩) (fun _=>True) (by omega) trivial (WkA hE WA) (fun i x hx hI hz _=>Wk) fun _=>?_
 refine Wp ?_;exact L2 l.po.pu (fun i=>⟨AO [(2, .lp 0 0),(3, .lp 1 0),(7,vi i)],lk (AYC l),2⟩) (fun _=>True) (by omega) trivial (WkA hE WA) (fun i x hx hI hz _=>Wk) fun _=>Wk
end Go.Proofs.Tryz
namespace Go.Proofs.Tryz
open Go.Psl
open Go.Log
theorem AX1:∀ x:Etr,(Qb x).length=4:=fun _=>rfl
theorem Abw:∀ x:Int,(Yj x).length=1:=fun _=>rfl
theorem L8 {α:Type} {R:α->α->Prop} (h:∀ a,R a a):∀ l:List α,AJ R l l
 | []=>trivial
 | a::l=>⟨h a,L8 h l⟩
theorem Yk {R:V->V->Prop} (h:∀ a,R a a) {v c:V} (hv:R v c):∀ {cs:List V} {o:Nat},cs[o]?= some c->AJ R (cs.take o++v::cs.drop (o+1)) cs
 | [],o,hc=>by simp at hc
 | a::cs,0,hc=>by
   simp at hc;subst hc;exact ⟨hv,L8 h cs⟩
 | a::cs,o+1,hc=>⟨h a,Yk h hv (cs:=cs) (o:=o) (by simpa using hc)⟩
theorem fn19 (l:Lg) (hl:l.es.length<=1000000) (ha:∀ x∈l.es,x.a.length<=1000000):Ct prog 19 [AVh l] (.agg [vS l.s, .ls 0 0 l.es.length 4]) [(0,AH Qb l.es)]:=by
 have hres:∀ (E:List (Nat × List V)),E=[(0,AH Qb l.es)]->LD (.agg [vS l.s, .ls 0 0 l.es.length 4]) E:=fun E hE=>by
   subst hE;refine ⟨by simp,?_⟩;intro q hq c hc;simp only [List.mem_cons,List.not_mem_nil,or_false] at hq;subst hq;obtain ⟨d,_,rfl⟩:=List.mem_map.1 (show c∈List.map V.d (List.map Qb l.es).flatten from hc);trivial
 refine Ct.by gok eok mixed func19 c19 rfl (by simp [ntmps19]) (by simp) (hres _ rfl) fun E hE=>?_
 by_cases h0:l.es=[]
 . have e1:U6 l.es= .sl 4 []:=by rw [h0];rfl
   have e2:AH Qb l.es=[]:=by rw [h0];rfl
   have e3:l.es.length=0:=by rw [h0];rfl
   have eV:AVh l= .agg [vS l.s, .d (.sl 4 [])]:=by rw [<-e1]
   rw [eV];simp [p19,AM];refine Al (α:=Nat) (fun i=>⟨AO [(1, .lp 0 0),(2, .lp 1 0),(3, .ls 2 0 l.es.length 4),(4,vi i)],lk [(0,[vS l.s, .d (U6 l.es)]),(1,[vS [], .d (.lit (.slice none 0 0))]),(2,AH Qb l.es)],3⟩) (fun i=>i<=l.es.length) (fun i=>l.es.length-i) 0 ?_ ?_ ?_
   . omega
   . refine AI.mk hE (lk [(0,0),(1,1048576),(2,5242880)]) _ _ _ ?_ ?_ ?_ ?_ ?_<;>simp [e1,e2,e3]
   . intro i hi
     have hz:=@wz i (by omega);by_cases h:i<l.es.length
     . obtain ⟨x,hx⟩:=gE h
       have hI:(i:Int)<l.es.length:=by omega
       have hsl:=Aw AX1 l.es;have s0:i*4+2+1<=l.es.length*4:=by omega
       have t10:List.take 1 (List.drop (i*4+2) (AH Qb l.es))=[.d (MB x.a)]:=XS AX1 (x:=x) (j:=2) (k:=1) hx (by omega);have hcell:(AH Qb l.es)[i*4+2]?= some (.d (MB x.a)):=Jg AX1 (x:=x) (j:=2) hx rfl;have hxa:=ha x (List.mem_of_getElem? hx);by_cases ha0:x.a=[]
       . rw [show MB x.a= .sl 1 [] by rw [ha0];rfl] at t10 hcell
         simp [AVo,hI,AA,AM,hsl,s0,t10,hz];refine ⟨i+1,by omega,by omega,?_⟩;refine AI.trans (AI.frzR [12582915] (m:=[(1, .lp 0 0),(2, .lp 1 0),(3, .ls 2 0 l.es.length 4),(4,vi (i+1:Nat))]) (h:=[(0,[vS l.s, .d (U6 l.es)]),(1,[vS [], .d (.lit (.slice none 0 0))]),(2,AH Qb l.es)]) hE ?_ ?_) ?_
         . intro p hp
           simp only [List.mem_cons,List.not_mem_nil,or_false] at hp;rcases hp with rfl | rfl | rfl | rfl
           . exact .inr (.inl (by simp))
           . exact .inr (.inl (by simp))
           . exact .inr (.inl (by simp))
           . exact .inr (.inl (by simp))
         . intro p hp
           simp only [List.mem_cons,List.not_mem_nil,or_false] at hp;rcases hp with rfl | rfl | rfl
           . exact ⟨by simp,_,by simp,L8 (fun _=> .inl rfl) _⟩
           . exact ⟨by simp,_,by simp,L8 (fun _=> .inl rfl) _⟩
           . refine ⟨by simp,(AH Qb l.es).take (i*4+2)++ .ls 12582915 0 0 1::(AH Qb l.es).drop (i*4+2+1),by simp,Yk (fun _=> .inl rfl) (.inr ⟨_,rfl,?_⟩) hcell⟩
             exact ⟨rfl,rfl,by simp,[],by simp [AAa],by simp⟩
         . exact WK hE (lk [(0,0),(1,1),(2,2)])
       . obtain ⟨b,u,e⟩:=List.exists_cons_of_ne_nil ha0
         have hmx2:(u.length+1)*8<=140737488355328/\u.length+1<=9223372036854775807:=by rw [e] at hxa;simp at hxa;omega
         have ee2:MB x.a= .sl 1 (Yj b::u.map Yj):=by rw [e];rfl
         have ef2:(u.map (List.map V.d ∘ Yj)).flatten=AH Yj u:=by simp [AH,List.map_flatten]
         have hcl2:(∀ x∈AH Yj u,x.isCell=true)=True:=eq_true BU;rw [ee2] at t10 hcell;simp [AVo,hI,AA,AM,hsl,s0,t10,hz,ef2,hmx2];have efa:V.d (di b)::AH Yj u=AH Yj x.a:=by rw [e,CQ];rfl
         have hxl:x.a.length=u.length+1:=by rw [e];simp
         rw [<-ee2] at hcell;rw [efa,<-hxl];refine ⟨i+1,by omega,by omega,?_⟩;refine AI.trans (AI.frzR [12582915] (m:=[(1, .lp 0 0),(2, .lp 1 0),(3, .ls 2 0 l.es.length 4),(4,vi (i+1:Nat))]) (h:=[(0,[vS l.s, .d (U6 l.es)]),(1,[vS [], .d (.lit (.slice none 0 0))]),(2,AH Qb l.es)]) hE ?_ ?_) ?_
         . intro p hp
           simp only [List.mem_cons,List.not_mem_nil,or_false] at hp;rcases hp with rfl | rfl | rfl | rfl
           . exact .inr (.inl (by simp))
           . exact .inr (.inl (by simp))
           . exact .inr (.inl (by simp))
           . exact .inr (.inl (by simp))
         . intro p hp
           simp only [List.mem_cons,List.not_mem_nil,or_false] at hp;rcases hp with rfl | rfl | rfl
           . exact ⟨by simp,_,by simp,L8 (fun _=> .inl rfl) _⟩
           . exact ⟨by simp,_,by simp,L8 (fun _=> .inl rfl) _⟩
           . refine ⟨by simp,(AH Qb l.es).take (i*4+2)++ .ls 12582915 0 x.a.length 1::(AH Qb l.es).drop (i*4+2+1),by simp,Yk (fun _=> .inl rfl) (.inr ⟨_,rfl,?_⟩) hcell⟩
             exact B0 (f:=Yj) Abw (l:=x.a) (by simp [AAa])
         . exact WK hE (lk [(0,0),(1,1),(2,2)])
     . have hI:¬ (i:Int)<l.es.length:=by omega
       have ei:i=l.es.length:=by omega
       simp [AVo,hI,AA];refine AB.by (lk [(0,2)]) ?_;simp [results19]
 . obtain ⟨a,t,e⟩:=List.exists_cons_of_ne_nil h0
   have hmx:(t.length+1)*64<=140737488355328/\t.length+1<=9223372036854775807:=by rw [e] at hl;simp at hl;omega
   have ee:U6 l.es= .sl 4 (Qb a::t.map Qb):=by rw [e];rfl
   have ef:(t.map (List.map V.d ∘ Qb)).flatten=AH Qb t:=by simp [AH,List.map_flatten]
   have hcl:(∀ x∈AH Qb t,x.isCell=true)=True:=eq_true BU;have eln:l.es.length=t.length+1:=by rw [e];simp
   have eV:AVh l= .agg [vS l.s, .d (.sl 4 (Qb a::t.map Qb))]:=by rw [<-ee]
   rw [eV];simp [p19,AM,ef,hmx];have efl:AH Qb l.es=V.d (di a.t)::vS a.w::V.d (MB a.a)::vS a.n::AH Qb t:=by rw [e,CQ];rfl
   rw [<-efl];refine Al (α:=Nat) (fun i=>⟨AO [(1, .lp 0 0),(2, .lp 1 0),(3, .ls 2 0 l.es.length 4),(4,vi i)],lk [(0,[vS l.s, .d (U6 l.es)]),(1,[vS [], .d (.lit (.slice none 0 0))]),(2,AH Qb l.es)],3⟩) (fun i=>i<=l.es.length) (fun i=>l.es.length-i) 0 ?_ ?_ ?_
   . omega
   . refine AI.mk hE (lk [(0,0),(1,1048576),(2,5242880)]) _ _ _ ?_ ?_ ?_ ?_ ?_<;>simp [e,CQ]
   . intro i hi
     have hz:=@wz i (by omega);by_cases h:i<l.es.length
     . obtain ⟨x,hx⟩:=gE h
       have hI:(i:Int)<l.es.length:=by omega
       have hsl:=Aw AX1 l.es;have s0:i*4+2+1<=l.es.length*4:=by omega
       have t10:List.take 1 (List.drop (i*4+2) (AH Qb l.es))=[.d (MB x.a)]:=XS AX1 (x:=x) (j:=2) (k:=1) hx (by omega);have hcell:(AH Qb l.es)[i*4+2]?= some (.d (MB x.a)):=Jg AX1 (x:=x) (j:=2) hx rfl;have hxa:=ha x (List.mem_of_getElem? hx);by_cases ha0:x.a=[]
       . rw [show MB x.a= .sl 1 [] by rw [ha0];rfl] at t10 hcell
         simp [AVo,hI,AA,AM,hsl,s0,t10,hz];refine ⟨i+1,by omega,by omega,?_⟩;refine AI.trans (AI.frzR [12582915] (m:=[(1, .lp 0 0),(2, .lp 1 0),(3, .ls 2 0 l.es.length 4),(4,vi (i+1:Nat))]) (h:=[(0,[vS l.s, .d (U6 l.es)]),(1,[vS [], .d (.lit (.slice none 0 0))]),(2,AH Qb l.es)]) hE ?_ ?_) ?_
         . intro p hp
           simp only [List.mem_cons,List.not_mem_nil,or_false] at hp;rcases hp with rfl | rfl | rfl | rfl
           . exact .inr (.inl (by simp))
           . exact .inr (.inl (by simp))
           . exact .inr (.inl (by simp))
           . exact .inr (.inl (by simp))
         . intro p hp
           simp only [List.mem_cons,List.not_mem_nil,or_false] at hp;rcases hp with rfl | rfl | rfl
           . exact ⟨by simp,_,by simp,L8 (fun _=> .inl rfl) _⟩
           . exact ⟨by simp,_,by simp,L8 (fun _=> .inl rfl) _⟩
           . refine ⟨by simp,(AH Qb l.es).take (i*4+2)++ .ls 12582915 0 0 1::(AH Qb l.es).drop (i*4+2+1),by simp,Yk (fun _=> .inl rfl) (.inr ⟨_,rfl,?_⟩) hcell⟩
             exact ⟨rfl,rfl,by simp,[],by simp [AAa],by simp⟩
         . exact WK hE (lk [(0,0),(1,1),(2,2)])
       . obtain ⟨b,u,e⟩:=List.exists_cons_of_ne_nil ha0
         have hmx2:(u.length+1)*8<=140737488355328/\u.length+1<=9223372036854775807:=by rw [e] at hxa;simp at hxa;omega
         have ee2:MB x.a= .sl 1 (Yj b::u.map Yj):=by rw [e];rfl
         have ef2:(u.map (List.map V.d ∘ Yj)).flatten=AH Yj u:=by simp [AH,List.map_flatten]
         have hcl2:(∀ x∈AH Yj u,x.isCell=true)=True:=eq_true BU;rw [ee2] at t10 hcell;simp [AVo,hI,AA,AM,hsl,s0,t10,hz,ef2,hmx2];have efa:V.d (di b)::AH Yj u=AH Yj x.a:=by rw [e,CQ];rfl
         have hxl:x.a.length=u.length+1:=by rw [e];simp
         rw [<-ee2] at hcell;rw [efa,<-hxl];refine ⟨i+1,by omega,by omega,?_⟩;refine AI.trans (AI.frzR [12582915] (m:=[(1, .lp 0 0),(2, .lp 1 0),(3, .ls 2 0 l.es.length 4),(4,vi (i+1:Nat))]) (h:=[(0,[vS l.s, .d (U6 l.es)]),(1,[vS [], .d (.lit (.slice none 0 0))]),(2,AH Qb l.es)]) hE ?_ ?_) ?_
         . intro p hp
           simp only [List.mem_cons,List.not_mem_nil,or_false] at hp;rcases hp with rfl | rfl | rfl | rfl
           . exact .inr (.inl (by simp))
           . exact .inr (.inl (by simp))
           . exact .inr (.inl (by simp))
           . exact .inr (.inl (by simp))
         . intro p hp
           simp only [List.mem_cons,List.not_mem_nil,or_false] at hp;rcases hp with rfl | rfl | rfl
           . exact ⟨by simp,_,by simp,L8 (fun _=> .inl rfl) _⟩
           . exact ⟨by simp,_,by simp,L8 (fun _=> .inl rfl) _⟩
           . refine ⟨by simp,(AH Qb l.es).take (i*4+2)++ .ls 12582915 0 x.a.length 1::(AH Qb l.es).drop (i*4+2+1),by simp,Yk (fun _=> .inl rfl) (.inr ⟨_,rfl,?_⟩) hcell⟩
             exact B0 (f:=Yj) Abw (l:=x.a) (by simp [AAa])
         . exact WK hE (lk [(0,0),(1,1),(2,2)])
     . have hI:¬ (i:Int)<l.es.length:=by omega
       have ei:i=l.es.length:=by omega
       simp [AVo,hI,AA];refine AB.by (lk [(0,2)]) ?_;simp [results19]
end Go.Proofs.Tryz
namespace Go.Psl
section
variable {P:Program} {E:Ent}
def AZL (H:Hp) (f:Nat->V):List (Nat × V)->Prop
 | []=>True
 | p::r=>FzE H (f p.1) p.2/\AZL H f r
def FzO (H:Hp):Option (List V)->List V->Prop
 | some cs,ds=>AJ (FzK H) cs ds
 | none,_=>False
def AZM (K H:Hp) (ids:List Nat):List (Nat × List V)->Prop
 | []=>True
 | p::r=>p.1 ∉ ids/\FzO K (H p.1) p.2/\AZM K H ids r
theorem AZL.at' {H:Hp} {f:Nat->V}:∀ {l:List (Nat × V)},AZL H f l->∀ p∈l,FzE H (f p.1) p.2
 | _::_,h,p,hp=>by
   rcases List.mem_cons.1 hp with rfl | hp
   . exact h.1
   . exact h.2.at' p hp
theorem AZM.at' {K H:Hp} {ids:List Nat}:∀ {l:List (Nat × List V)},AZM K H ids l->∀ p∈l,p.1 ∉ ids/\∃ cs,H p.1=some cs/\AJ (FzK K) cs p.2
 | _::_,h,p,hp=>by
   rcases List.mem_cons.1 hp with rfl | hp
   . refine ⟨h.1,?_⟩
     have:=h.2.1;cases e:H p.1 with
     | none=>rw [e] at this;exact this.elim
     | some cs=>rw [e] at this;exact ⟨cs,rfl,this⟩
   . exact h.2.2.at' p hp
theorem WkF (ids:List Nat) {f:Nat->V} {m:List (Nat × V)} {H:Hp} {h:List (Nat × List V)} {n:Nat} (hs:∀ i,¬ E.stab i) (hh:AZL (AAa H ids) f m/\AZM (AAa H ids) H ids h):AI P E ⟨f,H,n⟩ ⟨AO m,lk h,n⟩:=
 AI.frzR ids hs hh.1.at' hh.2.at'
theorem AZ9 {H:Hp} {v:V}:FzE H v v=True:=eq_true (.inr (.inl rfl))
theorem AaA {H:Hp} {v:V}:FzK H v v=True:=eq_true (.inl rfl)
theorem AbE {α:Type} {f:α->List D} {sz:Nat} {H:Hp} {i:Nat} {l:List α} (h:H i=some ((l.map (List.map V.d ∘ f)).flatten)) (hf:∀ x,(f x).length=sz):FzK H (.ls i 0 l.length sz) (.d (.sl sz (l.map f)))=True:=
 eq_true (.inr ⟨_,rfl,B0 (f:=f) hf (by rw [h];simp [AH,List.map_flatten])⟩)
theorem AbF {α:Type} {f:α->List D} {sz:Nat} {H:Hp} {i:Nat} {l:List α} (h:H i=some (AH f l)) (hf:∀ x,(f x).length=sz):FzK H (.ls i 0 l.length sz) (.d (.sl sz (l.map f)))=True:=
 eq_true (.inr ⟨_,rfl,B0 (f:=f) hf h⟩)
@[simp] theorem AbG {α β:Type} {f:α->List D} {l:List α} {a b:β} [Decidable (∀ v,v∈(l.map (List.map V.d ∘ f)).flatten->v.isCell=true)]:(if ∀ v,v∈(l.map (List.map V.d ∘ f)).flatten->v.isCell=true then a else b)=a:=if_pos fun v hv=>by
 have e:(l.map (List.map V.d ∘ f)).flatten=AH f l:=by simp [AH,List.map_flatten]
 rw [e] at hv;exact BU v hv
theorem WF {p:Prop} (h:p:=by simp [AZL,FzO,AZM,AAa,AZ9,AaA,AbE,AbF]):p:=h
end
end Go.Psl
namespace Go.Proofs.Tryz
open Go.Psl
open Go.Air
open Go.Log (Ldp Lim Etr By Lg DF F7 Ue F0 Kl Uj Rh)
attribute [local irreducible] PW
abbrev z0:V:=vi 0
abbrev zs:V:= .d (.lit (.slice none 0 0))
abbrev zL:List V:=[vS [],z0,z0,z0,z0,z0,z0,z0,z0,z0,z0,z0,z0,z0,z0,z0,zs,z0,z0,z0,z0,z0,z0,z0,z0,z0,zs,zs,zs,z0,z0,z0,z0,z0,z0,zs,z0,z0,zs,z0, .d (dub 0),z0,z0,vb false,vb false,z0,z0,z0,z0,zs,z0,z0,z0,z0,zs,z0,z0,z0,z0,zs,zs,z0,z0,z0,zs]
theorem fn5 (l:Lin) (hs:SzA l):Ct prog 5 [Re l] (Re l) []:=by
 obtain ⟨⟨s1,s2,s3,s4,s5,s6,s7,s8,s9,s10,s11⟩,sg⟩:=hs;have c1:=fn18 l.sh s1;have c2:=ALn l;have c3:=fn19 ⟨l.nm,l.lg⟩ sg.n fun x hx=>(sg.e x hx).2.1
 have sn:l.lg.length<=1000000:=sg.n;refine CV 13 func5 c5 fun E hE _=>lB ?_
 refine Wp ?_;refine lB ?_;refine Wp ?_;refine Rb ⟨AO [(1, .lp 0 0),(2, .lp 1048576 0)],lk [(0,TR l),(1048576,zL)],_⟩ (WkF [4194304] hE WF) ?_;refine Wp ?_;refine Rb ⟨AO [(1, .lp 0 0),(2, .lp 1048576 0)],lk [(0,TR l),(1048576,zL)],_⟩ (WkF [11534336] hE WF) ?_;refine Wp ?_;refine Rb ⟨AO [(1, .lp 0 0),(2, .lp 1048576 0)],lk [(0,TR l),(1048576,zL)],_⟩ (WkF [19922944] hE WF) ?_;refine Wp ?_;refine Rb ⟨AO [(1, .lp 0 0),(2, .lp 1048576 0)],lk [(0,TR l),(1048576,zL)],_⟩ (WkF [28311552] hE WF) ?_;refine Wp ?_;refine Rb ⟨AO [(1, .lp 0 0),(2, .lp 1048576 0)],lk [(0,TR l),(1048576,zL)],_⟩ (WkF [36700160] hE WF) ?_;refine Wp ?_;refine Rb ⟨AO [(1, .lp 0 0),(2, .lp 1048576 0)],lk [(0,TR l),(1048576,zL)],_⟩ (WkF [45088768] hE WF) ?_;refine Wp ?_;refine Rb ⟨AO [(1, .lp 0 0),(2, .lp 1048576 0)],lk [(0,TR l),(1048576,zL)],_⟩ (WkF [52428800] hE WF) ?_;refine Wp ?_;refine Rb ⟨AO [(1, .lp 0 0),(2, .lp 1048576 0)],lk [(0,TR l),(1048576,zL)],_⟩ (WkF [58720256] hE WF) ?_;refine Wp ?_;refine Rb ⟨AO [(1, .lp 0 0),(2, .lp 1048576 0)],lk [(0,TR l),(1048576,zL)],_⟩ (WkF [65011712] hE WF) ?_;refine Wp ?_;refine Rb ⟨AO [(1, .lp 0 0),(2, .lp 1048576 0)],lk [(0,TR l),(1048576,zL)],_⟩ (WkF [71303168] hE WF) ?_;refine Wp ?_;refine Rb ⟨AO [(1, .lp 0 0),(2, .lp 1048576 0)],lk [(0,TR l),(1048576,zL)],_⟩ (WkF [76546048] hE WF) ?_;refine Wp (AZR ?_);exact Wk
theorem fn15 (p:Prt):Ct prog 15 [AW1 p] (vb (decide ((40:Int)<p.ax.length)||decide ((20:Int)<p.pu.length))) []:=CW func15 c15
def AZN (l:Lin):Bool:=decide (24<l.sk.s.length)||decide (24<l.sk.w.length)||decide (20<l.sh.gas.cs.length)||decide (80<l.rg.reg.length)||(decide ((40:Int)<l.po.ax.length)||decide ((20:Int)<l.po.pu.length))||AVm ⟨l.nm,l.lg⟩||decide ((20:Int)<l.ce.length)||decide ((10:Int)<l.cb.length)||decide ((50:Int)<l.lm.length)||decide ((50:Int)<l.fr.length)
theorem AaB {l:Lin} (h:AZN l=false) (hb:0<=l.be.sh/\l.be.sh<256):SzA l:=by
 simp only [AZN,Bool.or_eq_false_iff,decide_eq_false_iff_not] at h;exact ⟨⟨by omega,by omega,by omega,by omega,by omega,by omega,by omega,by omega,by omega,by omega,hb⟩,AX4 h.1.1.1.1.2⟩
theorem fn4 (l:Lin):Ct prog 4 [Re l] (vb (AZN l)) []:=by
 have d1:=fn12 l.sk;have d2:=fn13 l.sh;have d3:=fn14 l.rg;have d4:=fn15 l.po;have d5:=ALn l;have d6:=fn16 ⟨l.nm,l.lg⟩;unfold AZN
 generalize (decide (24<l.sk.s.length)||decide (24<l.sk.w.length))=b1 at*
 generalize decide (20<l.sh.gas.cs.length)=b2 at*
 generalize decide (80<l.rg.reg.length)=b3 at*
 generalize (decide ((40:Int)<l.po.ax.length)||decide ((20:Int)<l.po.pu.length))=b4 at*
 generalize AVm ⟨l.nm,l.lg⟩=b5 at*
 exact CW func4 c4
end Go.Proofs.Tryz
namespace Go.Proofs.Tryz
open Go.Psl
open Go.Air
open Go.Log (Ldp Lim Etr By Lg)
attribute [local irreducible] PW
theorem AX6 (l:Lin) (_:SzA l):∃ (d:D) (n:Int),AYD l= .tup [.d d,vi n]/\Ct prog 10 [.d d, .d d] (vb true) []:=by
 unfold AYD;split
 . split
   . rename_i h1 h2
     have h:=AYS (sm h1) (aU (qD h2));exact ⟨_,_,rfl,fn10 _ (by have:=(Qd h).1;omega)⟩
   . exact ⟨_,_,rfl,AWD⟩
 . exact ⟨_,_,rfl,AWD⟩
theorem fn3 (hS:SortOk) (l:Lin) (hb:0<=l.be.sh/\l.be.sh<256):Ct prog 3 [Re l] (vb true) []:=by
 have d0:=fn4 l;cases hg:AZN l with
 | true=>
   rw [hg] at d0;exact CW func3 c3
 | false=>
   rw [hg] at d0;have hs:=AaB hg hb;have d1:=fn5 l hs;have d2:=fn6 hS l hs;have d3:=fn7 l hs;have d4:=fn8 hS l hs;have d5:=fn9 l hs;have d6:=fn11 l hs;obtain ⟨d,n,e,d7⟩:=AX6 l hs;rw [e] at d2 d3;clear hs e;exact CW func3 c3
end Go.Proofs.Tryz
namespace Go.Psl
open Go.Shelf Go.RowKit Go.Lib Go.Sort
variable {P:Program} {ρ:Ren} {α:Type} [Inhabited α]
theorem dJ {W W':World} (hos:W'.os=W.os) (hta:W'.tape=W.tape) (hou:W'.output=W.output) (hdr:W.drawn<=W'.drawn) (hsz:W.heap.size<=W'.heap.size) (hb:∀ b,b<W.heap.size->W'.heap[b]?= W.heap[b]?):
   ∃ q os',W'=grow (W.drewN q) os':=by
 refine ⟨W'.drawn-W.drawn,W'.heap.extract W.heap.size W'.heap.size,?_⟩;obtain ⟨h,t,d,o,u⟩:=W;obtain ⟨h',t',d',o',u'⟩:=W';simp only at hos hta hou hdr hsz hb;subst hos hta hou;simp only [grow,World.drewN];congr 1
 . apply Array.ext_getElem?
   intro i;by_cases hi:i<h.size
   . rw [Array.getElem?_append_left hi,hb i hi]
   . rw [Array.getElem?_append_right (by omega),Array.getElem?_extract]
     split
     . congr 1;omega
     . rw [Array.getElem?_eq_none (by omega)]
 . omega
theorem Mg {enc:α->List Value} {k:Nat} (h0:0<k) (hk:∀ x,(enc x).length=k) (l:List α) (j:Nat) (hj:j<l.length*k):(l.flatMap enc)[j]?= some (flatK enc k l.toArray)[j]! :=by
 rw [get_flatK _ _ _ _ (by simpa using hj),List.flatMap_def,CI h0 _ (fun e he=>by obtain ⟨x,_,rfl⟩:=List.mem_map.1 he;exact hk x)];have h1:j/k<l.length:=by rw [Nat.div_lt_iff_lt_mul h0];exact hj
 have hm:j%k<k:=Nat.mod_lt _ h0;rw [List.getElem?_map,List.getElem?_eq_getElem h1];simp only [Option.map_some,Option.bind_some];have e1:l.toArray[j/k]! =l[j/k]:=by rw [getElem!_pos _ _ (by simpa using h1)];simp
 rw [e1,List.getElem?_eq_getElem (by rw [hk];exact hm),getElem!_pos _ _ (by rw [hk];exact hm)]
omit [Inhabited α] in
theorem N2 {enc:α->List Value} {k:Nat} (hk:∀ x,(enc x).length=k) (l:List α):(l.flatMap enc).length=l.length*k:=by
 rw [List.flatMap_def,B3 (sz:=k) _ (fun e he=>by obtain ⟨x,_,rfl⟩:=List.mem_map.1 he;exact hk x),List.length_map]
theorem Wo {G:Gh} {W:World} {vs:List Value} (h:∀ v∈vs,CU v=true):AJ (R1 G W) (vs.map cV) vs:=by
 induction vs with
 | nil=>trivial
 | cons v vs ih=>exact ⟨RD.lit v (h v (by simp)),ih fun x hx=>h x (by simp [hx])⟩
theorem P6 {g:Nat} {enc:α->List Value} {k:Nat} {cf:α->α->Int} (hflat:∀ x,∀ v∈enc x,CU v=true) (hcmp:∀ x y,Ct P g [.agg ((enc x).map cV), .agg ((enc y).map cV)] (.d (.lit (.int .i64 (cf x y)))) []) (blk off size:Nat) (w:World) {Im:Nat->Prop} (hG:GW Im w) (hn:¬ Im blk):Go.Proofs.CmpLays P g #[] enc k cf blk off size w:=by
 intro m os dk _ x y
 have hh:∀ b,b<w.heap.size->b≠blk->(Go.Proofs.sortWorldK enc k w blk off m dk os).heap[b]?= w.heap[b]?:= fun b hlt hne=>by
   show ((w.heap.modify blk _)++os)[b]?= _
   rw [Array.getElem?_append_left (by simpa using hlt),Array.getElem?_modify,if_neg fun h=>hne h.symm]
 have hG2:GW Im (Go.Proofs.sortWorldK enc k w blk off m dk os):=by
   refine ⟨fun b hb=>Nat.lt_of_lt_of_le (hG.1 b hb) ?_,hG.2.mono fun b hb=>⟨hb,hh b (hG.1 b hb) fun e=>hn (e ▸ hb)⟩⟩
   show _<=((w.heap.modify blk _)++os).size
   simp
 refine ((hcmp x y).2 ⟨fun _=>0,fun _=>0,fun _=>true,fun _=>true,Im⟩ _ #[.agg (enc x).toArray, .agg (enc y).toArray] hG2 ⟨⟨_,rfl,Wo (hflat x)⟩,⟨_,rfl,Wo (hflat y)⟩,trivial⟩ ⟨nofun,fun i _ h=>by simp [InH] at h,nofun⟩).mono fun e W' ⟨G',hp⟩=>?_
 refine ⟨?_,dJ hp.os hp.tape hp.output hp.drawn hp.size fun b hb=>hp.block b hb fun ⟨_,h,_⟩=>by simp [InH] at h⟩;cases e with
 | returned v=>rw [Rc hp.rv]
 | _=>exact hp.rv.elim
theorem N3 (L:Go.Proofs.SlLaysF0.n6 P ρ) (hf:fF P (ρ.f 6)) (k:Nat) (h0:0<k) (aE:∀ w,(isAgg (ρ.t 24)).run P w= .ok true w) (zE:∀ w,(Go.sizeOf (ρ.t 24)).run P w= .ok k w) (enc:α->List Value) (hk:∀ x,(enc x).length=k) (hflat:∀ x,∀ v∈enc x,CU v=true) (cf:α->α->Int) (hO:SWO (Go.Proofs.ltOf cf)) (hT:∀ x y,(Go.Proofs.ltOf cf) x y=false->(Go.Proofs.ltOf cf) y x=false->x=y)
   (g:Nat) (eg:∀ args w,(callFunc g args).run P w= .ok (.enter g args) w) (hcmp:∀ x y,Ct P g [.agg ((enc x).map cV), .agg ((enc y).map cV)] (.d (.lit (.int .i64 (cf x y)))) []) (l:List α) (hl0:0<l.length) (hsz:l.length<4611686018427387904):
   Cm P (ρ.f 6) [.ls 0 0 l.length k, .d (.fn g [])] (lk [(0,(l.flatMap enc).map cV)]) [0] (.ret (.tup [])) (lk [(0,((l.mergeSort fun x y=>!(Go.Proofs.ltOf cf) y x).flatMap enc).map cV)]):=by
 refine ⟨hf,fun G W xs hGW hargs hpre=>?_⟩
 obtain ⟨v1,v2,rfl⟩:∃ v1 v2,xs= #[v1,v2]:=by
   have:=hargs.length;obtain ⟨xs⟩:=xs
   match xs,this with
   | [a,b],_=>exact ⟨a,b,rfl⟩
   | [],h=>simp at h
   | [_],h=>simp at h
   | _::_::_::_,h=>simp at h
 obtain ⟨h1,h2,_⟩:=hargs;obtain ⟨hIn,hph⟩:=hpre.st 0 (by simp);obtain ⟨hml,⟨_,h,_⟩ | ⟨hphl,o,cap,rfl,hcap,ho⟩⟩:=h1
 . omega
 obtain ⟨rfl,hbs0⟩:=ho (by omega)
 obtain ⟨cv,rfl,hcv⟩:∃ cv,v2= .func (.func g) #[] cv/\cv.size=0:=by
   cases h2 with
   | fn _ _ cv hl _=>exact ⟨cv,rfl,hl⟩
 obtain rfl:cv= #[]:=Array.eq_empty_of_size_eq_zero hcv;have hHB:=hpre.hb 0 _ rfl;obtain ⟨hnim,c,T,⟨fz,hb,hfz⟩,hbs,hcl,hcr,hca⟩:=hHB.read hphl;have hblk:G.β 0<W.heap.size:=(Array.getElem?_eq_some_iff.1 hb).1;have hfl:=N2 hk l;rw [List.length_map,hfl] at hcl hcr
 have hcell:∀ j,j<l.length*k->c[j]?= some (flatK enc k l.toArray)[j]! :=fun j hj=>by
   have h3:=Mg h0 hk l j hj;have h4:((l.flatMap enc).map cV)[j]?= some (cV (flatK enc k l.toArray)[j]!):=by rw [List.getElem?_map,h3];rfl
   obtain ⟨x,hx,hr⟩:=hcr.get h4;rw [List.getElem?_take,if_pos hj,Array.getElem?_toList] at hx;rw [hx,BO hr.r2.rv]
 have hH:HoldsK enc k W (G.β 0) 0 l.toArray:=fun j hj=>by
   have hj':j<l.length*k:=by simpa using hj
   refine ⟨?_,?_⟩
   . unfold World.cell?
     simp only [Nat.zero_add,hb,Option.isSome_none,Bool.false_eq_true,if_false];exact hcell j hj'
   . unfold World.frozen?
     simp [hb];omega
 have h1c:∀ x,∀ v∈enc x,v.oneCell'=true:=fun x v hv=>RD.oneCell (Im:=fun _=>True) (W:=W) (RD.lit v (hflat x v hv))
 have key:=Go.Proofs.AnyQ.slices_SortFunc_total L k aE zE enc hk h1c cf hO g #[] (G.β 0) 0 cap l.toArray W eg (P6 hflat hcmp _ _ _ _ hGW hnim) hH hblk (by simpa using hsz) hT;have hperm:(l.mergeSort fun x y=>!(Go.Proofs.ltOf cf) y x).length=l.length:=List.length_mergeSort _
 generalize (l.mergeSort fun x y=>!(Go.Proofs.ltOf cf) y x)=l' at key hperm ⊢
 have key':Calls P (ρ.f 6) #[.slice (some ⟨G.β 0,0,none⟩) l.length cap, .func (.func g) #[] #[]] W fun e w'=>e= .returned (.tuple #[])/\∃ n os,w'=Go.Proofs.sortWorldK enc k W (G.β 0) 0 n l'.toArray os:=by simpa using key
 refine key'.mono fun e W' ⟨he,n,os,hW'⟩=>?_
 subst he
 have hlent:∀ b,Bm G (lk [(0,(l.flatMap enc).map cV)]) b->b=G.β 0:=fun b ⟨i,hi,_,hbi⟩=>by
   have:i=0:=by simp only [InH,lk] at hi;split at hi;assumption;cases hi
   rw [<-hbi,this]
 have hlent0:Bm G (lk [(0,(l.flatMap enc).map cV)]) (G.β 0):=⟨0,hIn,hph,rfl⟩
 have hheap:∀ b,b<W.heap.size->W'.heap[b]?= if b=G.β 0 then some (.cells (putCells id 0 (flatK enc k l'.toArray) c) T fz) else W.heap[b]?:= fun b hlt=>by
   rw [hW']
   show ((putRow id (Sort.ahead W n) (G.β 0) 0 (flatK enc k l'.toArray)).heap++os)[b]?= _
   rw [Array.getElem?_append_left (by simpa using hlt)]
   show (W.heap.modify (G.β 0) _)[b]?= _
   rw [Array.getElem?_modify];by_cases e:b=G.β 0
   . subst e
     simp [hb,onCells]
   . rw [if_neg (fun h=>e h.symm),if_neg e]
 have hsz':W.heap.size<=W'.heap.size:=by rw [hW'];exact Go.Proofs.size_sortWorldK_c enc k W (G.β 0) 0 n l'.toArray os
 refine ⟨G,⟨by rw [hW'];rfl,by rw [hW'];rfl,by rw [hW'];rfl,by rw [hW'];exact Nat.le_add_right _ _,hsz',fun b hlt hn=>?_,fun b hb=>⟨Nat.lt_of_lt_of_le (hGW.1 b hb) hsz', .inl hb⟩,fun _ h=>h,⟨#[],rfl,trivial⟩,fun _ h=>(by cases h),fun i cs hi=>?_,fun i j hi hj _ _ _=>?_,fun i hi _=>⟨rfl,rfl,(hpre.st i hi).2,rfl⟩⟩⟩
 . rw [hheap b hlt,if_neg (fun e:b=G.β 0=>hn (by rw [e];exact hlent0))]
 . have hi0:i=0/\cs=(l'.flatMap enc).map cV:=by
     simp only [lk] at hi;split at hi
     . rename_i e;cases hi;exact ⟨e,rfl⟩
     . cases hi
   obtain ⟨rfl,rfl⟩:=hi0;have hfl':=N2 hk l';refine ⟨.inr (.inl ⟨hphl.1,hphl.2,hnim,putCells id 0 (flatK enc k l'.toArray) c,T,by rw [hheap _ hblk,if_pos rfl];exact ⟨fz,rfl,by simpa [putCells] using hfz⟩,by simp [putCells,hbs],by simp [putCells,hfl',hperm];exact hcl,?_,?_⟩),fun _=> .inr hlent0,fun x hx=>?_⟩
   . refine AJ.of_get ?_ fun j x y hx hy=>?_
     . simp [putCells,hfl',hperm];omega
     . have hj:j<l'.length*k:=by
         have:=(List.getElem?_eq_some_iff.1 hx).1;simpa [hfl'] using this
       rw [List.getElem?_map,Mg h0 hk l' j hj] at hx;cases hx;rw [List.getElem?_take,List.length_map,hfl',if_pos hj,Array.getElem?_toList] at hy;have hjc:j<c.size:=by rw [hperm] at hj;omega
       simp only [putCells,Array.getElem?_mapIdx,Array.getElem?_eq_getElem hjc,Option.map_some,Nat.zero_le,true_and,Nat.zero_add,size_flatK,List.size_toArray,hj,if_true,Option.some.injEq,Nat.sub_zero,id] at hy;subst hy;have hm:=Mg h0 hk l' j hj;have hmem:=List.mem_of_getElem? hm;obtain ⟨a,_,ha⟩:=List.mem_flatMap.1 hmem;exact RD.lit _ (hflat a _ ha)
   . simp only [List.all_map,List.all_eq_true]
     intro v _;rfl
   . obtain ⟨v,_,rfl⟩:=List.mem_map.1 hx
     trivial
 . have e1:i=0:=by simp only [InH,lk] at hi;split at hi;assumption;cases hi
   have e2:j=0:=by simp only [InH,lk] at hj;split at hj;assumption;cases hj
   rw [e1,e2]
end Go.Psl
namespace Go.Proofs
def Tryz.sortL_ren:Go.Shelf.Ren:=⟨fun | 6=>228 | 15=>281 | 14=>280 | 28=>317 | 29=>305 | 20=>309 | 21=>310 | 22=>311 | 23=>312 | 24=>313 | 25=>314 | 26=>315 | 27=>316 | 46=>326 | 47=>327 | 48=>328 | 49=>329 | 50=>330 | 57=>337 | n=>n,fun | 22=>35 | 24=>94 | 25=>277 | 3=>3 | 39=>290 | 0=>0 | 53=>322 | 55=>301 | 4=>4 | 46=>326 | 45=>325 | 50=>244 | 5=>5 | 9=>9 | 66=>333 | 70=>337 | 76=>350 | 77=>297 | n=>n,fun | n=>n⟩
theorem Tryz.sortL:Go.Proofs.SlLaysF0.n6 Tryz.prog Tryz.sortL_ren:={
 mixed:=by kernel_rfl,
 f6:=⟨Tryz.f228.name,by decide,Tryz.func228.trans (congrArg some (by kernel_rfl))⟩,
 f14:=⟨Tryz.f280.name,by decide,Tryz.func280.trans (congrArg some (by kernel_rfl))⟩,
 f15:=Tryz.func281.trans (congrArg some (by kernel_rfl)),
 f20:=⟨Tryz.f309.name,by decide,Tryz.func309.trans (congrArg some (by kernel_rfl))⟩,
 f21:=⟨Tryz.f310.name,by decide,Tryz.func310.trans (congrArg some (by kernel_rfl))⟩,
 f22:=⟨Tryz.f311.name,by decide,Tryz.func311.trans (congrArg some (by kernel_rfl))⟩,
 f23:=⟨Tryz.f312.name,by decide,Tryz.func312.trans (congrArg some (by kernel_rfl))⟩,
 f24:=⟨Tryz.f313.name,by decide,Tryz.func313.trans (congrArg some (by kernel_rfl))⟩,
 f25:=⟨Tryz.f314.name,by decide,Tryz.func314.trans (congrArg some (by kernel_rfl))⟩,
 f26:=⟨Tryz.f315.name,by decide,Tryz.func315.trans (congrArg some (by kernel_rfl))⟩,
 f27:=⟨Tryz.f316.name,by decide,Tryz.func316.trans (congrArg some (by kernel_rfl))⟩,
 f28:=Tryz.func317.trans (congrArg some (by kernel_rfl)),
 f29:=Tryz.func305.trans (congrArg some (by kernel_rfl)),
 f46:=⟨Tryz.f326.name,by decide,Tryz.func326.trans (congrArg some (by kernel_rfl))⟩,
 f47:=Tryz.func327.trans (congrArg some (by kernel_rfl)),
 f48:=Tryz.func328.trans (congrArg some (by kernel_rfl)),
 f49:=⟨Tryz.f329.name,by decide,Tryz.func329.trans (congrArg some (by kernel_rfl))⟩,
 f50:=⟨Tryz.f330.name,by decide,Tryz.func330.trans (congrArg some (by kernel_rfl))⟩,
 f57:=⟨Tryz.f337.name,by decide,Tryz.func337.trans (congrArg some (by kernel_rfl))⟩,
 t0:=Tryz.underlying0,
 a0:=Tryz.isAgg0,
 z0:=Tryz.sizeOf0,
 v0:=Tryz.zeroValue0,
 t3:=Tryz.underlying3,
 a3:=Tryz.isAgg3,
 z3:=Tryz.sizeOf3,
 v3:=Tryz.zeroValue3,
 t4:=Tryz.underlying4,
 a4:=Tryz.isAgg4,
 z4:=Tryz.sizeOf4,
 v4:=Tryz.zeroValue4,
 t5:=Tryz.underlying5,
 a5:=Tryz.isAgg5,
 z5:=Tryz.sizeOf5,
 v5:=Tryz.zeroValue5,
 t9:=Tryz.underlying9,
 a9:=Tryz.isAgg9,
 z9:=Tryz.sizeOf9,
 v9:=Tryz.zeroValue9,
 t22:=Tryz.underlying35,
 a22:=Tryz.isAgg35,
 z22:=Tryz.sizeOf35,
 v22:=Tryz.zeroValue35,
 t25:=Tryz.underlying277,
 a25:=Tryz.isAgg277,
 z25:=Tryz.sizeOf277,
 v25:=Tryz.zeroValue277,
 t39:=Tryz.underlying290,
 a39:=Tryz.isAgg290,
 z39:=Tryz.sizeOf290,
 v39:=Tryz.zeroValue290,
 t45:=Tryz.underlying325,
 a45:=Tryz.isAgg325,
 z45:=Tryz.sizeOf325,
 v45:=Tryz.zeroValue325,
 t46:=Tryz.underlying326,
 a46:=Tryz.isAgg326,
 z46:=Tryz.sizeOf326,
 v46:=Tryz.zeroValue326,
 t50:=Tryz.underlying244,
 a50:=Tryz.isAgg244,
 z50:=Tryz.sizeOf244,
 v50:=Tryz.zeroValue244,
 t53:=Tryz.underlying322,
 a53:=Tryz.isAgg322,
 z53:=Tryz.sizeOf322,
 v53:=Tryz.zeroValue322,
 t55:=Tryz.underlying301,
 a55:=Tryz.isAgg301,
 z55:=Tryz.sizeOf301,
 v55:=Tryz.zeroValue301,
 t66:=Tryz.underlying333,
 a66:=Tryz.isAgg333,
 z66:=Tryz.sizeOf333,
 v66:=Tryz.zeroValue333,
 t70:=Tryz.underlying337,
 a70:=Tryz.isAgg337,
 z70:=Tryz.sizeOf337,
 v70:=Tryz.zeroValue337,
 t76:=Tryz.underlying350,
 a76:=Tryz.isAgg350,
 z76:=Tryz.sizeOf350,
 v76:=Tryz.zeroValue350,
 t77:=Tryz.underlying297,
 a77:=Tryz.isAgg297,
 z77:=Tryz.sizeOf297,
 v77:=Tryz.zeroValue297}
end Go.Proofs
namespace Go.Proofs.Tryz
open Go.Psl
def Yn (p:Int × Int):List Value:=[.int .i64 p.1, .int .i64 p.2]
theorem AMh (l:List (Int × Int)):(l.flatMap Yn).map cV=BC l:=by
 induction l with
 | nil=>rfl
 | cons a l ih=>
   rw [List.flatMap_cons,List.map_append,ih];rfl
theorem Kq (x y:Int × Int):Go.Proofs.ltOf Dw x y=true↔Go.Geo.lt x y:=by
 unfold Go.Proofs.ltOf;rw [decide_eq_true_eq,PX]
theorem ay (x y:Int × Int):Go.Proofs.ltOf Dw x y=false↔¬ Go.Geo.lt x y:=by
 rw [<-Kq];simp
theorem VT:Go.Sort.SWO (Go.Proofs.ltOf Dw) where
 irrefl x:=by rw [ay];exact Go.Geo.lt_irr x
 trans x y z h1 h2:=by rw [Kq] at*;exact Go.Geo.lt_trans h1 h2
 ntrans x y z h1 h2:=by rw [ay] at*;unfold Go.Geo.lt at*;omega
theorem kX:SortOk:=fun l h1 h2=>by
 have hcmp:∀ x y:Int × Int,Ct prog 229 [.agg ((Yn x).map cV), .agg ((Yn y).map cV)] (.d (.lit (.int .i64 (Dw x y)))) []:=fun x y=>AAE x y
 have h:=N3 Tryz.sortL ⟨_,func228,by kernel_rfl,by decide⟩ 2 (by omega) Tryz.isAgg94 Tryz.sizeOf94 Yn (fun _=>rfl) (fun x v hv=>by simp [Yn] at hv;rcases hv with rfl | rfl<;>rfl) Dw VT
   (fun x y a b=>by
     rw [ay] at a b;rcases Go.Geo.lt_tri x y with h | h | h
     . exact absurd h a
     . exact h
     . exact absurd h b) 229 (Go.Proofs.enters_of func229 (by kernel_rfl) rfl) hcmp l h1 (by omega)
 rw [AMh,AMh] at h;exact h
end Go.Proofs.Tryz
