/- Own lemmas, used by the last text. Conditions: those that each theorem states. -/
import Derived.Shelf.SlSortCmp.NoneTotal
import Derived.Test.YtigekgfbcfbobaaGreatDlah
import Derived.Test.YtigekgfbcfbobaaGreatDlaj
import Derived.Test.YtigekgfbcfbobaaGreatDlak
import Derived.Test.YtigekgfbcfbobaaGreatDlal
import Derived.Test.YtigekgfbcfbobaaGreatProg
set_option maxRecDepth 200000
set_option maxHeartbeats 8000000
namespace Go.Proofs.Tryz
open Go.Psl
open Go.Air
abbrev cD (l:List Shp):D:= .sl 25 (l.map Ca)
def Lp (a:Except (Int × Evt) (List Shp)):List Shp:=match a with | .ok ns=>ns | .error _=>[]
abbrev AFC (a:Except (Int × Evt) (List Shp)):V:= .tup [.d (cD (Lp a)),Ys (F6 a).2,vi (F6 a).1]
theorem ABc {k:Sky} {r:Rig} {s:Shp} {a b:Int} (ha:(if A6 s then (0:Int) else 52)=a) (hz:¬ JC k r s b=0):(¬ QG k r a b=0/\QG k r a b=JC k r s b)\/(BV k=true/\CF r=true/\a=0/\b=0/\Ey k r=false/\JC k r s b=2):=by
 unfold QG JC at*;unfold e0 e1;cases h1:BV k
 . left;simp
 . cases h2:CF r
   . left;simp
   . cases h3:A6 s
     . rw [h3] at ha;simp at ha;subst ha;left;simp
     . rw [h3] at ha;simp at ha;subst ha
       by_cases hb0:b=0
       . cases h4:Ey k r
         . right;simp [hb0]
         . rw [h1,h2,h3,h4,hb0] at hz;simp at hz
       . left;simp [hb0]
theorem Tv {l:List Leg} (h:C0 l=0):l.length<=20/\(∀ x∈l,BE x=true)/\Cv l<=600:=by
 unfold C0 at h;split at h
 . simp at h
 split at h
 . rename_i h1 h2
   split at h
   . simp at h
   . exact ⟨by omega,List.all_eq_true.1 h2,by omega⟩
 . simp at h
theorem mK (ID:Nat) (hI:2<=ID) (hS:SortOk) (k:Sky) (r:Rig) (l:List Leg) (s:Shp) (hl:l.length<=100) (hok:∀ x∈l,BE x=true) (h1:k.s.length<=1000000) (h2:k.w.length<=1000000) (h3:r.reg.length<=1000000) (hk:BV k=true) (hR:CF r=true) (hg:Ey k r=true) (hs:A6 s=true):
   Cm prog 103 [D2 k r,Cl s (.d (AX s.gas.cs)), .d (Bs l), .cl 104 [.lp ID 0]] (lk [(ID,[.d (.lit (.slice none 0 0))])]) [ID] (.ret (.tup [Ys (F6 (Dt k r l (BN 0 l) s)).2,vi (F6 (Dt k r l (BN 0 l) s)).1])) (lk ([(ID,[hdF 25 (D6 k r l (BN 0 l) s) 1])]++ouF Ca (D6 k r l (BN 0 l) s) 1)):=by
 have h:=pQ hS k r l s hl hok h1 h2 h3 hk hR hg hs
 generalize D6 k r l (BN 0 l) s=ns at*
 generalize F6 (Dt k r l (BN 0 l) s)=e at*
 have hr:∀ l:List Shp,(AH Ca l).map (BJ fun i=>if i=0 then ID else i)=AH Ca l:=fun l=>by
   simp [AH,List.map_flatten,Function.comp_def]
 have:=Cm.rename (fun i=>if i=0 then ID else i) 2 (by intro i j hi hj;split<;>split<;>omega) h (by simp [BW]) (by
   by_cases h0:ns=[]
   . subst h0;simp [BW,Aq,Au]
   . simp [BW,Ak h0,AZ h0]) (by simp)
 have hc:HR (fun i=>if i=0 then ID else i) (V.cl 104 [.lp 0 0])= .cl 104 [.lp ID 0]:=rfl;by_cases h0:ns=[]
 . subst h0
   rw [Aq,Au] at this ⊢;simpa [Ea,HW,hc] using this
 . rw [Ak h0,AZ h0] at this ⊢
   simpa [Ea,HW,hr,hc] using this
theorem qt (hS:SortOk) (k:Sky) (r:Rig) (s:Shp) (l:List Leg) (h1:k.s.length<=1000000) (h2:k.w.length<=1000000) (h3:r.reg.length<=1000000) (h4:s.gas.cs.length<=1000000) (h5:l.length<=1000000) (h6:∀ x∈l,x.acts.length<=1000000):Ct prog 45 [Eu k,Fj r,Cl s (.d (AX s.gas.cs)), .d (Bs l)] (.tup [hdF 25 (Lp (HA k r s l)) 0,Ys (F6 (HA k r s l)).2,vi (F6 (HA k r s l)).1]) (ouF Ca (Lp (HA k r s l)) 0):=by
 have c1:=qF s (by omega);have c2:=fn38 l h5 h6;obtain ⟨a,ha⟩:∃ a:Int,(if A6 s then 0 else 52)=a:=⟨_,rfl⟩
 obtain ⟨b,hb⟩:∃ b:Int,C0 l=b:=⟨_,rfl⟩
 rw [ha] at c1;rw [hb] at c2;unfold HA;rw [hb];by_cases hz:JC k r s b=0
 . rw [if_pos hz]
   obtain ⟨hk,hR,hs,hb0,hg⟩:=MD hz;have ha0:a=0:=by rw [<-ha,hs];rfl
   subst ha0 hb0;obtain ⟨q1,q2,q3⟩:=Tv hb;have c3:=fd 12582912 hS k r h1 h2 h3 hk hR hg;have c4:=mK 22020096 (by omega) hS k r l s (by omega) q2 h1 h2 h3 hk hR hg hs
   have hmem:∀ p∈BN 0 l,∃ x,l[p.1]?= some x:=fun p hp=>by
     obtain ⟨x,_,h,_⟩:=zn hp;exact ⟨x,by simpa using h⟩
   have hend:=LQ (k:=k) (r:=r) (s:=s) hmem;have herr:=fun e=>NF (k:=k) (r:=r) (l:=l) (im:=BN 0 l) (s:=s) (e:=e) hmem
   generalize D6 k r l (BN 0 l) s=ns at*
   generalize Dt k r l (BN 0 l) s=FK at*
   rcases hend with ⟨e1,_⟩ | ⟨i,m,x,e,_,_,_,e4⟩
   . subst e1
     simp only [Lp,F6] at c4 ⊢;by_cases h0:ns=[]
     . subst h0
       rw [Aq,Au] at c4 ⊢;refine CB func45 c45 fun E hE=>?_
       simp [p45];refine AL [(7,12582912)] (by kernel_rfl) ?_;simp [inC,Nat.testBit];refine CLa c1 ?_;simp [inC,Nat.testBit];refine CLa c2 ?_;simp [AA,AM,inC,Nat.testBit];refine CDs c3 (by simp [wrL,inC,Nat.testBit]) ?_;simp;refine CRs c4 (by simp) ?_;simp [AA,ev0];apply RZ;simp [results45]
     . rw [Ak h0,AZ h0] at c4 ⊢
       refine CB func45 c45 fun E hE=>?_
       simp [p45];refine AL [(7,12582912)] (by kernel_rfl) ?_;simp [inC,Nat.testBit];refine CLa c1 ?_;simp [inC,Nat.testBit];refine CLa c2 ?_;simp [AA,AM,inC,Nat.testBit];refine CDs c3 (by simp [wrL,inC,Nat.testBit]) ?_;simp;refine CRs c4 (by simp) ?_;simp [AA,ev0];refine AB.by (lk [(0,27262977)]) ?_;simp [results45]
       all_goals first | exact Or.inl (List.all_eq_true.2 BU) | skip
   . have he:=(herr _ e4).1
     subst e4;simp only [Lp,F6,Aq,Au] at c4 ⊢
     generalize FC i m e=ee at*
     by_cases h0:ns=[]
     . subst h0
       rw [Aq,Au] at c4;refine CB func45 c45 fun E hE=>?_
       simp [p45];refine AL [(7,12582912)] (by kernel_rfl) ?_;simp [inC,Nat.testBit];refine CLa c1 ?_;simp [inC,Nat.testBit];refine CLa c2 ?_;simp [AA,AM,inC,Nat.testBit];refine CDs c3 (by simp [wrL,inC,Nat.testBit]) ?_;simp;refine CRs c4 (by simp) ?_;simp [AA,he];refine AL [(3,4194304)] (by kernel_rfl) ?_;simp [AA,inC,Nat.testBit];apply RZ;simp [results45]
     . rw [Ak h0,AZ h0] at c4
       refine CB func45 c45 fun E hE=>?_
       simp [p45];refine AL [(7,12582912)] (by kernel_rfl) ?_;simp [inC,Nat.testBit];refine CLa c1 ?_;simp [inC,Nat.testBit];refine CLa c2 ?_;simp [AA,AM,inC,Nat.testBit];refine CDs c3 (by simp [wrL,inC,Nat.testBit]) ?_;simp;refine CRs c4 (by simp) ?_;simp [AA,he];refine AL [(3,4194304)] (by kernel_rfl) ?_;simp [AA,inC,Nat.testBit];apply RZ;simp [results45]
 . rw [if_neg hz]
   simp only [Lp,F6,Aq,Au,ev0];rcases ABc ha hz with ⟨k1,k2⟩ | ⟨k1,k2,k3,k4,k5,k6⟩
   . have c3:=XK hS k r a b h1 h2 h3 k1
     rw [<-k2]
     generalize QG k r a b=e at*
     refine CB func45 c45 fun E hE=>?_
     simp [p45];refine AL [] (by kernel_rfl) ?_;simp [inC,Nat.testBit];refine CLa c1 ?_;simp [inC,Nat.testBit];refine CLa c2 ?_;simp [AA,AM,inC,Nat.testBit];refine CLb (c3) (by simp [Ap,Hcl,inC,Nat.testBit]) ?_;simp [AA,k1];apply RZ;simp [results45]
   . subst k3 k4
     have c3:=XM hS k r h1 h2 h3 k1 k2 k5;rw [k6];refine CB func45 c45 fun E hE=>?_
     simp [p45];refine AL [] (by kernel_rfl) ?_;simp [inC,Nat.testBit];refine CLa c1 ?_;simp [inC,Nat.testBit];refine CLa c2 ?_;simp [AA,AM,inC,Nat.testBit];refine CLb (c3) (by simp [Ap,Hcl,inC,Nat.testBit]) ?_;simp [AA];apply RZ;simp [results45]
theorem mL (hS:SortOk) (k:Sky) (r:Rig) (s:Shp) (l:List Leg) (h1:k.s.length<=1000000) (h2:k.w.length<=1000000) (h3:r.reg.length<=1000000) (h4:s.gas.cs.length<=1000000) (h5:l.length<=1000000) (h6:∀ x∈l,x.acts.length<=1000000):Ct prog 45 [Eu k,Fj r,Cl s (.d (AX s.gas.cs)), .d (Bs l)] (AFC (HA k r s l)) []:=by
 refine Cm.freeze (qt hS k r s l h1 h2 h3 h4 h5 h6) ?_;obtain ⟨ns,hns⟩:∃ ns,Lp (HA k r s l)=ns:=⟨_,rfl⟩
 unfold AFC;rw [hns];have z:∀ (H:Hp) (x:Int),FzC H (vi x) (vi x):=fun H x=>⟨_,rfl, .inl rfl⟩
 refine ⟨?_,⟨z _ _,z _ _,z _ _,z _ _,trivial⟩, .inl rfl,trivial⟩;by_cases h0:ns=[]
 . subst h0
   rw [Aq];exact .inr ⟨rfl,_,rfl⟩
 . rw [Ak h0,AZ h0]
   exact B0 (H:=lk [(0,AH Ca ns)]) (id:=0) WM (l:=ns) (by simp)
abbrev lgV (l:Leg):List V:=[vi l.m,vi l.axl,vi l.axh,vi l.ayl,vi l.ayh,vi l.ul,vi l.uh,vi l.bl,vi l.bh,vi l.dr, .d (JZ l.acts)]
theorem ar {l:Leg}:∀ (H:Hp) (b:Nat),H b=some (lgV l)->Bor H (.ls b 0 1 11) (.d (Bs [l])):=fun _ _ hh=>B0 (f:=Pi) (fun _=>rfl) (l:=[l]) hh
theorem AJN {H:Hp} (d:D):FzC H (.d d) (.d d):=⟨d,rfl,by cases d<;>first | exact Or.inl rfl | rfl⟩
theorem Tf {H:Hp}:∀ ds:List D,AJ (FzC H) (ds.map .d) (ds.map .d)
 | []=>trivial
 | d::ds=>⟨AJN d,Tf ds⟩
theorem lm {H:Hp} (k:Sky):Fz1 H (Eu k) (Eu k):=Tf [BF k.s,cT k.w]
theorem ln {H:Hp} (r:Rig):Fz1 H (Fj r) (Fj r):=Tf [An r.reg,di r.gl,di r.gh,di r.tank,di r.rsv,di r.lo,di r.hi]
theorem lq {H:Hp} (s:Shp):Fz1 H (Cl s (.d (AX s.gas.cs))) (Cl s (.d (AX s.gas.cs))):=Tf (Ca s)
theorem gk {H:Hp} {b:Nat} {l:Leg} (h:H b=some (lgV l)):Fz1 H (.ls b 0 1 11) (.d (Bs [l])):=ar H b h
theorem PM {k:Sky} {r:Rig} {s:Shp} {l:Leg} {R:V} (h:Ct prog 45 [Eu k,Fj r,Cl s (.d (AX s.gas.cs)), .d (Bs [l])] R []) (b:Nat):Cm prog 45 [Eu k,Fj r,Cl s (.d (AX s.gas.cs)), .ls b 0 1 11] (lk [(b,lgV l)]) [] (.ret R) (lk []):=
 Cm.give h ⟨lm k,ln r,lq s,gk (by simp [lk]),trivial⟩
theorem fn48 (hS:SortOk):Ct prog 48 [] (vb true) []:=by
 have sp:=ZM;have e1:=fn66;have e2:=fn67;have e3:=fn64;have e4:=fn65;have d1:=fn21 B1 CZ (by decide) (by decide) (by decide);have d2:=mL hS B1 DM CZ [exLeg] (by decide) (by decide) (by decide) (by decide) (by decide) (by decide);have d3:=mL hS B1 HH CZ [exLeg] (by decide) (by decide) (by decide) (by decide) (by decide) (by decide);rw [qH] at d1;rw [lv] at d2;rw [lz] at d3;simp only [AFC,Lp,F6] at d2 d3;have d3:Cm prog 45 [Eu B1, .agg [.d (An DM.reg),vi DM.gl,vi DM.gh,vi DM.tank,vi DM.rsv,vi DM.lo,vi 219],Cl CZ (.d (AX CZ.gas.cs)), .ls 34603008 0 1 11] (lk [(34603008,lgV exLeg)]) [] _ _:=PM d3 34603008;refine CB func48 c48 fun E hE=>?_
 simp [p48]
 repeat ((first | (refine CLt e1 ?_ ?_;focus (simp;done)) | (refine CLt e2 ?_ ?_;focus (simp;done)) | (refine CLt e3 ?_ ?_;focus (simp;done)) | (refine CLt e4 ?_ ?_;focus (simp;done)) | (refine CLt d1 ?_ ?_;focus (simp;done)));simp [AA,AM])
 refine CRs (PM d2 14680064) (by simp) ?_;simp [AA]
 repeat ((first | (refine CLt e1 ?_ ?_;focus (simp;done)) | (refine CLt e2 ?_ ?_;focus (simp;done)) | (refine CLt e3 ?_ ?_;focus (simp;done)) | (refine CLt e4 ?_ ?_;focus (simp;done)));simp [AA])
 refine AL [(5,34603008),(12,40894464)] (by kernel_rfl) ?_;simp [inC,Nat.testBit];refine CLa e1 ?_;simp [inC,Nat.testBit];refine CLa e3 ?_;simp [inC,Nat.testBit];refine CLa e4 ?_;simp [AA,AM,inC,Nat.testBit];refine CDs d3 (by simp [wrL,inC,Nat.testBit]) ?_;simp [AA,inC,Nat.testBit];refine CLa (sp 0 0) ?_;simp [AA,inC,Nat.testBit,ev0];refine AL [(8,82837504)] (by kernel_rfl) ?_;simp [AA,inC,Nat.testBit]
 repeat ((first | (refine CLt (sp 660 720) ?_ ?_;(focus (simp;done))) | (refine CLt (sp 0 0) ?_ ?_;(focus (simp;done))) | (refine CLt (sp 140 160) ?_ ?_;(focus (simp;done))) | (refine CLt (sp 980 990) ?_ ?_;(focus (simp;done))) | (refine CLt (sp 5 20) ?_ ?_;(focus (simp;done))) | (refine CLt (sp 10 20) ?_ ?_;(focus (simp;done))) | (refine CLt (sp 1320 1440) ?_ ?_;(focus (simp;done))) | (refine CLt (sp 180 220) ?_ ?_;(focus (simp;done))) | (refine CLt (sp 960 980) ?_ ?_;(focus (simp;done))) | (refine CLt (sp 10 30) ?_ ?_;(focus (simp;done))) | (refine CLt (sp 20 40) ?_ ?_;(focus (simp;done))));simp [inC,Nat.testBit,exA,exB])
 apply RZ;simp [results48]
theorem ADH {a:Atm} {l:List Cel} {x:Act}:∀ {i:Nat},x∈vnK a l i->∃ j,j<i/\∃ c,l[j]?= some c/\0<(Pe c a).2/\x=⟨3,j,0,(Pe c a).2⟩
 | 0,h=>by simp [vnK] at h
 | i+1,h=>by
   unfold vnK at h;rcases List.mem_append.1 h with h | h
   . obtain ⟨j,h1,h2⟩:=ADH h
     exact ⟨j,by omega,h2⟩
   . split at h
     . next c hc=>
       split at h
       . next hp=>
         simp only [List.mem_singleton] at h;exact ⟨i,by omega,c,hc,hp,h⟩
       . simp at h
     . simp at h
theorem AJM {a:Atm} {l:List Cel}:∀ i,(vnK a l i).Pairwise fun x y=>x.c<y.c
 | 0=>List.Pairwise.nil
 | i+1=>by
   unfold vnK;refine List.pairwise_append.2 ⟨AJM i,?_,?_⟩
   . split
     . split<;>simp
     . simp
   . intro x hx y hy
     obtain ⟨j,h1,_,_,_,rfl⟩:=ADH hx;split at hy
     . split at hy
       . simp only [List.mem_singleton] at hy
         subst hy
         show (j:Int)<i
         omega
       . simp at hy
     . simp at hy
theorem AJY {a:Atm} {l:List Cel} {j:Nat} {c:Cel} (hc:l[j]?= some c) (hp:0<(Pe c a).2):∀ {i:Nat},j<i->(⟨3,j,0,(Pe c a).2⟩:Act)∈vnK a l i
 | 0,h=>by omega
 | i+1,h=>by
   unfold vnK;refine List.mem_append.2 ?_;by_cases e:j=i
   . subst e
     right;rw [hc];simp only;rw [if_pos hp];simp
   . exact .inl (AJY hc hp (by omega))
theorem AKL {l:List Act} {y:Act} (h:l.Pairwise fun x y=>x.c<y.c) (hy:y∈l):l.find? (fun x=>decide (x.c=y.c))=some y:=by
 induction l with
 | nil=>simp at hy
 | cons b l ih=>
   obtain ⟨h1,h2⟩:=List.pairwise_cons.1 h;rcases List.mem_cons.1 hy with rfl | hm
   . rw [List.find?_cons_of_pos (by simp)]
   . rw [List.find?_cons_of_neg (by have:=h1 y hm;simp;omega)]
     exact ih h2 hm
theorem AK9 {l:List Act} {c:Int} (h:∀ x∈l,¬ x.c=c):l.find? (fun x=>decide (x.c=c))=none:=by
 rw [List.find?_eq_none];intro x hx;simpa using h x hx
def Xf (l:List Act):List (Value × Bool × List D):=l.map fun x=>(.int .i64 x.c,false,[di x.n])
theorem AJZ {c:Int}:∀ {l:List Act} {i:Nat},(∀ x∈l,¬ x.c=c)->AA4 (.int .i64 c) (Xf l) i=some none
 | [],i,_=>rfl
 | x::l,i,h=>by
   have h1:=h x (by simp)
   have e:nX (.int .i64 c) (.int .i64 x.c)=some false:=by
     simp only [nX,if_true];congr 1;simp;omega
   show (match nX (.int .i64 c) (.int .i64 x.c) with | some true=>some (some i) | some false=>AA4 (.int .i64 c) (Xf l) (i+1) | none=>none)=_
   rw [e];exact AJZ fun y hy=>h y (by simp [hy])
theorem AKM:∀ {l:List Act} {i j:Nat} {x:Act},(l.Pairwise fun x y=>x.c<y.c)->l[j]?= some x->AA4 (.int .i64 x.c) (Xf l) i=some (some (i+j))
 | [],i,j,x,_,h=>by simp at h
 | y::l,i,0,x,_,h=>by
   simp only [List.getElem?_cons_zero,Option.some.injEq] at h;subst h
   show (match nX (.int .i64 y.c) (.int .i64 y.c) with | some true=>some (some i) | some false=>AA4 (.int .i64 y.c) (Xf l) (i+1) | none=>none)=_
   simp [nX]
 | y::l,i,j+1,x,hp,h=>by
   obtain ⟨h1,h2⟩:=List.pairwise_cons.1 hp;simp only [List.getElem?_cons_succ] at h;have h3:=h1 x (List.mem_of_getElem? h)
   have e:nX (.int .i64 x.c) (.int .i64 y.c)=some false:=by
     simp only [nX,if_true];congr 1;simp;omega
   show (match nX (.int .i64 x.c) (.int .i64 y.c) with | some true=>some (some i) | some false=>AA4 (.int .i64 x.c) (Xf l) (i+1) | none=>none)=_
   rw [e];have:=AKM (i:=i+1) h2 h;simp only;rw [this];congr 2;omega
theorem AKp {l:List Act} {j:Nat} {x:Act} (h:l[j]?= some x):(Xf l)[j]?= some (.int .i64 x.c,false,[di x.n]):=by
 unfold Xf;rw [List.getElem?_map,h];rfl
theorem AKq {l:List Act} {x:Act}:Xf (l++[x])=Xf l++[(.int .i64 x.c,false,[di x.n])]:=by
 unfold Xf;rw [List.map_append];rfl
def AJz (l:List Act):Nat->Int
 | 0=> -1
 | i+1=>match l[i]? with
   | some x=>x.c
   | none=> -1
theorem AJ0 {l:List Act} {i:Nat} {x:Act} (h:l[i]?= some x):AJz l (i+1)=x.c:=by
 show (match l[i]? with | some x=>x.c | none=> -1)=x.c
 rw [h]
theorem AKr {l:List Act} (hp:l.Pairwise fun x y=>x.c<y.c) (h0:∀ x∈l,0<=x.c):∀ {i:Nat} {x:Act},l[i]?= some x->AJz l i<x.c
 | 0,x,h=>by
   have:=h0 x (List.mem_of_getElem? h)
   show (-1:Int)<x.c
   omega
 | i+1,x,h=>by
   have hl:=(List.getElem?_eq_some_iff.1 h).1;have e:l[i]?= some l[i]:=List.getElem?_eq_getElem (by omega);rw [AJ0 e];have:=List.pairwise_iff_getElem.1 hp i (i+1) (by omega) hl (by omega);rw [(List.getElem?_eq_some_iff.1 h).2] at this;exact this
theorem AKH {l:List Act} (hp:l.Pairwise fun x y=>x.c<y.c) {i:Nat} {x:Act} (h:l[i]?= some x):AA4 (.int .i64 x.c) (Xf (l.take i)) 0=some none:=by
 refine AJZ fun y hy=>?_
 obtain ⟨j,hj,rfl⟩:=List.getElem_of_mem hy;have hl:=(List.getElem?_eq_some_iff.1 h).1;rw [List.length_take] at hj;have:=List.pairwise_iff_getElem.1 hp j i (by omega) hl (by omega);rw [(List.getElem?_eq_some_iff.1 h).2] at this;rw [List.getElem_take];omega
theorem AKV {l:List Act} {i:Nat} {x:Act} (h:l[i]?= some x):Xf (l.take (i+1))=Xf (l.take i)++[(.int .i64 x.c,false,[di x.n])]:=by
 rw [<-AKq,List.take_add_one,h];rfl
theorem ALG {k:Sky} {s:Shp} {u v:Int} (h:(vnA k s u v).2=0):M2 k s=0/\(atA k.s u v).2=0/\(vnA k s u v).1=vnK (atA k.s u v).1 s.gas.cs s.gas.cs.length:=by
 unfold vnA at h ⊢;by_cases ha:M2 k s=0
 . rw [if_pos ha] at h ⊢
   by_cases he:(atA k.s u v).2=0
   . rw [if_pos he];exact ⟨ha,he,rfl⟩
   . rw [if_neg he] at h;exact absurd h he
 . rw [if_neg ha] at h;exact absurd h ha
theorem ALC {k:Sky} {s:Shp} {u v:Int} (h:¬ (vnA k s u v).2=0):(vnA k s u v).1=[]:=by
 unfold vnA at h ⊢;by_cases ha:M2 k s=0
 . rw [if_pos ha] at h ⊢
   by_cases he:(atA k.s u v).2=0
   . rw [if_pos he] at h;exact absurd rfl h
   . rw [if_neg he]
 . rw [if_neg ha]
theorem AKs {p:Plt} {a:Atm} (hp:Ar p=true) (ha:Fx a) (hn:∀ x∈vnK a p.cs p.cs.length,x.n<=10000000):VlA p (vnK a p.cs p.cs.length):=by
 refine ⟨fun x hx=>?_,AJM _⟩;have h:=hn x hx;obtain ⟨j,hj,c,hc,hpos,rfl⟩:=ADH hx;have hv:=(AJb (Dx hp c (List.mem_of_getElem? hc)) ha).2.2;refine ⟨rfl,?_,⟨?_,h⟩,c,?_,hv⟩
 . show (0:Int)<=j;omega
 . show 1<=(Pe c a).2;omega
 . show p.cs[(j:Int).toNat]?= some c
   rw [Int.toNat_natCast];exact hc
theorem AKt {p:Plt} {a:Atm} (hp:Ar p=true) (ha:Fx a) (hn:∀ x∈vnK a p.cs p.cs.length,x.n<=10000000):∃ q,B7 p (vnK a p.cs p.cs.length) 0=(q,0,0)/\Ar q=true/\q.cs.length=p.cs.length/\∀ c∈q.cs,Lh c a=1:=by
 obtain ⟨q,h1,h2,h3,h4⟩:=AJa (i:=0) hp (AKs hp ha hn);refine ⟨q,h1,h2,h3,fun d hd=>?_⟩;obtain ⟨j,hj,hd'⟩:=List.getElem_of_mem hd;have hjp:j<p.cs.length:=by omega
 obtain ⟨c,hc⟩:=gE hjp;have hcb:=Dx hp c (List.mem_of_getElem? hc);have h5:=h4 j c hc;rw [List.getElem?_eq_getElem hj,hd',Option.some.injEq] at h5;have hv:=AJb hcb ha;by_cases hpos:0<(Pe c a).2
 . have hm:=AJY (a:=a) hc hpos hjp
   have hf:=AKL (AJM _) hm;simp only at hf;rw [hf] at h5;rw [h5];exact (AJ4 hcb ha hpos hv.2.1 hv.2.2).2 (by omega)
 . rw [AK9 (fun x hx e=>by
     obtain ⟨j',_,c',hc',hpos',rfl⟩:=ADH hx;simp only at e;have:j'=j:=by omega
     subst this;rw [hc] at hc';cases hc';exact hpos hpos')] at h5
   rw [h5];simp only;by_cases hft:Lh c a=1
   . exact hft
   . exact absurd (hv.1.2 hft) hpos
theorem AKW {p:Plt} {a:Atm} (hp:Ar p=true) (ha:Fx a) (hn:∀ x∈vnK a p.cs p.cs.length,x.n<=10000000) {i:Nat} {x:Act} (hx:(vnK a p.cs p.cs.length)[i]?= some x) (h1:¬ x.n-1=0):∃ q,B7 p ((vnK a p.cs p.cs.length).set i ⟨x.k,x.c,x.t,x.n-1⟩) 0=(q,0,0)/\Ar q=true/\q.cs.length=p.cs.length/\∃ c,q.cs[x.c.toNat]?= some c/\¬ Lh c a=1:=by
 have hx0:=List.mem_of_getElem? hx;have hl:=AKs hp ha hn;obtain ⟨k1,k2,⟨k3,k4⟩,c,hc,k5⟩:=hl.one x hx0;obtain ⟨j,hj,c',hc',hpos,hxe⟩:=ADH hx0;have hcb:=Dx hp c (List.mem_of_getElem? hc);have hil:=(List.getElem?_eq_some_iff.1 hx).1
 have hL:VlA p ((vnK a p.cs p.cs.length).set i ⟨x.k,x.c,x.t,x.n-1⟩):=by
   refine ⟨fun y hy=>?_,?_⟩
   . rcases List.mem_or_eq_of_mem_set hy with hy | rfl
     . exact hl.one y hy
     . exact ⟨k1,k2,⟨by show 1<=x.n-1;omega,by show x.n-1<=_;omega⟩,c,hc,by show x.n-1<=_;omega⟩
   . have e:((vnK a p.cs p.cs.length).set i ⟨x.k,x.c,x.t,x.n-1⟩).map (·.c)=(vnK a p.cs p.cs.length).map (·.c):=by
       rw [List.map_set];refine List.ext_getElem? fun m=>?_
       by_cases hm:i=m
       . subst hm
         rw [List.getElem?_set_self (by rw [List.length_map];exact hil),List.getElem?_map,hx];rfl
       . rw [List.getElem?_set_ne hm]
     have h3:List.Pairwise (fun x y:Int=>x<y) ((vnK a p.cs p.cs.length).map (·.c)):=List.pairwise_map.2 hl.inc;rw [<-e] at h3;exact List.pairwise_map.1 h3
 obtain ⟨q,q1,q2,q3,q4⟩:=AJa (i:=0) hp hL;refine ⟨q,q1,q2,q3,?_⟩;have h5:=q4 x.c.toNat c hc;have hm:(⟨x.k,x.c,x.t,x.n-1⟩:Act)∈(vnK a p.cs p.cs.length).set i ⟨x.k,x.c,x.t,x.n-1⟩:=List.mem_set hil _;have hf:=AKL hL.inc hm;simp only at hf;rw [show ((x.c.toNat:Nat):Int)=x.c by omega,hf] at h5;refine ⟨_,h5,fun e=>?_⟩
 have e2:(Pe c a).2=x.n:=by
   subst hxe
   have:c=c':=by
     have h:p.cs[(j:Int).toNat]?= some c:=hc;rw [Int.toNat_natCast,hc'] at h;cases h;rfl
   rw [this]
 simp only at e;have:=(AJ4 hcb ha (by omega) (n:=x.n-1) (by omega) (by omega)).1 e;omega
theorem fn14 (hS:SortOk) (k:Sky) (s:Shp) (u v:Int):Ct prog 14 [Eu k,Cl s (.d (AX s.gas.cs)),vsp u v] (vb true) []:=by
 have d0:=fn48 hS;have g1:=fn18 k;have g2:=fn19 s;by_cases h1:24<k.s.length\/24<k.w.length
 . rw [show (decide (24<k.s.length)||decide (24<k.w.length))=true by simpa using h1] at g1
   refine CB func14 c14 fun E hE=>?_
   simp [p14];refine CLa d0 ?_;simp;refine CLa g1 ?_;simp;apply RZ;simp [results14]
 rw [show (decide (24<k.s.length)||decide (24<k.w.length))=false by simpa using h1] at g1;by_cases h2:20<s.gas.cs.length
 . rw [decide_eq_true h2] at g2
   refine CB func14 c14 fun E hE=>?_
   simp [p14];refine CLa d0 ?_;simp;refine CLa g1 ?_;simp;refine CLa g2 ?_;simp;apply RZ;simp [results14]
 rw [decide_eq_false h2] at g2;have n1:k.s.length<=24:=by omega
 have n2:k.w.length<=24:=by omega
 have vt:=fn23 k s u v (by omega) (by omega) (by omega);by_cases he:(vnA k s u v).2=0
 case neg=>
   rw [ALC he] at vt
   generalize (vnA k s u v).2=er at*
   refine CB func14 c14 fun E hE=>?_
   simp [p14];refine CLa d0 ?_;simp;refine CLa g1 ?_;simp;refine CLa g2 ?_;simp;refine CLa vt ?_;simp [he];apply RZ;simp [results14]
 obtain ⟨k1,k2,k3⟩:=ALG he;have at1:=pC k.s u v (by omega);rw [k3,he] at vt;have ha:=aU (qD k2);unfold atV at at1;rw [k2] at at1
 generalize (atA k.s u v).1=a at*
 obtain ⟨k4,k5⟩:=Yg k1;have hp:=CR k5;have hc:=Dx hp;have hnc:s.gas.cs.length<=20:=by omega
 obtain ⟨A,hA⟩:∃ A,vnK a s.gas.cs s.gas.cs.length=A:=⟨_,rfl⟩
 have hAl:=AJL (a:=a) (l:=s.gas.cs) s.gas.cs.length;rw [hA] at vt hAl;refine CB func14 c14 fun E hE=>?_
 simp [p14];refine CLa d0 ?_;simp;refine CLa g1 ?_;simp;refine CLa g2 ?_;simp;refine CLa vt ?_;simp;refine CLa at1 ?_;simp [AA];have hAi:A.Pairwise fun x y=>x.c<y.c:=hA ▸ AJM _
 have hA1:∀ x∈A,x.k=3/\0<=x.c/\x.c<s.gas.cs.length/\1<=x.n/\x.t=0:=fun x hx=>by
   rw [<-hA] at hx;obtain ⟨j,hj,c,_,hpos,rfl⟩:=ADH hx;simp only;refine ⟨trivial,by omega,by omega,by omega,trivial⟩
 refine Al (α:=Nat) (fun i=>⟨AO [(4, .lp 0 0),(7,vb true),(8, .d (JZ A)),(10, .lp 1 0),(12, .yl 2),(13,vi (AJz A i)),(74, .d (JZ A)),(75,vi A.length),(76,vi i)],lk [(0,[vi s.xl,vi s.xh,vi s.yl,vi s.yh,vi s.hl,vi s.hh,vi s.fl,vi s.fh,vi s.wl,vi s.wh,vi s.bl,vi s.bh,vi s.dry,vi s.bal,vi s.drp, .d (AX s.gas.cs),vi s.gas.bt,vi s.gas.ih,vi s.gas.ia,vi s.gas.vh,vi s.gas.va,vi s.gas.lh,vi s.gas.la,vi s.gas.ph,vi s.gas.pa]),(1,[vi a.pl,vi a.ph,vi a.tl,vi a.th]),(2,Qo (Xf (A.take i)))],3⟩) (fun i=>i<=A.length) (fun i=>A.length-i) 0 ?_ ?_ ?_
 . omega
 . rw [show AJz A 0= -1 from rfl,show Xf (A.take 0)=[] from rfl]
   exact WK hE (lk [(0,1048576),(1,35651584),(2,40894464)])
 . intro i hi
   by_cases h:i<A.length
   . obtain ⟨x,hx⟩:=gE h
     have hz:=@wz i (by omega);have hI:(i:Int)<A.length:=by omega
     obtain ⟨x1,x2,x3,x4,x5⟩:=hA1 x (List.mem_of_getElem? hx);have x6:=AKr hAi (fun y hy=>(hA1 y hy).2.1) hx;have x7:=AKH hAi hx;have x8:=AKV hx;have x9:=AJ0 hx
     generalize AJz A i=L at*
     generalize Xf (A.take i)=T at*
     have y6:¬ x.c<=L:=by omega
     have y3:¬ (s.gas.cs.length:Int)<=x.c:=by omega
     have y4:¬ x.n<1:=by omega
     simp [AKu,hI,hx,x1,x5,y6,y3,y4,AA];refine AL [(7,2)] (by kernel_rfl) ?_;simp [inC,Nat.testBit,x7,hz];refine ⟨i+1,by omega,by omega,?_⟩;rw [x8,x9];exact WK hE (lk [(0,0),(1,1),(2,2)])
   . have ei:i=A.length:=by omega
     have hI:¬ (i:Int)<A.length:=by omega
     subst ei;rw [List.take_length];simp [AKu];refine Al (α:=Nat) (fun i=>⟨AO [(4, .lp 0 0),(7,vb true),(8, .d (JZ A)),(10, .lp 1 0),(12, .yl 2),(118, .d (AX s.gas.cs)),(119,vi s.gas.cs.length),(120,vi i)],lk [(0,[vi s.xl,vi s.xh,vi s.yl,vi s.yh,vi s.hl,vi s.hh,vi s.fl,vi s.fh,vi s.wl,vi s.wh,vi s.bl,vi s.bh,vi s.dry,vi s.bal,vi s.drp, .d (AX s.gas.cs),vi s.gas.bt,vi s.gas.ih,vi s.gas.ia,vi s.gas.vh,vi s.gas.va,vi s.gas.lh,vi s.gas.la,vi s.gas.ph,vi s.gas.pa]),(1,[vi a.pl,vi a.ph,vi a.tl,vi a.th]),(2,Qo (Xf A))],3⟩) (fun i=>i<=s.gas.cs.length) (fun i=>s.gas.cs.length-i) 0 ?_ ?_ ?_
     . omega
     . exact WK hE (lk [(0,0),(1,1),(2,2)])
     . intro i hi
       by_cases h:i<s.gas.cs.length
       . obtain ⟨c,hc1⟩:=gE h
         have hz:=@wz i (by omega);have hI:(i:Int)<s.gas.cs.length:=by omega
         have hcb:=hc c (List.mem_of_getElem? hc1);have cF:=AB4 c a hcb ha;have hv:=AJb hcb ha;by_cases hpos:0<(Pe c a).2
         . have hm:=AJY (a:=a) hc1 hpos h
           rw [hA] at hm;obtain ⟨j,hj,hjx⟩:=List.getElem_of_mem hm;have hjx':A[j]?= some ⟨3,i,0,(Pe c a).2⟩:=by rw [List.getElem?_eq_getElem hj,hjx]
           have hf:=AKM (i:=0) hAi hjx';have hg:=AKp hjx';simp only [Nat.zero_add] at hf hg;have hft:¬ Lh c a=1:=hv.1.1 hpos;have hne:¬ (Pe c a).2=0:=by omega
           generalize (Pe c a).2=w at*
           generalize Xf A=T at*
           simp [AKN,hI,hc1,AA];refine CLa cF ?_;simp [hf,hg,hft,hne,hz];refine ⟨i+1,by omega,by omega,?_⟩;exact WK hE (lk [(0,0),(1,1),(2,2)])
         . have hf:=AJZ (l:=A) (c:=(i:Int)) (i:=0) (fun x hx e=>by
             rw [<-hA] at hx;obtain ⟨j',_,c',hc',hpos',rfl⟩:=ADH hx;simp only at e;have:j'=i:=by omega
             subst this;rw [hc1] at hc';cases hc';exact hpos hpos')
           have hft:Lh c a=1:=by
             by_cases hq:Lh c a=1
             . exact hq
             . exact absurd (hv.1.2 hq) hpos
           rw [hft] at cF
           generalize Xf A=T at*
           simp [AKN,hI,hc1,AA];refine CLa cF ?_;simp [hf,hz];refine ⟨i+1,by omega,by omega,?_⟩;exact WK hE (lk [(0,0),(1,1),(2,2)])
       . have ei:i=s.gas.cs.length:=by omega
         have hI:¬ (i:Int)<s.gas.cs.length:=by omega
         subst ei;simp [AKN];refine Al (α:=Nat) (fun i=>⟨AO [(4, .lp 0 0),(7,vb true),(8, .d (JZ A)),(10, .lp 1 0),(143, .d (JZ A)),(144,vi A.length),(145,vi i)],lk [(0,[vi s.xl,vi s.xh,vi s.yl,vi s.yh,vi s.hl,vi s.hh,vi s.fl,vi s.fh,vi s.wl,vi s.wh,vi s.bl,vi s.bh,vi s.dry,vi s.bal,vi s.drp, .d (AX s.gas.cs),vi s.gas.bt,vi s.gas.ih,vi s.gas.ia,vi s.gas.vh,vi s.gas.va,vi s.gas.lh,vi s.gas.la,vi s.gas.ph,vi s.gas.pa]),(1,[vi a.pl,vi a.ph,vi a.tl,vi a.th])],2⟩) (fun i=>i<=A.length/\∀ (j:Nat) x,j<i->A[j]?= some x->x.n<=10000000) (fun i=>A.length-i) 0 ?_ ?_ ?_
         . exact ⟨by omega,fun j x h=>by omega⟩
         . exact WK hE (lk [(0,0),(1,1)])
         . rintro i ⟨hi,hB⟩
           by_cases h:i<A.length
           . obtain ⟨x,hx⟩:=gE h
             have hz:=@wz i (by omega);have hI:(i:Int)<A.length:=by omega
             by_cases hn:10000000<x.n
             . simp [AKO,hI,hx,hn,AA]
               apply RZ;simp [results14]
             . simp [AKO,hI,hx,hn,AA,hz]
               refine ⟨i+1,⟨by omega,fun j y hj hy=>?_⟩,by omega,?_⟩
               . by_cases e:j=i
                 . subst e
                   rw [hx] at hy;cases hy;omega
                 . exact hB j y (by omega) hy
               . exact WK hE (lk [(0,0),(1,1)])
           . have ei:i=A.length:=by omega
             have hI:¬ (i:Int)<A.length:=by omega
             subst ei
             have hN:∀ x∈vnK a s.gas.cs s.gas.cs.length,x.n<=10000000:=fun x hx=>by
               rw [hA] at hx;obtain ⟨j,hj,rfl⟩:=List.getElem_of_mem hx;exact hB j _ hj (List.getElem?_eq_getElem hj)
             obtain ⟨q,q1,q2,q3,q4⟩:=AKt hp ha hN;have cP:=ACR s.gas A hp (by omega) (fun x hx=> .inl (hA1 x hx).1);rw [<-hA,q1,hA] at cP;have hqc:=Dx q2;simp [AKO];refine CLa cP ?_;simp [AA,q3];refine Al (α:=Nat) (fun i=>⟨AO [(4, .lp 0 0),(7,vb true),(8, .d (JZ A)),(10, .lp 1 0),(175, .d (AX q.cs)),(176,vi s.gas.cs.length),(177,vi i)],lk [(0,[vi s.xl,vi s.xh,vi s.yl,vi s.yh,vi s.hl,vi s.hh,vi s.fl,vi s.fh,vi s.wl,vi s.wh,vi s.bl,vi s.bh,vi s.dry,vi s.bal,vi s.drp, .d (AX s.gas.cs),vi s.gas.bt,vi s.gas.ih,vi s.gas.ia,vi s.gas.vh,vi s.gas.va,vi s.gas.lh,vi s.gas.la,vi s.gas.ph,vi s.gas.pa]),(1,[vi a.pl,vi a.ph,vi a.tl,vi a.th])],2⟩) (fun i=>i<=s.gas.cs.length) (fun i=>s.gas.cs.length-i) 0 ?_ ?_ ?_
             . omega
             . exact WK hE (lk [(0,0),(1,1)])
             . intro i hi
               by_cases h:i<s.gas.cs.length
               . obtain ⟨c,hc1⟩:∃ c,q.cs[i]?= some c:=⟨_,List.getElem?_eq_getElem (by omega)⟩
                 have hz:=@wz i (by omega);have hI:(i:Int)<s.gas.cs.length:=by omega
                 have hm:=List.mem_of_getElem? hc1;have cF:=AB4 c a (hqc c hm) ha;rw [q4 c hm] at cF;simp [AKv,hI,hc1,AA];refine CLa cF ?_;simp [hz];refine ⟨i+1,by omega,by omega,?_⟩;exact WK hE (lk [(0,0),(1,1)])
               . have ei:i=s.gas.cs.length:=by omega
                 have hI:¬ (i:Int)<s.gas.cs.length:=by omega
                 subst ei;simp [AKv];refine Al (α:=Nat) (fun i=>⟨AO [(4, .lp 0 0),(7,vb true),(8, .d (JZ A)),(10, .lp 1 0),(194, .d (JZ A)),(195,vi A.length),(196,vi i)],lk [(0,[vi s.xl,vi s.xh,vi s.yl,vi s.yh,vi s.hl,vi s.hh,vi s.fl,vi s.fh,vi s.wl,vi s.wh,vi s.bl,vi s.bh,vi s.dry,vi s.bal,vi s.drp, .d (AX s.gas.cs),vi s.gas.bt,vi s.gas.ih,vi s.gas.ia,vi s.gas.vh,vi s.gas.va,vi s.gas.lh,vi s.gas.la,vi s.gas.ph,vi s.gas.pa]),(1,[vi a.pl,vi a.ph,vi a.tl,vi a.th])],2⟩) (fun i=>i<=A.length) (fun i=>A.length-i) 0 ?_ ?_ ?_
                 . omega
                 . exact WK hE (lk [(0,0),(1,1)])
                 . intro i hi
                   by_cases h:i<A.length
                   . obtain ⟨x,hx⟩:=gE h
                     have hz:=@wz i (by omega);have hI:(i:Int)<A.length:=by omega
                     have hsl:=Aw hfa A;have hwh:=E9 hfa A;have hxn:=hB i x h hx;obtain ⟨x1,x2,x3,x4,x5⟩:=hA1 x (List.mem_of_getElem? hx);have hw:IntKind.wrap .i64 (x.n-1)=x.n-1:=AD (by omega) (by omega);have n1:A.length*32<=140737488355328:=by omega
                     have n2:A.length<=9223372036854775807:=by omega
                     have hfl:(List.map (List.map V.d ∘ XO) A).flatten=AH XO A:=by simp [AH,Function.comp_def]
                     have hcell:∀ v∈AH XO A,v.isCell=true:=BU;have hput:=Cq (f:=XO) hfa (l:=A) (i:=i) (x:=x) (y:=⟨x.k,x.c,x.t,x.n-1⟩) (j:=3) (vs:=[di (x.n-1)]) hx (by simp) (by simp);have hset:(A.set i ⟨x.k,x.c,x.t,x.n-1⟩)[i]?= some ⟨x.k,x.c,x.t,x.n-1⟩:=List.getElem?_set_self h;have hget:=Bg (f:=XO) hfa (j:=3) (k:=1) hset (by omega);simp [AKw,hI,hx,AA,AM,n1,n2];rw [hfl,if_pos hcell]
                     generalize AH XO A=C at*
                     have hb4:i*4+3+1<=A.length*4:=by omega
                     have hs2:=Aw hfa (A.set i ⟨x.k,x.c,x.t,x.n-1⟩);rw [List.length_set] at hs2;simp only [List.map_cons,List.map_nil] at hput;simp [hw,hsl,h];rw [if_pos hb4,hput];obtain ⟨C2,hC2⟩:∃ C2,AH XO (A.set i ⟨x.k,x.c,x.t,x.n-1⟩)=C2:=⟨_,rfl⟩
                     rw [hC2] at hs2 hget;rw [hC2];have hget1:List.take 1 (List.drop (i*4+3) C2)=[.d (di (x.n-1))]:=by simpa using hget
                     by_cases hz1:x.n-1=0
                     . rw [hz1] at hget1
                       simp [hs2,h,hget1,hb4,hz,hz1];refine ⟨i+1,by omega,by omega,?_⟩;exact WK hE (lk [(0,0),(1,1)])
                     . obtain ⟨q',r1,r2,r3,c',r4,r5⟩:=AKW hp ha hN (hA ▸ hx) hz1
                       rw [hA] at r1
                       have hk3:∀ y∈A.set i ⟨x.k,x.c,x.t,x.n-1⟩,y.k=3:=fun y hy=>by
                         rcases List.mem_or_eq_of_mem_set hy with hy | rfl
                         . exact (hA1 y hy).1
                         . exact x1
                       have cP2:=ACR s.gas (A.set i ⟨x.k,x.c,x.t,x.n-1⟩) hp (by rw [List.length_set];omega) (fun y hy=> .inl (hk3 y hy));rw [r1] at cP2
                       have hbor:∀ (H:Hp) (b:Nat),H b=some C2->Bor H (.ls b 0 A.length 4) (.d (JZ (A.set i ⟨x.k,x.c,x.t,x.n-1⟩))):=fun H b hh=>by
                         have:=B0 (f:=XO) hfa (l:=A.set i ⟨x.k,x.c,x.t,x.n-1⟩) (hC2 ▸ hh);rw [List.length_set] at this;exact this
                       have y3:¬ (s.gas.cs.length:Int)<=x.c:=by omega
                       have cF:=AB4 c' a (Dx r2 c' (List.mem_of_getElem? r4)) ha;have cP3:Cm prog 60 [Cy s.gas (.d (AX s.gas.cs)), .ls 9437186 0 A.length 4] (lk [(9437186,C2)]) [] _ _:=Cm.give cP2 ⟨⟨AJN _,AJN _,AJN _,AJN _,AJN _,AJN _,AJN _,AJN _,AJN _,AJN _,trivial⟩,hbor _ _ (by simp [lk]),trivial⟩;simp [hs2,h,hget1,hb4,hz1];refine CRs cP3 (by simp) ?_;simp [AA,r3,y3,x2,x3,inC,Nat.testBit];obtain ⟨_,hr4⟩:=List.getElem?_eq_some_iff.1 r4;refine CLb (cF) (by simp [hr4]) ?_;simp [r5,hz];refine ⟨i+1,by omega,by omega,?_⟩;exact WK hE (lk [(0,0),(1,1)])
                   . have ei:i=A.length:=by omega
                     have hI:¬ (i:Int)<A.length:=by omega
                     subst ei;simp [AKw];apply RZ;simp [results14]
end Go.Proofs.Tryz
namespace Go.Psl
open Go.Shelf Go.RowKit Go.Lib Go.Sort
variable {P:Program} {ρ:Ren} {α:Type} [Inhabited α]
theorem dJ {W W':World} (hos:W'.os=W.os) (hta:W'.tape=W.tape) (hou:W'.output=W.output) (hdr:W.drawn<=W'.drawn) (hsz:W.heap.size<=W'.heap.size) (hb:∀ b,b<W.heap.size->W'.heap[b]?= W.heap[b]?):
   ∃ q os',W'=grow (W.drewN q) os':=by
 refine ⟨W'.drawn-W.drawn,W'.heap.extract W.heap.size W'.heap.size,?_⟩;obtain ⟨h,t,d,o,u⟩:=W;obtain ⟨h',t',d',o',u'⟩:=W';simp only at hos hta hou hdr hsz hb;subst hos hta hou;simp only [grow,World.drewN];congr 1
 . apply Array.ext_getElem?
   intro i;by_cases hi:i<h.size
   . rw [Array.getElem?_append_left hi,hb i hi]
   . rw [Array.getElem?_append_right (by omega),Array.getElem?_extract]
     split
     . congr 1;omega
     . rw [Array.getElem?_eq_none (by omega)]
 . omega
theorem Mg {enc:α->List Value} {k:Nat} (h0:0<k) (hk:∀ x,(enc x).length=k) (l:List α) (j:Nat) (hj:j<l.length*k):(l.flatMap enc)[j]?= some (flatK enc k l.toArray)[j]! :=by
 rw [get_flatK _ _ _ _ (by simpa using hj),List.flatMap_def,CI h0 _ (fun e he=>by obtain ⟨x,_,rfl⟩:=List.mem_map.1 he;exact hk x)];have h1:j/k<l.length:=by rw [Nat.div_lt_iff_lt_mul h0];exact hj
 have hm:j%k<k:=Nat.mod_lt _ h0;rw [List.getElem?_map,List.getElem?_eq_getElem h1];simp only [Option.map_some,Option.bind_some];have e1:l.toArray[j/k]! =l[j/k]:=by rw [getElem!_pos _ _ (by simpa using h1)];simp
 rw [e1,List.getElem?_eq_getElem (by rw [hk];exact hm),getElem!_pos _ _ (by rw [hk];exact hm)]
omit [Inhabited α] in
theorem N2 {enc:α->List Value} {k:Nat} (hk:∀ x,(enc x).length=k) (l:List α):(l.flatMap enc).length=l.length*k:=by
 rw [List.flatMap_def,B3 (sz:=k) _ (fun e he=>by obtain ⟨x,_,rfl⟩:=List.mem_map.1 he;exact hk x),List.length_map]
theorem Wo {G:Gh} {W:World} {vs:List Value} (h:∀ v∈vs,CU v=true):AJ (R1 G W) (vs.map cV) vs:=by
 induction vs with
 | nil=>trivial
 | cons v vs ih=>exact ⟨RD.lit v (h v (by simp)),ih fun x hx=>h x (by simp [hx])⟩
theorem P6 {g:Nat} {enc:α->List Value} {k:Nat} {cf:α->α->Int} (hflat:∀ x,∀ v∈enc x,CU v=true) (hcmp:∀ x y,Ct P g [.agg ((enc x).map cV), .agg ((enc y).map cV)] (.d (.lit (.int .i64 (cf x y)))) []) (blk off size:Nat) (w:World):Go.Proofs.CmpLays P g #[] enc k cf blk off size w:=by
 intro m os dk _ x y;refine ((hcmp x y).2 ⟨fun _=>0,fun _=>0,fun _=>true,fun _=>true,fun _=>False⟩ _ #[.agg (enc x).toArray, .agg (enc y).toArray] (fun _ h=>h.elim) ⟨⟨_,rfl,Wo (hflat x)⟩,⟨_,rfl,Wo (hflat y)⟩,trivial⟩ ⟨nofun,fun i _ h=>by simp [InH] at h,nofun⟩).mono fun e W' ⟨G',hp⟩=>?_
 refine ⟨?_,dJ hp.os hp.tape hp.output hp.drawn hp.size fun b hb=>hp.block b hb fun ⟨_,h,_⟩=>by simp [InH] at h⟩;cases e with
 | returned v=>rw [Cg hp.rv]
 | _=>exact hp.rv.elim
theorem N3 (L:Go.Proofs.SlLaysF0.n6 P ρ) (hf:fF P (ρ.f 6)) (k:Nat) (h0:0<k) (aE:∀ w,(isAgg (ρ.t 24)).run P w= .ok true w) (zE:∀ w,(Go.sizeOf (ρ.t 24)).run P w= .ok k w) (enc:α->List Value) (hk:∀ x,(enc x).length=k) (hflat:∀ x,∀ v∈enc x,CU v=true) (cf:α->α->Int) (hO:SWO (Go.Proofs.ltOf cf)) (hT:∀ x y,(Go.Proofs.ltOf cf) x y=false->(Go.Proofs.ltOf cf) y x=false->x=y)
   (g:Nat) (eg:∀ args w,(callFunc g args).run P w= .ok (.enter g args) w) (hcmp:∀ x y,Ct P g [.agg ((enc x).map cV), .agg ((enc y).map cV)] (.d (.lit (.int .i64 (cf x y)))) []) (l:List α) (hl0:0<l.length) (hsz:l.length<4611686018427387904):
   Cm P (ρ.f 6) [.ls 0 0 l.length k, .d (.fn g [])] (lk [(0,(l.flatMap enc).map cV)]) [0] (.ret (.tup [])) (lk [(0,((l.mergeSort fun x y=>!(Go.Proofs.ltOf cf) y x).flatMap enc).map cV)]):=by
 refine ⟨hf,fun G W xs hGW hargs hpre=>?_⟩
 obtain ⟨v1,v2,rfl⟩:∃ v1 v2,xs= #[v1,v2]:=by
   have:=hargs.length;obtain ⟨xs⟩:=xs
   match xs,this with
   | [a,b],_=>exact ⟨a,b,rfl⟩
   | [],h=>simp at h
   | [_],h=>simp at h
   | _::_::_::_,h=>simp at h
 obtain ⟨h1,h2,_⟩:=hargs;obtain ⟨hIn,hph⟩:=hpre.st 0 (by simp);obtain ⟨hml,⟨_,h,_⟩ | ⟨hphl,o,cap,rfl,hcap,ho⟩⟩:=h1
 . omega
 obtain ⟨rfl,hbs0⟩:=ho (by omega)
 obtain ⟨cv,rfl,hcv⟩:∃ cv,v2= .func (.func g) #[] cv/\cv.size=0:=by
   cases h2 with
   | fn _ _ cv hl _=>exact ⟨cv,rfl,hl⟩
 obtain rfl:cv= #[]:=Array.eq_empty_of_size_eq_zero hcv;have hHB:=hpre.hb 0 _ rfl;obtain ⟨hnim,c,T,hb,hbs,hcl,hcr,hca⟩:=hHB.read hphl;have hblk:G.β 0<W.heap.size:=(Array.getElem?_eq_some_iff.1 hb).1;have hfl:=N2 hk l;rw [List.length_map,hfl] at hcl hcr
 have hcell:∀ j,j<l.length*k->c[j]?= some (flatK enc k l.toArray)[j]! :=fun j hj=>by
   have h3:=Mg h0 hk l j hj;have h4:((l.flatMap enc).map cV)[j]?= some (cV (flatK enc k l.toArray)[j]!):=by rw [List.getElem?_map,h3];rfl
   obtain ⟨x,hx,hr⟩:=hcr.get h4;rw [List.getElem?_take,if_pos hj,Array.getElem?_toList] at hx;rw [hx,BO hr.r2.rv]
 have hH:HoldsK enc k W (G.β 0) 0 l.toArray:=fun j hj=>by
   have hj':j<l.length*k:=by simpa using hj
   refine ⟨?_,?_⟩
   . unfold World.cell?
     simp only [Nat.zero_add,hb,Option.isSome_none,Bool.false_eq_true,if_false];exact hcell j hj'
   . unfold World.frozen?
     simp [hb]
 have h1c:∀ x,∀ v∈enc x,v.oneCell'=true:=fun x v hv=>RD.oneCell (Im:=fun _=>True) (W:=W) (RD.lit v (hflat x v hv))
 have key:=Go.Proofs.AnyQ.slices_SortFunc_total L k aE zE enc hk h1c cf hO g #[] (G.β 0) 0 cap l.toArray W eg (P6 hflat hcmp _ _ _ _) hH hblk (by simpa using hsz) hT;have hperm:(l.mergeSort fun x y=>!(Go.Proofs.ltOf cf) y x).length=l.length:=List.length_mergeSort _
 generalize (l.mergeSort fun x y=>!(Go.Proofs.ltOf cf) y x)=l' at key hperm ⊢
 have key':Calls P (ρ.f 6) #[.slice (some ⟨G.β 0,0,none⟩) l.length cap, .func (.func g) #[] #[]] W fun e w'=>e= .returned (.tuple #[])/\∃ n os,w'=Go.Proofs.sortWorldK enc k W (G.β 0) 0 n l'.toArray os:=by simpa using key
 refine key'.mono fun e W' ⟨he,n,os,hW'⟩=>?_
 subst he
 have hlent:∀ b,Bm G (lk [(0,(l.flatMap enc).map cV)]) b->b=G.β 0:=fun b ⟨i,hi,_,hbi⟩=>by
   have:i=0:=by simp only [InH,lk] at hi;split at hi;assumption;cases hi
   rw [<-hbi,this]
 have hlent0:Bm G (lk [(0,(l.flatMap enc).map cV)]) (G.β 0):=⟨0,hIn,hph,rfl⟩
 have hheap:∀ b,b<W.heap.size->W'.heap[b]?= if b=G.β 0 then some (.cells (putCells id 0 (flatK enc k l'.toArray) c) T (0,0)) else W.heap[b]?:= fun b hlt=>by
   rw [hW']
   show ((putRow id (Sort.ahead W n) (G.β 0) 0 (flatK enc k l'.toArray)).heap++os)[b]?= _
   rw [Array.getElem?_append_left (by simpa using hlt)]
   show (W.heap.modify (G.β 0) _)[b]?= _
   rw [Array.getElem?_modify];by_cases e:b=G.β 0
   . subst e
     simp [hb,onCells]
   . rw [if_neg (fun h=>e h.symm),if_neg e]
 have hsz':W.heap.size<=W'.heap.size:=by rw [hW'];exact Go.Proofs.size_sortWorldK_c enc k W (G.β 0) 0 n l'.toArray os
 refine ⟨G,⟨by rw [hW'];rfl,by rw [hW'];rfl,by rw [hW'];rfl,by rw [hW'];exact Nat.le_add_right _ _,hsz',fun b hlt hn=>?_,fun b hb=>⟨Nat.lt_of_lt_of_le (hGW b hb) hsz', .inl hb⟩,fun _ h=>h,⟨#[],rfl,trivial⟩,fun _ h=>(by cases h),fun i cs hi=>?_,fun i j hi hj _ _ _=>?_,fun i hi _=>⟨rfl,rfl,(hpre.st i hi).2,rfl⟩⟩⟩
 . rw [hheap b hlt,if_neg (fun e:b=G.β 0=>hn (by rw [e];exact hlent0))]
 . have hi0:i=0/\cs=(l'.flatMap enc).map cV:=by
     simp only [lk] at hi;split at hi
     . rename_i e;cases hi;exact ⟨e,rfl⟩
     . cases hi
   obtain ⟨rfl,rfl⟩:=hi0;have hfl':=N2 hk l';refine ⟨.inr (.inl ⟨hphl.1,hphl.2,hnim,_,T,by rw [hheap _ hblk,if_pos rfl],by simp [putCells,hbs],by simp [putCells,hfl',hperm];exact hcl,?_,?_⟩),fun _=> .inr hlent0,fun x hx=>?_⟩
   . refine AJ.of_get ?_ fun j x y hx hy=>?_
     . simp [putCells,hfl',hperm];omega
     . have hj:j<l'.length*k:=by
         have:=(List.getElem?_eq_some_iff.1 hx).1;simpa [hfl'] using this
       rw [List.getElem?_map,Mg h0 hk l' j hj] at hx;cases hx;rw [List.getElem?_take,List.length_map,hfl',if_pos hj,Array.getElem?_toList] at hy;have hjc:j<c.size:=by rw [hperm] at hj;omega
       simp only [putCells,Array.getElem?_mapIdx,Array.getElem?_eq_getElem hjc,Option.map_some,Nat.zero_le,true_and,Nat.zero_add,size_flatK,List.size_toArray,hj,if_true,Option.some.injEq,Nat.sub_zero,id] at hy;subst hy;have hm:=Mg h0 hk l' j hj;have hmem:=List.mem_of_getElem? hm;obtain ⟨a,_,ha⟩:=List.mem_flatMap.1 hmem;exact RD.lit _ (hflat a _ ha)
   . simp only [List.all_map,List.all_eq_true]
     intro v _;rfl
   . obtain ⟨v,_,rfl⟩:=List.mem_map.1 hx
     trivial
 . have e1:i=0:=by simp only [InH,lk] at hi;split at hi;assumption;cases hi
   have e2:j=0:=by simp only [InH,lk] at hj;split at hj;assumption;cases hj
   rw [e1,e2]
end Go.Psl
namespace Go.Proofs
def Tryz.sortL_ren:Go.Shelf.Ren:=⟨fun | 6=>221 | 15=>270 | 14=>269 | 28=>300 | 29=>301 | 20=>292 | 21=>293 | 22=>294 | 23=>295 | 24=>296 | 25=>297 | 26=>298 | 27=>299 | 46=>312 | 47=>313 | 48=>314 | 49=>315 | 50=>316 | 57=>318 | n=>n,fun | 22=>55 | 24=>122 | 25=>275 | 3=>3 | 39=>222 | 0=>0 | 53=>339 | 55=>341 | 4=>4 | 46=>333 | 45=>332 | 50=>266 | 5=>5 | 9=>9 | 66=>348 | 70=>352 | 76=>356 | 77=>50 | n=>n,fun | n=>n⟩
theorem Tryz.sortL:Go.Proofs.SlLaysF0.n6 Tryz.prog Tryz.sortL_ren:={
 mixed:=by kernel_rfl,
 f6:=⟨Tryz.f221.name,by decide,Tryz.func221.trans (congrArg some (by kernel_rfl))⟩,
 f14:=⟨Tryz.f269.name,by decide,Tryz.func269.trans (congrArg some (by kernel_rfl))⟩,
 f15:=Tryz.func270.trans (congrArg some (by kernel_rfl)),
 f20:=⟨Tryz.f292.name,by decide,Tryz.func292.trans (congrArg some (by kernel_rfl))⟩,
 f21:=⟨Tryz.f293.name,by decide,Tryz.func293.trans (congrArg some (by kernel_rfl))⟩,
 f22:=⟨Tryz.f294.name,by decide,Tryz.func294.trans (congrArg some (by kernel_rfl))⟩,
 f23:=⟨Tryz.f295.name,by decide,Tryz.func295.trans (congrArg some (by kernel_rfl))⟩,
 f24:=⟨Tryz.f296.name,by decide,Tryz.func296.trans (congrArg some (by kernel_rfl))⟩,
 f25:=⟨Tryz.f297.name,by decide,Tryz.func297.trans (congrArg some (by kernel_rfl))⟩,
 f26:=⟨Tryz.f298.name,by decide,Tryz.func298.trans (congrArg some (by kernel_rfl))⟩,
 f27:=⟨Tryz.f299.name,by decide,Tryz.func299.trans (congrArg some (by kernel_rfl))⟩,
 f28:=Tryz.func300.trans (congrArg some (by kernel_rfl)),
 f29:=Tryz.func301.trans (congrArg some (by kernel_rfl)),
 f46:=⟨Tryz.f312.name,by decide,Tryz.func312.trans (congrArg some (by kernel_rfl))⟩,
 f47:=Tryz.func313.trans (congrArg some (by kernel_rfl)),
 f48:=Tryz.func314.trans (congrArg some (by kernel_rfl)),
 f49:=⟨Tryz.f315.name,by decide,Tryz.func315.trans (congrArg some (by kernel_rfl))⟩,
 f50:=⟨Tryz.f316.name,by decide,Tryz.func316.trans (congrArg some (by kernel_rfl))⟩,
 f57:=⟨Tryz.f318.name,by decide,Tryz.func318.trans (congrArg some (by kernel_rfl))⟩,
 t0:=Tryz.underlying0,
 a0:=Tryz.isAgg0,
 z0:=Tryz.sizeOf0,
 v0:=Tryz.zeroValue0,
 t3:=Tryz.underlying3,
 a3:=Tryz.isAgg3,
 z3:=Tryz.sizeOf3,
 v3:=Tryz.zeroValue3,
 t4:=Tryz.underlying4,
 a4:=Tryz.isAgg4,
 z4:=Tryz.sizeOf4,
 v4:=Tryz.zeroValue4,
 t5:=Tryz.underlying5,
 a5:=Tryz.isAgg5,
 z5:=Tryz.sizeOf5,
 v5:=Tryz.zeroValue5,
 t9:=Tryz.underlying9,
 a9:=Tryz.isAgg9,
 z9:=Tryz.sizeOf9,
 v9:=Tryz.zeroValue9,
 t22:=Tryz.underlying55,
 a22:=Tryz.isAgg55,
 z22:=Tryz.sizeOf55,
 v22:=Tryz.zeroValue55,
 t25:=Tryz.underlying275,
 a25:=Tryz.isAgg275,
 z25:=Tryz.sizeOf275,
 v25:=Tryz.zeroValue275,
 t39:=Tryz.underlying222,
 a39:=Tryz.isAgg222,
 z39:=Tryz.sizeOf222,
 v39:=Tryz.zeroValue222,
 t45:=Tryz.underlying332,
 a45:=Tryz.isAgg332,
 z45:=Tryz.sizeOf332,
 v45:=Tryz.zeroValue332,
 t46:=Tryz.underlying333,
 a46:=Tryz.isAgg333,
 z46:=Tryz.sizeOf333,
 v46:=Tryz.zeroValue333,
 t50:=Tryz.underlying266,
 a50:=Tryz.isAgg266,
 z50:=Tryz.sizeOf266,
 v50:=Tryz.zeroValue266,
 t53:=Tryz.underlying339,
 a53:=Tryz.isAgg339,
 z53:=Tryz.sizeOf339,
 v53:=Tryz.zeroValue339,
 t55:=Tryz.underlying341,
 a55:=Tryz.isAgg341,
 z55:=Tryz.sizeOf341,
 v55:=Tryz.zeroValue341,
 t66:=Tryz.underlying348,
 a66:=Tryz.isAgg348,
 z66:=Tryz.sizeOf348,
 v66:=Tryz.zeroValue348,
 t70:=Tryz.underlying352,
 a70:=Tryz.isAgg352,
 z70:=Tryz.sizeOf352,
 v70:=Tryz.zeroValue352,
 t76:=Tryz.underlying356,
 a76:=Tryz.isAgg356,
 z76:=Tryz.sizeOf356,
 v76:=Tryz.zeroValue356,
 t77:=Tryz.underlying50,
 a77:=Tryz.isAgg50,
 z77:=Tryz.sizeOf50,
 v77:=Tryz.zeroValue50}
end Go.Proofs
namespace Go.Proofs.Tryz
open Go.Psl
def Yn (p:Int × Int):List Value:=[.int .i64 p.1, .int .i64 p.2]
theorem L8 (l:List (Int × Int)):(l.flatMap Yn).map cV=BC l:=by
 induction l with
 | nil=>rfl
 | cons a l ih=>
   rw [List.flatMap_cons,List.map_append,ih];rfl
theorem Kq (x y:Int × Int):Go.Proofs.ltOf Dw x y=true↔Go.Geo.lt x y:=by
 unfold Go.Proofs.ltOf;rw [decide_eq_true_eq,PX]
theorem ay (x y:Int × Int):Go.Proofs.ltOf Dw x y=false↔¬ Go.Geo.lt x y:=by
 rw [<-Kq];simp
theorem VT:Go.Sort.SWO (Go.Proofs.ltOf Dw) where
 irrefl x:=by rw [ay];exact Go.Geo.lt_irr x
 trans x y z h1 h2:=by rw [Kq] at*;exact Go.Geo.lt_trans h1 h2
 ntrans x y z h1 h2:=by rw [ay] at*;unfold Go.Geo.lt at*;omega
theorem kX:SortOk:=fun l h1 h2=>by
 have hcmp:∀ x y:Int × Int,Ct prog 222 [.agg ((Yn x).map cV), .agg ((Yn y).map cV)] (.d (.lit (.int .i64 (Dw x y)))) []:=fun x y=>pR x y
 have h:=N3 Tryz.sortL ⟨_,func221,by kernel_rfl,by decide⟩ 2 (by omega) Tryz.isAgg122 Tryz.sizeOf122 Yn (fun _=>rfl) (fun x v hv=>by simp [Yn] at hv;rcases hv with rfl | rfl<;>rfl) Dw VT
   (fun x y a b=>by
     rw [ay] at a b;rcases Go.Geo.lt_tri x y with h | h | h
     . exact absurd h a
     . exact h
     . exact absurd h b) 222 (Go.Proofs.enters_of func222 (by kernel_rfl) rfl) hcmp l h1 (by omega)
 rw [L8,L8] at h;exact h
end Go.Proofs.Tryz
