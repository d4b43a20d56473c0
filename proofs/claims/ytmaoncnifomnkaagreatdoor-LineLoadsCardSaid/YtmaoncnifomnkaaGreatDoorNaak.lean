/- Own lemmas, used by the last text. Conditions: those that each theorem states. -/
import Derived.Deep.DeepHandedRow
import Derived.JoinedCond
import Derived.LaidLaws
import Derived.Lib.ItoaNum
import Derived.Lib.LaidTab
import Derived.Shelf.Vars
import Derived.Test.YtmaoncnifomnkaaGreatDoorNaae
import Derived.Test.YtmaoncnifomnkaaGreatDoorNaaf
import Derived.Test.YtmaoncnifomnkaaGreatDoorNaag
import Derived.Test.YtmaoncnifomnkaaGreatDoorNaai
import Derived.Test.YtmaoncnifomnkaaGreatDoorNaaj
set_option maxRecDepth 200000
set_option maxHeartbeats 8000000
namespace Go.Proofs.Tryz
open Go.Psl
open Go.Log
abbrev ldV (x:Ldp):V:= .agg [vi x.al,vi x.ah,vi x.wl,vi x.wh]
abbrev lmV (x:Lim):V:= .agg [vi x.a,vi x.b,vi x.c]
abbrev Hl (l:List Ldp):D:= .sl 4 (l.map fun x=>[di x.al,di x.ah,di x.wl,di x.wh])
abbrev p0 (l:List Lim):D:= .sl 3 (l.map fun x=>[di x.a,di x.b,di x.c])
theorem oy (n lo hi:Int):Ct prog 92 [vi n,vi lo,vi hi] (vb (DF n lo hi)) []:=by
 by_cases h1:¬ lo<=n
 . have h2:DF n lo hi=false:=by simp [DF];omega
   refine CB func92 c92 fun E hE=>?_
   simp [p92,h1];apply RZ;simp [results92,h2]
 . simp only [Decidable.not_not] at h1
   by_cases h3:¬ n<=hi
   . have h2:DF n lo hi=false:=by simp [DF];omega
     refine CB func92 c92 fun E hE=>?_
     simp [p92,h1,h3];apply RZ;simp [results92,h2]
   . simp only [Decidable.not_not] at h3
     have h2:DF n lo hi=true:=by simp [DF];omega
     refine CB func92 c92 fun E hE=>?_
     simp [p92,h1,h3];apply RZ;simp [results92,h2]
theorem AEG (lo hi m:Int) (h0:0<=m) (hm:m<=100000000000000000):Ct prog 131 [vsp lo hi,vi m] (vb (Ro lo hi m)) []:=by
 have w:IntKind.wrap .i64 (-m)= -m:=AD (by omega) (by omega);by_cases h1:¬ lo<=hi
 . have h2:Ro lo hi m=false:=by simp [Ro];omega
   refine CB func131 AEH fun E hE=>?_
   simp [p131,h1];apply RZ;simp [results131,h2]
 . simp only [Decidable.not_not] at h1
   by_cases h3:¬ -m<=lo
   . have h2:Ro lo hi m=false:=by simp [Ro];omega
     refine CB func131 AEH fun E hE=>?_
     simp [p131,h1,h3,w];apply RZ;simp [results131,h2]
   . simp only [Decidable.not_not] at h3
     by_cases h4:¬ hi<=m
     . have h2:Ro lo hi m=false:=by simp [Ro];omega
       refine CB func131 AEH fun E hE=>?_
       simp [p131,h1,h3,h4,w];apply RZ;simp [results131,h2]
     . simp only [Decidable.not_not] at h4
       have h2:Ro lo hi m=true:=by simp [Ro];omega
       refine CB func131 AEH fun E hE=>?_
       simp [p131,h1,h3,h4,w];apply RZ;simp [results131,h2]
theorem wF (x:Ldp):Ct prog 214 [ldV x] (vb (Kl x)) []:=by
 have c1:=AEG x.al x.ah 20000 (by omega) (by omega);have c2:=AEG x.wl x.wh 1073741824 (by omega) (by omega);by_cases h:Ro x.al x.ah 20000=true
 . have e:Kl x=Ro x.wl x.wh 1073741824:=by simp [Kl,h]
   rw [h] at c1;refine CB func214 Ach fun E hE=>?_
   simp [p214];refine CLa c1 ?_;simp;refine CLa c2 ?_;simp;apply RZ;simp [results214,e]
 . simp only [Bool.not_eq_true] at h
   have e:Kl x=false:=by simp [Kl,h]
   rw [h] at c1;refine CB func214 Ach fun E hE=>?_
   simp [p214];refine CLa c1 ?_;simp;apply RZ;simp [results214,e]
theorem fn88 (x:Lim):Ct prog 88 [lmV x] (vb (Rf x)) []:=by
 have c1:=oy x.a (-1000) 1000;have c2:=oy x.b (-1000) 1000;have c3:=oy x.c (-1000000000000000000) 1000000000000000000;by_cases h:DF x.a (-1000) 1000=true
 . rw [h] at c1
   by_cases h2:DF x.b (-1000) 1000=true
   . have e:Rf x=DF x.c (-1000000000000000000) 1000000000000000000:=by simp [Rf,h,h2]
     rw [h2] at c2;refine CB func88 c88 fun E hE=>?_
     simp [p88];refine CLa c1 ?_;simp;refine CLa c2 ?_;simp;refine CLa c3 ?_;simp;apply RZ;simp [results88,e]
   . simp only [Bool.not_eq_true] at h2
     have e:Rf x=false:=by simp [Rf,h2]
     rw [h2] at c2;refine CB func88 c88 fun E hE=>?_
     simp [p88];refine CLa c1 ?_;simp;refine CLa c2 ?_;simp;apply RZ;simp [results88,e]
 . simp only [Bool.not_eq_true] at h
   have e:Rf x=false:=by simp [Rf,h]
   rw [h] at c1;refine CB func88 c88 fun E hE=>?_
   simp [p88];refine CLa c1 ?_;simp;apply RZ;simp [results88,e]
theorem U3 {α:Type} {l:List α} {f:α->Bool} {i:Nat} {x:α} (hx:l[i]?= some x) (h:f x=false):l.all f=false:=
 List.all_eq_false.2 ⟨x,List.mem_of_getElem? hx,by simp [h]⟩
theorem uh {α:Type} {l:List α} {f:α->Bool} (h:∀ j,j<l.length->(l[j]?).all f=true):l.all f=true:=
 List.all_eq_true.2 fun x hx=>by
   obtain ⟨j,hj,rfl⟩:=List.getElem_of_mem hx;have:=h j hj
   rwa [List.getElem?_eq_getElem hj] at this
theorem yB (l:List Ldp) (hl:l.length<=1000000):Ct prog 213 [.d (Hl l),vi 40, .d (.fn 214 []),vi 40] (vi (F0 l)) []:=by
 by_cases h0:40<l.length
 . have h0':(40:Int)<l.length:=by omega
   refine CB func213 Acg fun E hE=>?_
   simp [p213,h0'];apply RZ;simp [results213,F0,h0]
 have h0':¬ (40:Int)<l.length:=by omega
 refine CB func213 Acg fun E hE=>?_
 simp [p213,h0'];refine Al (α:=Nat) (fun i=>⟨AO [(2, .d (.fn 214 [])),(3,vi 40),(15, .d (Hl l)),(16,vi l.length),(17,vi i)],lk [],0⟩) (fun i=>i<=l.length/\∀ j,j<i->(l[j]?).all Kl=true) (fun i=>l.length-i) 0 ?_ ?_ ?_
 . exact ⟨by omega,fun j hj=>by omega⟩
 . exact WK hE (lk [])
 . rintro i ⟨hi,hg3⟩
   have hz:=@wz i (by omega);by_cases h:i<l.length
   . obtain ⟨x,hx⟩:=gE h
     have hI:(i:Int)<l.length:=by omega
     have c2:=wF x;by_cases h4:Kl x=true
     . rw [h4] at c2
       simp [AWY,hI,hx,AA];refine CLa c2 ?_;simp [hz];refine ⟨i+1,⟨by omega,fun j hj=>?_⟩,by omega,?_⟩
       . by_cases e:j=i
         . subst e;rw [hx];simp [h4]
         . exact hg3 j (by omega)
       . exact WK hE (lk [])
     . simp only [Bool.not_eq_true] at h4
       rw [h4] at c2;simp [AWY,hI,hx,AA];refine CLa c2 ?_;simp;apply RZ;simp [results213,F0,h0,U3 hx h4]
   . have hI:¬ (i:Int)<l.length:=by omega
     have h1:l.all Kl=true:=uh fun j hj=>hg3 j (by omega)
     simp [AWY,hI];apply RZ;simp [results213,F0,h0,h1]
theorem fn87 (l:List Lim) (hl:l.length<=1000000):Ct prog 87 [.d (p0 l),vi 12, .d (.fn 88 []),vi 41] (vi (F7 l)) []:=by
 by_cases h0:12<l.length
 . have h0':(12:Int)<l.length:=by omega
   refine CB func87 c87 fun E hE=>?_
   simp [p87,h0'];apply RZ;simp [results87,F7,h0]
 have h0':¬ (12:Int)<l.length:=by omega
 refine CB func87 c87 fun E hE=>?_
 simp [p87,h0'];refine Al (α:=Nat) (fun i=>⟨AO [(2, .d (.fn 88 [])),(3,vi 41),(15, .d (p0 l)),(16,vi l.length),(17,vi i)],lk [],0⟩) (fun i=>i<=l.length/\∀ j,j<i->(l[j]?).all Rf=true) (fun i=>l.length-i) 0 ?_ ?_ ?_
 . exact ⟨by omega,fun j hj=>by omega⟩
 . exact WK hE (lk [])
 . rintro i ⟨hi,hg3⟩
   have hz:=@wz i (by omega);by_cases h:i<l.length
   . obtain ⟨x,hx⟩:=gE h
     have hI:(i:Int)<l.length:=by omega
     have c2:=fn88 x;by_cases h4:Rf x=true
     . rw [h4] at c2
       simp [AXp,hI,hx,AA];refine CLa c2 ?_;simp [hz];refine ⟨i+1,⟨by omega,fun j hj=>?_⟩,by omega,?_⟩
       . by_cases e:j=i
         . subst e;rw [hx];simp [h4]
         . exact hg3 j (by omega)
       . exact WK hE (lk [])
     . simp only [Bool.not_eq_true] at h4
       rw [h4] at c2;simp [AXp,hI,hx,AA];refine CLa c2 ?_;simp;apply RZ;simp [results87,F7,h0,U3 hx h4]
   . have hI:¬ (i:Int)<l.length:=by omega
     have h1:l.all Rf=true:=uh fun j hj=>hg3 j (by omega)
     simp [AXp,hI];apply RZ;simp [results87,F7,h0,h1]
theorem AEF (l:List Ldp) (hl:l.length<=1000000):Ct prog 130 [.d (Hl l)] (vi (F0 l)) []:=by
 have c1:=yB l hl;refine CB func130 c130 fun E hE=>?_
 simp [p130];refine CLa c1 ?_;simp;apply RZ;simp [results130]
theorem Ab9 (l:List Lim) (hl:l.length<=1000000):Ct prog 41 [.d (p0 l)] (vi (F7 l)) []:=by
 have c1:=fn87 l hl;refine CB func41 c41 fun E hE=>?_
 simp [p41];refine CLa c1 ?_;simp;apply RZ;simp [results41]
def AWg (l:List Int) (i:Nat):Int:=(l.take i).foldl min (l.headD 0)
def AWh (l:List Int) (i:Nat):Int:=(l.take i).foldl max (l.headD 0)
theorem AYA {l:List Int} {i:Nat} {x:Int} (h:l[i]?= some x):AWg l (i+1)=min (AWg l i) x:=by
 unfold AWg;rw [List.take_add_one,h];simp [List.foldl_append]
theorem AYB {l:List Int} {i:Nat} {x:Int} (h:l[i]?= some x):AWh l (i+1)=max (AWh l i) x:=by
 unfold AWh;rw [List.take_add_one,h];simp [List.foldl_append]
theorem yR (x:Int) (r:List Int) (hl:r.length<=1000000):Ct prog 278 [.d (MB (x::r))] (vi (AWg (x::r) (r.length+1))) []:=by
 have h1:AWg (x::r) 1=x:=by simp [AWg]
 have hn:¬ ((r.length:Int)+1<1):=by omega
 obtain ⟨l,hq⟩:∃ l,l=x::r:=⟨_,rfl⟩
 have hl2:l.length=r.length+1:=by rw [hq];rfl
 have h0:l[0]?= some x:=by rw [hq];rfl
 rw [<-hq] at h1 ⊢;rw [<-hl2];have hn:¬ ((l.length:Int)<1):=by omega
 refine CB func278 c278 fun E hE=>?_
 simp [p278,hn,h0];refine Al (α:=Nat) (fun i=>⟨AO [(0, .d (MB l)),(3,vi (AWg l i)),(4,vi i)],lk [],0⟩) (fun i=>i<=l.length) (fun i=>l.length-i) 1 ?_ ?_ ?_
 . omega
 . refine AI.mk hE (lk []) _ _ _ ?_ ?_ ?_ ?_ ?_<;>simp [h1]
 . intro i hi
   have hz:=@wz i (by omega);by_cases h:i<l.length
   . obtain ⟨y,hy⟩:=gE h
     have hI:(i:Int)<l.length:=by omega
     simp [AXS,hI,hy,hz];refine ⟨i+1,by omega,by omega,?_⟩;refine AI.mk hE (lk []) _ _ _ ?_ ?_ ?_ ?_ ?_<;>simp [AYA hy]
   . have hI:¬ (i:Int)<l.length:=by omega
     obtain rfl:i=l.length:=by omega
     simp [AXS];apply RZ;simp [results278]
theorem AAQ (x:Int) (r:List Int) (hl:r.length<=1000000):Ct prog 279 [.d (MB (x::r))] (vi (AWh (x::r) (r.length+1))) []:=by
 have h1:AWh (x::r) 1=x:=by simp [AWh]
 have hn:¬ ((r.length:Int)+1<1):=by omega
 obtain ⟨l,hq⟩:∃ l,l=x::r:=⟨_,rfl⟩
 have hl2:l.length=r.length+1:=by rw [hq];rfl
 have h0:l[0]?= some x:=by rw [hq];rfl
 rw [<-hq] at h1 ⊢;rw [<-hl2];have hn:¬ ((l.length:Int)<1):=by omega
 refine CB func279 c279 fun E hE=>?_
 simp [p279,hn,h0];refine Al (α:=Nat) (fun i=>⟨AO [(0, .d (MB l)),(3,vi (AWh l i)),(4,vi i)],lk [],0⟩) (fun i=>i<=l.length) (fun i=>l.length-i) 1 ?_ ?_ ?_
 . omega
 . refine AI.mk hE (lk []) _ _ _ ?_ ?_ ?_ ?_ ?_<;>simp [h1]
 . intro i hi
   have hz:=@wz i (by omega);by_cases h:i<l.length
   . obtain ⟨y,hy⟩:=gE h
     have hI:(i:Int)<l.length:=by omega
     simp [AXT,hI,hy,hz];refine ⟨i+1,by omega,by omega,?_⟩;refine AI.mk hE (lk []) _ _ _ ?_ ?_ ?_ ?_ ?_<;>simp [AYB hy]
   . have hI:¬ (i:Int)<l.length:=by omega
     obtain rfl:i=l.length:=by omega
     simp [AXT];apply RZ;simp [results279]
theorem AVY {α:Type} (l:List α) (i:Nat):(l.take i).length<=l.length:=by simp;omega
theorem Qd {l:List Ldp} (h:F0 l=0):l.length<=40/\∀ x∈l,Kl x=true:=by
 unfold F0 at h;split at h
 . cases h
 . split at h
   . rename_i h1 h2
     exact ⟨by omega,fun x hx=>List.all_eq_true.1 h2 x hx⟩
   . cases h
structure Frm where
 at':Int
 sh:Int
 be:Int
def AV0 (x:Frm):Bool:=DF x.at' (-20000) 20000&&DF x.sh 0 1000000000000&&DF x.be 0 10000000000000000
def GV (l:List Frm):Int:=if 12<l.length then 4 else if l.all AV0 then 0 else 42
abbrev frL (x:Frm):List D:=[di x.at',di x.sh,di x.be]
abbrev frV (x:Frm):V:= .agg [vi x.at',vi x.sh,vi x.be]
abbrev AV1 (l:List Frm):D:= .sl 3 (l.map fun x=>[di x.at',di x.sh,di x.be])
theorem fn91 (n:Int):Ct prog 91 [vi n] (vb (DF n (-20000) 20000)) []:=by
 have c:=oy n (-20000) 20000;refine CB func91 c91 fun E hE=>?_
 simp [p91];refine CLa c ?_;simp;apply RZ;simp [results91]
theorem fn90 (x:Frm):Ct prog 90 [frV x] (vb (AV0 x)) []:=by
 have c1:=fn91 x.at';have c2:=oy x.sh 0 1000000000000;have c3:=oy x.be 0 10000000000000000;unfold AV0
 generalize DF x.at' (-20000) 20000=r1 at*
 generalize DF x.sh 0 1000000000000=r2 at*
 generalize DF x.be 0 10000000000000000=r3 at*
 cases r1<;>cases r2
 all_goals
   refine CB func90 c90 fun E hE=>?_
   simp [p90]
   repeat ((first | (refine CLt c1 ?_ ?_;focus (simp;done)) | (refine CLt c2 ?_ ?_;focus (simp;done)) | (refine CLt c3 ?_ ?_;focus (simp;done)));simp)
   apply RZ;simp [results90]
theorem fn89 (l:List Frm) (hl:l.length<=1000000):Ct prog 89 [.d (AV1 l),vi 12, .d (.fn 90 []),vi 42] (vi (GV l)) []:=by
 by_cases h0:12<l.length
 . have h0':(12:Int)<l.length:=by omega
   refine CB func89 c89 fun E hE=>?_
   simp [p89,h0'];apply RZ;simp [results89,GV,h0]
 have h0':¬ (12:Int)<l.length:=by omega
 refine CB func89 c89 fun E hE=>?_
 simp [p89,h0'];refine Al (α:=Nat) (fun i=>⟨AO [(2, .d (.fn 90 [])),(3,vi 42),(15, .d (AV1 l)),(16,vi l.length),(17,vi i)],lk [],0⟩) (fun i=>i<=l.length/\∀ j,j<i->(l[j]?).all AV0=true) (fun i=>l.length-i) 0 ?_ ?_ ?_
 . exact ⟨by omega,fun j hj=>by omega⟩
 . exact WK hE (lk [])
 . rintro i ⟨hi,hg3⟩
   have hz:=@wz i (by omega);by_cases h:i<l.length
   . obtain ⟨x,hx⟩:=gE h
     have hI:(i:Int)<l.length:=by omega
     have c2:=fn90 x;by_cases h4:AV0 x=true
     . rw [h4] at c2
       simp [HI,hI,hx,AA];refine CLa c2 ?_;simp [hz];refine ⟨i+1,⟨by omega,fun j hj=>?_⟩,by omega,?_⟩
       . by_cases e:j=i
         . subst e;rw [hx];simp [h4]
         . exact hg3 j (by omega)
       . exact WK hE (lk [])
     . simp only [Bool.not_eq_true] at h4
       rw [h4] at c2;simp [HI,hI,hx,AA];refine CLa c2 ?_;simp;apply RZ;simp [results89,GV,h0,U3 hx h4]
   . have hI:¬ (i:Int)<l.length:=by omega
     have h1:l.all AV0=true:=uh fun j hj=>hg3 j (by omega)
     simp [HI,hI];apply RZ;simp [results89,GV,h0,h1]
theorem AP0 (l:List Frm) (hl:l.length<=1000000):Ct prog 42 [.d (AV1 l)] (vi (GV l)) []:=by
 have c1:=fn89 l hl;refine CB func42 c42 fun E hE=>?_
 simp [p42];refine CLa c1 ?_;simp;apply RZ;simp [results42]
theorem AXi (x:Ldp) (h:(IntKind.wrap .i64 (x.al*x.wl)=x.al*x.wl/\IntKind.wrap .i64 (x.ah*x.wl)=x.ah*x.wl)/\IntKind.wrap .i64 (x.al*x.wh)=x.al*x.wh/\IntKind.wrap .i64 (x.ah*x.wh)=x.ah*x.wh):Ct prog 218 [vsp x.al x.ah,vsp x.wl x.wh] (vsp (mnP x) (mxP x)) []:=by
 obtain ⟨⟨w1,w3⟩,w2,w4⟩:=h;have c1:=yR (x.al*x.wl) [x.al*x.wh,x.ah*x.wl,x.ah*x.wh] (by simp);have c2:=AAQ (x.al*x.wl) [x.al*x.wh,x.ah*x.wl,x.ah*x.wh] (by simp);rw [show AWg [x.al*x.wl,x.al*x.wh,x.ah*x.wl,x.ah*x.wh] ([x.al*x.wh,x.ah*x.wl,x.ah*x.wh].length+1)=mnP x by simp [AWg,mnP]] at c1;rw [show AWh [x.al*x.wl,x.al*x.wh,x.ah*x.wl,x.ah*x.wh] ([x.al*x.wh,x.ah*x.wl,x.ah*x.wh].length+1)=mxP x by simp [AWh,mxP]] at c2;refine CB func218 c218 fun E hE=>?_
 simp [p218,w1,w2,w3,w4,AA,AM];refine CLa c1 ?_;simp;refine CLa c2 ?_;simp [AA];apply RZ;simp [results218]
theorem tq6 {f:Ldp->Int} {l:List Ldp} {i:Nat} {x:Ldp} (hx:l[i]?= some x) (hl:l.length<=40) (hb:∀ x∈l, -50000000000000<=f x/\f x<=50000000000000):IntKind.wrap .i64 (FB f (l.take i)+f x)=FB f (l.take (i+1)):=by
 rw [<-hP hx];have b:=AWN (f:=f) (b:=50000000000000) (by omega) (l.take (i+1)) fun y hy=>hb y (List.mem_of_mem_take hy)
 have hn:=AVY l (i+1);have:(50000000000000:Int)*(l.take (i+1)).length<=50000000000000*40:=Int.mul_le_mul_of_nonneg_left (by omega) (by omega);exact AD (by omega) (by omega)
theorem AXj (l:List Ldp) (m:FuncId) (ds:List D) (f g:Ldp->Int) (hl:l.length<=40) (hc:∀ x∈l,Ct prog m (ldV x::ds.map .d) (vsp (f x) (g x)) []) (hf:∀ x∈l, -50000000000000<=f x/\f x<=50000000000000) (hg:∀ x∈l, -50000000000000<=g x/\g x<=50000000000000):
   Ct prog 215 [.d (Hl l), .d (.fn m ds)] (vsp (FB f l) (FB g l)) []:=by
 refine CB func215 c215 fun E hE=>?_
 simp [p215];refine Al (α:=Nat) (fun i=>⟨AO [(1, .d (.fn m ds)),(4, .lp 0 0),(5, .lp 1 0),(9, .d (Hl l)),(10,vi l.length),(11,vi i)],lk [(0,[vi 0,vi 0]),(1,[vi (FB f (l.take i)),vi (FB g (l.take i))])],2⟩) (fun i=>i<=l.length) (fun i=>l.length-i) 0 ?_ ?_ ?_
 . omega
 . refine AI.mk hE (lk [(0,0),(1,1048576)]) _ _ _ ?_ ?_ ?_ ?_ ?_<;>simp [FB]
 . intro i hi
   have hz:=@wz i (by omega);by_cases h:i<l.length
   . obtain ⟨x,hx⟩:=gE h
     have hI:(i:Int)<l.length:=by omega
     have c1:=hc x (List.mem_of_getElem? hx);have w1:=tq6 hx hl hf;have w2:=tq6 hx hl hg;simp [AXO,hI,hx,AA];refine CLa c1 ?_;simp [AA,w1,w2,hz];refine ⟨i+1,by omega,by omega,?_⟩;exact WK hE (lk [(0,0),(1,1)])
   . have hI:¬ (i:Int)<l.length:=by omega
     obtain rfl:i=l.length:=by omega
     simp [AXO,AA];apply RZ;simp [results215]
def beY (n:Int) (x:Ldp):Ldp:=⟨max (n-x.ah) 0,max (n-x.al) 0,x.wl,x.wh⟩
def shY (n:Int) (x:Ldp):Ldp:=⟨min (max (n-x.ah) 0) 1,min (max (n-x.al) 0) 1,x.wl,x.wh⟩
theorem x6 {a w:Int} (ha:0<=a/\a<=40000) (hw: -1073741824<=w/\w<=1073741824): -50000000000000<=a*w/\a*w<=50000000000000:=by
 have h1:a*w<=a*1073741824:=Int.mul_le_mul_of_nonneg_left hw.2 ha.1;have h2:a*(-1073741824)<=a*w:=Int.mul_le_mul_of_nonneg_left hw.1 ha.1;omega
structure AZ2 (x:Ldp):Prop where
 a:0<=x.al/\x.al<=40000
 b:0<=x.ah/\x.ah<=40000
 c: -1073741824<=x.wl/\x.wl<=1073741824
 d: -1073741824<=x.wh/\x.wh<=1073741824
theorem eS {n:Int} {x:Ldp} (h:Kl x=true) (hn: -20000<=n/\n<=20000):AZ2 (beY n x)/\AZ2 (shY n x):=by
 have:=cn h;exact ⟨⟨by unfold beY;simp only;omega,by unfold beY;simp only;omega,by unfold beY;simp only;omega,by unfold beY;simp only;omega⟩,⟨by unfold shY;simp only;omega,by unfold shY;simp only;omega,by unfold shY;simp only;omega,by unfold shY;simp only;omega⟩⟩
theorem AXk {x:Ldp} (h:AZ2 x):(IntKind.wrap .i64 (x.al*x.wl)=x.al*x.wl/\IntKind.wrap .i64 (x.ah*x.wl)=x.ah*x.wl)/\IntKind.wrap .i64 (x.al*x.wh)=x.al*x.wh/\IntKind.wrap .i64 (x.ah*x.wh)=x.ah*x.wh:=by
 have b1:=x6 h.a h.c;have b2:=x6 h.b h.c;have b3:=x6 h.a h.d;have b4:=x6 h.b h.d;exact ⟨⟨AD (by omega) (by omega),AD (by omega) (by omega)⟩,AD (by omega) (by omega),AD (by omega) (by omega)⟩
theorem x7 {x:Ldp} (h:AZ2 x):(-50000000000000<=mnP x/\mnP x<=50000000000000)/\ -50000000000000<=mxP x/\mxP x<=50000000000000:=by
 have b1:=x6 h.a h.c;have b2:=x6 h.b h.c;have b3:=x6 h.a h.d;have b4:=x6 h.b h.d;unfold mnP mxP;omega
theorem zZ (x:Ldp) (n:Int) (h:Kl x=true) (hn: -20000<=n/\n<=20000):Ct prog 217 [ldV x,vi n] (vsp (beY n x).al (beY n x).ah) []:=by
 have:=cn h;have w1:IntKind.wrap .i64 (n-x.ah)=n-x.ah:=AD (by omega) (by omega);have w2:IntKind.wrap .i64 (n-x.al)=n-x.al:=AD (by omega) (by omega);refine CB func217 c217 fun E hE=>?_
 simp [p217,AA,w1,w2];apply RZ;simp [results217,beY]
theorem zV (x:Ldp) (n:Int) (h:Kl x=true) (hn: -20000<=n/\n<=20000):Ct prog 216 [ldV x, .d (.ref [di n])] (vsp (mnP (shY n x)) (mxP (shY n x))) []:=by
 have c1:=zZ x n h hn;have c2:=AXi (shY n x) (AXk (eS h hn).2);unfold beY at c1
 generalize mnP (shY n x)=A at*
 generalize mxP (shY n x)=B at*
 unfold shY at c2;refine CB func216 c216 fun E hE=>?_
 simp [p216];refine CLa c1 ?_;simp [AA];refine CLa c2 ?_;simp [AA];apply RZ;simp [results216]
theorem rI (x:Ldp) (n:Int) (h:Kl x=true) (hn: -20000<=n/\n<=20000):Ct prog 219 [ldV x, .d (.ref [di n])] (vsp (mnP (beY n x)) (mxP (beY n x))) []:=by
 have c1:=zZ x n h hn;have c2:=AXi (beY n x) (AXk (eS h hn).1)
 generalize mnP (beY n x)=A at*
 generalize mxP (beY n x)=B at*
 unfold beY at c1 c2;refine CB func219 c219 fun E hE=>?_
 simp [p219,inC,Nat.testBit];refine CLa c1 ?_;simp [inC,Nat.testBit];refine CLa c2 ?_;simp [AA];apply RZ;simp [results219]
theorem ASl (l:List Ldp) (n:Int) (hc:F0 l=0) (hn: -20000<=n/\n<=20000):Ct prog 132 [.d (Hl l),vi n] (vsp (FB (fun x=>mnP (shY n x)) l) (FB (fun x=>mxP (shY n x)) l)) []:=by
 obtain ⟨hl,ho⟩:=Qd hc;have c:=AXj l 216 [.ref [di n]] (fun x=>mnP (shY n x)) (fun x=>mxP (shY n x)) hl (fun x hx=>zV x n (ho x hx) hn) (fun x hx=>(x7 (eS (ho x hx) hn).2).1) (fun x hx=>(x7 (eS (ho x hx) hn).2).2);refine CB func132 c132 fun E hE=>?_
 simp [p132];refine CLa c ?_;simp [AA];apply RZ;simp [results132]
theorem pY (l:List Ldp) (n:Int) (hc:F0 l=0) (hn: -20000<=n/\n<=20000):Ct prog 133 [.d (Hl l),vi n] (vsp (FB (fun x=>mnP (beY n x)) l) (FB (fun x=>mxP (beY n x)) l)) []:=by
 obtain ⟨hl,ho⟩:=Qd hc;have c:=AXj l 219 [.ref [di n]] (fun x=>mnP (beY n x)) (fun x=>mxP (beY n x)) hl (fun x hx=>rI x n (ho x hx) hn) (fun x hx=>(x7 (eS (ho x hx) hn).1).1) (fun x hx=>(x7 (eS (ho x hx) hn).1).2);refine CB func133 c133 fun E hE=>?_
 simp [p133];refine CLa c ?_;simp [AA];apply RZ;simp [results133]
abbrev sxL (n:Int):List D:=[di n]
theorem hsx:∀ x:Int,(sxL x).length=1:=fun _=>rfl
def shB (l:List Ldp) (x:Frm):Bool:=Ro (FB (fun y=>mnP (shY x.at' y)) l) (FB (fun y=>mxP (shY x.at' y)) l) x.sh
def beB (l:List Ldp) (x:Frm):Bool:=Ro (FB (fun y=>mnP (beY x.at' y)) l) (FB (fun y=>mxP (beY x.at' y)) l) x.be
def stN (l:List Ldp) (fs:List Frm):Nat->List Int
 | 0=>[]
 | i+1=>stN l fs i++(if (fs[i]?).all (fun x=>shB l x&&beB l x) then [] else [(i:Int)])
theorem AWi (l:List Ldp) (fs:List Frm):∀ i,(stN l fs i).length<=i
 | 0=>Nat.le_refl _
 | i+1=>by
   have:=AWi l fs i;rw [stN,List.length_append];split<;>simp<;>omega
def AYF (l:List Ldp) (fs:List Frm):V:=if F0 l≠0 then .tup [.d (.lit (.slice none 0 0)),vi (F0 l)] else if GV fs≠0 then .tup [.d (.lit (.slice none 0 0)),vi (GV fs)] else .tup [hdF 1 (stN l fs fs.length) 0,vi 0]
def AYG (l:List Ldp) (fs:List Frm):List (Nat × List V):=if F0 l≠0\/GV fs≠0 then [] else ouF sxL (stN l fs fs.length) 0
theorem AWE {fs:List Frm} (h:GV fs=0):fs.length<=12/\∀ x∈fs,(-20000<=x.at'/\x.at'<=20000)/\(0<=x.sh/\x.sh<=1000000000000)/\0<=x.be/\x.be<=10000000000000000:=by
 unfold GV at h;split at h
 . cases h
 . split at h
   . rename_i h1 h2
     refine ⟨by omega,fun x hx=>?_⟩;have:=List.all_eq_true.1 h2 x hx;simp [AV0,DF] at this;omega
   . cases h
theorem fn63 (l:List Ldp) (fs:List Frm) (hl:l.length<=1000000) (hf:fs.length<=1000000):Ct prog 63 [.d (Hl l), .d (AV1 fs)] (AYF l fs) (AYG l fs):=by
 have c1:=AEF l hl;have c2:=AP0 fs hf;unfold AYF AYG;by_cases h1:F0 l=0
 case neg=>
   rw [if_pos h1,if_pos (.inl h1)]
   generalize F0 l=e at*
   refine CB func63 c63 fun E hE=>?_
   simp [p63];refine CLa c1 ?_;simp [h1];apply RZ;simp [results63]
 by_cases h2:GV fs=0
 case neg=>
   rw [if_neg (by simp [h1]),if_pos h2,if_pos (.inr h2)];rw [h1] at c1
   generalize GV fs=e at*
   refine CB func63 c63 fun E hE=>?_
   simp [p63];refine CLa c1 ?_;simp;refine CLa c2 ?_;simp [h2];apply RZ;simp [results63]
 rw [if_neg (by simp [h1]),if_neg (by simp [h2]),if_neg (by simp [h1,h2])];rw [h1] at c1;rw [h2] at c2;obtain ⟨hn,ho⟩:=AWE h2
 have hri:LD (.tup [hdF 1 (stN l fs fs.length) 0,vi 0]) (ouF sxL (stN l fs fs.length) 0):=by
   cases h:stN l fs fs.length with
   | nil=>simp [LD,Aq,Au]
   | cons a r=>rw [Ak (by simp),AZ (by simp)];simp [LD]
 refine Ct.by gok eok mixed func63 c63 rfl (by simp [ntmps63]) (by simp) hri fun E hE=>?_
 simp [p63];refine CLa c1 ?_;simp;refine CLa c2 ?_;simp;refine Al (α:=Nat) (fun i=>⟨AO [(0, .d (Hl l)),(8,hdF 1 (stN l fs i) 0),(21, .d (AV1 fs)),(22,vi fs.length),(23,vi i)],lk (ouF sxL (stN l fs i) 0),1⟩) (fun i=>i<=fs.length) (fun i=>fs.length-i) 0 ?_ ?_ ?_
 . omega
 . rw [show stN l fs 0=[] from rfl,Aq,Au]
   exact WK hE (lk [])
 . intro i hi
   by_cases h:i<fs.length
   . obtain ⟨x,hx⟩:=gE h
     have hI:(i:Int)<fs.length:=by omega
     have hw:=@wz i (by omega);obtain ⟨o1,o2,o3⟩:=ho x (List.mem_of_getElem? hx);have s1:=ASl l x.at' h1 o1;have s2:=pY l x.at' h1 o1;have t1:=AEG (FB (fun y=>mnP (shY x.at' y)) l) (FB (fun y=>mxP (shY x.at' y)) l) x.sh o2.1 (by omega);have t2:=AEG (FB (fun y=>mnP (beY x.at' y)) l) (FB (fun y=>mxP (beY x.at' y)) l) x.be o3.1 (by omega);have hlen:=AWi l fs i;have hnx:stN l fs (i+1)=stN l fs i++(if shB l x&&beB l x then [] else [(i:Int)]):=by rw [stN,hx];rfl
     unfold shB beB at hnx
     generalize Ro (FB (fun y=>mnP (shY x.at' y)) l) (FB (fun y=>mxP (shY x.at' y)) l) x.sh=q1 at*
     generalize Ro (FB (fun y=>mnP (beY x.at' y)) l) (FB (fun y=>mxP (beY x.at' y)) l) x.be=q2 at*
     generalize FB (fun y=>mnP (shY x.at' y)) l=A1 at*
     generalize FB (fun y=>mxP (shY x.at' y)) l=A2 at*
     generalize FB (fun y=>mnP (beY x.at' y)) l=B1 at*
     generalize FB (fun y=>mxP (beY x.at' y)) l=B2 at*
     generalize stN l fs i=L at*
     by_cases h0:L=[]
     . subst h0
       rw [Aq,Au];cases q1
       . simp [ADD,hI,hx,AA,inC,Nat.testBit]
         repeat ((first | (refine CLt s1 ?_ ?_;focus (simp;done)) | (refine CLt t1 ?_ ?_;focus (simp;done)) | (refine CLt s2 ?_ ?_;focus (simp;done)) | (refine CLt t2 ?_ ?_;focus (simp;done)));simp [AA,AM,inC,Nat.testBit])
         refine ⟨i+1,by omega,by omega,?_⟩;rw [hnx,if_neg (by simp),List.nil_append,Ak (by simp),AZ (by simp)];refine AI.mk hE (lk [(0,29360129)]) _ _ _ ?_ ?_ ?_ ?_ ?_<;>simp [AH,hw]
       . cases q2
         . simp [ADD,hI,hx,AA,inC,Nat.testBit]
           repeat ((first | (refine CLt s1 ?_ ?_;focus (simp;done)) | (refine CLt t1 ?_ ?_;focus (simp;done)) | (refine CLt s2 ?_ ?_;focus (simp;done)) | (refine CLt t2 ?_ ?_;focus (simp;done)));simp [AA,AM,inC,Nat.testBit])
           refine ⟨i+1,by omega,by omega,?_⟩;rw [hnx,if_neg (by simp),List.nil_append,Ak (by simp),AZ (by simp)];refine AI.mk hE (lk [(0,29360129)]) _ _ _ ?_ ?_ ?_ ?_ ?_<;>simp [AH,hw]
         . simp [ADD,hI,hx,AA,inC,Nat.testBit]
           repeat ((first | (refine CLt s1 ?_ ?_;focus (simp;done)) | (refine CLt t1 ?_ ?_;focus (simp;done)) | (refine CLt s2 ?_ ?_;focus (simp;done)) | (refine CLt t2 ?_ ?_;focus (simp;done)));simp [inC,Nat.testBit])
           refine ⟨i+1,by omega,by omega,?_⟩;rw [hnx,if_pos (by simp),List.nil_append,Aq,Au];refine AI.mk hE (lk []) _ _ _ ?_ ?_ ?_ ?_ ?_<;>simp [hw]
     . rw [Ak h0,AZ h0]
       have g1:=Aw hsx L;have g2:List.take L.length (AH sxL L)=AH sxL L:=by simpa using E9 hsx L
       have m1:(L.length+1)*8<=140737488355328:=by omega
       have m2:L.length+1<=9223372036854775807:=by omega
       cases q1
       . simp [ADD,hI,hx,AA,inC,Nat.testBit]
         repeat ((first | (refine CLt s1 ?_ ?_;focus (simp;done)) | (refine CLt t1 ?_ ?_;focus (simp;done)) | (refine CLt s2 ?_ ?_;focus (simp;done)) | (refine CLt t2 ?_ ?_;focus (simp;done)));simp [AA,AM,inC,Nat.testBit,g1,g2,m1,m2])
         refine ⟨i+1,by omega,by omega,?_⟩;rw [hnx,if_neg (by simp),Ak (by simp),AZ (by simp),IV];refine AI.mk hE (lk [(0,29360129)]) _ _ _ ?_ ?_ ?_ ?_ ?_<;>simp [hw]
       . cases q2
         . simp [ADD,hI,hx,AA,inC,Nat.testBit]
           repeat ((first | (refine CLt s1 ?_ ?_;focus (simp;done)) | (refine CLt t1 ?_ ?_;focus (simp;done)) | (refine CLt s2 ?_ ?_;focus (simp;done)) | (refine CLt t2 ?_ ?_;focus (simp;done)));simp [AA,AM,inC,Nat.testBit,g1,g2,m1,m2])
           refine ⟨i+1,by omega,by omega,?_⟩;rw [hnx,if_neg (by simp),Ak (by simp),AZ (by simp),IV];refine AI.mk hE (lk [(0,29360129)]) _ _ _ ?_ ?_ ?_ ?_ ?_<;>simp [hw]
         . simp [ADD,hI,hx,AA,inC,Nat.testBit]
           repeat ((first | (refine CLt s1 ?_ ?_;focus (simp;done)) | (refine CLt t1 ?_ ?_;focus (simp;done)) | (refine CLt s2 ?_ ?_;focus (simp;done)) | (refine CLt t2 ?_ ?_;focus (simp;done)));simp [inC,Nat.testBit])
           refine ⟨i+1,by omega,by omega,?_⟩;rw [hnx,if_pos (by simp),List.append_nil,Ak h0,AZ h0];refine AI.mk hE (lk [(0,0)]) _ _ _ ?_ ?_ ?_ ?_ ?_<;>simp [hw]
   . have e:i=fs.length:=by omega
     subst e;by_cases h0:stN l fs fs.length=[]
     . rw [h0,Aq,Au]
       simp [ADD];apply RZ;simp [results63]
     . rw [Ak h0,AZ h0]
       simp [ADD];refine AB.by (lk [(0,0)]) ?_;simp [results63]
end Go.Proofs.Tryz
namespace Go.Log
structure R5 where
 a:By
 b:By
 c:By
 d:By
 e:By
def R5.l (r:R5):List By:=[r.a,r.b,r.c,r.d,r.e]
def fK:Nat->R5->By
 | 0,r=>r.a
 | 1,r=>r.b
 | 2,r=>r.c
 | 3,r=>r.d
 | _,r=>r.e
theorem fK_l {k:Nat} (h:k<5) (r:R5):r.l[k]?.getD []=fK k r:=by
 match k,h with
 | 0,_ | 1,_ | 2,_ | 3,_ | 4,_=>rfl
 | n+5,h=>omega
def wd (l:List R5) (k:Nat):Nat:=AaO (l.map R5.l) k
theorem sx:∀ (l:List Nat) (z m:Nat),z<=m->(∀ x∈l,x<=m)->l.foldl max z<=m
 | [],z,m,h,_=>h
 | a::l,z,m,h,hl=>by
   simp only [List.foldl_cons];exact sx l (max z a) m (by have:=hl a (by simp);omega) fun x hx=>hl x (by simp [hx])
theorem Ac2 {l:List R5} {m:Nat} {k:Nat} (hk:k<5) (h:∀ x∈l,(fK k x).length<=m):wd l k<=m:=by
 unfold wd AaO;refine sx _ 0 m (Nat.zero_le _) fun x hx=>?_
 rw [List.map_map] at hx;obtain ⟨r,hr,rfl⟩:=List.mem_map.1 hx;simp only [Function.comp];rw [fK_l hk];exact h r hr
def cel (l:List R5) (x:R5) (k:Nat):By:=[32,32]++blk (wd l (k+1)-(fK (k+1) x).length)++fK (k+1) x
structure OkR (l:List R5):Prop where
 n:l.length<=50
 a:∀ x∈l,0<x.a.length
 w:∀ x∈l,∀ k,(fK k x).length<=100
theorem OkR.wd {l:List R5} (h:OkR l) {k:Nat} (hk:k<5):wd l k<=100:=Ac2 hk fun x hx=>h.w x hx k
theorem AXD {l:List Ldp} (h:F0 l=0):l.length<=40/\∀ x∈l,Kl x=true:=by
 unfold F0 at h;split at h
 . cases h
 . split at h
   . rename_i h1 h2
     exact ⟨by omega,fun x hx=>List.all_eq_true.1 h2 x hx⟩
   . cases h
end Go.Log
namespace Go.Proofs.Tryz
open Go.Psl
open Go.Log
theorem AQQ (n lo hi:Int):Ct prog 197 [vi n,vi lo,vi hi] (vb (DF n lo hi)) []:=by
 by_cases h1:lo<=n
 . by_cases h2:n<=hi
   . refine CB func197 Aa7 fun E hE=>?_
     simp [p197,h1,h2];apply RZ;simp [results197,DF,h1,h2]
   . refine CB func197 Aa7 fun E hE=>?_
     simp [p197,h1,h2];apply RZ;simp [results197,DF,h1,h2]
 . refine CB func197 Aa7 fun E hE=>?_
   simp [p197,h1];apply RZ;simp [results197,DF,h1]
theorem ot (lo hi m:Int) (h0:0<=m) (h1:m<=1000000000000):Ct prog 223 [vsp lo hi,vi m] (vb (Ro lo hi m)) []:=by
 have w1:IntKind.wrap .i64 (-m)= -m:=AD (by omega) (by omega);by_cases a1: -m<=lo
 case neg=>
   refine CB func223 AZ8 fun E hE=>?_
   simp [p223,w1,a1];apply RZ;simp [results223,Ro,a1]
 by_cases a2:lo<=hi
 case neg=>
   refine CB func223 AZ8 fun E hE=>?_
   simp [p223,w1,a1,a2];apply RZ;simp [results223,Ro,a2]
 by_cases a3:hi<=m
 . refine CB func223 AZ8 fun E hE=>?_
   simp [p223,w1,a1,a2,a3];apply RZ;simp [results223,Ro,a1,a2,a3]
 . refine CB func223 AZ8 fun E hE=>?_
   simp [p223,w1,a1,a2,a3];apply RZ;simp [results223,Ro,a1,a2,a3]
theorem ix (x:Lim):Ct prog 195 [.agg [vi x.a,vi x.b,vi x.c]] (vb (Rf x)) []:=by
 have c1:=AQQ x.a (-1000) 1000;have c2:=AQQ x.b (-1000) 1000;have c3:=AQQ x.c (-1000000000000000000) 1000000000000000000;unfold Rf;cases h1:DF x.a (-1000) 1000 with
 | false=>
   rw [h1] at c1;refine CB func195 Aa6 fun E hE=>?_
   simp [p195];refine CLa c1 ?_;simp;apply RZ;simp [results195]
 | true=>
   rw [h1] at c1;cases h2:DF x.b (-1000) 1000 with
   | false=>
     rw [h2] at c2;refine CB func195 Aa6 fun E hE=>?_
     simp [p195];refine CLa c1 ?_;simp;refine CLa c2 ?_;simp;apply RZ;simp [results195]
   | true=>
     rw [h2] at c2;refine CB func195 Aa6 fun E hE=>?_
     simp [p195];refine CLa c1 ?_;simp;refine CLa c2 ?_;simp;refine CLa c3 ?_;simp;apply RZ;simp [results195]
theorem Bq (l:List Lim) (hl:l.length<=1000000):Ct prog 112 [.d (p0 l)] (vi (F7 l)) []:=by
 by_cases h0:12<l.length
 . have h0':(12:Int)<l.length:=by omega
   refine CB func112 ASd fun E hE=>?_
   simp [p112,h0'];apply RZ;simp [results112,F7,h0]
 have h0':¬ (12:Int)<l.length:=by omega
 refine CB func112 ASd fun E hE=>?_
 simp [p112,h0'];refine Al (α:=Nat) (fun i=>⟨AO [(0, .d (p0 l)),(3,vi i)],lk [],0⟩) (fun i=>i<=l.length/\∀ j,j<i->(l[j]?).all Rf=true) (fun i=>l.length-i) 0 ?_ ?_ ?_
 . exact ⟨by omega,fun j hj=>by omega⟩
 . exact WK hE (lk [])
 . rintro i ⟨hi,hg3⟩
   have hz:=@wz i (by omega);by_cases h:i<l.length
   . obtain ⟨x,hx⟩:=gE h
     have hI:(i:Int)<l.length:=by omega
     have c2:=ix x;by_cases h4:Rf x=true
     . rw [h4] at c2
       simp [sO,hI,hx];refine CLa c2 ?_;simp [hz];refine ⟨i+1,⟨by omega,fun j hj=>?_⟩,by omega,?_⟩
       . by_cases e:j=i
         . subst e;rw [hx];simp [h4]
         . exact hg3 j (by omega)
       . exact WK hE (lk [])
     . simp only [Bool.not_eq_true] at h4
       rw [h4] at c2;simp [sO,hI,hx];refine CLa c2 ?_;simp;apply RZ;simp [results112,F7,h0,U3 hx h4]
   . have hI:¬ (i:Int)<l.length:=by omega
     have h1:l.all Rf=true:=uh fun j hj=>hg3 j (by omega)
     simp [sO,hI];apply RZ;simp [results112,F7,h0,h1]
theorem AQS (l:List Ldp) (hl:l.length<=1000000):Ct prog 138 [.d (Hl l)] (vi (F0 l)) []:=by
 by_cases h0:40<l.length
 . have h0':(40:Int)<l.length:=by omega
   refine CB func138 uc fun E hE=>?_
   simp [p138,h0'];apply RZ;simp [results138,F0,h0]
 have h0':¬ (40:Int)<l.length:=by omega
 refine CB func138 uc fun E hE=>?_
 simp [p138,h0'];refine Al (α:=Nat) (fun i=>⟨AO [(0, .d (Hl l)),(3,vi i)],lk [],0⟩) (fun i=>i<=l.length/\∀ j,j<i->(l[j]?).all Kl=true) (fun i=>l.length-i) 0 ?_ ?_ ?_
 . exact ⟨by omega,fun j hj=>by omega⟩
 . exact WK hE (lk [])
 . rintro i ⟨hi,hg3⟩
   have hz:=@wz i (by omega);by_cases h:i<l.length
   . obtain ⟨x,hx⟩:=gE h
     have hI:(i:Int)<l.length:=by omega
     have c1:=ot x.al x.ah 20000 (by omega) (by omega);have c2:=ot x.wl x.wh 1073741824 (by omega) (by omega);cases s1:Ro x.al x.ah 20000 with
     | false=>
       have h4:Kl x=false:=by simp [Kl,s1]
       rw [s1] at c1;simp [sR,hI,hx];refine CLa c1 ?_;simp;apply RZ;simp [results138,F0,h0,U3 hx h4]
     | true=>
       rw [s1] at c1;cases s2:Ro x.wl x.wh 1073741824 with
       | false=>
         have h4:Kl x=false:=by simp [Kl,s2]
         rw [s2] at c2;simp [sR,hI,hx];refine CLa c1 ?_;simp [hx];refine CLa c2 ?_;simp;apply RZ;simp [results138,F0,h0,U3 hx h4]
       | true=>
         have h4:Kl x=true:=by simp [Kl,s1,s2]
         rw [s2] at c2;simp [sR,hI,hx];refine CLa c1 ?_;simp [hx];refine CLa c2 ?_;simp [hz];refine ⟨i+1,⟨by omega,fun j hj=>?_⟩,by omega,?_⟩
         . by_cases e:j=i
           . subst e;rw [hx];simp [h4]
           . exact hg3 j (by omega)
         . exact WK hE (lk [])
   . have hI:¬ (i:Int)<l.length:=by omega
     have h1:l.all Kl=true:=uh fun j hj=>hg3 j (by omega)
     simp [sR,hI];apply RZ;simp [results138,F0,h0,h1]
end Go.Proofs.Tryz
namespace Go.Log
end Go.Log
namespace Go.Proofs.Tryz
open Go.Psl
open Go.Log
abbrev Aav (x:Ldp):D:= .sl 2 [[di x.al,di x.wl],[di x.ah,di x.wl],[di x.al,di x.wh],[di x.ah,di x.wh]]
theorem AZ4 (x:Ldp):Ct prog 222 [ldV x] (.ls 0 0 4 2) [(0,[vi x.al,vi x.wl,vi x.ah,vi x.wl,vi x.al,vi x.wh,vi x.ah,vi x.wh])]:=by
 refine CB func222 c222 fun E hE=>?_
 simp [p222,AA,AM];refine AB.by (lk [(0,31457280)]) ?_;simp [results222]
theorem pR (x:Ldp):Ct prog 222 [ldV x] (.d (Aav x)) []:=by
 refine Cm.freeze (AZ4 x) ?_;exact ⟨rfl,rfl,fun e he=>by simp at he;rcases he with rfl | rfl | rfl | rfl<;>rfl,_,rfl,rfl⟩
end Go.Proofs.Tryz
namespace Go.Proofs.Tryz
open Go.Psl
open Go.Log
theorem AcB (n:Int):Ct prog 196 [vi n] (vb (DF n (-20000) 20000)) []:=by
 have c:=AQQ n (-20000) 20000;refine CB func196 c196 fun E hE=>?_
 simp [p196];refine CLa c ?_;simp;apply RZ;simp [results196]
theorem rK (l:List Frm) (hl:l.length<=1000000):Ct prog 113 [.d (AV1 l)] (vi (GV l)) []:=by
 by_cases h0:12<l.length
 . have h0':(12:Int)<l.length:=by omega
   refine CB func113 AcS fun E hE=>?_
   simp [p113,h0'];apply RZ;simp [results113,GV,h0]
 have h0':¬ (12:Int)<l.length:=by omega
 refine CB func113 AcS fun E hE=>?_
 simp [p113,h0'];refine Al (α:=Nat) (fun i=>⟨AO [(0, .d (AV1 l)),(3,vi i)],lk [],0⟩) (fun i=>i<=l.length/\∀ j,j<i->(l[j]?).all AV0=true) (fun i=>l.length-i) 0 ?_ ?_ ?_
 . exact ⟨by omega,fun j hj=>by omega⟩
 . exact WK hE (lk [])
 . rintro i ⟨hi,hg⟩
   by_cases h:i<l.length
   . obtain ⟨x,hx⟩:=gE h
     have hI:(i:Int)<l.length:=by omega
     have hw:=@wz i (by omega);have c1:=AcB x.at';have c2:=AQQ x.sh 0 1000000000000;have c3:=AQQ x.be 0 10000000000000000;have e:AV0 x=(DF x.at' (-20000) 20000&&DF x.sh 0 1000000000000&&DF x.be 0 10000000000000000):=rfl
     generalize DF x.at' (-20000) 20000=r1 at*
     generalize DF x.sh 0 1000000000000=r2 at*
     generalize DF x.be 0 10000000000000000=r3 at*
     cases r1
     . simp [APF,hI,hx]
       repeat ((first | (refine CLt c1 ?_ ?_;focus (simp;done)) | (refine CLt c2 ?_ ?_;focus (simp;done)) | (refine CLt c3 ?_ ?_;focus (simp;done)));simp)
       apply RZ;simp [results113,GV,h0,U3 hx e]
     cases r2
     . simp [APF,hI,hx]
       repeat ((first | (refine CLt c1 ?_ ?_;focus (simp;done)) | (refine CLt c2 ?_ ?_;focus (simp;done)) | (refine CLt c3 ?_ ?_;focus (simp;done)));simp [hx])
       apply RZ;simp [results113,GV,h0,U3 hx e]
     cases r3
     . simp [APF,hI,hx]
       repeat ((first | (refine CLt c1 ?_ ?_;focus (simp;done)) | (refine CLt c2 ?_ ?_;focus (simp;done)) | (refine CLt c3 ?_ ?_;focus (simp;done)));simp [hx])
       apply RZ;simp [results113,GV,h0,U3 hx e]
     simp [APF,hI,hx]
     repeat ((first | (refine CLt c1 ?_ ?_;focus (simp;done)) | (refine CLt c2 ?_ ?_;focus (simp;done)) | (refine CLt c3 ?_ ?_;focus (simp;done)));simp [hx,hw])
     refine ⟨i+1,⟨by omega,fun j hj=>?_⟩,by omega,?_⟩
     . by_cases q:j=i
       . subst q;rw [hx];simp [e]
       . exact hg j (by omega)
     . exact WK hE (lk [])
   . have h1:l.all AV0=true:=uh fun j hj=>hg j (by omega)
     obtain rfl:i=l.length:=by omega
     simp [APF];apply RZ;simp [results113,GV,h0,h1]
theorem AYz (x:Ldp) (h:(IntKind.wrap .i64 (x.al*x.wl)=x.al*x.wl/\IntKind.wrap .i64 (x.ah*x.wl)=x.ah*x.wl)/\IntKind.wrap .i64 (x.al*x.wh)=x.al*x.wh/\IntKind.wrap .i64 (x.ah*x.wh)=x.ah*x.wh):Ct prog 224 [vsp x.al x.ah,vsp x.wl x.wh] (vsp (mnP x) (mxP x)) []:=by
 obtain ⟨⟨w1,w3⟩,w2,w4⟩:=h;unfold mnP mxP
 generalize hA:x.al*x.wl=A at*
 generalize hB:x.al*x.wh=B at*
 generalize hC:x.ah*x.wl=C at*
 generalize hD:x.ah*x.wh=D at*
 refine CB func224 c224 fun E hE=>?_
 simp [p224,AA,AM,w1,w2,w3,w4,hA,hB,hC,hD,inC,Nat.testBit];have e1:min (min (min A B) C) D=min A (min B (min C D)):=by omega
 have e2:max (max (max A B) C) D=max A (max B (max C D)):=by omega
 have u2:IntKind.wrap .i64 2=2:=by decide
 have u3:IntKind.wrap .i64 3=3:=by decide
 have u4:IntKind.wrap .i64 4=4:=by decide
 refine Al (α:=Nat) (fun i=>⟨AO [(4, .lp 0 0),(5, .ls 1 0 4 1),(6, .lp 2 0),(7,vi i)],lk [(0,[vi 0,vi 0]),(1,[vi A,vi B,vi C,vi D]),(2,if i=1 then [vi A,vi A] else if i=2 then [vi (min A B),vi (max A B)] else if i=3 then [vi (min (min A B) C),vi (max (max A B) C)] else [vi (min (min (min A B) C) D),vi (max (max (max A B) C) D)])],3⟩) (fun i=>1<=i/\i<=4) (fun i=>4-i) 1 ?_ ?_ ?_
 . omega
 . exact WK hE (lk [(0,2097152),(1,24117248),(2,33554432)])
 . rintro i ⟨i1,i2⟩
   have hs:i=1\/i=2\/i=3\/i=4:=by omega
   rcases hs with rfl | rfl | rfl | rfl
   . simp [SI,AA,inC,Nat.testBit,u2]
     refine ⟨2,by omega,by omega,?_⟩;refine AI.mk hE (lk [(0,0),(1,1),(2,2)]) _ _ _ ?_ ?_ ?_ ?_ ?_<;>simp
   . simp [SI,AA,inC,Nat.testBit,u3]
     refine ⟨3,by omega,by omega,?_⟩;refine AI.mk hE (lk [(0,0),(1,1),(2,2)]) _ _ _ ?_ ?_ ?_ ?_ ?_<;>simp
   . simp [SI,AA,inC,Nat.testBit,u4]
     refine ⟨4,by omega,by omega,?_⟩;refine AI.mk hE (lk [(0,0),(1,1),(2,2)]) _ _ _ ?_ ?_ ?_ ?_ ?_<;>simp
   . simp [SI,AA]
     apply RZ;simp [results224]
theorem AWH {f:Ldp->Int} {l:List Ldp} {i:Nat} {x:Ldp} (hx:l[i]?= some x) (hl:l.length<=40) (hb:∀ x∈l, -50000000000000<=f x/\f x<=50000000000000):IntKind.wrap .i64 (FB f (l.take i)+f x)=FB f (l.take (i+1)):=tq6 hx hl hb
theorem yS (l:List Ldp) (n:Int) (hc:F0 l=0) (hn: -20000<=n/\n<=20000):Ct prog 140 [.d (Hl l),vi n] (vsp (FB (fun x=>mnP (beY n x)) l) (FB (fun x=>mxP (beY n x)) l)) []:=by
 obtain ⟨hl,ho⟩:=Qd hc;have b1:∀ x∈l, -50000000000000<=mnP (beY n x)/\mnP (beY n x)<=50000000000000:=fun x hx=>(x7 (eS (ho x hx) hn).1).1
 have b2:∀ x∈l, -50000000000000<=mxP (beY n x)/\mxP (beY n x)<=50000000000000:=fun x hx=>(x7 (eS (ho x hx) hn).1).2
 refine CB func140 c140 fun E hE=>?_
 simp [p140];refine Al (α:=Nat) (fun i=>⟨AO [(0, .d (Hl l)),(1,vi n),(4, .lp 0 0),(5, .lp 1 0),(6,vi i)],lk [(0,[vi 0,vi 0]),(1,[vi (FB (fun y=>mnP (beY n y)) (l.take i)),vi (FB (fun y=>mxP (beY n y)) (l.take i))])],2⟩) (fun i=>i<=l.length) (fun i=>l.length-i) 0 ?_ ?_ ?_
 . omega
 . refine AI.mk hE (lk [(0,0),(1,1048576)]) _ _ _ ?_ ?_ ?_ ?_ ?_<;>simp [FB]
 . intro i hi
   by_cases h:i<l.length
   case neg=>
     obtain rfl:i=l.length:=by omega
     rw [List.take_length];simp [AXM,AA];apply RZ;simp [results140]
   obtain ⟨x,hx⟩:=gE h;have hI:(i:Int)<l.length:=by omega
   have hw:=@wz i (by omega);have hok:=ho x (List.mem_of_getElem? hx);have hbd:=cn hok;have c:=AYz (beY n x) (AXk (eS hok hn).1);have v1:=AWH (f:=fun y=>mnP (beY n y)) hx hl b1;have v2:=AWH (f:=fun y=>mxP (beY n y)) hx hl b2
   generalize mnP (beY n x)=A at*
   generalize mxP (beY n x)=B at*
   have w1:IntKind.wrap .i64 (n-x.ah)=n-x.ah:=AD (by omega) (by omega);have w2:IntKind.wrap .i64 (n-x.al)=n-x.al:=AD (by omega) (by omega);unfold beY at c;have q1:max (n-x.ah) 0=max 0 (n-x.ah):=by omega
   have q2:max (n-x.al) 0=max 0 (n-x.al):=by omega
   rw [q1,q2] at c;simp [AXM,hI,hx,AA,inC,Nat.testBit,w1,w2];refine CLa c ?_;simp [AA,v1,v2,hw];refine ⟨i+1,by omega,by omega,?_⟩;refine AI.mk hE (lk [(0,0),(1,1)]) _ _ _ ?_ ?_ ?_ ?_ ?_<;>simp
theorem u9 (l:List Ldp) (n:Int) (hc:F0 l=0) (hn: -20000<=n/\n<=20000):Ct prog 139 [.d (Hl l),vi n] (vsp (FB (fun x=>mnP (shY n x)) l) (FB (fun x=>mxP (shY n x)) l)) []:=by
 obtain ⟨hl,ho⟩:=Qd hc;have b1:∀ x∈l, -50000000000000<=mnP (shY n x)/\mnP (shY n x)<=50000000000000:=fun x hx=>(x7 (eS (ho x hx) hn).2).1
 have b2:∀ x∈l, -50000000000000<=mxP (shY n x)/\mxP (shY n x)<=50000000000000:=fun x hx=>(x7 (eS (ho x hx) hn).2).2
 refine CB func139 c139 fun E hE=>?_
 simp [p139];refine Al (α:=Nat) (fun i=>⟨AO [(0, .d (Hl l)),(1,vi n),(4, .lp 0 0),(5, .lp 1 0),(6,vi i)],lk [(0,[vi 0,vi 0]),(1,[vi (FB (fun y=>mnP (shY n y)) (l.take i)),vi (FB (fun y=>mxP (shY n y)) (l.take i))])],2⟩) (fun i=>i<=l.length) (fun i=>l.length-i) 0 ?_ ?_ ?_
 . omega
 . refine AI.mk hE (lk [(0,0),(1,1048576)]) _ _ _ ?_ ?_ ?_ ?_ ?_<;>simp [FB]
 . intro i hi
   by_cases h:i<l.length
   case neg=>
     obtain rfl:i=l.length:=by omega
     rw [List.take_length];simp [Xl,AA];apply RZ;simp [results139]
   obtain ⟨x,hx⟩:=gE h;have hI:(i:Int)<l.length:=by omega
   have hw:=@wz i (by omega);have hok:=ho x (List.mem_of_getElem? hx);have hbd:=cn hok;have c:=AYz (shY n x) (AXk (eS hok hn).2);have v1:=AWH (f:=fun y=>mnP (shY n y)) hx hl b1;have v2:=AWH (f:=fun y=>mxP (shY n y)) hx hl b2
   generalize mnP (shY n x)=A at*
   generalize mxP (shY n x)=B at*
   unfold shY at c;by_cases g1:x.ah<n<;>by_cases g2:n<=x.al
   . omega
   . rw [show min (max (n-x.ah) 0) 1=1 by omega,show min (max (n-x.al) 0) 1=1 by omega] at c
     simp [Xl,hI,hx,AA,inC,Nat.testBit,g1,g2];refine CLa c ?_;simp [AA,v1,v2,hw];refine ⟨i+1,by omega,by omega,?_⟩;refine AI.mk hE (lk [(0,0),(1,1)]) _ _ _ ?_ ?_ ?_ ?_ ?_<;>simp
   . rw [show min (max (n-x.ah) 0) 1=0 by omega,show min (max (n-x.al) 0) 1=0 by omega] at c
     simp [Xl,hI,hx,AA,inC,Nat.testBit,g1,g2];refine CLa c ?_;simp [AA,v1,v2,hw];refine ⟨i+1,by omega,by omega,?_⟩;refine AI.mk hE (lk [(0,0),(1,1)]) _ _ _ ?_ ?_ ?_ ?_ ?_<;>simp
   . rw [show min (max (n-x.ah) 0) 1=0 by omega,show min (max (n-x.al) 0) 1=1 by omega] at c
     simp [Xl,hI,hx,AA,inC,Nat.testBit,g1,g2];refine CLa c ?_;simp [AA,v1,v2,hw];refine ⟨i+1,by omega,by omega,?_⟩;refine AI.mk hE (lk [(0,0),(1,1)]) _ _ _ ?_ ?_ ?_ ?_ ?_<;>simp
theorem AYu {n:Int} {YY:Int->Ldp->Ldp}:∀ (l:List Ldp),FB (fun y=>mnP (YY n y)) l<=FB (fun y=>mxP (YY n y)) l:=fun l=>by
 have key:∀ i,i<=l.length->FB (fun y=>mnP (YY n y)) (l.take i)<=FB (fun y=>mxP (YY n y)) (l.take i):=fun i=>by
   induction i with
   | zero=>intro _;simp [FB]
   | succ i ih=>
     intro hi;obtain ⟨x,hx⟩:∃ x,l[i]?= some x:=⟨_,List.getElem?_eq_getElem (by omega)⟩
     have:=ih (by omega);rw [hP hx,hP hx];have:mnP (YY n x)<=mxP (YY n x):=by unfold mnP mxP;omega
     omega
 have:=key l.length (Nat.le_refl _)
 rwa [List.take_length] at this
theorem fn67 (l:List Ldp) (fs:List Frm) (hl:l.length<=1000000) (hf:fs.length<=1000000):Ct prog 67 [.d (Hl l), .d (AV1 fs)] (AYF l fs) (AYG l fs):=by
 have c1:=AQS l hl;have c2:=rK fs hf;unfold AYF AYG;by_cases h1:F0 l=0
 case neg=>
   rw [if_pos h1,if_pos (.inl h1)]
   generalize F0 l=e at*
   refine CB func67 c67 fun E hE=>?_
   simp [p67];refine CLa c1 ?_;simp [h1];apply RZ;simp [results67]
 by_cases h2:GV fs=0
 case neg=>
   rw [if_neg (by simp [h1]),if_pos h2,if_pos (.inr h2)];rw [h1] at c1
   generalize GV fs=e at*
   refine CB func67 c67 fun E hE=>?_
   simp [p67];refine CLa c1 ?_;simp;refine CLa c2 ?_;simp [h2];apply RZ;simp [results67]
 rw [if_neg (by simp [h1]),if_neg (by simp [h2]),if_neg (by simp [h1,h2])];rw [h1] at c1;rw [h2] at c2;obtain ⟨hn,ho⟩:=AWE h2
 have hri:LD (.tup [hdF 1 (stN l fs fs.length) 0,vi 0]) (ouF sxL (stN l fs fs.length) 0):=by
   cases h:stN l fs fs.length with
   | nil=>simp [LD,Aq,Au]
   | cons a r=>rw [Ak (by simp),AZ (by simp)];simp [LD]
 refine Ct.by gok eok mixed func67 c67 rfl (by simp [ntmps67]) (by simp) hri fun E hE=>?_
 simp [p67];refine CLa c1 ?_;simp;refine CLa c2 ?_;simp;refine Al (α:=Nat) (fun i=>⟨AO [(0, .d (Hl l)),(8,hdF 1 (stN l fs i) 0),(1, .d (AV1 fs)),(9,vi i)],lk (ouF sxL (stN l fs i) 0),1⟩) (fun i=>i<=fs.length) (fun i=>fs.length-i) 0 ?_ ?_ ?_
 . omega
 . rw [show stN l fs 0=[] from rfl,Aq,Au]
   exact WK hE (lk [])
 . intro i hi
   by_cases h:i<fs.length
   . obtain ⟨x,hx⟩:=gE h
     have hI:(i:Int)<fs.length:=by omega
     have hw:=@wz i (by omega);obtain ⟨o1,o2,o3⟩:=ho x (List.mem_of_getElem? hx);have s1:=u9 l x.at' h1 o1;have s2:=yS l x.at' h1 o1;have n1:IntKind.wrap .i64 (-x.sh)= -x.sh:=AD (by omega) (by omega);have n2:IntKind.wrap .i64 (-x.be)= -x.be:=AD (by omega) (by omega);have l1:=AYu (n:=x.at') (YY:=shY) l;have l2:=AYu (n:=x.at') (YY:=beY) l;have hlen:=AWi l fs i;have hnx:stN l fs (i+1)=stN l fs i++(if shB l x&&beB l x then [] else [(i:Int)]):=by rw [stN,hx];rfl
     unfold shB beB at hnx
     generalize FB (fun y=>mnP (shY x.at' y)) l=A1 at*
     generalize FB (fun y=>mxP (shY x.at' y)) l=A2 at*
     generalize FB (fun y=>mnP (beY x.at' y)) l=B1 at*
     generalize FB (fun y=>mxP (beY x.at' y)) l=B2 at*
     generalize stN l fs i=L at*
     have e1:Ro A1 A2 x.sh=(!decide (x.sh<A2)&&!decide (A1 < -x.sh)):=by
       rw [Bool.eq_iff_iff];simp [Ro];omega
     have e2:Ro B1 B2 x.be=(!decide (x.be<B2)&&!decide (B1 < -x.be)):=by
       rw [Bool.eq_iff_iff];simp [Ro];omega
     rw [e1,e2] at hnx;by_cases h0:L=[]
     . subst h0
       rw [Aq,Au];by_cases p1:x.sh<A2
       . simp [cg,hI,hx,AA,inC,Nat.testBit]
         refine CLa s1 ?_;simp [inC,Nat.testBit];refine CLa s2 ?_;simp [AA,AM,p1];refine ⟨i+1,by omega,by omega,?_⟩;rw [hnx,if_neg (by simp [p1]),List.nil_append,Ak (by simp),AZ (by simp)];refine AI.mk hE (lk [(0,55574529)]) _ _ _ ?_ ?_ ?_ ?_ ?_<;>simp [AH,hw]
       by_cases p2:A1 < -x.sh
       . simp [cg,hI,hx,AA,inC,Nat.testBit]
         refine CLa s1 ?_;simp [inC,Nat.testBit];refine CLa s2 ?_;simp [AA,AM,n1,p1,p2];refine ⟨i+1,by omega,by omega,?_⟩;rw [hnx,if_neg (by simp [p1,p2]),List.nil_append,Ak (by simp),AZ (by simp)];refine AI.mk hE (lk [(0,55574529)]) _ _ _ ?_ ?_ ?_ ?_ ?_<;>simp [AH,hw]
       by_cases p3:x.be<B2
       . simp [cg,hI,hx,AA,inC,Nat.testBit]
         refine CLa s1 ?_;simp [inC,Nat.testBit];refine CLa s2 ?_;simp [AA,AM,n1,p1,p2,p3];refine ⟨i+1,by omega,by omega,?_⟩;rw [hnx,if_neg (by simp [p1,p2,p3]),List.nil_append,Ak (by simp),AZ (by simp)];refine AI.mk hE (lk [(0,55574529)]) _ _ _ ?_ ?_ ?_ ?_ ?_<;>simp [AH,hw]
       by_cases p4:B1 < -x.be
       . simp [cg,hI,hx,AA,inC,Nat.testBit]
         refine CLa s1 ?_;simp [inC,Nat.testBit];refine CLa s2 ?_;simp [AA,AM,n1,n2,p1,p2,p3,p4];refine ⟨i+1,by omega,by omega,?_⟩;rw [hnx,if_neg (by simp [p1,p2,p3,p4]),List.nil_append,Ak (by simp),AZ (by simp)];refine AI.mk hE (lk [(0,55574529)]) _ _ _ ?_ ?_ ?_ ?_ ?_<;>simp [AH,hw]
       simp [cg,hI,hx,AA,inC,Nat.testBit];refine CLa s1 ?_;simp [inC,Nat.testBit];refine CLa s2 ?_;simp [AA,n1,n2,p1,p2,p3,p4];refine ⟨i+1,by omega,by omega,?_⟩;rw [hnx,if_pos (by simp [p1,p2,p3,p4]),List.nil_append,Aq,Au];refine AI.mk hE (lk []) _ _ _ ?_ ?_ ?_ ?_ ?_<;>simp [hw]
     . rw [Ak h0,AZ h0]
       have g1:=Aw hsx L;have g2:List.take L.length (AH sxL L)=AH sxL L:=by simpa using E9 hsx L
       have m1:(L.length+1)*8<=140737488355328:=by omega
       have m2:L.length+1<=9223372036854775807:=by omega
       by_cases p1:x.sh<A2
       . simp [cg,hI,hx,AA,inC,Nat.testBit]
         refine CLa s1 ?_;simp [inC,Nat.testBit];refine CLa s2 ?_;simp [AA,AM,p1,g1,g2,m1,m2];refine ⟨i+1,by omega,by omega,?_⟩;rw [hnx,if_neg (by simp [p1]),Ak (by simp),AZ (by simp),IV];refine AI.mk hE (lk [(0,55574529)]) _ _ _ ?_ ?_ ?_ ?_ ?_<;>simp [hw]
       by_cases p2:A1 < -x.sh
       . simp [cg,hI,hx,AA,inC,Nat.testBit]
         refine CLa s1 ?_;simp [inC,Nat.testBit];refine CLa s2 ?_;simp [AA,AM,n1,p1,p2,g1,g2,m1,m2];refine ⟨i+1,by omega,by omega,?_⟩;rw [hnx,if_neg (by simp [p1,p2]),Ak (by simp),AZ (by simp),IV];refine AI.mk hE (lk [(0,55574529)]) _ _ _ ?_ ?_ ?_ ?_ ?_<;>simp [hw]
       by_cases p3:x.be<B2
       . simp [cg,hI,hx,AA,inC,Nat.testBit]
         refine CLa s1 ?_;simp [inC,Nat.testBit];refine CLa s2 ?_;simp [AA,AM,n1,p1,p2,p3,g1,g2,m1,m2];refine ⟨i+1,by omega,by omega,?_⟩;rw [hnx,if_neg (by simp [p1,p2,p3]),Ak (by simp),AZ (by simp),IV];refine AI.mk hE (lk [(0,55574529)]) _ _ _ ?_ ?_ ?_ ?_ ?_<;>simp [hw]
       by_cases p4:B1 < -x.be
       . simp [cg,hI,hx,AA,inC,Nat.testBit]
         refine CLa s1 ?_;simp [inC,Nat.testBit];refine CLa s2 ?_;simp [AA,AM,n1,n2,p1,p2,p3,p4,g1,g2,m1,m2];refine ⟨i+1,by omega,by omega,?_⟩;rw [hnx,if_neg (by simp [p1,p2,p3,p4]),Ak (by simp),AZ (by simp),IV];refine AI.mk hE (lk [(0,55574529)]) _ _ _ ?_ ?_ ?_ ?_ ?_<;>simp [hw]
       simp [cg,hI,hx,AA,inC,Nat.testBit];refine CLa s1 ?_;simp [inC,Nat.testBit];refine CLa s2 ?_;simp [AA,n1,n2,p1,p2,p3,p4];refine ⟨i+1,by omega,by omega,?_⟩;rw [hnx,if_pos (by simp [p1,p2,p3,p4]),List.append_nil,Ak h0,AZ h0];refine AI.mk hE (lk [(0,0)]) _ _ _ ?_ ?_ ?_ ?_ ?_<;>simp [hw]
   . have e:i=fs.length:=by omega
     subst e;by_cases h0:stN l fs fs.length=[]
     . rw [h0,Aq,Au]
       simp [cg];apply RZ;simp [results67]
     . rw [Ak h0,AZ h0]
       simp [cg];refine AB.by (lk [(0,0)]) ?_;simp [results67]
theorem pP (n lo hi:Int):Ct prog 96 [vi n,vi lo,vi hi] (vb (DF n lo hi)) []:=by
 by_cases h1:lo<=n<;>by_cases h2:n<=hi
 all_goals
   refine CB func96 c96 fun E hE=>?_
   simp [p96,h1,h2];apply RZ;simp [results96,DF,h1,h2]
theorem fn99 (n:Int):Ct prog 99 [vi n] (vb (DF n (-20000) 20000)) []:=by
 have c:=pP n (-20000) 20000;refine CB func99 c99 fun E hE=>?_
 simp [p99];refine CLa c ?_;simp;apply RZ;simp [results99]
theorem TI (n lo hi:Int):Ct prog 115 [vi n,vi lo,vi hi] (vb (DF n lo hi)) []:=by
 by_cases h1:lo<=n<;>by_cases h2:n<=hi
 all_goals
   refine CB func115 c115 fun E hE=>?_
   simp [p115,h1,h2];apply RZ;simp [results115,DF,h1,h2]
theorem pD (n:Int):Ct prog 114 [vi n] (vb (DF n (-20000) 20000)) []:=by
 have c:=TI n (-20000) 20000;refine CB func114 c114 fun E hE=>?_
 simp [p114];refine CLa c ?_;simp;apply RZ;simp [results114]
theorem ZM (n:Int):Ct prog 51 [vi n] (vsp n n) []:=by
 refine CB func51 c51 fun E hE=>?_
 simp [p51,AA];apply RZ;simp [results51]
theorem AB4 (at' w:Int):Ct prog 58 [vi at',vi w] (ldV ⟨at',at',w,w⟩) []:=by
 refine CB func58 c58 fun E hE=>?_
 simp [p58,AA];apply RZ;simp [results58]
theorem ALU (at' a b:Int):Ct prog 57 [vi at',vsp a b] (ldV ⟨at',at',a,b⟩) []:=by
 refine CB func57 c57 fun E hE=>?_
 simp [p57,AA];apply RZ;simp [results57]
open Go.Air
open Go.Log (Ldp Lim Etr By)
structure Cab where
 at':Int
 st:Int
 pe:Int
structure Lin where
 nm:By
 sh:Shp
 sk:Sky
 rg:Rig
 po:Prt
 be:Bth
 wa:Int
 wb:Int
 wc:Int
 wd:Int
 ce:List Int
 da:Int
 fa:Int
 ta:Int
 ba:Int
 cb:List Cab
 pe:Int
 gr:Int
 fu:Int
 wr:Int
 lm:List Lim
 fr:List Frm
 re:Int
 to:Int
 ti:Int
 lg:List Etr
abbrev AZ0 (x:Cab):List D:=[di x.at',di x.st,di x.pe]
abbrev AXh (l:List Cab):D:= .sl 3 (l.map AZ0)
abbrev TR (l:Lin):List V:=[vS l.nm,
 vi l.sh.xl,vi l.sh.xh,vi l.sh.yl,vi l.sh.yh,vi l.sh.hl,vi l.sh.hh,vi l.sh.fl,vi l.sh.fh,vi l.sh.wl,vi l.sh.wh,vi l.sh.bl,vi l.sh.bh,vi l.sh.dry,vi l.sh.bal,vi l.sh.drp, .d (AX l.sh.gas.cs),vi l.sh.gas.bt,vi l.sh.gas.ih,vi l.sh.gas.ia,vi l.sh.gas.vh,vi l.sh.gas.va,vi l.sh.gas.lh,vi l.sh.gas.la,vi l.sh.gas.ph,vi l.sh.gas.pa,
 .d (BF l.sk.s), .d (cT l.sk.w),
 .d (An l.rg.reg),vi l.rg.gl,vi l.rg.gh,vi l.rg.tank,vi l.rg.rsv,vi l.rg.lo,vi l.rg.hi,
 .d (An l.po.ax),vi l.po.pe,vi l.po.mo, .d (An l.po.pu),vi l.po.cr,
 .d (dub l.be.sh),vi l.be.ax,vi l.be.he,vb l.be.wi,vb l.be.op,
 vi l.wa,vi l.wb,vi l.wc,vi l.wd,
 .d (Qw l.ce),vi l.da,vi l.fa,vi l.ta,vi l.ba, .d (AXh l.cb),vi l.pe,vi l.gr,vi l.fu,vi l.wr, .d (p0 l.lm), .d (AV1 l.fr),vi l.re,vi l.to,vi l.ti, .d (U6 l.lg)]
abbrev Re (l:Lin):V:= .agg (TR l)
theorem fn44 (l:Lin):Ct prog 44 [Re l] (AVh ⟨l.nm,l.lg⟩) []:=by
 refine CB func44 c44 fun E hE=>?_
 simp [p44,AA];apply RZ;simp [results44]
theorem ALn (l:Lin):Ct prog 17 [Re l] (AVh ⟨l.nm,l.lg⟩) []:=by
 refine CB func17 c17 fun E hE=>?_
 simp [p17,AA];apply RZ;simp [results17]
end Go.Proofs.Tryz
namespace Go.Proofs.YtmaoncnifomnkaaGreatDoor
open Go.Joins Go.ChangeShapes Go.WideShapes Go.ChangeAt Go.RowKit Go.Psl
open Go.Log (Etr Lim By Lg)
theorem AWI {n:Nat} {ds:List D} (h:Sh' Tryz.prog (n+1) 9 ds):∃ l:By,ds=[Tryz.dS l]:=by
 simp only [Sh',Tryz.underlying9] at h;obtain ⟨s,h,_⟩:=h;exact ⟨s.data.toList,by rw [h,<-AaD s,AX8]⟩
theorem Aak:Tryz.prog.cellsOf 3=1:=by kernel_rfl
theorem AXY {n:Nat} {ds:List D} (h:Sh' Tryz.prog (n+2) 46 ds):∃ t:List (Int),ds=[.sl 1 (t.map Tryz.Yj)]:=by
 rw [Sh',Tryz.underlying46] at h;obtain ⟨es,rfl,_,h⟩:=h;obtain ⟨t,rfl⟩:=all_map (f:=Tryz.Yj) fun x hx=>BM (h x hx)
 exact ⟨t,by rw [Aak]⟩
theorem AYV {n:Nat} {ds:List D} (h:Sh' Tryz.prog (n+3) 97 ds):∃ k:Etr,ds=Tryz.Qb k:=by
 rw [Sh',Tryz.underlying97] at h;obtain ⟨a,r,rfl,h1,b,r2,rfl,h2,c,r3,rfl,h3,d,r4,rfl,h4,rfl⟩:=h;obtain ⟨i1,rfl⟩:=BM h1;obtain ⟨i2,rfl⟩:=AWI h2;obtain ⟨i3,rfl⟩:=AXY h3;obtain ⟨i4,rfl⟩:=AWI h4;exact ⟨⟨i1,i2,i3,i4⟩,rfl⟩
theorem AZe:Tryz.prog.cellsOf 97=4:=by kernel_rfl
theorem AXu {n:Nat} {ds:List D} (h:Sh' Tryz.prog (n+4) 50 ds):∃ t:List (Etr),ds=[.sl 4 (t.map Tryz.Qb)]:=by
 rw [Sh',Tryz.underlying50] at h;obtain ⟨es,rfl,_,h⟩:=h;obtain ⟨t,rfl⟩:=all_map (f:=Tryz.Qb) fun x hx=>AYV (h x hx)
 exact ⟨t,by rw [AZe]⟩
theorem AXZ {n:Nat} {ds:List D} (h:Sh' Tryz.prog (n+1) 4 ds):∃ b:Bool,ds=[.lit (.bool b)]:=by
 simp only [Sh',Tryz.underlying4] at h;exact h
theorem Abo {n:Nat} {ds:List D} (h:Sh' Tryz.prog (n+1) 5 ds):∃ i:Int,ds=[.lit (.int .u8 i)]/\0<=i/\i<256:=by
 simp only [Sh',Tryz.underlying5] at h;obtain ⟨i,h,w⟩:=h;simp [Lit.wf,IntKind.min,IntKind.max,IntKind.signed,IntKind.bits] at w;exact ⟨i,h,by omega⟩
theorem AZf {n:Nat} {ds:List D} (h:Sh' Tryz.prog (n+2) 95 ds):∃ k:Int × Int,ds=[Tryz.di k.1,Tryz.di k.2]:=by
 rw [Sh',Tryz.underlying95] at h;obtain ⟨a,r,rfl,h1,b,r2,rfl,h2,rfl⟩:=h;obtain ⟨i,rfl⟩:=BM h1;obtain ⟨j,rfl⟩:=BM h2;exact ⟨(i,j),rfl⟩
theorem AZg:Tryz.prog.cellsOf 95=2:=by kernel_rfl
theorem AYW {n:Nat} {ds:List D} (h:Sh' Tryz.prog (n+3) 38 ds):∃ t:List (Int × Int),ds=[.sl 2 (t.map (fun k:Int × Int=>[Tryz.di k.1,Tryz.di k.2]))]:=by
 rw [Sh',Tryz.underlying38] at h;obtain ⟨es,rfl,_,h⟩:=h;obtain ⟨t,rfl⟩:=all_map (f:=(fun k:Int × Int=>[Tryz.di k.1,Tryz.di k.2])) fun x hx=>AZf (h x hx)
 exact ⟨t,by rw [AZg]⟩
theorem AZh:Tryz.prog.cellsOf 23=2:=by kernel_rfl
theorem AYX {n:Nat} {ds:List D} (h:Sh' Tryz.prog (n+3) 39 ds):∃ t:List (Int × Int),ds=[.sl 2 (t.map (fun k:Int × Int=>[Tryz.di k.1,Tryz.di k.2]))]:=by
 rw [Sh',Tryz.underlying39] at h;obtain ⟨es,rfl,_,h⟩:=h;obtain ⟨t,rfl⟩:=all_map (f:=(fun k:Int × Int=>[Tryz.di k.1,Tryz.di k.2])) fun x hx=>CD (h x hx)
 exact ⟨t,by rw [AZh]⟩
theorem AYY {n:Nat} {ds:List D} (h:Sh' Tryz.prog (n+2) 117 ds):∃ k:Tryz.Cab,ds=Tryz.AZ0 k:=by
 rw [Sh',Tryz.underlying117] at h;obtain ⟨a,r,rfl,h1,b,r2,rfl,h2,c,r3,rfl,h3,rfl⟩:=h;obtain ⟨i,rfl⟩:=BM h1;obtain ⟨j,rfl⟩:=BM h2;obtain ⟨k,rfl⟩:=BM h3;exact ⟨⟨i,j,k⟩,rfl⟩
theorem AYZ:Tryz.prog.cellsOf 117=3:=by kernel_rfl
theorem AXv {n:Nat} {ds:List D} (h:Sh' Tryz.prog (n+3) 47 ds):∃ t:List (Tryz.Cab),ds=[.sl 3 (t.map Tryz.AZ0)]:=by
 rw [Sh',Tryz.underlying47] at h;obtain ⟨es,rfl,_,h⟩:=h;obtain ⟨t,rfl⟩:=all_map (f:=Tryz.AZ0) fun x hx=>AYY (h x hx)
 exact ⟨t,by rw [AYZ]⟩
theorem AYa {n:Nat} {ds:List D} (h:Sh' Tryz.prog (n+2) 149 ds):∃ k:Tryz.Frm,ds=Tryz.frL k:=by
 rw [Sh',Tryz.underlying149] at h;obtain ⟨a,r,rfl,h1,b,r2,rfl,h2,c,r3,rfl,h3,rfl⟩:=h;obtain ⟨i,rfl⟩:=BM h1;obtain ⟨j,rfl⟩:=BM h2;obtain ⟨k,rfl⟩:=BM h3;exact ⟨⟨i,j,k⟩,rfl⟩
theorem AO7:Tryz.prog.cellsOf 149=3:=by kernel_rfl
theorem AXw {n:Nat} {ds:List D} (h:Sh' Tryz.prog (n+3) 49 ds):∃ t:List (Tryz.Frm),ds=[.sl 3 (t.map Tryz.frL)]:=by
 rw [Sh',Tryz.underlying49] at h;obtain ⟨es,rfl,_,h⟩:=h;obtain ⟨t,rfl⟩:=all_map (f:=Tryz.frL) fun x hx=>AYa (h x hx)
 exact ⟨t,by rw [AO7]⟩
theorem AYb {n:Nat} {ds:List D} (h:Sh' Tryz.prog (n+2) 147 ds):∃ k:Lim,ds=(fun x:Lim=>[Tryz.di x.a,Tryz.di x.b,Tryz.di x.c]) k:=by
 rw [Sh',Tryz.underlying147] at h;obtain ⟨a,r,rfl,h1,b,r2,rfl,h2,c,r3,rfl,h3,rfl⟩:=h;obtain ⟨i,rfl⟩:=BM h1;obtain ⟨j,rfl⟩:=BM h2;obtain ⟨k,rfl⟩:=BM h3;exact ⟨⟨i,j,k⟩,rfl⟩
theorem AYc:Tryz.prog.cellsOf 147=3:=by kernel_rfl
theorem AXx {n:Nat} {ds:List D} (h:Sh' Tryz.prog (n+3) 48 ds):∃ t:List (Lim),ds=[.sl 3 (t.map (fun x:Lim=>[Tryz.di x.a,Tryz.di x.b,Tryz.di x.c]))]:=by
 rw [Sh',Tryz.underlying48] at h;obtain ⟨es,rfl,_,h⟩:=h;obtain ⟨t,rfl⟩:=all_map (f:=(fun x:Lim=>[Tryz.di x.a,Tryz.di x.b,Tryz.di x.c])) fun x hx=>AYb (h x hx)
 exact ⟨t,by rw [AYc]⟩
theorem AZi {n:Nat} {ds:List D} (h:Sh' Tryz.prog (n+4) 41 ds):∃ p:Tryz.Prt,ds=[Tryz.An p.ax,Tryz.di p.pe,Tryz.di p.mo,Tryz.An p.pu,Tryz.di p.cr]:=by
 rw [Sh',Tryz.underlying41] at h;obtain ⟨a1,r1,rfl,h1,a2,r2,rfl,h2,a3,r3,rfl,h3,a4,r4,rfl,h4,a5,r5,rfl,h5,rfl⟩:=h;obtain ⟨i1,rfl⟩:=AYW h1;obtain ⟨i2,rfl⟩:=BM h2;obtain ⟨i3,rfl⟩:=BM h3;obtain ⟨i4,rfl⟩:=AYX h4;obtain ⟨i5,rfl⟩:=BM h5;exact ⟨⟨i1,i2,i3,i4,i5⟩,rfl⟩
theorem AYd {n:Nat} {ds:List D} (h:Sh' Tryz.prog (n+2) 43 ds):∃ b:Tryz.Bth,ds=[Tryz.dub b.sh,Tryz.di b.ax,Tryz.di b.he,Tryz.dbl b.wi,Tryz.dbl b.op]/\0<=b.sh/\b.sh<256:=by
 rw [Sh',Tryz.underlying43] at h;obtain ⟨a1,r1,rfl,h1,a2,r2,rfl,h2,a3,r3,rfl,h3,a4,r4,rfl,h4,a5,r5,rfl,h5,rfl⟩:=h;obtain ⟨i1,rfl,w⟩:=Abo h1;obtain ⟨i2,rfl⟩:=BM h2;obtain ⟨i3,rfl⟩:=BM h3;obtain ⟨i4,rfl⟩:=AXZ h4;obtain ⟨i5,rfl⟩:=AXZ h5;exact ⟨⟨i1,i2,i3,i4,i5⟩,rfl,w⟩
theorem AZj {n:Nat} {ds:List D} (h:Sh' Tryz.prog (n+7) 52 ds):∃ l:Tryz.Lin,ds.map V.d=Tryz.TR l/\0<=l.be.sh/\l.be.sh<256:=by
 rw [Sh',Tryz.underlying52] at h;obtain ⟨a1,r1,rfl,h1,a2,r2,rfl,h2,a3,r3,rfl,h3,a4,r4,rfl,h4,a5,r5,rfl,h5,a6,r6,rfl,h6,a7,r7,rfl,h7,a8,r8,rfl,h8,a9,r9,rfl,h9,b0,s0,rfl,k0,b1,s1,rfl,k1,b2,s2,rfl,k2,b3,s3,rfl,k3,b4,s4,rfl,k4,b5,s5,rfl,k5,b6,s6,rfl,k6,b7,s7,rfl,k7,b8,s8,rfl,k8,b9,s9,rfl,k9,c0,t0,rfl,l0,c1,t1,rfl,l1,c2,t2,rfl,l2,c3,t3,rfl,l3,rfl⟩:=h;obtain ⟨i1,rfl⟩:=AWI h1;obtain ⟨i2,rfl⟩:=fP h2;obtain ⟨i3,rfl⟩:=kg h3;obtain ⟨i4,rfl⟩:=kr h4;obtain ⟨i5,rfl⟩:=AZi h5;obtain ⟨i6,rfl,w⟩:=AYd h6;obtain ⟨i7,rfl⟩:=TJ h7;obtain ⟨i8,rfl⟩:=AXY h8;obtain ⟨i9,rfl⟩:=BM h9;obtain ⟨j0,rfl⟩:=BM k0;obtain ⟨j1,rfl⟩:=BM k1;obtain ⟨j2,rfl⟩:=BM k2;obtain ⟨j3,rfl⟩:=AXv k3;obtain ⟨j4,rfl⟩:=BM k4;obtain ⟨j5,rfl⟩:=BM k5;obtain ⟨j6,rfl⟩:=BM k6;obtain ⟨j7,rfl⟩:=BM k7;obtain ⟨j8,rfl⟩:=AXx k8;obtain ⟨j9,rfl⟩:=AXw k9;obtain ⟨n0,rfl⟩:=BM l0;obtain ⟨n1,rfl⟩:=BM l1;obtain ⟨n2,rfl⟩:=BM l2;obtain ⟨n3,rfl⟩:=AXu l3;exact ⟨⟨i1,i2,i3,i4,i5,i6,i7.1.1,i7.1.2,i7.2.1,i7.2.2,i8,i9,j0,j1,j2,j3,j4,j5,j6,j7,j8,j9,n0,n1,n2,n3⟩,rfl,w⟩
theorem AYe {H:Type} {enc:TypeId × Value->H} {W:World} {base:Nat} {v:Value} {d:DataW H} {p:List MemPlace} (hval:Value.okWide Tryz.prog W .any base 52 v) (h:DataW.Trod enc Tryz.prog W 0 (fun _=>true) true 52 v d p):
   ∃ l:Tryz.Lin,R2 (GW W) W (Tryz.Re l) v/\0<=l.be.sh/\l.be.sh<256:=by
 obtain ⟨ds,h1,h2⟩:=HX (n:=7) Tryz.underlying52 (by kernel_rfl) hval h;obtain ⟨l,hk,w⟩:=AZj h1;rw [hk] at h2;exact ⟨l,h2,w⟩
def Abp:DataW Unit->Value
 | .lit (.int k x)=> .int k x
 | _=> .bool false
def rowV:DataW Unit->List Value
 | .agg ps=>ps.map Abp
 | d=>[Abp d]
def Aal:DataW Unit->Array Value
 | .agg ps=>(ps.flatMap rowV).toArray
 | _=> #[]
def Aam (d:DataW Unit):Obj->Obj
 | .cells _ t frozen=> .cells (Aal d) t frozen
 | o=>o
noncomputable def AV5 (laid:List (Nat × DataW Unit)) (os:Os):World:=
 {World.holding Tryz.prog os ⟨#[],#[],[]⟩ with heap:=laid.foldl (fun h x=>h.modify x.1 (Aam x.2)) (World.holding Tryz.prog os ⟨#[],#[],[]⟩).heap}
theorem wx {W:World} {name:String} {k:IntKind} {zs:List Int} {g:Nat} {t e:TypeId} {n:Nat}
   (hg:Tryz.prog.globalNamed name=some g) (hty:(Tryz.prog.globals[g]?).map (·.type)=some t) (ht:Tryz.prog.underlying t=some (.array n e)) (he:Tryz.prog.underlying e=some (.int k)) (hce:Tryz.prog.cellsOf e=1) (hct:Tryz.prog.cellsOf t=n):
   ∀ {laid:List (String × DataW Unit)} {ps:List MemPlace},(name,Lib.tabData k zs)∈laid->DataW.LaidVars Tryz.prog W laid ps->W.var? Tryz.prog name=some (zs.map fun z=>Value.int k z).toArray
 | [],_,hm,_=>by cases hm
 | (n',d)::r,ps,hm,h=>by
   obtain ⟨g',t',cs,fuel,p,q,hg',ht',hvar,hd,hr,_⟩:=h;rcases List.mem_cons.1 hm with hm | hm
   . cases hm
     obtain rfl:=Option.some.inj (hg.symm.trans hg');obtain rfl:=Option.some.inj (hty.symm.trans ht');rw [hvar,<-Lib.cells_of_tab ht he hce hct hd]
   . exact wx hg hty ht he hce hct hm hr
theorem AWq {W:World} {name:String} {g:Nat} {c:Array Value} (hg:Tryz.prog.globalNamed name=some g) (h:W.var? Tryz.prog name=some c):AO5 W g c:=by
 unfold World.var? at h;rw [hg] at h;simp only [Option.bind_some] at h;split at h
 . rename_i cs t fz hh
   cases h;exact ⟨t,fz,hh⟩
 . cases h
theorem AVd {w:World} {g:Nat} {t:TypeId} {zero:Array Value} {k:IntKind}
   (h:w.ShapedOpen Tryz.prog) (hg:g<Tryz.prog.globals.size)
   (h0:((begin Tryz.prog (fun _ _=>0) default).world.heap[g]?).bind Obj.row?= some (zero,t)) (hz:zero.size=1)
   (hb:Tryz.prog.buildable t=true) (hc:Tryz.prog.cellTypes Tryz.prog.depth t=some [t]) (hu:Tryz.prog.underlying t=some (.int k)):∃ m,AO5 w g #[.int k m]:=by
 obtain ⟨m,hm⟩:=cell_of_shapedOpen_int h hg h0 hz hb hc hu;obtain ⟨cs,hh,hs,_⟩:=h.1 g zero t hg h0;refine ⟨m,t,(0,0),?_⟩;rw [hh]
 have h1:cs[0]?= some (.int k m):=by
   simpa [World.cell?,hh] using hm
 have h2:cs= #[.int k m]:=by
   obtain ⟨l⟩:=cs;rw [hz] at hs
   match l,hs with
   | [a],_=>simp at h1;rw [h1]
 rw [h2]
theorem AYf {W:World} {laid:List (String × DataW Unit)} (hm:("internal/strconv.uint64pow10",Lib.tabData .u64 Lib.pow10Tab)∈laid) (h:laidMet Tryz.prog laid W):AQl W gPow:=by
 obtain ⟨ps,hv,_⟩:=h;have h1:=wx (g:=gPow) (t:=(Tryz.prog.globals[gPow]?.map (·.type)).getD 0) (n:=20) (by kernel_rfl) (by kernel_rfl) (by kernel_rfl) (e:=(Tryz.prog.globals[gPow]?.map fun _=>301).getD 0) (by kernel_rfl) (by kernel_rfl) (by kernel_rfl) hm hv;have h2:=AWq (g:=gPow) (by kernel_rfl) h1;have h3:AQl W gPow=AO5 W gPow ((List.range 20).map fun i=>Value.int .u64 ((10^i:Nat):Int)).toArray:=by simp [AQl,gPow,gMax,ASK,ASL]
 rw [h3];unfold Lib.pow10Tab at h2;rw [List.map_map] at h2;exact h2
theorem AYg {W:World} (h:W.ShapedOpen Tryz.prog):AQl W gMax:=by
 have h1:=AVd (zero:= #[.int .i64 0]) (t:=3) (g:=gMax) h (of_decide_eq_true (by kernel_rfl)) (by kernel_rfl) rfl (by kernel_rfl) (by kernel_rfl) Tryz.underlying3;have h2:AQl W gMax=∃ m,AO5 W gMax #[.int .i64 m]:=by simp [AQl]
 rw [h2];exact h1
theorem Abq {W:World} (h:ASP W):Go.Psl.GW (GW W).Im W:=⟨fun _ h=>h,W,h,fun _ hk=>⟨hk,rfl⟩⟩
end Go.Proofs.YtmaoncnifomnkaaGreatDoor
namespace Go.Psl
variable {P:Program} {Γ:Tys} {eqs:Eqs} {E:Ent}
def PWk (P:Program) (Γ:Tys) (eqs:Eqs) (E:Ent):Nat->PC->(Av->St->Prop)->St->Prop
 | 0,p,Q,st=>∃ st',AI P E st st'/\PW P Γ eqs E p Q st'
 | n+1, .seq a b,Q,st=>PW P Γ eqs E a (DP (fun st=>PWk P Γ eqs E n b Q st) Q) st
 | _+1,_,_,_=>False
theorem PWk.sound (hΓ:GOk P Γ) (hE:EB P eqs) (hm:P.follows .mixedOrders=true):∀ (n:Nat) (c:Code) (p:PC),comp E.nt c=some p->∀ (Q:Av->St->Prop) (st:St),PWk P Γ eqs E n p Q st->AW P E c Q st
 | 0,c,p,hc,Q,st,⟨st',hw,h⟩=>AW.weak hw (PW.sound hΓ hE hm c p hc Q st' h)
 | n+1,c,p,hc,Q,st,h=>by
   cases c with
   | seq a b=>
     simp only [comp,Option.bind_eq_some_iff,Option.map_eq_some_iff] at hc;obtain ⟨x,hx,y,hy,rfl⟩:=hc;refine AW.seq (AW.mono (PW.sound hΓ hE hm a x hx _ _ h) fun e st hq=>?_);cases e with
     | normal=>exact PWk.sound hΓ hE hm n b y hy Q st hq
     | _=>exact hq
   | region id ops draw=>
     exfalso;cases draw with
     | false=>
       simp only [comp,Bool.false_eq_true,if_false,Option.ite_none_right_eq_some,Option.some.injEq] at hc;obtain ⟨hd,rfl⟩:=hc;exact h
     | true=>
       simp only [comp,if_true,Option.ite_none_right_eq_some,Option.some.injEq] at hc;obtain ⟨hd,rfl⟩:=hc;revert h;unfold M8;split<;>exact fun h=>h
   | cond c a b=>
     simp only [comp,Option.bind_eq_some_iff,Option.map_eq_some_iff] at hc;obtain ⟨x,hx,y,hy,rfl⟩:=hc;exact False.elim h
   | block id a=>
     simp only [comp,Option.map_eq_some_iff] at hc;obtain ⟨x,hx,rfl⟩:=hc;exact False.elim h
   | loop a=>
     simp only [comp,Option.map_eq_some_iff] at hc;obtain ⟨x,hx,rfl⟩:=hc;exact False.elim h
   | rangeFunc fo ps a b=>
     simp only [comp,Option.bind_eq_some_iff,Option.map_eq_some_iff] at hc;obtain ⟨x,hx,y,hy,rfl⟩:=hc;exact False.elim h
   | skip=>cases hc;exact False.elim h
   | ret=>cases hc;exact False.elim h
   | exit id=>cases hc;exact False.elim h
   | _=>cases hc
end Go.Psl
namespace Go.Psl
section
variable {P:Program} {Γ:Tys} {eqs:Eqs} {ws:List (Nat × Nat)} {cl:List Nat} {n0:Nat} {Z:V->Prop} {K:(Nat->V)->Hp->Nat->Prop} {k b:Nat} {o:PO} {r:List PO} {f:Nat->V} {H:Hp}
theorem AZP {p:Prop} [Decidable p] (h1:p->dd P Γ eqs ws cl n0 Z K k b (⟨o.dst,o.op,none⟩::r) f H) (h2:¬ p->dd P Γ eqs ws cl n0 Z K (k+1) (b+1048576) r (Am f o.dst (.tup [])) H):dg P Γ eqs ws cl n0 Z (some (decide p)) K k b o r f H:=e9 (fun h=>h1 (of_decide_eq_true h)) fun h=>h2 (of_decide_eq_false h)
theorem Aaa {t:Bool} (h1:t=false->dd P Γ eqs ws cl n0 Z K k b (⟨o.dst,o.op,none⟩::r) f H) (h2:t=true->dd P Γ eqs ws cl n0 Z K (k+1) (b+1048576) r (Am f o.dst (.tup [])) H):dg P Γ eqs ws cl n0 Z (some (!t)) K k b o r f H:=e9 (fun h=>h1 (by simpa using h)) fun h=>h2 (by simpa using h)
theorem AZQ {p:Prop} [Decidable p] (h1:¬ p->dd P Γ eqs ws cl n0 Z K k b (⟨o.dst,o.op,none⟩::r) f H) (h2:p->dd P Γ eqs ws cl n0 Z K (k+1) (b+1048576) r (Am f o.dst (.tup [])) H):dg P Γ eqs ws cl n0 Z (some (!decide p)) K k b o r f H:=e9 (fun h=>h1 (by simpa using h)) fun h=>h2 (by simpa using h)
end
section
variable {P:Program} {Γ:Tys} {eqs:Eqs} {E:Ent}
theorem L2 {a:PC} {Q:Av->St->Prop} {st:St} {α:Type} (l:List α) (S:Nat->St) (I:Nat->Prop) (hl:l.length<=1000000000000) (h0:I 0) (hw:AI P E st (S 0))
   (step:∀ (i:Nat) x,l[i]?= some x->(i:Int)<l.length->IntKind.wrap .i64 ((i:Int)+1)=(i:Int)+1->I i->PW P Γ eqs E a (DP (fun st'=>I (i+1)/\AI P E st' (S (i+1))) Q) (S i))
   (fin:I l.length->PW P Γ eqs E a (DP (fun _=>False) Q) (S l.length)):PW P Γ eqs E (.loop a) Q st:=
 AWR l.length S I hl h0 hw (fun i h hI hz hi=>step i l[i] (List.getElem?_eq_getElem h) hI hz hi) fin
theorem AWf {a:PC} {Q:Av->St->Prop} {st:St} {α:Type} (l:List α) (ok:α->Bool) (S:Nat->St) (hl:l.length<=1000000000000) (hw:AI P E st (S 0))
   (step:∀ (i:Nat) x,l[i]?= some x->(i:Int)<l.length->IntKind.wrap .i64 ((i:Int)+1)=(i:Int)+1->(ok x=false->l.all ok=false)->PW P Γ eqs E a (DP (fun st'=>ok x=true/\AI P E st' (S (i+1))) Q) (S i))
   (fin:l.all ok=true->PW P Γ eqs E a (DP (fun _=>False) Q) (S l.length)):PW P Γ eqs E (.loop a) Q st:=
 Aa0 ok S hl hw (fun i x hx _ hI hz hb=>step i x hx hI hz hb) fin
end
def Acr (n:Nat) (az:List PO):List (Nat × Nat):=(List.range az.length).filterMap fun j=>match (az[j]?).map PO.op with
 | some (Op.store _ (Operand.tmp d) _)=>(az.findIdx? fun o:PO=>o.dst == some d).map fun i=>(j,n+1048576*i)
 | _=>none
theorem AXA {P:Program} {Γ:Tys} {eqs:Eqs} {E:Ent} {Q:Av->St->Prop} {f:Nat->V} {H:Hp} {n:Nat} {cl:List Nat} {az bs:List PO} {ws:List (Nat × Nat)} (_:Acr n az=ws) (hw:Pg ws cl n=true) (h:dd P Γ eqs ws cl n (zQ Q) (bsK P Γ eqs bs Q) 0 n az f H):PW P Γ eqs E (.drawW cl az bs) Q ⟨f,H,n⟩:=AL ws hw h
theorem Acs {Γ:Tys} {fn:Func} {ks:List Nat} {r:V} {H1:List (Nat × List V)} {st:St} (h:oq (lk (Nl st.H (ks.map (fun k=>(k,k))++Ra (P8 ((AGe Γ st.H st.fr fn.results.toList).getD [])) r) H1)) ks r st.H H1 (AGe Γ st.H st.fr fn.results.toList)):Dc Γ fn ks r H1 st:=AB.by _ h
section
variable {P:Program} {Γ:Tys} {eqs:Eqs} {E:Ent}
theorem AaC {ks:List Nat} {st:St} {l:List (Nat × V)} {h:List (Nat × List V)} {n:Nat} (hs:∀ i,E.stab i↔i∈ks) (hh:(((CL (lk (Nl st.H (ks.map (fun k=>(k,k))++P1 st.fr l) h)) st.fr l/\Ej (lk (Nl st.H (ks.map (fun k=>(k,k))++P1 st.fr l) h)) st.H h)/\G3 (lk (Nl st.H (ks.map (fun k=>(k,k))++P1 st.fr l) h)) h)/\Bw n l/\A7 n h)/\HD (lk (Nl st.H (ks.map (fun k=>(k,k))++P1 st.fr l) h)) st.H (lk h) n ks):AI P E st ⟨AO l,lk h,n⟩:=
 AI.mkM hs _ l h n hh.1.1.1.1 hh.1.1.1.2 hh.1.1.2 hh.1.2.1 hh.1.2.2 hh.2
def PWv (P:Program) (Γ:Tys) (eqs:Eqs) (E:Ent):Nat->PC->(Av->St->Prop)->St->Prop
 | 0,p,Q,st=>∃ st',AI P E st st'/\PW P Γ eqs E p Q st'
 | n+1, .seq a b,Q,st=>∃ st',AI P E st st'/\PW P Γ eqs E a (DP (fun st=>PWv P Γ eqs E n b Q st) Q) st'
 | _+1,_,_,_=>False
theorem AI.rfl' {st:St}:AI P E st st:=fun G _ _ h=>⟨G,h⟩
theorem lB {n:Nat} {a b:PC} {Q:Av->St->Prop} {st:St} (h:PW P Γ eqs E a (DP (fun st=>PWv P Γ eqs E n b Q st) Q) st):PWv P Γ eqs E (n+1) (.seq a b) Q st:=⟨_,AI.rfl',h⟩
theorem AZR {p:PC} {Q:Av->St->Prop} {st:St} (h:PW P Γ eqs E p Q st):PWv P Γ eqs E 0 p Q st:=⟨_,AI.rfl',h⟩
theorem Rb {n:Nat} {a b:PC} {Q:Av->St->Prop} {st:St} (st':St) (hw:AI P E st st') (h:PW P Γ eqs E a (DP (fun st=>PWv P Γ eqs E n b Q st) Q) st'):PWv P Γ eqs E (n+1) (.seq a b) Q st:=⟨st',hw,h⟩
theorem PWv.sound (hΓ:GOk P Γ) (hE:EB P eqs) (hm:P.follows .mixedOrders=true):∀ (n:Nat) (c:Code) (p:PC),comp E.nt c=some p->∀ (Q:Av->St->Prop) (st:St),PWv P Γ eqs E n p Q st->AW P E c Q st
 | 0,c,p,hc,Q,st,⟨st',hw,h⟩=>AW.weak hw (PW.sound hΓ hE hm c p hc Q st' h)
 | n+1,c,p,hc,Q,st,h=>by
   cases c with
   | seq a b=>
     simp only [comp,Option.bind_eq_some_iff,Option.map_eq_some_iff] at hc;obtain ⟨x,hx,y,hy,rfl⟩:=hc;obtain ⟨st',hw,h⟩:=h;refine AW.weak hw (AW.seq (AW.mono (PW.sound hΓ hE hm a x hx _ _ h) fun e st hq=>?_));cases e with
     | normal=>exact PWv.sound hΓ hE hm n b y hy Q st hq
     | _=>exact hq
   | region id ops draw=>
     exfalso;cases draw with
     | false=>
       simp only [comp,Bool.false_eq_true,if_false,Option.ite_none_right_eq_some,Option.some.injEq] at hc;obtain ⟨hd,rfl⟩:=hc;exact h
     | true=>
       simp only [comp,if_true,Option.ite_none_right_eq_some,Option.some.injEq] at hc;obtain ⟨hd,rfl⟩:=hc;revert h;unfold M8;split<;>exact fun h=>h
   | cond c a b=>
     simp only [comp,Option.bind_eq_some_iff,Option.map_eq_some_iff] at hc;obtain ⟨x,hx,y,hy,rfl⟩:=hc;exact False.elim h
   | block id a=>
     simp only [comp,Option.map_eq_some_iff] at hc;obtain ⟨x,hx,rfl⟩:=hc;exact False.elim h
   | loop a=>
     simp only [comp,Option.map_eq_some_iff] at hc;obtain ⟨x,hx,rfl⟩:=hc;exact False.elim h
   | rangeFunc fo ps a b=>
     simp only [comp,Option.bind_eq_some_iff,Option.map_eq_some_iff] at hc;obtain ⟨x,hx,y,hy,rfl⟩:=hc;exact False.elim h
   | skip=>cases hc;exact False.elim h
   | ret=>cases hc;exact False.elim h
   | exit id=>cases hc;exact False.elim h
   | _=>cases hc
theorem Cm.byV {f:FuncId} {fn:Func} {p:PC} {args:List V} {Hin:Hp} {ks:List Nat} {res:Res} {H1:List (Nat × List V)} (n:Nat) (hΓ:GOk P Γ) (hE:EB P eqs) (hm:P.follows .mixedOrders=true) (N:Nat) (hf:P.funcs[f]?= some fn) (hc:fn.body.bind (comp fn.ntmps)=some p) (hname:(fn.name == "runtime.NumGoroutine")=false)
   (hn:args.length<=fn.ntmps) (hcl:∀ v∈args,A2 (· < N) AR v) (hids:H3 N Hin) (hks:∀ i∈ks,i<N) (hri:LD res.v H1) (h:∀ E:Ent,(∀ i,E.stab i↔i∈ks)->E.nt=fn.ntmps/\E.rq->PWv P Γ eqs E n p (Mh Γ fn ks res H1) ⟨Dn 0 args,Hin,N⟩):Cm P f args Hin ks res (lk H1):=by
 cases hb:fn.body with
 | none=>rw [hb] at hc;cases hc
 | some c=>rw [hb] at hc;exact Cm.intro hΓ N hf hb hname hn hcl hids hks hri fun E hE' hs hrd=>PWv.sound hΓ hE hm n c p (by rw [hE'];exact hc) _ _ (h E hs ⟨hE',hrd⟩)
theorem Ct.byV {f:FuncId} {fn:Func} {p:PC} {args:List V} {r:V} {H1:List (Nat × List V)} (n:Nat) (hΓ:GOk P Γ) (hE:EB P eqs) (hm:P.follows .mixedOrders=true) (hf:P.funcs[f]?= some fn) (hc:fn.body.bind (comp fn.ntmps)=some p) (hname:(fn.name == "runtime.NumGoroutine")=false)
   (hn:args.length<=fn.ntmps) (hcl:∀ v∈args,I8 v) (hri:LD r H1) (h:∀ E:Ent,(∀ i,¬ E.stab i)->E.nt=fn.ntmps/\E.rq->PWv P Γ eqs E n p (dL Γ fn r H1) ⟨Dn 0 args,fun _=>none,0⟩):Ct P f args r H1:=
 Cm.byV n hΓ hE hm 0 hf hc hname hn (fun v hv=>A2.mono (fun _ h=>h.elim) (fun _ h=>h) (hcl v hv)) nofun nofun hri fun E hs hn=>h E (fun i hi=>by have:=(hs i).1 hi;cases this) hn
end
def AVx:V->Bool
 | .d _=>true
 | _=>false
@[simp] theorem Ac7 {x:D}:AVx (.d x)=true:=rfl
@[simp] theorem AX7 {ds:List D}:(ds.map V.d).all AVx=true:=by simp
@[simp] theorem AbH {α:Type} {f:α->List D} {l:List α}:(AH f l).all AVx=true:=AX7
theorem EZ:∀ {xs ys:List V},ys.all AVx=true->Qa Qc xs ys=[]
 | [],[],_ | _::_,[],_ | [],_::_,_=>rfl
 | x::xs,y::ys,h=>by
   rw [List.all_cons,Bool.and_eq_true] at h;have h2:=EZ (xs:=xs) h.2;have h1:=h.1;cases y<;>first | (cases x<;>simp [Qa,Qc,Q1,h2];done) | (simp [AVx] at h1)
@[simp] theorem AdB {cs:List V} (h:cs.all AVx=true):Bv cs=True:=eq_true (.inl (List.all_eq_true.2 fun v hv=>by
 have:=List.all_eq_true.1 h v hv;cases v<;>first | rfl | (simp [AVx] at this)))
@[simp] theorem AbI {α:Type} {f:α->List D} {l:List α}:(∀ v,v∈AH f l->v.isCell=true)=True:=eq_true BU
theorem WA {p:Prop} (h:p:=by first | (simp [Qa,Q1,Qc,Rg,Ra,P1,Rs,Nl,EZ,ZA,CQ];done) | (simp_all [Qa,Q1,Qc,Rg,Ra,P1,Rs,Nl,EZ,ZA,CQ];done)):p:=h
theorem Aab {P:Program} {Γ:Tys} {eqs:Eqs} {E:Ent} {p p':PC} {Q:Av->St->Prop} {st:St} (e:p'=p) (h:PW P Γ eqs E p' Q st):PW P Γ eqs E p Q st:=e ▸ h
theorem Wk {p:Prop} (h:p:=by
 try (refine Aab (by conv=>rhs;whnf) ?_)
 try simp [*,AA,AM,inC,Nat.testBit]
 repeat' (first
     | (simp (disch:=omega) only [AD,if_pos];try simp [*,AA,AM,inC,Nat.testBit])
     | (refine AXH (fun h=>?_) (fun h=>?_)<;>try simp [*,AA,AM,inC,Nat.testBit])
     | (refine AXG (fun h=>?_) (fun h=>?_)<;>try simp [*,AA,AM,inC,Nat.testBit])
     | (refine AYx (fun h=>?_) (fun h=>?_)<;>try simp [*,AA,AM,inC,Nat.testBit])
     | (refine bu (fun h=>?_) (fun h=>?_)<;>try simp [*,AA,AM,inC,Nat.testBit])
     | (refine AXJ (fun h=>?_) (fun h=>?_)<;>try simp [*,AA,AM,inC,Nat.testBit])
     | (refine AXI (fun h=>?_) (fun h=>?_)<;>try simp [*,AA,AM,inC,Nat.testBit])
     | (refine AYy (fun h=>?_) (fun h=>?_)<;>try simp [*,AA,AM,inC,Nat.testBit])
     | (refine DW (fun h=>?_) (fun h=>?_)<;>try simp [*,AA,AM,inC,Nat.testBit])
     | (refine AZQ (fun h=>?_) (fun h=>?_)<;>try simp [*,AA,AM,inC,Nat.testBit])
     | (refine AZP (fun h=>?_) (fun h=>?_)<;>try simp [*,AA,AM,inC,Nat.testBit])
     | (refine Aaa (fun h=>?_) (fun h=>?_)<;>try simp [*,AA,AM,inC,Nat.testBit])
     | (refine e9 (fun h=>?_) (fun h=>?_)<;>try simp [*,AA,AM,inC,Nat.testBit])
     | (refine ACe _ _ (by assumption) ?_ ?_ ?_ ?_;(focus (simp;done));(focus (simp;done));(focus (first | (left;simp;done) | (right;simp;done)));try simp [*,AA,AM,inC,Nat.testBit])
     | (refine AXA (by conv=>lhs;reduce) (by kernel_rfl) ?_;try simp [*,AA,AM,inC,Nat.testBit])
     | (refine ACe _ _ (u _) ?_ ?_ ?_ ?_;(focus (simp;done));(focus (simp;done));(focus (first | (left;simp;done) | (right;simp;done)));try simp [*,AA,AM,inC,Nat.testBit])
     | (refine ACe _ _ (u1 _) ?_ ?_ ?_ ?_;(focus (simp;done));(focus (simp;done));(focus (first | (left;simp;done) | (right;simp;done)));try simp [*,AA,AM,inC,Nat.testBit])
     | (refine ACe _ _ (u2 _) ?_ ?_ ?_ ?_;(focus (simp;done));(focus (simp;done));(focus (first | (left;simp;done) | (right;simp;done)));try simp [*,AA,AM,inC,Nat.testBit])
     | (refine AU.mk _ _ _ c ?_ ?_ ?_ ?_;(focus (first | (simp;done) | (simp [Bk,CP, *];done)));(focus (simp;done));(focus (first | (left;simp;done) | (right;simp;done)));try simp [*,AA,AM,inC,Nat.testBit])
     | (refine AU.mk _ _ _ c1 ?_ ?_ ?_ ?_;(focus (first | (simp;done) | (simp [Bk,CP, *];done)));(focus (simp;done));(focus (first | (left;simp;done) | (right;simp;done)));try simp [*,AA,AM,inC,Nat.testBit])
     | (refine AU.mk _ _ _ c2 ?_ ?_ ?_ ?_;(focus (first | (simp;done) | (simp [Bk,CP, *];done)));(focus (simp;done));(focus (first | (left;simp;done) | (right;simp;done)));try simp [*,AA,AM,inC,Nat.testBit])
     | (refine AU.mk _ _ _ c3 ?_ ?_ ?_ ?_;(focus (first | (simp;done) | (simp [Bk,CP, *];done)));(focus (simp;done));(focus (first | (left;simp;done) | (right;simp;done)));try simp [*,AA,AM,inC,Nat.testBit])
     | (refine AU.mk _ _ _ c4 ?_ ?_ ?_ ?_;(focus (first | (simp;done) | (simp [Bk,CP, *];done)));(focus (simp;done));(focus (first | (left;simp;done) | (right;simp;done)));try simp [*,AA,AM,inC,Nat.testBit])
     | (refine AU.mk _ _ _ c5 ?_ ?_ ?_ ?_;(focus (first | (simp;done) | (simp [Bk,CP, *];done)));(focus (simp;done));(focus (first | (left;simp;done) | (right;simp;done)));try simp [*,AA,AM,inC,Nat.testBit])
     | (refine AU.mk _ _ _ c6 ?_ ?_ ?_ ?_;(focus (first | (simp;done) | (simp [Bk,CP, *];done)));(focus (simp;done));(focus (first | (left;simp;done) | (right;simp;done)));try simp [*,AA,AM,inC,Nat.testBit])
     | (refine AU.mk _ _ _ c7 ?_ ?_ ?_ ?_;(focus (first | (simp;done) | (simp [Bk,CP, *];done)));(focus (simp;done));(focus (first | (left;simp;done) | (right;simp;done)));try simp [*,AA,AM,inC,Nat.testBit])
     | (refine AU.mk _ _ _ c8 ?_ ?_ ?_ ?_;(focus (first | (simp;done) | (simp [Bk,CP, *];done)));(focus (simp;done));(focus (first | (left;simp;done) | (right;simp;done)));try simp [*,AA,AM,inC,Nat.testBit])
     | (refine AU.mk _ _ _ c9 ?_ ?_ ?_ ?_;(focus (first | (simp;done) | (simp [Bk,CP, *];done)));(focus (simp;done));(focus (first | (left;simp;done) | (right;simp;done)));try simp [*,AA,AM,inC,Nat.testBit])
     | (refine AU.mkR _ _ _ _ _ m ?_ ?_ ?_ ?_ ?_ ?_;(focus (simp;done));(focus (simp;done));(focus (simp;done));(focus (simp;done));(focus (first | (left;simp;done) | (right;simp;done)));try simp [*,AA,AM,inC,Nat.testBit])
     | (refine AU.mkR _ _ _ _ _ m1 ?_ ?_ ?_ ?_ ?_ ?_;(focus (simp;done));(focus (simp;done));(focus (simp;done));(focus (simp;done));(focus (first | (left;simp;done) | (right;simp;done)));try simp [*,AA,AM,inC,Nat.testBit])
     | (refine AU.mkR _ _ _ _ _ m2 ?_ ?_ ?_ ?_ ?_ ?_;(focus (simp;done));(focus (simp;done));(focus (simp;done));(focus (simp;done));(focus (first | (left;simp;done) | (right;simp;done)));try simp [*,AA,AM,inC,Nat.testBit])
     | (refine Acs ?_;first | (simp [Qa,Q1,Qc,Rg,Ra,P1,Rs,Nl,EZ,ZA,CQ];done) | (simp_all [Qa,Q1,Qc,Rg,Ra,P1,Rs,Nl,EZ,ZA,CQ];done) | (simp_all [Qa,Q1,Qc,Rg,Ra,P1,Rs,Nl,EZ,ZA,CQ]<;>intros<;>omega) | simp_all [Qa,Q1,Qc,Rg,Ra,P1,Rs,Nl,EZ,ZA,CQ])
     | (refine ⟨?_,WkA hE ?_⟩;(focus first | (simp;done) | (simp_all;done));(focus first | (simp [Qa,Q1,Qc,Rg,Ra,P1,Rs,Nl,EZ,ZA,CQ];done) | (simp_all [Qa,Q1,Qc,Rg,Ra,P1,Rs,Nl,EZ,ZA,CQ];done)))
     | (refine WkA hE ?_;(focus first | (simp [Qa,Q1,Qc,Rg,Ra,P1,Rs,Nl,EZ,ZA,CQ];done) | (simp_all [Qa,Q1,Qc,Rg,Ra,P1,Rs,Nl,EZ,ZA,CQ];done)))
     | (refine ⟨?_,AaC hs ?_⟩;(focus first | (simp;done) | (simp_all;done));(focus first | (simp [Qa,Q1,Qc,Rg,Ra,P1,Rs,Nl,EZ,ZA,CQ];done) | (simp_all [Qa,Q1,Qc,Rg,Ra,P1,Rs,Nl,EZ,ZA,CQ];done)))
     | (refine AaC hs ?_;(focus first | (simp [Qa,Q1,Qc,Rg,Ra,P1,Rs,Nl,EZ,ZA,CQ];done) | (simp_all [Qa,Q1,Qc,Rg,Ra,P1,Rs,Nl,EZ,ZA,CQ];done)))
     | (refine And.intro ?_ ?_)
     | (exfalso;first | (simp_all;done) | (simp_all<;>omega)))):p:=h
structure Hd (q:Prop):Prop where
 h:q
theorem Wp {p q:Prop} (h:q) (f:Hd q->p:=by
 intro hq
 try (refine Aab (by conv=>rhs;whnf) ?_)
 try simp [*,AA,AM,inC,Nat.testBit]
 repeat' (first
     | (simp (disch:=omega) only [AD,if_pos];try simp [*,AA,AM,inC,Nat.testBit])
     | (refine AXH (fun h=>?_) (fun h=>?_)<;>try simp [*,AA,AM,inC,Nat.testBit])
     | (refine AXG (fun h=>?_) (fun h=>?_)<;>try simp [*,AA,AM,inC,Nat.testBit])
     | (refine AYx (fun h=>?_) (fun h=>?_)<;>try simp [*,AA,AM,inC,Nat.testBit])
     | (refine bu (fun h=>?_) (fun h=>?_)<;>try simp [*,AA,AM,inC,Nat.testBit])
     | (refine AXJ (fun h=>?_) (fun h=>?_)<;>try simp [*,AA,AM,inC,Nat.testBit])
     | (refine AXI (fun h=>?_) (fun h=>?_)<;>try simp [*,AA,AM,inC,Nat.testBit])
     | (refine AYy (fun h=>?_) (fun h=>?_)<;>try simp [*,AA,AM,inC,Nat.testBit])
     | (refine DW (fun h=>?_) (fun h=>?_)<;>try simp [*,AA,AM,inC,Nat.testBit])
     | (refine AZQ (fun h=>?_) (fun h=>?_)<;>try simp [*,AA,AM,inC,Nat.testBit])
     | (refine AZP (fun h=>?_) (fun h=>?_)<;>try simp [*,AA,AM,inC,Nat.testBit])
     | (refine Aaa (fun h=>?_) (fun h=>?_)<;>try simp [*,AA,AM,inC,Nat.testBit])
     | (refine e9 (fun h=>?_) (fun h=>?_)<;>try simp [*,AA,AM,inC,Nat.testBit])
     | (refine ACe _ _ (by assumption) ?_ ?_ ?_ ?_;(focus (simp;done));(focus (simp;done));(focus (first | (left;simp;done) | (right;simp;done)));try simp [*,AA,AM,inC,Nat.testBit])
     | (refine AXA (by conv=>lhs;reduce) (by kernel_rfl) ?_;try simp [*,AA,AM,inC,Nat.testBit])
     | (refine ACe _ _ (u _) ?_ ?_ ?_ ?_;(focus (simp;done));(focus (simp;done));(focus (first | (left;simp;done) | (right;simp;done)));try simp [*,AA,AM,inC,Nat.testBit])
     | (refine ACe _ _ (u1 _) ?_ ?_ ?_ ?_;(focus (simp;done));(focus (simp;done));(focus (first | (left;simp;done) | (right;simp;done)));try simp [*,AA,AM,inC,Nat.testBit])
     | (refine ACe _ _ (u2 _) ?_ ?_ ?_ ?_;(focus (simp;done));(focus (simp;done));(focus (first | (left;simp;done) | (right;simp;done)));try simp [*,AA,AM,inC,Nat.testBit])
     | (refine AU.mk _ _ _ c ?_ ?_ ?_ ?_;(focus (first | (simp;done) | (simp [Bk,CP, *];done)));(focus (simp;done));(focus (first | (left;simp;done) | (right;simp;done)));try simp [*,AA,AM,inC,Nat.testBit])
     | (refine AU.mk _ _ _ c1 ?_ ?_ ?_ ?_;(focus (first | (simp;done) | (simp [Bk,CP, *];done)));(focus (simp;done));(focus (first | (left;simp;done) | (right;simp;done)));try simp [*,AA,AM,inC,Nat.testBit])
     | (refine AU.mk _ _ _ c2 ?_ ?_ ?_ ?_;(focus (first | (simp;done) | (simp [Bk,CP, *];done)));(focus (simp;done));(focus (first | (left;simp;done) | (right;simp;done)));try simp [*,AA,AM,inC,Nat.testBit])
     | (refine AU.mk _ _ _ c3 ?_ ?_ ?_ ?_;(focus (first | (simp;done) | (simp [Bk,CP, *];done)));(focus (simp;done));(focus (first | (left;simp;done) | (right;simp;done)));try simp [*,AA,AM,inC,Nat.testBit])
     | (refine AU.mk _ _ _ c4 ?_ ?_ ?_ ?_;(focus (first | (simp;done) | (simp [Bk,CP, *];done)));(focus (simp;done));(focus (first | (left;simp;done) | (right;simp;done)));try simp [*,AA,AM,inC,Nat.testBit])
     | (refine AU.mk _ _ _ c5 ?_ ?_ ?_ ?_;(focus (first | (simp;done) | (simp [Bk,CP, *];done)));(focus (simp;done));(focus (first | (left;simp;done) | (right;simp;done)));try simp [*,AA,AM,inC,Nat.testBit])
     | (refine AU.mk _ _ _ c6 ?_ ?_ ?_ ?_;(focus (first | (simp;done) | (simp [Bk,CP, *];done)));(focus (simp;done));(focus (first | (left;simp;done) | (right;simp;done)));try simp [*,AA,AM,inC,Nat.testBit])
     | (refine AU.mk _ _ _ c7 ?_ ?_ ?_ ?_;(focus (first | (simp;done) | (simp [Bk,CP, *];done)));(focus (simp;done));(focus (first | (left;simp;done) | (right;simp;done)));try simp [*,AA,AM,inC,Nat.testBit])
     | (refine AU.mk _ _ _ c8 ?_ ?_ ?_ ?_;(focus (first | (simp;done) | (simp [Bk,CP, *];done)));(focus (simp;done));(focus (first | (left;simp;done) | (right;simp;done)));try simp [*,AA,AM,inC,Nat.testBit])
     | (refine AU.mk _ _ _ c9 ?_ ?_ ?_ ?_;(focus (first | (simp;done) | (simp [Bk,CP, *];done)));(focus (simp;done));(focus (first | (left;simp;done) | (right;simp;done)));try simp [*,AA,AM,inC,Nat.testBit])
     | (refine AU.mkR _ _ _ _ _ m ?_ ?_ ?_ ?_ ?_ ?_;(focus (simp;done));(focus (simp;done));(focus (simp;done));(focus (simp;done));(focus (first | (left;simp;done) | (right;simp;done)));try simp [*,AA,AM,inC,Nat.testBit])
     | (refine AU.mkR _ _ _ _ _ m1 ?_ ?_ ?_ ?_ ?_ ?_;(focus (simp;done));(focus (simp;done));(focus (simp;done));(focus (simp;done));(focus (first | (left;simp;done) | (right;simp;done)));try simp [*,AA,AM,inC,Nat.testBit])
     | (refine AU.mkR _ _ _ _ _ m2 ?_ ?_ ?_ ?_ ?_ ?_;(focus (simp;done));(focus (simp;done));(focus (simp;done));(focus (simp;done));(focus (first | (left;simp;done) | (right;simp;done)));try simp [*,AA,AM,inC,Nat.testBit])
     | (refine Acs ?_;first | (simp [Qa,Q1,Qc,Rg,Ra,P1,Rs,Nl,EZ,ZA,CQ];done) | (simp_all [Qa,Q1,Qc,Rg,Ra,P1,Rs,Nl,EZ,ZA,CQ];done) | (simp_all [Qa,Q1,Qc,Rg,Ra,P1,Rs,Nl,EZ,ZA,CQ]<;>intros<;>omega) | simp_all [Qa,Q1,Qc,Rg,Ra,P1,Rs,Nl,EZ,ZA,CQ])
     | (refine ⟨?_,WkA hE ?_⟩;(focus first | (simp;done) | (simp_all;done));(focus first | (simp [Qa,Q1,Qc,Rg,Ra,P1,Rs,Nl,EZ,ZA,CQ];done) | (simp_all [Qa,Q1,Qc,Rg,Ra,P1,Rs,Nl,EZ,ZA,CQ];done)))
     | (refine WkA hE ?_;(focus first | (simp [Qa,Q1,Qc,Rg,Ra,P1,Rs,Nl,EZ,ZA,CQ];done) | (simp_all [Qa,Q1,Qc,Rg,Ra,P1,Rs,Nl,EZ,ZA,CQ];done)))
     | (refine ⟨?_,AaC hs ?_⟩;(focus first | (simp;done) | (simp_all;done));(focus first | (simp [Qa,Q1,Qc,Rg,Ra,P1,Rs,Nl,EZ,ZA,CQ];done) | (simp_all [Qa,Q1,Qc,Rg,Ra,P1,Rs,Nl,EZ,ZA,CQ];done)))
     | (refine AaC hs ?_;(focus first | (simp [Qa,Q1,Qc,Rg,Ra,P1,Rs,Nl,EZ,ZA,CQ];done) | (simp_all [Qa,Q1,Qc,Rg,Ra,P1,Rs,Nl,EZ,ZA,CQ];done)))
     | (refine And.intro ?_ ?_)
     | exact hq.h)):p:=f ⟨h⟩
end Go.Psl
namespace Go.Proofs.Tryz
open Go.Psl
theorem CW {f:FuncId} {fn:Func} {p:PC} {args:List V} {r:V} {H1:List (Nat × List V)} (hf:prog.funcs[f]?= some fn) (hc:fn.body.bind (comp fn.ntmps)=some p) (h:∀ E:Ent,(∀ i,¬ E.stab i)->PW prog tys eqs E p (dL tys fn r H1) ⟨Dn 0 args,fun _=>none,0⟩:=by
   intro E hE;exact Wk) (hname:(fn.name == "runtime.NumGoroutine")=false:=by rfl)
   (hn:args.length<=fn.ntmps:=by exact Nat.le_of_ble_eq_true rfl) (hcl:∀ v∈args,I8 v:=by simp) (hri:LD r H1:=by simp [LD]):Ct prog f args r H1:=Ct.by gok eok mixed hf hc hname hn hcl hri h
theorem CV {f:FuncId} {fn:Func} {p:PC} {args:List V} {r:V} {H1:List (Nat × List V)} (n:Nat) (hf:prog.funcs[f]?= some fn) (hc:fn.body.bind (comp fn.ntmps)=some p) (h:∀ E:Ent,(∀ i,¬ E.stab i)->E.nt=fn.ntmps/\E.rq->PWv prog tys eqs E n p (dL tys fn r H1) ⟨Dn 0 args,fun _=>none,0⟩) (hname:(fn.name == "runtime.NumGoroutine")=false:=by rfl)
   (hn:args.length<=fn.ntmps:=by exact Nat.le_of_ble_eq_true rfl) (hcl:∀ v∈args,I8 v:=by simp) (hri:LD r H1:=by simp [LD]):Ct prog f args r H1:=Ct.byV n gok eok mixed hf hc hname hn hcl hri h
theorem CWM {f:FuncId} {fn:Func} {p:PC} {args:List V} {Hin:List (Nat × List V)} {ks:List Nat} {res:Res} {H1:List (Nat × List V)} (N:Nat) (hf:prog.funcs[f]?= some fn) (hc:fn.body.bind (comp fn.ntmps)=some p) (h:∀ E:Ent,(∀ i,E.stab i↔i∈ks)->E.nt=fn.ntmps/\E.rq->PW prog tys eqs E p (Mh tys fn ks res H1) ⟨Dn 0 args,lk Hin,N⟩:=by
   intro E hs hE;exact Wk) (hn:args.length<=fn.ntmps:=by exact Nat.le_of_ble_eq_true rfl) (hname:(fn.name == "runtime.NumGoroutine")=false:=by rfl) (hcl:∀ v∈args,A2 (· < N) AR v:=by simp) (hids:A7 N Hin:=by simp) (hks:∀ i∈ks,i<N:=by simp) (hri:LD res.v H1:=by simp [LD]):Cm prog f args (lk Hin) ks res (lk H1):=
 Cm.by gok eok mixed N hf hc hname hn hcl (A7.at hids) hks hri h
end Go.Proofs.Tryz
namespace Go.Proofs.Tryz
open Go.Psl
open Go.Air
open Go.Log (Ldp Lim Etr By DF)
def Ru (l:List Cab):Int:=(l.map (·.pe)).sum
def td (x:Cab):Bool:=DF x.st 0 100&&DF x.pe 0 x.st
@[simp] theorem Ac4:Ru []=0:=rfl
theorem AYI {l:List Cab} {i:Nat} {x:Cab} (h:l[i]?= some x):Ru (l.take (i+1))=Ru (l.take i)+x.pe:=by
 unfold Ru;rw [List.take_add_one,h];simp
theorem AWj {l:List Cab} (h:∀ x∈l,0<=x.pe/\x.pe<=100) (n:Nat) (hl:l.length<=n):0<=Ru l/\Ru l<=100*n:=by
 unfold Ru;induction l generalizing n with
 | nil=>simp;omega
 | cons x r ih=>
   have h1:=h x (by simp);cases n with
   | zero=>simp at hl
   | succ n=>
     have h2:=ih (fun y hy=>h y (by simp [hy])) n (by simpa using hl);simp only [List.map_cons,List.sum_cons];omega
theorem AWF {l:List Cab} {i:Nat} {x:Cab} (h:l[i]?= some x) (hl:l.length<=4) (ho:∀ x∈l,0<=x.pe/\x.pe<=100):IntKind.wrap .i64 (Ru (l.take i)+x.pe)=Ru (l.take (i+1)):=by
 rw [<-AYI h];have:=AWj (l:=l.take (i+1)) (fun y hy=>ho y (List.mem_of_mem_take hy)) 4 (by rw [List.length_take];omega);exact AD (by omega) (by omega)
theorem AB1 (l:Lin) (hl:l.cb.length<=4) (ho:∀ x∈l.cb,0<=x.pe/\x.pe<=100):Ct prog 48 [Re l] (vi (Ru l.cb)) []:=by
 refine CW func48 c48 fun E hE=>?_
 simp [p48];refine L2 l.cb (fun i=>⟨AO [(3,vi (Ru (l.cb.take i))),(7, .d (AXh l.cb)),(8,vi l.cb.length),(9,vi i)],lk [],1⟩) (fun _=>True) (by omega) trivial (WkA hE WA) (fun i x hx hI hz _=>?_) fun _=>Wk
 have w:=AWF hx hl ho;exact Wk
theorem fE (l:Lin) (hl:l.cb.length<=4) (ho:∀ x∈l.cb,0<=x.pe/\x.pe<=100):Ct prog 59 [Re l] (vi (Ru l.cb)) []:=by
 refine CW func59 c59 fun E hE=>?_
 simp [p59];refine L2 l.cb (fun i=>⟨AO [(1, .lp 0 0),(3,vi (Ru (l.cb.take i))),(4,vi i)],lk [(0,TR l)],1⟩) (fun _=>True) (by omega) trivial (WkA hE WA) (fun i x hx hI hz _=>?_) fun _=>Wk
 have w:=AWF hx hl ho;exact Wk
theorem fn95 (l:List Int) (hl:l.length<=1000000):Ct prog 95 [.d (Qw l)] (.ls 0 0 l.length 1) [(0,AH sxL l)]:=by
 refine CW func95 c95 fun E hE=>?_
 cases l with
 | nil=>
   have e:Qw []= .sl 1 []:=rfl;exact Wk
 | cons a r=>
   simp at hl;have h4:(r.map (List.map V.d ∘ sxL)).flatten=AH sxL r:=by simp [AH,List.map_flatten]
   exact Wk
theorem fn98 (n:Int):Ct prog 98 [vi n] (vb (!DF n (-20000) 20000)) []:=by
 have c:=fn99 n;exact CW func98 c98
def AVb (l:Lin):Bool:=DF l.fu 0 1000000000&&DF l.wr 0 1000000000&&(DF l.pe 0 1000&&DF l.gr 0 100000)&&(DF l.re 0 10000000&&DF l.to (-500) 9000&&DF l.ti 0 1000000)
theorem fn47 (l:Lin):Ct prog 47 [Re l] (vb (AVb l)) []:=by
 have c1:=pP l.fu 0 1000000000;have c2:=pP l.wr 0 1000000000;have c3:=pP l.pe 0 1000;have c4:=pP l.gr 0 100000;have c5:=pP l.re 0 10000000;have c6:=pP l.to (-500) 9000;have c7:=pP l.ti 0 1000000;unfold AVb;exact CW func47 c47
@[simp] theorem Ac5 (l:List Int):List.take l.length (AH sxL l)=AH sxL l:=by simpa using E9 hsx l
@[simp] theorem Ac8 (l:List Int):(AH sxL l).length=l.length:=by simpa using Aw hsx l
@[simp] theorem Ac9 {H:Hp} {id:Nat} {l:List Int} (h:H id=some (AH sxL l)):Bor H (.ls id 0 l.length 1) (.d (Qw l))=True:=eq_true (B0 hsx h)
def plL (l:Lin) (i:Nat):List Int:=l.ce++[l.da,l.fa,l.ta,l.ba]++(l.cb.take i).map (·.at')
def AWl (l:Lin):Bool:=l.cb.all td&&decide (l.cb.length<=4)&&decide (l.ce.length=l.sh.gas.cs.length)&&(plL l l.cb.length).all fun n=>DF n (-20000) 20000
theorem Abl (l:Lin):(plL l 0).length=l.ce.length+4/\AH sxL (plL l 0)=AH sxL l.ce++[vi l.da,vi l.fa,vi l.ta,vi l.ba]:=by
 simp [plL,<-ZB,CQ,ZA]
theorem Abm {l:Lin} {i:Nat} {x:Cab} (h:l.cb[i]?= some x):(plL l (i+1)).length=(plL l i).length+1/\AH sxL (plL l (i+1))=AH sxL (plL l i)++[vi x.at']:=by
 have e:plL l (i+1)=plL l i++[x.at']:=by unfold plL;rw [List.take_add_one,h];simp
 rw [e];simp [IV]
theorem AYT (l:Lin) (h1:l.ce.length<=1000000) (h2:l.cb.length<=1000000) (i:Nat):(plL l i).length<=2000010:=by simp [plL];omega
theorem AZb {l:List Int} {p:Int->Bool}:(l.any fun n=>!p n)=!l.all p:=by rw [List.not_all_eq_any_not]
theorem fn46 (l:Lin) (h1:l.ce.length<=1000000) (h2:l.cb.length<=1000000):Ct prog 46 [Re l] (vb (AWl l)) []:=by
 have c1:=fn95 l.ce h1;have c2:=ABQ (plL l l.cb.length) 98 [] _ (by have:=AYT l h1 h2 l.cb.length;omega) fun n _=>fn98 n
 rw [AZb] at c2;obtain ⟨z1,z2⟩:=Abl l;have hb:=AYT l h1 h2;unfold AWl;refine CW func46 c46 fun E hE=>?_
 simp [p46,AA,AM,inC,Nat.testBit];refine AU.mk _ _ _ c1 (by simp) (by simp) (by simp) ?_;simp [AA,AM,inC,Nat.testBit];simp (disch:=omega) only [if_pos];simp;refine AWf l.cb td (fun i=>⟨AO [(1, .lp 0 0),(3, .ls 1 0 (plL l i).length 1),(20, .d (AXh l.cb)),(21,vi l.cb.length),(22,vi i)],lk [(0,TR l),(1,AH sxL (plL l i))],2⟩) (by omega) (WkA hE ?_) (fun i x hx hI hz hbad=>?_) fun hok=>?_
 . rw [z2,z1];exact WA
 . obtain ⟨e1,e2⟩:=Abm hx
   have hb:=hb i;have c3:=pP x.st 0 100;have c4:=pP x.pe 0 x.st;unfold td at hbad ⊢;exact Wk
 . have hb:=hb l.cb.length
   exact Wk
theorem fV {lo hi n:Int}:rgB lo hi [n]=(decide (lo<=n)&&decide (n<=hi)):=by simp [rgB]
theorem rU {lo hi a b:Int}:rgB lo hi [a,b]=(rgB lo hi [a]&&rgB lo hi [b]):=by simp [rgB]
theorem AV8 (n lo hi:Int):Ct prog 202 [vi n,vi lo,vi hi] (vb (rgB lo hi [n])) []:=by
 rw [fV];by_cases h:lo<=n
 . refine CB func202 Acf fun E hE=>?_
   simp [p202,h];apply RZ;simp [results202]
 . refine CB func202 Acf fun E hE=>?_
   simp [p202,h];apply RZ;simp [results202]
theorem sB (n lo hi:Int):Ct prog 270 [vi n,vi lo,vi hi] (vb (rgB lo hi [n])) []:=by
 rw [fV];by_cases h:lo<=n
 . refine CB func270 Acn fun E hE=>?_
   simp [p270,h];apply RZ;simp [results270]
 . refine CB func270 Acn fun E hE=>?_
   simp [p270,h];apply RZ;simp [results270]
theorem AVj (n lo hi:Int):Ct prog 254 [vi n,vi lo,vi hi] (vb (rgB lo hi [n])) []:=by
 rw [fV];by_cases h:lo<=n
 . refine CB func254 Acj fun E hE=>?_
   simp [p254,h];apply RZ;simp [results254]
 . refine CB func254 Acj fun E hE=>?_
   simp [p254,h];apply RZ;simp [results254]
theorem iy (a b lo hi:Int):Ct prog 302 [vsp a b,vi lo,vi hi] (vb (spB lo hi a b)) []:=by
 have e:spB lo hi a b=(decide (lo<=a)&&decide (a<=b)&&decide (b<=hi)):=by
   rw [Bool.eq_iff_iff,CC];simp;omega
 rw [e];by_cases h:lo<=a
 . by_cases h2:a<=b
   . refine CB func302 AbC fun E hE=>?_
     simp [p302,h,h2];apply RZ;simp [results302]
   . refine CB func302 AbC fun E hE=>?_
     simp [p302,h,h2];apply RZ;simp [results302]
 . refine CB func302 AbC fun E hE=>?_
   simp [p302,h];apply RZ;simp [results302]
theorem zX (a b:Int):Ct prog 303 [vsp a b] (vb (spB 1500 3500 a b)) []:=by
 refine CB func303 c303 fun E hE=>?_
 simp [p303];refine CLa (iy a b 1500 3500) ?_;simp;apply RZ;simp [results303]
theorem Aby (a b:Int):Ct prog 271 [vsp a b] (vb (spB (-300) 300 a b)) []:=by
 refine CB func271 c271 fun E hE=>?_
 simp [p271];refine CLa (iy a b (-300) 300) ?_;simp;apply RZ;simp [results271]
theorem iz (a:Atm):Ct prog 272 [Ox a] (vb (L3 a)) []:=by
 have c1:=iy a.pl a.ph 1000 12000;have c2:=zX a.tl a.th;unfold L3
 generalize spB 1000 12000 a.pl a.ph=b1 at*
 generalize spB 1500 3500 a.tl a.th=b2 at*
 cases b1<;>(
   refine CB func272 c272 fun E hE=>?_
   simp [p272]
   repeat ((first | (refine CLt c1 ?_ ?_;focus (simp;done)) | (refine CLt c2 ?_ ?_;focus (simp;done)));simp)
   apply RZ;simp [results272])
theorem Xd (a:Atm):Ct prog 209 [Ox a] (vi (if L3 a then 0 else 30)) []:=by
 have c1:=iz a
 cases h:L3 a<;>(
   rw [h] at c1;refine CB func209 c209 fun E hE=>?_
   simp [p209]
   repeat ((first | (refine CLt c1 ?_ ?_;focus (simp;done)));simp)
   apply RZ;simp [results209])
theorem se (c:Cel):Ct prog 208 [Ky c] (vb (Je c)) []:=by
 have c1:=sB c.rm 1 10000000;have c2:=sB c.he 0 10000000;have c3:=sB c.ai 0 10000000;have c4:=Aby c.wl c.wh;have c5:=sB c.lk 0 100000;have c6:=sB c.ow 0 999999;have e:Je c=(rgB 1 10000000 [c.rm]&&(rgB 0 10000000 [c.he]&&rgB 0 10000000 [c.ai])&&rgB 0 100000 [c.lk]&&rgB 0 999999 [c.ow]&&spB (-300) 300 c.wl c.wh):=by unfold Je;rw [rU]
 rw [e]
 generalize rgB 1 10000000 [c.rm]=b1 at*
 generalize rgB 0 10000000 [c.he]=b2 at*
 generalize rgB 0 10000000 [c.ai]=b3 at*
 generalize rgB 0 100000 [c.lk]=b4 at*
 generalize rgB 0 999999 [c.ow]=b5 at*
 generalize spB (-300) 300 c.wl c.wh=b6 at*
 cases b1
 . refine CB func208 yo fun E hE=>?_
   simp [p208]
   repeat ((first | (refine CLt c1 ?_ ?_;focus (simp;done)) | (refine CLt c2 ?_ ?_;focus (simp;done)) | (refine CLt c3 ?_ ?_;focus (simp;done)) | (refine CLt c4 ?_ ?_;focus (simp;done)) | (refine CLt c5 ?_ ?_;focus (simp;done)) | (refine CLt c6 ?_ ?_;focus (simp;done)));simp)
   apply RZ;simp [results208]
 cases b2
 . refine CB func208 yo fun E hE=>?_
   simp [p208]
   repeat ((first | (refine CLt c1 ?_ ?_;focus (simp;done)) | (refine CLt c2 ?_ ?_;focus (simp;done)) | (refine CLt c3 ?_ ?_;focus (simp;done)) | (refine CLt c4 ?_ ?_;focus (simp;done)) | (refine CLt c5 ?_ ?_;focus (simp;done)) | (refine CLt c6 ?_ ?_;focus (simp;done)));simp)
   apply RZ;simp [results208]
 cases b3
 . refine CB func208 yo fun E hE=>?_
   simp [p208]
   repeat ((first | (refine CLt c1 ?_ ?_;focus (simp;done)) | (refine CLt c2 ?_ ?_;focus (simp;done)) | (refine CLt c3 ?_ ?_;focus (simp;done)) | (refine CLt c4 ?_ ?_;focus (simp;done)) | (refine CLt c5 ?_ ?_;focus (simp;done)) | (refine CLt c6 ?_ ?_;focus (simp;done)));simp)
   apply RZ;simp [results208]
 cases b6
 . refine CB func208 yo fun E hE=>?_
   simp [p208]
   repeat ((first | (refine CLt c1 ?_ ?_;focus (simp;done)) | (refine CLt c2 ?_ ?_;focus (simp;done)) | (refine CLt c3 ?_ ?_;focus (simp;done)) | (refine CLt c4 ?_ ?_;focus (simp;done)) | (refine CLt c5 ?_ ?_;focus (simp;done)) | (refine CLt c6 ?_ ?_;focus (simp;done)));simp)
   apply RZ;simp [results208]
 cases b4
 . refine CB func208 yo fun E hE=>?_
   simp [p208]
   repeat ((first | (refine CLt c1 ?_ ?_;focus (simp;done)) | (refine CLt c2 ?_ ?_;focus (simp;done)) | (refine CLt c3 ?_ ?_;focus (simp;done)) | (refine CLt c4 ?_ ?_;focus (simp;done)) | (refine CLt c5 ?_ ?_;focus (simp;done)) | (refine CLt c6 ?_ ?_;focus (simp;done)));simp)
   apply RZ;simp [results208]
 . refine CB func208 yo fun E hE=>?_
   simp [p208]
   repeat ((first | (refine CLt c1 ?_ ?_;focus (simp;done)) | (refine CLt c2 ?_ ?_;focus (simp;done)) | (refine CLt c3 ?_ ?_;focus (simp;done)) | (refine CLt c4 ?_ ?_;focus (simp;done)) | (refine CLt c5 ?_ ?_;focus (simp;done)) | (refine CLt c6 ?_ ?_;focus (simp;done)));simp)
   apply RZ;simp [results208]
def xW (c:Cel) (a:Atm):Int:=if Je c then (if L3 a then 0 else 30) else 31
theorem jS (c:Cel) (a:Atm):Ct prog 123 [Ky c,Ox a] (vi (xW c a)) []:=by
 have c1:=se c;have c2:=Xd a;unfold xW
 cases h:Je c<;>(
   rw [h] at c1;refine CB func123 c123 fun E hE=>?_
   simp [p123]
   repeat ((first | (refine CLt c1 ?_ ?_;focus (simp;done)) | (refine CLt c2 ?_ ?_;focus (simp;done)));simp)
   apply RZ;simp [results123])
theorem wK {c:Cel} {a:Atm} (hc:B5 c) (ha:Fx a):xW c a=0:=by
 unfold xW;rw [Dm.2 hc,VN.2 ha];rfl
theorem AG3 (a b c d:Int) (h1:IntKind.wrap .i64 (a+c)=a+c) (h2:IntKind.wrap .i64 (b+d)=b+d):Ct prog 220 [vsp a b,vsp c d] (vsp (a+c) (b+d)) []:=by
 refine CB func220 c220 fun E hE=>?_
 simp [p220,AA,h1,h2];apply RZ;simp [results220]
theorem iu (c:Cel) (hc:B5 c):Ct prog 125 [Ky c] (vi (am c)) []:=by
 have h1:=ig hc;have w:IntKind.wrap .i64 (c.he+c.ai)=c.he+c.ai:=AD (by unfold am at h1;omega) (by unfold am at h1;omega);refine CB func125 c125 fun E hE=>?_
 simp [p125,w];apply RZ;simp [results125,am]
theorem pn (a b:Int) (ha: -3000000000000000000<=a/\a<=3000000000000000000) (hb:0<b/\b<=100000):Ct prog 124 [vi a,vi b] (vi (fl a b)) []:=by
 have hz:¬ b=0:=by omega
 have hq:=AXm (b:=b) (a:=a) (by omega);have e:=ABy (a:=a) hb.1;have em:=Int.tmod_add_mul_tdiv a b;have mc:b*a.tdiv b=a.tdiv b*b:=Int.mul_comm _ _;have mlt:=Int.tmod_lt_of_pos a hb.1;have mgt:=Int.lt_tmod_of_pos a hb.1;have w1:IntKind.wrap .i64 (a.tdiv b)=a.tdiv b:=AD (by omega) (by omega);have w2:IntKind.wrap .i64 (a.tdiv b-1)=a.tdiv b-1:=AD (by omega) (by omega);have w3:IntKind.wrap .i64 (a.tdiv b*b)=a.tdiv b*b:=AD (by omega) (by omega);by_cases h:a<a.tdiv b*b
 . have:a<0/\a.tmod b≠0:=by
     refine ⟨Int.not_le.1 fun h0=>?_,by omega⟩;have:=Int.tmod_nonneg b h0;omega
   rw [if_pos this] at e;refine CB func124 AVT fun E hE=>?_
   simp [p124,hz,w1,w2,w3,h];apply RZ;simp [results124,e]
 . have:¬ (a<0/\a.tmod b≠0):=fun ⟨h0,h1⟩=>by
     have:a.tmod b<=0:=by
       have:=Int.tmod_nonneg b (a:= -a) (by omega);rw [Int.neg_tmod] at this;omega
     omega
   rw [if_neg this] at e;refine CB func124 AVT fun E hE=>?_
   simp [p124,hz,w1,w3,h];apply RZ;simp [results124,e]
theorem qr (a b:Int) (ha: -3000000000000000000<=a/\a<=3000000000000000000) (hb:0<b/\b<=100000):Ct prog 126 [vi a,vi b] (vi (ce a b)) []:=by
 have w1:IntKind.wrap .i64 (-a)= -a:=AD (by omega) (by omega);have hf:=AaT (a:= -a) (b:=b) (by omega) hb.1;have w2:IntKind.wrap .i64 (-fl (-a) b)= -fl (-a) b:=AD (by omega) (by omega);refine CB func126 c126 fun E hE=>?_
 simp [p126,w1];refine CLa (pn (-a) b (by omega) hb) ?_;simp [w2];apply RZ;simp [results126,ce,fl]
theorem xw (c:Cel) (a:Atm) (hc:B5 c) (ha:Fx a):Ct prog 134 [Ky c,Ox a] (vu8 (Lh c a)) []:=by
 have b:=mO hc ha;have h1:=ig hc;have h2:=hc.w;have h3:=ha.t;have w3:IntKind.wrap .i64 (c.rm*a.pl)=c.rm*a.pl:=AD (by omega) (by omega);have w4:IntKind.wrap .i64 (c.rm*a.ph)=c.rm*a.ph:=AD (by omega) (by omega);have w5:IntKind.wrap .i64 (am c*(a.th+c.wh))=am c*(a.th+c.wh):=AD (by omega) (by omega);have w6:IntKind.wrap .i64 (am c*(a.tl+c.wl))=am c*(a.tl+c.wl):=AD (by omega) (by omega);have d1:=AG3 a.tl a.th c.wl c.wh (AD (by omega) (by omega)) (AD (by omega) (by omega));have d2:=iu c hc;by_cases h5:am c*(a.th+c.wh)<=c.rm*a.pl
 . have e:Lh c a=1:=by unfold Lh;rw [if_pos h5]
   rw [e];refine CB func134 ym fun E hE=>?_
   simp [p134];refine CLa d1 ?_;simp [AA,inC,Nat.testBit];refine CLa d2 ?_;simp [inC,Nat.testBit,w3,w5,h5];apply RZ;simp [results134]
 . by_cases h6:c.rm*a.ph<am c*(a.tl+c.wl)
   . have e:Lh c a=3:=by unfold Lh;rw [if_neg h5,if_pos h6]
     rw [e];refine CB func134 ym fun E hE=>?_
     simp [p134];refine CLa d1 ?_;simp [AA,inC,Nat.testBit];refine CLa d2 ?_;simp [inC,Nat.testBit,w3,w4,w5,h5];refine CLa d2 ?_;simp [inC,Nat.testBit,w4,w6,h6];apply RZ;simp [results134]
   . have e:Lh c a=2:=by unfold Lh;rw [if_neg h5,if_neg h6]
     rw [e];refine CB func134 ym fun E hE=>?_
     simp [p134];refine CLa d1 ?_;simp [AA,inC,Nat.testBit];refine CLa d2 ?_;simp [inC,Nat.testBit,w3,w4,w5,h5];refine CLa d2 ?_;simp [inC,Nat.testBit,w4,w6,h6];apply RZ;simp [results134]
theorem fn64 (c:Cel) (a:Atm) (hc:B5 c) (ha:Fx a):Ct prog 64 [Ky c,Ox a] (.tup [vu8 (Lh c a),vi 0]) []:=by
 have c1:=jS c a;rw [wK hc ha] at c1;have c2:=xw c a hc ha;refine CB func64 c64 fun E hE=>?_
 simp [p64];refine CLa c1 ?_;simp;refine CLa c2 ?_;simp;apply RZ;simp [results64]
theorem fn56 (c:Cel) (a:Atm) (hc:B5 c) (ha:Fx a):Ct prog 56 [Ky c,Ox a] (.tup [vsp (Bx c a).1 (Bx c a).2,vi 0]) []:=by
 have c1:=jS c a;rw [wK hc ha] at c1;have t:=ha.t;have wb:=hc.w;have he:=hc.he;have k1:=KP hc (w:=c.wl) (by omega);have k2:=KP hc (w:=c.wh) (by omega);have d2:=iu c hc;have w1:IntKind.wrap .i64 (29*am c)=29*am c:=AD (by omega) (by omega);have w2:IntKind.wrap .i64 (29*am c*c.wl)=29*am c*c.wl:=AD (by omega) (by omega);have w3:IntKind.wrap .i64 (29*am c*c.wh)=29*am c*c.wh:=AD (by omega) (by omega);have d3:=pn (29*am c*c.wl) a.tl (by omega) (by omega);have d4:=pn (29*am c*c.wl) a.th (by omega) (by omega);have d5:=qr (29*am c*c.wh) a.tl (by omega) (by omega);have d6:=qr (29*am c*c.wh) a.th (by omega) (by omega);have lb:=TE hc ha;have e:Bx c a=(25*c.he+min (fl (29*am c*c.wl) a.tl) (fl (29*am c*c.wl) a.th),25*c.he+max (ce (29*am c*c.wh) a.tl) (ce (29*am c*c.wh) a.th)):=by unfold Bx;rw [Int.add_comm,Int.add_comm (max _ _)]
 rw [e] at lb;rw [e];have w4:IntKind.wrap .i64 (25*c.he)=25*c.he:=AD (by omega) (by omega);have w5:IntKind.wrap .i64 (25*c.he+min (fl (29*am c*c.wl) a.tl) (fl (29*am c*c.wl) a.th))=25*c.he+min (fl (29*am c*c.wl) a.tl) (fl (29*am c*c.wl) a.th):=AD (by omega) (by omega);have w6:IntKind.wrap .i64 (25*c.he+max (ce (29*am c*c.wh) a.tl) (ce (29*am c*c.wh) a.th))=25*c.he+max (ce (29*am c*c.wh) a.tl) (ce (29*am c*c.wh) a.th):=AD (by omega) (by omega);refine CB func56 c56 fun E hE=>?_
 simp [p56];refine CLa c1 ?_;simp [inC,Nat.testBit];refine CLa d2 ?_;simp [inC,Nat.testBit,w1,w2];refine CLa d3 ?_;simp [inC,Nat.testBit];refine CLa d2 ?_;simp [inC,Nat.testBit,w1,w2];refine CLa d4 ?_;simp [inC,Nat.testBit];refine CLa d2 ?_;simp [inC,Nat.testBit,w1,w3];refine CLa d5 ?_;simp [inC,Nat.testBit];refine CLa d2 ?_;simp [inC,Nat.testBit,w1,w3];refine CLa d6 ?_;simp [AA,w4,w5,w6];apply RZ;simp [results56]
end Go.Proofs.Tryz
